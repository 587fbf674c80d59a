/- What an argument of the type []impostlaw18.Ask reads as. An argument of the type impostlaw18.Ask itself. Arguments of the types api.Hard, []api.Hard. -/
import Derived.Test.YtgpgcnmnfnnkjaaGreatDoorGWalOpens30
import Derived.Test.YtgpgcnmnfnnkjaaGreatDoorGWalOpens2
import Derived.Lib.SmallJoins
set_option linter.unusedVariables false
set_option linter.unusedSimpArgs false
section
namespace Go.Proofs.YtgpgcnmnfnnkjaaGreatDoor
open Go Go.RowKit Go.ChangeShapes Go.WideShapes Go.ChangeAt Go.Deep Go.Joins
theorem list3 {cs : List Value} (h : cs.length = 3) : ∃ a0 a1 a2, cs = [a0, a1, a2] := by
 match cs, h with
 | [a0, a1, a2], _ => exact ⟨a0, a1, a2, rfl⟩
theorem list7 {cs : List Value} (h : cs.length = 7) : ∃ a0 a1 a2 a3 a4 a5 a6, cs = [a0, a1, a2, a3, a4, a5, a6] := by
 match cs, h with
 | [a0, a1, a2, a3, a4, a5, a6], _ => exact ⟨a0, a1, a2, a3, a4, a5, a6, rfl⟩
theorem dlen_weight {H : Type} {P : Program} {t e : TypeId} {d : DataW H} {n : Nat} (hu : P.underlying t = some (.slice e)) (hd : DLen d n) : ∃ m, n * P.bytesOf e ≤ m ∧ (n = 0 ∨ m ∈ d.weights P t) := by
 rcases hd with ⟨rfl, rfl⟩ | ⟨es, sp, rfl, rfl⟩
 · exact ⟨0, by simp, .inl rfl⟩
 · refine ⟨(es.length + sp.length) * P.bytesOf e, Nat.mul_le_mul_right _ (by omega), .inr ?_⟩
   simp only [DataW.weights, hu, List.mem_cons, true_or]
theorem elem_ety {H : Type} {enc : TypeId × Value → H} {W : World} (fuel : Nat) (cs : List Value) (y : DataW H × List MemPlace) (h : DataW.trod enc Tryz.prog W 0 (fun _ => true) true fuel 73 cs = some y) :
 ∃ x : Ety, cs = etyE.enc x ∧ x.data.size ∈ y.1.weights Tryz.prog 73 := by
 have hu := Tryz.underlying73
 obtain ⟨xs, n, rfl, rfl, hlen, hxl, hf⟩ := DataW.trod_struct hu h
 obtain ⟨a0, a1, a2, rfl⟩ := list3 (hlen.trans (by kernel_rfl))
 have k0 : Tryz.prog.cellsOf 9 = 1 := by kernel_rfl
 have k1 : Tryz.prog.cellsOf 3 = 1 := by kernel_rfl
 have h0 : DataW.trod enc Tryz.prog W 0 (fun _ => true) true n 3 (([a0, a1, a2].drop 0).take (Tryz.prog.cellsOf 3)) = xs[0]? := hf 0 _ rfl
 have h1 : DataW.trod enc Tryz.prog W 0 (fun _ => true) true n 3 (([a0, a1, a2].drop 1).take (Tryz.prog.cellsOf 3)) = xs[1]? := hf 1 _ rfl
 have h2 : DataW.trod enc Tryz.prog W 0 (fun _ => true) true n 9 (([a0, a1, a2].drop 2).take (Tryz.prog.cellsOf 9)) = xs[2]? := hf 2 _ rfl
 rw [k1] at h0 h1
 rw [k0] at h2
 simp only [List.drop_zero, List.take_succ_cons, List.take_zero, List.drop_succ_cons] at h0 h1 h2
 have hx0 : xs[0]? = some (xs[0]'(by rw [hxl]; decide)) := List.getElem?_eq_getElem _
 have hx1 : xs[1]? = some (xs[1]'(by rw [hxl]; decide)) := List.getElem?_eq_getElem _
 have hx2 : xs[2]? = some (xs[2]'(by rw [hxl]; decide)) := List.getElem?_eq_getElem _
 obtain ⟨z0, e0, _, _⟩ := DataW.trod_int Tryz.underlying3 (h0.trans hx0)
 obtain ⟨z1, e1, _, _⟩ := DataW.trod_int Tryz.underlying3 (h1.trans hx1)
 obtain ⟨z2, e2, w2, _⟩ := DataW.trod_string Tryz.underlying9 (h2.trans hx2)
 simp only [List.cons.injEq, and_true] at e0 e1 e2
 subst e0; subst e1; subst e2
 have m2 : (xs.map (·.1))[2]? = some (DataW.lit (.string z2.data.toList)) := by rw [List.getElem?_map, hx2, Option.map_some, w2]
 exact ⟨⟨z0, z1, z2⟩, rfl, weigh_field hu (j := 2) rfl m2 _ weigh_string⟩
structure HrdLies {H : Type} (W : World) (h : Hrd) (p : Option Addr) (c : Nat) (d : DataW H) : Prop where
 log : Rd etyE W (.slice p h.log.length c) h.log
 snap : h.snap.size ∈ d.weights Tryz.prog 24
 few : ∃ m, h.log.length * 32 ≤ m ∧ (h.log.length = 0 ∨ m ∈ d.weights Tryz.prog 24)
 data : ∀ x ∈ h.log, x.data.size ∈ d.weights Tryz.prog 24
theorem elem_hrd {H : Type} {enc : TypeId × Value → H} {W : World} (fuel : Nat) (cs : List Value) (y : DataW H × List MemPlace) (h : DataW.trod enc Tryz.prog W 0 (fun _ => true) true fuel 24 cs = some y) :
 ∃ (x : Hrd) (p : Option Addr) (c : Nat), cs = [.int .i64 x.term, .int .i64 x.vote, .int .i64 x.base, .int .i64 x.bterm, .int .i64 x.members, .string x.snap, .slice p x.log.length c] ∧ HrdLies W x p c y.1 := by
 have hu := Tryz.underlying24
 obtain ⟨xs, n, rfl, rfl, hlen, hxl, hf⟩ := DataW.trod_struct hu h
 obtain ⟨a0, a1, a2, a3, a4, a5, a6, rfl⟩ := list7 (hlen.trans (by kernel_rfl))
 have k0 : Tryz.prog.cellsOf 9 = 1 := by kernel_rfl
 have k1 : Tryz.prog.cellsOf 3 = 1 := by kernel_rfl
 have k2 : Tryz.prog.cellsOf 22 = 1 := by kernel_rfl
 have h0 : DataW.trod enc Tryz.prog W 0 (fun _ => true) true n 3 (([a0, a1, a2, a3, a4, a5, a6].drop 0).take (Tryz.prog.cellsOf 3)) = xs[0]? := hf 0 _ rfl
 have h1 : DataW.trod enc Tryz.prog W 0 (fun _ => true) true n 3 (([a0, a1, a2, a3, a4, a5, a6].drop 1).take (Tryz.prog.cellsOf 3)) = xs[1]? := hf 1 _ rfl
 have h2 : DataW.trod enc Tryz.prog W 0 (fun _ => true) true n 3 (([a0, a1, a2, a3, a4, a5, a6].drop 2).take (Tryz.prog.cellsOf 3)) = xs[2]? := hf 2 _ rfl
 have h3 : DataW.trod enc Tryz.prog W 0 (fun _ => true) true n 3 (([a0, a1, a2, a3, a4, a5, a6].drop 3).take (Tryz.prog.cellsOf 3)) = xs[3]? := hf 3 _ rfl
 have h4 : DataW.trod enc Tryz.prog W 0 (fun _ => true) true n 3 (([a0, a1, a2, a3, a4, a5, a6].drop 4).take (Tryz.prog.cellsOf 3)) = xs[4]? := hf 4 _ rfl
 have h5 : DataW.trod enc Tryz.prog W 0 (fun _ => true) true n 9 (([a0, a1, a2, a3, a4, a5, a6].drop 5).take (Tryz.prog.cellsOf 9)) = xs[5]? := hf 5 _ rfl
 have h6 : DataW.trod enc Tryz.prog W 0 (fun _ => true) true n 22 (([a0, a1, a2, a3, a4, a5, a6].drop 6).take (Tryz.prog.cellsOf 22)) = xs[6]? := hf 6 _ rfl
 rw [k1] at h0 h1 h2 h3 h4
 rw [k0] at h5
 rw [k2] at h6
 simp only [List.drop_zero, List.take_succ_cons, List.take_zero, List.drop_succ_cons] at h0 h1 h2 h3 h4 h5 h6
 have hx : ∀ j (hj : j < 7), xs[j]? = some (xs[j]'(by rw [hxl]; exact hj)) := fun j hj => List.getElem?_eq_getElem _
 obtain ⟨z0, e0, _, _⟩ := DataW.trod_int Tryz.underlying3 (h0.trans (hx 0 (by decide)))
 obtain ⟨z1, e1, _, _⟩ := DataW.trod_int Tryz.underlying3 (h1.trans (hx 1 (by decide)))
 obtain ⟨z2, e2, _, _⟩ := DataW.trod_int Tryz.underlying3 (h2.trans (hx 2 (by decide)))
 obtain ⟨z3, e3, _, _⟩ := DataW.trod_int Tryz.underlying3 (h3.trans (hx 3 (by decide)))
 obtain ⟨z4, e4, _, _⟩ := DataW.trod_int Tryz.underlying3 (h4.trans (hx 4 (by decide)))
 obtain ⟨z5, e5, w5, _⟩ := DataW.trod_string Tryz.underlying9 (h5.trans (hx 5 (by decide)))
 obtain ⟨v6, l6, e6, r6, dl6, g6⟩ := open_rd_core etyE Tryz.underlying22 (by kernel_rfl) (fun (x : Ety) (dx : DataW H) => x.data.size ∈ dx.weights Tryz.prog 73) elem_ety (h6.trans (hx 6 (by decide)))
 simp only [List.cons.injEq, and_true] at e0 e1 e2 e3 e4 e5 e6
 subst e0; subst e1; subst e2; subst e3; subst e4; subst e5; subst e6
 obtain ⟨p6, c6, rfl⟩ := r6.shape
 have m5 : (xs.map (·.1))[5]? = some (DataW.lit (.string z5.data.toList)) := by rw [List.getElem?_map, hx 5 (by decide), Option.map_some, w5]
 have m6 : (xs.map (·.1))[6]? = some (xs[6]'(by rw [hxl]; decide)).1 := by rw [List.getElem?_map, hx 6 (by decide), Option.map_some]
 refine ⟨⟨z0, z1, z2, z3, z4, z5, l6⟩, p6, c6, rfl, r6, weigh_field hu (j := 5) rfl m5 _ weigh_string, ?_, fun x hx' => ?_⟩
 · obtain ⟨m, hm1, hm2⟩ := dlen_weight Tryz.underlying22 dl6
   have hb : Tryz.prog.bytesOf 73 = 32 := by kernel_rfl
   rw [hb] at hm1
   exact ⟨m, hm1, hm2.imp id fun hm => weigh_field hu (j := 6) rfl m6 _ hm⟩
 · obtain ⟨dx, gx, hin⟩ := g6 x hx'
   exact weigh_field hu (j := 6) rfl m6 _ (hin _ gx)
end Go.Proofs.YtgpgcnmnfnnkjaaGreatDoor
end

section
namespace Go.Proofs.YtgpgcnmnfnnkjaaGreatDoor
open Go Go.RowKit Go.ChangeShapes Go.WideShapes Go.ChangeAt Go.Deep Go.Joins
theorem open_valW {α : Type} (E : Enc α) {H : Type} {enc : TypeId × Value → H} {P : Program} {W : World} {base : Nat} {t : TypeId} {fs : Array Field} {v : Value} {d : DataW H} {p : List MemPlace} (hs : P.underlying t = some (.struct fs)) (G : α → DataW H → Prop)
 (elem : ∀ fuel cs y, DataW.trod enc P W 0 (fun _ => true) true fuel t cs = some y → ∃ x, cs = E.enc x ∧ G x y.1)
 (hok : Value.okWide P W .any base t v) (h : DataW.Trod enc P W 0 (fun _ => true) true t v d p) : ∃ x : α, v = .agg (E.enc x).toArray ∧ G x d := by
 obtain ⟨cs, rfl, hsz⟩ := okWide_struct hs hok
 obtain ⟨fuel, hf⟩ := h
 obtain ⟨x, hx, hg⟩ := elem fuel _ _ hf
 refine ⟨x, ?_, hg⟩
 have : cs.toList = E.enc x := hx
 rw [← this]
end Go.Proofs.YtgpgcnmnfnnkjaaGreatDoor
end

section
namespace Go.Proofs.YtgpgcnmnfnnkjaaGreatDoor
open Go Go.RowKit Go.ChangeShapes Go.WideShapes Go.ChangeAt Go.Deep Go.Joins
structure HdL where
 h : Hrd
 p : Option Addr
 c : Nat
def hdlE : Enc HdL := ⟨7, fun x => [.int .i64 x.h.term, .int .i64 x.h.vote, .int .i64 x.h.base, .int .i64 x.h.bterm, .int .i64 x.h.members, .string x.h.snap, .slice x.p x.h.log.length x.c], fun _ => rfl, fun _ v hv => by
 simp only [List.mem_cons, List.not_mem_nil, or_false] at hv
 rcases hv with rfl | rfl | rfl | rfl | rfl | rfl | rfl <;> rfl, by decide⟩
structure HdLOk (w : World) (x : HdL) : Prop where
 log : Rd etyE w (.slice x.p x.h.log.length x.c) x.h.log
 few : x.h.log.length * 32 ≤ 140737488355328
 snap : x.h.snap.size ≤ 140737488355328
 data : ∀ y ∈ x.h.log, y.data.size ≤ 140737488355328
theorem HdLOk.ext {w w' : World} {x : HdL} (h : HdLOk w x) (hb : Below w.heap.size w w') : HdLOk w' x := ⟨h.log.ext hb, h.few, h.snap, h.data⟩
def HdG {H : Type} (W : World) (x : HdL) (d : DataW H) : Prop := HrdLies W x.h x.p x.c d
theorem elem_hdl {H : Type} {enc : TypeId × Value → H} {W : World} (fuel : Nat) (cs : List Value) (y : DataW H × List MemPlace) (h : DataW.trod enc Tryz.prog W 0 (fun _ => true) true fuel 24 cs = some y) :
 ∃ x : HdL, cs = hdlE.enc x ∧ HdG W x y.1 := by
 obtain ⟨x, p, c, e, hl⟩ := elem_hrd fuel cs y h
 exact ⟨⟨x, p, c⟩, e, hl⟩
theorem hdl_ok {H : Type} {W : World} {x : HdL} {dx : DataW H} (g : HdG W x dx) (hle : ∀ n, n ∈ dx.weights Tryz.prog 24 → n ≤ 140737488351232) : HdLOk W x := by
 obtain ⟨g1, g5, ⟨m, hm1, hm2⟩, g6⟩ := g
 refine ⟨g1, ?_, by have := hle _ g5; omega, fun e he => by have := hle _ (g6 e he); omega⟩
 rcases hm2 with hm2 | hm2
 · rw [hm2]; omega
 · have := hle _ hm2; omega
set_option maxRecDepth 8000 in
theorem open_hrds {H : Type} {enc : TypeId × Value → H} {W : World} {base : Nat} {v : Value} {d : DataW H} {p : List MemPlace} {ts : List TypeId} {ds : List (DataW H)} (j : Nat)
 (ht : ts[j]? = some 25) (hd : ds[j]? = some d) (hok : Value.okWide Tryz.prog W .any base 25 v) (h : DataW.Trod enc Tryz.prog W 0 (fun _ => true) true 25 v d p)
 (hsz : (DataW.weightsEach Tryz.prog ts ds).all (· ≤ reachBytes) = true) : ∃ l : List HdL, Rd hdlE W v l ∧ ∀ x ∈ l, HdLOk W x := by
 obtain ⟨l, h1, _, h3⟩ := open_rd hdlE Tryz.underlying25 (by kernel_rfl) (fun (x : HdL) (dx : DataW H) => HdG W x dx) elem_hdl hok h
 refine ⟨l, h1, fun x hx => ?_⟩
 obtain ⟨dx, g, hin⟩ := h3 x hx
 exact hdl_ok g fun n hn => reach_of hsz ht hd (hin _ hn)
set_option maxRecDepth 8000 in
theorem open_hrd {H : Type} {enc : TypeId × Value → H} {W : World} {base : Nat} {v : Value} {d : DataW H} {p : List MemPlace} {ts : List TypeId} {ds : List (DataW H)} (j : Nat)
 (ht : ts[j]? = some 24) (hd : ds[j]? = some d) (hok : Value.okWide Tryz.prog W .any base 24 v) (h : DataW.Trod enc Tryz.prog W 0 (fun _ => true) true 24 v d p)
 (hsz : (DataW.weightsEach Tryz.prog ts ds).all (· ≤ reachBytes) = true) : ∃ x : HdL, v = hrdA x.h (.slice x.p x.h.log.length x.c) ∧ HdLOk W x := by
 obtain ⟨x, h1, g⟩ := open_valW hdlE Tryz.underlying24 (fun (x : HdL) (dx : DataW H) => HdG W x dx) elem_hdl hok h
 exact ⟨x, h1, hdl_ok g fun n hn => reach_of hsz ht hd hn⟩
end Go.Proofs.YtgpgcnmnfnnkjaaGreatDoor
end
