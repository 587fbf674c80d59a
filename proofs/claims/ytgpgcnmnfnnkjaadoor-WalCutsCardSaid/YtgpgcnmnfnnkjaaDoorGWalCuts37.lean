/- WalCuts in plain words: a Save that is cut off, and Opens that are cut off. What an argument of the type []impostlaw18.Ask reads as. An argument of the type impostlaw18.Ask itself. -/
import Derived.Test.YtgpgcnmnfnnkjaaDoorGWalCuts36
import Derived.Test.YtgpgcnmnfnnkjaaDoorGWalCuts35
import Derived.Test.YtgpgcnmnfnnkjaaDoorGWalCuts16
import Derived.Lib.SmallJoins
set_option linter.unusedVariables false
set_option linter.unusedSimpArgs false
section
namespace Go.Proofs.YtgpgcnmnfnnkjaaDoor
open Go Go.RowKit Go.PlainAid
/- how much a disk holds -/
theorem step_tot {d : Dk} {f : List Fil → List Fil} {T : Nat} (h : totD d.fs ≤ T) (hf : totD (f d.fs) ≤ T) : totD (stepD d f).2.fs ≤ T := by
  rcases stepD_cases d f with ⟨_, e⟩ | ⟨_, e⟩ <;> rw [e] <;> assumption
theorem on_tot {d : Dk} {s : ByteArray} {f : List Fil → Nat → List Fil} {T : Nat} (h : totD d.fs ≤ T) (hf : ∀ j, j < d.fs.length → totD (f d.fs j) ≤ T) : totD (onD d s f).2.fs ≤ T := by
  rcases onD_cases d s f with ⟨_, e⟩ | ⟨_, j, hj, _, _, _, e⟩
  · rw [e]; exact h
  · rw [e]; exact hf j hj
theorem upd_tot {l : List Fil} {j : Nat} (hj : j < l.length) {f : Fil → Fil} (hf : (f l[j]).data.length ≤ l[j].data.length) : totD (updD l j f) ≤ totD l := by
  rw [updD_at hj]
  have := totD_set hj (f l[j])
  omega
theorem sync_tot (d : Dk) (s : ByteArray) : totD (syncD d s).2.fs ≤ totD d.fs := on_tot (Nat.le_refl _) fun j hj => upd_tot hj (Nat.le_refl _)
theorem remove_tot (d : Dk) (s : ByteArray) : totD (removeD d s).2.fs ≤ totD d.fs := on_tot (Nat.le_refl _) fun j _ => totD_del _ _
theorem cut_tot (d : Dk) (s : ByteArray) (n : Int) : totD (cutD d s n).2.fs ≤ totD d.fs := by
  unfold cutD
  split
  · exact Nat.le_refl _
  · exact on_tot (Nat.le_refl _) fun j hj => upd_tot hj (by rw [List.length_take]; omega)
theorem append_tot (d : Dk) (s : ByteArray) (p : List UInt8) : totD (appendD d s p).2.fs ≤ totD d.fs + p.length := by
  rcases append_cases d s p with ⟨_, e⟩ | ⟨_, e⟩
  · rw [e]; omega
  · rw [e, totD_addD]; exact Nat.le_refl _
theorem then_tot {r : Int × Dk} {f : Dk → Int × Dk} {T : Nat} (h : totD r.2.fs ≤ T) (hf : ∀ d, totD d.fs ≤ T → totD (f d).2.fs ≤ T) : totD (thenD r f).2.fs ≤ T := by
  unfold thenD; split
  · exact hf _ h
  · exact h
theorem removes_tot {T : Nat} : ∀ (l : List Nat) (n : Nat) (d : Dk), totD d.fs ≤ T → totD (removesD l n d).2.fs ≤ T
  | [], _, _, h => h
  | x :: r, n, d, h => by
    rw [removesD]; split
    · exact removes_tot r n d h
    · exact then_tot (Nat.le_trans (remove_tot _ _) h) fun d h => removes_tot r n d h
theorem clean_tot (d : Dk) : totD (cleanW d).2.fs ≤ totD d.fs := by
  unfold cleanW cleanD
  refine then_tot ?_ fun d h => then_tot (removes_tot _ _ _ h) fun d h => ?_
  · unfold cutS; split
    · exact cut_tot _ _ _
    · exact Nat.le_refl _
  · split
    · exact Nat.le_trans (sync_tot _ _) h
    · exact h
theorem write_tot (d : Dk) (n : Nat) (b : List UInt8) : totD (writeD d n b).2.fs ≤ totD d.fs + b.length := by
  unfold writeD
  exact then_tot (append_tot _ _ _) fun d h => Nat.le_trans (sync_tot _ _) h
theorem lay_tot (d : Dk) (n : Nat) (h : Hrd) : totD (layW d n h).2.2.fs ≤ totD d.fs + (layB h).length := by
  have hw := write_tot d (n + 1) (layB h)
  unfold layW
  dsimp only
  split
  · split
    · exact hw
    · exact Nat.le_trans (remove_tot _ _) hw
  · exact hw
theorem save_tot {d : Dk} {w : Wl} {h : Hrd} (hs : smallH h = true) : totD (saveW d w h).2.2.fs ≤ totD d.fs + 11500 := by
  have h1 := moreK_le (x := w.h) hs
  have h2 := layK_le hs
  have h3 := write_tot d w.n (moreB w.h h)
  have h4 := lay_tot d w.n h
  unfold saveW
  repeat' split
  all_goals first
    | (rw [keepW_dk]; first | omega | (dsimp only; omega))
    | (show totD d.fs ≤ _; omega)
theorem crash_le (d : Dk) (picks : List Int) (h : ∀ f ∈ d.fs, f.kept ≤ f.data.length) : totD (crashD d picks).fs ≤ totD d.fs := (crash_tot picks d.fs 0 h).1
/-- a disk on which y is kept, whatever else -/
structure Mid (m : Nat) (d : Dk) (y : Hrd) : Prop where
  kept : ∃ n K, n ≤ 40 ∧ KeptW m d n K y
  tot : totD d.fs ≤ 40000
theorem Mid.inv {m : Nat} {d : Dk} {y : Hrd} (h : Mid m d y) : PInv m d := by
  obtain ⟨n, K, _, k⟩ := h.kept
  exact k.inv
theorem Mid.crash {m : Nat} {d : Dk} {y : Hrd} (h : Mid m d y) (picks : List Int) : Mid m (crashD d picks) y := by
  obtain ⟨n, K, hn, k⟩ := h.kept
  exact ⟨⟨n, K, hn, k.crash picks⟩, Nat.le_trans (crash_le d picks k.inv.l.kept) h.tot⟩
theorem Mid.arm {m : Nat} {d : Dk} {y : Hrd} (h : Mid m d y) {c : Int} (hc : c ≤ 9223372036854775807) : Mid m (armD d c) y := by
  obtain ⟨n, K, hn, k⟩ := h.kept
  exact ⟨⟨n, K, hn, k.arm hc⟩, h.tot⟩
theorem Mid.clean {m : Nat} {d : Dk} {y : Hrd} (h : Mid m d y) : Mid m (cleanW d).2 y := by
  obtain ⟨n, K, hn, k⟩ := h.kept
  exact ⟨⟨n, K, hn, (clean_law k).1⟩, Nat.le_trans (clean_tot d) h.tot⟩
/-- one segment of y, the power on -/
structure Fine (m : Nat) (d : Dk) (n : Nat) (y : Hrd) : Prop where
  good : ∃ K, GoodW m d n K y
  few : n ≤ 41
  on : OnD d
  tot : totD d.fs ≤ 60000
theorem Fine.inv {m n : Nat} {d : Dk} {y : Hrd} (h : Fine m d n y) : PInv m d := by
  obtain ⟨K, g⟩ := h.good
  exact g.k.inv
theorem Mid.opened {m : Nat} {d : Dk} {y : Hrd} (h : Mid m d y) (hon : OnD d) : ∃ n, openW d = some ⟨n, y, false⟩ ∧ Fine m (cleanW d).2 n y ∧ totD (cleanW d).2.fs ≤ 40000 ∧ n ≤ 40 := by
  obtain ⟨n, K, hn, k⟩ := h.kept
  obtain ⟨_, c2, c3, _⟩ := clean_law k
  obtain ⟨c4, c5⟩ := c3 hon
  exact ⟨n, open_law k c4, ⟨⟨K, c2 c4⟩, by omega, c5, by have := clean_tot d; have := h.tot; omega⟩, Nat.le_trans (clean_tot d) h.tot, hn⟩
theorem Fine.save {m n : Nat} {d : Dk} {y g : Hrd} (h : Fine m d n y) (hm : totD d.fs ≤ 40000) (hn : n ≤ 40) (o : HardOk g) : ∃ n' d', saveW d ⟨n, y, false⟩ g = (0, ⟨n', g, false⟩, d') ∧ Fine (m + 1) d' n' g := by
  obtain ⟨K, gd⟩ := h.good
  obtain ⟨r, so, e1, e2, e3⟩ := save_law gd o.right (show n + 1 ≤ 99999999999999 by omega)
  have h1 := moreK_le (x := y) o.small
  have h2 := layK_le o.small
  obtain ⟨r0, ron⟩ := so.on h.on (by omega) (by omega)
  obtain ⟨K', g', _⟩ := so.good r0
  rw [o.bare] at g' e3
  have ht := save_tot (d := d) (w := ⟨n, y, false⟩) o.small
  rw [e2] at ht
  refine ⟨r.2.1, r.2.2, ?_, ⟨⟨K', g'⟩, by have := so.num; omega, ron, by omega⟩⟩
  rw [← e2, ← e3 r0]
  exact Prod.ext (e1.trans r0) (Prod.ext rfl rfl)
theorem Fine.again {m n : Nat} {d : Dk} {y : Hrd} (h : Fine m d n y) (picks : List Int) : openW (crashD d picks) = some ⟨n, y, false⟩ := by
  obtain ⟨K, g⟩ := h.good
  have k := (g.crash picks).k
  exact open_law k ((clean_law k).2.2.1 (OnD.crash d picks)).1
/-- a Save that is cut off -/
theorem cut_save {k n : Nat} {h g : Hrd} {d : Dk} (I : KeepI k h d n) (hk : k ≤ 30) (o : HardOk g) {c : Int} (hc : c ≤ 9223372036854775807) :
    PInv (k + 1) (saveW (armD d c) ⟨n, h, false⟩ g).2.2 ∧ ∀ picks, ∃ y, Mid (k + 1) (crashD (saveW (armD d c) ⟨n, h, false⟩ g).2.2 picks) y ∧ Between y h g ∧ ((saveW (armD d c) ⟨n, h, false⟩ g).1 = 0 → y = g) := by
  obtain ⟨K, gd, hK⟩ := I.good
  have hf := I.few
  obtain ⟨r, so, e1, e2, e3⟩ := save_law (gd.arm hc) o.right (show n + 1 ≤ 99999999999999 by omega)
  have hp := (I.inv.arm0 hc).save ⟨n, h, false⟩ g
  have ht := save_tot (d := armD d c) (w := ⟨n, h, false⟩) o.small
  have h0 : totD (armD d c).fs ≤ 20000 := I.tot
  refine ⟨hp, fun picks => ?_⟩
  obtain ⟨n', K', y, h1, h2, h3, h4⟩ := so.torn picks
  rw [e2, e1]
  rw [e2] at ht hp
  refine ⟨y, ⟨⟨n', K', by omega, h2⟩, Nat.le_trans (crash_le _ picks hp.l.kept) (by omega)⟩, h3, fun e => by rw [h4 e, o.bare]⟩
theorem between_of {y h g : Hrd} (hh : h.snap = sNone) (o : HardOk g) (hb : Between y h g) : BetweenG y h g := by
  rcases hb with e | e | ⟨m, hm, e⟩
  · exact .inl e
  · refine .inr (.inr ⟨by rw [e], by rw [e], .inl ?_⟩)
    rw [e]
    show ({ h with term := g.term, vote := g.vote } : Hrd) = { h with term := g.term, vote := g.vote, snap := sNone }
    cases h; dsimp only at hh; subst hh; rfl
  · refine .inr (.inr ⟨by rw [e]; rfl, by rw [e]; rfl, .inr ?_⟩)
    have hl : y.log.length = m := by rw [e]; show (g.log.take m).length = m; rw [List.length_take]; omega
    refine ⟨by omega, by rw [e]; rfl, by rw [e]; rfl, by rw [e]; rfl, ?_⟩
    rw [hl, e]
end Go.Proofs.YtgpgcnmnfnnkjaaDoor
end

section
namespace Go.Proofs.YtgpgcnmnfnnkjaaDoor
open Go Go.RowKit Go.ChangeShapes Go.WideShapes Go.ChangeAt Go.Deep Go.Joins
def aslE : Enc AskL := ⟨10, fun x => [.int .i64 x.kind, .int .i64 x.n, .int .i64 x.h.term, .int .i64 x.h.vote, .int .i64 x.h.base, .int .i64 x.h.bterm, .int .i64 x.h.members, .string x.h.snap, .slice x.hp x.h.log.length x.hc, .slice x.pp x.picks.length x.pc], fun _ => rfl, fun _ v hv => by
  simp only [List.mem_cons, List.not_mem_nil, or_false] at hv
  rcases hv with rfl | rfl | rfl | rfl | rfl | rfl | rfl | rfl | rfl | rfl <;> rfl, by decide⟩
theorem list3 {cs : List Value} (h : cs.length = 3) : ∃ a0 a1 a2, cs = [a0, a1, a2] := by
  match cs, h with
  | [a0, a1, a2], _ => exact ⟨a0, a1, a2, rfl⟩
theorem list7 {cs : List Value} (h : cs.length = 7) : ∃ a0 a1 a2 a3 a4 a5 a6, cs = [a0, a1, a2, a3, a4, a5, a6] := by
  match cs, h with
  | [a0, a1, a2, a3, a4, a5, a6], _ => exact ⟨a0, a1, a2, a3, a4, a5, a6, rfl⟩
theorem list10 {cs : List Value} (h : cs.length = 10) : ∃ a0 a1 a2 a3 a4 a5 a6 a7 a8 a9, cs = [a0, a1, a2, a3, a4, a5, a6, a7, a8, a9] := by
  match cs, h with
  | [a0, a1, a2, a3, a4, a5, a6, a7, a8, a9], _ => exact ⟨a0, a1, a2, a3, a4, a5, a6, a7, a8, a9, rfl⟩
theorem open_intsL {H : Type} {enc : TypeId × Value → H} {P : Program} {W : World} {t e : TypeId} {v : Value} {fuel : Nat} {y : DataW H × List MemPlace}
    (hu : P.underlying t = some (.slice e)) (he : P.underlying e = some (.int .i64)) (hc : P.cellsOf e = 1)
    (h : DataW.trod enc P W 0 (fun _ => true) true fuel t [v] = some y) : ∃ l : List Int, Rd intsE W v l ∧ (∀ x ∈ l, -9223372036854775808 ≤ x ∧ x ≤ 9223372036854775807) := by
  have hsh : ∃ a len cap, v = .slice a len cap := by
    rcases open_slice hu h with ⟨hcs, _⟩ | ⟨a, len, cap, _, _, _, _, hcs, _⟩
    · exact ⟨none, 0, 0, by simpa using hcs⟩
    · exact ⟨some a, len, cap, by simpa using hcs⟩
  obtain ⟨a, len, cap, rfl⟩ := hsh
  have hf : DataW.trod enc P W 0 (fun _ => true) true fuel t (Value.slice a len cap).cells.toList = some y := by simpa [Value.cells] using h
  rcases open_ints hu he hc hf with ⟨hcs, hx⟩ | ⟨x, l, c, zs, hcs, _, hl, hm, hz, hx, hcell, hwz⟩
  · simp [Value.cells] at hcs
    obtain ⟨rfl, rfl, rfl⟩ := hcs
    exact ⟨[], Rd.nil W, by simp⟩
  · simp [Value.cells] at hcs
    obtain ⟨rfl, rfl, rfl⟩ := hcs
    simp at hz
    have hlen : (zs.take len).length = len := by rw [List.length_take]; omega
    refine ⟨zs.take len, ?_, fun y hy => ?_⟩
    · unfold Rd
      rw [hlen]
      refine ⟨by rw [intsE.all_length, hlen], intsE.all_oneCell _, some x, cap, rfl, hl, hm, fun h => (by cases h), fun a ha hn => ?_⟩
      cases ha
      have hs := spot_none (hcell 0 (by omega))
      refine ⟨hs, fun i u hu => ?_⟩
      have hi : i < len := by
        have := (List.getElem?_eq_some_iff.1 hu).1
        rw [intsE.all_length, hlen] at this; simpa [intsE] using this
      have e1 := intsE.all_get (zs.take len) i (by omega) 0 Nat.one_pos
      simp only [intsE, Nat.mul_one, Nat.add_zero] at e1
      have hu' : (Enc.all intsE (zs.take len))[i]? = some u := hu
      simp only [intsE] at hu'
      rw [e1] at hu'
      simp at hu'
      subst hu'
      have := hcell i (by omega)
      rw [addr_add x hs] at this
      rw [this]
      simp [List.getD, show i < zs.length from by omega]
    · have := hwz y (List.mem_of_mem_take hy)
      simp [Lit.wf, IntKind.min, IntKind.max, IntKind.bits, IntKind.signed] at this; omega
theorem dlen_weight {H : Type} {P : Program} {t e : TypeId} {d : DataW H} {n : Nat} (hu : P.underlying t = some (.slice e)) (hd : DLen d n) : ∃ m, n * P.bytesOf e ≤ m ∧ (n = 0 ∨ m ∈ d.weights P t) := by
  rcases hd with ⟨rfl, rfl⟩ | ⟨es, sp, rfl, rfl⟩
  · exact ⟨0, by simp, .inl rfl⟩
  · refine ⟨(es.length + sp.length) * P.bytesOf e, Nat.mul_le_mul_right _ (by omega), .inr ?_⟩
    simp only [DataW.weights, hu, List.mem_cons, true_or]
theorem elem_ety {H : Type} {enc : TypeId × Value → H} {W : World} (fuel : Nat) (cs : List Value) (y : DataW H × List MemPlace) (h : DataW.trod enc Tryd.prog W 0 (fun _ => true) true fuel 36 cs = some y) :
    ∃ x : Ety, cs = etyE.enc x ∧ x.data.size ∈ y.1.weights Tryd.prog 36 := by
  have hu := Tryd.underlying36
  obtain ⟨xs, n, rfl, rfl, hlen, hxl, hf⟩ := DataW.trod_struct hu h
  obtain ⟨a0, a1, a2, rfl⟩ := list3 (hlen.trans (by kernel_rfl))
  have k0 : Tryd.prog.cellsOf 9 = 1 := by kernel_rfl
  have k1 : Tryd.prog.cellsOf 3 = 1 := by kernel_rfl
  have h0 : DataW.trod enc Tryd.prog W 0 (fun _ => true) true n 3 (([a0, a1, a2].drop 0).take (Tryd.prog.cellsOf 3)) = xs[0]? := hf 0 _ rfl
  have h1 : DataW.trod enc Tryd.prog W 0 (fun _ => true) true n 3 (([a0, a1, a2].drop 1).take (Tryd.prog.cellsOf 3)) = xs[1]? := hf 1 _ rfl
  have h2 : DataW.trod enc Tryd.prog W 0 (fun _ => true) true n 9 (([a0, a1, a2].drop 2).take (Tryd.prog.cellsOf 9)) = xs[2]? := hf 2 _ rfl
  rw [k1] at h0 h1
  rw [k0] at h2
  simp only [List.drop_zero, List.take_succ_cons, List.take_zero, List.drop_succ_cons] at h0 h1 h2
  have hx0 : xs[0]? = some (xs[0]'(by rw [hxl]; decide)) := List.getElem?_eq_getElem _
  have hx1 : xs[1]? = some (xs[1]'(by rw [hxl]; decide)) := List.getElem?_eq_getElem _
  have hx2 : xs[2]? = some (xs[2]'(by rw [hxl]; decide)) := List.getElem?_eq_getElem _
  obtain ⟨z0, e0, _, _⟩ := DataW.trod_int Tryd.underlying3 (h0.trans hx0)
  obtain ⟨z1, e1, _, _⟩ := DataW.trod_int Tryd.underlying3 (h1.trans hx1)
  obtain ⟨z2, e2, w2, _⟩ := DataW.trod_string Tryd.underlying9 (h2.trans hx2)
  simp only [List.cons.injEq, and_true] at e0 e1 e2
  subst e0; subst e1; subst e2
  have m2 : (xs.map (·.1))[2]? = some (DataW.lit (.string z2.data.toList)) := by rw [List.getElem?_map, hx2, Option.map_some, w2]
  exact ⟨⟨z0, z1, z2⟩, rfl, weigh_field hu (j := 2) rfl m2 _ weigh_string⟩
/-- a Hard as it lies in an argument -/
structure HrdLies {H : Type} (W : World) (h : Hrd) (p : Option Addr) (c : Nat) (d : DataW H) : Prop where
  log : Rd etyE W (.slice p h.log.length c) h.log
  snap : h.snap.size ∈ d.weights Tryd.prog 30
  few : ∃ m, h.log.length * 32 ≤ m ∧ (h.log.length = 0 ∨ m ∈ d.weights Tryd.prog 30)
  data : ∀ x ∈ h.log, x.data.size ∈ d.weights Tryd.prog 30
theorem elem_hrd {H : Type} {enc : TypeId × Value → H} {W : World} (fuel : Nat) (cs : List Value) (y : DataW H × List MemPlace) (h : DataW.trod enc Tryd.prog W 0 (fun _ => true) true fuel 30 cs = some y) :
    ∃ (x : Hrd) (p : Option Addr) (c : Nat), cs = [.int .i64 x.term, .int .i64 x.vote, .int .i64 x.base, .int .i64 x.bterm, .int .i64 x.members, .string x.snap, .slice p x.log.length c] ∧ HrdLies W x p c y.1 := by
  have hu := Tryd.underlying30
  obtain ⟨xs, n, rfl, rfl, hlen, hxl, hf⟩ := DataW.trod_struct hu h
  obtain ⟨a0, a1, a2, a3, a4, a5, a6, rfl⟩ := list7 (hlen.trans (by kernel_rfl))
  have k0 : Tryd.prog.cellsOf 9 = 1 := by kernel_rfl
  have k1 : Tryd.prog.cellsOf 3 = 1 := by kernel_rfl
  have k2 : Tryd.prog.cellsOf 28 = 1 := by kernel_rfl
  have h0 : DataW.trod enc Tryd.prog W 0 (fun _ => true) true n 3 (([a0, a1, a2, a3, a4, a5, a6].drop 0).take (Tryd.prog.cellsOf 3)) = xs[0]? := hf 0 _ rfl
  have h1 : DataW.trod enc Tryd.prog W 0 (fun _ => true) true n 3 (([a0, a1, a2, a3, a4, a5, a6].drop 1).take (Tryd.prog.cellsOf 3)) = xs[1]? := hf 1 _ rfl
  have h2 : DataW.trod enc Tryd.prog W 0 (fun _ => true) true n 3 (([a0, a1, a2, a3, a4, a5, a6].drop 2).take (Tryd.prog.cellsOf 3)) = xs[2]? := hf 2 _ rfl
  have h3 : DataW.trod enc Tryd.prog W 0 (fun _ => true) true n 3 (([a0, a1, a2, a3, a4, a5, a6].drop 3).take (Tryd.prog.cellsOf 3)) = xs[3]? := hf 3 _ rfl
  have h4 : DataW.trod enc Tryd.prog W 0 (fun _ => true) true n 3 (([a0, a1, a2, a3, a4, a5, a6].drop 4).take (Tryd.prog.cellsOf 3)) = xs[4]? := hf 4 _ rfl
  have h5 : DataW.trod enc Tryd.prog W 0 (fun _ => true) true n 9 (([a0, a1, a2, a3, a4, a5, a6].drop 5).take (Tryd.prog.cellsOf 9)) = xs[5]? := hf 5 _ rfl
  have h6 : DataW.trod enc Tryd.prog W 0 (fun _ => true) true n 28 (([a0, a1, a2, a3, a4, a5, a6].drop 6).take (Tryd.prog.cellsOf 28)) = xs[6]? := hf 6 _ rfl
  rw [k1] at h0 h1 h2 h3 h4
  rw [k0] at h5
  rw [k2] at h6
  simp only [List.drop_zero, List.take_succ_cons, List.take_zero, List.drop_succ_cons] at h0 h1 h2 h3 h4 h5 h6
  have hx : ∀ j (hj : j < 7), xs[j]? = some (xs[j]'(by rw [hxl]; exact hj)) := fun j hj => List.getElem?_eq_getElem _
  obtain ⟨z0, e0, _, _⟩ := DataW.trod_int Tryd.underlying3 (h0.trans (hx 0 (by decide)))
  obtain ⟨z1, e1, _, _⟩ := DataW.trod_int Tryd.underlying3 (h1.trans (hx 1 (by decide)))
  obtain ⟨z2, e2, _, _⟩ := DataW.trod_int Tryd.underlying3 (h2.trans (hx 2 (by decide)))
  obtain ⟨z3, e3, _, _⟩ := DataW.trod_int Tryd.underlying3 (h3.trans (hx 3 (by decide)))
  obtain ⟨z4, e4, _, _⟩ := DataW.trod_int Tryd.underlying3 (h4.trans (hx 4 (by decide)))
  obtain ⟨z5, e5, w5, _⟩ := DataW.trod_string Tryd.underlying9 (h5.trans (hx 5 (by decide)))
  obtain ⟨v6, l6, e6, r6, dl6, g6⟩ := open_rd_core etyE Tryd.underlying28 (by kernel_rfl) (fun (x : Ety) (dx : DataW H) => x.data.size ∈ dx.weights Tryd.prog 36) elem_ety (h6.trans (hx 6 (by decide)))
  simp only [List.cons.injEq, and_true] at e0 e1 e2 e3 e4 e5 e6
  subst e0; subst e1; subst e2; subst e3; subst e4; subst e5; subst e6
  obtain ⟨p6, c6, rfl⟩ := r6.shape
  have m5 : (xs.map (·.1))[5]? = some (DataW.lit (.string z5.data.toList)) := by rw [List.getElem?_map, hx 5 (by decide), Option.map_some, w5]
  have m6 : (xs.map (·.1))[6]? = some (xs[6]'(by rw [hxl]; decide)).1 := by rw [List.getElem?_map, hx 6 (by decide), Option.map_some]
  refine ⟨⟨z0, z1, z2, z3, z4, z5, l6⟩, p6, c6, rfl, r6, weigh_field hu (j := 5) rfl m5 _ weigh_string, ?_, fun x hx' => ?_⟩
  · obtain ⟨m, hm1, hm2⟩ := dlen_weight Tryd.underlying28 dl6
    have hb : Tryd.prog.bytesOf 36 = 32 := by kernel_rfl
    rw [hb] at hm1
    exact ⟨m, hm1, hm2.imp id fun hm => weigh_field hu (j := 6) rfl m6 _ hm⟩
  · obtain ⟨dx, gx, hin⟩ := g6 x hx'
    exact weigh_field hu (j := 6) rfl m6 _ (hin _ gx)
theorem elem_asl {H : Type} {enc : TypeId × Value → H} {W : World} (fuel : Nat) (cs : List Value) (y : DataW H × List MemPlace) (h : DataW.trod enc Tryd.prog W 0 (fun _ => true) true fuel 43 cs = some y) :
    ∃ x : AskL, cs = aslE.enc x ∧ (Rd etyE W x.vh x.h.log ∧ Rd intsE W x.vp x.picks ∧ (∀ z ∈ x.picks, z ≤ 9223372036854775807) ∧ (-9223372036854775808 ≤ x.n ∧ x.n ≤ 9223372036854775807)) ∧ x.h.snap.size ∈ y.1.weights Tryd.prog 43 ∧ (∃ m, x.h.log.length * 32 ≤ m ∧ (x.h.log.length = 0 ∨ m ∈ y.1.weights Tryd.prog 43)) ∧ ∀ e ∈ x.h.log, e.data.size ∈ y.1.weights Tryd.prog 43 := by
  have hu := Tryd.underlying43
  obtain ⟨xs, n, rfl, rfl, hlen, hxl, hf⟩ := DataW.trod_struct hu h
  obtain ⟨a0, a1, a2, a3, a4, a5, a6, a7, a8, a9, rfl⟩ := list10 (hlen.trans (by kernel_rfl))
  have k1 : Tryd.prog.cellsOf 3 = 1 := by kernel_rfl
  have k2 : Tryd.prog.cellsOf 30 = 7 := by kernel_rfl
  have k3 : Tryd.prog.cellsOf 41 = 1 := by kernel_rfl
  have h0 : DataW.trod enc Tryd.prog W 0 (fun _ => true) true n 3 (([a0, a1, a2, a3, a4, a5, a6, a7, a8, a9].drop 0).take (Tryd.prog.cellsOf 3)) = xs[0]? := hf 0 _ rfl
  have h1 : DataW.trod enc Tryd.prog W 0 (fun _ => true) true n 3 (([a0, a1, a2, a3, a4, a5, a6, a7, a8, a9].drop 1).take (Tryd.prog.cellsOf 3)) = xs[1]? := hf 1 _ rfl
  have h2 : DataW.trod enc Tryd.prog W 0 (fun _ => true) true n 30 (([a0, a1, a2, a3, a4, a5, a6, a7, a8, a9].drop 2).take (Tryd.prog.cellsOf 30)) = xs[2]? := hf 2 _ rfl
  have h3 : DataW.trod enc Tryd.prog W 0 (fun _ => true) true n 41 (([a0, a1, a2, a3, a4, a5, a6, a7, a8, a9].drop 9).take (Tryd.prog.cellsOf 41)) = xs[3]? := hf 3 _ rfl
  rw [k1] at h0 h1
  rw [k2] at h2
  rw [k3] at h3
  simp only [List.drop_zero, List.take_succ_cons, List.take_zero, List.drop_succ_cons] at h0 h1 h2 h3
  have hx : ∀ j (hj : j < 4), xs[j]? = some (xs[j]'(by rw [hxl]; exact hj)) := fun j hj => List.getElem?_eq_getElem _
  obtain ⟨z0, e0, _, _⟩ := DataW.trod_int Tryd.underlying3 (h0.trans (hx 0 (by decide)))
  obtain ⟨z1, e1, _, l1⟩ := DataW.trod_int Tryd.underlying3 (h1.trans (hx 1 (by decide)))
  obtain ⟨g, p2, c2, e2, hl⟩ := elem_hrd _ _ _ (h2.trans (hx 2 (by decide)))
  obtain ⟨l3, b3, r3⟩ := open_intsL Tryd.underlying41 Tryd.underlying3 (by kernel_rfl) (h3.trans (hx 3 (by decide)))
  simp only [List.cons.injEq, and_true] at e0 e1 e2
  obtain ⟨rfl, rfl, rfl, rfl, rfl, rfl, rfl⟩ := e2
  subst e0; subst e1
  obtain ⟨p3, c3, rfl⟩ := b3.shape
  have m2 : (xs.map (·.1))[2]? = some (xs[2]'(by rw [hxl]; decide)).1 := by rw [List.getElem?_map, hx 2 (by decide), Option.map_some]
  refine ⟨⟨z0, z1, g, p2, c2, p3, c3, l3⟩, rfl, ⟨hl.log, b3, fun z hz => (r3 z hz).2, ?_⟩, weigh_field hu (j := 2) rfl m2 _ hl.snap, ?_, fun e he => weigh_field hu (j := 2) rfl m2 _ (hl.data e he)⟩
  · simp [Lit.wf, IntKind.min, IntKind.max, IntKind.bits, IntKind.signed] at l1; exact l1
  · obtain ⟨m, hm1, hm2⟩ := hl.few
    exact ⟨m, hm1, hm2.imp id fun hm => weigh_field hu (j := 2) rfl m2 _ hm⟩
set_option maxRecDepth 8000 in
theorem open_asls {H : Type} {enc : TypeId × Value → H} {W : World} {base : Nat} {v : Value} {d : DataW H} {p : List MemPlace} {ts : List TypeId} {ds : List (DataW H)} (j : Nat)
    (ht : ts[j]? = some 40) (hd : ds[j]? = some d) (hok : Value.okWide Tryd.prog W .any base 40 v) (h : DataW.Trod enc Tryd.prog W 0 (fun _ => true) true 40 v d p)
    (hsz : (DataW.weightsEach Tryd.prog ts ds).all (· ≤ reachBytes) = true) : ∃ l : List AskL, Rd aslE W v l ∧ ∀ x ∈ l, AskLOk W x := by
  obtain ⟨l, h1, _, h3⟩ := open_rd aslE Tryd.underlying40 (by kernel_rfl) (fun (x : AskL) (dx : DataW H) => (Rd etyE W x.vh x.h.log ∧ Rd intsE W x.vp x.picks ∧ (∀ z ∈ x.picks, z ≤ 9223372036854775807) ∧ (-9223372036854775808 ≤ x.n ∧ x.n ≤ 9223372036854775807)) ∧ x.h.snap.size ∈ dx.weights Tryd.prog 43 ∧ (∃ m, x.h.log.length * 32 ≤ m ∧ (x.h.log.length = 0 ∨ m ∈ dx.weights Tryd.prog 43)) ∧ ∀ e ∈ x.h.log, e.data.size ∈ dx.weights Tryd.prog 43) elem_asl hok h
  refine ⟨l, h1, fun x hx => ?_⟩
  obtain ⟨dx, ⟨⟨g1, g2, g3, g4⟩, g5, ⟨m, hm1, hm2⟩, g6⟩, hin⟩ := h3 x hx
  have hle : ∀ n, n ∈ dx.weights Tryd.prog 43 → n ≤ 140737488351232 := fun n hn => reach_of hsz ht hd (hin _ hn)
  refine ⟨g1, g2, g3, ?_, by have := hle _ g5; omega, fun e he => by have := hle _ (g6 e he); omega, g4⟩
  rcases hm2 with hm2 | hm2
  · rw [hm2]; omega
  · have := hle _ hm2; omega
end Go.Proofs.YtgpgcnmnfnnkjaaDoor
end

section
namespace Go.Proofs.YtgpgcnmnfnnkjaaDoor
open Go Go.RowKit Go.ChangeShapes Go.WideShapes Go.ChangeAt Go.Deep Go.Joins
theorem open_valW {α : Type} (E : Enc α) {H : Type} {enc : TypeId × Value → H} {P : Program} {W : World} {base : Nat} {t : TypeId} {fs : Array Field} {v : Value} {d : DataW H} {p : List MemPlace} (hs : P.underlying t = some (.struct fs)) (G : α → DataW H → Prop)
    (elem : ∀ fuel cs y, DataW.trod enc P W 0 (fun _ => true) true fuel t cs = some y → ∃ x, cs = E.enc x ∧ G x y.1)
    (hok : Value.okWide P W .any base t v) (h : DataW.Trod enc P W 0 (fun _ => true) true t v d p) : ∃ x : α, v = .agg (E.enc x).toArray ∧ G x d := by
  obtain ⟨cs, rfl, hsz⟩ := okWide_struct hs hok
  obtain ⟨fuel, hf⟩ := h
  obtain ⟨x, hx, hg⟩ := elem fuel _ _ hf
  refine ⟨x, ?_, hg⟩
  have : cs.toList = E.enc x := hx
  rw [← this]
set_option maxRecDepth 8000 in
theorem open_asl {H : Type} {enc : TypeId × Value → H} {W : World} {base : Nat} {v : Value} {d : DataW H} {p : List MemPlace} {ts : List TypeId} {ds : List (DataW H)} (j : Nat)
    (ht : ts[j]? = some 43) (hd : ds[j]? = some d) (hok : Value.okWide Tryd.prog W .any base 43 v) (h : DataW.Trod enc Tryd.prog W 0 (fun _ => true) true 43 v d p)
    (hsz : (DataW.weightsEach Tryd.prog ts ds).all (· ≤ reachBytes) = true) : ∃ x : AskL, v = .agg (aslA x) ∧ AskLOk W x := by
  obtain ⟨x, h1, ⟨g1, g2, g3, g4⟩, g5, ⟨m, hm1, hm2⟩, g6⟩ := open_valW aslE Tryd.underlying43 (fun (x : AskL) (dx : DataW H) => (Rd etyE W x.vh x.h.log ∧ Rd intsE W x.vp x.picks ∧ (∀ z ∈ x.picks, z ≤ 9223372036854775807) ∧ (-9223372036854775808 ≤ x.n ∧ x.n ≤ 9223372036854775807)) ∧ x.h.snap.size ∈ dx.weights Tryd.prog 43 ∧ (∃ m, x.h.log.length * 32 ≤ m ∧ (x.h.log.length = 0 ∨ m ∈ dx.weights Tryd.prog 43)) ∧ ∀ e ∈ x.h.log, e.data.size ∈ dx.weights Tryd.prog 43) elem_asl hok h
  have hle : ∀ n, n ∈ d.weights Tryd.prog 43 → n ≤ 140737488351232 := fun n hn => reach_of hsz ht hd hn
  refine ⟨x, h1, g1, g2, g3, ?_, by have := hle _ g5; omega, fun e he => by have := hle _ (g6 e he); omega, g4⟩
  rcases hm2 with hm2 | hm2
  · rw [hm2]; omega
  · have := hle _ hm2; omega
end Go.Proofs.YtgpgcnmnfnnkjaaDoor
end
