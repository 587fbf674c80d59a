/- What an argument of the type []impostlaw16.Ask reads as, the numbers' bounds too. -/
import Derived.Test.YtklopbjlpffnbaaDskAsk
namespace Go.Proofs.Ytklopbjlpffnbaa
open Go Go.RowKit Go.ChangeShapes Go.WideShapes Go.ChangeAt Go.Deep Go.Joins
theorem elem_ask2 {H : Type} {enc : TypeId × Value → H} {W : World} (fuel : Nat) (cs : List Value) (y : DataW H × List MemPlace) (h : DataW.trod enc Try.prog W 0 (fun _ => true) true fuel 46 cs = some y) :
    ∃ x : AskV, cs = askE.enc x ∧ ((Bytes W x.vd x.data ∧ Rd intsE W x.vp x.picks ∧ (∀ z ∈ x.picks, z ≤ 9223372036854775807) ∧ x.n ≤ 9223372036854775807) ∧ x.name.size ∈ y.1.weights Try.prog 46 ∧ x.other.size ∈ y.1.weights Try.prog 46) := by
  have hu := Try.underlying46
  obtain ⟨xs, n, rfl, rfl, hlen, hxl, hf⟩ := DataW.trod_struct hu h
  obtain ⟨a0, a1, a2, a3, a4, a5, rfl⟩ := list_of_ask (hlen.trans (by kernel_rfl))
  have k0 : Try.prog.cellsOf 9 = 1 := by kernel_rfl
  have k1 : Try.prog.cellsOf 3 = 1 := by kernel_rfl
  have k2 : Try.prog.cellsOf 25 = 1 := by kernel_rfl
  have k3 : Try.prog.cellsOf 44 = 1 := by kernel_rfl
  have h0 : DataW.trod enc Try.prog W 0 (fun _ => true) true n 3 (([a0, a1, a2, a3, a4, a5].drop 0).take (Try.prog.cellsOf 3)) = xs[0]? := hf 0 _ rfl
  have h1 : DataW.trod enc Try.prog W 0 (fun _ => true) true n 3 (([a0, a1, a2, a3, a4, a5].drop 1).take (Try.prog.cellsOf 3)) = xs[1]? := hf 1 _ rfl
  have h2 : DataW.trod enc Try.prog W 0 (fun _ => true) true n 9 (([a0, a1, a2, a3, a4, a5].drop 2).take (Try.prog.cellsOf 9)) = xs[2]? := hf 2 _ rfl
  have h3 : DataW.trod enc Try.prog W 0 (fun _ => true) true n 9 (([a0, a1, a2, a3, a4, a5].drop 3).take (Try.prog.cellsOf 9)) = xs[3]? := hf 3 _ rfl
  have h4 : DataW.trod enc Try.prog W 0 (fun _ => true) true n 25 (([a0, a1, a2, a3, a4, a5].drop 4).take (Try.prog.cellsOf 25)) = xs[4]? := hf 4 _ rfl
  have h5 : DataW.trod enc Try.prog W 0 (fun _ => true) true n 44 (([a0, a1, a2, a3, a4, a5].drop 5).take (Try.prog.cellsOf 44)) = xs[5]? := hf 5 _ rfl
  rw [k1] at h0 h1
  rw [k0] at h2 h3
  rw [k2] at h4
  rw [k3] at h5
  simp only [List.drop_zero, List.take_succ_cons, List.take_zero, List.drop_succ_cons] at h0 h1 h2 h3 h4 h5
  have hx0 : xs[0]? = some (xs[0]'(by rw [hxl]; decide)) := List.getElem?_eq_getElem _
  have hx1 : xs[1]? = some (xs[1]'(by rw [hxl]; decide)) := List.getElem?_eq_getElem _
  have hx2 : xs[2]? = some (xs[2]'(by rw [hxl]; decide)) := List.getElem?_eq_getElem _
  have hx3 : xs[3]? = some (xs[3]'(by rw [hxl]; decide)) := List.getElem?_eq_getElem _
  have hx4 : xs[4]? = some (xs[4]'(by rw [hxl]; decide)) := List.getElem?_eq_getElem _
  have hx5 : xs[5]? = some (xs[5]'(by rw [hxl]; decide)) := List.getElem?_eq_getElem _
  obtain ⟨z0, e0, _, _⟩ := DataW.trod_int Try.underlying3 (h0.trans hx0)
  obtain ⟨z1, e1, _, wf1⟩ := DataW.trod_int Try.underlying3 (h1.trans hx1)
  obtain ⟨z2, e2, w2, _⟩ := DataW.trod_string Try.underlying9 (h2.trans hx2)
  obtain ⟨z3, e3, w3, _⟩ := DataW.trod_string Try.underlying9 (h3.trans hx3)
  obtain ⟨l4, b4⟩ := open_bytes_trod2 Try.underlying25 Try.underlying5 (by kernel_rfl) (h4.trans hx4)
  obtain ⟨l5, b5, r5⟩ := open_ints_trod2 Try.underlying44 Try.underlying3 (by kernel_rfl) (h5.trans hx5)
  simp only [List.cons.injEq, and_true] at e0 e1 e2 e3
  subst e0; subst e1; subst e2; subst e3
  obtain ⟨p4, c4, rfl⟩ := b4.shape
  obtain ⟨p5, c5, rfl⟩ := b5.shape
  have m2 : (xs.map (·.1))[2]? = some (DataW.lit (.string z2.data.toList)) := by rw [List.getElem?_map, hx2, Option.map_some, w2]
  have m3 : (xs.map (·.1))[3]? = some (DataW.lit (.string z3.data.toList)) := by rw [List.getElem?_map, hx3, Option.map_some, w3]
  exact ⟨⟨z0, z1, z2, z3, p4, c4, l4, p5, c5, l5⟩, rfl, ⟨b4, b5, fun z hz => (r5 z hz).2, by simp [Lit.wf, IntKind.min, IntKind.max, IntKind.bits, IntKind.signed] at wf1; exact wf1.2⟩, weigh_field hu (j := 2) rfl m2 _ weigh_string, weigh_field hu (j := 3) rfl m3 _ weigh_string⟩
theorem open_asks2 {H : Type} {enc : TypeId × Value → H} {W : World} {base : Nat} {v : Value} {d : DataW H} {p : List MemPlace} {ts : List TypeId} {ds : List (DataW H)} (j : Nat)
    (ht : ts[j]? = some 43) (hd : ds[j]? = some d) (hok : Value.okWide Try.prog W .any base 43 v) (h : DataW.Trod enc Try.prog W 0 (fun _ => true) true 43 v d p)
    (hsz : (DataW.weightsEach Try.prog ts ds).all (· ≤ reachBytes) = true) : ∃ l : List AskV, Rd askE W v l ∧ ∀ x ∈ l, AskOk W x ∧ x.n ≤ 9223372036854775807 := by
  obtain ⟨l, h1, _, h3⟩ := open_rd askE Try.underlying43 (by kernel_rfl) (fun (x : AskV) (dx : DataW H) => (Bytes W x.vd x.data ∧ Rd intsE W x.vp x.picks ∧ (∀ z ∈ x.picks, z ≤ 9223372036854775807) ∧ x.n ≤ 9223372036854775807) ∧ x.name.size ∈ dx.weights Try.prog 46 ∧ x.other.size ∈ dx.weights Try.prog 46) elem_ask2 hok h
  refine ⟨l, h1, fun x hx => ?_⟩
  obtain ⟨dx, ⟨⟨g1, g2, g3, g6⟩, g4, g5⟩, hin⟩ := h3 x hx
  exact ⟨⟨g1, g2, g3, Nat.le_trans (reach_of hsz ht hd (hin _ g4)) (by decide), Nat.le_trans (reach_of hsz ht hd (hin _ g5)) (by decide)⟩, g6⟩
end Go.Proofs.Ytklopbjlpffnbaa
