/- What the arguments of chapter 12's laws read as: balances, parts, totals. -/
import Derived.Test.YtfimaamndcdofaaOpenRd
import Derived.Test.YtfimaamndcdofaaBookE
import Derived.Lib.SmallJoins
namespace Go.Proofs.Ytfimaamndcdofaa
open Go Go.RowKit Go.ChangeShapes Go.WideShapes Go.ChangeAt Go.Deep Go.Joins

def BalG {H : Type} (P : Program) (t : TypeId) (x : Bal) (d : DataW H) : Prop := Mon.fits x.2 ∧ x.1.size ∈ d.weights P t
def PartG {H : Type} (P : Program) (t : TypeId) (x : Part) (d : DataW H) : Prop := (Mon.fits x.bp ∧ Mon.fits x.net ∧ Mon.fits x.tax) ∧ x.cat.size ∈ d.weights P t

theorem fits_wf {n : Int} (h : (Lit.int .i64 n).wf = true) : Mon.fits n := by
  simp [Lit.wf, IntKind.min, IntKind.max, IntKind.bits, IntKind.signed] at h
  unfold Mon.fits; omega
theorem list_two {cs : List Value} (h : cs.length = 2) : ∃ a b, cs = [a, b] := by
  match cs, h with
  | [a, b], _ => exact ⟨a, b, rfl⟩
theorem list_four {cs : List Value} (h : cs.length = 4) : ∃ a b c d, cs = [a, b, c, d] := by
  match cs, h with
  | [a, b, c, d], _ => exact ⟨a, b, c, d, rfl⟩

theorem elem_bal {H : Type} {enc : TypeId × Value → H} {W : World} (fuel : Nat) (cs : List Value) (y : DataW H × List MemPlace) (h : DataW.trod enc Try.prog W 0 (fun _ => true) true fuel 33 cs = some y) :
    ∃ x : Bal, cs = balE.enc x ∧ BalG Try.prog 33 x y.1 := by
  have hu := Try.underlying33
  obtain ⟨xs, n, rfl, rfl, hlen, hxl, hf⟩ := DataW.trod_struct hu h
  obtain ⟨a, b, rfl⟩ := list_two (hlen.trans (by kernel_rfl))
  have k9 : Try.prog.cellsOf 9 = 1 := by kernel_rfl
  have k3 : Try.prog.cellsOf 3 = 1 := by kernel_rfl
  have h0 : DataW.trod enc Try.prog W 0 (fun _ => true) true n 9 (([a, b].drop 0).take (Try.prog.cellsOf 9)) = xs[0]? := hf 0 _ rfl
  have h1 : DataW.trod enc Try.prog W 0 (fun _ => true) true n 3 (([a, b].drop 1).take (Try.prog.cellsOf 3)) = xs[1]? := hf 1 _ rfl
  rw [k9] at h0
  rw [k3] at h1
  simp only [List.drop_zero, List.take_succ_cons, List.take_zero, List.drop_succ_cons] at h0 h1
  have hx0 : xs[0]? = some (xs[0]'(by rw [hxl]; decide)) := List.getElem?_eq_getElem _
  have hx1 : xs[1]? = some (xs[1]'(by rw [hxl]; decide)) := List.getElem?_eq_getElem _
  obtain ⟨s, e0, e1, _⟩ := DataW.trod_string Try.underlying9 (h0.trans hx0)
  obtain ⟨z, e2, e3, hz⟩ := DataW.trod_int Try.underlying3 (h1.trans hx1)
  simp only [List.cons.injEq, and_true] at e0 e2
  subst e0; subst e2
  refine ⟨(s, z), rfl, fits_wf hz, ?_⟩
  refine weigh_field hu (j := 0) (d := .lit (.string s.data.toList)) rfl ?_ _ weigh_string
  rw [List.getElem?_map, hx0, e1]; rfl

theorem elem_part {H : Type} {enc : TypeId × Value → H} {W : World} (fuel : Nat) (cs : List Value) (y : DataW H × List MemPlace) (h : DataW.trod enc Try.prog W 0 (fun _ => true) true fuel 27 cs = some y) :
    ∃ x : Part, cs = partE.enc x ∧ PartG Try.prog 27 x y.1 := by
  have hu := Try.underlying27
  obtain ⟨xs, n, rfl, rfl, hlen, hxl, hf⟩ := DataW.trod_struct hu h
  obtain ⟨a, b, c, d, rfl⟩ := list_four (hlen.trans (by kernel_rfl))
  have k9 : Try.prog.cellsOf 9 = 1 := by kernel_rfl
  have k3 : Try.prog.cellsOf 3 = 1 := by kernel_rfl
  have h0 : DataW.trod enc Try.prog W 0 (fun _ => true) true n 9 (([a, b, c, d].drop 0).take (Try.prog.cellsOf 9)) = xs[0]? := hf 0 _ rfl
  have h1 : DataW.trod enc Try.prog W 0 (fun _ => true) true n 3 (([a, b, c, d].drop 1).take (Try.prog.cellsOf 3)) = xs[1]? := hf 1 _ rfl
  have h2 : DataW.trod enc Try.prog W 0 (fun _ => true) true n 3 (([a, b, c, d].drop 2).take (Try.prog.cellsOf 3)) = xs[2]? := hf 2 _ rfl
  have h3 : DataW.trod enc Try.prog W 0 (fun _ => true) true n 3 (([a, b, c, d].drop 3).take (Try.prog.cellsOf 3)) = xs[3]? := hf 3 _ rfl
  rw [k9] at h0
  rw [k3] at h1
  rw [k3] at h2
  rw [k3] at h3
  simp only [List.drop_zero, List.take_succ_cons, List.take_zero, List.drop_succ_cons] at h0 h1 h2 h3
  have hx0 : xs[0]? = some (xs[0]'(by rw [hxl]; decide)) := List.getElem?_eq_getElem _
  have hx1 : xs[1]? = some (xs[1]'(by rw [hxl]; decide)) := List.getElem?_eq_getElem _
  have hx2 : xs[2]? = some (xs[2]'(by rw [hxl]; decide)) := List.getElem?_eq_getElem _
  have hx3 : xs[3]? = some (xs[3]'(by rw [hxl]; decide)) := List.getElem?_eq_getElem _
  obtain ⟨s, e0, e1, _⟩ := DataW.trod_string Try.underlying9 (h0.trans hx0)
  obtain ⟨z1, e2, _, hz1⟩ := DataW.trod_int Try.underlying3 (h1.trans hx1)
  obtain ⟨z2, e3, _, hz2⟩ := DataW.trod_int Try.underlying3 (h2.trans hx2)
  obtain ⟨z3, e4, _, hz3⟩ := DataW.trod_int Try.underlying3 (h3.trans hx3)
  simp only [List.cons.injEq, and_true] at e0 e2 e3 e4
  subst e0; subst e2; subst e3; subst e4
  refine ⟨⟨s, z1, z2, z3⟩, rfl, ⟨fits_wf hz1, fits_wf hz2, fits_wf hz3⟩, ?_⟩
  refine weigh_field hu (j := 0) (d := .lit (.string s.data.toList)) rfl ?_ _ weigh_string
  rw [List.getElem?_map, hx0, e1]; rfl

/-- balances -/
theorem open_bals {H : Type} {enc : TypeId × Value → H} {W : World} {base : Nat} {v : Value} {d : DataW H} {p : List MemPlace} {ts : List TypeId} {ds : List (DataW H)} (j : Nat)
    (ht : ts[j]? = some 22) (hd : ds[j]? = some d) (hok : Value.okWide Try.prog W .any base 22 v) (h : DataW.Trod enc Try.prog W 0 (fun _ => true) true 22 v d p)
    (hsz : (DataW.weightsEach Try.prog ts ds).all (· ≤ reachBytes) = true) :
    ∃ l : List Bal, Rd balE W v l ∧ (∀ x ∈ l, Mon.fits x.2) ∧ (∀ x ∈ l, x.1.size ≤ 140737488355328) ∧ l.length * 24 ≤ 140737488351232 := by
  obtain ⟨l, h1, h2, h3⟩ := open_rd balE Try.underlying22 (by kernel_rfl) (BalG Try.prog 33) elem_bal hok h
  refine ⟨l, h1, fun x hx => ?_, fun x hx => ?_, sized_dlen hsz h2 ht hd Try.underlying22 (by kernel_rfl)⟩
  · obtain ⟨dx, hg, _⟩ := h3 x hx; exact hg.1
  · obtain ⟨dx, hg, hi⟩ := h3 x hx
    have := reach_of hsz ht hd (hi _ hg.2)
    omega
/-- a total -/
theorem open_total {H : Type} {enc : TypeId × Value → H} {W : World} {base : Nat} {v : Value} {d : DataW H} {p : List MemPlace} {ts : List TypeId} {ds : List (DataW H)} (j : Nat)
    (ht : ts[j]? = some 30) (hd : ds[j]? = some d) (hok : Value.okWide Try.prog W .any base 30 v) (h : DataW.Trod enc Try.prog W 0 (fun _ => true) true 30 v d p)
    (hsz : (DataW.weightsEach Try.prog ts ds).all (· ≤ reachBytes) = true) :
    ∃ (net tax gross : Int) (vp : Value) (ps : List Part), v = .agg #[.int .i64 net, .int .i64 tax, .int .i64 gross, vp] ∧ Rd partE W vp ps ∧ (∀ x ∈ ps, Mon.fits x.net ∧ Mon.fits x.tax) ∧ (∀ x ∈ ps, x.cat.size ≤ 140737488355328) := by
  obtain ⟨v0, v1, v2, v3, y0, y1, y2, y3, n, rfl, rfl, _, h0, h1, h2, h3⟩ := open_agg4 Try.underlying30 (by kernel_rfl) (by kernel_rfl) hok h
  obtain ⟨z0, e0, _, _⟩ := DataW.trod_int Try.underlying3 h0
  obtain ⟨z1, e1, _, _⟩ := DataW.trod_int Try.underlying3 h1
  obtain ⟨z2, e2, _, _⟩ := DataW.trod_int Try.underlying3 h2
  obtain ⟨v', ps, e3, hr, _, hG⟩ := open_rd_core partE Try.underlying28 (by kernel_rfl) (PartG Try.prog 27) elem_part h3
  simp only [List.cons.injEq, and_true] at e0 e1 e2 e3
  subst e0; subst e1; subst e2; subst e3
  refine ⟨z0, z1, z2, v3, ps, rfl, hr, fun x hx => ?_, fun x hx => ?_⟩
  · obtain ⟨dx, hg, _⟩ := hG x hx; exact hg.1.2
  · obtain ⟨dx, hg, hi⟩ := hG x hx
    have hm := weigh_field (H := H) Try.underlying30 (j := 3) (parts := [y0.1, y1.1, y2.1, y3.1]) rfl rfl _ (hi _ hg.2)
    have := reach_of hsz ht hd hm
    omega
end Go.Proofs.Ytfimaamndcdofaa
