/- What arguments of types []api.Line, api.Total read as. -/
import Derived.Test.YtpobhlnlnplbdaaOpenVat
import Derived.Test.YtpobhlnlnplbdaaInvP
namespace Go.Proofs.Ytpobhlnlnplbdaa
open Go Go.RowKit Go.ChangeShapes Go.WideShapes Go.ChangeAt Go.Deep Go.Joins
theorem wf_fits {n : Int} (h : (Lit.int .i64 n).wf = true) : Mon.fits n := by
  unfold Mon.fits; simp [Lit.wf, IntKind.min, IntKind.max, IntKind.bits, IntKind.signed] at h; omega
theorem list_n4 {cs : List Value} (h : cs.length = 4) : ∃ a b c d, cs = [a, b, c, d] := by
  match cs, h with
  | [a, b, c, d], _ => exact ⟨a, b, c, d, rfl⟩
theorem elem_ln {H : Type} {enc : TypeId × Value → H} {W : World} (fuel : Nat) (cs : List Value) (y : DataW H × List MemPlace) (h : DataW.trod enc Try.prog W 0 (fun _ => true) true fuel 60 cs = some y) :
    ∃ x : Ln, cs = lnE.enc x ∧ (Mon.fits x.count ∧ Mon.fits x.price) := by
  have hu := Try.underlying60
  obtain ⟨xs, n, rfl, rfl, hlen, hxl, hf⟩ := DataW.trod_struct hu h
  obtain ⟨a, b, c, d, rfl⟩ := list_n4 (hlen.trans (by kernel_rfl))
  have k0 : Try.prog.cellsOf 3 = 1 := by kernel_rfl
  have k1 : Try.prog.cellsOf 9 = 1 := by kernel_rfl
  have h0 : DataW.trod enc Try.prog W 0 (fun _ => true) true n 9 (([a, b, c, d].drop 0).take (Try.prog.cellsOf 9)) = xs[0]? := hf 0 _ rfl
  have h1 : DataW.trod enc Try.prog W 0 (fun _ => true) true n 9 (([a, b, c, d].drop 1).take (Try.prog.cellsOf 9)) = xs[1]? := hf 1 _ rfl
  have h2 : DataW.trod enc Try.prog W 0 (fun _ => true) true n 3 (([a, b, c, d].drop 2).take (Try.prog.cellsOf 3)) = xs[2]? := hf 2 _ rfl
  have h3 : DataW.trod enc Try.prog W 0 (fun _ => true) true n 3 (([a, b, c, d].drop 3).take (Try.prog.cellsOf 3)) = xs[3]? := hf 3 _ rfl
  rw [k0] at h2 h3
  rw [k1] at h0 h1
  simp only [List.drop_zero, List.take_succ_cons, List.take_zero, List.drop_succ_cons] at h0 h1 h2 h3
  have hx0 : xs[0]? = some (xs[0]'(by rw [hxl]; decide)) := List.getElem?_eq_getElem _
  have hx1 : xs[1]? = some (xs[1]'(by rw [hxl]; decide)) := List.getElem?_eq_getElem _
  have hx2 : xs[2]? = some (xs[2]'(by rw [hxl]; decide)) := List.getElem?_eq_getElem _
  have hx3 : xs[3]? = some (xs[3]'(by rw [hxl]; decide)) := List.getElem?_eq_getElem _
  obtain ⟨z0, e0, _, g0⟩ := DataW.trod_string Try.underlying9 (h0.trans hx0)
  obtain ⟨z1, e1, _, g1⟩ := DataW.trod_string Try.underlying9 (h1.trans hx1)
  obtain ⟨z2, e2, _, g2⟩ := DataW.trod_int Try.underlying3 (h2.trans hx2)
  obtain ⟨z3, e3, _, g3⟩ := DataW.trod_int Try.underlying3 (h3.trans hx3)
  simp only [List.cons.injEq, and_true] at e0 e1 e2 e3
  subst e0; subst e1; subst e2; subst e3
  exact ⟨⟨z0, z1, z2, z3⟩, rfl, wf_fits g2, wf_fits g3⟩
theorem elem_part {H : Type} {enc : TypeId × Value → H} {W : World} (fuel : Nat) (cs : List Value) (y : DataW H × List MemPlace) (h : DataW.trod enc Try.prog W 0 (fun _ => true) true fuel 64 cs = some y) :
    ∃ x : Part, cs = partE.enc x ∧ (Mon.fits x.net ∧ Mon.fits x.tax) := by
  have hu := Try.underlying64
  obtain ⟨xs, n, rfl, rfl, hlen, hxl, hf⟩ := DataW.trod_struct hu h
  obtain ⟨a, b, c, d, rfl⟩ := list_n4 (hlen.trans (by kernel_rfl))
  have k0 : Try.prog.cellsOf 3 = 1 := by kernel_rfl
  have k1 : Try.prog.cellsOf 9 = 1 := by kernel_rfl
  have h0 : DataW.trod enc Try.prog W 0 (fun _ => true) true n 9 (([a, b, c, d].drop 0).take (Try.prog.cellsOf 9)) = xs[0]? := hf 0 _ rfl
  have h1 : DataW.trod enc Try.prog W 0 (fun _ => true) true n 3 (([a, b, c, d].drop 1).take (Try.prog.cellsOf 3)) = xs[1]? := hf 1 _ rfl
  have h2 : DataW.trod enc Try.prog W 0 (fun _ => true) true n 3 (([a, b, c, d].drop 2).take (Try.prog.cellsOf 3)) = xs[2]? := hf 2 _ rfl
  have h3 : DataW.trod enc Try.prog W 0 (fun _ => true) true n 3 (([a, b, c, d].drop 3).take (Try.prog.cellsOf 3)) = xs[3]? := hf 3 _ rfl
  rw [k0] at h1 h2 h3
  rw [k1] at h0
  simp only [List.drop_zero, List.take_succ_cons, List.take_zero, List.drop_succ_cons] at h0 h1 h2 h3
  have hx0 : xs[0]? = some (xs[0]'(by rw [hxl]; decide)) := List.getElem?_eq_getElem _
  have hx1 : xs[1]? = some (xs[1]'(by rw [hxl]; decide)) := List.getElem?_eq_getElem _
  have hx2 : xs[2]? = some (xs[2]'(by rw [hxl]; decide)) := List.getElem?_eq_getElem _
  have hx3 : xs[3]? = some (xs[3]'(by rw [hxl]; decide)) := List.getElem?_eq_getElem _
  obtain ⟨z0, e0, _, g0⟩ := DataW.trod_string Try.underlying9 (h0.trans hx0)
  obtain ⟨z1, e1, _, g1⟩ := DataW.trod_int Try.underlying3 (h1.trans hx1)
  obtain ⟨z2, e2, _, g2⟩ := DataW.trod_int Try.underlying3 (h2.trans hx2)
  obtain ⟨z3, e3, _, g3⟩ := DataW.trod_int Try.underlying3 (h3.trans hx3)
  simp only [List.cons.injEq, and_true] at e0 e1 e2 e3
  subst e0; subst e1; subst e2; subst e3
  exact ⟨⟨z0, z1, z2, z3⟩, rfl, wf_fits g2, wf_fits g3⟩
set_option maxRecDepth 100000
section
variable {H : Type} {enc : TypeId × Value → H} {W : World} {base : Nat} {v : Value} {d : DataW H} {p : List MemPlace} {ts : List TypeId} {ds : List (DataW H)} (j : Nat)
theorem open_lines (ht : ts[j]? = some 62) (hd : ds[j]? = some d) (hok : Value.okWide Try.prog W .any base 62 v) (h : DataW.Trod enc Try.prog W 0 (fun _ => true) true 62 v d p)
    (hsz : (DataW.weightsEach Try.prog ts ds).all (· ≤ reachBytes) = true) : ∃ l : List Ln, Rd lnE W v l ∧ ∀ x ∈ l, Mon.fits x.count ∧ Mon.fits x.price := by
  obtain ⟨l, h1, _, h3⟩ := open_rd lnE Try.underlying62 (by kernel_rfl) (fun x _ => Mon.fits x.count ∧ Mon.fits x.price) elem_ln hok h
  exact ⟨l, h1, fun x hx => (h3 x hx).choose_spec.1⟩
theorem open_total (ht : ts[j]? = some 56) (hd : ds[j]? = some d) (hok : Value.okWide Try.prog W .any base 56 v) (h : DataW.Trod enc Try.prog W 0 (fun _ => true) true 56 v d p)
    (hsz : (DataW.weightsEach Try.prog ts ds).all (· ≤ reachBytes) = true) : ∃ (t : Tot) (u : Value), v = .agg #[.int .i64 t.net, .int .i64 t.tax, .int .i64 t.gross, u] ∧ Rd partE W u t.parts ∧ (Mon.fits t.net ∧ Mon.fits t.tax ∧ Mon.fits t.gross) ∧ ∀ q ∈ t.parts, Mon.fits q.net ∧ Mon.fits q.tax := by
  have hu := Try.underlying56
  obtain ⟨cs, rfl, hsz⟩ := okWide_struct hu hok
  obtain ⟨fuel, hf0⟩ := h
  obtain ⟨xs, n, rfl, _, hlen, hxl, hf⟩ := DataW.trod_struct hu hf0
  obtain ⟨a, b, c, e, hcs⟩ := list_n4 (hlen.trans (by kernel_rfl))
  have hca : cs = #[a, b, c, e] := by
    have : cs.toList = [a, b, c, e] := hcs
    have h9 := congrArg List.toArray this; simpa using h9
  subst hca
  have k3 : Try.prog.cellsOf 3 = 1 := by kernel_rfl
  have kp : Try.prog.cellsOf 54 = 1 := by kernel_rfl
  have h0 : DataW.trod enc Try.prog W 0 (fun _ => true) true n 3 (([a, b, c, e].drop 0).take (Try.prog.cellsOf 3)) = xs[0]? := hf 0 _ rfl
  have h1 : DataW.trod enc Try.prog W 0 (fun _ => true) true n 3 (([a, b, c, e].drop 1).take (Try.prog.cellsOf 3)) = xs[1]? := hf 1 _ rfl
  have h2 : DataW.trod enc Try.prog W 0 (fun _ => true) true n 3 (([a, b, c, e].drop 2).take (Try.prog.cellsOf 3)) = xs[2]? := hf 2 _ rfl
  have h3 : DataW.trod enc Try.prog W 0 (fun _ => true) true n 54 (([a, b, c, e].drop 3).take (Try.prog.cellsOf 54)) = xs[3]? := hf 3 _ rfl
  rw [k3] at h0 h1 h2
  rw [kp] at h3
  simp only [List.drop_zero, List.take_succ_cons, List.take_zero, List.drop_succ_cons] at h0 h1 h2 h3
  have hx0 : xs[0]? = some (xs[0]'(by rw [hxl]; decide)) := List.getElem?_eq_getElem _
  have hx1 : xs[1]? = some (xs[1]'(by rw [hxl]; decide)) := List.getElem?_eq_getElem _
  have hx2 : xs[2]? = some (xs[2]'(by rw [hxl]; decide)) := List.getElem?_eq_getElem _
  have hx3 : xs[3]? = some (xs[3]'(by rw [hxl]; decide)) := List.getElem?_eq_getElem _
  obtain ⟨z0, e0, _, g0⟩ := DataW.trod_int Try.underlying3 (h0.trans hx0)
  obtain ⟨z1, e1, _, g1⟩ := DataW.trod_int Try.underlying3 (h1.trans hx1)
  obtain ⟨z2, e2, _, g2⟩ := DataW.trod_int Try.underlying3 (h2.trans hx2)
  obtain ⟨u, l, e3, r1, _, r3⟩ := open_rd_core partE Try.underlying54 (by kernel_rfl) (fun x _ => Mon.fits x.net ∧ Mon.fits x.tax) elem_part (h3.trans hx3)
  simp only [List.cons.injEq, and_true] at e0 e1 e2 e3
  subst e0; subst e1; subst e2; subst e3
  exact ⟨⟨z0, z1, z2, l⟩, e, rfl, r1, ⟨wf_fits g0, wf_fits g1, wf_fits g2⟩, fun q hq => (r3 q hq).choose_spec.1⟩
end
end Go.Proofs.Ytpobhlnlnplbdaa
