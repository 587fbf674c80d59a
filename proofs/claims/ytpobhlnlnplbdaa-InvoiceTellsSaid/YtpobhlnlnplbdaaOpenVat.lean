/- What arguments of types []api.Rate, api.Rate, api.Date read as. -/
import Derived.Test.YtpobhlnlnplbdaaVatE
import Derived.Test.YtpobhlnlnplbdaaOpenRd
import Derived.Lib.SmallJoins
namespace Go.Proofs.Ytpobhlnlnplbdaa
open Go Go.RowKit Go.ChangeShapes Go.WideShapes Go.ChangeAt Go.Deep Go.Joins
def dayE : Enc Day := ⟨3, fun x => [.int .i64 x.y, .int .i64 x.m, .int .i64 x.d], fun _ => rfl, fun x v hv => by simp only [List.mem_cons, List.not_mem_nil, or_false] at hv; rcases hv with rfl | rfl | rfl <;> rfl, by decide⟩
/-- a struct that is an argument itself -/
theorem open_val {α : Type} (E : Enc α) {H : Type} {enc : TypeId × Value → H} {P : Program} {W : World} {base : Nat} {t : TypeId} {fs : Array Field} {v : Value} {d : DataW H} {p : List MemPlace} (hs : P.underlying t = some (.struct fs)) (G : α → DataW H → Prop)
    (elem : ∀ fuel cs y, DataW.trod enc P W 0 (fun _ => true) true fuel t cs = some y → ∃ x, cs = E.enc x ∧ G x y.1)
    (hok : Value.okWide P W .any base t v) (h : DataW.Trod enc P W 0 (fun _ => true) true t v d p) : ∃ x : α, v = .agg (E.enc x).toArray ∧ G x d := by
  obtain ⟨cs, rfl, hsz⟩ := okWide_struct hs hok
  obtain ⟨fuel, hf⟩ := h
  obtain ⟨x, hx, hg⟩ := elem fuel _ _ hf
  refine ⟨x, ?_, hg⟩
  have : cs.toList = E.enc x := hx
  rw [← this]
theorem list_n3 {cs : List Value} (h : cs.length = 3) : ∃ a b c, cs = [a, b, c] := by
  match cs, h with
  | [a, b, c], _ => exact ⟨a, b, c, rfl⟩
theorem list_n5 {cs : List Value} (h : cs.length = 5) : ∃ a b c d e, cs = [a, b, c, d, e] := by
  match cs, h with
  | [a, b, c, d, e], _ => exact ⟨a, b, c, d, e, rfl⟩
theorem elem_day {H : Type} {enc : TypeId × Value → H} {W : World} (fuel : Nat) (cs : List Value) (y : DataW H × List MemPlace) (h : DataW.trod enc Try.prog W 0 (fun _ => true) true fuel 23 cs = some y) :
    ∃ x : Day, cs = dayE.enc x ∧ True := by
  have hu := Try.underlying23
  obtain ⟨xs, n, rfl, rfl, hlen, hxl, hf⟩ := DataW.trod_struct hu h
  obtain ⟨a, b, c, rfl⟩ := list_n3 (hlen.trans (by kernel_rfl))
  have k3 : Try.prog.cellsOf 3 = 1 := by kernel_rfl
  have h0 : DataW.trod enc Try.prog W 0 (fun _ => true) true n 3 (([a, b, c].drop 0).take (Try.prog.cellsOf 3)) = xs[0]? := hf 0 _ rfl
  have h1 : DataW.trod enc Try.prog W 0 (fun _ => true) true n 3 (([a, b, c].drop 1).take (Try.prog.cellsOf 3)) = xs[1]? := hf 1 _ rfl
  have h2 : DataW.trod enc Try.prog W 0 (fun _ => true) true n 3 (([a, b, c].drop 2).take (Try.prog.cellsOf 3)) = xs[2]? := hf 2 _ rfl
  rw [k3] at h0 h1 h2
  simp only [List.drop_zero, List.take_succ_cons, List.take_zero, List.drop_succ_cons] at h0 h1 h2
  have hx0 : xs[0]? = some (xs[0]'(by rw [hxl]; decide)) := List.getElem?_eq_getElem _
  have hx1 : xs[1]? = some (xs[1]'(by rw [hxl]; decide)) := List.getElem?_eq_getElem _
  have hx2 : xs[2]? = some (xs[2]'(by rw [hxl]; decide)) := List.getElem?_eq_getElem _
  obtain ⟨z0, e0, _, _⟩ := DataW.trod_int Try.underlying3 (h0.trans hx0)
  obtain ⟨z1, e1, _, _⟩ := DataW.trod_int Try.underlying3 (h1.trans hx1)
  obtain ⟨z2, e2, _, _⟩ := DataW.trod_int Try.underlying3 (h2.trans hx2)
  simp only [List.cons.injEq, and_true] at e0 e1 e2
  subst e0; subst e1; subst e2
  exact ⟨⟨z0, z1, z2⟩, rfl, trivial⟩
theorem elem_rate {H : Type} {enc : TypeId × Value → H} {W : World} (fuel : Nat) (cs : List Value) (y : DataW H × List MemPlace) (h : DataW.trod enc Try.prog W 0 (fun _ => true) true fuel 25 cs = some y) :
    ∃ x : Rate, cs = rateE.enc x ∧ True := by
  have hu := Try.underlying25
  obtain ⟨xs, n, rfl, rfl, hlen, hxl, hf⟩ := DataW.trod_struct hu h
  obtain ⟨a, b, c, d, e, rfl⟩ := list_n5 (hlen.trans (by kernel_rfl))
  have k9 : Try.prog.cellsOf 9 = 1 := by kernel_rfl
  have k3 : Try.prog.cellsOf 3 = 1 := by kernel_rfl
  have kd : Try.prog.cellsOf 23 = 3 := by kernel_rfl
  have h0 : DataW.trod enc Try.prog W 0 (fun _ => true) true n 9 (([a, b, c, d, e].drop 0).take (Try.prog.cellsOf 9)) = xs[0]? := hf 0 _ rfl
  have h1 : DataW.trod enc Try.prog W 0 (fun _ => true) true n 23 (([a, b, c, d, e].drop 1).take (Try.prog.cellsOf 23)) = xs[1]? := hf 1 _ rfl
  have h2 : DataW.trod enc Try.prog W 0 (fun _ => true) true n 3 (([a, b, c, d, e].drop 4).take (Try.prog.cellsOf 3)) = xs[2]? := hf 2 _ rfl
  rw [k9] at h0
  rw [kd] at h1
  rw [k3] at h2
  simp only [List.drop_zero, List.take_succ_cons, List.take_zero, List.drop_succ_cons] at h0 h1 h2
  have hx0 : xs[0]? = some (xs[0]'(by rw [hxl]; decide)) := List.getElem?_eq_getElem _
  have hx1 : xs[1]? = some (xs[1]'(by rw [hxl]; decide)) := List.getElem?_eq_getElem _
  have hx2 : xs[2]? = some (xs[2]'(by rw [hxl]; decide)) := List.getElem?_eq_getElem _
  obtain ⟨z0, e0, _, _⟩ := DataW.trod_string Try.underlying9 (h0.trans hx0)
  obtain ⟨z1, e1, _⟩ := elem_day _ _ _ (h1.trans hx1)
  obtain ⟨z2, e2, _, _⟩ := DataW.trod_int Try.underlying3 (h2.trans hx2)
  simp only [dayE, List.cons.injEq, and_true] at e0 e1 e2
  obtain ⟨rfl, rfl, rfl⟩ := e1
  subst e0; subst e2
  exact ⟨⟨z0, z1, z2⟩, rfl, trivial⟩
set_option maxRecDepth 100000
section
variable {H : Type} {enc : TypeId × Value → H} {W : World} {base : Nat} {v : Value} {d : DataW H} {p : List MemPlace} {ts : List TypeId} {ds : List (DataW H)} (j : Nat)
theorem open_rates (ht : ts[j]? = some 27) (hd : ds[j]? = some d) (hok : Value.okWide Try.prog W .any base 27 v) (h : DataW.Trod enc Try.prog W 0 (fun _ => true) true 27 v d p)
    (hsz : (DataW.weightsEach Try.prog ts ds).all (· ≤ reachBytes) = true) : ∃ l : List Rate, Rd rateE W v l := by
  obtain ⟨l, h1, _⟩ := open_rd rateE Try.underlying27 (by kernel_rfl) (fun _ _ => True) elem_rate hok h
  exact ⟨l, h1⟩
theorem open_rate (ht : ts[j]? = some 25) (hd : ds[j]? = some d) (hok : Value.okWide Try.prog W .any base 25 v) (h : DataW.Trod enc Try.prog W 0 (fun _ => true) true 25 v d p)
    (hsz : (DataW.weightsEach Try.prog ts ds).all (· ≤ reachBytes) = true) : ∃ r : Rate, v = .agg #[.string r.cat, .int .i64 r.day.y, .int .i64 r.day.m, .int .i64 r.day.d, .int .i64 r.bp] := by
  obtain ⟨r, h1, _⟩ := open_val rateE Try.underlying25 (fun _ _ => True) elem_rate hok h
  exact ⟨r, h1⟩
theorem open_day (ht : ts[j]? = some 23) (hd : ds[j]? = some d) (hok : Value.okWide Try.prog W .any base 23 v) (h : DataW.Trod enc Try.prog W 0 (fun _ => true) true 23 v d p)
    (hsz : (DataW.weightsEach Try.prog ts ds).all (· ≤ reachBytes) = true) : ∃ x : Day, v = .agg #[.int .i64 x.y, .int .i64 x.m, .int .i64 x.d] := by
  obtain ⟨r, h1, _⟩ := open_val dayE Try.underlying23 (fun _ _ => True) elem_day hok h
  exact ⟨r, h1⟩
end
end Go.Proofs.Ytpobhlnlnplbdaa
