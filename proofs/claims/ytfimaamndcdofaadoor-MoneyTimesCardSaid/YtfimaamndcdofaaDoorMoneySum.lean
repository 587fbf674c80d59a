/- The walk of money.Sum. -/
import Derived.Test.YtfimaamndcdofaaDoorRds
import Derived.Test.YtfimaamndcdofaaDoorMoney
namespace Go.Proofs.YtfimaamndcdofaaDoor
open Go Go.RowKit

namespace Mon
/-- n, and a list's numbers behind it: the sum, or none -/
def sumTo : Int → List Int → Option Int
  | n, [] => some n
  | n, x :: r => if fits (n + x) then sumTo (n + x) r else none
def sumV (l : List Int) : Value := match sumTo 0 l with
  | some n => .tuple #[.int .i64 n, .int .i64 0]
  | none => .tuple #[.int .i64 0, .int .i64 7]
theorem sum_some {l : List Int} {n : Int} (h : sumTo 0 l = some n) : sumV l = .tuple #[.int .i64 n, .int .i64 0] := by unfold sumV; rw [h]
theorem sum_none {l : List Int} (h : sumTo 0 l = none) : sumV l = .tuple #[.int .i64 0, .int .i64 7] := by unfold sumV; rw [h]
theorem sum_step {l : List Int} {n : Int} {k : Nat} (hk : k < l.length) : sumTo n (l.drop k) = if fits (n + l[k]) then sumTo (n + l[k]) (l.drop (k + 1)) else none := by
  rw [List.drop_eq_getElem_cons hk]; rfl
end Mon

set_option maxHeartbeats 1000000 in
theorem moneySum (v : Value) (l : List Int) (w : World) (hv : Rd intsE w v l) (hf : ∀ x ∈ l, Mon.fits x) :
    Calls Tryd.prog 21 #[v] w fun e w' => e = .returned (Mon.sumV l) ∧ w = w' := by
  obtain ⟨p, cap, rfl, h1, h2, h3, h4⟩ := hv.form
  clear hv h3
  unfold maxLen at h2
  have Hf := Lib.hid hf
  clear hf
  go_enter Tryd.func21, Tryd.ntmps21
  go_wp2
  go_loop [4, 10] (fun s i => ∃ (k : Nat) (n : Int), k ≤ l.length ∧ i = .int .i64 k ∧ s = .int .i64 n ∧ Hid (Mon.fits n) ∧ Hid (Mon.sumTo 0 l = Mon.sumTo n (l.drop k))) (fun _ i => l.length - (intOf i).toNat)
  case atStart => exact ⟨0, 0, by omega, rfl, rfl, by show Mon.fits 0; decide, rfl⟩
  case round =>
    obtain ⟨k, n, hk, rfl, rfl, hn, hs⟩ := hrel
    by_cases hlt : k < l.length
    · obtain ⟨b, off, rfl, hc⟩ := h4 (by omega)
      have hc := intsE_cell hlt hc
      have hi : (k : Int) < (l.length : Int) := by omega
      have hx := Lib.hid (Hf.out l[k] (List.getElem_mem hlt))
      have Hs := Lib.hid (hs.out.trans (Mon.sum_step hlt))
      clear h4 hs
      generalize l[k] = x at *
      go_wp2_with fail
      with_reducible refine (moneyAdd _ _ _ hn.out hx.out).mono ?_
      rintro e w' ⟨rfl, rfl⟩
      by_cases hz : Mon.fits (n + x)
      · rw [Mon.told_ok hz]
        have Hz := Lib.hid hz
        clear hz
        go_wp2_with fail
        go_round
        case rel => exact ⟨k + 1, n + x, by omega, by go_num, rfl, Hz, by show _ = _; rw [Hs.out, if_pos Hz.out]⟩
        case measure => simp [intOf]; omega
      · rw [Mon.told_no hz]
        have Hz := Lib.hid hz
        clear hz
        go_wp2_with fail
        go_ret2
        exact ⟨by rw [Mon.sum_none (by rw [Hs.out, if_neg Hz.out])]; rfl, rfl⟩
    · have hk' : k = l.length := by omega
      subst hk'
      go_wp2_with fail
      go_ret2
      exact ⟨by rw [Mon.sum_some (by rw [hs.out, List.drop_of_length_le (Nat.le_refl _)]; rfl)]; rfl, rfl⟩
end Go.Proofs.YtfimaamndcdofaaDoor
