/- Frames one behind the other, cut off anywhere: those that are whole are found. No program in sight. -/
import Derived.Test.YtongoobcmlgdiaaFrmLaws
namespace Go.Proofs.Ytongoobcmlgdiaa
open Go Go.RowKit
namespace Frm

def cat (K : List (List UInt8)) : List UInt8 := K.flatMap one
def good (K : List (List UInt8)) : Prop := ∀ p ∈ K, none' p = false
theorem cat_snoc (K : List (List UInt8)) (p : List UInt8) : cat (K ++ [p]) = cat K ++ one p := by unfold cat; simp
theorem good_snoc {K : List (List UInt8)} {p : List UInt8} (h : good K) (hp : none' p = false) : good (K ++ [p]) := by
  intro q hq
  rcases List.mem_append.1 hq with h1 | h1
  · exact h q h1
  · simp at h1; subst h1; exact hp

/-- where the frames end -/
def endsOf (K : List (List UInt8)) : List Nat := (List.range K.length).map fun j => (cat (K.take (j + 1))).length
theorem endsOf_length (K : List (List UInt8)) : (endsOf K).length = K.length := by simp [endsOf]
theorem endsOf_get (K : List (List UInt8)) (j : Nat) (hj : j < (endsOf K).length) : (endsOf K)[j] = (cat (K.take (j + 1))).length := by simp [endsOf]
theorem endsOf_snoc (K : List (List UInt8)) (p : List UInt8) : endsOf (K ++ [p]) = endsOf K ++ [(cat K).length + (one p).length] := by
  unfold endsOf
  rw [List.length_append, List.length_singleton, List.range_succ, List.map_append]
  congr 1
  · apply List.map_congr_left
    intro j hj
    rw [List.take_append_of_le_length (by have := List.mem_range.1 hj; omega)]
  · simp only [List.map_cons, List.map_nil]
    rw [List.take_of_length_le (by simp), cat_snoc, List.length_append]
theorem cat_take_le (K : List (List UInt8)) (n : Nat) : (cat (K.take n)).length ≤ (cat K).length := by
  have : cat K = cat (K.take n) ++ cat (K.drop n) := by unfold cat; rw [← List.flatMap_append, List.take_append_drop]
  rw [this, List.length_append]; omega

theorem all_cut {K : List (List UInt8)} (h : good K) (k n : Nat) (hn : n ≤ K.length) (h1 : (cat (K.take n)).length ≤ k) (h2 : n < K.length → k < (cat (K.take (n + 1))).length) :
    all ((cat K).take k) = (K.take n, (cat (K.take n)).length) := by
  induction K generalizing k n with
  | nil => simp only [cat, List.flatMap_nil, List.take_nil]; exact all_nil
  | cons p K ih =>
    have hp := h p (by simp)
    have hol := one_length hp
    have hc : cat (p :: K) = one p ++ cat K := rfl
    have hK : good K := fun q hq => h q (by simp [hq])
    cases n with
    | zero =>
      have hk : k < p.length + 8 := by
        have := h2 (by simp)
        have e : cat (List.take (0 + 1) (p :: K)) = one p := by unfold cat; simp
        rw [e, hol] at this; exact this
      rw [hc, List.take_append_of_le_length (by omega)]
      rw [all_bad (cut hp k hk)]; rfl
    | succ n =>
      have e1 : ∀ m, cat ((p :: K).take (m + 1)) = one p ++ cat (K.take m) := fun m => rfl
      rw [e1, List.length_append] at h1
      rw [e1, List.length_append] at h2
      have := ih hK (k - (one p).length) n (by simpa using hn) (by omega) (fun hh => by have := h2 (by simpa using hh); omega)
      rw [hc, List.take_append, List.take_of_length_le (by omega), all_whole hp, this, e1, List.length_append, hol]
      rfl
end Frm
end Go.Proofs.Ytongoobcmlgdiaa
