/- PostEach: the plain law. -/
import Derived.Test.YtfimaamndcdofaaBookP
import Derived.Test.YtfimaamndcdofaaWithin
namespace Go.Proofs.Ytfimaamndcdofaa
open Go Go.RowKit

/-- rows brought into bounds -/
def cutR (lo hi : Int) (l : List Bal) : List Bal := l.map fun x => (x.1, within x.2 lo hi)
theorem cutR_length (lo hi : Int) (l : List Bal) : (cutR lo hi l).length = l.length := by simp [cutR]
theorem cutR_bound {lo hi : Int} (h : lo ≤ hi) {l : List Bal} : ∀ x ∈ cutR lo hi l, lo ≤ x.2 ∧ x.2 ≤ hi := by
  intro x hx
  obtain ⟨y, _, rfl⟩ := List.mem_map.1 hx
  exact within_bounds y.2 lo hi h
theorem cutR_take_succ {lo hi : Int} {l : List Bal} {k : Nat} (h : k < l.length) : cutR lo hi (l.take (k + 1)) = cutR lo hi (l.take k) ++ [(l[k].1, within l[k].2 lo hi)] := by
  unfold cutR; rw [List.take_succ_eq_append_getElem h, List.map_append]; rfl
theorem amtOf_bound {l : List Bal} {X : Int} (hX : 0 ≤ X) (h : ∀ x ∈ l, -X ≤ x.2 ∧ x.2 ≤ X) (a : ByteArray) : -(l.length * X) ≤ amtOf l a ∧ amtOf l a ≤ l.length * X := by
  induction l with
  | nil => rw [amtOf_nil]; simp
  | cons x l ih =>
    have h1 := ih (fun y hy => h y (by simp [hy]))
    have h2 := h x (by simp)
    have e : ((x :: l).length : Int) * X = l.length * X + X := by rw [List.length_cons, Int.natCast_add, Int.add_mul]; simp
    rw [amtOf_cons, e]
    split <;> omega
theorem putB_fits {acc m : List Bal} {x : Bal} (h : putB acc x = .ok m) (hf : ∀ y ∈ acc, Mon.fits y.2) : ∀ y ∈ m, Mon.fits y.2 := by
  unfold putB at h
  simp only at h
  split at h
  · rename_i hz
    simp only [Except.ok.injEq] at h
    subst h
    exact set_fits (withB_fits hf) hz
  · cases h
theorem enterTo_fits {acc l m : List Bal} (h : enterTo acc l = .ok m) (hf : ∀ y ∈ acc, Mon.fits y.2) : ∀ y ∈ m, Mon.fits y.2 := by
  induction l generalizing acc with
  | nil => simp only [enterTo, Except.ok.injEq] at h; subst h; exact hf
  | cons x l ih =>
    unfold enterTo at h
    cases hp : putB acc x with
    | error n => rw [hp] at h; cases h
    | ok m' => rw [hp] at h; exact ih h (putB_fits hp hf)
theorem enterTo_len {acc l m : List Bal} (h : enterTo acc l = .ok m) : m.length ≤ acc.length + l.length := by
  induction l generalizing acc with
  | nil => simp only [enterTo, Except.ok.injEq] at h; subst h; simp
  | cons x l ih =>
    unfold enterTo at h
    cases hp : putB acc x with
    | error n => rw [hp] at h; cases h
    | ok m' =>
      rw [hp] at h
      have h1 := ih h
      have h2 : m'.length ≤ acc.length + 1 := by
        unfold putB at hp
        simp only at hp
        split at hp
        · cases hp; rw [List.length_set]; exact withB_length _ _
        · cases hp
      simp only [List.length_cons]; omega
/-- entered one by one -/
theorem each_step {own acc m : List Bal} {k : Nat} (hk : k < own.length) (h : enterTo [] (own.take k) = .ok acc) (hm : enterTo [] (own.take (k + 1)) = .ok m) : enter acc [own[k]] = .ok m := by
  have hu := (enterTo_spec h).2.2.1 up_nil
  rw [List.take_succ_eq_append_getElem hk, enterTo_append, h] at hm
  unfold enter
  rw [if_pos ((right_up _).2 hu)]; exact hm
theorem each_take {own m : List Bal} (h : enterTo [] own = .ok m) (k : Nat) : ∃ acc, enterTo [] (own.take k) = .ok acc := by
  have e : own = own.take k ++ own.drop k := (List.take_append_drop _ _).symm
  rw [e, enterTo_append] at h
  cases hk : enterTo [] (own.take k) with
  | ok a => exact ⟨a, rfl⟩
  | error n => rw [hk] at h; cases h
/-- ahead of an account that stands there it has nothing -/
theorem up_before {l : List Bal} (hl : Up l) {k : Nat} (h : k < l.length) {a : ByteArray} (ha : l[k].1 = a) : amtOf (l.take k) a = 0 := by
  have e := up_amt hl h
  rw [ha] at e
  have hs := get_split h
  have hl' := hl
  unfold Up at hl'
  rw [hs] at hl'
  obtain ⟨p1, p2, p3⟩ := List.pairwise_append.1 hl'
  have : ∀ m : List Bal, (∀ y ∈ m, ltB y.1 a = true) → amtOf m a = 0 := by
    intro m hm
    induction m with
    | nil => rfl
    | cons y m ih =>
      have hy := hm y (by simp)
      have hne : eqB y.1 a = false := by
        rw [Bool.eq_false_iff]; intro he
        have := (eqB_eq _ _).1 he
        subst this
        rw [ltB_irrefl] at hy; cases hy
      rw [amtOf_cons, hne, ih (fun z hz => hm z (by simp [hz]))]; rfl
  exact this _ (fun y hy => by rw [← ha]; exact p3 y hy _ List.mem_cons_self)
end Go.Proofs.Ytfimaamndcdofaa
