/- Entries and books: plain words. -/
import Derived.Test.YtfimaamndcdofaaBook1
import Derived.Test.YtfimaamndcdofaaMon
namespace Go.Proofs.Ytfimaamndcdofaa
open Go Go.RowKit
/-- a part: its category, rate, net, tax -/
structure Part where
  cat : ByteArray
  bp : Int
  net : Int
  tax : Int
def partE : Enc Part := ⟨4, fun x => [.string x.cat, .int .i64 x.bp, .int .i64 x.net, .int .i64 x.tax], fun _ => rfl, fun x v hv => by simp only [List.mem_cons, List.not_mem_nil, or_false] at hv; rcases hv with rfl | rfl | rfl | rfl <;> rfl, by decide⟩
theorem tPart : SlT Try.prog 28 27 4 40 := SlT.mk' (z := .agg #[.string .empty, .int .i64 0, .int .i64 0, .int .i64 0]) Try.underlying28 (by kernel_rfl) rfl (by decide) (by decide)
/-- a list, or why there is none: (slice of the call's own, 0), or (nil, why) -/
def TellsL {α : Type} (E : Enc α) (w' : World) (B : Nat) (t : TypeId) (r : Except Int (List α)) (e : Ending) : Prop :=
  match r with
  | .ok l => ∃ v, e = .returned (.tuple #[v, .int .i64 0]) ∧ OwnR E w' B t v l
  | .error n => e = .returned (.tuple #[.slice none 0 0, .int .i64 n])
def sOwed : ByteArray := { data := #[111, 119, 101, 100] }
def sNet : ByteArray := { data := #[110, 101, 116, 47] }
def sTax : ByteArray := { data := #[116, 97, 120, 47] }
def pairOf (p : Part) : List Bal := [(sNet ++ p.cat, 0 - p.net), (sTax ++ p.cat, 0 - p.tax)]
def entTo : List Bal → List Part → Except Int (List Bal)
  | acc, [] => .ok acc
  | acc, p :: r => if Mon.fits (0 - p.net) ∧ Mon.fits (0 - p.tax) then entTo (acc ++ pairOf p) r else .error 7
def entries (gross : Int) (ps : List Part) : Except Int (List Bal) := entTo [(sOwed, gross)] ps
theorem ent_yes {acc : List Bal} {ps : List Part} {k : Nat} (hk : k < ps.length) (h1 : Mon.fits (0 - ps[k].net)) (h2 : Mon.fits (0 - ps[k].tax)) : entTo acc (ps.drop k) = entTo (acc ++ pairOf ps[k]) (ps.drop (k + 1)) := by
  rw [List.drop_eq_getElem_cons hk]; unfold entTo; rw [if_pos ⟨h1, h2⟩]
  cases hd : List.drop (k + 1) ps <;> rfl
theorem ent_no {acc : List Bal} {ps : List Part} {k : Nat} (hk : k < ps.length) (h : ¬ (Mon.fits (0 - ps[k].net) ∧ Mon.fits (0 - ps[k].tax))) : entTo acc (ps.drop k) = .error 7 := by
  rw [List.drop_eq_getElem_cons hk]; unfold entTo; rw [if_neg h]
/-- where a name stands, or would -/
def findB (l : List Bal) (a : ByteArray) : Nat := (l.takeWhile fun y => ltB y.1 a).length
theorem findB_le (l : List Bal) (a : ByteArray) : findB l a ≤ l.length := (List.takeWhile_sublist _).length_le
/-- the list with a row for the name -/
def withB (l : List Bal) (a : ByteArray) : List Bal :=
  if h : findB l a < l.length then (if eqB (l[findB l a]).1 a then l else l.take (findB l a) ++ (a, 0) :: l.drop (findB l a)) else l ++ [(a, 0)]
theorem withB_lt (l : List Bal) (a : ByteArray) : findB l a < (withB l a).length := by
  unfold withB
  split
  · split
    · assumption
    · simp; omega
  · have := findB_le l a; simp; omega
theorem withB_length (l : List Bal) (a : ByteArray) : (withB l a).length ≤ l.length + 1 := by
  unfold withB
  split
  · split
    · omega
    · simp; omega
  · simp
def putB (l : List Bal) (x : Bal) : Except Int (List Bal) :=
  let m := withB l x.1
  let k := findB l x.1
  let y := m[k]'(withB_lt l x.1)
  if Mon.fits (y.2 + x.2) then .ok (m.set k (y.1, y.2 + x.2)) else .error 7
def enterTo : List Bal → List Bal → Except Int (List Bal)
  | acc, [] => .ok acc
  | acc, x :: r => match putB acc x with
    | .ok m => enterTo m r
    | .error e => .error e
def enter (book l : List Bal) : Except Int (List Bal) := if rightB book then enterTo book l else .error 1

theorem findB_of {l : List Bal} {a : ByteArray} {k : Nat} (hk : k ≤ l.length) (h1 : ∀ j (h : j < l.length), j < k → ltB l[j].1 a = true) (h2 : ∀ h : k < l.length, ltB l[k].1 a = false) : findB l a = k := by
  induction l generalizing k with
  | nil => simp at hk; subst hk; rfl
  | cons y l ih =>
    unfold findB
    cases k with
    | zero =>
      have h := h2 (by simp)
      rw [List.takeWhile_cons]
      simp only [List.getElem_cons_zero] at h
      rw [h]; rfl
    | succ k =>
      have h := h1 0 (by simp) (by omega)
      rw [List.takeWhile_cons]
      simp only [List.getElem_cons_zero] at h
      rw [h]
      simp only [if_true, List.length_cons]
      have := ih (k := k) (by simpa using hk) (fun j h hj => by have := h1 (j + 1) (by simpa using h) (by omega); simpa using this) (fun h => by have := h2 (by simpa using h); simpa using this)
      unfold findB at this
      rw [this]
theorem findB_lt_true {l : List Bal} {a : ByteArray} {j : Nat} (h : j < l.length) (hj : j < findB l a) : ltB l[j].1 a = true := by
  induction l generalizing j with
  | nil => simp at h
  | cons y l ih =>
    unfold findB at hj
    rw [List.takeWhile_cons] at hj
    by_cases hy : ltB y.1 a = true
    · rw [hy] at hj
      cases j with
      | zero => exact hy
      | succ j =>
        have := ih (j := j) (by simpa using h) (by unfold findB; simpa using hj)
        simpa using this
    · simp [hy] at hj
theorem withB_end {l : List Bal} {a : ByteArray} {k : Nat} (hf : findB l a = k) (hk : k = l.length) : withB l a = l.take k ++ (a, 0) :: l.drop k := by
  unfold withB
  rw [dif_neg (by omega), hk, List.take_of_length_le (Nat.le_refl _), List.drop_of_length_le (Nat.le_refl _)]
theorem withB_ne {l : List Bal} {a : ByteArray} {k : Nat} (hf : findB l a = k) (hk : k < l.length) (h : eqB l[k].1 a = false) : withB l a = l.take k ++ (a, 0) :: l.drop k := by
  unfold withB
  rw [dif_pos (by omega)]
  simp only [hf, h]
  rfl
theorem withB_eq {l : List Bal} {a : ByteArray} {k : Nat} (hf : findB l a = k) (hk : k < l.length) (h : eqB l[k].1 a = true) : withB l a = l := by
  unfold withB
  rw [dif_pos (by omega)]
  simp only [hf, h, if_true]
theorem withB_fits {l : List Bal} {a : ByteArray} (h : ∀ y ∈ l, Mon.fits y.2) : ∀ y ∈ withB l a, Mon.fits y.2 := by
  intro y hy
  have h0 : Mon.fits 0 := by decide
  unfold withB at hy
  split at hy
  · split at hy
    · exact h y hy
    · rcases List.mem_append.1 hy with h1 | h1
      · exact h y (List.mem_of_mem_take h1)
      · rcases List.mem_cons.1 h1 with rfl | h1
        · exact h0
        · exact h y (List.mem_of_mem_drop h1)
  · rcases List.mem_append.1 hy with h1 | h1
    · exact h y h1
    · simp at h1; subst h1; exact h0
theorem enter_yes {acc l m : List Bal} {k : Nat} (hk : k < l.length) (h : putB acc l[k] = .ok m) : enterTo acc (l.drop k) = enterTo m (l.drop (k + 1)) := by
  rw [List.drop_eq_getElem_cons hk]
  rw [enterTo, h]
theorem enter_no {acc l : List Bal} {k : Nat} {n : Int} (hk : k < l.length) (h : putB acc l[k] = .error n) : enterTo acc (l.drop k) = .error n := by
  rw [List.drop_eq_getElem_cons hk, enterTo, h]
theorem putB_yes {acc : List Bal} {x : Bal} {m : List Bal} {k : Nat} (hm : withB acc x.1 = m) (hf : findB acc x.1 = k) (hk : k < m.length) (h : Mon.fits (m[k].2 + x.2)) : putB acc x = .ok (m.set k (m[k].1, m[k].2 + x.2)) := by
  subst hm; subst hf
  unfold putB; simp only; rw [if_pos h]
theorem putB_no {acc : List Bal} {x : Bal} {m : List Bal} {k : Nat} (hm : withB acc x.1 = m) (hf : findB acc x.1 = k) (hk : k < m.length) (h : ¬ Mon.fits (m[k].2 + x.2)) : putB acc x = .error 7 := by
  subst hm; subst hf
  unfold putB; simp only; rw [if_neg h]
theorem set_fits {m : List Bal} {k : Nat} {y : Bal} (h : ∀ y ∈ m, Mon.fits y.2) (hy : Mon.fits y.2) : ∀ z ∈ m.set k y, Mon.fits z.2 := fun z hz => by
  rcases List.mem_or_eq_of_mem_set hz with h1 | rfl
  · exact h z h1
  · exact hy
end Go.Proofs.Ytfimaamndcdofaa
