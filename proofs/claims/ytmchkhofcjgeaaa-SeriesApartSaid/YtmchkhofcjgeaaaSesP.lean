/- Sessions: plain words (what chapter 13 says), and how they lie in memory. -/
import Derived.Test.YtmchkhofcjgeaaaRows
import Derived.Test.YtmchkhofcjgeaaaRds
namespace Go.Proofs.Ytmchkhofcjgeaaa
open Go Go.RowKit
/-- a reply: why, number, gross -/
structure Rep where
  why : Int
  num : Int
  gross : Int
structure Ses where
  id : Int
  last : Int
  rep : Rep
instance : DecidableEq Rep := fun a b => decidable_of_iff (a.why = b.why ∧ a.num = b.num ∧ a.gross = b.gross) ⟨fun ⟨h1, h2, h3⟩ => by cases a; cases b; simp_all, fun h => by subst h; exact ⟨rfl, rfl, rfl⟩⟩
instance : DecidableEq Ses := fun a b => decidable_of_iff (a.id = b.id ∧ a.last = b.last ∧ a.rep = b.rep) ⟨fun ⟨h1, h2, h3⟩ => by cases a; cases b; simp_all, fun h => by subst h; exact ⟨rfl, rfl, rfl⟩⟩
def rep0 : Rep := ⟨0, 0, 0⟩
def ses0 : Ses := ⟨0, 0, rep0⟩
def sesE : Enc Ses := ⟨5, fun x => [.int .i64 x.id, .int .i64 x.last, .int .i64 x.rep.why, .int .i64 x.rep.num, .int .i64 x.rep.gross], fun _ => rfl, fun x v hv => by simp only [List.mem_cons, List.not_mem_nil, or_false] at hv; rcases hv with rfl | rfl | rfl | rfl | rfl <;> rfl, by decide⟩
theorem tSes : SlT Try.prog 25 33 5 40 := SlT.mk' (z := .agg #[.int .i64 0, .int .i64 0, .int .i64 0, .int .i64 0, .int .i64 0]) Try.underlying25 (by kernel_rfl) rfl (by decide) (by decide)

/-- may a session stand behind one of that id? -/
def okS (la : Int) (s : Ses) : Bool := decide (la < s.id) && (decide (0 ≤ s.last) && (decide (s.last ≤ 1099511627776) && (!(s.last == 0) || decide (s.rep = rep0))))
def chainS : Int → List Ses → Bool
  | _, [] => true
  | la, s :: r => okS la s && chainS s.id r
def rightS (l : List Ses) : Bool := decide (l.length ≤ 8) && chainS 0 l
/-- where the first one is of which p holds, counted from k on; -1: none -/
def placeBy {α : Type} (p : α → Bool) : List α → Nat → Int
  | [], _ => -1
  | x :: r, k => if p x then (k : Int) else placeBy p r (k + 1)
def isId (id : Int) (s : Ses) : Bool := s.id == id
def placeS (l : List Ses) (id : Int) : Int := placeBy (isId id) l 0
/-- where an id stands, or would -/
def findS (l : List Ses) (id : Int) : Nat := (l.takeWhile fun s => decide (s.id < id)).length
def joinS (l : List Ses) (id : Int) : Except Int (List Ses) :=
  if rightS l = false ∨ id < 1 then .error 1
  else if 0 ≤ placeS l id then .error 12
  else if 8 ≤ l.length then .error 14
  else .ok (l.take (findS l id) ++ ⟨id, 0, rep0⟩ :: l.drop (findS l id))
def leaveS (l : List Ses) (id : Int) : Except Int (List Ses) :=
  if rightS l = false then .error 1
  else if placeS l id < 0 then .error 11
  else .ok (l.take (placeS l id).toNat ++ l.drop ((placeS l id).toNat + 1))
def lookS (l : List Ses) (id seq : Int) : Rep × Bool × Int :=
  if rightS l = false then (rep0, false, 1)
  else match l[(placeS l id).toNat]? with
    | none => (rep0, false, 15)
    | some s =>
      if placeS l id < 0 then (rep0, false, 15)
      else if seq < 1 ∨ 1099511627776 < seq then (rep0, false, 1)
      else if seq = s.last then (s.rep, true, 0)
      else if seq < s.last then (rep0, false, 16)
      else (rep0, false, 0)
def keepS (l : List Ses) (id seq : Int) (r : Rep) : Except Int (List Ses) :=
  if (lookS l id seq).2.2 ≠ 0 then .error (lookS l id seq).2.2
  else if (lookS l id seq).2.1 = true then .error 12
  else .ok (l.set (placeS l id).toNat ⟨id, seq, r⟩)

section
variable {α : Type} {p : α → Bool} {l : List α}
theorem placeBy_spec (p : α → Bool) (l : List α) (k : Nat) : (placeBy p l k = -1 ∧ ∀ x ∈ l, p x = false) ∨ ∃ j, ∃ h : j < l.length, placeBy p l k = ((k + j : Nat) : Int) ∧ p l[j] = true ∧ ∀ i (h' : i < l.length), i < j → p l[i] = false := by
  induction l generalizing k with
  | nil => exact .inl ⟨rfl, by simp⟩
  | cons x l ih =>
    cases hx : p x with
    | true => exact .inr ⟨0, by simp, by simp [placeBy, hx], by simpa using hx, fun i _ h => by omega⟩
    | false =>
      rcases ih (k + 1) with ⟨h1, h2⟩ | ⟨j, h, h1, h2, h3⟩
      · refine .inl ⟨by simp [placeBy, hx, h1], fun y hy => ?_⟩
        rcases List.mem_cons.1 hy with rfl | hy
        · exact hx
        · exact h2 y hy
      · refine .inr ⟨j + 1, by simpa using h, ?_, by simpa using h2, fun i h' hi => ?_⟩
        · simp only [placeBy, hx, Bool.false_eq_true, if_false]; rw [h1]; congr 1; omega
        · cases i with
          | zero => simpa using hx
          | succ i => simpa using h3 i (by simpa using h') (by omega)
theorem placeBy_hit {k : Nat} (h : k < l.length) (hp : p l[k] = true) : placeBy p (l.drop k) k = k := by
  rw [List.drop_eq_getElem_cons h, placeBy, if_pos hp]
theorem placeBy_miss {k : Nat} (h : k < l.length) (hp : p l[k] = false) : placeBy p (l.drop k) k = placeBy p (l.drop (k + 1)) (k + 1) := by
  rw [List.drop_eq_getElem_cons h, placeBy, if_neg (by rw [hp]; simp)]
theorem placeBy_end {k : Nat} (h : l.length ≤ k) : placeBy p (l.drop k) k = -1 := by rw [List.drop_of_length_le h]; rfl
end
theorem placeS_spec (l : List Ses) (id : Int) : (placeS l id = -1 ∧ ∀ x ∈ l, x.id ≠ id) ∨ ∃ j, ∃ h : j < l.length, placeS l id = (j : Int) ∧ l[j].id = id ∧ ∀ i (h' : i < l.length), i < j → l[i].id ≠ id := by
  unfold placeS
  rcases placeBy_spec (isId id) l 0 with ⟨h1, h2⟩ | ⟨j, h, h1, h2, h3⟩
  · exact .inl ⟨h1, fun x hx e => by have := h2 x hx; simp [isId, e] at this⟩
  · exact .inr ⟨j, h, by rw [h1]; simp, by simpa [isId] using h2, fun i h' hi e => by have := h3 i h' hi; simp [isId, e] at this⟩
theorem chainS_step {la : Int} {l : List Ses} {k : Nat} (h : k < l.length) : chainS la (l.drop k) = (okS la l[k] && chainS l[k].id (l.drop (k + 1))) := by
  rw [List.drop_eq_getElem_cons h, chainS]
theorem chainS_end {la : Int} {l : List Ses} {k : Nat} (h : l.length ≤ k) : chainS la (l.drop k) = true := by rw [List.drop_of_length_le h]; rfl
theorem findS_le (l : List Ses) (id : Int) : findS l id ≤ l.length := (List.takeWhile_sublist _).length_le
theorem findS_lt_true {l : List Ses} {id : Int} {k : Nat} (h : k < findS l id) (hk : k < l.length) : l[k].id < id := by
  unfold findS at h
  have h1 : (l.takeWhile fun s => decide (s.id < id))[k]'h ∈ l.takeWhile fun s => decide (s.id < id) := List.getElem_mem h
  have h2 := List.all_eq_true.1 (List.all_takeWhile (l := l) (p := fun s : Ses => decide (s.id < id))) _ h1
  have h3 : (l.takeWhile fun s => decide (s.id < id))[k]'h = l[k] := (List.takeWhile_prefix _).getElem h
  rw [h3] at h2; simpa using h2
theorem findS_hi {l : List Ses} {id : Int} (hk : findS l id < l.length) : ¬ l[findS l id].id < id := by
  induction l with
  | nil => simp at hk
  | cons x l ih =>
    by_cases hx : x.id < id
    · have e : findS (x :: l) id = findS l id + 1 := by unfold findS; rw [List.takeWhile_cons]; simp [hx]
      simp only [e, List.getElem_cons_succ]
      exact ih (by rw [e] at hk; simpa using hk)
    · have e : findS (x :: l) id = 0 := by unfold findS; rw [List.takeWhile_cons]; simp [hx]
      simp only [e, List.getElem_cons_zero]; exact hx
/-- a place that all ahead of it are below, and that is not below, is the place -/
theorem findS_is {l : List Ses} {id : Int} {k : Nat} (hk : k ≤ l.length) (h1 : ∀ i (h : i < l.length), i < k → l[i].id < id) (h2 : ∀ h : k < l.length, ¬ l[k].id < id) : findS l id = k := by
  have hle := findS_le l id
  rcases Nat.lt_trichotomy (findS l id) k with h | h | h
  · exact absurd (h1 _ (by omega) h) (findS_hi (by omega))
  · exact h
  · exact absurd (findS_lt_true h (by omega)) (h2 (by omega))
/-- a list, or why there is none: (slice of the call's own, 0), or (nil, why) -/
def TellsL {α : Type} (E : Enc α) (w' : World) (B : Nat) (t : TypeId) (r : Except Int (List α)) (e : Ending) : Prop :=
  match r with
  | .ok l => ∃ v, e = .returned (.tuple #[v, .int .i64 0]) ∧ OwnR E w' B t v l
  | .error n => e = .returned (.tuple #[.slice none 0 0, .int .i64 n])
def resL {α : Type} (r : Except Int (List α)) : List α := match r with | .ok l => l | .error _ => []
def resE {α : Type} (r : Except Int (List α)) : Int := match r with | .ok _ => 0 | .error n => n
theorem TellsL.uni {α : Type} {E : Enc α} {w' : World} {B : Nat} {t : TypeId} {r : Except Int (List α)} {e : Ending} (h : TellsL E w' B t r e) :
    ∃ v, e = .returned (.tuple #[v, .int .i64 (resE r)]) ∧ OwnR E w' B t v (resL r) := by
  cases r with
  | ok l => exact h
  | error n => exact ⟨_, h, OwnR.nil _ _ _⟩
end Go.Proofs.Ytmchkhofcjgeaaa
