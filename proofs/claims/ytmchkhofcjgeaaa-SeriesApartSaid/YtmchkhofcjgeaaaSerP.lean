/- Series: plain words (what chapter 10 says), and how they lie in memory. -/
import Derived.Test.YtmchkhofcjgeaaaSesP
import Derived.Test.YtmchkhofcjgeaaaSignP
namespace Go.Proofs.Ytmchkhofcjgeaaa
open Go Go.RowKit
structure Srs where
  name : ByteArray
  next : Int
  limit : Int
  shut : Bool
instance : DecidableEq Srs := fun a b => decidable_of_iff (a.name = b.name ∧ a.next = b.next ∧ a.limit = b.limit ∧ a.shut = b.shut) ⟨fun ⟨h1, h2, h3, h4⟩ => by cases a; cases b; simp_all, fun h => by subst h; exact ⟨rfl, rfl, rfl, rfl⟩⟩
def srs0 : Srs := ⟨⟨#[]⟩, 0, 0, false⟩
def srsE : Enc Srs := ⟨4, fun x => [.string x.name, .int .i64 x.next, .int .i64 x.limit, .bool x.shut], fun _ => rfl, fun x v hv => by simp only [List.mem_cons, List.not_mem_nil, or_false] at hv; rcases hv with rfl | rfl | rfl | rfl <;> rfl, by decide⟩
theorem tSrs : SlT Try.prog 50 66 4 40 := SlT.mk' (z := .agg #[.string .empty, .int .i64 0, .int .i64 0, .bool false]) Try.underlying50 (by kernel_rfl) rfl (by decide) (by decide)

def numR (s : Srs) : Bool := decide (1 ≤ s.limit) && (decide (s.limit ≤ 1099511627776) && (decide (1 ≤ s.next) && decide (s.next ≤ s.limit + 1)))
def aheadR (p : Option ByteArray) (n : ByteArray) : Bool := match p with | none => true | some m => ltS m n
def okR (p : Option ByteArray) (s : Srs) : Bool := nameB s.name && (aheadR p s.name && numR s)
def chainR : Option ByteArray → List Srs → Bool
  | _, [] => true
  | p, s :: r => okR p s && chainR (some s.name) r
def rightR (l : List Srs) : Bool := decide (l.length ≤ 8) && chainR none l
def isNm (n : ByteArray) (s : Srs) : Bool := eqS s.name n
def placeR (l : List Srs) (n : ByteArray) : Int := placeBy (isNm n) l 0
def findR (l : List Srs) (n : ByteArray) : Nat := (l.takeWhile fun s => ltS s.name n).length
def openR (l : List Srs) (n : ByteArray) (limit : Int) : Except Int (List Srs) :=
  if rightR l = false then .error 1
  else if nameB n = false then .error 8
  else if limit < 1 ∨ 1099511627776 < limit then .error 1
  else if 0 ≤ placeR l n then .error 12
  else if 8 ≤ l.length then .error 14
  else .ok (l.take (findR l n) ++ ⟨n, 1, limit, false⟩ :: l.drop (findR l n))
/-- the place of a series that isn't shut, and why there is none -/
def atR (l : List Srs) (n : ByteArray) : Int × Int :=
  if rightR l = false then (0, 1)
  else match l[(placeR l n).toNat]? with
    | none => (0, 11)
    | some s => if placeR l n < 0 then (0, 11) else if s.shut = true then (0, 13) else (placeR l n, 0)
def shutR (l : List Srs) (n : ByteArray) : Except Int (List Srs) :=
  if (atR l n).2 ≠ 0 then .error (atR l n).2
  else match l[(atR l n).1.toNat]? with
    | none => .error 11
    | some s => .ok (l.set (atR l n).1.toNat ⟨s.name, s.next, s.limit, true⟩)
/-- the list behind, and the number; or why there is none -/
def takeR (l : List Srs) (n : ByteArray) : Except Int (List Srs × Int) :=
  if (atR l n).2 ≠ 0 then .error (atR l n).2
  else match l[(atR l n).1.toNat]? with
    | none => .error 11
    | some s => if s.limit < s.next then .error 14 else .ok (l.set (atR l n).1.toNat ⟨s.name, s.next + 1, s.limit, s.shut⟩, s.next)
def lookR (l : List Srs) (n : ByteArray) : Srs × Bool :=
  match l[(placeR l n).toNat]? with
  | none => (srs0, false)
  | some s => if placeR l n < 0 then (srs0, false) else (s, true)

theorem placeR_spec (l : List Srs) (n : ByteArray) : (placeR l n = -1 ∧ ∀ x ∈ l, x.name ≠ n) ∨ ∃ j, ∃ h : j < l.length, placeR l n = (j : Int) ∧ l[j].name = n ∧ ∀ i (h' : i < l.length), i < j → l[i].name ≠ n := by
  unfold placeR
  rcases placeBy_spec (isNm n) l 0 with ⟨h1, h2⟩ | ⟨j, h, h1, h2, h3⟩
  · exact .inl ⟨h1, fun x hx e => by have := h2 x hx; simp [isNm, e, eqS_refl] at this⟩
  · exact .inr ⟨j, h, by rw [h1]; simp, (eqS_iff _ _).1 h2, fun i h' hi e => by have := h3 i h' hi; simp [isNm, e, eqS_refl] at this⟩
theorem placeR_lt {l : List Srs} {n : ByteArray} (h : 0 ≤ placeR l n) : ∃ k, ∃ _ : k < l.length, placeR l n = (k : Int) ∧ l[k].name = n := by
  rcases placeR_spec l n with ⟨h1, _⟩ | ⟨j, hj, h1, h2, _⟩
  · omega
  · exact ⟨j, hj, h1, h2⟩
theorem findR_le (l : List Srs) (n : ByteArray) : findR l n ≤ l.length := (List.takeWhile_sublist _).length_le
theorem findR_lt_true {l : List Srs} {n : ByteArray} {k : Nat} (h : k < findR l n) (hk : k < l.length) : ltS l[k].name n = true := by
  unfold findR at h
  have h1 : (l.takeWhile fun s => ltS s.name n)[k]'h ∈ l.takeWhile fun s => ltS s.name n := List.getElem_mem h
  have h2 := List.all_eq_true.1 (List.all_takeWhile (l := l) (p := fun s : Srs => ltS s.name n)) _ h1
  have h3 : (l.takeWhile fun s => ltS s.name n)[k]'h = l[k] := (List.takeWhile_prefix _).getElem h
  rw [h3] at h2; simpa using h2
theorem findR_hi {l : List Srs} {n : ByteArray} (hk : findR l n < l.length) : ltS l[findR l n].name n = false := by
  induction l with
  | nil => simp at hk
  | cons x l ih =>
    by_cases hx : ltS x.name n = true
    · have e : findR (x :: l) n = findR l n + 1 := by unfold findR; rw [List.takeWhile_cons]; simp [hx]
      simp only [e, List.getElem_cons_succ]
      exact ih (by rw [e] at hk; simpa using hk)
    · have e : findR (x :: l) n = 0 := by unfold findR; rw [List.takeWhile_cons]; simp [hx]
      simp only [e, List.getElem_cons_zero]; simpa using hx
theorem findR_is {l : List Srs} {n : ByteArray} {k : Nat} (hk : k ≤ l.length) (h1 : ∀ i (h : i < l.length), i < k → ltS l[i].name n = true) (h2 : ∀ h : k < l.length, ltS l[k].name n = false) : findR l n = k := by
  have hle := findR_le l n
  rcases Nat.lt_trichotomy (findR l n) k with h | h | h
  · have := h1 _ (by omega) h; rw [findR_hi (by omega)] at this; cases this
  · exact h
  · have := findR_lt_true h (by omega); rw [h2 (by omega)] at this; cases this
theorem chainR_step {p : Option ByteArray} {l : List Srs} {k : Nat} (h : k < l.length) : chainR p (l.drop k) = (okR p l[k] && chainR (some l[k].name) (l.drop (k + 1))) := by
  rw [List.drop_eq_getElem_cons h, chainR]
theorem chainR_end {p : Option ByteArray} {l : List Srs} {k : Nat} (h : l.length ≤ k) : chainR p (l.drop k) = true := by rw [List.drop_of_length_le h]; rfl
theorem rightR_len {l : List Srs} (h : rightR l = true) : l.length ≤ 8 := by
  unfold rightR at h; rw [Bool.and_eq_true, decide_eq_true_iff] at h; exact h.1
theorem rightR_no {l : List Srs} {p : Option ByteArray} {k : Nat} (hch : chainR none l = chainR p (l.drop k)) (hk : k < l.length) (h : okR p l[k] = false) : rightR l = false := by
  unfold rightR; rw [hch, chainR_step hk, h]; simp
theorem rightR_next {l : List Srs} {p : Option ByteArray} {k : Nat} (hch : chainR none l = chainR p (l.drop k)) (hk : k < l.length) (h : okR p l[k] = true) : chainR none l = chainR (some l[k].name) (l.drop (k + 1)) := by
  rw [hch, chainR_step hk, h]; rfl
theorem rightR_end {l : List Srs} {p : Option ByteArray} {k : Nat} (hch : chainR none l = chainR p (l.drop k)) (hk : l.length ≤ k) (h8 : l.length ≤ 8) : rightR l = true := by
  unfold rightR; rw [hch, chainR_end hk]; simpa using h8
theorem rightR_long {l : List Srs} (h : 8 < l.length) : rightR l = false := by
  unfold rightR; rw [decide_eq_false (by omega)]; rfl
theorem atR_gone {l : List Srs} {n : ByteArray} (hr : rightR l = true) (hp : placeR l n < 0) : atR l n = (0, 11) := by
  unfold atR
  rw [if_neg (by rw [hr]; simp)]
  split
  · rfl
  · rw [if_pos hp]
theorem atR_at {l : List Srs} {n : ByteArray} {k : Nat} (hr : rightR l = true) (hk : k < l.length) (hp : placeR l n = (k : Int)) : atR l n = if l[k].shut = true then (0, 13) else ((k : Int), 0) := by
  unfold atR
  rw [if_neg (by rw [hr]; simp), hp, show ((k : Int)).toNat = k from by omega, List.getElem?_eq_getElem hk]
  simp only
  rw [if_neg (by omega)]
theorem atR_ok {l : List Srs} {n : ByteArray} (h : (atR l n).2 = 0) : ∃ k, ∃ _ : k < l.length, (atR l n).1 = (k : Int) ∧ placeR l n = (k : Int) ∧ l[k].name = n ∧ l[k].shut = false ∧ rightR l = true := by
  cases hr : rightR l with
  | false =>
    have : atR l n = (0, 1) := by unfold atR; rw [if_pos hr]
    rw [this] at h; simp at h
  | true =>
    by_cases hp : placeR l n < 0
    · rw [atR_gone hr hp] at h; simp at h
    · obtain ⟨k, hk, h1, h2⟩ := placeR_lt (l := l) (n := n) (by omega)
      have ha := atR_at hr hk h1
      cases hs : l[k].shut with
      | true => rw [hs, if_pos rfl] at ha; rw [ha] at h; simp at h
      | false => rw [hs, if_neg (by simp)] at ha; exact ⟨k, hk, by rw [ha], h1, h2, hs, rfl⟩
theorem shutR_ok {l : List Srs} {n : ByteArray} {k : Nat} (hk : k < l.length) (h : (atR l n).2 = 0) (h1 : (atR l n).1 = (k : Int)) : shutR l n = .ok (l.set k ⟨l[k].name, l[k].next, l[k].limit, true⟩) := by
  unfold shutR
  rw [if_neg (by simp [h]), h1, show ((k : Int)).toNat = k from by omega, List.getElem?_eq_getElem hk]
theorem shutR_no {l : List Srs} {n : ByteArray} (h : (atR l n).2 ≠ 0) : shutR l n = .error (atR l n).2 := by unfold shutR; rw [if_pos h]
theorem takeR_no {l : List Srs} {n : ByteArray} (h : (atR l n).2 ≠ 0) : takeR l n = .error (atR l n).2 := by unfold takeR; rw [if_pos h]
theorem takeR_at {l : List Srs} {n : ByteArray} {k : Nat} (hk : k < l.length) (h : (atR l n).2 = 0) (h1 : (atR l n).1 = (k : Int)) :
    takeR l n = if l[k].limit < l[k].next then .error 14 else .ok (l.set k ⟨l[k].name, l[k].next + 1, l[k].limit, l[k].shut⟩, l[k].next) := by
  unfold takeR
  rw [if_neg (by simp [h]), h1, show ((k : Int)).toNat = k from by omega, List.getElem?_eq_getElem hk]
theorem lookR_gone {l : List Srs} {n : ByteArray} (hp : placeR l n < 0) : lookR l n = (srs0, false) := by
  unfold lookR
  split
  · rfl
  · rw [if_pos hp]
theorem lookR_at {l : List Srs} {n : ByteArray} {k : Nat} (hk : k < l.length) (hp : placeR l n = (k : Int)) : lookR l n = (l[k], true) := by
  unfold lookR
  rw [hp, show ((k : Int)).toNat = k from by omega, List.getElem?_eq_getElem hk]
  simp only
  rw [if_neg (by omega)]
/-- a list and a number, or why there is none -/
def TellsN {α : Type} (E : Enc α) (w' : World) (B : Nat) (t : TypeId) (r : Except Int (List α × Int)) (e : Ending) : Prop :=
  match r with
  | .ok l => ∃ v, e = .returned (.tuple #[v, .int .i64 l.2, .int .i64 0]) ∧ OwnR E w' B t v l.1
  | .error n => e = .returned (.tuple #[.slice none 0 0, .int .i64 0, .int .i64 n])
def resNL {α : Type} (r : Except Int (List α × Int)) : List α := match r with | .ok l => l.1 | .error _ => []
def resNN {α : Type} (r : Except Int (List α × Int)) : Int := match r with | .ok l => l.2 | .error _ => 0
def resNE {α : Type} (r : Except Int (List α × Int)) : Int := match r with | .ok _ => 0 | .error n => n
theorem TellsN.uni {α : Type} {E : Enc α} {w' : World} {B : Nat} {t : TypeId} {r : Except Int (List α × Int)} {e : Ending} (h : TellsN E w' B t r e) :
    ∃ v, e = .returned (.tuple #[v, .int .i64 (resNN r), .int .i64 (resNE r)]) ∧ OwnR E w' B t v (resNL r) := by
  cases r with
  | ok l => exact h
  | error n => exact ⟨_, h, OwnR.nil _ _ _⟩
end Go.Proofs.Ytmchkhofcjgeaaa
