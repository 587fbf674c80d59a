/- Books: the plain law. What an account has, and whether it is there; entering keeps the order, adds up, and never shrinks. -/
import Derived.Test.YtfimaamndcdofaaBookE
import Derived.Test.YtfimaamndcdofaaWide
namespace Go.Proofs.Ytfimaamndcdofaa
open Go Go.RowKit

theorem bl_irrefl (x : List UInt8) : Op.bytesLess x x = false := by
  induction x with
  | nil => rfl
  | cons a x ih => simp [Op.bytesLess, ih]
theorem bl_trans : ∀ {x y z : List UInt8}, Op.bytesLess x y = true → Op.bytesLess y z = true → Op.bytesLess x z = true
  | _, [], _, h, _ => by simp [Op.bytesLess] at h
  | _, _ :: _, [], _, h => by simp [Op.bytesLess] at h
  | [], _ :: _, _ :: _, _, _ => rfl
  | a :: x, b :: y, c :: z, h1, h2 => by
    simp only [Op.bytesLess, Bool.or_eq_true, Bool.and_eq_true, decide_eq_true_eq, beq_iff_eq] at h1 h2 ⊢
    rcases h1 with h1 | ⟨rfl, h1⟩
    · rcases h2 with h2 | ⟨rfl, h2⟩
      · exact .inl (UInt8.lt_trans h1 h2)
      · exact .inl h1
    · rcases h2 with h2 | ⟨rfl, h2⟩
      · exact .inl h2
      · exact .inr ⟨rfl, bl_trans h1 h2⟩
theorem bl_total : ∀ {x y : List UInt8}, Op.bytesLess x y = false → Op.bytesLess y x = false → x = y
  | [], [], _, _ => rfl
  | [], _ :: _, h, _ => by simp [Op.bytesLess] at h
  | _ :: _, [], _, h => by simp [Op.bytesLess] at h
  | a :: x, b :: y, h1, h2 => by
    simp only [Op.bytesLess, Bool.or_eq_false_iff, Bool.and_eq_false_iff, decide_eq_false_iff_not, beq_eq_false_iff_ne] at h1 h2
    have hab : a = b := UInt8.le_antisymm (UInt8.not_lt.1 h2.1) (UInt8.not_lt.1 h1.1)
    subst hab
    have e1 : Op.bytesLess x y = false := by rcases h1.2 with h | h; exact absurd rfl h; exact h
    have e2 : Op.bytesLess y x = false := by rcases h2.2 with h | h; exact absurd rfl h; exact h
    rw [bl_total e1 e2]
theorem eqB_eq (a b : ByteArray) : eqB a b = true ↔ a = b := by
  unfold eqB
  constructor
  · intro h
    have h1 : a.toList = b.toList := by simpa using h
    rw [ByteArray.toList_eq, ByteArray.toList_eq] at h1
    exact ByteArray.ext (Array.ext' h1)
  · rintro rfl; simp
theorem ltB_irrefl (a : ByteArray) : ltB a a = false := bl_irrefl _
theorem ltB_trans {a b c : ByteArray} (h1 : ltB a b = true) (h2 : ltB b c = true) : ltB a c = true := bl_trans h1 h2
theorem ltB_total {a b : ByteArray} (h1 : ltB a b = false) (h2 : ltB b a = false) : a = b := by
  have h := bl_total h1 h2
  rw [ByteArray.toList_eq, ByteArray.toList_eq] at h
  exact ByteArray.ext (Array.ext' h)

def Up (l : List Bal) : Prop := l.Pairwise fun x y => ltB x.1 y.1 = true
theorem right_up (l : List Bal) : rightB l = true ↔ Up l := by
  induction l with
  | nil => simp [rightB, Up]
  | cons a r ih =>
    cases r with
    | nil => simp [rightB, Up]
    | cons b r =>
      show (ltB a.1 b.1 && rightB (b :: r)) = true ↔ _
      unfold Up at ih ⊢
      rw [Bool.and_eq_true, ih]
      constructor
      · rintro ⟨h1, h2⟩
        refine List.pairwise_cons.2 ⟨fun y hy => ?_, h2⟩
        rcases List.mem_cons.1 hy with rfl | hy
        · exact h1
        · exact ltB_trans h1 ((List.pairwise_cons.1 h2).1 y hy)
      · intro h
        obtain ⟨h1, h2⟩ := List.pairwise_cons.1 h
        exact ⟨h1 b (by simp), h2⟩

/-- what an account has, and whether it is there -/
def amtOf (l : List Bal) (a : ByteArray) : Int := ((l.filter fun y => eqB y.1 a).map (·.2)).sum
def has (l : List Bal) (a : ByteArray) : Bool := l.any fun y => eqB y.1 a
theorem amtOf_append (l m : List Bal) (a : ByteArray) : amtOf (l ++ m) a = amtOf l a + amtOf m a := by
  unfold amtOf; rw [List.filter_append, List.map_append, List.sum_append]
theorem amtOf_cons (x : Bal) (l : List Bal) (a : ByteArray) : amtOf (x :: l) a = (if eqB x.1 a then x.2 else 0) + amtOf l a := by
  unfold amtOf
  rw [List.filter_cons]
  split <;> simp
theorem amtOf_nil (a : ByteArray) : amtOf [] a = 0 := rfl
theorem has_append (l m : List Bal) (a : ByteArray) : has (l ++ m) a = (has l a || has m a) := by unfold has; rw [List.any_append]
theorem has_cons (x : Bal) (l : List Bal) (a : ByteArray) : has (x :: l) a = (eqB x.1 a || has l a) := by unfold has; rw [List.any_cons]
theorem sum_amts_append (l m : List Bal) : ((l ++ m).map (·.2)).sum = (l.map (·.2)).sum + (m.map (·.2)).sum := by rw [List.map_append, List.sum_append]

theorem find_split (l : List Bal) (a : ByteArray) : (∀ y ∈ l.take (findB l a), ltB y.1 a = true) ∧ (∀ h : findB l a < l.length, ltB l[findB l a].1 a = false) := by
  constructor
  · intro y hy
    obtain ⟨j, hj, rfl⟩ := List.getElem_of_mem hy
    rw [List.length_take] at hj
    rw [List.getElem_take]
    exact findB_lt_true (by omega) (by omega)
  · induction l with
    | nil => intro h; simp at h
    | cons y l ih =>
      intro h
      by_cases hy : ltB y.1 a = true
      · have e : findB (y :: l) a = findB l a + 1 := by unfold findB; rw [List.takeWhile_cons, hy]; simp
        simp only [e, List.getElem_cons_succ]
        exact ih (by rw [e] at h; simpa using h)
      · have e : findB (y :: l) a = 0 := by unfold findB; rw [List.takeWhile_cons]; simp [hy]
        simp only [e, List.getElem_cons_zero]
        simpa using hy
theorem withB_split (l : List Bal) (a : ByteArray) : withB l a = l.take (findB l a) ++ (a, 0) :: l.drop (findB l a) ∨ (withB l a = l ∧ ∃ h : findB l a < l.length, l[findB l a].1 = a) := by
  rcases Nat.lt_or_ge (findB l a) l.length with h | h
  · by_cases he : eqB l[findB l a].1 a = true
    · exact .inr ⟨withB_eq rfl h he, h, (eqB_eq _ _).1 he⟩
    · exact .inl (withB_ne rfl h (by simpa using he))
  · exact .inl (withB_end rfl (by have := findB_le l a; omega))
theorem withB_at (l : List Bal) (a : ByteArray) : ((withB l a)[findB l a]'(withB_lt l a)).1 = a := by
  rcases withB_split l a with h | ⟨h, hl, he⟩
  · have hk : findB l a = (l.take (findB l a)).length := by rw [List.length_take]; have := findB_le l a; omega
    have : (withB l a)[findB l a]? = some (a, 0) := by
      rw [h, List.getElem?_append_right (by omega), ← hk]; simp
    rw [List.getElem?_eq_getElem (withB_lt l a)] at this
    rw [Option.some.inj this]
  · have : (withB l a)[findB l a]? = some l[findB l a] := by rw [h]; exact List.getElem?_eq_getElem hl
    rw [List.getElem?_eq_getElem (withB_lt l a)] at this
    rw [Option.some.inj this]; exact he
theorem withB_amt (l : List Bal) (a b : ByteArray) : amtOf (withB l a) b = amtOf l b := by
  rcases withB_split l a with h | ⟨h, _⟩
  · rw [h, amtOf_append, amtOf_cons]
    have e : amtOf l b = amtOf (l.take (findB l a)) b + amtOf (l.drop (findB l a)) b := by rw [← amtOf_append, List.take_append_drop]
    rw [e]; split <;> omega
  · rw [h]
theorem withB_sum (l : List Bal) (a : ByteArray) : ((withB l a).map (·.2)).sum = (l.map (·.2)).sum := by
  rcases withB_split l a with h | ⟨h, _⟩
  · rw [h, sum_amts_append]
    have e : (l.map (·.2)).sum = ((l.take (findB l a)).map (·.2)).sum + ((l.drop (findB l a)).map (·.2)).sum := by rw [← sum_amts_append, List.take_append_drop]
    rw [e]; simp
  · rw [h]
theorem withB_has (l : List Bal) (a b : ByteArray) : has (withB l a) b = (has l b || eqB a b) := by
  rcases withB_split l a with h | ⟨h, hl, he⟩
  · rw [h, has_append, has_cons]
    have e : has l b = (has (l.take (findB l a)) b || has (l.drop (findB l a)) b) := by rw [← has_append, List.take_append_drop]
    rw [e]; generalize eqB a b = x; generalize has (l.take (findB l a)) b = y; generalize has (l.drop (findB l a)) b = z
    cases x <;> cases y <;> cases z <;> rfl
  · rw [h]
    by_cases hb : eqB a b = true
    · have : has l b = true := by
        unfold has
        rw [List.any_eq_true]
        exact ⟨l[findB l a], List.getElem_mem hl, by rw [he]; exact hb⟩
      rw [this]; rfl
    · simp [hb]
theorem withB_up {l : List Bal} (a : ByteArray) (hl : Up l) : Up (withB l a) := by
  rcases withB_split l a with h | ⟨h, _⟩
  · obtain ⟨h1, h2⟩ := find_split l a
    unfold Up at *
    rw [h, List.pairwise_append, List.pairwise_cons]
    have hl' : List.Pairwise (fun x y => ltB x.1 y.1 = true) (l.take (findB l a) ++ l.drop (findB l a)) := by rw [List.take_append_drop]; exact hl
    obtain ⟨p1, p2, p3⟩ := List.pairwise_append.1 hl'
    have hgt : ∀ y ∈ l.drop (findB l a), ltB a y.1 = true := by
      intro y hy
      have hlt : findB l a < l.length := by
        rcases Nat.lt_or_ge (findB l a) l.length with h | h
        · exact h
        · rw [List.drop_of_length_le h] at hy; cases hy
      have hx : ltB a l[findB l a].1 = true := by
        cases hc : ltB a l[findB l a].1 with
        | true => rfl
        | false =>
          exfalso
          have e := ltB_total hc (h2 hlt)
          have hw : withB l a = l := withB_eq rfl hlt ((eqB_eq _ _).2 e.symm)
          rw [hw] at h
          have := congrArg List.length h
          simp at this; omega
      rw [List.drop_eq_getElem_cons hlt] at hy p2
      rcases List.mem_cons.1 hy with rfl | hy
      · exact hx
      · exact ltB_trans hx ((List.pairwise_cons.1 p2).1 y hy)
    refine ⟨p1, ⟨hgt, p2⟩, fun x hx y hy => ?_⟩
    rcases List.mem_cons.1 hy with rfl | hy
    · exact h1 x hx
    · exact p3 x hx y hy
  · rw [h]; exact hl
theorem set_split {l : List Bal} {k : Nat} (h : k < l.length) (y : Bal) : l.set k y = l.take k ++ y :: l.drop (k + 1) := by
  rw [List.set_eq_take_append_cons_drop, if_pos h]
theorem get_split {l : List Bal} {k : Nat} (h : k < l.length) : l = l.take k ++ l[k] :: l.drop (k + 1) := by
  rw [← List.drop_eq_getElem_cons h, List.take_append_drop]
theorem set_amt {l : List Bal} {k : Nat} (h : k < l.length) (v : Int) (b : ByteArray) : amtOf (l.set k (l[k].1, v)) b = amtOf l b + (if eqB l[k].1 b then v - l[k].2 else 0) := by
  have e : amtOf l b = amtOf (l.take k) b + ((if eqB l[k].1 b then l[k].2 else 0) + amtOf (l.drop (k + 1)) b) := by
    conv => lhs; rw [get_split h]
    rw [amtOf_append, amtOf_cons]
  rw [set_split h, amtOf_append, amtOf_cons, e]
  simp only
  split <;> omega
theorem set_has {l : List Bal} {k : Nat} (h : k < l.length) (v : Int) (b : ByteArray) : has (l.set k (l[k].1, v)) b = has l b := by
  have e : has l b = (has (l.take k) b || (eqB l[k].1 b || has (l.drop (k + 1)) b)) := by
    conv => lhs; rw [get_split h]
    rw [has_append, has_cons]
  rw [set_split h, has_append, has_cons, e]
theorem set_sum {l : List Bal} {k : Nat} (h : k < l.length) (v : Int) : ((l.set k (l[k].1, v)).map (·.2)).sum = (l.map (·.2)).sum + (v - l[k].2) := by
  have e : (l.map (·.2)).sum = ((l.take k).map (·.2)).sum + (l[k].2 + ((l.drop (k + 1)).map (·.2)).sum) := by
    conv => lhs; rw [get_split h]
    rw [sum_amts_append, List.map_cons, List.sum_cons]
  rw [set_split h, sum_amts_append, List.map_cons, List.sum_cons, e]
  simp only; omega
theorem set_up {l : List Bal} {k : Nat} (h : k < l.length) (v : Int) (hl : Up l) : Up (l.set k (l[k].1, v)) := by
  unfold Up at *
  rw [List.pairwise_iff_getElem] at hl ⊢
  intro i j hi hj hij
  rw [List.length_set] at hi hj
  have e : ∀ q (hq : q < (l.set k (l[k].1, v)).length), ((l.set k (l[k].1, v))[q]).1 = (l[q]'(by rw [List.length_set] at hq; exact hq)).1 := by
    intro q hq
    rw [List.getElem_set]
    split
    · rename_i e; subst e; rfl
    · rfl
  rw [e i, e j]
  exact hl i j hi hj hij
/-- an account that stands there has what stands there -/
theorem up_amt {l : List Bal} (hl : Up l) {k : Nat} (h : k < l.length) : amtOf l l[k].1 = l[k].2 := by
  have none : ∀ m : List Bal, (∀ y ∈ m, eqB y.1 l[k].1 = false) → amtOf m l[k].1 = 0 := by
    intro m hm
    induction m with
    | nil => rfl
    | cons y m ih => rw [amtOf_cons, hm y (by simp), ih (fun z hz => hm z (by simp [hz]))]; rfl
  have ne : ∀ {a b : ByteArray}, (ltB a b = true ∨ ltB b a = true) → eqB a b = false := by
    intro a b hab
    rw [Bool.eq_false_iff]; intro he
    have := (eqB_eq _ _).1 he
    subst this
    rw [ltB_irrefl] at hab
    simp at hab
  have hs := get_split h
  unfold Up at hl
  have hl' := hl
  rw [hs] at hl'
  obtain ⟨p1, p2, p3⟩ := List.pairwise_append.1 hl'
  have e : amtOf l l[k].1 = amtOf (l.take k ++ l[k] :: l.drop (k + 1)) l[k].1 := by rw [← hs]
  rw [e, amtOf_append, amtOf_cons, none _ (fun y hy => ne (.inl (p3 y hy _ List.mem_cons_self))), none _ (fun y hy => ne (.inr ((List.pairwise_cons.1 p2).1 y hy))), (eqB_eq _ _).2 rfl]
  simp

theorem putB_spec {acc m : List Bal} {x : Bal} (h : putB acc x = .ok m) : (∀ b, amtOf m b = amtOf acc b + (if eqB x.1 b then x.2 else 0)) ∧ (∀ b, has m b = (has acc b || eqB x.1 b)) ∧ (Up acc → Up m) ∧ (m.map (·.2)).sum = (acc.map (·.2)).sum + x.2 ∧ acc.length ≤ m.length := by
  unfold putB at h
  simp only at h
  split at h
  · have ha := withB_at acc x.1
    have hw := withB_lt acc x.1
    simp only [Except.ok.injEq] at h
    subst h
    refine ⟨fun b => ?_, fun b => ?_, fun hu => set_up hw _ (withB_up _ hu), ?_, ?_⟩
    · rw [set_amt hw, withB_amt, ha]; split <;> omega
    · rw [set_has hw, withB_has]
    · rw [set_sum hw, withB_sum]; omega
    · rw [List.length_set]
      rcases withB_split acc x.1 with h | ⟨h, _⟩
      · rw [h]; simp; omega
      · rw [h]; exact Nat.le_refl _
  · cases h
theorem enterTo_spec {acc l m : List Bal} (h : enterTo acc l = .ok m) : (∀ b, amtOf m b = amtOf acc b + amtOf l b) ∧ (∀ b, has m b = (has acc b || has l b)) ∧ (Up acc → Up m) ∧ (m.map (·.2)).sum = (acc.map (·.2)).sum + (l.map (·.2)).sum ∧ acc.length ≤ m.length := by
  induction l generalizing acc with
  | nil =>
    simp only [enterTo, Except.ok.injEq] at h
    subst h
    exact ⟨fun b => by rw [amtOf_nil]; omega, fun b => by simp [has], id, by simp, Nat.le_refl _⟩
  | cons x l ih =>
    unfold enterTo at h
    cases hp : putB acc x with
    | error n => rw [hp] at h; cases h
    | ok m' =>
      rw [hp] at h
      obtain ⟨a1, a2, a3, a4, a5⟩ := putB_spec hp
      obtain ⟨b1, b2, b3, b4, b5⟩ := ih h
      refine ⟨fun b => by rw [b1, a1, amtOf_cons]; omega, fun b => by rw [b2, a2, has_cons, Bool.or_assoc], fun hu => b3 (a3 hu), by rw [b4, a4, List.map_cons, List.sum_cons]; omega, Nat.le_trans a5 b5⟩
/-- amounts that are not too large are entered -/
theorem putB_ok {acc : List Bal} {x : Bal} (hu : Up acc) (h : Mon.fits (amtOf acc x.1 + x.2)) : ∃ m, putB acc x = .ok m := by
  unfold putB
  simp only
  have e := up_amt (withB_up x.1 hu) (withB_lt acc x.1)
  rw [withB_at, withB_amt] at e
  rw [← e, if_pos h]
  exact ⟨_, rfl⟩
theorem enterTo_ok {acc l : List Bal} (A X : Int) (hu : Up acc) (hX : 0 ≤ X) (ha : ∀ b, -A ≤ amtOf acc b ∧ amtOf acc b ≤ A) (hl : ∀ x ∈ l, -X ≤ x.2 ∧ x.2 ≤ X) (hb : A + l.length * X ≤ 9223372036854775807) : ∃ m, enterTo acc l = .ok m := by
  induction l generalizing acc A with
  | nil => exact ⟨acc, rfl⟩
  | cons x l ih =>
    have hx := hl x (by simp)
    have hax := ha x.1
    have hn : 0 ≤ (l.length : Int) * X := Int.mul_nonneg (by omega) hX
    have hlen : ((x :: l).length : Int) * X = l.length * X + X := by rw [List.length_cons, Int.natCast_add, Int.add_mul]; simp
    rw [hlen] at hb
    obtain ⟨m, hm⟩ := putB_ok (x := x) hu (by unfold Mon.fits; omega)
    obtain ⟨a1, a2, a3, a4, _⟩ := putB_spec hm
    unfold enterTo
    rw [hm]
    refine ih (A + X) (a3 hu) (fun b => ?_) (fun y hy => hl y (by simp [hy])) (by omega)
    have := ha b
    rw [a1]; split <;> omega
theorem enterTo_append (acc l m : List Bal) : enterTo acc (l ++ m) = match enterTo acc l with | .ok a => enterTo a m | .error n => .error n := by
  induction l generalizing acc with
  | nil => rfl
  | cons x l ih =>
    rw [List.cons_append, enterTo, enterTo]
    cases putB acc x with
    | error n => rfl
    | ok a => exact ih a
theorem up_nil : Up [] := List.Pairwise.nil
end Go.Proofs.Ytfimaamndcdofaa
