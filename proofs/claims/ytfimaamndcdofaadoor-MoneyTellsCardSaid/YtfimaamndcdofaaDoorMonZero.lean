/- Texts of amounts: the zero with a sign; a text that is no numeral. -/
import Derived.Test.YtfimaamndcdofaaDoorMonRead
namespace Go.Proofs.YtfimaamndcdofaaDoor
open Go Go.RowKit
namespace Mon
theorem fold_zero (l : List UInt8) (a : Nat) (h0 : l.foldl (fun u d => 10 * u + (d.toNat - 48)) a = 0) : a = 0 ∧ ∀ x ∈ l, x.toNat - 48 = 0 := by
  induction l generalizing a with
  | nil => exact ⟨h0, fun x hx => by cases hx⟩
  | cons d l ih =>
    obtain ⟨h1, h2⟩ := ih _ h0
    replace h1 : 10 * a + (d.toNat - 48) = 0 := h1
    refine ⟨by omega, fun x hx => ?_⟩
    rcases List.mem_cons.1 hx with rfl | h
    · omega
    · exact h2 x h
theorem num_zero {l : List UInt8} (h : ∀ x ∈ l, 48 ≤ x.toNat) (h0 : num l = 0) : ∀ x ∈ l, x = 48 := fun x hx => by
  have h1 := (fold_zero l 0 h0).2 x hx
  have h2 := h x hx
  exact UInt8.toNat_inj.1 (by show x.toNat = 48; omega)
theorem digs_all {l : List UInt8} (h : digs l = true) : ∀ x ∈ l, 48 ≤ x.toNat := fun x hx => by
  unfold digs at h
  have : l.all isDig = true := by cases hh : l.all isDig <;> simp_all
  exact ((isDig_iff _).1 (List.all_eq_true.1 this x hx)).1
/-- digits in order: those ahead of a place, and those behind it -/
theorem digs_of {l : List UInt8} (h : ∀ x ∈ l, isDig x = true) (hl : 0 < l.length) : digs l = true := by
  unfold digs; rw [List.all_eq_true.2 h, decide_eq_true hl]; rfl
theorem digs_parts {t : List UInt8} {k : Nat} (hk : 1 ≤ k) (hlen : t.length = k + 3) (h : ∀ (j : Nat) (hj : j < t.length), j ≠ k → isDig t[j] = true) : digs (t.take k) = true ∧ digs (t.drop (k + 1)) = true := by
  constructor
  · refine digs_of (fun x hx => ?_) (by simp; omega)
    obtain ⟨j, hj, rfl⟩ := List.getElem_of_mem hx
    simp only [List.length_take] at hj
    rw [List.getElem_take]
    exact h j (by omega) (by omega)
  · refine digs_of (fun x hx => ?_) (by simp; omega)
    obtain ⟨j, hj, rfl⟩ := List.getElem_of_mem hx
    simp only [List.length_drop] at hj
    rw [List.getElem_drop]
    exact h _ (by omega) (by omega)
theorem form_nd {L t : List UInt8} {k j : Nat} (hj : j < t.length) (hk : j ≠ k) (h : isDig t[j] = false) : form L t k = false := by
  rcases Nat.lt_or_ge j k with hl | hl
  · have : digs (t.take k) = false := digs_false (k := j) (by simp; omega) (by simpa using h)
    unfold form; rw [this]; simp
  · have : digs (t.drop (k + 1)) = false := digs_false (k := j - (k + 1)) (by simp; omega) (by
      simp only [List.getElem_drop]
      have e : k + 1 + (j - (k + 1)) = j := by omega
      simp only [e]; exact h)
    unfold form; rw [this]; simp
/-- the zero with a sign -/
theorem zero_sign {t : List UInt8} {k : Nat} {c : UInt8} (hk : 1 ≤ k) (hlen : t.length = k + 3) (hkt : k < t.length) (hdot : t[k] = 46) (h1 : digs (t.take k) = true) (h2 : digs (t.drop (k + 1)) = true) (hc : t[0]? = some c) (hl : ¬ (1 < k ∧ c = 48)) :
    ((45 :: t) == [45, 48, 46, 48, 48]) = decide (num (seen t k t.length) = 0) := by
  by_cases h0 : num (seen t k t.length) = 0
  · rw [decide_eq_true h0]
    rw [seen_all] at h0
    have hz := num_zero (fun x hx => by
      rcases List.mem_append.1 hx with h | h
      · exact digs_all h1 x h
      · exact digs_all h2 x h) h0
    have hc48 : c = 48 := by
      have : c ∈ t.take k := by
        rw [List.mem_iff_getElem?]
        exact ⟨0, by rw [List.getElem?_take, if_pos (by omega)]; exact hc⟩
      exact hz c (List.mem_append_left _ this)
    have hk1 : k = 1 := by
      rcases Nat.lt_or_ge 1 k with h | h
      · exact absurd ⟨h, hc48⟩ hl
      · omega
    subst hk1
    match t, hlen with
    | [a, b, d, e], _ =>
      have ha := hz a (by simp)
      have hd := hz d (by simp)
      have he := hz e (by simp)
      simp at hdot
      subst ha; subst hd; subst he; subst hdot
      rfl
  · rw [decide_eq_false h0]
    rw [Bool.eq_false_iff]
    intro hb
    have e : 45 :: t = [45, 48, 46, 48, 48] := by simpa using hb
    have e2 : t = [48, 46, 48, 48] := List.cons.inj e |>.2
    subst e2
    have hk1 : k = 1 := by simp at hlen; omega
    subst hk1
    exact h0 (by decide)
/-- what is known of the digits read so far: they are digits; whether their number is too great; else it is u -/
def Inv (t : List UInt8) (k j : Nat) (U : Int) (O : Bool) : Prop :=
  (∀ (q : Nat) (hq : q < t.length), q < j → q ≠ k → isDig t[q] = true) ∧ O = decide (9223372036854775808 < num (seen t k j)) ∧ (O = false → U = (num (seen t k j) : Nat))
theorem inv_step {t : List UInt8} {k j : Nat} {U : Int} {O : Bool} (hjn : j < t.length) (hjk : j ≠ k) (hinv : Inv t k j U O) (hd : isDig t[j] = true) (U' : Int) (O' : Bool)
    (ho : O' = (O || decide ((9223372036854775808 - ((t[j].toNat : Int) - 48)) / 10 < U))) (hu : O' = false → U' = U * 10 + ((t[j].toNat : Int) - 48)) : Inv t k (j + 1) U' O' := by
  obtain ⟨i1, i2, i3⟩ := hinv
  obtain ⟨g1, g2⟩ := (isDig_iff _).1 hd
  refine ⟨fun q hq h hk => ?_, ?_, fun h => ?_⟩
  · by_cases hqj : q = j
    · subst hqj; exact hd
    · exact i1 q hq (by omega) hk
  · rw [seen_succ t k j hjn hjk, num_snoc]
    cases O with
    | true =>
      have h1 : 9223372036854775808 < num (seen t k j) := of_decide_eq_true i2.symm
      rw [ho, Bool.true_or]; exact (decide_eq_true (by omega)).symm
    | false =>
      have h1 := i3 rfl
      rw [ho, Bool.false_or]
      apply decide_eq_decide.2
      omega
  · have h2 := hu h
    rw [h] at ho
    cases O with
    | true => simp at ho
    | false =>
      have h1 := i3 rfl
      rw [seen_succ t k j hjn hjk, num_snoc, h2, h1]
      omega
theorem no_zero {t : List UInt8} {k : Nat} (hk : 1 ≤ k) (hlen : t.length = k + 3) (h : ∀ (j : Nat) (hj : j < t.length), j ≠ k → isDig t[j] = true) : (t == [45, 48, 46, 48, 48]) = false := by
  rw [Bool.eq_false_iff]
  intro hb
  have e : t = [45, 48, 46, 48, 48] := by simpa using hb
  have h0 := h 0 (by omega) (by omega)
  subst e
  revert h0; simp; decide
end Mon
end Go.Proofs.YtfimaamndcdofaaDoor
