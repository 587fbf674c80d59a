/- Tables of rates: the plain law of putting and finding. -/
import Derived.Test.YtpobhlnlnplbdaaVatP
namespace Go.Proofs.Ytpobhlnlnplbdaa
open Go Go.RowKit

theorem aheadT_asym {a b : Rate} (h : aheadT a b = true) : aheadT b a = false := by
  rw [Bool.eq_false_iff]; intro h2
  have := aheadT_trans h h2
  rw [aheadT_irrefl] at this; cases this
theorem same_no {l : List Rate} {r x : Rate} (h : l.any (sameT r) = false) (hx : x ∈ l) : ¬ (x.cat = r.cat ∧ x.day = r.day) := by
  have := List.any_eq_false.1 h x hx
  simpa [sameT] using this
theorem cntT_le (l : List Rate) (r : Rate) : cntT l r ≤ l.length := (List.takeWhile_sublist _).length_le
theorem cntT_lo {l : List Rate} {r : Rate} {k : Nat} (h : k < cntT l r) (hk : k < l.length) : aheadT l[k] r = true := by
  unfold cntT at h
  have h1 : (l.takeWhile fun x => aheadT x r)[k]'h ∈ l.takeWhile fun x => aheadT x r := List.getElem_mem h
  have h2 := List.all_eq_true.1 (List.all_takeWhile (l := l) (p := fun x : Rate => aheadT x r)) _ h1
  rw [(List.takeWhile_prefix _).getElem h] at h2; simpa using h2
theorem cntT_hi {l : List Rate} {r : Rate} (hk : cntT l r < l.length) : aheadT l[cntT l r] r = false := by
  induction l with
  | nil => simp at hk
  | cons x l ih =>
    by_cases hx : aheadT x r = true
    · have e : cntT (x :: l) r = cntT l r + 1 := by unfold cntT; rw [List.takeWhile_cons]; simp [hx]
      simp only [e, List.getElem_cons_succ]
      exact ih (by rw [e] at hk; simpa using hk)
    · have e : cntT (x :: l) r = 0 := by unfold cntT; rw [List.takeWhile_cons]; simp [hx]
      simp only [e, List.getElem_cons_zero]; simpa using hx
theorem cntT_split {l : List Rate} {r : Rate} (hl : RightV l) (hr : rowT r = 0) (hn : l.any (sameT r) = false) : (∀ s ∈ l.take (cntT l r), aheadT s r = true) ∧ (∀ s ∈ l.drop (cntT l r), aheadT r s = true) := by
  constructor
  · intro s hs
    obtain ⟨j, hj, rfl⟩ := List.getElem_of_mem hs
    rw [List.length_take] at hj
    rw [List.getElem_take]
    exact cntT_lo (by omega) (by omega)
  · intro s hs
    obtain ⟨j, hj, rfl⟩ := List.getElem_of_mem hs
    rw [List.length_drop] at hj
    rw [List.getElem_drop]
    have h0 := cntT_hi (l := l) (r := r) (by omega)
    have hf : aheadT r l[cntT l r] = true := by
      cases h : aheadT r l[cntT l r] with
      | true => rfl
      | false => exact absurd (aheadT_total (hl.good _ (List.getElem_mem _)) hr h0 h) (same_no hn (List.getElem_mem _))
    rcases Nat.eq_zero_or_pos j with rfl | hp
    · simp only [Nat.add_zero]; exact hf
    · exact aheadT_trans hf (List.pairwise_iff_getElem.1 hl.up (cntT l r) (cntT l r + j) (by omega) (by omega) (by omega))
theorem put_ok {l : List Rate} {r : Rate} (hl : RightV l) (hr : rowT r = 0) (hn : l.any (sameT r) = false) (h24 : l.length < 24) :
    putT l r = .ok (l.take (cntT l r) ++ r :: l.drop (cntT l r)) ∧ RightV (l.take (cntT l r) ++ r :: l.drop (cntT l r)) ∧ (l.take (cntT l r) ++ r :: l.drop (cntT l r)).length = l.length + 1 ∧ ∀ x, x ∈ l.take (cntT l r) ++ r :: l.drop (cntT l r) ↔ x = r ∨ x ∈ l := by
  obtain ⟨s1, s2⟩ := cntT_split hl hr hn
  have hle := cntT_le l r
  have hlen : (l.take (cntT l r) ++ r :: l.drop (cntT l r)).length = l.length + 1 := by simp; omega
  have hmem : ∀ x, x ∈ l.take (cntT l r) ++ r :: l.drop (cntT l r) ↔ x = r ∨ x ∈ l := by
    intro x
    conv => rhs; rw [← List.take_append_drop (cntT l r) l]
    simp only [List.mem_append, List.mem_cons]
    constructor
    · rintro (h | h | h)
      · exact .inr (.inl h)
      · exact .inl h
      · exact .inr (.inr h)
    · rintro (h | h | h)
      · exact .inr (.inl h)
      · exact .inl h
      · exact .inr (.inr h)
  refine ⟨?_, ⟨by omega, ?_, fun s hs => ?_⟩, hlen, hmem⟩
  · unfold putT
    rw [if_neg (by rw [(rightV_iff l).2 hl]; simp), if_neg (by simpa using hr), if_neg (by rw [hn]; simp), if_neg (by omega)]
  · rw [List.pairwise_append, List.pairwise_cons]
    have hl' := hl.up
    rw [← List.take_append_drop (cntT l r) l] at hl'
    obtain ⟨p1, p2, p3⟩ := List.pairwise_append.1 hl'
    refine ⟨p1, ⟨s2, p2⟩, fun a ha b hb => ?_⟩
    rcases List.mem_cons.1 hb with rfl | hb
    · exact s1 a ha
    · exact p3 a ha b hb
  · rcases (hmem s).1 hs with rfl | h
    · exact hr
    · exact hl.good s h
/-- what a put answers -/
theorem put_cases {l : List Rate} (r : Rate) (hl : RightV l) : (∃ e, putT l r = .error e ∧ e ≠ 0) ∨ (rowT r = 0 ∧ l.any (sameT r) = false ∧ l.length < 24) := by
  by_cases hr : rowT r = 0
  · cases hn : l.any (sameT r) with
    | true => exact .inl ⟨12, by unfold putT; rw [if_neg (by rw [(rightV_iff l).2 hl]; simp), if_neg (by simpa using hr), if_pos hn], by decide⟩
    | false =>
      by_cases h : l.length < 24
      · exact .inr ⟨hr, rfl, h⟩
      · exact .inl ⟨2, by unfold putT; rw [if_neg (by rw [(rightV_iff l).2 hl]; simp), if_neg (by simpa using hr), if_neg (by rw [hn]; simp), if_pos (by omega)], by decide⟩
  · exact .inl ⟨_, by unfold putT; rw [if_neg (by rw [(rightV_iff l).2 hl]; simp), if_pos hr], hr⟩
/-- two tables of the same rows are one -/
theorem table_one : ∀ {a b : List Rate}, (a.Pairwise fun x y => aheadT x y = true) → (b.Pairwise fun x y => aheadT x y = true) → (∀ x, x ∈ a ↔ x ∈ b) → a = b
  | [], [], _, _, _ => rfl
  | [], y :: b, _, _, h => by have := (h y).2 (by simp); cases this
  | x :: a, [], _, _, h => by have := (h x).1 (by simp); cases this
  | x :: a, y :: b, ha, hb, h => by
    obtain ⟨a1, a2⟩ := List.pairwise_cons.1 ha
    obtain ⟨b1, b2⟩ := List.pairwise_cons.1 hb
    have hxy : x = y := by
      rcases List.mem_cons.1 ((h x).1 (by simp)) with e | h1
      · exact e
      · rcases List.mem_cons.1 ((h y).2 (by simp)) with e | h2
        · exact e.symm
        · have := aheadT_asym (a1 y h2); rw [b1 x h1] at this; cases this
    subst hxy
    have hx1 : x ∉ a := fun h1 => by have := a1 x h1; rw [aheadT_irrefl] at this; cases this
    have hx2 : x ∉ b := fun h1 => by have := b1 x h1; rw [aheadT_irrefl] at this; cases this
    rw [table_one a2 b2 (fun z => ⟨fun hz => by
      rcases List.mem_cons.1 ((h z).1 (by simp [hz])) with e | h1
      · subst e; exact absurd hz hx1
      · exact h1, fun hz => by
      rcases List.mem_cons.1 ((h z).2 (by simp [hz])) with e | h1
      · subst e; exact absurd hz hx2
      · exact h1⟩)]
/-- finding -/
theorem lastT_append (c : ByteArray) (d : Day) (s : Int × Bool) (a b : List Rate) : lastT c d s (a ++ b) = lastT c d (lastT c d s a) b := by
  induction a generalizing s with
  | nil => rfl
  | cons x a ih => exact ih _
theorem lastT_none {c : ByteArray} {d : Day} {s : Int × Bool} {l : List Rate} (h : ∀ x ∈ l, hitT c d x = false) : lastT c d s l = s := by
  induction l generalizing s with
  | nil => rfl
  | cons x l ih => rw [lastT, h x (by simp)]; exact ih (fun y hy => h y (by simp [hy]))
theorem find_other {l : List Rate} {r : Rate} {c : ByteArray} {d : Day} (hl : RightV l) (hr : rowT r = 0) (hn : l.any (sameT r) = false) (h24 : l.length < 24) (hc : c ≠ r.cat) :
    findT (l.take (cntT l r) ++ r :: l.drop (cntT l r)) c d = findT l c d := by
  obtain ⟨_, hm, _⟩ := put_ok hl hr hn h24
  unfold findT
  rw [(rightV_iff l).2 hl, (rightV_iff _).2 hm]
  by_cases hd : rightD d = false
  · rw [if_pos (.inr hd), if_pos (.inr hd)]
  · rw [if_neg (by simpa using hd), if_neg (by simpa using hd)]
    have hh : hitT c d r = false := by
      unfold hitT; cases h : eqS r.cat c with | false => rfl | true => exact absurd ((eqS_iff _ _).1 h).symm hc
    rw [lastT_append, lastT, hh, if_neg (by simp), ← lastT_append, List.take_append_drop]
theorem find_own {l : List Rate} {r : Rate} (hl : RightV l) (hr : rowT r = 0) (hn : l.any (sameT r) = false) (h24 : l.length < 24) :
    findT (l.take (cntT l r) ++ r :: l.drop (cntT l r)) r.cat r.day = (r.bp, true) := by
  obtain ⟨_, hm, _⟩ := put_ok hl hr hn h24
  obtain ⟨_, rd, _⟩ := rowT_ok hr
  unfold findT
  rw [(rightV_iff _).2 hm, if_neg (by simp [rd]), lastT_append, lastT]
  have hh : hitT r.cat r.day r = true := by unfold hitT beforeD; rw [eqS_refl, decide_eq_false (Int.lt_irrefl _)]; simp
  rw [if_pos hh]
  refine lastT_none (fun x hx => ?_)
  have h1 := (cntT_split hl hr hn).2 x hx
  unfold aheadT at h1
  unfold hitT
  cases he : eqS x.cat r.cat with
  | false => rfl
  | true =>
    have e := (eqS_iff _ _).1 he
    rw [e, ltS_irrefl, eqS_refl] at h1
    simp only [Bool.false_or, Bool.true_and] at h1
    rw [h1]; rfl
end Go.Proofs.Ytpobhlnlnplbdaa
