/- Texts of amounts, shown and read back: plain. -/
import Derived.Test.YtfimaamndcdofaaDoorMonZero
import Derived.Test.YtfimaamndcdofaaDoorShow
import Derived.Test.YtfimaamndcdofaaDoorRead
namespace Go.Proofs.YtfimaamndcdofaaDoor
open Go Go.RowKit Go.Lib
namespace Mon

theorem head_app {a b : List UInt8} (h : a ≠ []) : (a ++ b).head? = a.head? := by
  cases a with
  | nil => exact absurd rfl h
  | cons x r => rfl
theorem ofNat_dig {d : Nat} (h : d < 10) : (UInt8.ofNat (48 + d)).toNat = 48 + d := by simp; omega
theorem num_dec (q : Nat) : num (decDigits q) = q := by
  induction q using Nat.strongRecOn with
  | _ q ih =>
    rw [decDigits]
    split
    · unfold num; simp; omega
    · rw [num_snoc, ih (q / 10) (by omega), ofNat_dig (by omega)]; omega
theorem all_dec (q : Nat) : ∀ x ∈ decDigits q, isDig x = true := by
  induction q using Nat.strongRecOn with
  | _ q ih =>
    rw [decDigits]
    split
    · intro x hx
      simp only [List.mem_singleton] at hx
      subst hx
      rw [isDig_iff, ofNat_dig (by omega)]; omega
    · intro x hx
      rcases List.mem_append.1 hx with hx | hx
      · exact ih (q / 10) (by omega) x hx
      · simp only [List.mem_singleton] at hx
        subst hx
        rw [isDig_iff, ofNat_dig (by omega)]; omega
theorem dec_pos (q : Nat) : 0 < (decDigits q).length := by
  rw [decDigits]; split <;> simp
/-- no zero ahead, but for the zero alone -/
theorem dec_head (q : Nat) : 1 < (decDigits q).length → (decDigits q).head? ≠ some 48 := by
  induction q using Nat.strongRecOn with
  | _ q ih =>
    rw [decDigits]
    split
    · intro h; simp at h
    · intro _
      have hp := dec_pos (q / 10)
      rw [head_app (by intro e; rw [e] at hp; simp at hp)]
      by_cases h1 : 1 < (decDigits (q / 10)).length
      · exact ih (q / 10) (by omega) h1
      · intro h
        match hd : decDigits (q / 10), hp with
        | [x], _ =>
          rw [hd] at h; simp at h
          subst h
          have := num_dec (q / 10)
          rw [hd] at this
          unfold num at this; simp at this
          omega
        | x :: y :: r, _ => rw [hd] at h1; simp at h1
theorem digs_dec (q : Nat) : digs (decDigits q) = true := digs_of (all_dec q) (dec_pos q)
theorem num_two (l : List UInt8) (u : Nat) : num (l ++ two u) = 100 * num l + u % 100 := by
  have e : two u = [UInt8.ofNat (48 + u / 10 % 10)] ++ [UInt8.ofNat (48 + u % 10)] := rfl
  rw [e, ← List.append_assoc, num_snoc, num_snoc, ofNat_dig (by omega), ofNat_dig (by omega)]
  omega
theorem digs_two (u : Nat) : digs (two u) = true := by
  refine digs_of (fun x hx => ?_) (by simp [two])
  simp only [two, List.mem_cons, List.not_mem_nil, or_false] at hx
  rcases hx with rfl | rfl <;> rw [isDig_iff, ofNat_dig (by omega)] <;> omega
theorem texts_length (u : Nat) : (texts u).length = (decDigits (u / 100)).length + 3 := by simp [texts, two]
theorem texts_form (L : List UInt8) (u : Nat) (hL : (L == [45, 48, 46, 48, 48]) = false) : form L (texts u) (decDigits (u / 100)).length = true := by
  have hd := digs_dec (u / 100)
  have hp := dec_pos (u / 100)
  have hh := dec_head (u / 100)
  have h2 := digs_two u
  unfold form texts
  generalize decDigits (u / 100) = D at *
  have e1 : (D ++ 46 :: two u)[D.length]? = some 46 := by simp
  have e2 : (D ++ 46 :: two u).take D.length = D := by simp
  have e3 : (D ++ 46 :: two u).drop (D.length + 1) = two u := by
    rw [show D ++ 46 :: two u = (D ++ [46]) ++ two u from by simp, show D.length + 1 = (D ++ [46]).length from by simp, List.drop_left]
  have e4 : (D ++ 46 :: two u).head? = D.head? := by
    rw [head_app (by intro e; rw [e] at hp; simp at hp)]
  rw [e1, e2, e3, e4, hd, h2, hL]
  have e5 : (decide (1 < D.length) && (D.head? == some 48)) = false := by
    rw [Bool.eq_false_iff]; intro hb
    rw [Bool.and_eq_true] at hb
    exact hh (of_decide_eq_true hb.1) (by simpa using hb.2)
  rw [e5]; rfl
theorem texts_num (u : Nat) : num ((texts u).take (decDigits (u / 100)).length ++ (texts u).drop ((decDigits (u / 100)).length + 1)) = u := by
  unfold texts
  have hn := num_dec (u / 100)
  generalize decDigits (u / 100) = D at *
  have e2 : (D ++ 46 :: two u).take D.length = D := by simp
  have e3 : (D ++ 46 :: two u).drop (D.length + 1) = two u := by
    rw [show D ++ 46 :: two u = (D ++ [46]) ++ two u from by simp, show D.length + 1 = (D ++ [46]).length from by simp, List.drop_left]
  rw [e2, e3, num_two, hn]; omega
theorem rdBody_texts (L : List UInt8) (u : Nat) (b : Bool) (hL : (L == [45, 48, 46, 48, 48]) = false) : rdBody L (texts u) b = told (sgn u b) := by
  unfold rdBody
  have hp := dec_pos (u / 100)
  rw [if_neg (by rw [texts_length]; omega), texts_length, Nat.add_sub_cancel, texts_form L u hL, texts_num]
  rfl
theorem texts_zero {u : Nat} (h : texts u = [48, 46, 48, 48]) : u = 0 := by
  have h1 := texts_num u
  have h2 := texts_length u
  rw [h] at h1 h2
  have h3 : (decDigits (u / 100)).length = 1 := by simp at h2; omega
  rw [h3] at h1
  rw [← h1]; decide
theorem texts_head (u : Nat) : ∃ x r, texts u = x :: r ∧ x ≠ 45 := by
  have hp := dec_pos (u / 100)
  have ha := all_dec (u / 100)
  unfold texts
  match hd : decDigits (u / 100), hp with
  | x :: r, _ =>
    refine ⟨x, _, rfl, fun e => ?_⟩
    rw [hd] at ha
    have := ha x (by simp)
    rw [e] at this; revert this; decide
/-- what is shown is read -/
theorem rd_text (n : Int) (h : fits n) : rd (text n) = .tuple #[.int .i64 n, .int .i64 0] := by
  unfold text
  split
  · rw [rd_neg, rdBody_texts]
    · rw [show sgn n.natAbs true = n from by unfold sgn; simp; omega, told_ok h]
    · rw [Bool.eq_false_iff]; intro hb
      have e : 45 :: texts n.natAbs = [45, 48, 46, 48, 48] := by simpa using hb
      have := texts_zero (List.cons.inj e).2
      omega
  · obtain ⟨x, r, e, hx⟩ := texts_head n.natAbs
    rw [e, rd_pos r hx, ← e, rdBody_texts]
    · rw [show sgn n.natAbs false = n from by unfold sgn; simp; omega, told_ok h]
    · rw [Bool.eq_false_iff]; intro hb
      have e2 : texts n.natAbs = [45, 48, 46, 48, 48] := by simpa using hb
      rw [e] at e2
      exact hx (List.cons.inj e2).1

/-- a text's own digits -/
theorem dec_num (d : List UInt8) (h : ∀ x ∈ d, isDig x = true) (hp : 0 < d.length) (hh : 1 < d.length → d.head? ≠ some 48) : decDigits (num d) = d := by
  obtain ⟨n, hn⟩ : ∃ n, d.length = n := ⟨_, rfl⟩
  induction n generalizing d with
  | zero => omega
  | succ n ih =>
    rcases List.eq_nil_or_concat d with e | ⟨d', c, e⟩
    · subst e; simp at hp
    · rw [List.concat_eq_append] at e
      subst e
      have hc := (isDig_iff c).1 (h c (by simp))
      have ec : UInt8.ofNat (48 + (c.toNat - 48)) = c := by rw [show 48 + (c.toNat - 48) = c.toNat from by omega]; simp
      by_cases hd : d' = []
      · subst hd
        have e1 : num ([] ++ [c]) = c.toNat - 48 := by unfold num; simp
        rw [e1, decDigits, dif_pos (by omega), ec]; rfl
      · have hl : 0 < d'.length := List.length_pos_iff.2 hd
        have hhd := hh (by simp; omega)
        rw [head_app hd] at hhd
        have ih' := ih d' (fun x hx => h x (by simp [hx])) hl (fun _ => hhd) (by simp at hn; omega)
        have hpos : num d' ≠ 0 := by
          intro h0
          have hz := num_zero (fun x hx => ((isDig_iff x).1 (h x (by simp [hx]))).1) h0
          match d', hd with
          | x :: r, _ => exact hhd (by rw [hz x (by simp)]; rfl)
        rw [num_snoc, decDigits, dif_neg (by omega), show (10 * num d' + (c.toNat - 48)) / 10 = num d' from by omega, show (10 * num d' + (c.toNat - 48)) % 10 = c.toNat - 48 from by omega, ih', ec]
theorem two_num (a b : UInt8) (ha : isDig a = true) (hb : isDig b = true) (u q : Nat) (hu : u = 100 * q + num [a, b]) : two u = [a, b] ∧ u / 100 = q := by
  have h1 := (isDig_iff a).1 ha
  have h2 := (isDig_iff b).1 hb
  have e : num [a, b] = 10 * (a.toNat - 48) + (b.toNat - 48) := by unfold num; simp
  rw [e] at hu
  refine ⟨?_, by omega⟩
  unfold two
  rw [show 48 + u / 10 % 10 = a.toNat from by omega, show 48 + u % 10 = b.toNat from by omega]; simp
theorem num_app2 (l : List UInt8) (a b : UInt8) : num (l ++ [a, b]) = 100 * num l + num [a, b] := by
  rw [show l ++ [a, b] = (l ++ [a]) ++ [b] from by simp, num_snoc, num_snoc]
  have e : num [a, b] = 10 * (a.toNat - 48) + (b.toNat - 48) := by unfold num; simp
  rw [e]; omega
theorem all_of_digs {l : List UInt8} (h : digs l = true) : (∀ x ∈ l, isDig x = true) ∧ 0 < l.length := by
  unfold digs at h
  rw [Bool.and_eq_true] at h
  exact ⟨fun x hx => List.all_eq_true.1 h.1 x hx, of_decide_eq_true h.2⟩
theorem form_parts {L t : List UInt8} {k : Nat} (h : form L t k = true) : t[k]? = some 46 ∧ digs (t.take k) = true ∧ digs (t.drop (k + 1)) = true ∧ (1 < k → t.head? ≠ some 48) ∧ (L == [45, 48, 46, 48, 48]) = false := by
  unfold form at h
  simp only [Bool.and_eq_true] at h
  obtain ⟨⟨⟨⟨h1, h2⟩, h3⟩, h4⟩, h5⟩ := h
  refine ⟨by simpa using h1, h2, h3, fun hk hz => ?_, by simpa using h5⟩
  rw [decide_eq_true hk, hz] at h4
  revert h4; decide
/-- a text of that form is its number's -/
theorem texts_of_form {L t : List UInt8} (hlen : ¬ t.length < 4) (h : form L t (t.length - 3) = true) : texts (num (t.take (t.length - 3) ++ t.drop (t.length - 3 + 1))) = t := by
  obtain ⟨h1, h2, h3, h4, _⟩ := form_parts h
  obtain ⟨k, hk⟩ : ∃ k, t.length = k + 3 := ⟨t.length - 3, by omega⟩
  rw [hk, Nat.add_sub_cancel] at h1 h2 h3 h4 ⊢
  have hd : ∃ a b, t.drop (k + 1) = [a, b] := by
    have : (t.drop (k + 1)).length = 2 := by simp; omega
    match t.drop (k + 1), this with
    | [a, b], _ => exact ⟨a, b, rfl⟩
  obtain ⟨a, b, hab⟩ := hd
  obtain ⟨a2, p2⟩ := all_of_digs h2
  obtain ⟨a3, _⟩ := all_of_digs h3
  rw [hab] at a3 ⊢
  have ht : t = t.take k ++ 46 :: [a, b] := by
    have e := (List.take_append_drop k t).symm
    have hkt : k < t.length := by omega
    rw [List.drop_eq_getElem_cons hkt, hab] at e
    rw [List.getElem?_eq_getElem hkt] at h1
    rw [Option.some.inj h1] at e; exact e
  have hnum := dec_num (t.take k) a2 p2 (fun hl => by
    have : (t.take k).head? = t.head? := by
      rw [List.head?_take, if_neg (by simp at p2; omega)]
    rw [this]; exact h4 (by simp at hl; omega))
  obtain ⟨e1, e2⟩ := two_num a b (a3 a (by simp)) (a3 b (by simp)) _ _ (num_app2 (t.take k) a b)
  unfold texts
  rw [e1, e2, hnum, ← ht]
theorem noForm_ne {m : Int} : noForm ≠ .tuple #[.int .i64 m, .int .i64 0] := by
  unfold noForm; simp
theorem told_zero {z m : Int} (h : told z = .tuple #[.int .i64 m, .int .i64 0]) : fits z ∧ m = z := by
  by_cases hz : fits z
  · rw [told_ok hz] at h; simp at h; exact ⟨hz, h.symm⟩
  · rw [told_no hz] at h; simp at h
/-- what is read is shown -/
theorem text_rd {l : List UInt8} {m : Int} (h : rd l = .tuple #[.int .i64 m, .int .i64 0]) : text m = l ∧ fits m := by
  match l with
  | [] => exact absurd h (by unfold rd; exact noForm_ne)
  | x :: r =>
    by_cases hx : x = 45
    · subst hx
      rw [rd_neg] at h
      unfold rdBody at h
      split at h
      · exact absurd h noForm_ne
      · rename_i hlen
        split at h
        · rename_i hform
          obtain ⟨hz, rfl⟩ := told_zero h
          have ht := texts_of_form hlen hform
          generalize num (r.take (r.length - 3) ++ r.drop (r.length - 3 + 1)) = u at *
          have hu : u ≠ 0 := by
            intro h0
            subst h0
            have h5 := (form_parts hform).2.2.2.2
            rw [← ht] at h5
            revert h5; decide +kernel
          refine ⟨?_, hz⟩
          unfold text sgn
          simp only [if_true]
          rw [if_pos (by omega), show (-(u : Int)).natAbs = u from by omega, ht]
        · exact absurd h noForm_ne
    · rw [rd_pos r hx] at h
      generalize x :: r = t at *
      unfold rdBody at h
      split at h
      · exact absurd h noForm_ne
      · rename_i hlen
        split at h
        · rename_i hform
          obtain ⟨hz, rfl⟩ := told_zero h
          have ht := texts_of_form hlen hform
          generalize num (t.take (t.length - 3) ++ t.drop (t.length - 3 + 1)) = u at *
          refine ⟨?_, hz⟩
          unfold text sgn
          simp only [Bool.false_eq_true, if_false]
          rw [if_neg (by omega), Int.natAbs_natCast, ht]
        · exact absurd h noForm_ne
theorem rd_no {l : List UInt8} {m e : Int} (h : rd l = .tuple #[.int .i64 m, .int .i64 e]) (he : e ≠ 0) : m = 0 := by
  have : ∀ L t b, rdBody L t b = .tuple #[.int .i64 m, .int .i64 e] → m = 0 := by
    intro L t b h
    unfold rdBody at h
    have hn : noForm = .tuple #[.int .i64 m, .int .i64 e] → m = 0 := by unfold noForm; intro h; simp at h; exact h.1.symm
    split at h
    · exact hn h
    · split at h
      · by_cases hz : fits (sgn (num (t.take (t.length - 3) ++ t.drop (t.length - 3 + 1))) b)
        · rw [told_ok hz] at h; simp at h; exact absurd h.2.symm he
        · rw [told_no hz] at h; simp at h; exact h.1.symm
      · exact hn h
  exact this _ _ _ h
end Mon
end Go.Proofs.YtfimaamndcdofaaDoor
