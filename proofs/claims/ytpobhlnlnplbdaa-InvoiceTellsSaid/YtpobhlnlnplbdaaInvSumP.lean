/- InvoiceSums: the plain law; parts rise by their categories. -/
import Derived.Test.YtpobhlnlnplbdaaInvP
namespace Go.Proofs.Ytpobhlnlnplbdaa
open Go Go.RowKit
def Rising (l : List ByteArray) : Prop := l.Pairwise fun a b => ltS a b = true
def catsP (ps : List Part) : List ByteArray := ps.map (·.cat)
theorem catsP_set {ps : List Part} {k : Nat} {q : Part} (h : ∀ hk : k < ps.length, ps[k].cat = q.cat) : catsP (ps.set k q) = catsP ps := by
  unfold catsP
  rw [List.map_set]
  rcases Nat.lt_or_ge k ps.length with hk | hk
  · apply List.ext_getElem (by simp)
    intro i h1 h2
    rw [List.getElem_set]
    split
    · rename_i e; subst e; simp [h hk]
    · rfl
  · rw [List.set_eq_of_length_le (by simpa using hk)]
theorem catsP_add (ps : List Part) (c : ByteArray) (bp n : Int) : catsP (addP ps c bp n) = catsP (withP ps c bp) := by
  unfold addP; exact catsP_set fun _ => rfl
theorem rising_with {ps : List Part} (h : Rising (catsP ps)) (c : ByteArray) (bp : Int) : Rising (catsP (withP ps c bp)) := by
  cases hh : hasP ps c with
  | true => rw [withP_yes hh]; exact h
  | false =>
    rw [withP_no rfl hh]
    unfold catsP Rising at *
    rw [List.map_append, List.map_cons]
    have h0 : ps.map (·.cat) = (ps.take (cntP ps c)).map (·.cat) ++ (ps.drop (cntP ps c)).map (·.cat) := by rw [← List.map_append, List.take_append_drop]
    rw [h0, List.pairwise_append] at h
    obtain ⟨h1, h2, h3⟩ := h
    have hlo : ∀ x ∈ (ps.take (cntP ps c)).map (·.cat), ltS x c = true := by
      intro x hx
      obtain ⟨p, hp, rfl⟩ := List.mem_map.1 hx
      obtain ⟨i, hi, rfl⟩ := List.getElem_of_mem hp
      have := cntP_le ps c
      rw [List.length_take] at hi
      rw [List.getElem_take]
      exact cntP_lo (by omega) (by omega)
    have hhi : ∀ y ∈ (ps.drop (cntP ps c)).map (·.cat), ltS c y = true := by
      intro y hy
      rcases Nat.lt_or_ge (cntP ps c) ps.length with hk | hk
      · have hd : ps.drop (cntP ps c) = ps[cntP ps c] :: ps.drop (cntP ps c + 1) := List.drop_eq_getElem_cons hk
        have e1 := cntP_hi hk
        rw [hasP_at rfl hk] at hh
        have e2 : ltS c ps[cntP ps c].cat = true := by
          cases e : ltS c ps[cntP ps c].cat with
          | true => rfl
          | false => have := ltS_total e1 e; rw [this, eqS_refl] at hh; cases hh
        rw [hd, List.map_cons] at h2 hy
        rcases List.mem_cons.1 hy with rfl | hy
        · exact e2
        · exact ltS_trans e2 (List.rel_of_pairwise_cons h2 hy)
      · rw [List.drop_eq_nil_of_le hk] at hy; cases hy
    rw [List.pairwise_append]
    refine ⟨h1, List.pairwise_cons.2 ⟨hhi, h2⟩, fun x hx y hy => ?_⟩
    rcases List.mem_cons.1 hy with rfl | hy
    · exact hlo x hx
    · exact h3 x hx y hy
theorem rising_put {ps qs : List Part} (h : Rising (catsP ps)) {c : ByteArray} {bp n : Int} (hp : putP ps c bp n = .ok qs) : Rising (catsP qs) ∧ 0 < qs.length := by
  rw [putP_eq] at hp
  split at hp
  · cases hp
    rw [catsP_add]
    refine ⟨rising_with h c bp, ?_⟩
    have := withP_lt ps c bp
    unfold addP; rw [List.length_set]; omega
  · cases hp
theorem rising_parts {T : List Rate} {d : Day} : ∀ {ls : List Ln} {ps qs : List Part}, Rising (catsP ps) → partsV T d ps ls = .ok qs → Rising (catsP qs) ∧ (0 < ps.length ∨ 0 < ls.length → 0 < qs.length)
  | [], ps, qs, h, hp => by
    rw [partsV] at hp; cases hp
    exact ⟨h, fun h => by simpa using h⟩
  | x :: l, ps, qs, h, hp => by
    rw [partsV] at hp
    split at hp
    · cases hp
    · split at hp
      · cases hp
      · rename_i hq
        have h1 := rising_put h hq
        have h2 := rising_parts h1.1 hp
        exact ⟨h2.1, fun _ => h2.2 (.inl h1.2)⟩
def sumN (ps : List Part) : Int := (ps.map (·.net)).sum
def sumX (ps : List Part) : Int := (ps.map (·.tax)).sum
theorem whole_law : ∀ {r done : List Part} {s t : Int} {z : Tot}, Mon.fits s → Mon.fits t → s = sumN done → t = sumX done → wholeTo s t done r = .ok z →
    z.net = sumN z.parts ∧ z.tax = sumX z.parts ∧ z.gross = z.net + z.tax ∧ catsP z.parts = catsP done ++ catsP r ∧ Mon.fits z.net ∧ Mon.fits z.tax ∧ Mon.fits z.gross
  | [], done, s, t, z, fs, ft, hs, ht, h => by
    rw [wholeTo] at h
    split at h
    · rename_i hf
      cases h
      exact ⟨hs, ht, rfl, by simp [catsP], fs, ft, hf⟩
    · cases h
  | p :: r, done, s, t, z, fs, ft, hs, ht, h => by
    rw [wholeTo] at h
    split at h
    · cases h
    · split at h
      · split at h
        · rename_i x _ f1 f2
          have := whole_law f1 f2 (by rw [hs]; simp [sumN]) (by rw [ht]; simp [sumX]) h
          obtain ⟨a1, a2, a3, a4, a5⟩ := this
          exact ⟨a1, a2, a3, by rw [a4]; simp [catsP], a5⟩
        · cases h
      · cases h
theorem sums_law {T : List Rate} {d : Day} {ls : List Ln} {z : Tot} (h : totalV T d ls = .ok z) :
    z.net = sumN z.parts ∧ z.tax = sumX z.parts ∧ z.gross = z.net + z.tax ∧ Rising (catsP z.parts) ∧ 0 < z.parts.length ∧ Mon.fits z.net ∧ Mon.fits z.tax ∧ Mon.fits z.gross := by
  unfold totalV at h
  split at h
  · cases h
  · split at h
    · cases h
    · split at h
      · cases h
      · split at h
        · cases h
        · split at h
          · cases h
          · rename_i hl _ ps hp
            obtain ⟨h1, h2⟩ := rising_parts (show Rising (catsP []) from List.Pairwise.nil) hp
            obtain ⟨a1, a2, a3, a4, a5⟩ := whole_law fits0 fits0 (by simp [sumN]) (by simp [sumX]) h
            have e : catsP z.parts = catsP ps := by rw [a4]; simp [catsP]
            have el : z.parts.length = ps.length := by have := congrArg List.length e; simpa [catsP] using this
            exact ⟨a1, a2, a3, by rw [e]; exact h1, by rw [el]; exact h2 (.inr (by omega)), a5⟩
theorem lineV_ne {T : List Rate} {d : Day} {x : Ln} {n : Int} (h : lineV T d x = .error n) : n ≠ 0 := by
  unfold lineV at h
  repeat' (split at h)
  all_goals first | (cases h; done) | (cases h; decide)
theorem putP_ne {ps : List Part} {c : ByteArray} {bp m n : Int} (h : putP ps c bp m = .error n) : n ≠ 0 := by
  rw [putP_eq] at h
  split at h
  · cases h
  · cases h; decide
theorem partsV_ne {T : List Rate} {d : Day} : ∀ {ls : List Ln} {ps : List Part} {n : Int}, partsV T d ps ls = .error n → n ≠ 0
  | [], ps, n, h => by rw [partsV] at h; cases h
  | x :: l, ps, n, h => by
    rw [partsV] at h
    split at h
    · rename_i h1; cases h; exact lineV_ne h1
    · split at h
      · rename_i h1; cases h; exact putP_ne h1
      · exact partsV_ne h
theorem wholeTo_ne : ∀ {r done : List Part} {s t n : Int}, wholeTo s t done r = .error n → n ≠ 0
  | [], done, s, t, n, h => by
    rw [wholeTo] at h; split at h
    · cases h
    · cases h; decide
  | p :: r, done, s, t, n, h => by
    rw [wholeTo] at h
    split at h
    · cases h; decide
    · split at h
      · split at h
        · exact wholeTo_ne h
        · cases h; decide
      · cases h; decide
theorem totalV_ne {T : List Rate} {d : Day} {ls : List Ln} {n : Int} (h : totalV T d ls = .error n) : n ≠ 0 := by
  unfold totalV at h
  split at h
  · cases h; decide
  · split at h
    · cases h; decide
    · split at h
      · cases h; decide
      · split at h
        · cases h; decide
        · split at h
          · rename_i h1; cases h; exact partsV_ne h1
          · exact wholeTo_ne h
theorem rising_at {ps : List Part} (h : Rising (catsP ps)) {i j : Nat} (hi : i < ps.length) (hj : j < ps.length) (hij : i < j) : ltS ps[i].cat ps[j].cat = true := by
  have := List.pairwise_iff_getElem.1 h i j (by simpa [catsP] using hi) (by simpa [catsP] using hj) hij
  simpa [catsP] using this
theorem sumN_take {ps : List Part} {k : Nat} (hk : k < ps.length) : sumN (ps.take (k + 1)) = sumN (ps.take k) + ps[k].net := by
  unfold sumN; rw [List.take_succ_eq_append_getElem hk, List.map_append, List.sum_append]; simp only [List.map_cons, List.map_nil, List.sum_cons, List.sum_nil, Int.add_zero]
theorem sumX_take {ps : List Part} {k : Nat} (hk : k < ps.length) : sumX (ps.take (k + 1)) = sumX (ps.take k) + ps[k].tax := by
  unfold sumX; rw [List.take_succ_eq_append_getElem hk, List.map_append, List.sum_append]; simp only [List.map_cons, List.map_nil, List.sum_cons, List.sum_nil, Int.add_zero]
theorem wrap64_add (a b : Int) : wrap64 (wrap64 a + b) = wrap64 (a + b) := by unfold wrap64; omega
theorem w64in' {x : Int} (h : Mon.fits x) : wrap64 x = x := by unfold Mon.fits at h; unfold wrap64; omega
end Go.Proofs.Ytpobhlnlnplbdaa
