/- InvoiceMirror: the plain law. -/
import Derived.Test.YtpobhlnlnplbdaaInvSumP
namespace Go.Proofs.Ytpobhlnlnplbdaa
open Go Go.RowKit
/-- a line whose price is taken off 0 -/
def mirL (x : Ln) : Ln := ⟨x.text, x.cat, x.count, 0 - x.price⟩
/-- amounts that are not too large -/
structure SmallP (k : Nat) (ps : List Part) : Prop where
  len : ps.length ≤ k
  net : ∀ p ∈ ps, -(1099511627776000 * (k : Int)) ≤ p.net ∧ p.net ≤ 1099511627776000 * (k : Int)
  bps : ∀ p ∈ ps, 0 ≤ p.bp ∧ p.bp ≤ 100000
  tax : ∀ p ∈ ps, p.tax = 0
def SmallL (ls : List Ln) : Prop := ∀ x ∈ ls, (1 ≤ x.count ∧ x.count ≤ 1000) ∧ (-1099511627776 ≤ x.price ∧ x.price ≤ 1099511627776)
theorem small_prod {n p : Int} (hn : 1 ≤ n ∧ n ≤ 1000) (hp : -1099511627776 ≤ p ∧ p ≤ 1099511627776) : -1099511627776000 ≤ n * p ∧ n * p ≤ 1099511627776000 := by
  have h1 : n * p ≤ n * 1099511627776 := Int.mul_le_mul_of_nonneg_left hp.2 (by omega)
  have h2 : n * (-1099511627776) ≤ n * p := Int.mul_le_mul_of_nonneg_left hp.1 (by omega)
  omega
theorem mir_line {T : List Rate} {d : Day} {x : Ln} (hx : (1 ≤ x.count ∧ x.count ≤ 1000) ∧ (-1099511627776 ≤ x.price ∧ x.price ≤ 1099511627776)) :
    (∃ n, lineV T d x = .error n ∧ lineV T d (mirL x) = .error n) ∨ ∃ bp m, lineV T d x = .ok (bp, m) ∧ lineV T d (mirL x) = .ok (bp, 0 - m) ∧ (-1099511627776000 ≤ m ∧ m ≤ 1099511627776000) ∧ 0 ≤ bp ∧ bp ≤ 100000 := by
  have hm := small_prod hx.1 hx.2
  have e : x.count * (0 - x.price) = 0 - x.count * x.price := by rw [Int.mul_sub]; omega
  have f1 : Mon.fits (x.count * x.price) := by unfold Mon.fits; omega
  have f2 : Mon.fits (0 - x.count * x.price) := by unfold Mon.fits; omega
  have hb := find_bp T x.cat d
  unfold lineV
  simp only [mirL, e, f1, f2, if_true]
  split
  · exact .inl ⟨_, rfl, rfl⟩
  · split
    · exact .inl ⟨_, rfl, rfl⟩
    · split
      · exact .inl ⟨_, rfl, rfl⟩
      · split
        · exact .inl ⟨_, rfl, rfl⟩
        · exact .inr ⟨_, _, rfl, rfl, hm, hb⟩
theorem cntP_cats {ps qs : List Part} (h : catsP ps = catsP qs) (c : ByteArray) : cntP ps c = cntP qs c := by
  have e : ∀ l : List Part, cntP l c = ((catsP l).takeWhile fun a => ltS a c).length := fun l => by
    unfold cntP catsP; rw [List.takeWhile_map, List.length_map]; rfl
  rw [e, e, h]
theorem catsP_neg (ps : List Part) : catsP (ps.map negP) = catsP ps := by unfold catsP; rw [List.map_map]; rfl
theorem hasP_neg (ps : List Part) (c : ByteArray) : hasP (ps.map negP) c = hasP ps c := by
  unfold hasP
  rw [cntP_cats (catsP_neg ps), List.getElem?_map]
  cases ps[cntP ps c]? <;> rfl
theorem withP_neg (ps : List Part) (c : ByteArray) (bp : Int) : withP (ps.map negP) c bp = (withP ps c bp).map negP := by
  unfold withP
  rw [hasP_neg, cntP_cats (catsP_neg ps)]
  split
  · rfl
  · rw [List.map_append, List.map_cons, List.map_take, List.map_drop]; rfl
theorem small_with {ps : List Part} {k : Nat} (h : SmallP k ps) (c : ByteArray) {bp : Int} (hb : 0 ≤ bp ∧ bp ≤ 100000) : ∀ p ∈ withP ps c bp, (-(1099511627776000 * (k : Int)) ≤ p.net ∧ p.net ≤ 1099511627776000 * (k : Int)) ∧ (0 ≤ p.bp ∧ p.bp ≤ 100000) ∧ p.tax = 0 := by
  intro p hp
  rcases withP_mem hp with hp | rfl
  · exact ⟨h.net p hp, h.bps p hp, h.tax p hp⟩
  · exact ⟨⟨by show _ ≤ (0 : Int); omega, by show (0 : Int) ≤ _; omega⟩, hb, rfl⟩
theorem mir_put {ps : List Part} {k : Nat} (h : SmallP k ps) (hk : k < 20) (c : ByteArray) {bp m : Int} (hb : 0 ≤ bp ∧ bp ≤ 100000) (hm : -1099511627776000 ≤ m ∧ m ≤ 1099511627776000) :
    ∃ qs, putP ps c bp m = .ok qs ∧ putP (ps.map negP) c bp (0 - m) = .ok (qs.map negP) ∧ SmallP (k + 1) qs := by
  have hw := withP_lt ps c bp
  have hs := small_with h c hb
  obtain ⟨q, hq⟩ : ∃ q, (withP ps c bp)[cntP ps c]? = some q := ⟨_, List.getElem?_eq_getElem hw⟩
  have hqm : q ∈ withP ps c bp := List.mem_of_getElem? hq
  obtain ⟨⟨n1, n2⟩, b1, t1⟩ := hs q hqm
  have f1 : Mon.fits (q.net + m) := by unfold Mon.fits; omega
  have f2 : Mon.fits ((negP q).net + (0 - m)) := by unfold Mon.fits negP; simp only; omega
  refine ⟨(withP ps c bp).set (cntP ps c) ⟨q.cat, q.bp, q.net + m, q.tax⟩, ?_, ?_, ?_, ?_, ?_, ?_⟩
  · unfold putP; rw [hq]; simp only [f1, if_true]
  · unfold putP
    rw [withP_neg, cntP_cats (catsP_neg ps), List.getElem?_map, hq]
    simp only [Option.map_some, f2, if_true]
    rw [List.map_set]
    congr 2
    simp only [negP]
    rw [show 0 - q.net + (0 - m) = 0 - (q.net + m) from by omega]
  · rw [List.length_set]; have := withP_len ps c bp; have := h.len; omega
  · intro p hp
    rcases List.mem_or_eq_of_mem_set hp with hp | rfl
    · have := (hs p hp).1; omega
    · show _ ≤ q.net + m ∧ q.net + m ≤ _; omega
  · intro p hp
    rcases List.mem_or_eq_of_mem_set hp with hp | rfl
    · exact (hs p hp).2.1
    · exact b1
  · intro p hp
    rcases List.mem_or_eq_of_mem_set hp with hp | rfl
    · exact (hs p hp).2.2
    · exact t1
theorem mir_parts {T : List Rate} {d : Day} : ∀ {ls : List Ln} {ps : List Part} {k : Nat}, SmallP k ps → k + ls.length ≤ 20 → SmallL ls →
    (∃ n, partsV T d ps ls = .error n ∧ partsV T d (ps.map negP) (ls.map mirL) = .error n) ∨ ∃ qs, partsV T d ps ls = .ok qs ∧ partsV T d (ps.map negP) (ls.map mirL) = .ok (qs.map negP) ∧ SmallP 20 qs
  | [], ps, k, h, hk, hs => .inr ⟨ps, rfl, rfl, ⟨by have := h.len; simp at hk; omega, fun p hp => by have := h.net p hp; simp at hk; omega, h.bps, h.tax⟩⟩
  | x :: l, ps, k, h, hk, hs => by
    simp only [List.length_cons] at hk
    simp only [List.map_cons, partsV]
    rcases mir_line (T := T) (d := d) (hs x (by simp)) with ⟨n, h1, h2⟩ | ⟨bp, m, h1, h2, hm, hb⟩
    · rw [h1, h2]; exact .inl ⟨n, rfl, rfl⟩
    · rw [h1, h2]
      obtain ⟨qs, p1, p2, p3⟩ := mir_put h (by omega) x.cat hb hm
      simp only [mirL, p1, p2]
      exact mir_parts p3 (by omega) (fun y hy => hs y (by simp [hy]))
theorem mir_tax {n bp : Int} (hn : -21990232555520000 ≤ n ∧ n ≤ 21990232555520000) (hb : 0 ≤ bp ∧ bp ≤ 100000) : ∃ x, taxV n bp = .ok x ∧ taxV (0 - n) bp = .ok (0 - x) ∧ -219902325555200001 ≤ x ∧ x ≤ 219902325555200001 := by
  have ha : ((0 - n).natAbs : Int) = (n.natAbs : Int) := by omega
  have hz : n = 0 → taxN n bp = 0 := by rintro rfl; unfold taxN; simp
  have e : taxN (0 - n) bp = taxN n bp := by unfold taxN; rw [ha]
  have h1 : (n.natAbs : Int) * bp ≤ (n.natAbs : Int) * 100000 := Int.mul_le_mul_of_nonneg_left hb.2 (by omega)
  have h2 : 0 ≤ (n.natAbs : Int) * bp := Int.mul_nonneg (by omega) hb.1
  have hl : 0 ≤ taxN n bp ∧ taxN n bp ≤ 219902325555200001 := by unfold taxN; omega
  have hnb : ¬ (bp < 0 ∨ 100000 < bp) := by omega
  unfold taxV
  rw [e]
  generalize taxN n bp = X at *
  have hX : X ≤ 9223372036854775807 := by omega
  simp only [hnb, hX, if_true, if_false]
  rcases Int.lt_trichotomy n 0 with h | h | h
  · have q1 : ¬ 0 - n < 0 := by omega
    simp only [h, q1, if_true, if_false]
    exact ⟨_, rfl, by congr 1; omega, by omega, by omega⟩
  · have hX0 := hz h
    have q1 : ¬ 0 - n < 0 := by omega
    have q2 : ¬ n < 0 := by omega
    simp only [q1, q2, if_false]
    exact ⟨_, rfl, by congr 1; omega, by omega, by omega⟩
  · have q1 : 0 - n < 0 := by omega
    have q2 : ¬ n < 0 := by omega
    simp only [q1, q2, if_true, if_false]
    exact ⟨_, rfl, by congr 1; omega, by omega, by omega⟩
theorem mir_whole : ∀ {r done : List Part} {s t : Int} {j : Nat}, j + r.length ≤ 20 → -(21990232555520000 * (j : Int)) ≤ s ∧ s ≤ 21990232555520000 * (j : Int) → -(219902325555200001 * (j : Int)) ≤ t ∧ t ≤ 219902325555200001 * (j : Int) →
    (∀ p ∈ done, okP p = true ∧ Mon.fits p.net ∧ Mon.fits p.tax) → (∀ p ∈ r, (-21990232555520000 ≤ p.net ∧ p.net ≤ 21990232555520000) ∧ 0 ≤ p.bp ∧ p.bp ≤ 100000) →
    ∃ z, wholeTo s t done r = .ok z ∧ wholeTo (0 - s) (0 - t) (done.map negP) (r.map negP) = .ok ⟨0 - z.net, 0 - z.tax, 0 - z.gross, z.parts.map negP⟩ ∧ (∀ p ∈ z.parts, okP p = true ∧ Mon.fits p.net ∧ Mon.fits p.tax) ∧ Mon.fits (0 - z.net) ∧ Mon.fits (0 - z.tax) ∧ Mon.fits (0 - z.gross) ∧ z.parts.length = done.length + r.length
  | [], done, s, t, j, hj, hs, ht, hd, hr => by
    simp only [List.length_nil] at hj
    have f1 : Mon.fits (s + t) := by unfold Mon.fits; omega
    have f2 : Mon.fits (0 - s + (0 - t)) := by unfold Mon.fits; omega
    refine ⟨⟨s, t, s + t, done⟩, ?_, ?_, hd, by unfold Mon.fits; simp only; omega, by unfold Mon.fits; simp only; omega, by unfold Mon.fits; simp only; omega, rfl⟩
    · rw [wholeTo, if_pos f1]
    · rw [List.map_nil, wholeTo, if_pos f2]
      rw [show 0 - s + (0 - t) = 0 - (s + t) from by omega]
  | p :: r, done, s, t, j, hj, hs, ht, hd, hr => by
    simp only [List.length_cons] at hj
    obtain ⟨hn, hb⟩ := hr p (by simp)
    obtain ⟨x, x1, x2, x3, x4⟩ := mir_tax hn hb
    have f1 : Mon.fits (s + p.net) := by unfold Mon.fits; omega
    have f2 : Mon.fits (t + x) := by unfold Mon.fits; omega
    have f3 : Mon.fits (0 - s + (0 - p.net)) := by unfold Mon.fits; omega
    have f4 : Mon.fits (0 - t + (0 - x)) := by unfold Mon.fits; omega
    have hok : okP ⟨p.cat, p.bp, p.net, x⟩ = true := by
      have a1 : Mon.fits (0 - p.net) := by unfold Mon.fits; omega
      have a2 : Mon.fits (0 - x) := by unfold Mon.fits; omega
      simp only [okP, decide_eq_true a1, decide_eq_true a2, Bool.and_self]
    obtain ⟨z, z1, z2, z3⟩ := mir_whole (r := r) (done := done ++ [⟨p.cat, p.bp, p.net, x⟩]) (s := s + p.net) (t := t + x) (j := j + 1) (by omega) (by omega) (by omega)
      (fun q hq => by rcases List.mem_append.1 hq with h | h; exact hd q h; simp only [List.mem_cons, List.not_mem_nil, or_false] at h; subst h; exact ⟨hok, by show Mon.fits p.net; unfold Mon.fits; omega, by show Mon.fits x; unfold Mon.fits; omega⟩) (fun q hq => hr q (by simp [hq]))
    refine ⟨z, ?_, ?_, z3.1, z3.2.1, z3.2.2.1, z3.2.2.2.1, by have := z3.2.2.2.2; simp at this ⊢; omega⟩
    · rw [wholeTo, x1]; simp only [f1, f2, if_true]; exact z1
    · rw [List.map_cons, wholeTo]
      simp only [negP, x2, f3, f4, if_true]
      rw [List.map_append] at z2
      rw [show 0 - s + (0 - p.net) = 0 - (s + p.net) from by omega, show 0 - t + (0 - x) = 0 - (t + x) from by omega]
      exact z2
/-- the law: lines in the mirror -/
theorem mirror_law {T : List Rate} {d : Day} {ls : List Ln} (hs : SmallL ls) (hl : ls.length ≤ 20) :
    (∃ n, totalV T d ls = .error n ∧ totalV T d (ls.map mirL) = .error n) ∨ ∃ t u, totalV T d ls = .ok t ∧ totalV T d (ls.map mirL) = .ok u ∧ backV t = .ok u ∧ (∀ p ∈ t.parts, Mon.fits p.net ∧ Mon.fits p.tax) ∧ t.parts.length ≤ 20 := by
  unfold totalV
  rw [List.length_map]
  split
  · exact .inl ⟨_, rfl, rfl⟩
  · split
    · exact .inl ⟨_, rfl, rfl⟩
    · split
      · exact .inl ⟨_, rfl, rfl⟩
      · split
        · exact .inl ⟨_, rfl, rfl⟩
        · rcases mir_parts (T := T) (d := d) (k := 0) (ps := []) ⟨Nat.le_refl _, by simp, by simp, by simp⟩ (by omega) hs with ⟨n, h1, h2⟩ | ⟨qs, h1, h2, h3⟩
          · rw [List.map_nil] at h2
            rw [h1, h2]; exact .inl ⟨n, rfl, rfl⟩
          · rw [List.map_nil] at h2
            rw [h1, h2]
            have hlen := h3.len
            obtain ⟨z, z1, z2, z3, z4, z5, z6, z7⟩ := mir_whole (r := qs) (done := []) (s := 0) (t := 0) (j := 0) (by omega) (by omega) (by omega) (by simp) (fun p hp => ⟨by have := h3.net p hp; omega, h3.bps p hp⟩)
            refine .inr ⟨z, _, z1, z2, ?_, fun p hp => (z3 p hp).2, by simp at z7; omega⟩
            unfold backV
            have hall : z.parts.all okP = true := List.all_eq_true.2 fun p hp => (z3 p hp).1
            simp only [decide_eq_true z4, decide_eq_true z5, decide_eq_true z6, hall, Bool.and_self, if_true]
/-- the first k of a list changed -/
def mapTo {α : Type} (f : α → α) (k : Nat) (l : List α) : List α := (l.take k).map f ++ l.drop k
theorem mapTo_len {α : Type} (f : α → α) (k : Nat) (l : List α) : (mapTo f k l).length = l.length := by unfold mapTo; simp; omega
theorem mapTo_zero {α : Type} (f : α → α) (l : List α) : mapTo f 0 l = l := by simp [mapTo]
theorem mapTo_all {α : Type} (f : α → α) (l : List α) : mapTo f l.length l = l.map f := by simp [mapTo]
theorem mapTo_at {α : Type} {f : α → α} {k : Nat} {l : List α} (hk : k < l.length) (h : k < (mapTo f k l).length) : (mapTo f k l)[k] = l[k] := by
  simp only [mapTo]
  rw [List.getElem_append_right (by simp; omega)]
  simp [Nat.min_eq_left (Nat.le_of_lt hk)]
theorem mapTo_set {α : Type} {f : α → α} {k : Nat} {l : List α} (hk : k < l.length) : (mapTo f k l).set k (f l[k]) = mapTo f (k + 1) l := by
  unfold mapTo
  have e : ((l.take k).map f).length = k := by simp; omega
  rw [List.set_append_right _ _ (by omega), e, Nat.sub_self, List.drop_eq_getElem_cons hk, List.set_cons_zero, List.take_succ_eq_append_getElem hk, List.map_append]
  simp only [List.map_cons, List.map_nil, List.append_assoc, List.cons_append, List.nil_append]
end Go.Proofs.Ytpobhlnlnplbdaa
