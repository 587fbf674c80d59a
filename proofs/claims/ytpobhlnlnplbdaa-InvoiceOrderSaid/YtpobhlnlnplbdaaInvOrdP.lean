/- InvoiceOrder: the plain law. -/
import Derived.Test.YtpobhlnlnplbdaaInvMirP
namespace Go.Proofs.Ytpobhlnlnplbdaa
open Go Go.RowKit
theorem ext_rising : ∀ {l m : List Part}, Rising (catsP l) → Rising (catsP m) → (∀ p, p ∈ l ↔ p ∈ m) → l = m
  | [], [], _, _, _ => rfl
  | [], y :: m, _, _, h => by have := (h y).2 (by simp); cases this
  | x :: l, [], _, _, h => by have := (h x).1 (by simp); cases this
  | x :: l, y :: m, h1, h2, h => by
    have a1 : ∀ p ∈ l, ltS x.cat p.cat = true := fun p hp => List.rel_of_pairwise_cons (show List.Pairwise _ (x.cat :: catsP l) from h1) (List.mem_map_of_mem hp)
    have a2 : ∀ p ∈ m, ltS y.cat p.cat = true := fun p hp => List.rel_of_pairwise_cons (show List.Pairwise _ (y.cat :: catsP m) from h2) (List.mem_map_of_mem hp)
    have e : x = y := by
      rcases List.mem_cons.1 ((h x).1 (by simp)) with e | hx
      · exact e
      · rcases List.mem_cons.1 ((h y).2 (by simp)) with e | hy
        · exact e.symm
        · have := ltS_asym (a1 y hy); rw [a2 x hx] at this; cases this
    subst e
    have h3 : Rising (catsP l) := List.Pairwise.of_cons (show List.Pairwise _ (x.cat :: catsP l) from h1)
    have h4 : Rising (catsP m) := List.Pairwise.of_cons (show List.Pairwise _ (x.cat :: catsP m) from h2)
    congr 1
    refine ext_rising h3 h4 fun p => ⟨fun hp => ?_, fun hp => ?_⟩
    · rcases List.mem_cons.1 ((h p).1 (by simp [hp])) with e | hx
      · subst e; have := a1 p hp; rw [ltS_irrefl] at this; cases this
      · exact hx
    · rcases List.mem_cons.1 ((h p).2 (by simp [hp])) with e | hx
      · subst e; have := a2 p hp; rw [ltS_irrefl] at this; cases this
      · exact hx
theorem rising_ne {l : List Part} (h : Rising (catsP l)) {i j : Nat} (hi : i < l.length) (hj : j < l.length) (hij : i ≠ j) : l[i].cat ≠ l[j].cat := by
  rcases Nat.lt_or_ge i j with h1 | h1
  · exact ltS_ne (rising_at h hi hj h1)
  · exact (ltS_ne (rising_at h hj hi (by omega))).symm
theorem mem_set_rising {l : List Part} (h : Rising (catsP l)) {k : Nat} (hk : k < l.length) {q : Part} (p : Part) : p ∈ l.set k q ↔ p = q ∨ (p ∈ l ∧ p.cat ≠ l[k].cat) := by
  constructor
  · intro hp
    obtain ⟨i, hi, rfl⟩ := List.getElem_of_mem hp
    by_cases e : i = k
    · subst e; exact .inl (by rw [List.getElem_set_self])
    · rw [List.length_set] at hi
      rw [List.getElem_set_ne (fun h => e h.symm)]
      exact .inr ⟨List.getElem_mem _, rising_ne h hi hk e⟩
  · rintro (rfl | ⟨hp, hne⟩)
    · exact List.mem_set hk p
    · obtain ⟨i, hi, rfl⟩ := List.getElem_of_mem hp
      have e : i ≠ k := by rintro rfl; exact hne rfl
      refine List.mem_iff_getElem.2 ⟨i, by rw [List.length_set]; exact hi, ?_⟩
      rw [List.getElem_set_ne (fun h => e h.symm)]
theorem has_none {ps : List Part} (h : Rising (catsP ps)) {c : ByteArray} (hh : hasP ps c = false) : ∀ p ∈ ps, p.cat ≠ c := by
  intro p hp e
  obtain ⟨i, hi, rfl⟩ := List.getElem_of_mem hp
  rcases Nat.lt_trichotomy i (cntP ps c) with h1 | h1 | h1
  · have := cntP_lo h1 hi; rw [e, ltS_irrefl] at this; cases this
  · subst h1; rw [hasP_at rfl hi, e, eqS_refl] at hh; cases hh
  · have hk : cntP ps c < ps.length := by omega
    have h2 := rising_at h hk hi h1
    rw [e] at h2
    have h3 := cntP_hi hk
    rw [h2] at h3; cases h3
/-- what lines of a category come to -/
def sumC (c : ByteArray) : List Ln → Int
  | [] => 0
  | x :: l => (if x.cat = c then x.count * x.price else 0) + sumC c l
theorem sumC_snoc (c : ByteArray) : ∀ (l : List Ln) (x : Ln), sumC c (l ++ [x]) = sumC c l + (if x.cat = c then x.count * x.price else 0)
  | [], x => by simp [sumC]
  | y :: l, x => by simp only [List.cons_append, sumC, sumC_snoc c l x]; omega
theorem sumC_none {c : ByteArray} : ∀ {l : List Ln}, (∀ x ∈ l, x.cat ≠ c) → sumC c l = 0
  | [], _ => rfl
  | y :: l, h => by
    rw [sumC, sumC_none (fun x hx => h x (by simp [hx])), if_neg (h y (by simp))]; rfl
theorem sumC_perm {c : ByteArray} {a b : List Ln} (h : a.Perm b) : sumC c a = sumC c b := by
  induction h with
  | nil => rfl
  | cons x _ ih => simp only [sumC, ih]
  | swap x y l => simp only [sumC]; omega
  | trans _ _ h1 h2 => exact h1.trans h2
def PartOf (T : List Rate) (d : Day) (L : List Ln) (p : Part) : Prop := (∃ x ∈ L, x.cat = p.cat) ∧ p.bp = (findT T p.cat d).1 ∧ p.net = sumC p.cat L ∧ p.tax = 0
structure Char (T : List Rate) (d : Day) (L : List Ln) (ps : List Part) : Prop where
  ris : Rising (catsP ps)
  mem : ∀ p, p ∈ ps ↔ PartOf T d L p
theorem char_put {T : List Rate} {d : Day} {L : List Ln} {ps qs : List Part} (h : Char T d L ps) {x : Ln} {bp m : Int} (hb : bp = (findT T x.cat d).1) (hm : m = x.count * x.price) (hq : putP ps x.cat bp m = .ok qs) : Char T d (L ++ [x]) qs := by
  have hris := (rising_put h.ris hq).1
  refine ⟨hris, fun p => ?_⟩
  have hwr := rising_with h.ris x.cat bp
  have hlt := withP_lt ps x.cat bp
  rw [putP_eq] at hq
  split at hq
  rotate_left
  · cases hq
  cases hq
  unfold addP
  rw [mem_set_rising hwr hlt]
  -- the part that is put into
  have key : (withP ps x.cat bp)[cntP ps x.cat].cat = x.cat ∧ (withP ps x.cat bp)[cntP ps x.cat].bp = bp ∧ (withP ps x.cat bp)[cntP ps x.cat].net = sumC x.cat L ∧ (withP ps x.cat bp)[cntP ps x.cat].tax = 0 ∧ ∀ p, p.cat ≠ x.cat → (p ∈ withP ps x.cat bp ↔ p ∈ ps) := by
    cases hh : hasP ps x.cat with
    | true =>
      have hw : withP ps x.cat bp = ps := withP_yes hh
      simp only [hw] at hlt ⊢
      rw [hasP_at rfl hlt] at hh
      have e := (eqS_iff _ _).1 hh
      obtain ⟨_, e2, e3, e4⟩ := (h.mem _).1 (List.getElem_mem hlt)
      rw [e] at e2 e3
      exact ⟨e, by rw [e2, hb], e3, e4, fun _ _ => trivial⟩
    | false =>
      have hw := withP_no (ps := ps) (c := x.cat) (bp := bp) rfl hh
      have hno := has_none h.ris hh
      have hle := cntP_le ps x.cat
      have hs : sumC x.cat L = 0 := sumC_none fun y hy e => by
        have := (h.mem ⟨x.cat, (findT T x.cat d).1, sumC x.cat L, 0⟩).2 ⟨⟨y, hy, e⟩, rfl, rfl, rfl⟩
        exact hno _ this rfl
      have hg : (withP ps x.cat bp)[cntP ps x.cat] = ⟨x.cat, bp, 0, 0⟩ := by
        simp only [hw]
        rw [List.getElem_append_right (by rw [List.length_take]; omega)]
        simp [Nat.min_eq_left hle]
      rw [hg, hs]
      refine ⟨rfl, rfl, rfl, rfl, fun p hp => ?_⟩
      rw [hw, List.mem_append, List.mem_cons]
      constructor
      · rintro (h1 | rfl | h1)
        · exact List.mem_of_mem_take h1
        · exact absurd rfl hp
        · exact List.mem_of_mem_drop h1
      · intro h1
        rw [← List.take_append_drop (cntP ps x.cat) ps, List.mem_append] at h1
        rcases h1 with h1 | h1
        · exact .inl h1
        · exact .inr (.inr h1)
  generalize (withP ps x.cat bp)[cntP ps x.cat] = q at *
  obtain ⟨k1, k2, k3, k4, k5⟩ := key
  rw [k1, k2, k3, k4]
  unfold PartOf
  rw [sumC_snoc]
  by_cases e : p.cat = x.cat
  · constructor
    · rintro (rfl | ⟨_, hne⟩)
      · exact ⟨⟨x, by simp, rfl⟩, hb, by simp only [if_true]; rw [hm], rfl⟩
      · exact absurd e hne
    · rintro ⟨_, e2, e3, e4⟩
      left
      cases p
      simp only at e e2 e3 e4
      subst e e4
      rw [e2, e3, hb, hm]; simp
  · rw [if_neg (fun h => e h.symm), Int.add_zero]
    constructor
    · rintro (rfl | ⟨hp, _⟩)
      · exact absurd rfl e
      · obtain ⟨⟨y, hy, hyc⟩, r⟩ := (h.mem p).1 ((k5 p e).1 hp)
        exact ⟨⟨y, by simp [hy], hyc⟩, r⟩
    · rintro ⟨⟨y, hy, hyc⟩, r⟩
      refine .inr ⟨(k5 p e).2 ((h.mem p).2 ⟨⟨y, ?_, hyc⟩, r⟩), e⟩
      rcases List.mem_append.1 hy with hy | hy
      · exact hy
      · simp only [List.mem_cons, List.not_mem_nil, or_false] at hy; subst hy; exact absurd hyc.symm e
theorem line_ok2 {T : List Rate} {d : Day} {x : Ln} {b : Int × Int} (h : lineV T d x = .ok b) : b.1 = (findT T x.cat d).1 ∧ b.2 = x.count * x.price ∧ 0 ≤ b.1 ∧ b.1 ≤ 100000 := by
  obtain ⟨_, _, _, _, h1, h2, _, h3, h4⟩ := line_ok h
  exact ⟨by rw [h1], h2, h3, h4⟩
theorem char_parts {T : List Rate} {d : Day} : ∀ {l L : List Ln} {ps qs : List Part}, Char T d L ps → partsV T d ps l = .ok qs → Char T d (L ++ l) qs
  | [], L, ps, qs, h, hp => by rw [partsV] at hp; cases hp; rw [List.append_nil]; exact h
  | x :: l, L, ps, qs, h, hp => by
    rw [partsV] at hp
    split at hp
    · cases hp
    · rename_i b hb
      split at hp
      · cases hp
      · rename_i rs hr
        obtain ⟨h1, h2, _⟩ := line_ok2 hb
        have := char_parts (char_put h h1 h2 hr) hp
        rwa [List.append_assoc] at this
theorem char_nil (T : List Rate) (d : Day) : Char T d [] [] := ⟨List.Pairwise.nil, fun p => by simp [PartOf]⟩
theorem parts_all {T : List Rate} {d : Day} : ∀ {ls : List Ln} {ps : List Part} {k : Nat}, SmallP k ps → k + ls.length ≤ 20 → SmallL ls → (∀ x ∈ ls, ∃ b, lineV T d x = .ok b) → ∃ qs, partsV T d ps ls = .ok qs
  | [], ps, k, _, _, _, _ => ⟨ps, rfl⟩
  | x :: l, ps, k, h, hk, hs, ha => by
    simp only [List.length_cons] at hk
    obtain ⟨b, hb⟩ := ha x (by simp)
    obtain ⟨_, _, b1⟩ := line_ok2 hb
    have hm := small_prod (hs x (by simp)).1 (hs x (by simp)).2
    obtain ⟨_, h2, _⟩ := line_ok2 hb
    rw [← h2] at hm
    obtain ⟨qs, p1, _, p3⟩ := mir_put h (by omega) x.cat b1 hm
    rw [partsV, hb]
    simp only [p1]
    exact parts_all p3 (by omega) (fun y hy => hs y (by simp [hy])) (fun y hy => ha y (by simp [hy]))
theorem parts_ok {T : List Rate} {d : Day} : ∀ {ls : List Ln} {ps qs : List Part}, partsV T d ps ls = .ok qs → ∀ x ∈ ls, ∃ b, lineV T d x = .ok b
  | [], _, _, _, x, hx => by cases hx
  | y :: l, ps, qs, h, x, hx => by
    rw [partsV] at h
    split at h
    · cases h
    · rename_i b hb
      split at h
      · cases h
      · rcases List.mem_cons.1 hx with rfl | hx
        · exact ⟨b, hb⟩
        · exact parts_ok h x hx
/-- the law: lines in another order -/
theorem order_law {T : List Rate} {d : Day} {a b : List Ln} (hp : a.Perm b) (hs : SmallL a) (hl : a.length ≤ 20) :
    (∃ n m, totalV T d a = .error n ∧ totalV T d b = .error m) ∨ ∃ t, totalV T d a = .ok t ∧ totalV T d b = .ok t := by
  have hlen := hp.length_eq
  have hsb : SmallL b := fun x hx => hs x (hp.mem_iff.2 hx)
  have hnil : SmallP 0 [] := ⟨Nat.le_refl _, by simp, by simp, by simp⟩
  unfold totalV
  rw [← hlen]
  split
  · exact .inl ⟨_, _, rfl, rfl⟩
  · split
    · exact .inl ⟨_, _, rfl, rfl⟩
    · split
      · exact .inl ⟨_, _, rfl, rfl⟩
      · split
        · exact .inl ⟨_, _, rfl, rfl⟩
        · cases ea : partsV T d [] a with
          | error n =>
            cases eb : partsV T d [] b with
            | error m => exact .inl ⟨n, m, rfl, rfl⟩
            | ok qs =>
              obtain ⟨rs, hr⟩ := parts_all hnil (by omega) hs (fun x hx => parts_ok eb x (hp.mem_iff.1 hx))
              rw [hr] at ea; cases ea
          | ok qs =>
            obtain ⟨rs, hr⟩ := parts_all hnil (by omega) hsb (fun x hx => parts_ok ea x (hp.mem_iff.2 hx))
            have ca := char_parts (char_nil T d) ea
            have cb := char_parts (char_nil T d) hr
            rw [List.nil_append] at ca cb
            have e : qs = rs := ext_rising ca.ris cb.ris fun p => by
              rw [ca.mem, cb.mem]
              unfold PartOf
              rw [sumC_perm hp]
              constructor
              · rintro ⟨⟨x, hx, hc⟩, r⟩; exact ⟨⟨x, hp.mem_iff.1 hx, hc⟩, r⟩
              · rintro ⟨⟨x, hx, hc⟩, r⟩; exact ⟨⟨x, hp.mem_iff.2 hx, hc⟩, r⟩
            subst e
            rw [hr]
            simp only
            cases wholeTo 0 0 [] qs with
            | error n => exact .inl ⟨n, n, rfl, rfl⟩
            | ok t => exact .inr ⟨t, rfl, rfl⟩
end Go.Proofs.Ytpobhlnlnplbdaa
