/- Series: the plain law: what opening, shutting, taking do to what is known of a name. -/
import Derived.Test.YtmchkhofcjgeaaaSerP
namespace Go.Proofs.Ytmchkhofcjgeaaa
open Go Go.RowKit

structure RightQ (l : List Srs) : Prop where
  few : l.length ≤ 8
  up : l.Pairwise fun a b => ltS a.name b.name = true
  good : ∀ s ∈ l, nameB s.name = true ∧ numR s = true
theorem chainR_iff (p : Option ByteArray) (l : List Srs) : chainR p l = true ↔ (l.Pairwise fun a b => ltS a.name b.name = true) ∧ (∀ s ∈ l, aheadR p s.name = true) ∧ ∀ s ∈ l, nameB s.name = true ∧ numR s = true := by
  induction l generalizing p with
  | nil => simp [chainR]
  | cons x l ih =>
    rw [chainR, Bool.and_eq_true, ih, List.pairwise_cons]
    unfold okR
    rw [Bool.and_eq_true, Bool.and_eq_true]
    constructor
    · rintro ⟨⟨h0, h1, h1'⟩, h2, h3, h4⟩
      refine ⟨⟨h3, h2⟩, fun s hs => ?_, fun s hs => ?_⟩
      · rcases List.mem_cons.1 hs with rfl | hs
        · exact h1
        · have h5 := h3 s hs
          cases p with
          | none => rfl
          | some m => exact ltS_trans h1 h5
      · rcases List.mem_cons.1 hs with rfl | hs
        · exact ⟨h0, h1'⟩
        · exact h4 s hs
    · rintro ⟨⟨h1, h2⟩, h3, h4⟩
      obtain ⟨p2, p3⟩ := h4 x (by simp)
      exact ⟨⟨p2, h3 x (by simp), p3⟩, h2, h1, fun s hs => h4 s (by simp [hs])⟩
theorem rightQ_iff (l : List Srs) : rightR l = true ↔ RightQ l := by
  unfold rightR
  rw [Bool.and_eq_true, decide_eq_true_iff, chainR_iff]
  exact ⟨fun ⟨h1, h2, h3, h4⟩ => ⟨h1, h2, h4⟩, fun ⟨h1, h2, h4⟩ => ⟨h1, h2, fun _ _ => rfl, h4⟩⟩
theorem RightQ.nil : RightQ [] := ⟨by simp, by simp, by simp⟩

/-- what is known of a name -/
def getR (l : List Srs) (n : ByteArray) : Option Srs := l.find? (isNm n)
theorem isNm_iff {n : ByteArray} {s : Srs} : isNm n s = true ↔ s.name = n := eqS_iff _ _
theorem isNm_no {n : ByteArray} {s : Srs} (h : s.name ≠ n) : isNm n s = false := by rw [Bool.eq_false_iff]; exact fun e => h (isNm_iff.1 e)
theorem getR_nil (n : ByteArray) : getR [] n = none := rfl
theorem getR_none {l : List Srs} {n : ByteArray} : getR l n = none ↔ placeR l n < 0 := by
  unfold getR
  rw [List.find?_eq_none]
  rcases placeR_spec l n with ⟨h1, h2⟩ | ⟨j, hj, h1, h2, h3⟩
  · exact ⟨fun _ => by omega, fun _ x hx => by rw [isNm_no (h2 x hx)]; simp⟩
  · exact ⟨fun h => absurd (isNm_iff.2 h2) (h l[j] (List.getElem_mem hj)), fun h => by omega⟩
theorem getR_at {l : List Srs} (hl : l.Pairwise fun a b => ltS a.name b.name = true) {k : Nat} (hk : k < l.length) : getR l l[k].name = some l[k] ∧ placeR l l[k].name = (k : Int) := by
  rcases placeR_spec l l[k].name with ⟨h1, h2⟩ | ⟨j, hj, h1, h2, h3⟩
  · exact absurd rfl (h2 _ (List.getElem_mem hk))
  · have hjk : j = k := by
      rw [List.pairwise_iff_getElem] at hl
      rcases Nat.lt_trichotomy j k with h | h | h
      · exact absurd h2 (ltS_ne (hl j k hj hk h))
      · exact h
      · exact absurd h2.symm (ltS_ne (hl k j hk hj h))
    subst hjk
    refine ⟨?_, h1⟩
    unfold getR
    rw [List.find?_eq_some_iff_getElem]
    exact ⟨isNm_iff.2 rfl, j, hk, rfl, fun i hi => by rw [isNm_no (h3 i (by omega) hi)]; rfl⟩
theorem getR_some {l : List Srs} {n : ByteArray} {s : Srs} (h : getR l n = some s) : s ∈ l ∧ s.name = n := by
  unfold getR at h
  exact ⟨List.mem_of_find?_eq_some h, isNm_iff.1 (List.find?_some h)⟩
theorem getR_mem {l : List Srs} (hl : l.Pairwise fun a b => ltS a.name b.name = true) {s : Srs} (h : s ∈ l) : getR l s.name = some s := by
  obtain ⟨k, hk, rfl⟩ := List.getElem_of_mem h
  exact (getR_at hl hk).1
theorem getR_place {l : List Srs} (hl : l.Pairwise fun a b => ltS a.name b.name = true) {n : ByteArray} {s : Srs} (h : getR l n = some s) : ∃ k, ∃ hk : k < l.length, placeR l n = (k : Int) ∧ l[k] = s ∧ s.name = n := by
  obtain ⟨h1, h2⟩ := getR_some h
  obtain ⟨k, hk, rfl⟩ := List.getElem_of_mem h1
  have := (getR_at hl hk).2
  rw [h2] at this
  exact ⟨k, hk, this, rfl, h2⟩
theorem getR_append (l m : List Srs) (n : ByteArray) : getR (l ++ m) n = (getR l n).or (getR m n) := by unfold getR; rw [List.find?_append]
theorem getR_cons (x : Srs) (l : List Srs) (n : ByteArray) : getR (x :: l) n = if x.name = n then some x else getR l n := by
  unfold getR; rw [List.find?_cons]
  by_cases h : x.name = n
  · rw [isNm_iff.2 h, if_pos h]
  · rw [if_neg h, isNm_no h]
theorem look_get (l : List Srs) (n : ByteArray) (hl : RightQ l) : lookR l n = match getR l n with | some s => (s, true) | none => (srs0, false) := by
  cases h : getR l n with
  | none => exact lookR_gone (getR_none.1 h)
  | some s => obtain ⟨k, hk, hp, rfl, _⟩ := getR_place hl.up h; exact lookR_at hk hp
theorem look_has {l : List Srs} {n : ByteArray} {s : Srs} (hl : RightQ l) (h : getR l n = some s) : lookR l n = (s, true) := by rw [look_get l n hl, h]
theorem look_hasnt {l : List Srs} {n : ByteArray} (hl : RightQ l) (h : getR l n = none) : lookR l n = (srs0, false) := by rw [look_get l n hl, h]

/-- opening -/
theorem findR_split (l : List Srs) (n : ByteArray) (hl : l.Pairwise fun a b => ltS a.name b.name = true) (hn : placeR l n < 0) : (∀ s ∈ l.take (findR l n), ltS s.name n = true) ∧ (∀ s ∈ l.drop (findR l n), ltS n s.name = true) := by
  constructor
  · intro s hs
    obtain ⟨j, hj, rfl⟩ := List.getElem_of_mem hs
    rw [List.length_take] at hj
    rw [List.getElem_take]
    exact findR_lt_true (by omega) (by omega)
  · intro s hs
    obtain ⟨j, hj, rfl⟩ := List.getElem_of_mem hs
    rw [List.length_drop] at hj
    rw [List.getElem_drop]
    have h0 := findR_hi (l := l) (n := n) (by omega)
    have hne : l[findR l n].name ≠ n := by
      rcases placeR_spec l n with ⟨_, h2⟩ | ⟨j, _, h1, _⟩
      · exact h2 _ (List.getElem_mem _)
      · omega
    have hf : ltS n l[findR l n].name = true := by
      cases h : ltS n l[findR l n].name with
      | true => rfl
      | false => exact absurd (ltS_total h0 h) hne
    rcases Nat.eq_zero_or_pos j with rfl | hp
    · simp only [Nat.add_zero]; exact hf
    · rw [List.pairwise_iff_getElem] at hl
      exact ltS_trans hf (hl (findR l n) (findR l n + j) (by omega) (by omega) (by omega))
theorem open_ok {l : List Srs} {n : ByteArray} {lim : Int} (hr : RightQ l) (hnm : nameB n = true) (h1 : 1 ≤ lim) (h2 : lim ≤ 1099511627776) (hn : getR l n = none) (h8 : l.length < 8) :
    ∃ m, openR l n lim = .ok m ∧ RightQ m ∧ m.length = l.length + 1 ∧ ∀ x, getR m x = if x = n then some ⟨n, 1, lim, false⟩ else getR l x := by
  have hp := getR_none.1 hn
  obtain ⟨s1, s2⟩ := findR_split l n hr.up hp
  have hle := findR_le l n
  refine ⟨l.take (findR l n) ++ ⟨n, 1, lim, false⟩ :: l.drop (findR l n), ?_, ⟨?_, ?_, ?_⟩, ?_, ?_⟩
  · unfold openR
    rw [if_neg (by rw [(rightQ_iff l).2 hr]; simp), if_neg (by rw [hnm]; simp), if_neg (by omega), if_neg (by omega), if_neg (by omega)]
  · simp; omega
  · rw [List.pairwise_append, List.pairwise_cons]
    have hl' := hr.up
    rw [← List.take_append_drop (findR l n) l] at hl'
    obtain ⟨p1, p2, p3⟩ := List.pairwise_append.1 hl'
    refine ⟨p1, ⟨s2, p2⟩, fun a ha b hb => ?_⟩
    rcases List.mem_cons.1 hb with rfl | hb
    · exact s1 a ha
    · exact p3 a ha b hb
  · intro s hs
    rcases List.mem_append.1 hs with hs | hs
    · exact hr.good s (List.mem_of_mem_take hs)
    · rcases List.mem_cons.1 hs with rfl | hs
      · refine ⟨hnm, ?_⟩
        unfold numR
        rw [decide_eq_true (p := 1 ≤ lim) h1, decide_eq_true (p := lim ≤ _) h2, decide_eq_true (p := (1 : Int) ≤ lim + 1) (by omega)]; rfl
      · exact hr.good s (List.mem_of_mem_drop hs)
  · simp; omega
  · intro x
    have e : getR l x = (getR (l.take (findR l n)) x).or (getR (l.drop (findR l n)) x) := by rw [← getR_append, List.take_append_drop]
    rw [getR_append, getR_cons, e]
    by_cases hx : x = n
    · subst hx
      rw [if_pos rfl, if_pos rfl]
      have : getR (l.take (findR l x)) x = none := by
        unfold getR; rw [List.find?_eq_none]; intro s hs; rw [isNm_no (ltS_ne (s1 s hs))]; simp
      rw [this]; rfl
    · rw [if_neg (fun h => hx h.symm), if_neg hx]
theorem open_taken {l : List Srs} {n : ByteArray} {lim : Int} (hr : RightQ l) (hnm : nameB n = true) (h1 : 1 ≤ lim) (h2 : lim ≤ 1099511627776) (hn : getR l n ≠ none) : openR l n lim = .error 12 := by
  unfold openR
  rw [if_neg (by rw [(rightQ_iff l).2 hr]; simp), if_neg (by rw [hnm]; simp), if_neg (by omega), if_pos (by have := mt getR_none.2 hn; omega)]
theorem open_full {l : List Srs} {n : ByteArray} {lim : Int} (hr : RightQ l) (hnm : nameB n = true) (h1 : 1 ≤ lim) (h2 : lim ≤ 1099511627776) (hn : getR l n = none) (h8 : ¬ l.length < 8) : openR l n lim = .error 14 := by
  unfold openR
  rw [if_neg (by rw [(rightQ_iff l).2 hr]; simp), if_neg (by rw [hnm]; simp), if_neg (by omega), if_neg (by have := getR_none.1 hn; omega), if_pos (by omega)]

/-- writing anew what stands of a name -/
theorem set_ok {l : List Srs} {k : Nat} (hr : RightQ l) (hk : k < l.length) {y : Srs} (hn : y.name = l[k].name) (hy : numR y = true) :
    RightQ (l.set k y) ∧ ∀ x, getR (l.set k y) x = if x = y.name then some y else getR l x := by
  have hl : l = l.take k ++ l[k] :: l.drop (k + 1) := by rw [← List.drop_eq_getElem_cons hk, List.take_append_drop]
  have hs : l.set k y = l.take k ++ y :: l.drop (k + 1) := List.set_eq_take_append_cons_drop .. |>.trans (if_pos hk)
  have hu := hr.up
  rw [hl] at hu
  obtain ⟨p1, p2, p3⟩ := List.pairwise_append.1 hu
  obtain ⟨p4, p5⟩ := List.pairwise_cons.1 p2
  rw [hs]
  refine ⟨⟨?_, ?_, ?_⟩, ?_⟩
  · have := hr.few; simp; omega
  · refine List.pairwise_append.2 ⟨p1, List.pairwise_cons.2 ⟨fun b hb => by rw [hn]; exact p4 b hb, p5⟩, fun a ha b hb => ?_⟩
    rcases List.mem_cons.1 hb with rfl | hb
    · rw [hn]; exact p3 a ha _ List.mem_cons_self
    · exact p3 a ha b (List.mem_cons_of_mem _ hb)
  · intro s hs
    rcases List.mem_append.1 hs with hs | hs
    · exact hr.good s (List.mem_of_mem_take hs)
    · rcases List.mem_cons.1 hs with rfl | hs
      · exact ⟨by rw [hn]; exact (hr.good _ (List.getElem_mem hk)).1, hy⟩
      · exact hr.good s (List.mem_of_mem_drop hs)
  · intro x
    have e : getR l x = (getR (l.take k) x).or (getR (l[k] :: l.drop (k + 1)) x) := by rw [← getR_append, ← hl]
    rw [getR_append, e, getR_cons, getR_cons, ← hn]
    by_cases hx : x = y.name
    · subst hx
      rw [if_pos rfl, if_pos rfl]
      have h1 : getR (l.take k) y.name = none := by
        unfold getR; rw [List.find?_eq_none]; intro s hs; rw [isNm_no (by rw [hn]; exact ltS_ne (p3 s hs l[k] List.mem_cons_self))]; simp
      rw [h1]; rfl
    · rw [if_neg (fun h => hx h.symm), if_neg hx, if_neg (fun h => hx h.symm)]
theorem at_none {l : List Srs} {n : ByteArray} (hr : RightQ l) (hn : getR l n = none) : atR l n = (0, 11) := atR_gone ((rightQ_iff l).2 hr) (getR_none.1 hn)
theorem shut_none {l : List Srs} {n : ByteArray} (hr : RightQ l) (hn : getR l n = none) : shutR l n = .error 11 := by rw [shutR_no (by rw [at_none hr hn]; simp), at_none hr hn]
theorem take_none {l : List Srs} {n : ByteArray} (hr : RightQ l) (hn : getR l n = none) : takeR l n = .error 11 := by rw [takeR_no (by rw [at_none hr hn]; simp), at_none hr hn]
theorem at_some {l : List Srs} {n : ByteArray} {s : Srs} (hr : RightQ l) (hn : getR l n = some s) : ∃ k, ∃ hk : k < l.length, l[k] = s ∧ s.name = n ∧ atR l n = if s.shut = true then (0, 13) else ((k : Int), 0) := by
  obtain ⟨k, hk, hp, rfl, h⟩ := getR_place hr.up hn
  exact ⟨k, hk, rfl, h, atR_at ((rightQ_iff l).2 hr) hk hp⟩
theorem shut_shut {l : List Srs} {n : ByteArray} {s : Srs} (hr : RightQ l) (hn : getR l n = some s) (hs : s.shut = true) : shutR l n = .error 13 := by
  obtain ⟨k, hk, h1, h2, h3⟩ := at_some hr hn
  rw [if_pos hs] at h3
  rw [shutR_no (by rw [h3]; simp), h3]
theorem take_shut {l : List Srs} {n : ByteArray} {s : Srs} (hr : RightQ l) (hn : getR l n = some s) (hs : s.shut = true) : takeR l n = .error 13 := by
  obtain ⟨k, hk, h1, h2, h3⟩ := at_some hr hn
  rw [if_pos hs] at h3
  rw [takeR_no (by rw [h3]; simp), h3]
theorem numR_iff {s : Srs} : numR s = true ↔ 1 ≤ s.limit ∧ s.limit ≤ 1099511627776 ∧ 1 ≤ s.next ∧ s.next ≤ s.limit + 1 := by unfold numR; simp
theorem shut_ok {l : List Srs} {n : ByteArray} {s : Srs} (hr : RightQ l) (hn : getR l n = some s) (hs : s.shut = false) :
    ∃ m, shutR l n = .ok m ∧ RightQ m ∧ m.length = l.length ∧ ∀ x, getR m x = if x = n then some ⟨n, s.next, s.limit, true⟩ else getR l x := by
  obtain ⟨k, hk, rfl, rfl, h3⟩ := at_some hr hn
  rw [if_neg (by rw [hs]; simp)] at h3
  obtain ⟨a, b⟩ := set_ok hr hk (y := ⟨l[k].name, l[k].next, l[k].limit, true⟩) rfl (numR_iff.2 (numR_iff.1 (hr.good _ (List.getElem_mem hk)).2))
  exact ⟨_, shutR_ok hk (by rw [h3]) (by rw [h3]), a, by simp, b⟩
theorem take_ok {l : List Srs} {n : ByteArray} {s : Srs} (hr : RightQ l) (hn : getR l n = some s) (hs : s.shut = false) (hlt : ¬ s.limit < s.next) :
    ∃ m, takeR l n = .ok (m, s.next) ∧ RightQ m ∧ m.length = l.length ∧ ∀ x, getR m x = if x = n then some ⟨n, s.next + 1, s.limit, s.shut⟩ else getR l x := by
  obtain ⟨k, hk, rfl, rfl, h3⟩ := at_some hr hn
  rw [if_neg (by rw [hs]; simp)] at h3
  obtain ⟨q1, q2, q3, q4⟩ := numR_iff.1 (hr.good _ (List.getElem_mem hk)).2
  obtain ⟨a, b⟩ := set_ok hr hk (y := ⟨l[k].name, l[k].next + 1, l[k].limit, l[k].shut⟩) rfl (numR_iff.2 ⟨q1, q2, by show 1 ≤ l[k].next + 1; omega, by show l[k].next + 1 ≤ l[k].limit + 1; omega⟩)
  exact ⟨_, by rw [takeR_at hk (by rw [h3]) (by rw [h3]), if_neg hlt], a, by simp, b⟩
theorem take_full {l : List Srs} {n : ByteArray} {s : Srs} (hr : RightQ l) (hn : getR l n = some s) (hs : s.shut = false) (hlt : s.limit < s.next) : takeR l n = .error 14 := by
  obtain ⟨k, hk, rfl, rfl, h3⟩ := at_some hr hn
  rw [if_neg (by rw [hs]; simp)] at h3
  rw [takeR_at hk (by rw [h3]) (by rw [h3]), if_pos hlt]
end Go.Proofs.Ytmchkhofcjgeaaa
