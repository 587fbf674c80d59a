/- Sessions: the plain law: what joining, leaving, keeping do to what is known of an id. -/
import Derived.Test.YtmchkhofcjgeaaaSesF
namespace Go.Proofs.Ytmchkhofcjgeaaa
open Go Go.RowKit

def goodS (s : Ses) : Prop := 0 ≤ s.last ∧ s.last ≤ 1099511627776 ∧ (s.last ≠ 0 ∨ s.rep = rep0)
structure RightP (l : List Ses) : Prop where
  few : l.length ≤ 8
  up : l.Pairwise fun a b => a.id < b.id
  pos : ∀ s ∈ l, 0 < s.id
  good : ∀ s ∈ l, goodS s
theorem chain_iff (a : Int) (l : List Ses) : chainS a l = true ↔ (l.Pairwise fun a b => a.id < b.id) ∧ (∀ s ∈ l, a < s.id) ∧ ∀ s ∈ l, goodS s := by
  induction l generalizing a with
  | nil => simp [chainS]
  | cons x l ih =>
    rw [chainS, Bool.and_eq_true, ih, List.pairwise_cons]
    constructor
    · rintro ⟨h1, h2, h3, h4⟩
      obtain ⟨p1, p2, p3, p4⟩ := okS_parts h1
      refine ⟨⟨h3, h2⟩, fun s hs => ?_, fun s hs => ?_⟩
      · rcases List.mem_cons.1 hs with rfl | hs
        · exact p1
        · have := h3 s hs; omega
      · rcases List.mem_cons.1 hs with rfl | hs
        · exact ⟨p2, p3, p4⟩
        · exact h4 s hs
    · rintro ⟨⟨h1, h2⟩, h3, h4⟩
      obtain ⟨p2, p3, p4⟩ := h4 x (by simp)
      exact ⟨okS_yes (h3 x (by simp)) p2 p3 p4, h2, h1, fun s hs => h4 s (by simp [hs])⟩
theorem rightP_iff (l : List Ses) : rightS l = true ↔ RightP l := by
  unfold rightS
  rw [Bool.and_eq_true, decide_eq_true_iff, chain_iff]
  exact ⟨fun ⟨h1, h2, h3, h4⟩ => ⟨h1, h2, h3, h4⟩, fun ⟨h1, h2, h3, h4⟩ => ⟨h1, h2, h3, h4⟩⟩
theorem RightP.nil : RightP [] := ⟨by simp, by simp, by simp, by simp⟩

/-- what is known of an id -/
def getS (l : List Ses) (id : Int) : Option Ses := l.find? (isId id)
theorem getS_nil (id : Int) : getS [] id = none := rfl
theorem getS_none {l : List Ses} {id : Int} : getS l id = none ↔ placeS l id < 0 := by
  unfold getS
  rw [List.find?_eq_none]
  rcases placeS_spec l id with ⟨h1, h2⟩ | ⟨j, hj, h1, h2, h3⟩
  · exact ⟨fun _ => by omega, fun _ x hx => by simpa [isId] using h2 x hx⟩
  · exact ⟨fun h => by have := h l[j] (List.getElem_mem hj); simp [isId, h2] at this, fun h => by omega⟩
theorem getS_at {l : List Ses} (hl : l.Pairwise fun a b => a.id < b.id) {k : Nat} (hk : k < l.length) : getS l l[k].id = some l[k] ∧ placeS l l[k].id = (k : Int) := by
  rcases placeS_spec l l[k].id with ⟨h1, h2⟩ | ⟨j, hj, h1, h2, h3⟩
  · exact absurd rfl (h2 _ (List.getElem_mem hk))
  · have hjk : j = k := by
      rw [List.pairwise_iff_getElem] at hl
      rcases Nat.lt_trichotomy j k with h | h | h
      · have := hl j k hj hk h; omega
      · exact h
      · have := hl k j hk hj h; omega
    subst hjk
    refine ⟨?_, h1⟩
    unfold getS
    rw [List.find?_eq_some_iff_getElem]
    exact ⟨by simp [isId], j, hk, rfl, fun i hi => by simpa [isId] using h3 i (by omega) hi⟩
theorem getS_some {l : List Ses} {id : Int} {s : Ses} (h : getS l id = some s) : s ∈ l ∧ s.id = id := by
  unfold getS at h
  exact ⟨List.mem_of_find?_eq_some h, by simpa [isId] using List.find?_some h⟩
theorem getS_mem {l : List Ses} (hl : l.Pairwise fun a b => a.id < b.id) {s : Ses} (h : s ∈ l) : getS l s.id = some s := by
  obtain ⟨k, hk, rfl⟩ := List.getElem_of_mem h
  exact (getS_at hl hk).1
theorem getS_place {l : List Ses} (hl : l.Pairwise fun a b => a.id < b.id) {id : Int} {s : Ses} (h : getS l id = some s) : ∃ k, ∃ hk : k < l.length, placeS l id = (k : Int) ∧ l[k] = s ∧ s.id = id := by
  obtain ⟨h1, h2⟩ := getS_some h
  obtain ⟨k, hk, rfl⟩ := List.getElem_of_mem h1
  have := (getS_at hl hk).2
  rw [h2] at this
  exact ⟨k, hk, this, rfl, h2⟩
theorem getS_append (l m : List Ses) (id : Int) : getS (l ++ m) id = (getS l id).or (getS m id) := by unfold getS; rw [List.find?_append]
theorem getS_cons (x : Ses) (l : List Ses) (id : Int) : getS (x :: l) id = if x.id = id then some x else getS l id := by
  unfold getS; rw [List.find?_cons]
  by_cases h : x.id = id
  · simp [isId, h]
  · rw [if_neg h]; have : isId id x = false := by simpa [isId] using h
    rw [this]

/-- joining -/
theorem findS_split (l : List Ses) (id : Int) (hl : l.Pairwise fun a b => a.id < b.id) (hn : placeS l id < 0) : (∀ s ∈ l.take (findS l id), s.id < id) ∧ (∀ s ∈ l.drop (findS l id), id < s.id) := by
  constructor
  · intro s hs
    obtain ⟨j, hj, rfl⟩ := List.getElem_of_mem hs
    rw [List.length_take] at hj
    rw [List.getElem_take]
    exact findS_lt_true (by omega) (by omega)
  · intro s hs
    obtain ⟨j, hj, rfl⟩ := List.getElem_of_mem hs
    rw [List.length_drop] at hj
    rw [List.getElem_drop]
    have h0 := findS_hi (l := l) (id := id) (by omega)
    have hne : l[findS l id].id ≠ id := by
      rcases placeS_spec l id with ⟨_, h2⟩ | ⟨j, _, h1, _⟩
      · exact h2 _ (List.getElem_mem _)
      · omega
    rcases Nat.eq_zero_or_pos j with rfl | hp
    · simp only [Nat.add_zero]; omega
    · rw [List.pairwise_iff_getElem] at hl
      have := hl (findS l id) (findS l id + j) (by omega) (by omega) (by omega)
      omega
theorem join_ok {l : List Ses} {id : Int} (hr : RightP l) (hid : 1 ≤ id) (hn : getS l id = none) (h8 : l.length < 8) :
    ∃ m, joinS l id = .ok m ∧ RightP m ∧ m.length = l.length + 1 ∧ ∀ x, getS m x = if x = id then some ⟨id, 0, rep0⟩ else getS l x := by
  have hp := getS_none.1 hn
  obtain ⟨s1, s2⟩ := findS_split l id hr.up hp
  have hle := findS_le l id
  refine ⟨l.take (findS l id) ++ ⟨id, 0, rep0⟩ :: l.drop (findS l id), ?_, ⟨?_, ?_, ?_, ?_⟩, ?_, ?_⟩
  · unfold joinS
    rw [if_neg (by rw [(rightP_iff l).2 hr]; simp; omega), if_neg (by omega), if_neg (by omega)]
  · simp; omega
  · rw [List.pairwise_append, List.pairwise_cons]
    have hl' := hr.up
    rw [← List.take_append_drop (findS l id) l] at hl'
    obtain ⟨p1, p2, p3⟩ := List.pairwise_append.1 hl'
    refine ⟨p1, ⟨s2, p2⟩, fun a ha b hb => ?_⟩
    rcases List.mem_cons.1 hb with rfl | hb
    · exact s1 a ha
    · exact p3 a ha b hb
  · intro s hs
    rcases List.mem_append.1 hs with hs | hs
    · exact hr.pos s (List.mem_of_mem_take hs)
    · rcases List.mem_cons.1 hs with rfl | hs
      · show 0 < id; omega
      · exact hr.pos s (List.mem_of_mem_drop hs)
  · intro s hs
    rcases List.mem_append.1 hs with hs | hs
    · exact hr.good s (List.mem_of_mem_take hs)
    · rcases List.mem_cons.1 hs with rfl | hs
      · exact ⟨Int.le_refl _, by show (0 : Int) ≤ _; omega, .inr rfl⟩
      · exact hr.good s (List.mem_of_mem_drop hs)
  · simp; omega
  · intro x
    have e : getS l x = (getS (l.take (findS l id)) x).or (getS (l.drop (findS l id)) x) := by rw [← getS_append, List.take_append_drop]
    rw [getS_append, getS_cons, e]
    by_cases hx : x = id
    · subst hx
      rw [if_pos rfl, if_pos rfl]
      have : getS (l.take (findS l x)) x = none := by
        unfold getS; rw [List.find?_eq_none]; intro s hs; have := s1 s hs; simp [isId]; omega
      rw [this]; rfl
    · rw [if_neg (fun h => hx h.symm), if_neg hx]
theorem join_taken {l : List Ses} {id : Int} (hr : RightP l) (hid : 1 ≤ id) (hn : getS l id ≠ none) : joinS l id = .error 12 := by
  unfold joinS
  rw [if_neg (by rw [(rightP_iff l).2 hr]; simp; omega), if_pos (by have := mt getS_none.2 hn; omega)]
theorem join_full {l : List Ses} {id : Int} (hr : RightP l) (hid : 1 ≤ id) (hn : getS l id = none) (h8 : ¬ l.length < 8) : joinS l id = .error 14 := by
  unfold joinS
  rw [if_neg (by rw [(rightP_iff l).2 hr]; simp; omega), if_neg (by have := getS_none.1 hn; omega), if_pos (by omega)]

/-- leaving -/
theorem leave_none {l : List Ses} {id : Int} (hr : RightP l) (hn : getS l id = none) : leaveS l id = .error 11 := by
  unfold leaveS
  rw [if_neg (by rw [(rightP_iff l).2 hr]; simp), if_pos (getS_none.1 hn)]
theorem leave_ok {l : List Ses} {id : Int} {s : Ses} (hr : RightP l) (hs : getS l id = some s) :
    ∃ m, leaveS l id = .ok m ∧ RightP m ∧ m.length + 1 = l.length ∧ ∀ x, getS m x = if x = id then none else getS l x := by
  obtain ⟨k, hk, hp, rfl, hid⟩ := getS_place hr.up hs
  have hl : l = l.take k ++ l[k] :: l.drop (k + 1) := by rw [← List.drop_eq_getElem_cons hk, List.take_append_drop]
  have hu := hr.up
  rw [hl] at hu
  obtain ⟨p1, p2, p3⟩ := List.pairwise_append.1 hu
  obtain ⟨p4, p5⟩ := List.pairwise_cons.1 p2
  refine ⟨l.take k ++ l.drop (k + 1), ?_, ⟨?_, ?_, ?_, ?_⟩, ?_, ?_⟩
  · unfold leaveS
    rw [if_neg (by rw [(rightP_iff l).2 hr]; simp), hp, if_neg (by omega)]; rfl
  · have := hr.few; simp; omega
  · exact List.pairwise_append.2 ⟨p1, p5, fun a ha b hb => p3 a ha b (List.mem_cons_of_mem _ hb)⟩
  · intro s hs
    rcases List.mem_append.1 hs with hs | hs
    · exact hr.pos s (List.mem_of_mem_take hs)
    · exact hr.pos s (List.mem_of_mem_drop hs)
  · intro s hs
    rcases List.mem_append.1 hs with hs | hs
    · exact hr.good s (List.mem_of_mem_take hs)
    · exact hr.good s (List.mem_of_mem_drop hs)
  · simp; omega
  · intro x
    have e : getS l x = (getS (l.take k) x).or (getS (l[k] :: l.drop (k + 1)) x) := by rw [← getS_append, ← hl]
    rw [getS_append, e, getS_cons]
    by_cases hx : x = id
    · subst hx
      rw [if_pos rfl]
      have h1 : getS (l.take k) x = none := by
        unfold getS; rw [List.find?_eq_none]; intro s hs; have := p3 s hs l[k] List.mem_cons_self; simp [isId]; omega
      have h2 : getS (l.drop (k + 1)) x = none := by
        unfold getS; rw [List.find?_eq_none]; intro s hs; have := p4 s hs; simp [isId]; omega
      rw [h1, h2]; rfl
    · rw [if_neg hx, if_neg (by rw [hid]; exact fun h => hx h.symm)]

/-- looking, and keeping -/
theorem look_none {l : List Ses} {id seq : Int} (hr : RightP l) (hn : getS l id = none) : lookS l id seq = (rep0, false, 15) := lookS_gone ((rightP_iff l).2 hr) (getS_none.1 hn)
theorem look_some {l : List Ses} {id seq : Int} {s : Ses} (hr : RightP l) (hs : getS l id = some s) :
    lookS l id seq = if seq < 1 ∨ 1099511627776 < seq then (rep0, false, 1) else if seq = s.last then (s.rep, true, 0) else if seq < s.last then (rep0, false, 16) else (rep0, false, 0) := by
  obtain ⟨k, hk, hp, rfl, hid⟩ := getS_place hr.up hs
  exact lookS_at ((rightP_iff l).2 hr) hk hp
theorem keep_ok {l : List Ses} {id seq : Int} {s : Ses} (r : Rep) (hr : RightP l) (hs : getS l id = some s) (h1 : 1 ≤ seq) (h2 : seq ≤ 1099511627776) (h3 : s.last < seq) :
    ∃ m, keepS l id seq r = .ok m ∧ RightP m ∧ m.length = l.length ∧ ∀ x, getS m x = if x = id then some ⟨id, seq, r⟩ else getS l x := by
  have hlk := look_some (seq := seq) hr hs
  rw [if_neg (by omega), if_neg (by omega), if_neg (by omega)] at hlk
  obtain ⟨k, hk, hp, hsk, hid⟩ := getS_place hr.up hs
  have hidk : l[k].id = id := by rw [hsk]; exact hid
  have hl : l = l.take k ++ l[k] :: l.drop (k + 1) := by rw [← List.drop_eq_getElem_cons hk, List.take_append_drop]
  have hset : l.set k ⟨id, seq, r⟩ = l.take k ++ (⟨id, seq, r⟩ : Ses) :: l.drop (k + 1) := by rw [List.set_eq_take_append_cons_drop, if_pos hk]
  have hu := hr.up
  rw [hl] at hu
  obtain ⟨p1, p2, p3⟩ := List.pairwise_append.1 hu
  obtain ⟨p4, p5⟩ := List.pairwise_cons.1 p2
  refine ⟨l.set k ⟨id, seq, r⟩, ?_, ⟨?_, ?_, ?_, ?_⟩, by simp, ?_⟩
  · unfold keepS
    rw [hlk, if_neg (by simp), if_neg (by simp), hp]; rfl
  · have := hr.few; simpa using this
  · rw [hset]
    refine List.pairwise_append.2 ⟨p1, List.pairwise_cons.2 ⟨fun b hb => ?_, p5⟩, fun a ha b hb => ?_⟩
    · have := p4 b hb; rw [hidk] at this; exact this
    · rcases List.mem_cons.1 hb with rfl | hb
      · have := p3 a ha l[k] List.mem_cons_self; rw [hidk] at this; exact this
      · exact p3 a ha b (List.mem_cons_of_mem _ hb)
  · intro t ht
    rcases List.mem_or_eq_of_mem_set ht with ht | rfl
    · exact hr.pos t ht
    · have := hr.pos l[k] (List.getElem_mem hk); rw [hidk] at this; exact this
  · intro t ht
    rcases List.mem_or_eq_of_mem_set ht with ht | rfl
    · exact hr.good t ht
    · exact ⟨by show 0 ≤ seq; omega, h2, .inl (by show seq ≠ 0; omega)⟩
  · intro x
    have e : getS l x = (getS (l.take k) x).or (getS (l[k] :: l.drop (k + 1)) x) := by rw [← getS_append, ← hl]
    rw [hset, getS_append, getS_cons, e, getS_cons, hidk]
    by_cases hx : x = id
    · subst hx
      have h1 : getS (l.take k) x = none := by
        unfold getS; rw [List.find?_eq_none]; intro s hs; have := p3 s hs l[k] List.mem_cons_self; simp [isId]; omega
      rw [h1]; simp
    · have hx' : ¬ id = x := fun h => hx h.symm
      simp only [hx, hx', if_false]
theorem keep_no {l : List Ses} {id seq : Int} (r : Rep) (hr : RightP l) (h : getS l id = none ∨ ∃ s, getS l id = some s ∧ seq ≤ s.last) (h1 : 1 ≤ seq) (h2 : seq ≤ 1099511627776) : ∃ n, n ≠ 0 ∧ keepS l id seq r = .error n := by
  rcases h with h | ⟨s, hs, hle⟩
  · refine ⟨15, by decide, ?_⟩
    unfold keepS; rw [look_none hr h]; rfl
  · have hlk := look_some (seq := seq) hr hs
    rw [if_neg (by omega)] at hlk
    by_cases he : seq = s.last
    · rw [if_pos he] at hlk
      refine ⟨12, by decide, ?_⟩
      unfold keepS; rw [hlk, if_neg (by simp), if_pos rfl]
    · rw [if_neg he, if_pos (by omega)] at hlk
      refine ⟨16, by decide, ?_⟩
      unfold keepS; rw [hlk]; rfl
end Go.Proofs.Ytmchkhofcjgeaaa
