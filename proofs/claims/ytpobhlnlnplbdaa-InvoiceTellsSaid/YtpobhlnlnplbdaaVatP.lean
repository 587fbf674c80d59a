/- Tables of rates: plain words (what chapter 7 says), and how a row lies in memory. -/
import Derived.Test.YtpobhlnlnplbdaaSignP
import Derived.Test.YtpobhlnlnplbdaaDateP
import Derived.Test.YtpobhlnlnplbdaaRds2
namespace Go.Proofs.Ytpobhlnlnplbdaa
open Go Go.RowKit

structure Rate where
  cat : ByteArray
  day : Day
  bp : Int
instance : DecidableEq Rate := fun a b => decidable_of_iff (a.cat = b.cat ∧ a.day = b.day ∧ a.bp = b.bp) ⟨fun ⟨h1, h2, h3⟩ => by cases a; cases b; simp_all, fun h => by subst h; exact ⟨rfl, rfl, rfl⟩⟩
def rate0 : Rate := ⟨⟨#[]⟩, ⟨0, 0, 0⟩, 0⟩
def rateE : Enc Rate := ⟨5, fun x => [.string x.cat, .int .i64 x.day.y, .int .i64 x.day.m, .int .i64 x.day.d, .int .i64 x.bp], fun _ => rfl, fun x v hv => by simp only [List.mem_cons, List.not_mem_nil, or_false] at hv; rcases hv with rfl | rfl | rfl | rfl | rfl <;> rfl, by decide⟩
def beforeD (a b : Day) : Bool := rightD a && (rightD b && decide (daysD a < daysD b))
def aheadT (a b : Rate) : Bool := ltS a.cat b.cat || (eqS a.cat b.cat && beforeD a.day b.day)
/-- what is wrong with a row -/
def rowT (r : Rate) : Int := if nameB r.cat = false then 8 else if rightD r.day = false then 9 else if r.bp < 0 ∨ 100000 < r.bp then 10 else 0
def afterT (p : Option Rate) (r : Rate) : Bool := match p with | none => true | some a => aheadT a r
def chainT : Option Rate → List Rate → Bool
  | _, [] => true
  | p, r :: l => (rowT r == 0 && afterT p r) && chainT (some r) l
def rightT (l : List Rate) : Bool := decide (l.length ≤ 24) && chainT none l
/-- is there a row of that category and day? -/
def sameT (r x : Rate) : Bool := decide (x.cat = r.cat ∧ x.day = r.day)
def cntT (l : List Rate) (r : Rate) : Nat := (l.takeWhile fun x => aheadT x r).length
def putT (l : List Rate) (r : Rate) : Except Int (List Rate) :=
  if rightT l = false then .error 1
  else if rowT r ≠ 0 then .error (rowT r)
  else if l.any (sameT r) = true then .error 12
  else if 24 ≤ l.length then .error 2
  else .ok (l.take (cntT l r) ++ r :: l.drop (cntT l r))
def hitT (c : ByteArray) (d : Day) (r : Rate) : Bool := eqS r.cat c && !beforeD d r.day
def lastT (c : ByteArray) (d : Day) : Int × Bool → List Rate → Int × Bool
  | s, [] => s
  | s, r :: l => lastT c d (if hitT c d r = true then (r.bp, true) else s) l
def findT (l : List Rate) (c : ByteArray) (d : Day) : Int × Bool := if rightT l = false ∨ rightD d = false then (0, false) else lastT c d (0, false) l

theorem beforeD_iff {a b : Day} (ha : rightD a = true) (hb : rightD b = true) : beforeD a b = decide (daysD a < daysD b) := by unfold beforeD; rw [ha, hb]; rfl
theorem rowT_ok {r : Rate} (h : rowT r = 0) : nameB r.cat = true ∧ rightD r.day = true ∧ 0 ≤ r.bp ∧ r.bp ≤ 100000 := by
  unfold rowT at h
  split at h
  · omega
  · rename_i h1
    split at h
    · omega
    · rename_i h2
      split at h
      · omega
      · rename_i h3
        exact ⟨by simpa using h1, by simpa using h2, by omega, by omega⟩
theorem aheadT_irrefl (a : Rate) : aheadT a a = false := by
  unfold aheadT beforeD; rw [ltS_irrefl, decide_eq_false (Int.lt_irrefl _)]; simp
theorem aheadT_trans {a b c : Rate} (h1 : aheadT a b = true) (h2 : aheadT b c = true) : aheadT a c = true := by
  unfold aheadT beforeD at *
  simp only [Bool.or_eq_true, Bool.and_eq_true, decide_eq_true_eq, eqS_iff] at *
  rcases h1 with h1 | ⟨e1, r1, r2, l1⟩
  · rcases h2 with h2 | ⟨e2, _⟩
    · exact .inl (ltS_trans h1 h2)
    · exact .inl (e2 ▸ h1)
  · rcases h2 with h2 | ⟨e2, r3, r4, l2⟩
    · exact .inl (e1 ▸ h2)
    · exact .inr ⟨e1.trans e2, r1, r4, by omega⟩
/-- of two right rows one is ahead, or they are of one category and day -/
theorem aheadT_total {a b : Rate} (ha : rowT a = 0) (hb : rowT b = 0) (h1 : aheadT a b = false) (h2 : aheadT b a = false) : a.cat = b.cat ∧ a.day = b.day := by
  obtain ⟨_, ra, _⟩ := rowT_ok ha
  obtain ⟨_, rb, _⟩ := rowT_ok hb
  unfold aheadT at h1 h2
  rw [beforeD_iff ra rb] at h1
  rw [beforeD_iff rb ra] at h2
  simp only [Bool.or_eq_false_iff, Bool.and_eq_false_iff, decide_eq_false_iff_not] at h1 h2
  have e := ltS_total h1.1 h2.1
  have x1 : ¬ daysD a.day < daysD b.day := by
    rcases h1.2 with h | h
    · rw [(eqS_iff _ _).2 e] at h; cases h
    · exact h
  have x2 : ¬ daysD b.day < daysD a.day := by
    rcases h2.2 with h | h
    · rw [(eqS_iff _ _).2 e.symm] at h; cases h
    · exact h
  exact ⟨e, days_inj ra rb (by omega)⟩
theorem chainT_iff (p : Option Rate) (l : List Rate) : chainT p l = true ↔ (l.Pairwise fun a b => aheadT a b = true) ∧ (∀ s ∈ l, afterT p s = true) ∧ ∀ s ∈ l, rowT s = 0 := by
  induction l generalizing p with
  | nil => simp [chainT]
  | cons x l ih =>
    rw [chainT, Bool.and_eq_true, ih, List.pairwise_cons, Bool.and_eq_true, beq_iff_eq]
    constructor
    · rintro ⟨⟨h0, h1⟩, h2, h3, h4⟩
      refine ⟨⟨h3, h2⟩, fun s hs => ?_, fun s hs => ?_⟩
      · rcases List.mem_cons.1 hs with rfl | hs
        · exact h1
        · have h5 := h3 s hs
          cases p with
          | none => rfl
          | some m => exact aheadT_trans h1 h5
      · rcases List.mem_cons.1 hs with rfl | hs
        · exact h0
        · exact h4 s hs
    · rintro ⟨⟨h1, h2⟩, h3, h4⟩
      exact ⟨⟨h4 x (by simp), h3 x (by simp)⟩, h2, h1, fun s hs => h4 s (by simp [hs])⟩
structure RightV (l : List Rate) : Prop where
  few : l.length ≤ 24
  up : l.Pairwise fun a b => aheadT a b = true
  good : ∀ s ∈ l, rowT s = 0
theorem rightV_iff (l : List Rate) : rightT l = true ↔ RightV l := by
  unfold rightT
  rw [Bool.and_eq_true, decide_eq_true_iff, chainT_iff]
  exact ⟨fun ⟨h1, h2, h3, h4⟩ => ⟨h1, h2, h4⟩, fun ⟨h1, h2, h4⟩ => ⟨h1, h2, fun _ _ => rfl, h4⟩⟩
theorem RightV.nil : RightV [] := ⟨by simp, by simp, by simp⟩
end Go.Proofs.Ytpobhlnlnplbdaa
