/- Invoices: plain words (what chapters 5 and 11 say), and how lines, parts, totals lie in memory. -/
import Derived.Test.YtpobhlnlnplbdaaVatTab
import Derived.Test.YtpobhlnlnplbdaaRdAt
import Derived.Test.YtpobhlnlnplbdaaMon
namespace Go.Proofs.Ytpobhlnlnplbdaa
open Go Go.RowKit
structure Ln where
  text : ByteArray
  cat : ByteArray
  count : Int
  price : Int
structure Part where
  cat : ByteArray
  bp : Int
  net : Int
  tax : Int
structure Tot where
  net : Int
  tax : Int
  gross : Int
  parts : List Part
instance : DecidableEq Ln := fun a b => decidable_of_iff (a.text = b.text ∧ a.cat = b.cat ∧ a.count = b.count ∧ a.price = b.price) ⟨fun ⟨h1, h2, h3, h4⟩ => by cases a; cases b; simp_all, fun h => by subst h; exact ⟨rfl, rfl, rfl, rfl⟩⟩
instance : DecidableEq Part := fun a b => decidable_of_iff (a.cat = b.cat ∧ a.bp = b.bp ∧ a.net = b.net ∧ a.tax = b.tax) ⟨fun ⟨h1, h2, h3, h4⟩ => by cases a; cases b; simp_all, fun h => by subst h; exact ⟨rfl, rfl, rfl, rfl⟩⟩
def ln0 : Ln := ⟨⟨#[]⟩, ⟨#[]⟩, 0, 0⟩
def part0 : Part := ⟨⟨#[]⟩, 0, 0, 0⟩
def tot0 : Tot := ⟨0, 0, 0, []⟩
def lnE : Enc Ln := ⟨4, fun x => [.string x.text, .string x.cat, .int .i64 x.count, .int .i64 x.price], fun _ => rfl, fun x v hv => by simp only [List.mem_cons, List.not_mem_nil, or_false] at hv; rcases hv with rfl | rfl | rfl | rfl <;> rfl, by decide⟩
def partE : Enc Part := ⟨4, fun x => [.string x.cat, .int .i64 x.bp, .int .i64 x.net, .int .i64 x.tax], fun _ => rfl, fun x v hv => by simp only [List.mem_cons, List.not_mem_nil, or_false] at hv; rcases hv with rfl | rfl | rfl | rfl <;> rfl, by decide⟩
theorem tLn : SlT Try.prog 62 60 4 48 := SlT.mk' (z := .agg #[.string .empty, .string .empty, .int .i64 0, .int .i64 0]) Try.underlying62 (by kernel_rfl) rfl (by decide) (by decide)
theorem tPart : SlT Try.prog 54 64 4 40 := SlT.mk' (z := .agg #[.string .empty, .int .i64 0, .int .i64 0, .int .i64 0]) Try.underlying54 (by kernel_rfl) rfl (by decide) (by decide)

/-- a line: its category's rate, and its amount; or why there is none -/
def lineV (T : List Rate) (d : Day) (x : Ln) : Except Int (Int × Int) :=
  if 64 < x.text.size then .error 2
  else if nameB x.cat = false then .error 8
  else if x.count < 1 ∨ 1048576 < x.count then .error 1
  else if (findT T x.cat d).2 = false then .error 10
  else if Mon.fits (x.count * x.price) then .ok ((findT T x.cat d).1, x.count * x.price)
  else .error 7
/-- where a category's part stands, or would -/
def cntP (ps : List Part) (c : ByteArray) : Nat := (ps.takeWhile fun p => ltS p.cat c).length
def hasP (ps : List Part) (c : ByteArray) : Bool := match ps[cntP ps c]? with | some p => eqS p.cat c | none => false
def withP (ps : List Part) (c : ByteArray) (bp : Int) : List Part := if hasP ps c = true then ps else ps.take (cntP ps c) ++ ⟨c, bp, 0, 0⟩ :: ps.drop (cntP ps c)
def putP (ps : List Part) (c : ByteArray) (bp n : Int) : Except Int (List Part) :=
  match (withP ps c bp)[cntP ps c]? with
  | none => .error 7
  | some p => if Mon.fits (p.net + n) then .ok ((withP ps c bp).set (cntP ps c) ⟨p.cat, p.bp, p.net + n, p.tax⟩) else .error 7
def partsV (T : List Rate) (d : Day) : List Part → List Ln → Except Int (List Part)
  | ps, [] => .ok ps
  | ps, x :: l => match lineV T d x with
    | .error e => .error e
    | .ok b => match putP ps x.cat b.1 b.2 with
      | .error e => .error e
      | .ok qs => partsV T d qs l
def taxN (n bp : Int) : Int := ((n.natAbs : Int) * bp + 5000) / 10000
def taxV (n bp : Int) : Except Int Int := if bp < 0 ∨ 100000 < bp then .error 1 else if taxN n bp ≤ 9223372036854775807 then .ok (if n < 0 then -taxN n bp else taxN n bp) else .error 7
def wholeTo : Int → Int → List Part → List Part → Except Int Tot
  | s, t, done, [] => if Mon.fits (s + t) then .ok ⟨s, t, s + t, done⟩ else .error 7
  | s, t, done, p :: r => match taxV p.net p.bp with
    | .error _ => .error 7
    | .ok x => if Mon.fits (s + p.net) then (if Mon.fits (t + x) then wholeTo (s + p.net) (t + x) (done ++ [⟨p.cat, p.bp, p.net, x⟩]) r else .error 7) else .error 7
def totalV (T : List Rate) (d : Day) (ls : List Ln) : Except Int Tot :=
  if rightT T = false then .error 1
  else if rightD d = false then .error 9
  else if ls.length = 0 then .error 1
  else if 12 < ls.length then .error 2
  else match partsV T d [] ls with
    | .error e => .error e
    | .ok ps => wholeTo 0 0 [] ps
def negP (p : Part) : Part := ⟨p.cat, p.bp, 0 - p.net, 0 - p.tax⟩
def okP (p : Part) : Bool := decide (Mon.fits (0 - p.net)) && decide (Mon.fits (0 - p.tax))
def backV (t : Tot) : Except Int Tot :=
  if (decide (Mon.fits (0 - t.net)) && (decide (Mon.fits (0 - t.tax)) && (decide (Mon.fits (0 - t.gross)) && t.parts.all okP))) = true then .ok ⟨0 - t.net, 0 - t.tax, 0 - t.gross, t.parts.map negP⟩ else .error 7

/-- a total and OK, its parts of the call's own; or nothing and why -/
def TellsTot (w' : World) (B : Nat) (r : Except Int Tot) (e : Ending) : Prop :=
  match r with
  | .ok t => ∃ v, e = .returned (.tuple #[.agg #[.int .i64 t.net, .int .i64 t.tax, .int .i64 t.gross, v], .int .i64 0]) ∧ OwnR partE w' B 64 v t.parts
  | .error n => e = .returned (.tuple #[.agg #[.int .i64 0, .int .i64 0, .int .i64 0, .slice none 0 0], .int .i64 n])
def errT (r : Except Int Tot) : Int := match r with | .ok _ => 0 | .error n => n
def resT (r : Except Int Tot) : Tot := match r with | .ok t => t | .error _ => tot0
theorem TellsTot.uni {w' : World} {B : Nat} {r : Except Int Tot} {e : Ending} (h : TellsTot w' B r e) :
    ∃ v, e = .returned (.tuple #[.agg #[.int .i64 (resT r).net, .int .i64 (resT r).tax, .int .i64 (resT r).gross, v], .int .i64 (errT r)]) ∧ OwnR partE w' B 64 v (resT r).parts := by
  cases r with
  | ok t => exact h
  | error n => exact ⟨_, h, OwnR.nil _ _ _⟩

/-- rates that are found are of a table's rows -/
theorem lastT_bp {c : ByteArray} {d : Day} : ∀ {l : List Rate} {s : Int × Bool}, (∀ x ∈ l, 0 ≤ x.bp ∧ x.bp ≤ 100000) → 0 ≤ s.1 ∧ s.1 ≤ 100000 → 0 ≤ (lastT c d s l).1 ∧ (lastT c d s l).1 ≤ 100000
  | [], s, _, hs => hs
  | x :: l, s, h, hs => by
    rw [lastT]
    refine lastT_bp (fun y hy => h y (by simp [hy])) ?_
    split
    · exact h x (by simp)
    · exact hs
theorem find_bp (T : List Rate) (c : ByteArray) (d : Day) : 0 ≤ (findT T c d).1 ∧ (findT T c d).1 ≤ 100000 := by
  unfold findT
  split
  · exact ⟨Int.le_refl _, by decide⟩
  · rename_i h
    have hT : rightT T = true := by cases hr : rightT T with | true => rfl | false => exact absurd (.inl hr) h
    refine lastT_bp (fun x hx => ?_) ⟨Int.le_refl _, by decide⟩
    obtain ⟨_, _, h1, h2⟩ := rowT_ok (((rightV_iff T).1 hT).good x hx)
    exact ⟨h1, h2⟩
theorem line_ok {T : List Rate} {d : Day} {x : Ln} {b : Int × Int} (h : lineV T d x = .ok b) : x.text.size ≤ 64 ∧ nameB x.cat = true ∧ 1 ≤ x.count ∧ x.count ≤ 1048576 ∧ findT T x.cat d = (b.1, true) ∧ b.2 = x.count * x.price ∧ Mon.fits b.2 ∧ 0 ≤ b.1 ∧ b.1 ≤ 100000 := by
  unfold lineV at h
  have hb := find_bp T x.cat d
  split at h
  · cases h
  · split at h
    · cases h
    · split at h
      · cases h
      · split at h
        · cases h
        · split at h
          · rename_i h1 h2 h3 h4 h5
            cases h
            refine ⟨by omega, by simpa using h2, by omega, by omega, ?_, rfl, h5, hb.1, hb.2⟩
            have h6 : (findT T x.cat d).2 = true := by simpa using h4
            rw [← h6]
          · cases h
/-- places -/
theorem cntP_le (ps : List Part) (c : ByteArray) : cntP ps c ≤ ps.length := (List.takeWhile_sublist _).length_le
theorem cntP_lo {ps : List Part} {c : ByteArray} {k : Nat} (h : k < cntP ps c) (hk : k < ps.length) : ltS ps[k].cat c = true := by
  unfold cntP at h
  have h1 : (ps.takeWhile fun p => ltS p.cat c)[k]'h ∈ ps.takeWhile fun p => ltS p.cat c := List.getElem_mem h
  have h2 := List.all_eq_true.1 (List.all_takeWhile (l := ps) (p := fun p : Part => ltS p.cat c)) _ h1
  rw [(List.takeWhile_prefix _).getElem h] at h2; simpa using h2
theorem cntP_hi {ps : List Part} {c : ByteArray} (hk : cntP ps c < ps.length) : ltS ps[cntP ps c].cat c = false := by
  induction ps with
  | nil => simp at hk
  | cons x l ih =>
    by_cases hx : ltS x.cat c = true
    · have e : cntP (x :: l) c = cntP l c + 1 := by unfold cntP; rw [List.takeWhile_cons]; simp [hx]
      simp only [e, List.getElem_cons_succ]
      exact ih (by rw [e] at hk; simpa using hk)
    · have e : cntP (x :: l) c = 0 := by unfold cntP; rw [List.takeWhile_cons]; simp [hx]
      simp only [e, List.getElem_cons_zero]; simpa using hx
theorem cntP_is {ps : List Part} {c : ByteArray} {k : Nat} (hk : k ≤ ps.length) (h1 : ∀ i (h : i < ps.length), i < k → ltS ps[i].cat c = true) (h2 : ∀ h : k < ps.length, ltS ps[k].cat c = false) : cntP ps c = k := by
  have hle := cntP_le ps c
  rcases Nat.lt_trichotomy (cntP ps c) k with h | h | h
  · have := h1 _ (by omega) h; rw [cntP_hi (by omega)] at this; cases this
  · exact h
  · have := cntP_lo h (by omega); rw [h2 (by omega)] at this; cases this
theorem hasP_at {ps : List Part} {c : ByteArray} {k : Nat} (h : cntP ps c = k) (hk : k < ps.length) : hasP ps c = eqS ps[k].cat c := by unfold hasP; rw [h, List.getElem?_eq_getElem hk]
theorem hasP_end {ps : List Part} {c : ByteArray} {k : Nat} (h : cntP ps c = k) (hk : ps.length ≤ k) : hasP ps c = false := by unfold hasP; rw [h, List.getElem?_eq_none hk]
theorem withP_yes {ps : List Part} {c : ByteArray} {bp : Int} (h : hasP ps c = true) : withP ps c bp = ps := by unfold withP; rw [if_pos h]
theorem withP_no {ps : List Part} {c : ByteArray} {bp : Int} {k : Nat} (hk : cntP ps c = k) (h : hasP ps c = false) : withP ps c bp = ps.take k ++ ⟨c, bp, 0, 0⟩ :: ps.drop k := by unfold withP; rw [if_neg (by rw [h]; simp), hk]
theorem withP_lt (ps : List Part) (c : ByteArray) (bp : Int) : cntP ps c < (withP ps c bp).length := by
  have hle := cntP_le ps c
  cases h : hasP ps c with
  | true =>
    rw [withP_yes h]
    rcases Nat.lt_or_ge (cntP ps c) ps.length with h1 | h1
    · exact h1
    · rw [hasP_end rfl h1] at h; cases h
  | false => rw [withP_no rfl h]; simp; omega
theorem withP_len (ps : List Part) (c : ByteArray) (bp : Int) : (withP ps c bp).length ≤ ps.length + 1 := by
  have hle := cntP_le ps c
  cases h : hasP ps c with
  | true => rw [withP_yes h]; omega
  | false => rw [withP_no rfl h]; simp; omega
theorem withP_mem {ps : List Part} {c : ByteArray} {bp : Int} {p : Part} (h : p ∈ withP ps c bp) : p ∈ ps ∨ p = ⟨c, bp, 0, 0⟩ := by
  cases hh : hasP ps c with
  | true => rw [withP_yes hh] at h; exact .inl h
  | false =>
    rw [withP_no rfl hh] at h
    rcases List.mem_append.1 h with h | h
    · exact .inl (List.mem_of_mem_take h)
    · rcases List.mem_cons.1 h with h | h
      · exact .inr h
      · exact .inl (List.mem_of_mem_drop h)
/-- a put, without a bound -/
def addP (ps : List Part) (c : ByteArray) (bp n : Int) : List Part :=
  (withP ps c bp).set (cntP ps c) ⟨((withP ps c bp)[cntP ps c]'(withP_lt ps c bp)).cat, ((withP ps c bp)[cntP ps c]'(withP_lt ps c bp)).bp, ((withP ps c bp)[cntP ps c]'(withP_lt ps c bp)).net + n, ((withP ps c bp)[cntP ps c]'(withP_lt ps c bp)).tax⟩
theorem putP_eq (ps : List Part) (c : ByteArray) (bp n : Int) : putP ps c bp n = if Mon.fits (((withP ps c bp)[cntP ps c]'(withP_lt ps c bp)).net + n) then .ok (addP ps c bp n) else .error 7 := by
  unfold putP; rw [List.getElem?_eq_getElem (withP_lt ps c bp)]; rfl
/-- parts as they come to be: rates in range, nothing of tax yet -/
structure GoodP (ps : List Part) : Prop where
  fit : ∀ p ∈ ps, Mon.fits p.net
  bps : ∀ p ∈ ps, 0 ≤ p.bp ∧ p.bp ≤ 100000
theorem GoodP.nil : GoodP [] := ⟨by simp, by simp⟩
theorem fits0 : Mon.fits 0 := by unfold Mon.fits; decide
theorem GoodP.withP {ps : List Part} (h : GoodP ps) (c : ByteArray) {bp : Int} (hb : 0 ≤ bp ∧ bp ≤ 100000) : GoodP (withP ps c bp) :=
  ⟨fun p hp => (withP_mem hp).elim (h.fit p) (fun e => by subst e; exact fits0), fun p hp => (withP_mem hp).elim (h.bps p) (fun e => by subst e; exact hb)⟩
theorem putP_good {ps qs : List Part} {c : ByteArray} {bp n : Int} (h : GoodP ps) (hb : 0 ≤ bp ∧ bp ≤ 100000) (hp : putP ps c bp n = .ok qs) : GoodP qs ∧ qs.length ≤ ps.length + 1 := by
  rw [putP_eq] at hp
  split at hp
  · rename_i hf
    cases hp
    have hw := h.withP c hb
    refine ⟨⟨fun p hp => ?_, fun p hp => ?_⟩, by unfold addP; rw [List.length_set]; exact withP_len ps c bp⟩
    · rcases List.mem_or_eq_of_mem_set hp with hp | rfl
      · exact hw.fit p hp
      · exact hf
    · rcases List.mem_or_eq_of_mem_set hp with hp | rfl
      · exact hw.bps p hp
      · exact hw.bps ((Go.Proofs.Ytpobhlnlnplbdaa.withP ps c bp)[cntP ps c]'(withP_lt ps c bp)) (List.getElem_mem _)
  · cases hp
theorem partsV_step {T : List Rate} {d : Day} {ps : List Part} {ls : List Ln} {k : Nat} (hk : k < ls.length) : partsV T d ps (ls.drop k) = match lineV T d ls[k] with | .error e => .error e | .ok b => match putP ps ls[k].cat b.1 b.2 with | .error e => .error e | .ok qs => partsV T d qs (ls.drop (k + 1)) := by
  rw [List.drop_eq_getElem_cons hk, partsV]
theorem partsV_end {T : List Rate} {d : Day} {ps : List Part} {ls : List Ln} {k : Nat} (hk : ls.length ≤ k) : partsV T d ps (ls.drop k) = .ok ps := by rw [List.drop_of_length_le hk]; rfl
theorem total_arg {T : List Rate} {d : Day} {ls : List Ln} (h : rightT T = false) : totalV T d ls = .error 1 := by unfold totalV; rw [if_pos h]
theorem total_day {T : List Rate} {d : Day} {ls : List Ln} (h : rightT T = true) (h2 : rightD d = false) : totalV T d ls = .error 9 := by unfold totalV; rw [if_neg (by rw [h]; simp), if_pos h2]
theorem total_none {T : List Rate} {d : Day} {ls : List Ln} (h : rightT T = true) (h2 : rightD d = true) (h3 : ls.length = 0) : totalV T d ls = .error 1 := by unfold totalV; rw [if_neg (by rw [h]; simp), if_neg (by rw [h2]; simp), if_pos h3]
theorem total_long {T : List Rate} {d : Day} {ls : List Ln} (h : rightT T = true) (h2 : rightD d = true) (h3 : ¬ ls.length = 0) (h4 : 12 < ls.length) : totalV T d ls = .error 2 := by unfold totalV; rw [if_neg (by rw [h]; simp), if_neg (by rw [h2]; simp), if_neg h3, if_pos h4]
theorem total_is {T : List Rate} {d : Day} {ls : List Ln} (h : rightT T = true) (h2 : rightD d = true) (h3 : ¬ ls.length = 0) (h4 : ¬ 12 < ls.length) : totalV T d ls = match partsV T d [] ls with | .error e => .error e | .ok ps => wholeTo 0 0 [] ps := by unfold totalV; rw [if_neg (by rw [h]; simp), if_neg (by rw [h2]; simp), if_neg h3, if_neg h4]
end Go.Proofs.Ytpobhlnlnplbdaa
