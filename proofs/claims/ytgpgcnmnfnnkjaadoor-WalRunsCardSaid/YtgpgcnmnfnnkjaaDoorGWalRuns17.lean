/- What stays true of a disk (out of RfQ and DskKeepP, for the write-ahead log). The write-ahead log: what the document takes of a record is what the program takes. impostbook.Same[string] of two rows that are the same (out of RfT). The row's listed variables: a world in which they read as listed (the witness), and what the walk asks of them. -/
import Derived.Test.YtgpgcnmnfnnkjaaDoorGWalRuns16
import Derived.Test.YtgpgcnmnfnnkjaaDoorGWalRuns1
import Derived.Test.YtgpgcnmnfnnkjaaDoorGWalRuns8
import Derived.Test.YtgpgcnmnfnnkjaaDoorTie
import Derived.Lib.LaidIn
import Derived.Lib.LaidTab
import Derived.Lib.ItoaNum
import Derived.Stop.LaidErr
import Derived.LaidLaws
set_option linter.unusedVariables false
set_option linter.unusedSimpArgs false
section
namespace Go.Proofs.YtgpgcnmnfnnkjaaDoor
open Go Go.RowKit Go.PlainAid
theorem flipLast_length (l : List UInt8) : (flipLast l).length = l.length := by unfold flipLast; split <;> simp
theorem tornB_le (P u k : Nat) (l : List UInt8) : (tornB P u k l).length ≤ l.length := by
  unfold tornB; split
  · rw [flipLast_length, List.length_take]; omega
  · rw [List.length_take]; omega
theorem tornD_le {pick : Int} {f : Fil} (h : f.kept ≤ f.data.length) : (tornD pick f).data.length ≤ f.data.length := by
  rw [tornD_eq (u := f.data.length - f.kept) (by omega)]; exact tornB_le _ _ _ _
theorem crash_tot (picks : List Int) : ∀ (l : List Fil) (i : Nat), (∀ f ∈ l, f.kept ≤ f.data.length) → totD (crashTo picks l i) ≤ totD l ∧ ∀ f ∈ crashTo picks l i, f.kept ≤ f.data.length
  | [], _, _ => ⟨Nat.le_refl _, fun f hf => by cases hf⟩
  | x :: r, i, h => by
    obtain ⟨h1, h2⟩ := crash_tot picks r (i + 1) fun f hf => h f (by simp [hf])
    have h3 := tornD_le (pick := (picks[i]?).getD 0) (h x (by simp))
    rw [crashTo]
    refine ⟨by rw [totD_cons, totD_cons]; omega, fun f hf => ?_⟩
    rcases List.mem_cons.1 hf with rfl | hf
    · exact Nat.le_refl _
    · exact h2 f hf
structure LInv (k : Nat) (l : List Fil) : Prop where
  sort : SortD l
  nam : ∀ f ∈ l, namedD f.name = true
  kept : ∀ f ∈ l, f.kept ≤ f.data.length
  tot : totD l ≤ 4194304
  len : l.length ≤ k
structure PInv (k : Nat) (d : Dk) : Prop where
  l : LInv k d.fs
  lo : -1 ≤ d.left
  hi : d.left ≤ 9223372036854775807
theorem PInv.ok {k : Nat} {d : Dk} (h : PInv k d) (hk : k ≤ 1000) : okD d = true :=
  okD_of ⟨by have := h.l.len; omega, h.l.tot, h.l.kept, h.lo, h.hi⟩ (by have := h.l.len; omega)
theorem PInv.zero : PInv 0 dk0 := ⟨⟨List.Pairwise.nil, by simp [dk0], by simp [dk0], by simp [dk0, totD], by simp [dk0]⟩, by decide, by decide⟩
theorem LInv.up {k : Nat} {l : List Fil} (h : LInv k l) : LInv (k + 1) l := ⟨h.sort, h.nam, h.kept, h.tot, by have := h.len; omega⟩
theorem PInv.up {k : Nat} {d : Dk} (h : PInv k d) : PInv (k + 1) d := ⟨h.l.up, h.lo, h.hi⟩
theorem PInv.pow {k : Nat} {d : Dk} (h : PInv k d) : PInv k (powD d).2 := by
  have ok := (OkD.pow (d := ⟨[], d.off, d.left⟩) ⟨by simp, by simp [totD], by simp, h.lo, h.hi⟩)
  have e : (powD d).2.left = (powD ⟨[], d.off, d.left⟩).2.left := by unfold powD; dsimp only; split <;> rfl
  exact ⟨by rw [powD_fs]; exact h.l, by rw [e]; exact ok.lo, by rw [e]; exact ok.hi⟩
theorem PInv.step {k : Nat} {d : Dk} (h : PInv k d) {f : List Fil → List Fil} (hf : LInv (k + 1) (f d.fs)) : PInv (k + 1) (stepD d f).2 := by
  have hp := h.pow
  unfold stepD
  split
  · exact ⟨hf, hp.lo, hp.hi⟩
  · exact hp.up
theorem PInv.on {k : Nat} {d : Dk} (h : PInv k d) {s : ByteArray} {f : List Fil → Nat → List Fil} (hf : ∀ j, j < d.fs.length → LInv (k + 1) (f d.fs j)) : PInv (k + 1) (onD d s f).2 := by
  rcases knownD_spec d s with ⟨h1, _⟩ | ⟨j, hj, h1, h2⟩
  · rw [onD_no h1]; exact h.up
  · rw [onD_yes h1 h2]; exact h.step (f := fun l => f l j) (hf j hj)
theorem LInv.set {k : Nat} {l : List Fil} (h : LInv k l) {j : Nat} (hj : j < l.length) {y : Fil} (hn : y.name = l[j].name) (hk : y.kept ≤ y.data.length) (ht : y.data.length ≤ l[j].data.length) : LInv (k + 1) (l.set j y) := by
  refine ⟨h.sort.set hj hn, fun f hf => ?_, fun f hf => ?_, ?_, by rw [List.length_set]; have := h.len; omega⟩
  · rcases List.mem_or_eq_of_mem_set hf with hf | rfl
    · exact h.nam f hf
    · rw [hn]; exact h.nam _ (List.getElem_mem hj)
  · rcases List.mem_or_eq_of_mem_set hf with hf | rfl
    · exact h.kept f hf
    · exact hk
  · have h1 := totD_set hj y; have := h.tot; omega
theorem LInv.del {k : Nat} {l : List Fil} (h : LInv k l) (j : Nat) : LInv k (delD l j) :=
  ⟨h.sort.del j, fun f hf => h.nam f (delD_sub hf), fun f hf => h.kept f (delD_sub hf), Nat.le_trans (totD_del _ _) h.tot, Nat.le_trans (delD_length _ _) h.len⟩
theorem LInv.mD {k : Nat} {l : List Fil} (h : LInv k l) {s : ByteArray} (hs : namedD s = true) : LInv (k + 1) (mD l s) := by
  refine ⟨h.sort.mD s, ?_, ?_, by rw [totD_mD]; exact h.tot, by have h1 := mD_length l s; have h2 := h.len; omega⟩
  · intro f hf
    unfold Proofs.YtgpgcnmnfnnkjaaDoor.mD at hf
    split at hf
    · rcases putD_sub hf with rfl | hf
      · exact hs
      · exact h.nam f hf
    · exact h.nam f hf
  · intro f hf
    unfold Proofs.YtgpgcnmnfnnkjaaDoor.mD at hf
    split at hf
    · rcases putD_sub hf with rfl | hf
      · exact Nat.zero_le _
      · exact h.kept f hf
    · exact h.kept f hf
theorem LInv.add {k : Nat} {l : List Fil} (h : LInv k l) {s : ByteArray} {p : List UInt8} (hs : namedD s = true) (ht : totD l + p.length ≤ 4194304) : LInv (k + 1) (addD s p l) := by
  have hm := h.mD hs
  obtain ⟨j, hj, hix⟩ := mD_has l s
  refine ⟨h.sort.addD s p, ?_, kept_addD h.kept s p, by rw [totD_addD]; exact ht, by have h1 := addD_length s p l; have h2 := h.len; omega⟩
  intro f hf
  rw [addD_eq, hix, Int.toNat_natCast, updD_at hj] at hf
  rcases List.mem_or_eq_of_mem_set hf with hf | rfl
  · exact hm.nam f hf
  · exact hm.nam ((Proofs.YtgpgcnmnfnnkjaaDoor.mD l s)[j]) (List.getElem_mem hj)
theorem crash_names (picks : List Int) : ∀ (l : List Fil) (i : Nat), (crashTo picks l i).map (·.name) = l.map (·.name)
  | [], _ => rfl
  | x :: r, i => by rw [crashTo, List.map_cons, List.map_cons, crash_names picks r (i + 1)]; rfl
theorem sort_names {l m : List Fil} (e : m.map (·.name) = l.map (·.name)) (h : SortD l) : SortD m := by
  unfold SortD at *
  have h1 : (l.map (·.name)).Pairwise fun a b => ltS a b = true := List.pairwise_map.2 h
  rw [← e] at h1
  exact List.pairwise_map.1 h1
theorem LInv.crash {k : Nat} {l : List Fil} (h : LInv k l) (picks : List Int) : LInv k (crashTo picks l 0) := by
  obtain ⟨h1, h2⟩ := crash_tot picks l 0 h.kept
  have e := crash_names picks l 0
  refine ⟨sort_names e h.sort, fun f hf => ?_, h2, Nat.le_trans h1 h.tot, by rw [crashTo_length]; exact h.len⟩
  have hm : f.name ∈ (crashTo picks l 0).map (·.name) := List.mem_map.2 ⟨f, hf, rfl⟩
  rw [e] at hm
  obtain ⟨f', hf', e'⟩ := List.mem_map.1 hm
  rw [← e']; exact h.nam f' hf'
section
variable {k : Nat} {d : Dk}
theorem PInv.append (h : PInv k d) (s : ByteArray) (p : List UInt8) : PInv (k + 1) (appendD d s p).2 := by
  unfold appendD
  split
  · exact h.up
  · split
    · exact h.up
    · rename_i h1 h2
      split
      · exact h.up
      · exact h.step (f := addD s p) (h.l.add (by cases hn : namedD s; exact absurd hn h2; rfl) (by omega))
theorem PInv.sync (h : PInv k d) (s : ByteArray) : PInv (k + 1) (syncD d s).2 :=
  h.on fun j hj => by rw [updD_at hj]; exact h.l.set hj rfl (Nat.le_refl _) (Nat.le_refl _)
theorem PInv.cut (h : PInv k d) (s : ByteArray) (n : Int) : PInv (k + 1) (cutD d s n).2 := by
  unfold cutD
  split
  · exact h.up
  · refine h.on fun j hj => ?_
    rw [updD_at hj]
    have hk := h.l.kept _ (List.getElem_mem hj)
    exact h.l.set hj rfl (by show min _ _ ≤ (List.take _ _).length; rw [List.length_take]; omega) (by show (List.take _ _).length ≤ _; rw [List.length_take]; omega)
theorem PInv.remove (h : PInv k d) (s : ByteArray) : PInv (k + 1) (removeD d s).2 := h.on fun j _ => (h.l.del j).up
theorem PInv.arm (h : PInv k d) {n : Int} (hn : n ≤ 9223372036854775807) : PInv (k + 1) (armD d n) := by
  refine ⟨h.l.up, ?_, ?_⟩
  · show -1 ≤ if n < 0 then -1 else n; split <;> omega
  · show (if n < 0 then -1 else n) ≤ _; split <;> omega
theorem PInv.crash (h : PInv k d) (picks : List Int) : PInv (k + 1) (crashD d picks) := ⟨(h.l.crash picks).up, by show (-1 : Int) ≤ -1; decide, by show (-1 : Int) ≤ _; decide⟩
end
end Go.Proofs.YtgpgcnmnfnnkjaaDoor
end

section
namespace Go.Proofs.YtgpgcnmnfnnkjaaDoor
/-- the document's step -/
def docNext (h : Hrd) : Rec → Option Hrd
  | .beg g => some g
  | .ety x => some { h with log := h.log ++ [x] }
  | .rdy => some h
  | .vot t v => if t < h.term ∨ (t = h.term ∧ h.vote ≠ -1) then none else some { h with term := t, vote := v }
  | .cut n => if n < h.base ∨ h.base + h.log.length < n then none else some { h with log := h.log.take (n - h.base).toNat }
def docOk (g : Hrd) (opn : Bool) (k : Int) : Bool := bareH g && (if opn then decide (k = 2) || decide (k = 3) else decide (k ≠ 1) && decide (k ≠ 3))
def docStep (h : Hrd) (opn : Bool) (r : Rec) : Option Hrd := (docNext h r).bind fun g => if docOk g opn r.kind then some g else none
theorem headOk_iff (h : Hrd) : headOk h = true ↔ (0 ≤ h.term ∧ h.term ≤ 1099511627776 ∧ -1 ≤ h.vote ∧ h.vote < 7 ∧ 1 ≤ h.members ∧ h.members ≤ 127 ∧ 0 ≤ h.base ∧ h.base ≤ 1099511627776 ∧ 0 ≤ h.bterm ∧ h.bterm ≤ h.term ∧ (h.bterm = 0 ↔ h.base = 0)) := by
  unfold headOk
  simp only [Bool.and_eq_true, decide_eq_true_eq, beq_iff_eq, and_assoc, decide_eq_decide]
theorem fits_mono {x : Ety} {b t t' : Int} (h : fitsE x b t = true) (ht : t ≤ t') : fitsE x b t' = true := by
  unfold fitsE at *
  simp only [Bool.and_eq_true, decide_eq_true_eq, Bool.or_eq_true] at *
  omega
theorem logOk_mono : ∀ {l : List Ety} {b t t' : Int}, logOk l b t = true → t ≤ t' → logOk l b t' = true
  | [], _, _, _, _, _ => rfl
  | x :: r, b, t, t', h, ht => by
    rw [logOk, Bool.and_eq_true] at *
    exact ⟨fits_mono h.1 ht, logOk_mono h.2 ht⟩
theorem docOk_no {g : Hrd} {o : Bool} {k : Int} (h : bareH g = false) : docOk g o k = false := by unfold docOk; rw [h]; rfl
theorem doc_step {s : Sg} (ok : SgOk s) (hb : s.begun = true) (r : Rec) : docStep s.h (!s.whole) r = (stepS s r).map (·.h) := by
  have hbare := ok.bare hb
  obtain ⟨hh, hl, hli, hlo⟩ := (bareH_iff _).1 hbare
  have hh' := (headOk_iff _).1 hh
  unfold docStep
  cases r with
  | beg h =>
    show (if docOk h (!s.whole) 1 = true then some h else none) = (beganS s h).map (·.h)
    have h1 : docOk h (!s.whole) 1 = false := by unfold docOk; cases s.whole <;> cases bareH h <;> rfl
    have h2 : beganS s h = none := if_neg (by rw [hb]; simp)
    rw [h1, h2]; rfl
  | ety x =>
    show (if docOk { s.h with log := s.h.log ++ [x] } (!s.whole) 2 = true then some _ else none) = (if s.begun = true then grownS s x else none).map (·.h)
    rw [if_pos hb]
    have hiff : bareH { s.h with log := s.h.log ++ [x] } = true ↔ (s.h.log.length < 200 ∧ s.h.base + s.h.log.length < 1099511627776 ∧ fitsE x (lastT s.h.log s.h.bterm) s.h.term = true) := by
      rw [bareH_iff]
      show headOk s.h = true ∧ (s.h.log ++ [x]).length ≤ 200 ∧ ((s.h.log ++ [x]).length : Int) ≤ 1099511627776 - s.h.base ∧ logOk (s.h.log ++ [x]) s.h.bterm s.h.term = true ↔ _
      rw [logOk_app, hlo, Bool.true_and, logOk, logOk, Bool.and_true, List.length_append, List.length_singleton]
      constructor
      · rintro ⟨_, h1, h2, h3⟩; exact ⟨by omega, by omega, h3⟩
      · rintro ⟨h1, h2, h3⟩; exact ⟨hh, by omega, by omega, h3⟩
    unfold grownS
    cases hc : bareH { s.h with log := s.h.log ++ [x] } with
    | true =>
      have h2 : docOk { s.h with log := s.h.log ++ [x] } (!s.whole) 2 = true := by unfold docOk; rw [hc]; cases s.whole <;> rfl
      rw [if_pos (hiff.1 hc), if_pos h2]; rfl
    | false =>
      have h3 : ¬ (s.h.log.length < 200 ∧ s.h.base + s.h.log.length < 1099511627776 ∧ fitsE x (lastT s.h.log s.h.bterm) s.h.term = true) := fun h => by have h4 := hiff.2 h; rw [hc] at h4; cases h4
      rw [docOk_no hc, if_neg h3]; rfl
  | rdy =>
    show (if docOk s.h (!s.whole) 3 = true then some s.h else none) = (doneS s).map (·.h)
    unfold doneS docOk
    rw [hbare, hb]
    cases s.whole <;> rfl
  | vot t v =>
    show (if t < s.h.term ∨ (t = s.h.term ∧ s.h.vote ≠ -1) then none else some _ : Option Hrd).bind (fun g => if docOk g (!s.whole) 4 = true then some g else none) = (votedS s t v).map (·.h)
    unfold votedS
    by_cases hbad : t < s.h.term ∨ (t = s.h.term ∧ s.h.vote ≠ -1)
    · rw [if_pos hbad, if_neg]
      · rfl
      · rintro ⟨_, h1, h2, _⟩
        rcases hbad with h | h
        · omega
        · exact h2 h
    · rw [if_neg hbad]
      have hge : s.h.term ≤ t := by
        rcases Int.lt_or_le t s.h.term with h | h
        · exact absurd (.inl h) hbad
        · exact h
      have hiff : bareH { s.h with term := t, vote := v } = true ↔ (t ≤ 1099511627776 ∧ -1 ≤ v ∧ v < 7) := by
        rw [bareH_iff, headOk_iff]
        dsimp only
        constructor
        · rintro ⟨h1, _⟩; exact ⟨h1.2.1, h1.2.2.1, h1.2.2.2.1⟩
        · rintro ⟨h1, h2, h3⟩; exact ⟨⟨by omega, h1, h2, h3, hh'.2.2.2.2.1, hh'.2.2.2.2.2.1, hh'.2.2.2.2.2.2.1, hh'.2.2.2.2.2.2.2.1, hh'.2.2.2.2.2.2.2.2.1, by omega, hh'.2.2.2.2.2.2.2.2.2.2⟩, hl, hli, logOk_mono hlo hge⟩
      show (if docOk { s.h with term := t, vote := v } (!s.whole) 4 = true then some _ else none) = _
      cases hw : s.whole with
      | false =>
        have h2 : docOk { s.h with term := t, vote := v } (!false) 4 = false := by unfold docOk; cases bareH { s.h with term := t, vote := v } <;> rfl
        rw [h2, if_neg (show ¬ (false = true ∧ s.h.term ≤ t ∧ ¬ (t = s.h.term ∧ s.h.vote ≠ -1) ∧ t ≤ 1099511627776 ∧ -1 ≤ v ∧ v < 7) from fun h => by cases h.1)]; rfl
      | true =>
        cases hc : bareH { s.h with term := t, vote := v } with
        | true =>
          have h2 : docOk { s.h with term := t, vote := v } (!true) 4 = true := by unfold docOk; rw [hc]; rfl
          obtain ⟨h3, h4, h5⟩ := hiff.1 hc
          rw [h2, if_pos (show true = true ∧ s.h.term ≤ t ∧ ¬ (t = s.h.term ∧ s.h.vote ≠ -1) ∧ t ≤ 1099511627776 ∧ -1 ≤ v ∧ v < 7 from ⟨rfl, hge, fun h => hbad (.inr h), h3, h4, h5⟩)]; rfl
        | false =>
          have h3 : ¬ (true = true ∧ s.h.term ≤ t ∧ ¬ (t = s.h.term ∧ s.h.vote ≠ -1) ∧ t ≤ 1099511627776 ∧ -1 ≤ v ∧ v < 7) := fun h => by have h4 := hiff.2 ⟨h.2.2.2.1, h.2.2.2.2.1, h.2.2.2.2.2⟩; rw [hc] at h4; cases h4
          rw [docOk_no hc, if_neg h3]; rfl
  | cut n =>
    show (if n < s.h.base ∨ s.h.base + s.h.log.length < n then none else some _ : Option Hrd).bind (fun g => if docOk g (!s.whole) 5 = true then some g else none) = (shorterS s n).map (·.h)
    unfold shorterS
    by_cases hbad : n < s.h.base ∨ s.h.base + s.h.log.length < n
    · rw [if_pos hbad, if_neg (by rintro ⟨_, h1, h2⟩; omega)]; rfl
    · rw [if_neg hbad]
      have hc : bareH { s.h with log := s.h.log.take (n - s.h.base).toNat } = true := by
        rw [bareH_iff]
        have hl2 : (s.h.log.take (n - s.h.base).toNat).length ≤ s.h.log.length := by rw [List.length_take]; omega
        exact ⟨hh, Nat.le_trans hl2 hl, by show ((s.h.log.take _).length : Int) ≤ 1099511627776 - s.h.base; omega, logOk_take hlo _⟩
      show (if docOk { s.h with log := s.h.log.take (n - s.h.base).toNat } (!s.whole) 5 = true then some _ else none) = _
      unfold docOk
      rw [hc]
      cases hw : s.whole with
      | false => rw [if_neg (show ¬ (false = true ∧ s.h.base ≤ n ∧ n - s.h.base ≤ s.h.log.length) from fun h => by cases h.1)]; rfl
      | true => rw [if_pos (show true = true ∧ s.h.base ≤ n ∧ n - s.h.base ≤ s.h.log.length from ⟨rfl, by omega, by omega⟩)]; rfl
end Go.Proofs.YtgpgcnmnfnnkjaaDoor
end

section
namespace Go.Proofs.YtgpgcnmnfnnkjaaDoor
open Go Go.RowKit BigFrame Go.PlainAid
attribute [local go_sem] After.same
set_option maxHeartbeats 400000 in
theorem sameStrs (v u : Value) (l : List ByteArray) (w : World) (hv : Rd strE w v l) (hu : Rd strE w u l) :
    Calls Tryd.prog 10 #[v, u] w fun e w' => e = .returned (.bool true) ∧ ∃ n, w' = w.drewN n := by
  obtain ⟨p, cap, rfl, h1, h2, h3, h4⟩ := hv.form
  obtain ⟨q, dap, rfl, g1, g2, g3, g4⟩ := hu.form
  clear hv hu h3 g3
  unfold maxLen at h2 g2
  go_enter Tryd.func10, Tryd.ntmps10
  go_wp2
  go_loopw [5] (fun i wr => ∃ k : Nat, k ≤ l.length ∧ i = .int .i64 k ∧ ∃ n, wr = w.drewN n) (fun i _ => l.length - (intOf i).toNat)
  case atStart => exact ⟨0, by omega, rfl, 0, rfl⟩
  case round =>
    obtain ⟨k, hk, rfl, n, rfl⟩ := hrel
    by_cases hlt : k < l.length
    · obtain ⟨b, off, rfl, hc⟩ := h4 (by omega)
      obtain ⟨b', off', rfl, hc'⟩ := g4 (by omega)
      have c1 : w.cell? ⟨b, off + k, none⟩ = some (.string l[k]) := by
        have h := hc k hlt 0 (by decide)
        rw [show off + (k * strE.sz + 0) = off + k from by show off + (k * 1 + 0) = _; omega] at h; exact h
      have c2 : w.cell? ⟨b', off' + k, none⟩ = some (.string l[k]) := by
        have h := hc' k hlt 0 (by decide)
        rw [show off' + (k * strE.sz + 0) = off' + k from by show off' + (k * 1 + 0) = _; omega] at h; exact h
      clear h4 g4 hc hc'
      have hi1 : (k : Int) < (l.length : Int) := by omega
      go_wp2
      go_quiet (fail)
      go_wp2
      go_roundw
      case rel => exact ⟨k + 1, by omega, by go_num, _, by first | rfl | exact World.drewN_drewN _ _ _⟩
      case measure => simp [intOf]; omega
    · go_wp2
      go_ret
      exact ⟨rfl, n, rfl⟩
end Go.Proofs.YtgpgcnmnfnnkjaaDoor
end

section
namespace Go.Proofs.YtgpgcnmnfnnkjaaDoor
open Go Go.RowKit

def laid3 : List (String × DataW Unit) := [("math/bits.deBruijn32tab", Rows.laid_math_bits_deBruijn32tab), ("math/bits.deBruijn64tab", Rows.laid_math_bits_deBruijn64tab), ("internal/strconv.uint64pow10", Rows.laid_internal_strconv_uint64pow10)]

/-- a datum's numbers, as cells -/
def cellsOf (d : DataW Unit) : Array Value := match d with
  | .agg ps => (ps.map fun x => match x with | .lit (.int k n) => Value.int k n | _ => Value.int .i64 0).toArray
  | _ => #[]
def holdsCells (d : DataW Unit) : Obj → Obj
  | .cells _ t frozen => .cells (cellsOf d) t frozen
  | o => o

/-- THE WITNESS: the settled world, the tables laid. -/
noncomputable def laidWorld (os : Os) : World :=
  { World.holding Tryd.prog os ⟨#[], #[], []⟩ with heap := (((World.holding Tryd.prog os ⟨#[], #[], []⟩).heap.modify 0 (holdsCells Rows.laid_internal_strconv_uint64pow10)).modify 1 (holdsCells Rows.laid_math_bits_deBruijn32tab)).modify 2 (holdsCells Rows.laid_math_bits_deBruijn64tab) }

theorem laid_met (os : Os) (args : Array Value) : laidMet Tryd.prog laid3 ((laidWorld os).forCall (fun _ _ => 0) ⟨#[], args, []⟩).memory :=
  (LaidIn.of_run [0, 1, 2] 8 (by kernel_rfl) (by kernel_rfl) (by kernel_rfl) (by kernel_rfl)).met

theorem pow10_tab : (Rows.laid_internal_strconv_uint64pow10 : DataW Unit) = Lib.tabData .u64 Lib.pow10Tab := by kernel_rfl

theorem tab_of_laid {W : World} (h : laidMet Tryd.prog laid3 W) : Lib.TabIs Tryd.prog W "internal/strconv.uint64pow10" .u64 Lib.pow10Tab := by
  have h2 := h.tail.tail
  rw [pow10_tab] at h2
  exact Lib.tabIs_of_head (g := 0) (by kernel_rfl) (by kernel_rfl) (Tryd.underlying133) Tryd.underlying114 (by kernel_rfl) (by kernel_rfl) h2

end Go.Proofs.YtgpgcnmnfnnkjaaDoor
end
