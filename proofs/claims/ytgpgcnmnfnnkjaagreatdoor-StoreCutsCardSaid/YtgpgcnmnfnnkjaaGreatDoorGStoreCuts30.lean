/- Records that Save writes run, plain: all of them come to the Hard, a part of them to what lies between. The write-ahead log on a disk, plain law: what a power failure leaves, what Open makes of it, what Save makes of it. Save, plain law: done, what is kept is what was saved; cut off, what a crash leaves lies between. -/
import Derived.Test.YtgpgcnmnfnnkjaaGreatDoorGStoreCuts11
import Derived.Test.YtgpgcnmnfnnkjaaGreatDoorGStoreCuts24
import Derived.Test.YtgpgcnmnfnnkjaaGreatDoorGStoreCuts29
import Derived.Test.YtgpgcnmnfnnkjaaGreatDoorGStoreCuts18
set_option linter.unusedVariables false
set_option linter.unusedSimpArgs false
section
namespace Go.Proofs.YtgpgcnmnfnnkjaaGreatDoor
open Go Go.RowKit Go.PlainAid
def headH (h : Hrd) : Hrd := { h with snap := sNone, log := [] }
def etyR (l : List Ety) : List Rec := l.map .ety
def cutR (x h : Hrd) : List Rec := if commonE h.log x.log < x.log.length then [.cut (h.base + commonE h.log x.log)] else []
def votR (x h : Hrd) : List Rec := if h.term ≠ x.term ∨ h.vote ≠ x.vote then [.vot h.term h.vote] else []
def moreR (x h : Hrd) : List Rec := votR x h ++ (cutR x h ++ etyR (h.log.drop (commonE h.log x.log)))
def layR (h : Hrd) : List Rec := .beg (headH h) :: (etyR h.log ++ [.rdy])
theorem etysB_cat : ∀ l : List Ety, etysB l = catR (etyR l)
 | [] => rfl
 | x :: r => by
  show etyB x ++ etysB r = Frm.one (Rec.ety x).pay ++ catR (etyR r)
  rw [etysB_cat r]; rfl
theorem recB_pay (r : Rec) {l : List Int} (h : r.pay = numsB l) : recB l = catR [r] := by
 show Frm.one (numsB l) = Frm.one r.pay ++ []
 rw [h, List.append_nil]
theorem moreB_cat (x h : Hrd) : moreB x h = catR (moreR x h) := by
 unfold moreB moreR votR cutR
 rw [catR_app, catR_app, ← etysB_cat, List.append_assoc]
 congr 1
 · split
   · exact recB_pay (.vot h.term h.vote) rfl
   · rfl
 · congr 1
   split
   · exact recB_pay (.cut (h.base + commonE h.log x.log)) rfl
   · rfl
theorem layB_cat (h : Hrd) : layB h = catR (layR h) := by
 have e : layR h = [.beg (headH h)] ++ etyR h.log ++ [.rdy] := by simp [layR]
 unfold layB
 rw [e, catR_app, catR_app, ← etysB_cat, recB_pay (.beg (headH h)) (l := [1, h.term, h.vote, h.base, h.bterm, h.members]) rfl, recB_pay .rdy rfl]
theorem right_bare {h : Hrd} (hr : rightH h = true) : bareH h = true := by
 unfold rightH at hr
 simp only [Bool.and_eq_true] at hr
 exact hr.1.1
theorem etyR_ok {l : List Ety} (h : ∀ x ∈ l, 1 ≤ x.term ∧ x.term ≤ 1099511627776 ∧ 0 ≤ x.members ∧ x.members ≤ 127 ∧ x.data.size ≤ 1100) : okR (etyR l) := fun r hr => by
 obtain ⟨x, hx, rfl⟩ := List.mem_map.1 hr
 have := h x hx
 exact ⟨⟨by omega, by omega⟩, ⟨by omega, by omega⟩, by omega⟩
theorem log_in {h : Hrd} (hb : bareH h = true) : ∀ x ∈ h.log, 1 ≤ x.term ∧ x.term ≤ 1099511627776 ∧ 0 ≤ x.members ∧ x.members ≤ 127 ∧ x.data.size ≤ 1100 := fun x hx => by
 obtain ⟨⟨a1, a2, _⟩, _, _, a14⟩ := (bareH_all h).1 hb
 have := logOk_in a14 x hx
 omega
theorem lay_ok {h : Hrd} (hb : bareH h = true) : okR (layR h) := by
 obtain ⟨⟨a1, a2, a3, a4, a5, a6, a7, a8, a9, a10, _⟩, a12, a13, a14⟩ := (bareH_all h).1 hb
 intro r hr
 unfold layR at hr
 rcases List.mem_cons.1 hr with rfl | hr
 · exact ⟨⟨by show _ ≤ h.term; omega, by show h.term ≤ _; omega⟩, ⟨by show _ ≤ h.vote; omega, by show h.vote ≤ _; omega⟩, ⟨by show _ ≤ h.base; omega, by show h.base ≤ _; omega⟩, ⟨by show _ ≤ h.bterm; omega, by show h.bterm ≤ _; omega⟩, ⟨by show _ ≤ h.members; omega, by show h.members ≤ _; omega⟩, rfl, rfl⟩
 · rcases List.mem_append.1 hr with hr | hr
   · exact etyR_ok (log_in hb) r hr
   · simp only [List.mem_singleton] at hr; subst hr; trivial
theorem more_ok {h x : Hrd} (hb : bareH h = true) : okR (moreR x h) := by
 obtain ⟨⟨a1, a2, a3, a4, a5, a6, a7, a8, a9, a10, _⟩, a12, a13, a14⟩ := (bareH_all h).1 hb
 have hc := commonE_le h.log x.log
 unfold moreR
 rw [okR_app, okR_app]
 refine ⟨fun r hr => ?_, fun r hr => ?_, etyR_ok fun y hy => log_in hb y (List.mem_of_mem_drop hy)⟩
 · unfold votR at hr
   split at hr
   · simp only [List.mem_singleton] at hr; subst hr; exact ⟨⟨by omega, by omega⟩, ⟨by omega, by omega⟩⟩
   · cases hr
 · unfold cutR at hr
   split at hr
   · simp only [List.mem_singleton] at hr; subst hr; exact ⟨by omega, by omega⟩
   · cases hr
theorem runR_one (s : Sg) (r : Rec) : runR s [r] = stepS s r := by
 rw [runR]; cases stepS s r <;> rfl
theorem run_etys : ∀ (l : List Ety) {s : Sg}, s.begun = true → (s.h.log ++ l).length ≤ 200 → s.h.base + ((s.h.log ++ l).length : Nat) ≤ 1099511627776 → logOk (s.h.log ++ l) s.h.bterm s.h.term = true →
 runR s (etyR l) = some { s with h := { s.h with log := s.h.log ++ l } }
 | [], s, _, _, _, _ => by rw [List.append_nil]; rfl
 | x :: l, s, hb, h1, h2, h3 => by
  have hl : (s.h.log ++ (x :: l)).length = s.h.log.length + 1 + l.length := by simp; omega
  rw [hl] at h1 h2
  have hf : fitsE x (lastT s.h.log s.h.bterm) s.h.term = true := by
   rw [logOk_app, Bool.and_eq_true, logOk, Bool.and_eq_true] at h3
   exact h3.2.1
  have hs : stepS s (.ety x) = some { s with h := { s.h with log := s.h.log ++ [x] } } := by
   show (if s.begun = true then grownS s x else none) = _
   rw [if_pos hb]
   unfold grownS
   rw [if_pos ⟨by omega, by omega, hf⟩]
  show (stepS s (.ety x)).bind (fun t => runR t (etyR l)) = _
  rw [hs]
  have e : s.h.log ++ [x] ++ l = s.h.log ++ x :: l := by simp
  have hl2 : (s.h.log ++ [x] ++ l).length = s.h.log.length + 1 + l.length := by rw [e]; simp; omega
  have := run_etys l (s := { s with h := { s.h with log := s.h.log ++ [x] } }) hb (by show (s.h.log ++ [x] ++ l).length ≤ 200; omega) (by show s.h.base + ((s.h.log ++ [x] ++ l).length : Nat) ≤ _; rw [hl2]; exact h2) (by show logOk (s.h.log ++ [x] ++ l) _ _ = true; rw [e]; exact h3)
  show runR _ (etyR l) = _
  rw [this]
  show some _ = some _
  simp only [e]
theorem run_etys_take (l : List Ety) (j : Nat) {s : Sg} (hb : s.begun = true) (h1 : (s.h.log ++ l).length ≤ 200) (h2 : s.h.base + ((s.h.log ++ l).length : Nat) ≤ 1099511627776) (h3 : logOk (s.h.log ++ l) s.h.bterm s.h.term = true) :
 runR s ((etyR l).take j) = some { s with h := { s.h with log := s.h.log ++ l.take j } } := by
 have e : (etyR l).take j = etyR (l.take j) := by unfold etyR; rw [List.map_take]
 have hle : (s.h.log ++ l.take j).length ≤ (s.h.log ++ l).length := by rw [List.length_append, List.length_append, List.length_take]; omega
 rw [e]
 refine run_etys (l.take j) hb (by omega) (by omega) ?_
 have := logOk_take h3 (s.h.log.length + j)
 rwa [List.take_append, List.take_of_length_le (by omega), Nat.add_sub_cancel_left] at this
theorem run_lay {h : Hrd} (hb : bareH h = true) : runR sg0 (layR h) = some ⟨bareOf h, true, true, 0⟩ ∧ ∀ j, j < (layR h).length → ∃ u, runR sg0 ((layR h).take j) = some u ∧ u.whole = false := by
 obtain ⟨ha, a12, a13, a14⟩ := (bareH_all h).1 hb
 have hh : bareH (headH h) = true := (bareH_all _).2 ⟨ha, by show ([] : List Ety).length ≤ 200; simp, by show (([] : List Ety).length : Int) ≤ 1099511627776 - h.base; simp; omega, rfl⟩
 have h0 : stepS sg0 (.beg (headH h)) = some ⟨headH h, true, false, 0⟩ := by
  show beganS sg0 (headH h) = _
  unfold beganS
  rw [if_pos ⟨rfl, hh⟩]; rfl
 have hety : ∀ j, runR ⟨headH h, true, false, 0⟩ ((etyR h.log).take j) = some ⟨{ headH h with log := h.log.take j }, true, false, 0⟩ := fun j =>
  run_etys_take h.log j (s := ⟨headH h, true, false, 0⟩) rfl a12 (by show h.base + (([] ++ h.log).length : Nat) ≤ _; rw [List.nil_append]; omega) a14
 have hlen : (layR h).length = h.log.length + 2 := by simp [layR, etyR]
 refine ⟨?_, fun j hj => ?_⟩
 · show (stepS sg0 (.beg (headH h))).bind (fun t => runR t (etyR h.log ++ [.rdy])) = _
   rw [h0]
   show runR ⟨headH h, true, false, 0⟩ (etyR h.log ++ [.rdy]) = _
   rw [runR_app]
   have := hety h.log.length
   rw [List.take_of_length_le (by simp [etyR]), List.take_length] at this
   rw [this, Option.bind_some, runR_one]
   show doneS _ = _
   unfold doneS
   rw [if_pos ⟨rfl, rfl⟩]; rfl
 · cases j with
   | zero => exact ⟨sg0, rfl, rfl⟩
   | succ j =>
    refine ⟨⟨{ headH h with log := h.log.take j }, true, false, 0⟩, ?_, rfl⟩
    show runR sg0 (.beg (headH h) :: (etyR h.log ++ [Rec.rdy]).take j) = _
    show (stepS sg0 (.beg (headH h))).bind (fun t => runR t ((etyR h.log ++ [Rec.rdy]).take j)) = _
    rw [h0]
    show runR ⟨headH h, true, false, 0⟩ ((etyR h.log ++ [Rec.rdy]).take j) = _
    rw [List.take_append_of_le_length (by simp [etyR]; omega)]
    exact hety j
theorem commonE_take : ∀ (a b : List Ety), a.take (commonE a b) = b.take (commonE a b)
 | [], b => by cases b <;> simp [commonE]
 | x :: r, [] => by simp [commonE]
 | x :: r, y :: s => by
  rw [commonE]
  split
  · rename_i h
    rw [List.take_succ_cons, List.take_succ_cons, commonE_take r s, etyEq_eq h]
  · rfl
def Between (y x h : Hrd) : Prop := y = x ∨ y = { x with term := h.term, vote := h.vote } ∨ ∃ m, m ≤ h.log.length ∧ y = { bareOf h with log := h.log.take m }
structure MoreOk (x h : Hrd) : Prop where
 bx : bareH x = true
 bh : bareH h = true
 snap : x.snap = sNone
 base : h.base = x.base
 bterm : h.bterm = x.bterm
 mem : h.members = x.members
 term : x.term ≤ h.term
 vote : h.term = x.term → x.vote ≠ -1 → h.vote = x.vote
end Go.Proofs.YtgpgcnmnfnnkjaaGreatDoor
end

section
namespace Go.Proofs.YtgpgcnmnfnnkjaaGreatDoor
open Go Go.RowKit Go.PlainAid
structure KeptW (m : Nat) (d : Dk) (n : Nat) (K : List Rec) (x : Hrd) : Prop where
 inv : PInv m d
 okn : okN n
 okr : okR K
 run : runR sg0 K = some ⟨x, true, true, 0⟩
 bare : bareH x = true
 snap : x.snap = sNone
 file : ∃ c, Frm.err c ≠ 0 ∧ getF d.fs (nameW n) = some ⟨nameW n, catR K ++ c, (catR K ++ c).length⟩
 rest : ∀ k, okN k → k ≠ n → ∀ f, getF d.fs (nameW k) = some f → f.kept = f.data.length ∧ (n < k → (readSeg f.data).whole = false)
structure GoodW (m : Nat) (d : Dk) (n : Nat) (K : List Rec) (x : Hrd) : Prop where
 k : KeptW m d n K x
 file : getF d.fs (nameW n) = some ⟨nameW n, catR K, (catR K).length⟩
 none : ∀ k, okN k → k ≠ n → getF d.fs (nameW k) = none
section
variable {m n : Nat} {d d' : Dk} {K : List Rec} {x : Hrd}
theorem KeptW.pick (h : KeptW m d n K x) : pickN d = (n, ⟨x, true, true, (catR K).length⟩) := by
 obtain ⟨c, hc, hf⟩ := h.file
 have hr := readSeg_run h.okr h.run hc
 rw [pickN_spec h.okn hf (by rw [hr]) fun k hk hlt g hg => (h.rest k hk (by omega) g hg).2 hlt, hr]
theorem KeptW.same (h : KeptW m d n K x) (e : d'.fs = d.fs) (hi : PInv m d') : KeptW m d' n K x :=
 ⟨hi, h.okn, h.okr, h.run, h.bare, h.snap, by rw [e]; exact h.file, by rw [e]; exact h.rest⟩
theorem GoodW.same (h : GoodW m d n K x) (e : d'.fs = d.fs) (hi : PInv m d') : GoodW m d' n K x := ⟨h.k.same e hi, by rw [e]; exact h.file, by rw [e]; exact h.none⟩
theorem KeptW.arm (h : KeptW m d n K x) {c : Int} (hc : c ≤ 9223372036854775807) : KeptW m (armD d c) n K x := h.same rfl (h.inv.arm0 hc)
theorem GoodW.arm (h : GoodW m d n K x) {c : Int} (hc : c ≤ 9223372036854775807) : GoodW m (armD d c) n K x := h.same rfl (h.k.inv.arm0 hc)
theorem KeptW.more {m' : Nat} (h : KeptW m d n K x) (hm : m ≤ m') : KeptW m' d n K x := ⟨h.inv.more hm, h.okn, h.okr, h.run, h.bare, h.snap, h.file, h.rest⟩
theorem GoodW.more {m' : Nat} (h : GoodW m d n K x) (hm : m ≤ m') : GoodW m' d n K x := ⟨h.k.more hm, h.file, h.none⟩
theorem crash_kept (picks : List Int) {s : ByteArray} {f : Fil} (h : getF d.fs s = some f) (hk : f.kept = f.data.length) : getF (crashD d picks).fs s = some f := by
 obtain ⟨pick, hp⟩ := crash_get0 d picks h
 obtain ⟨nm, dt, kp⟩ := f
 dsimp only at hk
 subst hk
 rw [hp, torn_full]
theorem KeptW.crash (h : KeptW m d n K x) (picks : List Int) : KeptW m (crashD d picks) n K x := by
 refine ⟨h.inv.crash0 picks, h.okn, h.okr, h.run, h.bare, h.snap, ?_, fun k hk hn g hg => ?_⟩
 · obtain ⟨c, hc, hf⟩ := h.file
   exact ⟨c, hc, crash_kept picks hf rfl⟩
 · obtain ⟨f, pick, hf, e⟩ := crash_back d picks hg
   obtain ⟨h1, h2⟩ := h.rest k hk hn f hf
   have := crash_kept picks hf h1
   rw [hg] at this
   cases this
   exact ⟨h1, h2⟩
theorem GoodW.crash (h : GoodW m d n K x) (picks : List Int) : GoodW m (crashD d picks) n K x := by
 refine ⟨h.k.crash picks, crash_kept picks h.file rfl, fun k hk hn => ?_⟩
 exact crash_none picks d.fs 0 (h.none k hk hn)
theorem KeptW.cutS (h : KeptW m d n K x) : KeptW m (cutS d n ⟨x, true, true, (catR K).length⟩).2 n K x ∧ ((Proofs.YtgpgcnmnfnnkjaaGreatDoor.cutS d n ⟨x, true, true, (catR K).length⟩).1 = 0 → getF (Proofs.YtgpgcnmnfnnkjaaGreatDoor.cutS d n ⟨x, true, true, (catR K).length⟩).2.fs (nameW n) = some ⟨nameW n, catR K, (catR K).length⟩) ∧ (OnD d → (Proofs.YtgpgcnmnfnnkjaaGreatDoor.cutS d n ⟨x, true, true, (catR K).length⟩).1 = 0 ∧ OnD (Proofs.YtgpgcnmnfnnkjaaGreatDoor.cutS d n ⟨x, true, true, (catR K).length⟩).2) ∧ ∀ s, s ≠ nameW n → getF (Proofs.YtgpgcnmnfnnkjaaGreatDoor.cutS d n ⟨x, true, true, (catR K).length⟩).2.fs s = getF d.fs s := by
 obtain ⟨c, hc, hf⟩ := h.file
 have hfw := fileW_some hf
 have hlen : (catR K ++ c).length = (catR K).length + c.length := List.length_append
 unfold Proofs.YtgpgcnmnfnnkjaaGreatDoor.cutS
 rw [hfw]
 dsimp only
 by_cases hlt : 0 < n ∧ (catR K).length < (catR K ++ c).length
 · rw [if_pos hlt]
   have hi := h.inv.cut0 (nameW n) ((catR K).length : Int)
   have hoth : ∀ s, s ≠ nameW n → getF (cutD d (nameW n) ((catR K).length : Int)).2.fs s = getF d.fs s := fun s hs => cut_other d _ (Ne.symm hs)
   refine ⟨?_, ?_, fun hon => cut_on hon hf (by rw [hlen]; omega), hoth⟩
   · rcases cut_cases d (nameW n) (catR K).length with ⟨_, e⟩ | ⟨_, f, hf2, _, e⟩
     · exact h.same e hi
     · rw [hf] at hf2; cases hf2
       rw [List.take_left, show min (catR K ++ c).length (catR K).length = (catR K).length from by omega] at e
       refine ⟨hi, h.okn, h.okr, h.run, h.bare, h.snap, ⟨[], err_nil, by rw [List.append_nil]; exact e⟩, fun k hk hn => ?_⟩
       rw [hoth _ (nameW_ne hn)]; exact h.rest k hk hn
   · intro h0
     rcases cut_cases d (nameW n) (catR K).length with ⟨e, _⟩ | ⟨_, f, hf2, _, e⟩
     · exact absurd h0 e
     · rw [hf] at hf2; cases hf2
       rw [List.take_left, show min (catR K ++ c).length (catR K).length = (catR K).length from by omega] at e
       exact e
 · rw [if_neg hlt]
   have hz : c = [] := by
    have h1 := h.okn.1
    have : c.length = 0 := by
     rcases Nat.eq_zero_or_pos c.length with e | e
     · exact e
     · exact absurd ⟨h1, by omega⟩ hlt
    exact List.length_eq_zero_iff.1 this
   subst hz
   rw [List.append_nil] at hf
   exact ⟨h, fun _ => hf, fun hon => ⟨rfl, hon⟩, fun _ _ => rfl⟩
theorem KeptW.removes : ∀ (L : List Nat) {d : Dk}, KeptW m d n K x → (∀ k ∈ L, okN k) → KeptW m (removesD L n d).2 n K x ∧ getF (removesD L n d).2.fs (nameW n) = getF d.fs (nameW n) ∧ ((removesD L n d).1 = 0 → ∀ k, (k ∈ L ∨ getF d.fs (nameW k) = none) → k ≠ n → getF (removesD L n d).2.fs (nameW k) = none) ∧ (OnD d → L.Nodup → (∀ k ∈ L, getF d.fs (nameW k) ≠ none) → (removesD L n d).1 = 0 ∧ OnD (removesD L n d).2) ∧ ∀ s, (∀ k, okN k → s ≠ nameW k) → getF (removesD L n d).2.fs s = getF d.fs s
 | [], d, h, _ => ⟨h, rfl, fun _ k hk _ => (by rcases hk with hk | hk; cases hk; exact hk), fun hon _ _ => ⟨rfl, hon⟩, fun _ _ => rfl⟩
 | k :: L, d, h, hL => by
  have hL' : ∀ k ∈ L, okN k := fun a ha => hL a (by simp [ha])
  by_cases e : k = n
  · have er : removesD (k :: L) n d = removesD L n d := by rw [removesD, if_pos e]
    rw [er]
    obtain ⟨h1, h2, h3, h4, h5⟩ := KeptW.removes L h hL'
    refine ⟨h1, h2, fun h0 a ha hn => h3 h0 a ?_ hn, fun hon hd hg => h4 hon (List.nodup_cons.1 hd).2 fun a ha => hg a (by simp [ha]), h5⟩
    rcases ha with ha | ha
    · rcases List.mem_cons.1 ha with rfl | ha
      · exact absurd e hn
      · exact .inl ha
    · exact .inr ha
  · have er : removesD (k :: L) n d = thenD (removeD d (nameW k)) (removesD L n) := by rw [removesD, if_neg e]
    have hk : okN k := hL k (by simp)
    have hi := h.inv.remove0 (nameW k)
    have hoth : ∀ s, s ≠ nameW k → getF (removeD d (nameW k)).2.fs s = getF d.fs s := fun s hs => remove_other d (Ne.symm hs)
    have hfn : getF (removeD d (nameW k)).2.fs (nameW n) = getF d.fs (nameW n) := hoth _ (nameW_ne (Ne.symm e))
    have hcs := remove_cases h.inv.l.sort (nameW k)
    have hk1 : KeptW m (removeD d (nameW k)).2 n K x := by
     rcases hcs with ⟨_, e2⟩ | ⟨_, _, e2⟩
     · exact h.same e2 hi
     · refine ⟨hi, h.okn, h.okr, h.run, h.bare, h.snap, by rw [hfn]; exact h.file, fun a ha hn f hf => ?_⟩
       by_cases hak : a = k
       · subst hak; rw [e2] at hf; cases hf
       · rw [hoth _ (nameW_ne hak)] at hf; exact h.rest a ha hn f hf
    rw [er]
    unfold thenD
    rcases hcs with ⟨q1, q2⟩ | ⟨q1, q3, q2⟩
    · rw [if_neg q1]
      exact ⟨hk1, hfn, fun h0 => absurd h0 q1, fun hon hd hg => absurd (remove_on hon (hg k (by simp))).1 q1, fun s hs => hoth s (hs k hk)⟩
    · rw [if_pos q1]
      obtain ⟨h1, h2, h3, h4, h5⟩ := KeptW.removes L hk1 hL'
      refine ⟨h1, by rw [h2, hfn], fun h0 a ha hn => h3 h0 a ?_ hn, fun hon hd hg => ?_, fun s hs => by rw [h5 s hs]; exact hoth s (hs k hk)⟩
      · by_cases hak : a = k
        · subst hak; exact .inr q2
        · rcases ha with ha | ha
          · rcases List.mem_cons.1 ha with ha | ha
            · exact absurd ha hak
            · exact .inl ha
          · right; rw [hoth _ (nameW_ne hak)]; exact ha
      · obtain ⟨d1, d2⟩ := List.nodup_cons.1 hd
        refine h4 (remove_on hon (hg k (by simp))).2 d2 fun a ha => ?_
        have hak : a ≠ k := fun e3 => d1 (e3 ▸ ha)
        rw [hoth _ (nameW_ne hak)]; exact hg a (by simp [ha])
theorem segs_nodup : ∀ (l : List ByteArray) (out : List Nat), l.Nodup → out.Nodup → (∀ s ∈ l, numW s ≠ 0 → numW s ∉ out) → (l.foldl segStep out).Nodup
 | [], out, _, h, _ => h
 | s :: l, out, hl, ho, hd => by
  rw [List.foldl_cons]
  obtain ⟨l1, l2⟩ := List.nodup_cons.1 hl
  unfold segStep
  split
  · exact segs_nodup l out l2 ho fun t ht => hd t (by simp [ht])
  · rename_i hz
    refine segs_nodup l _ l2 ?_ fun t ht hz2 hin => ?_
    · have hp : (insW out (numW s)).Perm (numW s :: out) := by
       unfold insW
       have := List.perm_middle (a := numW s) (l₁ := out.take (posR out (numW s) out.length)) (l₂ := out.drop (posR out (numW s) out.length))
       rwa [List.take_append_drop] at this
      exact hp.nodup_iff.2 (List.nodup_cons.2 ⟨hd s (by simp) hz, ho⟩)
    · rcases (insW_mem _ _ _).1 hin with e | hin
      · have e1 := (name_num hz2).2
        have e2 := (name_num hz).2
        rw [e] at e1
        exact l1 (by rw [e2, ← e1]; exact ht)
      · exact hd t (by simp [ht]) hz2 hin
theorem segsD_nodup {d : Dk} (h : SortD d.fs) : (segsD d).Nodup := by
 refine segs_nodup _ [] ?_ List.nodup_nil fun _ _ _ h => by cases h
 unfold List.Nodup
 rw [List.pairwise_map]
 exact List.Pairwise.imp (fun h => ltS_ne h) h
theorem clean_law (h : KeptW m d n K x) : KeptW m (cleanW d).2 n K x ∧ ((cleanW d).1 = 0 → GoodW m (cleanW d).2 n K x) ∧ (OnD d → (cleanW d).1 = 0 ∧ OnD (cleanW d).2) ∧ ∀ s, (∀ k, okN k → s ≠ nameW k) → getF (cleanW d).2.fs s = getF d.fs s := by
 obtain ⟨c1, c2, c3, c4⟩ := h.cutS
 have hsub : ∀ k ∈ segsD d, okN k := fun k hk => ((segs_iff d k).1 hk).1
 have hn := h.okn
 unfold cleanW
 rw [h.pick]
 show KeptW m (cleanD d (segsD d) n ⟨x, true, true, (catR K).length⟩).2 n K x ∧ ((cleanD d (segsD d) n ⟨x, true, true, (catR K).length⟩).1 = 0 → GoodW m (cleanD d (segsD d) n ⟨x, true, true, (catR K).length⟩).2 n K x) ∧ (OnD d → (cleanD d (segsD d) n ⟨x, true, true, (catR K).length⟩).1 = 0 ∧ OnD (cleanD d (segsD d) n ⟨x, true, true, (catR K).length⟩).2) ∧ ∀ s, (∀ k, okN k → s ≠ nameW k) → getF (cleanD d (segsD d) n ⟨x, true, true, (catR K).length⟩).2.fs s = getF d.fs s
 unfold cleanD
 generalize hq : Proofs.YtgpgcnmnfnnkjaaGreatDoor.cutS d n ⟨x, true, true, (catR K).length⟩ = q at *
 unfold thenD
 by_cases q0 : q.1 = 0
 · rw [if_pos q0]
   dsimp only
   obtain ⟨r1, r2, r3, r4, r5⟩ := KeptW.removes (segsD d) c1 hsub
   generalize hr : removesD (segsD d) n q.2 = r at *
   have hfile : getF r.2.fs (nameW n) = some ⟨nameW n, catR K, (catR K).length⟩ := by rw [r2]; exact c2 q0
   by_cases r0 : r.1 = 0
   · rw [if_pos r0, if_pos hn.1]
     have hi := r1.inv.sync0 (nameW n)
     have hoth : ∀ s, s ≠ nameW n → getF (syncD r.2 (nameW n)).2.fs s = getF r.2.fs s := fun s hs => sync_other r.2 (Ne.symm hs)
     have hf2 : getF (syncD r.2 (nameW n)).2.fs (nameW n) = some ⟨nameW n, catR K, (catR K).length⟩ := by
      rcases sync_cases r.2 (nameW n) with ⟨_, e⟩ | ⟨_, f, hf, _, e⟩
      · rw [e]; exact hfile
      · rw [hfile] at hf; cases hf; exact e
     have hnone : ∀ k, okN k → k ≠ n → getF (syncD r.2 (nameW n)).2.fs (nameW k) = none := fun k hk hkn => by
      rw [hoth _ (nameW_ne hkn)]
      refine r3 r0 k ?_ hkn
      by_cases hin : k ∈ segsD d
      · exact .inl hin
      · right
        rw [c4 _ (nameW_ne hkn)]
        cases hg : getF d.fs (nameW k) with
        | none => rfl
        | some f => exact absurd ((segs_iff d k).2 ⟨hk, by rw [hg]; simp⟩) hin
     have hk2 : KeptW m (syncD r.2 (nameW n)).2 n K x := ⟨hi, hn, h.okr, h.run, h.bare, h.snap, ⟨[], err_nil, by rw [List.append_nil]; exact hf2⟩, fun k hk hkn f hf => by rw [hnone k hk hkn] at hf; cases hf⟩
     refine ⟨hk2, fun _ => ⟨hk2, hf2, hnone⟩, fun hon => ?_, fun s hs => ?_⟩
     · have ho2 := (c3 hon).2
       have ho3 := (r4 ho2 (segsD_nodup h.inv.l.sort) fun k hk => ?_).2
       · exact sync_on ho3 (by rw [hfile]; simp)
       · by_cases hkn : k = n
         · rw [hkn, c2 q0]; simp
         · rw [c4 _ (nameW_ne hkn)]; exact ((segs_iff d k).1 hk).2
     · rw [hoth s (hs n hn), r5 s hs]; exact c4 s (hs n hn)
   · rw [if_neg r0]
     refine ⟨r1, fun e => absurd e r0, fun hon => ?_, fun s hs => by rw [r5 s hs]; exact c4 s (hs n hn)⟩
     refine absurd (r4 (c3 hon).2 (segsD_nodup h.inv.l.sort) fun k hk => ?_).1 r0
     by_cases hkn : k = n
     · rw [hkn, c2 q0]; simp
     · rw [c4 _ (nameW_ne hkn)]; exact ((segs_iff d k).1 hk).2
 · rw [if_neg q0]
   exact ⟨c1, fun e => absurd e q0, fun hon => absurd (c3 hon).1 q0, fun s hs => c4 s (hs n hn)⟩
theorem open_law (h : KeptW m d n K x) (h0 : (cleanW d).1 = 0) : openW d = some ⟨n, x, false⟩ := by
 unfold openW openH
 rw [if_pos h0, h.pick]
 have := h.okn.1
 rw [if_neg (by dsimp only; omega)]
end
end Go.Proofs.YtgpgcnmnfnnkjaaGreatDoor
end

section
namespace Go.Proofs.YtgpgcnmnfnnkjaaGreatDoor
open Go Go.RowKit Go.PlainAid
theorem keepW_one (w : Wl) (h : Hrd) (r : Int × Nat × Dk) : (keepW w h r).1 = r.1 := by
 unfold keepW; split
 · rename_i e; exact e.symm
 · rfl
theorem keepW_dk (w : Wl) (h : Hrd) (r : Int × Nat × Dk) : (keepW w h r).2.2 = r.2.2 := by unfold keepW; split <;> rfl
theorem keepW_wl {w : Wl} {h : Hrd} {r : Int × Nat × Dk} (e : r.1 = 0) : (keepW w h r).2.1 = ⟨r.2.1, bareOf h, false⟩ := by unfold keepW; rw [if_pos e]
structure SaveOut (m : Nat) (d : Dk) (n : Nat) (K : List Rec) (x g : Hrd) (r : Int × Nat × Dk) : Prop where
 good : r.1 = 0 → ∃ K', GoodW (m + 1) r.2.2 r.2.1 K' (bareOf g) ∧ (K' = K ∨ K' = layR g ∨ (K' = K ++ moreR x g ∧ (catR K).length ≤ 8192))
 num : r.2.1 ≤ n + 1
 torn : ∀ picks, ∃ n' K' y, n' ≤ n + 1 ∧ KeptW (m + 1) (crashD r.2.2 picks) n' K' y ∧ Between y x g ∧ (r.1 = 0 → y = bareOf g)
 on : OnD d → totD d.fs + (moreB x g).length ≤ 4194304 → totD d.fs + (layB g).length ≤ 4194304 → r.1 = 0 ∧ OnD r.2.2
 other : ∀ s, (∀ k, okN k → s ≠ nameW k) → getF r.2.2.fs s = getF d.fs s
theorem same_bare {x g : Hrd} (hs : x.snap = sNone) (h : sameW x g = true) : bareOf g = x := by
 obtain ⟨h1, h2, h3, h4, h5, h6, h7⟩ := (sameW_iff x g).1 h
 have h8 := commonE_all h6 h7
 cases x; cases g
 simp only [bareOf] at *
 subst h1; subst h2; subst h3; subst h4; subst h5; subst h8; subst hs
 rfl
theorem more_of {d : Dk} {n : Nat} {x g : Hrd} (bx : bareH x = true) (hs : x.snap = sNone) (bg : bareH g = true) (ha : anewW d ⟨n, x, false⟩ g = false) : MoreOk x g ∧ 0 < n ∧ (fileW d n).length ≤ 8192 := by
 unfold anewW at ha
 simp only [Bool.or_eq_false_iff, decide_eq_false_iff_not, Bool.and_eq_false_iff, ne_eq, Decidable.not_not, Nat.not_lt, Int.not_lt] at ha
 obtain ⟨⟨⟨⟨⟨⟨a1, a2⟩, a3⟩, a4⟩, a5⟩, a6⟩, a7⟩ := ha
 refine ⟨⟨bx, bg, hs, a3, a4, a5, a6, fun e1 e2 => ?_⟩, by omega, a2⟩
 rcases a7 with (a7 | a7) | a7
 · exact absurd e1 a7
 · exact absurd a7 e2
 · exact a7
section
variable {m n : Nat} {d : Dk} {K : List Rec} {x g : Hrd}
end
end Go.Proofs.YtgpgcnmnfnnkjaaGreatDoor
end
