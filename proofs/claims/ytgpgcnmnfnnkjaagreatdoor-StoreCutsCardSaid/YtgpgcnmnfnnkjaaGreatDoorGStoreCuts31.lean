/- Save, plain law, narrower: what a cut leaves. What stays true of a disk under the store's Open and Save; a file's new name; the snapshots' names. How long records are, plain. How much a disk holds, plain. -/
import Derived.Test.YtgpgcnmnfnnkjaaGreatDoorGStoreCuts30
import Derived.Test.YtgpgcnmnfnnkjaaGreatDoorGStoreCuts11
import Derived.Test.YtgpgcnmnfnnkjaaGreatDoorGStoreCuts18
import Derived.Test.YtgpgcnmnfnnkjaaGreatDoorGStoreCuts24
import Derived.Test.YtgpgcnmnfnnkjaaGreatDoorGStoreCuts25
set_option linter.unusedVariables false
set_option linter.unusedSimpArgs false
section
namespace Go.Proofs.YtgpgcnmnfnnkjaaGreatDoor
open Go Go.RowKit Go.PlainAid
def Btw (y x h : Hrd) : Prop := y = x ∨ y = bareOf h ∨ (h.base = x.base ∧ (h.term = x.term → h.vote = x.vote → y = x ∨ ∃ m, commonE h.log x.log ≤ m ∧ m ≤ h.log.length ∧ y = { bareOf h with log := h.log.take m }))
theorem run_more2 {x h : Hrd} (ok : MoreOk x h) (j : Nat) : ∃ y, runR ⟨x, true, true, 0⟩ ((moreR x h).take j) = some ⟨y, true, true, 0⟩ ∧ Btw y x h ∧ bareH y = true ∧ y.snap = sNone ∧ ((moreR x h).length ≤ j → y = bareOf h) := by
 obtain ⟨⟨a1, a2, a3, a4, a5, a6, a7, a8, a9, a10, a11⟩, a12, a13, a14⟩ := (bareH_all h).1 ok.bh
 obtain ⟨⟨c1, c2, c3, c4, c5, c6, c7, c8, c9, c10, c11⟩, c12, c13, c14⟩ := (bareH_all x).1 ok.bx
 have hcm := commonE_le h.log x.log
 have htk := commonE_take h.log x.log
 have hbs := ok.base
 have hbt := ok.bterm
 have hmm := ok.mem
 have htm := ok.term
 generalize hk : commonE h.log x.log = k at *
 have x1b : bareH { x with term := h.term, vote := h.vote } = true := (bareH_all _).2 ⟨⟨a1, a2, a3, a4, c5, c6, c7, c8, c9, by show x.bterm ≤ h.term; omega, c11⟩, c12, c13, logOk_mono c14 ok.term⟩
 have hety : ∀ i, runR ⟨{ x with term := h.term, vote := h.vote, log := h.log.take k }, true, true, 0⟩ ((etyR (h.log.drop k)).take i) = some ⟨{ bareOf h with log := h.log.take (k + i) }, true, true, 0⟩ := fun i => by
  have e1 : h.log.take k ++ h.log.drop k = h.log := List.take_append_drop _ _
  have := run_etys_take (h.log.drop k) i (s := ⟨{ x with term := h.term, vote := h.vote, log := h.log.take k }, true, true, 0⟩) rfl (by show (h.log.take k ++ h.log.drop k).length ≤ 200; rw [e1]; exact a12) (by show x.base + ((h.log.take k ++ h.log.drop k).length : Nat) ≤ _; rw [e1]; omega) (by show logOk (h.log.take k ++ h.log.drop k) x.bterm h.term = true; rw [e1, ← hbt]; exact a14)
  rw [this]
  congr 2
  show ({ x with term := h.term, vote := h.vote, log := h.log.take k ++ (h.log.drop k).take i } : Hrd) = _
  have e2 : h.log.take (k + i) = h.log.take k ++ (h.log.drop k).take i := List.take_add
  rw [e2]
  have hsn := ok.snap
  cases x; cases h
  simp only [bareOf] at *
  simp only [Hrd.mk.injEq]
  exact ⟨trivial, trivial, hbs.symm, hbt.symm, hmm.symm, hsn, trivial⟩
 have hb2 : ∀ m, bareH { bareOf h with log := h.log.take m } = true := fun m => by
  have hl : (h.log.take m).length ≤ h.log.length := by rw [List.length_take]; omega
  exact (bareH_all _).2 ⟨⟨a1, a2, a3, a4, a5, a6, a7, a8, a9, a10, a11⟩, Nat.le_trans hl a12, by show ((h.log.take m).length : Int) ≤ 1099511627776 - h.base; omega, logOk_take a14 _⟩
 have tailE : ∀ i, ∃ y, runR ⟨{ x with term := h.term, vote := h.vote, log := h.log.take k }, true, true, 0⟩ ((etyR (h.log.drop k)).take i) = some ⟨y, true, true, 0⟩ ∧ Btw y x h ∧ bareH y = true ∧ y.snap = sNone ∧ ((etyR (h.log.drop k)).length ≤ i → y = bareOf h) := fun i => by
  refine ⟨_, hety i, .inr (.inr ⟨ok.base, fun _ _ => .inr ?_⟩), hb2 _, rfl, fun hi => ?_⟩
  · rw [hk]
    by_cases hm : k + i ≤ h.log.length
    · exact ⟨k + i, by omega, hm, rfl⟩
    · exact ⟨h.log.length, by omega, Nat.le_refl _, by rw [List.take_of_length_le (by omega : h.log.length ≤ k + i), List.take_length]⟩
  · have hle : h.log.length ≤ k + i := by
     have : (etyR (h.log.drop k)).length = h.log.length - k := by simp [etyR]
     omega
    show ({ bareOf h with log := h.log.take (k + i) } : Hrd) = bareOf h
    rw [List.take_of_length_le hle]; rfl
 have tailC : ∀ i, ∃ y, runR ⟨{ x with term := h.term, vote := h.vote }, true, true, 0⟩ ((cutR x h ++ etyR (h.log.drop k)).take i) = some ⟨y, true, true, 0⟩ ∧ Btw y x h ∧ bareH y = true ∧ y.snap = sNone ∧ ((cutR x h ++ etyR (h.log.drop k)).length ≤ i → y = bareOf h) := fun i => by
  unfold cutR
  rw [hk]
  by_cases hc : k < x.log.length
  · rw [if_pos hc]
    cases i with
    | zero => exact ⟨_, rfl, .inr (.inr ⟨ok.base, fun e1 e2 => .inl (by rw [e1, e2])⟩), x1b, ok.snap, fun h => by simp at h⟩
    | succ i =>
     obtain ⟨y, y1, y2, y3, y4, y5⟩ := tailE i
     refine ⟨y, ?_, y2, y3, y4, fun hi => y5 (by simpa using hi)⟩
     show (stepS _ (.cut (h.base + k))).bind (fun t => runR t ((etyR (h.log.drop k)).take i)) = _
     have hs : stepS ⟨{ x with term := h.term, vote := h.vote }, true, true, 0⟩ (.cut (h.base + k)) = some ⟨{ x with term := h.term, vote := h.vote, log := h.log.take k }, true, true, 0⟩ := by
      show shorterS _ _ = _
      unfold shorterS
      dsimp only
      have e : h.base + (k : Int) - x.base = k := by omega
      rw [if_pos ⟨rfl, by omega, by omega⟩, e, Int.toNat_natCast, htk]
     rw [hs]; exact y1
  · rw [if_neg hc, List.nil_append]
    have e : ({ x with term := h.term, vote := h.vote } : Hrd) = { x with term := h.term, vote := h.vote, log := h.log.take k } := by
     rw [htk, List.take_of_length_le (by omega)]
    rw [e]; exact tailE i
 unfold moreR votR
 rw [hk]
 by_cases hv : h.term ≠ x.term ∨ h.vote ≠ x.vote
 · rw [if_pos hv]
   cases j with
   | zero => exact ⟨x, rfl, .inl rfl, ok.bx, ok.snap, fun h => by simp at h⟩
   | succ j =>
    obtain ⟨y, y1, y2, y3, y4, y5⟩ := tailC j
    refine ⟨y, ?_, y2, y3, y4, fun hi => y5 (by simpa using hi)⟩
    show (stepS _ (.vot h.term h.vote)).bind (fun t => runR t ((cutR x h ++ etyR (h.log.drop k)).take j)) = _
    have hs : stepS ⟨x, true, true, 0⟩ (.vot h.term h.vote) = some ⟨{ x with term := h.term, vote := h.vote }, true, true, 0⟩ := by
     show votedS _ _ _ = _
     unfold votedS
     have hnv : ¬ (h.term = x.term ∧ x.vote ≠ -1) := by
      rintro ⟨e1, e2⟩
      have := ok.vote e1 e2
      rcases hv with hv | hv
      · exact hv e1
      · exact hv this
     rw [if_pos ⟨rfl, htm, hnv, a2, a3, a4⟩]
    rw [hs]; exact y1
 · rw [if_neg hv, List.nil_append]
   have e1 : h.term = x.term := by
    rcases Decidable.em (h.term = x.term) with e | e
    · exact e
    · exact absurd (.inl e) hv
   have e2 : h.vote = x.vote := by
    rcases Decidable.em (h.vote = x.vote) with e | e
    · exact e
    · exact absurd (.inr e) hv
   have e : ({ x with term := h.term, vote := h.vote } : Hrd) = x := by rw [e1, e2]
   have := tailC j
   rw [e] at this; exact this
structure SaveOut2 (m : Nat) (d : Dk) (n : Nat) (K : List Rec) (x g : Hrd) (r : Int × Nat × Dk) : Prop where
 good : r.1 = 0 → ∃ K', GoodW (m + 1) r.2.2 r.2.1 K' (bareOf g) ∧ (K' = K ∨ K' = layR g ∨ (K' = K ++ moreR x g ∧ (catR K).length ≤ 8192))
 num : r.2.1 ≤ n + 1
 torn : ∀ picks, ∃ n' K' y, n' ≤ n + 1 ∧ KeptW (m + 1) (crashD r.2.2 picks) n' K' y ∧ Btw y x g ∧ (r.1 = 0 → y = bareOf g)
 on : OnD d → totD d.fs + (moreB x g).length ≤ 4194304 → totD d.fs + (layB g).length ≤ 4194304 → r.1 = 0 ∧ OnD r.2.2
 other : ∀ s, (∀ k, okN k → s ≠ nameW k) → getF r.2.2.fs s = getF d.fs s
section
variable {m n : Nat} {d : Dk} {K : List Rec} {x g : Hrd}
theorem more_law2 (h : GoodW m d n K x) (bg : bareH g = true) (ha : anewW d ⟨n, x, false⟩ g = false) : SaveOut2 m d n K x g ((writeD d n (moreB x g)).1, n, (writeD d n (moreB x g)).2) := by
 obtain ⟨mo, h0, hlen⟩ := more_of h.k.bare h.k.snap bg ha
 rw [fileW_some h.file] at hlen
 dsimp only at hlen
 have okM : okR (moreR x g) := more_ok bg
 have hbd : moreB x g = catR (moreR x g) := moreB_cat x g
 have hiw := h.k.inv.write n (moreB x g)
 obtain ⟨yF, yF1, yF2, yF3, yF4, yF5⟩ := run_more2 mo (moreR x g).length
 have yFe := yF5 (Nat.le_refl _)
 subst yFe
 rw [List.take_length] at yF1
 have hrunAll : runR sg0 (K ++ moreR x g) = some ⟨bareOf g, true, true, 0⟩ := by rw [runR_app, h.k.run]; exact yF1
 have hoth1 : ∀ s, s ≠ nameW n → getF (appendD d (nameW n) (moreB x g)).2.fs s = getF d.fs s := fun s hs => append_other d (Ne.symm hs)
 unfold writeD thenD at hiw ⊢
 rcases append_cases d (nameW n) (moreB x g) with ⟨q1, q2⟩ | ⟨q1, q2⟩
 · rw [if_neg q1] at hiw ⊢
   refine ⟨fun e => absurd e q1, Nat.le_succ n, fun picks => ?_, fun hon ht _ => absurd (append_on hon (namedD_name h.k.okn.2) ht).1 q1, fun s hs => hoth1 s (hs n h.k.okn)⟩
   exact ⟨n, K, x, by omega, ((h.k.more (Nat.le_succ m)).same q2 hiw).crash picks, .inl rfl, fun e => absurd e q1⟩
 · rw [if_pos q1] at hiw ⊢
   dsimp only at hiw ⊢
   have hf1 : getF (appendD d (nameW n) (moreB x g)).2.fs (nameW n) = some ⟨nameW n, catR K ++ catR (moreR x g), (catR K).length⟩ := by rw [q2, add_some h.file, hbd]
   generalize hd1 : appendD d (nameW n) (moreB x g) = d1 at *
   have hoth2 : ∀ s, s ≠ nameW n → getF (syncD d1.2 (nameW n)).2.fs s = getF d1.2.fs s := fun s hs => sync_other d1.2 (Ne.symm hs)
   have hnone : ∀ k, okN k → k ≠ n → getF (syncD d1.2 (nameW n)).2.fs (nameW k) = none := fun k hk hkn => by rw [hoth2 _ (nameW_ne hkn), hoth1 _ (nameW_ne hkn)]; exact h.none k hk hkn
   have hotherAll : ∀ s, (∀ k, okN k → s ≠ nameW k) → getF (syncD d1.2 (nameW n)).2.fs s = getF d.fs s := fun s hs => by rw [hoth2 s (hs n h.k.okn), hoth1 s (hs n h.k.okn)]
   rcases sync_cases d1.2 (nameW n) with ⟨p1, p2⟩ | ⟨p1, f, p3, _, p2⟩
   · refine ⟨fun e => absurd e p1, Nat.le_succ n, fun picks => ?_, fun hon ht _ => ?_, hotherAll⟩
     · have hf2 : getF (syncD d1.2 (nameW n)).2.fs (nameW n) = some ⟨nameW n, catR K ++ catR (moreR x g), (catR K).length⟩ := by rw [p2]; exact hf1
       obtain ⟨pick, hp⟩ := crash_get0 _ picks hf2
       obtain ⟨T, t1, t2⟩ := torn_file pick (nameW n) (catR K) (catR (moreR x g))
       rw [t2] at hp
       obtain ⟨j, c, j1, j2, j3, _⟩ := torn_cat okM t1
       obtain ⟨y, y1, y2, y3, y4, _⟩ := run_more2 mo j
       refine ⟨n, K ++ (moreR x g).take j, y, by omega, ⟨hiw.crash0 picks, h.k.okn, okR_app.2 ⟨h.k.okr, okR_take okM j⟩, by rw [runR_app, h.k.run]; exact y1, y3, y4, ⟨c, j3, ?_⟩, fun k hk hkn f hf => ?_⟩, y2, fun e => absurd e p1⟩
       · rw [hp, j2, catR_app, List.append_assoc]
       · have := crash_none picks _ 0 (hnone k hk hkn)
         rw [show (crashD (syncD d1.2 (nameW n)).2 picks).fs = crashTo picks (syncD d1.2 (nameW n)).2.fs 0 from rfl, this] at hf
         cases hf
     · have ho := append_on hon (namedD_name h.k.okn.2) ht
       rw [hd1] at ho
       exact absurd (sync_on ho.2 (by rw [hf1]; simp)).1 p1
   · rw [hf1] at p3; cases p3
     have hf2 : getF (syncD d1.2 (nameW n)).2.fs (nameW n) = some ⟨nameW n, catR (K ++ moreR x g), (catR (K ++ moreR x g)).length⟩ := by rw [p2, catR_app]
     have hg : GoodW (m + 1) (syncD d1.2 (nameW n)).2 n (K ++ moreR x g) (bareOf g) :=
      ⟨⟨hiw, h.k.okn, okR_app.2 ⟨h.k.okr, okM⟩, hrunAll, bg, rfl, ⟨[], err_nil, by rw [List.append_nil]; exact hf2⟩, fun k hk hkn f hf => by rw [hnone k hk hkn] at hf; cases hf⟩, hf2, hnone⟩
     refine ⟨fun _ => ⟨_, hg, .inr (.inr ⟨rfl, hlen⟩)⟩, Nat.le_succ n, fun picks => ⟨n, _, _, by omega, (hg.crash picks).k, yF2, fun _ => rfl⟩, fun hon ht _ => ?_, hotherAll⟩
     have ho := append_on hon (namedD_name h.k.okn.2) ht
     rw [hd1] at ho
     exact sync_on ho.2 (by rw [hf1]; simp)
theorem lay_law2 (h : GoodW m d n K x) (bg : bareH g = true) (hn1 : n + 1 ≤ 99999999999999) : SaveOut2 m d n K x g (layW d n g) := by
 have okL := lay_ok bg
 obtain ⟨run1, run2⟩ := run_lay bg
 have hbd := layB_cat g
 have hon1 : okN (n + 1) := ⟨by omega, hn1⟩
 have hn0 := h.k.okn.1
 have hiw := h.k.inv.lay n g
 have hiA := h.k.inv.append (nameW (n + 1)) (layB g)
 have hiB := h.k.inv.write (n + 1) (layB g)
 have hoth1 : ∀ s, s ≠ nameW (n + 1) → getF (appendD d (nameW (n + 1)) (layB g)).2.fs s = getF d.fs s := fun s hs => append_other d (Ne.symm hs)
 have hBn : Btw (bareOf g) x g := .inr (.inl rfl)
 unfold layW at hiw ⊢
 unfold writeD thenD at hiw hiB ⊢
 rcases append_cases d (nameW (n + 1)) (layB g) with ⟨q1, q2⟩ | ⟨q1, q2⟩
 · rw [if_neg q1] at hiw ⊢
   dsimp only at hiw ⊢
   rw [if_neg q1] at hiw ⊢
   refine ⟨fun e => absurd e q1, Nat.le_succ n, fun picks => ?_, fun hon _ ht => absurd (append_on hon (namedD_name hn1) ht).1 q1, fun s hs => hoth1 s (hs _ hon1)⟩
   exact ⟨n, K, x, by omega, ((h.k.more (Nat.le_succ m)).same q2 hiA).crash picks, .inl rfl, fun e => absurd e q1⟩
 · rw [if_pos q1] at hiw hiB ⊢
   dsimp only at hiw hiB ⊢
   have hf1 : getF (appendD d (nameW (n + 1)) (layB g)).2.fs (nameW (n + 1)) = some ⟨nameW (n + 1), catR (layR g), 0⟩ := by rw [q2, add_none (h.none _ hon1 (by omega)), hbd]
   have hfn1 : getF (appendD d (nameW (n + 1)) (layB g)).2.fs (nameW n) = some ⟨nameW n, catR K, (catR K).length⟩ := by rw [hoth1 _ (nameW_ne (by omega))]; exact h.file
   have hnone1 : ∀ k, okN k → k ≠ n → k ≠ n + 1 → getF (appendD d (nameW (n + 1)) (layB g)).2.fs (nameW k) = none := fun k hk hkn hk1 => by rw [hoth1 _ (nameW_ne hk1)]; exact h.none k hk hkn
   have hapon : OnD d → totD d.fs + (layB g).length ≤ 4194304 → OnD (appendD d (nameW (n + 1)) (layB g)).2 := fun hon ht => (append_on hon (namedD_name hn1) ht).2
   generalize hd1 : appendD d (nameW (n + 1)) (layB g) = d1 at *
   have hoth2 : ∀ s, s ≠ nameW (n + 1) → getF (syncD d1.2 (nameW (n + 1))).2.fs s = getF d1.2.fs s := fun s hs => sync_other d1.2 (Ne.symm hs)
   have hson : OnD d1.2 → (syncD d1.2 (nameW (n + 1))).1 = 0 ∧ OnD (syncD d1.2 (nameW (n + 1))).2 := fun ho => sync_on ho (by rw [hf1]; simp)
   rcases sync_cases d1.2 (nameW (n + 1)) with ⟨p1, p2⟩ | ⟨p1, f, p3, _, p2⟩
   · rw [if_neg p1] at hiw ⊢
     refine ⟨fun e => absurd e p1, Nat.le_succ n, fun picks => ?_, fun hon _ ht => absurd (hson (hapon hon ht)).1 p1, fun s hs => by rw [hoth2 s (hs _ hon1), hoth1 s (hs _ hon1)]⟩
     dsimp only
     generalize syncD d1.2 (nameW (n + 1)) = d2 at *
     have hf2 : getF d2.2.fs (nameW (n + 1)) = some ⟨nameW (n + 1), [] ++ catR (layR g), ([] : List UInt8).length⟩ := by rw [p2]; exact hf1
     have hfn2 : getF d2.2.fs (nameW n) = some ⟨nameW n, catR K, (catR K).length⟩ := by rw [p2]; exact hfn1
     have hcn := crash_kept picks hfn2 rfl
     obtain ⟨pick, hp⟩ := crash_get0 _ picks hf2
     obtain ⟨T, t1, t2⟩ := torn_file pick (nameW (n + 1)) [] (catR (layR g))
     rw [t2, List.nil_append] at hp
     obtain ⟨j, c, j1, j2, j3, j4⟩ := torn_cat okL t1
     have hcnone : ∀ k, okN k → k ≠ n → k ≠ n + 1 → getF (crashD d2.2 picks).fs (nameW k) = none := fun k hk hkn hk1 => crash_none picks _ 0 (by rw [p2]; exact hnone1 k hk hkn hk1)
     by_cases hj : j < (layR g).length
     · obtain ⟨u, u1, u2⟩ := run2 j hj
       refine ⟨n, K, x, by omega, ⟨hiw.crash0 picks, h.k.okn, h.k.okr, h.k.run, h.k.bare, h.k.snap, ⟨[], err_nil, by rw [List.append_nil]; exact hcn⟩, fun k hk hkn f hf => ?_⟩, .inl rfl, fun e => absurd e p1⟩
       by_cases hk1 : k = n + 1
       · subst hk1
         rw [hp] at hf; cases hf
         refine ⟨rfl, fun _ => ?_⟩
         show (readSeg T).whole = false
         rw [j2, readSeg_run (okR_take okL j) u1 j3]
         exact u2
       · rw [hcnone k hk hkn hk1] at hf; cases hf
     · have hje : j = (layR g).length := by omega
       have hc := j4 hje
       subst hc
       rw [hje, List.take_length, List.append_nil] at j2
       subst j2
       refine ⟨n + 1, layR g, bareOf g, Nat.le_refl _, ⟨hiw.crash0 picks, hon1, okL, run1, bg, rfl, ⟨[], err_nil, by rw [List.append_nil]; exact hp⟩, fun k hk hkn f hf => ?_⟩, hBn, fun _ => rfl⟩
       by_cases hk1 : k = n
       · subst hk1
         rw [hcn] at hf; cases hf
         exact ⟨rfl, fun e => by omega⟩
       · rw [hcnone k hk hk1 hkn] at hf; cases hf
   · rw [if_pos p1] at hiw ⊢
     rw [if_neg (show ¬ n = 0 by omega)] at hiw ⊢
     rw [hf1] at p3; cases p3
     dsimp only at hiw ⊢
     have hfn2 : getF (syncD d1.2 (nameW (n + 1))).2.fs (nameW n) = some ⟨nameW n, catR K, (catR K).length⟩ := by rw [hoth2 _ (nameW_ne (by omega))]; exact hfn1
     have hnone2 : ∀ k, okN k → k ≠ n → k ≠ n + 1 → getF (syncD d1.2 (nameW (n + 1))).2.fs (nameW k) = none := fun k hk hkn hk1 => by rw [hoth2 _ (nameW_ne hk1)]; exact hnone1 k hk hkn hk1
     have hosr : ∀ s, s ≠ nameW (n + 1) → getF (syncD d1.2 (nameW (n + 1))).2.fs s = getF d.fs s := fun s hs => by rw [hoth2 s hs, hoth1 s hs]
     generalize syncD d1.2 (nameW (n + 1)) = d2 at *
     have hk2 : ∀ d3 : Dk, PInv (m + 1) d3 → getF d3.fs (nameW (n + 1)) = some ⟨nameW (n + 1), catR (layR g), (catR (layR g)).length⟩ → (∀ k, okN k → k ≠ n + 1 → ∀ f, getF d3.fs (nameW k) = some f → f.kept = f.data.length ∧ k ≤ n) → KeptW (m + 1) d3 (n + 1) (layR g) (bareOf g) := fun d3 hi hf hr =>
      ⟨hi, hon1, okL, run1, bg, rfl, ⟨[], err_nil, by rw [List.append_nil]; exact hf⟩, fun k hk hkn f hf => by
       obtain ⟨r1, r2⟩ := hr k hk hkn f hf
       exact ⟨r1, fun e => by omega⟩⟩
     have hoth3 : ∀ s, s ≠ nameW n → getF (removeD d2.2 (nameW n)).2.fs s = getF d2.2.fs s := fun s hs => remove_other d2.2 (Ne.symm hs)
     have hf3 : getF (removeD d2.2 (nameW n)).2.fs (nameW (n + 1)) = some ⟨nameW (n + 1), catR (layR g), (catR (layR g)).length⟩ := by rw [hoth3 _ (nameW_ne (by omega))]; exact p2
     have hother : ∀ s, (∀ k, okN k → s ≠ nameW k) → getF (removeD d2.2 (nameW n)).2.fs s = getF d.fs s := fun s hs => by rw [hoth3 s (hs n h.k.okn), hosr s (hs _ hon1)]
     rcases remove_cases hiB.l.sort (nameW n) with ⟨r1, r2⟩ | ⟨r1, _, r2⟩
     · have hkk : KeptW (m + 1) (removeD d2.2 (nameW n)).2 (n + 1) (layR g) (bareOf g) := hk2 _ hiw hf3 fun k hk hkn f hf => by
        rw [r2] at hf
        by_cases hk1 : k = n
        · subst hk1; rw [hfn2] at hf; cases hf; exact ⟨rfl, Nat.le_refl _⟩
        · rw [hnone2 k hk hk1 hkn] at hf; cases hf
       refine ⟨fun e => absurd e r1, Nat.le_refl _, fun picks => ⟨n + 1, _, _, Nat.le_refl _, hkk.crash picks, hBn, fun _ => rfl⟩, fun hon _ ht => ?_, hother⟩
       exact absurd (remove_on (hson (hapon hon ht)).2 (by rw [hfn2]; simp)).1 r1
     · have hnone3 : ∀ k, okN k → k ≠ n + 1 → getF (removeD d2.2 (nameW n)).2.fs (nameW k) = none := fun k hk hkn => by
        by_cases hk1 : k = n
        · subst hk1; exact r2
        · rw [hoth3 _ (nameW_ne hk1)]; exact hnone2 k hk hk1 hkn
       have hkk : KeptW (m + 1) (removeD d2.2 (nameW n)).2 (n + 1) (layR g) (bareOf g) := hk2 _ hiw hf3 fun k hk hkn f hf => by rw [hnone3 k hk hkn] at hf; cases hf
       refine ⟨fun _ => ⟨_, ⟨hkk, hf3, hnone3⟩, .inr (.inl rfl)⟩, Nat.le_refl _, fun picks => ⟨n + 1, _, _, Nat.le_refl _, hkk.crash picks, hBn, fun _ => rfl⟩, fun hon _ ht => ?_, hother⟩
       exact remove_on (hson (hapon hon ht)).2 (by rw [hfn2]; simp)
theorem save_law2 (h : GoodW m d n K x) (hr : rightH g = true) (hn1 : n + 1 ≤ 99999999999999) : ∃ r, SaveOut2 m d n K x g r ∧ (saveW d ⟨n, x, false⟩ g).1 = r.1 ∧ (saveW d ⟨n, x, false⟩ g).2.2 = r.2.2 ∧ (r.1 = 0 → (saveW d ⟨n, x, false⟩ g).2.1 = ⟨r.2.1, bareOf g, false⟩) := by
 have bg := right_bare hr
 unfold saveW
 rw [if_neg (by rw [hr]; simp), if_neg (by simp)]
 by_cases hs : 0 < (⟨n, x, false⟩ : Wl).n ∧ sameW (⟨n, x, false⟩ : Wl).h g = true
 · rw [if_pos hs]
   have e := same_bare h.k.snap hs.2
   refine ⟨(0, n, d), ⟨fun _ => ⟨K, by rw [e]; exact h.more (Nat.le_succ m), .inl rfl⟩, Nat.le_succ n, fun picks => ⟨n, K, x, by omega, (h.crash picks).k.more (Nat.le_succ m), .inl rfl, fun _ => e.symm⟩, fun hon _ _ => ⟨rfl, hon⟩, fun _ _ => rfl⟩, rfl, rfl, fun _ => by rw [e]⟩
 · rw [if_neg hs]
   by_cases ha : anewW d ⟨n, x, false⟩ g = false
   · rw [if_pos ha]
     refine ⟨_, more_law2 h bg ha, keepW_one _ _ _, keepW_dk _ _ _, fun e => keepW_wl e⟩
   · rw [if_neg ha]
     have hd := dec_few hn1
     rw [if_neg (by show ¬ 14 < (Lib.decDigits (n + 1)).length; omega)]
     exact ⟨_, lay_law2 h bg hn1, keepW_one _ _ _, keepW_dk _ _ _, fun e => keepW_wl e⟩
end
end Go.Proofs.YtgpgcnmnfnnkjaaGreatDoor
end

section
namespace Go.Proofs.YtgpgcnmnfnnkjaaGreatDoor
open Go Go.RowKit Go.PlainAid
theorem right_base {g : Hrd} (hr : rightH g = true) : bareH g = true ∧ 0 ≤ g.base ∧ g.base ≤ 1099511627776 ∧ fitI g.base ∧ fitI g.bterm ∧ fitI g.members ∧ g.snap.size ≤ 65536 ∧ (g.snap.size = 0 ↔ g.base = 0) := by
 have hb := right_bare hr
 obtain ⟨⟨a1, a2, a3, a4, a5, a6, a7, a8, a9, a10, a11⟩, _⟩ := (bareH_all g).1 hb
 unfold rightH at hr
 simp only [Bool.and_eq_true, decide_eq_true_eq, beq_iff_eq] at hr
 obtain ⟨⟨_, h2⟩, h3⟩ := hr
 refine ⟨hb, a7, a8, ⟨by omega, by omega⟩, ⟨by omega, by omega⟩, ⟨by omega, by omega⟩, h3, ?_⟩
 constructor
 · intro e; rw [decide_eq_true e] at h2; exact of_decide_eq_true h2.symm
 · intro e; rw [decide_eq_true e] at h2; exact of_decide_eq_true h2
theorem nameP_bytes (n : Nat) : bytesOf (nameP n) = hdP ++ Lib.decDigits n := by unfold bytesOf nameP; simp
theorem nameP_size (n : Nat) : (nameP n).size = 5 + (Lib.decDigits n).length := by rw [← bytes_size, nameP_bytes, List.length_append]; rfl
theorem nameP_inj {a b : Nat} (h : nameP a = nameP b) : a = b := by
 have e : bytesOf (nameP a) = bytesOf (nameP b) := by rw [h]
 rw [nameP_bytes, nameP_bytes] at e
 exact decW_inj (List.append_cancel_left e)
theorem namedD_nameP {n : Nat} (h : n ≤ 99999999999999) : namedD (nameP n) = true := by
 have hs := nameP_size n
 have hf := dec_few h
 have hall : ∀ x ∈ bytesOf (nameP n), 33 ≤ x.toNat ∧ x.toNat ≤ 126 := fun x hx => by
  rw [nameP_bytes] at hx
  rcases List.mem_append.1 hx with hx | hx
  · simp only [hdP, List.mem_cons, List.not_mem_nil, or_false] at hx
    rcases hx with rfl | rfl | rfl | rfl | rfl <;> decide
  · have := (digB_iff x).1 (decW_all n x hx); omega
 exact namedD_all hall (by omega) (by omega)
theorem freshS_named : namedD freshS = true := by decide
theorem nameP_fresh (n : Nat) : nameP n ≠ freshS := fun e => by
 have h : bytesOf (nameP n) = bytesOf freshS := by rw [e]
 rw [nameP_bytes, show bytesOf freshS = hdP ++ [116, 109, 112] from rfl] at h
 have h2 := List.append_cancel_left h
 have := decW_all n 116 (by rw [h2]; simp)
 exact absurd this (by decide)
theorem nameP_nameW (n m : Nat) : nameP n ≠ nameW m := fun e => by
 have h : bytesOf (nameP n) = bytesOf (nameW m) := by rw [e]
 rw [nameP_bytes, nameW_bytes] at h
 have h1 := congrArg (fun l => l[0]?) h
 simp [hdP, hdW] at h1
theorem freshS_nameW (m : Nat) : freshS ≠ nameW m := fun e => by
 have h : bytesOf freshS = bytesOf (nameW m) := by rw [e]
 rw [nameW_bytes] at h
 have h1 := congrArg (fun l => l[0]?) h
 simp [bytesOf, freshS, hdW] at h1
theorem numbS_name {n : Nat} (h : okN n) : numbS (nameP n) = true := by
 have hb := nameP_bytes n
 have hp := decW_pos n
 have hf := dec_few h.2
 have h1 : (bytesOf (nameP n)).take 5 = hdP := by rw [hb]; rfl
 have h2 : (bytesOf (nameP n)).drop 5 = Lib.decDigits n := by rw [hb]; rfl
 have h3 : (bytesOf (nameP n))[5]? = (Lib.decDigits n).head? := by rw [← List.head?_drop, h2]
 have hl : (bytesOf (nameP n)).length = 5 + (Lib.decDigits n).length := by rw [hb, List.length_append]; rfl
 unfold numbS numbB
 rw [decide_eq_false (show ¬ (bytesOf (nameP n)).length ≤ 5 by omega), decide_eq_false (show ¬ (bytesOf (nameP n)).take 5 ≠ hdP from fun q => q h1), decide_eq_false (show ¬ 19 < (bytesOf (nameP n)).length by omega), decide_eq_false (show ¬ (bytesOf (nameP n))[5]? = some 48 by rw [h3]; exact decW_head n h.1), h2]
 simp only [Bool.or_false, Bool.not_false, Bool.true_and]
 rw [List.all_eq_true]; exact decW_all n
theorem numbS_head {s : ByteArray} (h : numbS s = true) : (bytesOf s).take 5 = hdP := by
 unfold numbS numbB at h
 rw [Bool.and_eq_true] at h
 have h1 := h.1
 simp only [Bool.not_eq_true', Bool.or_eq_false_iff, decide_eq_false_iff_not, Decidable.not_not] at h1
 exact h1.1.1.2
theorem dropS_W (n m : Nat) : dropS n (nameW m) = false := by
 have h1 : eqS (nameW m) freshS = false := by rw [Bool.eq_false_iff]; exact fun e => freshS_nameW m ((eqS_iff _ _).1 e).symm
 have h2 : numbS (nameW m) = false := by
  rw [Bool.eq_false_iff]
  intro e
  have := numbS_head e
  rw [nameW_bytes] at this
  have h1 := congrArg (fun l => l[0]?) this
  simp [hdP, hdW] at h1
 unfold dropS; rw [h1, h2]; rfl
theorem totD_delP {l : List Fil} {k : Nat} (h : k < l.length) : totD (delD l k) + l[k].data.length = totD l := by
 have e : l = l.take k ++ l[k] :: l.drop (k + 1) := by rw [← List.drop_eq_getElem_cons h, List.take_append_drop]
 have h3 : totD l = totD (l.take k) + (l[k].data.length + totD (l.drop (k + 1))) := by
  conv => lhs; rw [e]
  rw [totD_append, totD_cons]
 unfold delD; rw [totD_append]; omega
theorem delD_len1 {l : List Fil} {k : Nat} (h : k < l.length) : (delD l k).length + 1 = l.length := by unfold delD; rw [List.length_append, List.length_take, List.length_drop]; omega
theorem move_rest {l : List Fil} (hs : SortD l) {k : Nat} (hk : k < l.length) (sn : ByteArray) : ∃ m, moveD sn l k = putD m ⟨sn, l[k].data, l[k].kept⟩ ∧ SortD m ∧ (∀ f ∈ m, f ∈ l) ∧ m.length + 1 ≤ l.length ∧ totD m + l[k].data.length ≤ totD l ∧ getF m sn = none ∧ ∀ s, s ≠ sn → getF m s = if s = l[k].name then none else getF l s := by
 have h1 := totD_delP hk
 have h2 := delD_len1 hk
 have hself := get_del_self hs hk rfl
 have hoth : ∀ s, s ≠ l[k].name → getF (delD l k) s = getF l s := fun s e => get_del hk (Ne.symm e)
 have hbase : ∀ s, getF (delD l k) s = if s = l[k].name then none else getF l s := fun s => by
  split
  · rename_i e; subst e; exact hself
  · rename_i e; exact hoth s e
 rw [moveD_at0 hk]
 split
 · rcases find_idx (delD l k) sn with ⟨h3, _⟩ | ⟨i, hi, h3, _, h4⟩
   · omega
   · rw [h3, Int.toNat_natCast]
     have t1 := totD_delP hi
     have t2 := delD_len1 hi
     refine ⟨_, rfl, (hs.del k).del i, fun f hf => delD_sub (delD_sub hf), by omega, by omega, get_del_self (hs.del k) hi h4, fun s hsn => ?_⟩
     rw [get_del hi (by rw [h4]; exact Ne.symm hsn)]; exact hbase s
 · rename_i hneg
   exact ⟨_, rfl, hs.del k, fun f hf => delD_sub hf, by omega, by omega, (idx_neg_iff _ _).1 (by omega), fun s _ => hbase s⟩
theorem LInv.move {k : Nat} {l : List Fil} (h : LInv k l) {j : Nat} (hj : j < l.length) {sn : ByteArray} (hn : namedD sn = true) : LInv k (moveD sn l j) := by
 obtain ⟨m, e, m1, m2, m3, m4, m5, _⟩ := move_rest h.sort hj sn
 rw [e]
 refine ⟨m1.put (x := ⟨sn, l[j].data, l[j].kept⟩) m5, fun f hf => ?_, fun f hf => ?_, ?_, ?_⟩
 · rcases putD_sub hf with rfl | hf
   · exact hn
   · exact h.nam f (m2 f hf)
 · rcases putD_sub hf with rfl | hf
   · exact h.kept l[j] (List.getElem_mem hj)
   · exact h.kept f (m2 f hf)
 · rw [totD_putD]; show totD m + l[j].data.length ≤ _; have := h.tot; omega
 · rw [putD_length]; have := h.len; omega
section
variable {k : Nat} {d : Dk}
theorem PInv.rename0 (h : PInv k d) (s sn : ByteArray) : PInv k (renameD d s sn).2 := by
 unfold renameD
 split
 · exact h
 · rename_i h1
   rcases knownD_spec d s with ⟨h2, _⟩ | ⟨j, hj, h2, h3⟩
   · rw [onD_no h2]; exact h
   · have hoff : d.off = false := by
      cases ho : d.off with
      | false => rfl
      | true => rw [show knownD d s = (0, 18) by unfold knownD; rw [if_pos ho]] at h2; cases h2
     have hn : namedD sn = true := by
      cases hn : namedD sn with
      | true => rfl
      | false => exact absurd ⟨hoff, hn⟩ h1
     rw [onD_yes h2 h3]
     refine h.step0 (f := fun l => if eqS s sn then l else moveD sn l j) ?_
     split
     · exact h.l
     · exact h.l.move hj hn
theorem rename_cases (hs : SortD d.fs) {s tn : ByteArray} (hne : s ≠ tn) : ((renameD d s tn).1 ≠ 0 ∧ (renameD d s tn).2.fs = d.fs) ∨ ((renameD d s tn).1 = 0 ∧ ∃ f, getF d.fs s = some f ∧ getF (renameD d s tn).2.fs tn = some ⟨tn, f.data, f.kept⟩ ∧ getF (renameD d s tn).2.fs s = none) := by
 unfold renameD
 split
 · exact .inl ⟨by simp, rfl⟩
 · rcases onD_cases d s (fun l k => if eqS s tn then l else moveD tn l k) with h | ⟨h, j, hj, h1, h2, h3, h4⟩
   · exact .inl h
   · have he : eqS s tn = false := by rw [Bool.eq_false_iff]; exact fun e => hne ((eqS_iff _ _).1 e)
     obtain ⟨m, e, _, _, _, _, m5, m6⟩ := move_rest hs hj tn
     replace h4 := h4.trans (if_neg (by rw [he]; decide))
     rw [e] at h4
     refine .inr ⟨h, d.fs[j], h2, ?_, ?_⟩
     · rw [h4]; exact get_put_self (x := ⟨tn, d.fs[j].data, d.fs[j].kept⟩) m5
     · rw [h4, get_put _ (Ne.symm hne : (⟨tn, d.fs[j].data, d.fs[j].kept⟩ : Fil).name ≠ s), m6 s hne, if_pos h3.symm]
theorem rename_on (h : OnD d) {s tn : ByteArray} (hs : getF d.fs s ≠ none) (hn : namedD tn = true) : (renameD d s tn).1 = 0 ∧ OnD (renameD d s tn).2 := by
 unfold renameD
 rw [if_neg (by rw [hn]; simp)]
 exact onD_on h hs _
theorem PInv.dropD (n : Nat) : ∀ (l : List ByteArray) {d : Dk}, PInv k d → PInv k (Proofs.YtgpgcnmnfnnkjaaGreatDoor.dropD n l d).2
 | [], _, h => h
 | s :: r, d, h => by
  rw [Proofs.YtgpgcnmnfnnkjaaGreatDoor.dropD]
  split
  · exact (h.remove0 s).then fun d h => PInv.dropD n r h
  · exact PInv.dropD n r h
theorem PInv.cleanP (h : PInv k d) (n : Nat) : PInv k (Proofs.YtgpgcnmnfnnkjaaGreatDoor.cleanP d n).2 := h.dropD n _
theorem PInv.openP (h : PInv k d) : PInv k (Proofs.YtgpgcnmnfnnkjaaGreatDoor.openP d).2.2 := by
 unfold Proofs.YtgpgcnmnfnnkjaaGreatDoor.openP
 cases openW d with
 | none => exact h.clean
 | some ws =>
  dsimp only
  cases snapO (cleanW d).2 ws.h with
  | none => exact h.clean
  | some s =>
   dsimp only
   split
   · exact h.clean.cleanP _
   · exact h.clean.cleanP _
theorem PInv.writeP (h : PInv k d) (x : Hrd) : PInv (k + 1) (Proofs.YtgpgcnmnfnnkjaaGreatDoor.writeP d x).2 := by
 unfold Proofs.YtgpgcnmnfnnkjaaGreatDoor.writeP
 have h0 : PInv k (if (readD d freshS).isSome then removeD d freshS else (0, d)).2 := by
  split
  · exact h.remove0 _
  · exact h
 generalize (if (readD d freshS).isSome then removeD d freshS else (0, d)) = p at *
 unfold thenD
 split
 · have h1 := h0.append freshS (snapB x)
   dsimp only
   split
   · have h2 := h1.sync0 freshS
     try dsimp only
     split
     · exact h2.rename0 _ _
     · exact h2
   · exact h1
 · exact h0.up
theorem PInv.allP (h : PInv k d) (s : Sto) (x : Hrd) : PInv (k + 2) (Proofs.YtgpgcnmnfnnkjaaGreatDoor.allP d s x).2.2 := by
 unfold Proofs.YtgpgcnmnfnnkjaaGreatDoor.allP
 have h0 : PInv (k + 1) (if wantsP s x then Proofs.YtgpgcnmnfnnkjaaGreatDoor.writeP d x else (0, d)).2 := by
  split
  · exact h.writeP x
  · exact h.up
 dsimp only
 generalize (if wantsP s x then Proofs.YtgpgcnmnfnnkjaaGreatDoor.writeP d x else (0, d)) = p at *
 split
 · exact h0.up
 · have h1 := h0.save s.w x
   split
   · exact h1
   · split
     · exact h1
     · exact h1.cleanP _
theorem PInv.saveP (h : PInv k d) (s : Sto) (x : Hrd) : PInv (k + 2) (Proofs.YtgpgcnmnfnnkjaaGreatDoor.saveP d s x).2.2 := by
 unfold Proofs.YtgpgcnmnfnnkjaaGreatDoor.saveP
 split
 · exact h.up.up
 · split
   · exact h.up.up
   · exact h.allP s x
end
end Go.Proofs.YtgpgcnmnfnnkjaaGreatDoor
end

section
namespace Go.Proofs.YtgpgcnmnfnnkjaaGreatDoor
open Go Go.RowKit Go.PlainAid
theorem oneK_le (p : List UInt8) : (Frm.one p).length ≤ p.length + 8 := by
 cases h : Frm.none' p with
 | true => rw [Frm.one_none h]; simp
 | false => rw [Frm.one_length h]; exact Nat.le_refl _
theorem recK_le (l : List Int) : (recB l).length ≤ 10 * l.length + 8 := by
 have := oneK_le (numsB l)
 have := numsB_le l
 unfold recB; omega
theorem etyK_le (x : Ety) : (etyB x).length ≤ x.data.size + 48 := by
 have h1 := oneK_le (numsB [2, x.term, x.members] ++ textB (bytesOf x.data))
 have h2 := numsB_le [2, x.term, x.members]
 have h3 := numB_le ((bytesOf x.data).length : Int)
 have h4 : (bytesOf x.data).length = x.data.size := by simp [bytesOf]
 unfold etyB
 rw [List.length_append] at h1
 unfold textB at h1 ⊢
 rw [List.length_append] at h1
 simp only [List.length_cons, List.length_nil] at h2
 omega
theorem etysK_le : ∀ l : List Ety, (etysB l).length ≤ 48 * l.length + sizesE l
 | [] => by simp [etysB, sizesE]
 | x :: r => by
  have h1 := etyK_le x
  have h2 := etysK_le r
  have e1 : etysB (x :: r) = etyB x ++ etysB r := rfl
  have e2 : sizesE (x :: r) = x.data.size + sizesE r := by simp [sizesE]
  rw [e1, e2, List.length_append, List.length_cons]; omega
theorem sizesE_drop (l : List Ety) (k : Nat) : sizesE (l.drop k) ≤ sizesE l := by
 conv => rhs; rw [← List.take_append_drop k l]
 unfold sizesE; rw [List.map_append, List.sum_append]; omega
theorem small_of {h : Hrd} (hs : smallH h = true) : h.log.length ≤ 40 ∧ h.snap.size + sizesE h.log ≤ 9000 := by
 unfold smallH at hs
 rw [Bool.and_eq_true, decide_eq_true_iff, decide_eq_true_iff] at hs
 exact hs
theorem layK_le {h : Hrd} (hs : smallH h = true) : (layB h).length ≤ 11500 := by
 obtain ⟨h1, h2⟩ := small_of hs
 have := recK_le [1, h.term, h.vote, h.base, h.bterm, h.members]
 have := recK_le [3]
 have := etysK_le h.log
 unfold layB
 rw [List.length_append, List.length_append]
 simp only [List.length_cons, List.length_nil] at *
 omega
theorem moreK_le {x h : Hrd} (hs : smallH h = true) : (moreB x h).length ≤ 11500 := by
 obtain ⟨h1, h2⟩ := small_of hs
 have h3 := recK_le [4, h.term, h.vote]
 have h4 := recK_le [5, h.base + commonE h.log x.log]
 have h5 := etysK_le (h.log.drop (commonE h.log x.log))
 have h6 := sizesE_drop h.log (commonE h.log x.log)
 have h7 : (h.log.drop (commonE h.log x.log)).length ≤ h.log.length := by rw [List.length_drop]; omega
 simp only [List.length_cons, List.length_nil] at *
 unfold moreB
 rw [List.length_append, List.length_append]
 have a1 : (if h.term ≠ x.term ∨ h.vote ≠ x.vote then recB [4, h.term, h.vote] else []).length ≤ 38 := by split; omega; simp
 have a2 : (if commonE h.log x.log < x.log.length then recB [5, h.base + commonE h.log x.log] else []).length ≤ 28 := by split; omega; simp
 omega
end Go.Proofs.YtgpgcnmnfnnkjaaGreatDoor
end

section
namespace Go.Proofs.YtgpgcnmnfnnkjaaGreatDoor
open Go Go.RowKit Go.PlainAid
theorem on_tot {d : Dk} {s : ByteArray} {f : List Fil → Nat → List Fil} {T : Nat} (h : totD d.fs ≤ T) (hf : ∀ j, j < d.fs.length → totD (f d.fs j) ≤ T) : totD (onD d s f).2.fs ≤ T := by
 rcases onD_cases d s f with ⟨_, e⟩ | ⟨_, j, hj, _, _, _, e⟩
 · rw [e]; exact h
 · rw [e]; exact hf j hj
theorem upd_tot {l : List Fil} {j : Nat} (hj : j < l.length) {f : Fil → Fil} (hf : (f l[j]).data.length ≤ l[j].data.length) : totD (updD l j f) ≤ totD l := by
 rw [updD_at hj]
 have := totD_set hj (f l[j])
 omega
theorem sync_tot (d : Dk) (s : ByteArray) : totD (syncD d s).2.fs ≤ totD d.fs := on_tot (Nat.le_refl _) fun j hj => upd_tot hj (Nat.le_refl _)
theorem remove_tot (d : Dk) (s : ByteArray) : totD (removeD d s).2.fs ≤ totD d.fs := on_tot (Nat.le_refl _) fun j _ => totD_del _ _
theorem cut_tot (d : Dk) (s : ByteArray) (n : Int) : totD (cutD d s n).2.fs ≤ totD d.fs := by
 unfold cutD
 split
 · exact Nat.le_refl _
 · exact on_tot (Nat.le_refl _) fun j hj => upd_tot hj (by rw [List.length_take]; omega)
theorem append_tot (d : Dk) (s : ByteArray) (p : List UInt8) : totD (appendD d s p).2.fs ≤ totD d.fs + p.length := by
 rcases append_cases d s p with ⟨_, e⟩ | ⟨_, e⟩
 · rw [e]; omega
 · rw [e, totD_addD]; exact Nat.le_refl _
theorem then_tot {r : Int × Dk} {f : Dk → Int × Dk} {T : Nat} (h : totD r.2.fs ≤ T) (hf : ∀ d, totD d.fs ≤ T → totD (f d).2.fs ≤ T) : totD (thenD r f).2.fs ≤ T := by
 unfold thenD; split
 · exact hf _ h
 · exact h
theorem removes_tot {T : Nat} : ∀ (l : List Nat) (n : Nat) (d : Dk), totD d.fs ≤ T → totD (removesD l n d).2.fs ≤ T
 | [], _, _, h => h
 | x :: r, n, d, h => by
  rw [removesD]; split
  · exact removes_tot r n d h
  · exact then_tot (Nat.le_trans (remove_tot _ _) h) fun d h => removes_tot r n d h
theorem clean_tot (d : Dk) : totD (cleanW d).2.fs ≤ totD d.fs := by
 unfold cleanW cleanD
 refine then_tot ?_ fun d h => then_tot (removes_tot _ _ _ h) fun d h => ?_
 · unfold cutS; split
   · exact cut_tot _ _ _
   · exact Nat.le_refl _
 · split
   · exact Nat.le_trans (sync_tot _ _) h
   · exact h
theorem write_tot (d : Dk) (n : Nat) (b : List UInt8) : totD (writeD d n b).2.fs ≤ totD d.fs + b.length := by
 unfold writeD
 exact then_tot (append_tot _ _ _) fun d h => Nat.le_trans (sync_tot _ _) h
theorem lay_tot (d : Dk) (n : Nat) (h : Hrd) : totD (layW d n h).2.2.fs ≤ totD d.fs + (layB h).length := by
 have hw := write_tot d (n + 1) (layB h)
 unfold layW
 dsimp only
 split
 · split
   · exact hw
   · exact Nat.le_trans (remove_tot _ _) hw
 · exact hw
theorem save_tot {d : Dk} {w : Wl} {h : Hrd} (hs : smallH h = true) : totD (saveW d w h).2.2.fs ≤ totD d.fs + 11500 := by
 have h1 := moreK_le (x := w.h) hs
 have h2 := layK_le hs
 have h3 := write_tot d w.n (moreB w.h h)
 have h4 := lay_tot d w.n h
 unfold saveW
 repeat' split
 all_goals first
  | (rw [keepW_dk]; first | omega | (dsimp only; omega))
  | (show totD d.fs ≤ _; omega)
end Go.Proofs.YtgpgcnmnfnnkjaaGreatDoor
end
