/- Save, plain law: done, what is kept is what was saved; cut off, what a crash leaves lies between. -/
import Derived.Test.YtgpgcnmnfnnkjaaDoorGWalCuts31
set_option linter.unusedVariables false
set_option linter.unusedSimpArgs false
section
namespace Go.Proofs.YtgpgcnmnfnnkjaaDoor
open Go Go.RowKit Go.PlainAid
theorem keepW_one (w : Wl) (h : Hrd) (r : Int × Nat × Dk) : (keepW w h r).1 = r.1 := by
  unfold keepW; split
  · rename_i e; exact e.symm
  · rfl
theorem keepW_dk (w : Wl) (h : Hrd) (r : Int × Nat × Dk) : (keepW w h r).2.2 = r.2.2 := by unfold keepW; split <;> rfl
theorem keepW_wl {w : Wl} {h : Hrd} {r : Int × Nat × Dk} (e : r.1 = 0) : (keepW w h r).2.1 = ⟨r.2.1, bareOf h, false⟩ := by unfold keepW; rw [if_pos e]
/-- what a Save comes to -/
structure SaveOut (m : Nat) (d : Dk) (n : Nat) (K : List Rec) (x g : Hrd) (r : Int × Nat × Dk) : Prop where
  good : r.1 = 0 → ∃ K', GoodW (m + 1) r.2.2 r.2.1 K' (bareOf g) ∧ (K' = K ∨ K' = layR g ∨ (K' = K ++ moreR x g ∧ (catR K).length ≤ 8192))
  num : r.2.1 ≤ n + 1
  torn : ∀ picks, ∃ n' K' y, n' ≤ n + 1 ∧ KeptW (m + 1) (crashD r.2.2 picks) n' K' y ∧ Between y x g ∧ (r.1 = 0 → y = bareOf g)
  on : OnD d → totD d.fs + (moreB x g).length ≤ 4194304 → totD d.fs + (layB g).length ≤ 4194304 → r.1 = 0 ∧ OnD r.2.2
  other : ∀ s, (∀ k, okN k → s ≠ nameW k) → getF r.2.2.fs s = getF d.fs s
theorem same_bare {x g : Hrd} (hs : x.snap = sNone) (h : sameW x g = true) : bareOf g = x := by
  obtain ⟨h1, h2, h3, h4, h5, h6, h7⟩ := (sameW_iff x g).1 h
  have h8 := commonE_all h6 h7
  cases x; cases g
  simp only [bareOf] at *
  subst h1; subst h2; subst h3; subst h4; subst h5; subst h8; subst hs
  rfl
theorem more_of {d : Dk} {n : Nat} {x g : Hrd} (bx : bareH x = true) (hs : x.snap = sNone) (bg : bareH g = true) (ha : anewW d ⟨n, x, false⟩ g = false) : MoreOk x g ∧ 0 < n ∧ (fileW d n).length ≤ 8192 := by
  unfold anewW at ha
  simp only [Bool.or_eq_false_iff, decide_eq_false_iff_not, Bool.and_eq_false_iff, ne_eq, Decidable.not_not, Nat.not_lt, Int.not_lt] at ha
  obtain ⟨⟨⟨⟨⟨⟨a1, a2⟩, a3⟩, a4⟩, a5⟩, a6⟩, a7⟩ := ha
  refine ⟨⟨bx, bg, hs, a3, a4, a5, a6, fun e1 e2 => ?_⟩, by omega, a2⟩
  rcases a7 with (a7 | a7) | a7
  · exact absurd e1 a7
  · exact absurd a7 e2
  · exact a7
section
variable {m n : Nat} {d : Dk} {K : List Rec} {x g : Hrd}
theorem more_law (h : GoodW m d n K x) (bg : bareH g = true) (ha : anewW d ⟨n, x, false⟩ g = false) : SaveOut m d n K x g ((writeD d n (moreB x g)).1, n, (writeD d n (moreB x g)).2) := by
  obtain ⟨mo, h0, hlen⟩ := more_of h.k.bare h.k.snap bg ha
  rw [fileW_some h.file] at hlen
  dsimp only at hlen
  have okM : okR (moreR x g) := more_ok bg
  have hbd : moreB x g = catR (moreR x g) := moreB_cat x g
  have hiw := h.k.inv.write n (moreB x g)
  obtain ⟨yF, yF1, yF2, yF3, yF4, yF5⟩ := run_more mo (moreR x g).length
  have yFe := yF5 (Nat.le_refl _)
  subst yFe
  rw [List.take_length] at yF1
  have hrunAll : runR sg0 (K ++ moreR x g) = some ⟨bareOf g, true, true, 0⟩ := by rw [runR_app, h.k.run]; exact yF1
  have hoth1 : ∀ s, s ≠ nameW n → getF (appendD d (nameW n) (moreB x g)).2.fs s = getF d.fs s := fun s hs => append_other d (Ne.symm hs)
  unfold writeD thenD at hiw ⊢
  rcases append_cases d (nameW n) (moreB x g) with ⟨q1, q2⟩ | ⟨q1, q2⟩
  · rw [if_neg q1] at hiw ⊢
    refine ⟨fun e => absurd e q1, Nat.le_succ n, fun picks => ?_, fun hon ht _ => absurd (append_on hon (namedD_name h.k.okn.2) ht).1 q1, fun s hs => hoth1 s (hs n h.k.okn)⟩
    exact ⟨n, K, x, by omega, ((h.k.more (Nat.le_succ m)).same q2 hiw).crash picks, .inl rfl, fun e => absurd e q1⟩
  · rw [if_pos q1] at hiw ⊢
    dsimp only at hiw ⊢
    have hf1 : getF (appendD d (nameW n) (moreB x g)).2.fs (nameW n) = some ⟨nameW n, catR K ++ catR (moreR x g), (catR K).length⟩ := by rw [q2, add_some h.file, hbd]
    generalize hd1 : appendD d (nameW n) (moreB x g) = d1 at *
    have hoth2 : ∀ s, s ≠ nameW n → getF (syncD d1.2 (nameW n)).2.fs s = getF d1.2.fs s := fun s hs => sync_other d1.2 (Ne.symm hs)
    have hnone : ∀ k, okN k → k ≠ n → getF (syncD d1.2 (nameW n)).2.fs (nameW k) = none := fun k hk hkn => by rw [hoth2 _ (nameW_ne hkn), hoth1 _ (nameW_ne hkn)]; exact h.none k hk hkn
    have hotherAll : ∀ s, (∀ k, okN k → s ≠ nameW k) → getF (syncD d1.2 (nameW n)).2.fs s = getF d.fs s := fun s hs => by rw [hoth2 s (hs n h.k.okn), hoth1 s (hs n h.k.okn)]
    rcases sync_cases d1.2 (nameW n) with ⟨p1, p2⟩ | ⟨p1, f, p3, _, p2⟩
    · refine ⟨fun e => absurd e p1, Nat.le_succ n, fun picks => ?_, fun hon ht _ => ?_, hotherAll⟩
      · have hf2 : getF (syncD d1.2 (nameW n)).2.fs (nameW n) = some ⟨nameW n, catR K ++ catR (moreR x g), (catR K).length⟩ := by rw [p2]; exact hf1
        obtain ⟨pick, hp⟩ := crash_get0 _ picks hf2
        obtain ⟨T, t1, t2⟩ := torn_file pick (nameW n) (catR K) (catR (moreR x g))
        rw [t2] at hp
        obtain ⟨j, c, j1, j2, j3, _⟩ := torn_cat okM t1
        obtain ⟨y, y1, y2, y3, y4, _⟩ := run_more mo j
        refine ⟨n, K ++ (moreR x g).take j, y, by omega, ⟨hiw.crash0 picks, h.k.okn, okR_app.2 ⟨h.k.okr, okR_take okM j⟩, by rw [runR_app, h.k.run]; exact y1, y3, y4, ⟨c, j3, ?_⟩, fun k hk hkn f hf => ?_⟩, y2, fun e => absurd e p1⟩
        · rw [hp, j2, catR_app, List.append_assoc]
        · have := crash_none picks _ 0 (hnone k hk hkn)
          rw [show (crashD (syncD d1.2 (nameW n)).2 picks).fs = crashTo picks (syncD d1.2 (nameW n)).2.fs 0 from rfl, this] at hf
          cases hf
      · have ho := append_on hon (namedD_name h.k.okn.2) ht
        rw [hd1] at ho
        exact absurd (sync_on ho.2 (by rw [hf1]; simp)).1 p1
    · rw [hf1] at p3; cases p3
      have hf2 : getF (syncD d1.2 (nameW n)).2.fs (nameW n) = some ⟨nameW n, catR (K ++ moreR x g), (catR (K ++ moreR x g)).length⟩ := by rw [p2, catR_app]
      have hg : GoodW (m + 1) (syncD d1.2 (nameW n)).2 n (K ++ moreR x g) (bareOf g) :=
        ⟨⟨hiw, h.k.okn, okR_app.2 ⟨h.k.okr, okM⟩, hrunAll, bg, rfl, ⟨[], err_nil, by rw [List.append_nil]; exact hf2⟩, fun k hk hkn f hf => by rw [hnone k hk hkn] at hf; cases hf⟩, hf2, hnone⟩
      refine ⟨fun _ => ⟨_, hg, .inr (.inr ⟨rfl, hlen⟩)⟩, Nat.le_succ n, fun picks => ⟨n, _, _, by omega, (hg.crash picks).k, yF2, fun _ => rfl⟩, fun hon ht _ => ?_, hotherAll⟩
      have ho := append_on hon (namedD_name h.k.okn.2) ht
      rw [hd1] at ho
      exact sync_on ho.2 (by rw [hf1]; simp)
theorem PInv.layd {k : Nat} {d : Dk} (h : PInv k d) (n : Nat) (x : Hrd) : PInv (k + 1) (layW d n x).2.2 := h.lay n x
theorem lay_law (h : GoodW m d n K x) (bg : bareH g = true) (hn1 : n + 1 ≤ 99999999999999) : SaveOut m d n K x g (layW d n g) := by
  have okL := lay_ok bg
  obtain ⟨run1, run2⟩ := run_lay bg
  have hbd := layB_cat g
  have hon1 : okN (n + 1) := ⟨by omega, hn1⟩
  have hn0 := h.k.okn.1
  have hiw := h.k.inv.lay n g
  have hiA := h.k.inv.append (nameW (n + 1)) (layB g)
  have hiB := h.k.inv.write (n + 1) (layB g)
  have hoth1 : ∀ s, s ≠ nameW (n + 1) → getF (appendD d (nameW (n + 1)) (layB g)).2.fs s = getF d.fs s := fun s hs => append_other d (Ne.symm hs)
  have hBn : Between (bareOf g) x g := .inr (.inr ⟨g.log.length, Nat.le_refl _, by rw [List.take_length]; rfl⟩)
  unfold layW at hiw ⊢
  unfold writeD thenD at hiw hiB ⊢
  rcases append_cases d (nameW (n + 1)) (layB g) with ⟨q1, q2⟩ | ⟨q1, q2⟩
  · rw [if_neg q1] at hiw ⊢
    dsimp only at hiw ⊢
    rw [if_neg q1] at hiw ⊢
    refine ⟨fun e => absurd e q1, Nat.le_succ n, fun picks => ?_, fun hon _ ht => absurd (append_on hon (namedD_name hn1) ht).1 q1, fun s hs => hoth1 s (hs _ hon1)⟩
    exact ⟨n, K, x, by omega, ((h.k.more (Nat.le_succ m)).same q2 hiA).crash picks, .inl rfl, fun e => absurd e q1⟩
  · rw [if_pos q1] at hiw hiB ⊢
    dsimp only at hiw hiB ⊢
    have hf1 : getF (appendD d (nameW (n + 1)) (layB g)).2.fs (nameW (n + 1)) = some ⟨nameW (n + 1), catR (layR g), 0⟩ := by rw [q2, add_none (h.none _ hon1 (by omega)), hbd]
    have hfn1 : getF (appendD d (nameW (n + 1)) (layB g)).2.fs (nameW n) = some ⟨nameW n, catR K, (catR K).length⟩ := by rw [hoth1 _ (nameW_ne (by omega))]; exact h.file
    have hnone1 : ∀ k, okN k → k ≠ n → k ≠ n + 1 → getF (appendD d (nameW (n + 1)) (layB g)).2.fs (nameW k) = none := fun k hk hkn hk1 => by rw [hoth1 _ (nameW_ne hk1)]; exact h.none k hk hkn
    have hapon : OnD d → totD d.fs + (layB g).length ≤ 4194304 → OnD (appendD d (nameW (n + 1)) (layB g)).2 := fun hon ht => (append_on hon (namedD_name hn1) ht).2
    generalize hd1 : appendD d (nameW (n + 1)) (layB g) = d1 at *
    have hoth2 : ∀ s, s ≠ nameW (n + 1) → getF (syncD d1.2 (nameW (n + 1))).2.fs s = getF d1.2.fs s := fun s hs => sync_other d1.2 (Ne.symm hs)
    have hson : OnD d1.2 → (syncD d1.2 (nameW (n + 1))).1 = 0 ∧ OnD (syncD d1.2 (nameW (n + 1))).2 := fun ho => sync_on ho (by rw [hf1]; simp)
    rcases sync_cases d1.2 (nameW (n + 1)) with ⟨p1, p2⟩ | ⟨p1, f, p3, _, p2⟩
    · rw [if_neg p1] at hiw ⊢
      refine ⟨fun e => absurd e p1, Nat.le_succ n, fun picks => ?_, fun hon _ ht => absurd (hson (hapon hon ht)).1 p1, fun s hs => by rw [hoth2 s (hs _ hon1), hoth1 s (hs _ hon1)]⟩
      dsimp only
      generalize syncD d1.2 (nameW (n + 1)) = d2 at *
      have hf2 : getF d2.2.fs (nameW (n + 1)) = some ⟨nameW (n + 1), [] ++ catR (layR g), ([] : List UInt8).length⟩ := by rw [p2]; exact hf1
      have hfn2 : getF d2.2.fs (nameW n) = some ⟨nameW n, catR K, (catR K).length⟩ := by rw [p2]; exact hfn1
      have hcn := crash_kept picks hfn2 rfl
      obtain ⟨pick, hp⟩ := crash_get0 _ picks hf2
      obtain ⟨T, t1, t2⟩ := torn_file pick (nameW (n + 1)) [] (catR (layR g))
      rw [t2, List.nil_append] at hp
      obtain ⟨j, c, j1, j2, j3, j4⟩ := torn_cat okL t1
      have hcnone : ∀ k, okN k → k ≠ n → k ≠ n + 1 → getF (crashD d2.2 picks).fs (nameW k) = none := fun k hk hkn hk1 => crash_none picks _ 0 (by rw [p2]; exact hnone1 k hk hkn hk1)
      by_cases hj : j < (layR g).length
      · obtain ⟨u, u1, u2⟩ := run2 j hj
        refine ⟨n, K, x, by omega, ⟨hiw.crash0 picks, h.k.okn, h.k.okr, h.k.run, h.k.bare, h.k.snap, ⟨[], err_nil, by rw [List.append_nil]; exact hcn⟩, fun k hk hkn f hf => ?_⟩, .inl rfl, fun e => absurd e p1⟩
        by_cases hk1 : k = n + 1
        · subst hk1
          rw [hp] at hf; cases hf
          refine ⟨rfl, fun _ => ?_⟩
          show (readSeg T).whole = false
          rw [j2, readSeg_run (okR_take okL j) u1 j3]
          exact u2
        · rw [hcnone k hk hkn hk1] at hf; cases hf
      · have hje : j = (layR g).length := by omega
        have hc := j4 hje
        subst hc
        rw [hje, List.take_length, List.append_nil] at j2
        subst j2
        refine ⟨n + 1, layR g, bareOf g, Nat.le_refl _, ⟨hiw.crash0 picks, hon1, okL, run1, bg, rfl, ⟨[], err_nil, by rw [List.append_nil]; exact hp⟩, fun k hk hkn f hf => ?_⟩, hBn, fun _ => rfl⟩
        by_cases hk1 : k = n
        · subst hk1
          rw [hcn] at hf; cases hf
          exact ⟨rfl, fun e => by omega⟩
        · rw [hcnone k hk hk1 hkn] at hf; cases hf
    · rw [if_pos p1] at hiw ⊢
      rw [if_neg (show ¬ n = 0 by omega)] at hiw ⊢
      rw [hf1] at p3; cases p3
      dsimp only at hiw ⊢
      have hfn2 : getF (syncD d1.2 (nameW (n + 1))).2.fs (nameW n) = some ⟨nameW n, catR K, (catR K).length⟩ := by rw [hoth2 _ (nameW_ne (by omega))]; exact hfn1
      have hnone2 : ∀ k, okN k → k ≠ n → k ≠ n + 1 → getF (syncD d1.2 (nameW (n + 1))).2.fs (nameW k) = none := fun k hk hkn hk1 => by rw [hoth2 _ (nameW_ne hk1)]; exact hnone1 k hk hkn hk1
      have hosr : ∀ s, s ≠ nameW (n + 1) → getF (syncD d1.2 (nameW (n + 1))).2.fs s = getF d.fs s := fun s hs => by rw [hoth2 s hs, hoth1 s hs]
      generalize syncD d1.2 (nameW (n + 1)) = d2 at *
      have hk2 : ∀ d3 : Dk, PInv (m + 1) d3 → getF d3.fs (nameW (n + 1)) = some ⟨nameW (n + 1), catR (layR g), (catR (layR g)).length⟩ → (∀ k, okN k → k ≠ n + 1 → ∀ f, getF d3.fs (nameW k) = some f → f.kept = f.data.length ∧ k ≤ n) → KeptW (m + 1) d3 (n + 1) (layR g) (bareOf g) := fun d3 hi hf hr =>
        ⟨hi, hon1, okL, run1, bg, rfl, ⟨[], err_nil, by rw [List.append_nil]; exact hf⟩, fun k hk hkn f hf => by
          obtain ⟨r1, r2⟩ := hr k hk hkn f hf
          exact ⟨r1, fun e => by omega⟩⟩
      have hoth3 : ∀ s, s ≠ nameW n → getF (removeD d2.2 (nameW n)).2.fs s = getF d2.2.fs s := fun s hs => remove_other d2.2 (Ne.symm hs)
      have hf3 : getF (removeD d2.2 (nameW n)).2.fs (nameW (n + 1)) = some ⟨nameW (n + 1), catR (layR g), (catR (layR g)).length⟩ := by rw [hoth3 _ (nameW_ne (by omega))]; exact p2
      have hother : ∀ s, (∀ k, okN k → s ≠ nameW k) → getF (removeD d2.2 (nameW n)).2.fs s = getF d.fs s := fun s hs => by rw [hoth3 s (hs n h.k.okn), hosr s (hs _ hon1)]
      rcases remove_cases hiB.l.sort (nameW n) with ⟨r1, r2⟩ | ⟨r1, _, r2⟩
      · have hkk : KeptW (m + 1) (removeD d2.2 (nameW n)).2 (n + 1) (layR g) (bareOf g) := hk2 _ hiw hf3 fun k hk hkn f hf => by
          rw [r2] at hf
          by_cases hk1 : k = n
          · subst hk1; rw [hfn2] at hf; cases hf; exact ⟨rfl, Nat.le_refl _⟩
          · rw [hnone2 k hk hk1 hkn] at hf; cases hf
        refine ⟨fun e => absurd e r1, Nat.le_refl _, fun picks => ⟨n + 1, _, _, Nat.le_refl _, hkk.crash picks, hBn, fun _ => rfl⟩, fun hon _ ht => ?_, hother⟩
        exact absurd (remove_on (hson (hapon hon ht)).2 (by rw [hfn2]; simp)).1 r1
      · have hnone3 : ∀ k, okN k → k ≠ n + 1 → getF (removeD d2.2 (nameW n)).2.fs (nameW k) = none := fun k hk hkn => by
          by_cases hk1 : k = n
          · subst hk1; exact r2
          · rw [hoth3 _ (nameW_ne hk1)]; exact hnone2 k hk hk1 hkn
        have hkk : KeptW (m + 1) (removeD d2.2 (nameW n)).2 (n + 1) (layR g) (bareOf g) := hk2 _ hiw hf3 fun k hk hkn f hf => by rw [hnone3 k hk hkn] at hf; cases hf
        refine ⟨fun _ => ⟨_, ⟨hkk, hf3, hnone3⟩, .inr (.inl rfl)⟩, Nat.le_refl _, fun picks => ⟨n + 1, _, _, Nat.le_refl _, hkk.crash picks, hBn, fun _ => rfl⟩, fun hon _ ht => ?_, hother⟩
        exact remove_on (hson (hapon hon ht)).2 (by rw [hfn2]; simp)
/-- Save -/
theorem save_law (h : GoodW m d n K x) (hr : rightH g = true) (hn1 : n + 1 ≤ 99999999999999) : ∃ r, SaveOut m d n K x g r ∧ (saveW d ⟨n, x, false⟩ g).1 = r.1 ∧ (saveW d ⟨n, x, false⟩ g).2.2 = r.2.2 ∧ (r.1 = 0 → (saveW d ⟨n, x, false⟩ g).2.1 = ⟨r.2.1, bareOf g, false⟩) := by
  have bg := right_bare hr
  unfold saveW
  rw [if_neg (by rw [hr]; simp), if_neg (by simp)]
  by_cases hs : 0 < (⟨n, x, false⟩ : Wl).n ∧ sameW (⟨n, x, false⟩ : Wl).h g = true
  · rw [if_pos hs]
    have e := same_bare h.k.snap hs.2
    refine ⟨(0, n, d), ⟨fun _ => ⟨K, by rw [e]; exact h.more (Nat.le_succ m), .inl rfl⟩, Nat.le_succ n, fun picks => ⟨n, K, x, by omega, (h.crash picks).k.more (Nat.le_succ m), .inl rfl, fun _ => e.symm⟩, fun hon _ _ => ⟨rfl, hon⟩, fun _ _ => rfl⟩, rfl, rfl, fun _ => by rw [e]⟩
  · rw [if_neg hs]
    by_cases ha : anewW d ⟨n, x, false⟩ g = false
    · rw [if_pos ha]
      refine ⟨_, more_law h bg ha, keepW_one _ _ _, keepW_dk _ _ _, fun e => keepW_wl e⟩
    · rw [if_neg ha]
      have hd := dec_few hn1
      rw [if_neg (by show ¬ 14 < (Lib.decDigits (n + 1)).length; omega)]
      exact ⟨_, lay_law h bg hn1, keepW_one _ _ _, keepW_dk _ _ _, fun e => keepW_wl e⟩
end
end Go.Proofs.YtgpgcnmnfnnkjaaDoor
end
