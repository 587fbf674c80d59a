/- The walk of SessionTells. -/
import Derived.Test.YtmchkhofcjgeaaaSesRuns
import Derived.Test.YtmchkhofcjgeaaaBookSes
namespace Go.Proofs.Ytmchkhofcjgeaaa
open Go Go.RowKit

@[reducible] def mkS : Ses := ⟨-3, 0, ⟨0, 0, 0⟩⟩
theorem keep_split {l : List Ses} {id seq : Int} (r : Rep) : ((lookS l id seq).2.2 ≠ 0 ∧ resL (keepS l id seq r) = [] ∧ resE (keepS l id seq r) = (lookS l id seq).2.2) ∨
    ((lookS l id seq).2.2 = 0 ∧ (lookS l id seq).2.1 = true ∧ resL (keepS l id seq r) = [] ∧ resE (keepS l id seq r) = 12) ∨
    ((lookS l id seq).2.2 = 0 ∧ (lookS l id seq).2.1 = false ∧ resL (keepS l id seq r) = refKeepS l id seq r ∧ resE (keepS l id seq r) = (lookS l id seq).2.2) := by
  unfold keepS
  by_cases hz : (lookS l id seq).2.2 = 0
  · cases hg : (lookS l id seq).2.1 with
    | true => exact .inr (.inl ⟨hz, rfl, by rw [if_neg (by simpa using hz), if_pos rfl]; rfl, by rw [if_neg (by simpa using hz), if_pos rfl]; rfl⟩)
    | false =>
      obtain ⟨k, hk, hp, _, _⟩ := lookS_ok hz
      refine .inr (.inr ⟨hz, rfl, ?_, ?_⟩)
      · rw [if_neg (by simpa using hz), if_neg (by simp)]
        unfold refKeepS; rw [if_neg (by omega)]; rfl
      · rw [if_neg (by simpa using hz), if_neg (by simp), hz]; rfl
  · exact .inl ⟨hz, by rw [if_pos hz]; rfl, by rw [if_pos hz]; rfl⟩

set_option maxHeartbeats 8000000 in
set_option maxRecDepth 100000 in
theorem sessionTells_walk (v : Value) (l : List Ses) (id seq : Int) (r : Rep) (w : World) (hv : Rd sesE w v l) :
    Calls Try.prog 4 #[v, .int .i64 id, .int .i64 seq, .agg #[.int .i64 r.why, .int .i64 r.num, .int .i64 r.gross]] w fun e w' => e = .returned (.bool true) ∧ Below w.heap.size w w' := by
  have hcase : ∃ (v1 : Value) (l1 : List Ses), Rd sesE w v1 l1 ∧ l1.length ≤ 20 ∧ ((20 < l.length ∧ ∀ w', (Instr.slice 25 v none (some (.int .i64 20)) none).run Try.prog w' = .ok v1 w') ∨ (¬ 20 < l.length ∧ v1 = v ∧ l1 = l)) := by
    by_cases h : 20 < l.length
    · exact ⟨_, _, hv.sub 0 20 (by omega) (by omega), by simp; omega, .inl ⟨h, fun w' => run_sub_to tSes hv .i64 20 20 rfl (by omega) w'⟩⟩
    · exact ⟨v, l, hv, by omega, .inr ⟨h, rfl, rfl⟩⟩
  obtain ⟨v1, l1, hp1, n1, hcase⟩ := hcase
  obtain ⟨pv, cv, rfl⟩ := hv.shape
  clear hv
  have HV := Lib.hid hp1
  have hlk0 : ∃ lk, lookS l1 id seq = lk := ⟨_, rfl⟩
  obtain ⟨lk, hlk⟩ := hlk0
  have hsplit := keep_split (l := l1) (id := id) (seq := seq) r
  rw [hlk] at hsplit
  have Hlk := Lib.hid hlk
  clear hlk
  obtain ⟨mC, hmC⟩ : ∃ mC, resL (keepS l1 id seq r) = mC := ⟨_, rfl⟩
  obtain ⟨hC, hhC⟩ : ∃ hC, resE (keepS l1 id seq r) = hC := ⟨_, rfl⟩
  rw [hmC, hhC] at hsplit
  have Hkp := Lib.hid hmC
  have Hke := Lib.hid hhC
  have Hsp := Lib.hid hsplit
  clear hmC hhC hsplit
  rcases hcase with ⟨h, hs⟩ | ⟨h, hs, hll⟩
  all_goals
    first
    | (subst hs; subst hll)
    | (obtain ⟨p1, cap1, rfl⟩ := hp1.shape)
    go_enter Try.func4, Try.ntmps4
    have b_0 := below_alloc w (.cells #[.int .i64 r.why, .int .i64 r.num, .int .i64 r.gross] 24)
    have k7_0 := Blk.new w #[.int .i64 r.why, .int .i64 r.num, .int .i64 r.gross] 24
    have hl_0 := hp1.ext b_0
    have c1 := below_alloc (w.alloc (.cells #[.int .i64 r.why, .int .i64 r.num, .int .i64 r.gross] 24)) (.cells #[.int .i64 (-3), .int .i64 0, .int .i64 0, .int .i64 0, .int .i64 0] 33)
    have hb9 : Blk ((w.alloc (.cells #[.int .i64 r.why, .int .i64 r.num, .int .i64 r.gross] 24)).alloc (.cells #[.int .i64 (-3), .int .i64 0, .int .i64 0, .int .i64 0, .int .i64 0] 33)) (w.alloc (.cells #[.int .i64 r.why, .int .i64 r.num, .int .i64 r.gross] 24)).heap.size #[.int .i64 (-3), .int .i64 0, .int .i64 0, .int .i64 0, .int .i64 0] 33 := Blk.new _ _ _
    rw [show (w.alloc (.cells #[.int .i64 r.why, .int .i64 r.num, .int .i64 r.gross] 24)).heap.size = w.heap.size + 1 from by simp] at hb9
    have b_1 := b_0.trans (c1.mono b_0.size)
    have k7_1 := k7_0.ext c1
    have hl_1 := hl_0.ext c1
    have k9_1 := hb9
    clear c1 b_0 k7_0 hl_0 hb9 hp1
    first
    | (have hq : (20 : Int) < (l.length : Int) := by omega)
    | (have hq : ¬ (20 : Int) < (l.length : Int) := by omega)
    | (have hq : ¬ (20 : Int) < (l1.length : Int) := by omega)
    go_wp2_with fail
    generalize hw1 : (w.alloc (.cells #[.int .i64 r.why, .int .i64 r.num, .int .i64 r.gross] 24)).alloc (.cells #[.int .i64 (-3), .int .i64 0, .int .i64 0, .int .i64 0, .int .i64 0] 33) = w1 at *
    clear hw1 hq
    try clear hs
    have a_1 := Below.refl w1.heap.size w1
    have K7 := Lib.hid k7_1
    have K9 := Lib.hid k9_1
    with_reducible refine (roomySes _ l1 mkS _ hl_1 (by omega)).mono ?_
    rintro e w2 ⟨gF, rfl, ownF, c2⟩
    have b_2 := b_1.trans (c2.mono b_1.size)
    have a_2 := a_1.trans (c2.mono a_1.size)
    have k7_2 := k7_1.ext c2
    have k9_2 := k9_1.ext c2
    have hl_2 := hl_1.ext c2
    clear b_1 a_1 k7_1 k9_1 hl_1
    clear c2
    have f_2 := Below.refl w2.heap.size w2
    have hF := ownF.rd
    have HF := Lib.hid hF
    have sF := run_sub_to tSes (P := Try.prog) hF .i64 (l1.length : Int) l1.length rfl (by rw [roomyL_length]; omega)
    have rO_2 := hF.sub 0 l1.length (Nat.zero_le _) (by rw [roomyL_length]; omega)
    rw [show ((roomyL l1 mkS).drop 0).take (l1.length - 0) = l1 from by simp [roomyL], show sesE.sz = 5 from rfl] at rO_2
    generalize subV (.slice (some ⟨gF, 0, none⟩) (l1.length + 80) (l1.length + 80)) 0 l1.length 5 = vF at *
    clear hF ownF
    go_wp2_with fail
    with_reducible refine (sesJoin vF l1 id _ rO_2).mono ?_
    rintro e w3 ⟨hT, c3⟩
    have b_3 := b_2.trans (c3.mono b_2.size)
    have a_3 := a_2.trans (c3.mono a_2.size)
    have f_3 := f_2.trans (c3.mono f_2.size)
    have k7_3 := k7_2.ext c3
    have k9_3 := k9_2.ext c3
    have hl_3 := hl_2.ext c3
    have rO_3 := rO_2.ext c3
    clear b_2 a_2 f_2 k7_2 k9_2 hl_2 rO_2
    obtain ⟨va, rfl, ownA⟩ := hT.uni
    have rA_3 := ownA.rd
    clear hT ownA sF
    clear c3
    go_wp2_with fail
    with_reducible refine (sesLeave vF l1 id _ rO_3).mono ?_
    rintro e w4 ⟨hT, c4⟩
    have b_4 := b_3.trans (c4.mono b_3.size)
    have a_4 := a_3.trans (c4.mono a_3.size)
    have f_4 := f_3.trans (c4.mono f_3.size)
    have k7_4 := k7_3.ext c4
    have k9_4 := k9_3.ext c4
    have hl_4 := hl_3.ext c4
    have rO_4 := rO_3.ext c4
    have rA_4 := rA_3.ext c4
    clear b_3 a_3 f_3 k7_3 k9_3 hl_3 rO_3 rA_3
    obtain ⟨vb, rfl, ownB⟩ := hT.uni
    have rB_4 := ownB.rd
    clear hT ownB
    clear c4
    go_wp2_with fail
    with_reducible refine (sesLook vF l1 id seq _ rO_4).mono ?_
    rintro e w5 ⟨he, c5⟩
    have b_5 := b_4.trans (c5.mono b_4.size)
    have a_5 := a_4.trans (c5.mono a_4.size)
    have f_5 := f_4.trans (c5.mono f_4.size)
    have k7_5 := k7_4.ext c5
    have k9_5 := k9_4.ext c5
    have hl_5 := hl_4.ext c5
    have rO_5 := rO_4.ext c5
    have rA_5 := rA_4.ext c5
    have rB_5 := rB_4.ext c5
    clear b_4 a_4 f_4 k7_4 k9_4 hl_4 rO_4 rA_4 rB_4
    rw [Hlk.out] at he
    obtain rfl := he
    clear c5
    have c6 : Below w5.heap.size w5 (w5.alloc (.cells #[.int .i64 lk.1.why, .int .i64 lk.1.num, .int .i64 lk.1.gross] 24)) := below_alloc w5 _
    have b_6 := b_5.trans (c6.mono b_5.size)
    have a_6 := a_5.trans (c6.mono a_5.size)
    have f_6 := f_5.trans (c6.mono f_5.size)
    have k7_6 := k7_5.ext c6
    have k9_6 := k9_5.ext c6
    have hl_6 := hl_5.ext c6
    have rO_6 := rO_5.ext c6
    have rA_6 := rA_5.ext c6
    have rB_6 := rB_5.ext c6
    clear b_5 a_5 f_5 k7_5 k9_5 hl_5 rO_5 rA_5 rB_5
    have k16_6 : Blk (w5.alloc (.cells #[.int .i64 lk.1.why, .int .i64 lk.1.num, .int .i64 lk.1.gross] 24)) w5.heap.size #[.int .i64 lk.1.why, .int .i64 lk.1.num, .int .i64 lk.1.gross] 24 := Blk.new _ _ _
    clear c6
    obtain ⟨x0, x1, x2, _⟩ := rep_cells k7_6
    go_wp2_with fail
    generalize hw6 : w5.alloc (.cells #[.int .i64 lk.1.why, .int .i64 lk.1.num, .int .i64 lk.1.gross] 24) = w6 at *
    clear hw6
    clear x0 x1 x2
    have szB := b_6.size
    have szF := f_6.size
    have hK9 := k9_6.lt
    with_reducible refine (sesKeep vF l1 id seq r _ rO_6).mono ?_
    rintro e w7 ⟨hT, c7⟩
    have b_7 := b_6.trans (c7.mono b_6.size)
    have a_7 := a_6.trans (c7.mono a_6.size)
    have f_7 := f_6.trans (c7.mono f_6.size)
    have k7_7 := k7_6.ext c7
    have k9_7 := k9_6.ext c7
    have hl_7 := hl_6.ext c7
    have rO_7 := rO_6.ext c7
    have rA_7 := rA_6.ext c7
    have rB_7 := rB_6.ext c7
    have k16_7 := k16_6.ext c7
    clear b_6 a_6 f_6 k7_6 k9_6 hl_6 rO_6 rA_6 rB_6 k16_6
    obtain ⟨vc, rfl, ownC_7⟩ := hT.uni
    rw [Hkp.out] at ownC_7
    clear hT
    clear c7
    rw [Hke.out]
    go_wp2_with fail
    with_reducible refine (sesJoinL _ l1 id _ hl_7).mono ?_
    rintro e w8 ⟨hT, c8⟩
    have b_8 := b_7.trans (c8.mono b_7.size)
    have a_8 := a_7.trans (c8.mono a_7.size)
    have f_8 := f_7.trans (c8.mono f_7.size)
    have k7_8 := k7_7.ext c8
    have k9_8 := k9_7.ext c8
    have hl_8 := hl_7.ext c8
    have rO_8 := rO_7.ext c8
    have rA_8 := rA_7.ext c8
    have rB_8 := rB_7.ext c8
    have k16_8 := k16_7.ext c8
    have ownC_8 := ownC_7.ext c8
    clear b_7 a_7 f_7 k7_7 k9_7 hl_7 rO_7 rA_7 rB_7 k16_7 ownC_7
    obtain ⟨vu, rfl, ownU⟩ := hT.uni
    have rU_8 := ownU.rd
    clear hT ownU
    clear c8
    go_wp2_with fail
    with_reducible refine (sesLeaveL _ l1 id _ hl_8).mono ?_
    rintro e w9 ⟨hT, c9⟩
    have b_9 := b_8.trans (c9.mono b_8.size)
    have a_9 := a_8.trans (c9.mono a_8.size)
    have f_9 := f_8.trans (c9.mono f_8.size)
    have k7_9 := k7_8.ext c9
    have k9_9 := k9_8.ext c9
    have hl_9 := hl_8.ext c9
    have rO_9 := rO_8.ext c9
    have rA_9 := rA_8.ext c9
    have rB_9 := rB_8.ext c9
    have k16_9 := k16_8.ext c9
    have ownC_9 := ownC_8.ext c9
    have rU_9 := rU_8.ext c9
    clear b_8 a_8 f_8 k7_8 k9_8 hl_8 rO_8 rA_8 rB_8 k16_8 ownC_8 rU_8
    obtain ⟨vv, rfl, ownV⟩ := hT.uni
    have rV_9 := ownV.rd
    clear hT ownV
    clear c9
    go_wp2_with fail
    with_reducible refine (sesLookL _ l1 id seq _ hl_9).mono ?_
    rintro e w10 ⟨he, c10⟩
    have b_10 := b_9.trans (c10.mono b_9.size)
    have a_10 := a_9.trans (c10.mono a_9.size)
    have f_10 := f_9.trans (c10.mono f_9.size)
    have k7_10 := k7_9.ext c10
    have k9_10 := k9_9.ext c10
    have hl_10 := hl_9.ext c10
    have rO_10 := rO_9.ext c10
    have rA_10 := rA_9.ext c10
    have rB_10 := rB_9.ext c10
    have k16_10 := k16_9.ext c10
    have ownC_10 := ownC_9.ext c10
    have rU_10 := rU_9.ext c10
    have rV_10 := rV_9.ext c10
    clear b_9 a_9 f_9 k7_9 k9_9 hl_9 rO_9 rA_9 rB_9 k16_9 ownC_9 rU_9 rV_9
    rw [Hlk.out] at he
    obtain rfl := he
    clear c10
    have c11 : Below w10.heap.size w10 (w10.alloc (.cells #[.int .i64 lk.1.why, .int .i64 lk.1.num, .int .i64 lk.1.gross] 24)) := below_alloc w10 _
    have b_11 := b_10.trans (c11.mono b_10.size)
    have a_11 := a_10.trans (c11.mono a_10.size)
    have f_11 := f_10.trans (c11.mono f_10.size)
    have k7_11 := k7_10.ext c11
    have k9_11 := k9_10.ext c11
    have hl_11 := hl_10.ext c11
    have rO_11 := rO_10.ext c11
    have rA_11 := rA_10.ext c11
    have rB_11 := rB_10.ext c11
    have k16_11 := k16_10.ext c11
    have ownC_11 := ownC_10.ext c11
    have rU_11 := rU_10.ext c11
    have rV_11 := rV_10.ext c11
    clear b_10 a_10 f_10 k7_10 k9_10 hl_10 rO_10 rA_10 rB_10 k16_10 ownC_10 rU_10 rV_10
    have k25_11 : Blk (w10.alloc (.cells #[.int .i64 lk.1.why, .int .i64 lk.1.num, .int .i64 lk.1.gross] 24)) w10.heap.size #[.int .i64 lk.1.why, .int .i64 lk.1.num, .int .i64 lk.1.gross] 24 := Blk.new _ _ _
    clear c11
    go_wp2_with fail
    generalize hw11 : w10.alloc (.cells #[.int .i64 lk.1.why, .int .i64 lk.1.num, .int .i64 lk.1.gross] 24) = w11 at *
    clear hw11
    refine (sameSes _ _ _ _ _ rA_11 rU_11).mono ?_
    rintro e w12 ⟨rfl, n12, hw12⟩
    have c12 : Below w11.heap.size w11 w12 := by rw [hw12]; exact below_drawn _ _ _
    clear hw12
    have b_12 := b_11.trans (c12.mono b_11.size)
    have a_12 := a_11.trans (c12.mono a_11.size)
    have f_12 := f_11.trans (c12.mono f_11.size)
    have k7_12 := k7_11.ext c12
    have k9_12 := k9_11.ext c12
    have hl_12 := hl_11.ext c12
    have rO_12 := rO_11.ext c12
    have rA_12 := rA_11.ext c12
    have rB_12 := rB_11.ext c12
    have k16_12 := k16_11.ext c12
    have ownC_12 := ownC_11.ext c12
    have rU_12 := rU_11.ext c12
    have rV_12 := rV_11.ext c12
    have k25_12 := k25_11.ext c12
    clear b_11 a_11 f_11 k7_11 k9_11 hl_11 rO_11 rA_11 rB_11 k16_11 ownC_11 rU_11 rV_11 k25_11
    rw [decide_eq_true rfl]
    clear c12
    clear rA_12 rU_12
    go_wp2_with fail
    refine (sameSes _ _ _ _ _ rB_12 rV_12).mono ?_
    rintro e w13 ⟨rfl, n13, hw13⟩
    have c13 : Below w12.heap.size w12 w13 := by rw [hw13]; exact below_drawn _ _ _
    clear hw13
    have b_13 := b_12.trans (c13.mono b_12.size)
    have a_13 := a_12.trans (c13.mono a_12.size)
    have f_13 := f_12.trans (c13.mono f_12.size)
    have k7_13 := k7_12.ext c13
    have k9_13 := k9_12.ext c13
    have hl_13 := hl_12.ext c13
    have rO_13 := rO_12.ext c13
    have rB_13 := rB_12.ext c13
    have k16_13 := k16_12.ext c13
    have ownC_13 := ownC_12.ext c13
    have rV_13 := rV_12.ext c13
    have k25_13 := k25_12.ext c13
    clear b_12 a_12 f_12 k7_12 k9_12 hl_12 rO_12 rB_12 k16_12 ownC_12 rV_12 k25_12
    rw [decide_eq_true rfl]
    clear c13
    clear rB_13 rV_13
    have hne := neq_rep lk.1 lk.1
    rw [decide_eq_true rfl] at hne
    obtain ⟨x0, x1, x2, _⟩ := rep_cells k16_13
    obtain ⟨y0, y1, y2, _⟩ := rep_cells k25_13
    go_wp2_with fail
    with_reducible refine (sesRight _ l1 _ rO_13).mono ?_
    rintro e w14 ⟨rfl, c14⟩
    have b_14 := b_13.trans (c14.mono b_13.size)
    have a_14 := a_13.trans (c14.mono a_13.size)
    have f_14 := f_13.trans (c14.mono f_13.size)
    have k7_14 := k7_13.ext c14
    have k9_14 := k9_13.ext c14
    have hl_14 := hl_13.ext c14
    have rO_14 := rO_13.ext c14
    have k16_14 := k16_13.ext c14
    have ownC_14 := ownC_13.ext c14
    have k25_14 := k25_13.ext c14
    clear b_13 a_13 f_13 k7_13 k9_13 hl_13 rO_13 k16_13 ownC_13 k25_13
    clear hne x0 x1 x2 y0 y1 y2
    clear c14
    clear k16_14 k25_14 rO_14
    go_wp2_with fail
    with_reducible refine (sesRefRight _ l1 _ hl_14).mono ?_
    rintro e w15 ⟨rfl, n15, hw15⟩
    have c15 : Below w14.heap.size w14 w15 := by rw [hw15]; exact below_drawn _ _ _
    clear hw15
    have b_15 := b_14.trans (c15.mono b_14.size)
    have a_15 := a_14.trans (c15.mono a_14.size)
    have f_15 := f_14.trans (c15.mono f_14.size)
    have k7_15 := k7_14.ext c15
    have k9_15 := k9_14.ext c15
    have hl_15 := hl_14.ext c15
    have ownC_15 := ownC_14.ext c15
    clear b_14 a_14 f_14 k7_14 k9_14 hl_14 ownC_14
    generalize rightS l1 = rgt at *
    generalize resE (joinS l1 id) = eJ at *
    generalize resE (leaveS l1 id) = eL at *
    clear c15
    rcases Hsp.out with ⟨hz, hm, hh⟩ | ⟨hz, hg, hm, hh⟩ | ⟨hz, hg, hm, hh⟩
    · have hzb : (lk.2.2 == 0) = false := by simpa using hz
      have hhb : (hC != lk.2.2) = false := by simpa using hh
      have Hm := Lib.hid hm
      clear hz hm hh
      go_wp2_with fail
      have rW_15 : Rd sesE w15 (.slice none 0 0) mC := by rw [Hm.out]; exact Rd.nil _
      have rC_15 := ownC_15.rd
      refine (sameSes _ _ mC mC _ rC_15 rW_15).mono ?_
      rintro e w16 ⟨rfl, n16, hw16⟩
      have c16 : Below w15.heap.size w15 w16 := by rw [hw16]; exact below_drawn _ _ _
      clear hw16
      have b_16 := b_15.trans (c16.mono b_15.size)
      have a_16 := a_15.trans (c16.mono a_15.size)
      have f_16 := f_15.trans (c16.mono f_15.size)
      have k7_16 := k7_15.ext c16
      have k9_16 := k9_15.ext c16
      have hl_16 := hl_15.ext c16
      have ownC_16 := ownC_15.ext c16
      have rW_16 := rW_15.ext c16
      have rC_16 := rC_15.ext c16
      clear b_15 a_15 f_15 k7_15 k9_15 hl_15 ownC_15 rW_15 rC_15
      rw [decide_eq_true rfl]
      clear c16
      clear rW_16 rC_16
      obtain ⟨pC, cC, rfl⟩ := ownC_16.rd.shape
      go_wp2_with fail
      go_loopw [30] (fun i wr => ∃ (k : Nat) (ys : List Ses), k ≤ mC.length ∧ i = .int .i64 k ∧ OwnR sesE wr w6.heap.size 33 (.slice pC mC.length cC) ys ∧ ys.length = mC.length ∧ Below w6.heap.size w16 wr) (fun i _ => mC.length - (intOf i).toNat)
      case atStart => exact ⟨0, mC, by omega, rfl, ownC_16, rfl, Below.refl _ _⟩
      case round =>
        obtain ⟨k, ys, hk, rfl, ownY, hyl, hbl⟩ := hrel
        by_cases hlt : k < mC.length
        · have hkl : (k : Int) < (mC.length : Int) := by omega
          have Hyl := Lib.hid hyl
          clear hyl
          have n9 := k9_16.below hbl hK9
          obtain ⟨gB, cB, hsh, e1, e2, e3, e4⟩ := ownY.head (by rw [Hyl.out]; omega)
          rw [Hyl.out] at hsh
          simp only [Value.slice.injEq, true_and] at hsh
          obtain ⟨rfl, rfl⟩ := hsh
          rw [Hyl.out] at e3
          unfold maxLen at e4
          have d0 := ownY.cellAt Hyl.out.symm k (by rw [Hyl.out]; exact hlt) 0 (by decide)
          have f0 := ownY.frozenAt Hyl.out.symm (k * 5)
          have m0 := n9.cell 0 _ rfl
          have d1 := ownY.cellAt Hyl.out.symm k (by rw [Hyl.out]; exact hlt) 1 (by decide)
          have f1 := ownY.frozenAt Hyl.out.symm (k * 5 + 1)
          have m1 := n9.cell 1 _ rfl
          have d2 := ownY.cellAt Hyl.out.symm k (by rw [Hyl.out]; exact hlt) 2 (by decide)
          have f2 := ownY.frozenAt Hyl.out.symm (k * 5 + 2)
          have m2 := n9.cell 2 _ rfl
          have d3 := ownY.cellAt Hyl.out.symm k (by rw [Hyl.out]; exact hlt) 3 (by decide)
          have f3 := ownY.frozenAt Hyl.out.symm (k * 5 + 3)
          have m3 := n9.cell 3 _ rfl
          have d4 := ownY.cellAt Hyl.out.symm k (by rw [Hyl.out]; exact hlt) 4 (by decide)
          have f4 := ownY.frozenAt Hyl.out.symm (k * 5 + 4)
          have m4 := n9.cell 4 _ rfl
          obtain ⟨own2, gr2⟩ := ownY.put Hyl.out.symm k (by rw [Hyl.out]; exact hlt) mkS
          generalize ys[k]'_ = old at d0 d1 d2 d3 d4
          simp only [sesE, List.getElem?_cons_zero, List.getElem?_cons_succ, Nat.add_zero] at d0 d1 d2 d3 d4
          have hki0 : (0 : Int) ≤ (k : Int) := by omega
          have hne : ¬ w.heap.size + 1 = gB := by omega
          go_wp2_with fail
          go_roundw
          case rel => exact ⟨k + 1, ys.set k mkS, by omega, by go_num, own2, by rw [List.length_set]; exact Hyl.out, ((((hbl.setCell (p := ⟨gB, _, none⟩) e1 _).setCell (p := ⟨gB, _, none⟩) e1 _).setCell (p := ⟨gB, _, none⟩) e1 _).setCell (p := ⟨gB, _, none⟩) e1 _).setCell (p := ⟨gB, _, none⟩) e1 _⟩
          case measure => simp [intOf]; omega
        · have hkl : ¬ (k : Int) < (mC.length : Int) := by omega
          have b_z := b_16.trans (hbl.mono szB)
          have f_z := f_16.trans (hbl.mono szF)
          have n9 := k9_16.below hbl hK9
          have m0 := n9.cell 0 _ rfl
          have m1 := n9.cell 1 _ rfl
          have m2 := n9.cell 2 _ rfl
          have m3 := n9.cell 3 _ rfl
          have m4 := n9.cell 4 _ rfl
          go_wp2_with fail
          refine (intactSes _ _ (roomyL l1 mkS) l1 mkS _ (HF.out.ext f_z) (HV.out.ext b_z) (by omega)).mono ?_
          rintro e w9 ⟨rfl, c9⟩
          rw [decide_eq_true rfl]
          have b_9 := b_z.trans (c9.mono b_z.size)
          go_wp2_with fail
          with_reducible refine (sessionRuns_walk _).mono ?_
          rintro e w8 ⟨rfl, c8⟩
          go_wp2_with fail
          go_ret
          exact ⟨rfl, b_9.trans (c8.mono b_9.size)⟩
    · have hzb : (lk.2.2 == 0) = true := by simpa using hz
      have hhb : (hC != 12) = false := by simpa using hh
      have Hm := Lib.hid hm
      clear hz hm hh
      go_wp2_with fail
      have rW_15 : Rd sesE w15 (.slice none 0 0) mC := by rw [Hm.out]; exact Rd.nil _
      have rC_15 := ownC_15.rd
      refine (sameSes _ _ mC mC _ rC_15 rW_15).mono ?_
      rintro e w16 ⟨rfl, n16, hw16⟩
      have c16 : Below w15.heap.size w15 w16 := by rw [hw16]; exact below_drawn _ _ _
      clear hw16
      have b_16 := b_15.trans (c16.mono b_15.size)
      have a_16 := a_15.trans (c16.mono a_15.size)
      have f_16 := f_15.trans (c16.mono f_15.size)
      have k7_16 := k7_15.ext c16
      have k9_16 := k9_15.ext c16
      have hl_16 := hl_15.ext c16
      have ownC_16 := ownC_15.ext c16
      have rW_16 := rW_15.ext c16
      have rC_16 := rC_15.ext c16
      clear b_15 a_15 f_15 k7_15 k9_15 hl_15 ownC_15 rW_15 rC_15
      rw [decide_eq_true rfl]
      clear c16
      clear rW_16 rC_16
      obtain ⟨pC, cC, rfl⟩ := ownC_16.rd.shape
      go_wp2_with fail
      go_loopw [30] (fun i wr => ∃ (k : Nat) (ys : List Ses), k ≤ mC.length ∧ i = .int .i64 k ∧ OwnR sesE wr w6.heap.size 33 (.slice pC mC.length cC) ys ∧ ys.length = mC.length ∧ Below w6.heap.size w16 wr) (fun i _ => mC.length - (intOf i).toNat)
      case atStart => exact ⟨0, mC, by omega, rfl, ownC_16, rfl, Below.refl _ _⟩
      case round =>
        obtain ⟨k, ys, hk, rfl, ownY, hyl, hbl⟩ := hrel
        by_cases hlt : k < mC.length
        · have hkl : (k : Int) < (mC.length : Int) := by omega
          have Hyl := Lib.hid hyl
          clear hyl
          have n9 := k9_16.below hbl hK9
          obtain ⟨gB, cB, hsh, e1, e2, e3, e4⟩ := ownY.head (by rw [Hyl.out]; omega)
          rw [Hyl.out] at hsh
          simp only [Value.slice.injEq, true_and] at hsh
          obtain ⟨rfl, rfl⟩ := hsh
          rw [Hyl.out] at e3
          unfold maxLen at e4
          have d0 := ownY.cellAt Hyl.out.symm k (by rw [Hyl.out]; exact hlt) 0 (by decide)
          have f0 := ownY.frozenAt Hyl.out.symm (k * 5)
          have m0 := n9.cell 0 _ rfl
          have d1 := ownY.cellAt Hyl.out.symm k (by rw [Hyl.out]; exact hlt) 1 (by decide)
          have f1 := ownY.frozenAt Hyl.out.symm (k * 5 + 1)
          have m1 := n9.cell 1 _ rfl
          have d2 := ownY.cellAt Hyl.out.symm k (by rw [Hyl.out]; exact hlt) 2 (by decide)
          have f2 := ownY.frozenAt Hyl.out.symm (k * 5 + 2)
          have m2 := n9.cell 2 _ rfl
          have d3 := ownY.cellAt Hyl.out.symm k (by rw [Hyl.out]; exact hlt) 3 (by decide)
          have f3 := ownY.frozenAt Hyl.out.symm (k * 5 + 3)
          have m3 := n9.cell 3 _ rfl
          have d4 := ownY.cellAt Hyl.out.symm k (by rw [Hyl.out]; exact hlt) 4 (by decide)
          have f4 := ownY.frozenAt Hyl.out.symm (k * 5 + 4)
          have m4 := n9.cell 4 _ rfl
          obtain ⟨own2, gr2⟩ := ownY.put Hyl.out.symm k (by rw [Hyl.out]; exact hlt) mkS
          generalize ys[k]'_ = old at d0 d1 d2 d3 d4
          simp only [sesE, List.getElem?_cons_zero, List.getElem?_cons_succ, Nat.add_zero] at d0 d1 d2 d3 d4
          have hki0 : (0 : Int) ≤ (k : Int) := by omega
          have hne : ¬ w.heap.size + 1 = gB := by omega
          go_wp2_with fail
          go_roundw
          case rel => exact ⟨k + 1, ys.set k mkS, by omega, by go_num, own2, by rw [List.length_set]; exact Hyl.out, ((((hbl.setCell (p := ⟨gB, _, none⟩) e1 _).setCell (p := ⟨gB, _, none⟩) e1 _).setCell (p := ⟨gB, _, none⟩) e1 _).setCell (p := ⟨gB, _, none⟩) e1 _).setCell (p := ⟨gB, _, none⟩) e1 _⟩
          case measure => simp [intOf]; omega
        · have hkl : ¬ (k : Int) < (mC.length : Int) := by omega
          have b_z := b_16.trans (hbl.mono szB)
          have f_z := f_16.trans (hbl.mono szF)
          have n9 := k9_16.below hbl hK9
          have m0 := n9.cell 0 _ rfl
          have m1 := n9.cell 1 _ rfl
          have m2 := n9.cell 2 _ rfl
          have m3 := n9.cell 3 _ rfl
          have m4 := n9.cell 4 _ rfl
          go_wp2_with fail
          refine (intactSes _ _ (roomyL l1 mkS) l1 mkS _ (HF.out.ext f_z) (HV.out.ext b_z) (by omega)).mono ?_
          rintro e w9 ⟨rfl, c9⟩
          rw [decide_eq_true rfl]
          have b_9 := b_z.trans (c9.mono b_z.size)
          go_wp2_with fail
          with_reducible refine (sessionRuns_walk _).mono ?_
          rintro e w8 ⟨rfl, c8⟩
          go_wp2_with fail
          go_ret
          exact ⟨rfl, b_9.trans (c8.mono b_9.size)⟩
    · have hzb : (lk.2.2 == 0) = true := by simpa using hz
      have hhb : (hC != lk.2.2) = false := by simpa using hh
      have Hm := Lib.hid hm
      clear hz hm hh
      obtain ⟨x0, x1, x2, _⟩ := rep_cells k7_15
      go_wp2_with fail
      with_reducible refine (sesRefKeep _ l1 id seq r _ hl_15 (by omega)).mono ?_
      rintro e w16 ⟨⟨vW, rfl, ownW⟩, c16⟩
      have b_16 := b_15.trans (c16.mono b_15.size)
      have a_16 := a_15.trans (c16.mono a_15.size)
      have f_16 := f_15.trans (c16.mono f_15.size)
      have k7_16 := k7_15.ext c16
      have k9_16 := k9_15.ext c16
      have hl_16 := hl_15.ext c16
      have ownC_16 := ownC_15.ext c16
      clear b_15 a_15 f_15 k7_15 k9_15 hl_15 ownC_15
      have rW_16 := ownW.rd
      rw [← Hm.out] at rW_16
      clear ownW x0 x1 x2
      clear c16
      obtain ⟨pW, cW, rfl⟩ := rW_16.shape
      go_wp2_with fail
      have rC_16 := ownC_16.rd
      refine (sameSes _ _ mC mC _ rC_16 rW_16).mono ?_
      rintro e w17 ⟨rfl, n17, hw17⟩
      have c17 : Below w16.heap.size w16 w17 := by rw [hw17]; exact below_drawn _ _ _
      clear hw17
      have b_17 := b_16.trans (c17.mono b_16.size)
      have a_17 := a_16.trans (c17.mono a_16.size)
      have f_17 := f_16.trans (c17.mono f_16.size)
      have k7_17 := k7_16.ext c17
      have k9_17 := k9_16.ext c17
      have hl_17 := hl_16.ext c17
      have ownC_17 := ownC_16.ext c17
      have rW_17 := rW_16.ext c17
      have rC_17 := rC_16.ext c17
      clear b_16 a_16 f_16 k7_16 k9_16 hl_16 ownC_16 rW_16 rC_16
      rw [decide_eq_true rfl]
      clear c17
      clear rW_17 rC_17
      obtain ⟨pC, cC, rfl⟩ := ownC_17.rd.shape
      go_wp2_with fail
      go_loopw [30] (fun i wr => ∃ (k : Nat) (ys : List Ses), k ≤ mC.length ∧ i = .int .i64 k ∧ OwnR sesE wr w6.heap.size 33 (.slice pC mC.length cC) ys ∧ ys.length = mC.length ∧ Below w6.heap.size w17 wr) (fun i _ => mC.length - (intOf i).toNat)
      case atStart => exact ⟨0, mC, by omega, rfl, ownC_17, rfl, Below.refl _ _⟩
      case round =>
        obtain ⟨k, ys, hk, rfl, ownY, hyl, hbl⟩ := hrel
        by_cases hlt : k < mC.length
        · have hkl : (k : Int) < (mC.length : Int) := by omega
          have Hyl := Lib.hid hyl
          clear hyl
          have n9 := k9_17.below hbl hK9
          obtain ⟨gB, cB, hsh, e1, e2, e3, e4⟩ := ownY.head (by rw [Hyl.out]; omega)
          rw [Hyl.out] at hsh
          simp only [Value.slice.injEq, true_and] at hsh
          obtain ⟨rfl, rfl⟩ := hsh
          rw [Hyl.out] at e3
          unfold maxLen at e4
          have d0 := ownY.cellAt Hyl.out.symm k (by rw [Hyl.out]; exact hlt) 0 (by decide)
          have f0 := ownY.frozenAt Hyl.out.symm (k * 5)
          have m0 := n9.cell 0 _ rfl
          have d1 := ownY.cellAt Hyl.out.symm k (by rw [Hyl.out]; exact hlt) 1 (by decide)
          have f1 := ownY.frozenAt Hyl.out.symm (k * 5 + 1)
          have m1 := n9.cell 1 _ rfl
          have d2 := ownY.cellAt Hyl.out.symm k (by rw [Hyl.out]; exact hlt) 2 (by decide)
          have f2 := ownY.frozenAt Hyl.out.symm (k * 5 + 2)
          have m2 := n9.cell 2 _ rfl
          have d3 := ownY.cellAt Hyl.out.symm k (by rw [Hyl.out]; exact hlt) 3 (by decide)
          have f3 := ownY.frozenAt Hyl.out.symm (k * 5 + 3)
          have m3 := n9.cell 3 _ rfl
          have d4 := ownY.cellAt Hyl.out.symm k (by rw [Hyl.out]; exact hlt) 4 (by decide)
          have f4 := ownY.frozenAt Hyl.out.symm (k * 5 + 4)
          have m4 := n9.cell 4 _ rfl
          obtain ⟨own2, gr2⟩ := ownY.put Hyl.out.symm k (by rw [Hyl.out]; exact hlt) mkS
          generalize ys[k]'_ = old at d0 d1 d2 d3 d4
          simp only [sesE, List.getElem?_cons_zero, List.getElem?_cons_succ, Nat.add_zero] at d0 d1 d2 d3 d4
          have hki0 : (0 : Int) ≤ (k : Int) := by omega
          have hne : ¬ w.heap.size + 1 = gB := by omega
          go_wp2_with fail
          go_roundw
          case rel => exact ⟨k + 1, ys.set k mkS, by omega, by go_num, own2, by rw [List.length_set]; exact Hyl.out, ((((hbl.setCell (p := ⟨gB, _, none⟩) e1 _).setCell (p := ⟨gB, _, none⟩) e1 _).setCell (p := ⟨gB, _, none⟩) e1 _).setCell (p := ⟨gB, _, none⟩) e1 _).setCell (p := ⟨gB, _, none⟩) e1 _⟩
          case measure => simp [intOf]; omega
        · have hkl : ¬ (k : Int) < (mC.length : Int) := by omega
          have b_z := b_17.trans (hbl.mono szB)
          have f_z := f_17.trans (hbl.mono szF)
          have n9 := k9_17.below hbl hK9
          have m0 := n9.cell 0 _ rfl
          have m1 := n9.cell 1 _ rfl
          have m2 := n9.cell 2 _ rfl
          have m3 := n9.cell 3 _ rfl
          have m4 := n9.cell 4 _ rfl
          go_wp2_with fail
          refine (intactSes _ _ (roomyL l1 mkS) l1 mkS _ (HF.out.ext f_z) (HV.out.ext b_z) (by omega)).mono ?_
          rintro e w9 ⟨rfl, c9⟩
          rw [decide_eq_true rfl]
          have b_9 := b_z.trans (c9.mono b_z.size)
          go_wp2_with fail
          with_reducible refine (sessionRuns_walk _).mono ?_
          rintro e w8 ⟨rfl, c8⟩
          go_wp2_with fail
          go_ret
          exact ⟨rfl, b_9.trans (c8.mono b_9.size)⟩
end Go.Proofs.Ytmchkhofcjgeaaa
