/- The walk of InvoiceBack. -/
import Derived.Test.YtpobhlnlnplbdaaInvRuns
import Derived.Test.YtpobhlnlnplbdaaInvF
import Derived.Test.YtpobhlnlnplbdaaBookPart
namespace Go.Proofs.Ytpobhlnlnplbdaa
open Go Go.RowKit
@[reducible] def mkP4 : Part := ⟨⟨#[]⟩, 4, 0, 0⟩
theorem neg2 (n : Int) : 0 - (0 - n) = n := by omega
theorem negP_negP (p : Part) : negP (negP p) = p := by cases p; simp [negP, neg2]
theorem back_ok {t u : Tot} (h : backV t = .ok u) : u = ⟨0 - t.net, 0 - t.tax, 0 - t.gross, t.parts.map negP⟩ ∧ Mon.fits (0 - t.net) ∧ Mon.fits (0 - t.tax) ∧ Mon.fits (0 - t.gross) ∧ ∀ p ∈ t.parts, Mon.fits (0 - p.net) ∧ Mon.fits (0 - p.tax) := by
  unfold backV at h
  split at h
  · rename_i hc
    cases h
    simp only [Bool.and_eq_true, decide_eq_true_eq, List.all_eq_true, okP] at hc
    exact ⟨rfl, hc.1, hc.2.1, hc.2.2.1, hc.2.2.2⟩
  · cases h
/-- taken back twice it is what it was -/
theorem back_back {t u : Tot} (hf : Mon.fits t.net ∧ Mon.fits t.tax ∧ Mon.fits t.gross) (hp : ∀ p ∈ t.parts, Mon.fits p.net ∧ Mon.fits p.tax) (h : backV t = .ok u) : backV u = .ok t := by
  obtain ⟨rfl, _⟩ := back_ok h
  unfold backV
  have hc : (t.parts.map negP).all okP = true := by
    rw [List.all_eq_true]
    intro q hq
    obtain ⟨p, hm, rfl⟩ := List.mem_map.1 hq
    simp only [okP, negP, neg2, Bool.and_eq_true, decide_eq_true_eq]
    exact hp p hm
  simp only [neg2, decide_eq_true hf.1, decide_eq_true hf.2.1, decide_eq_true hf.2.2, hc, Bool.and_self, if_true, List.map_map]
  rw [show (negP ∘ negP) = id from funext negP_negP, List.map_id]
theorem back_fits {t u : Tot} (h : backV t = .ok u) : (Mon.fits u.net ∧ Mon.fits u.tax ∧ Mon.fits u.gross) ∧ (∀ p ∈ u.parts, Mon.fits p.net ∧ Mon.fits p.tax) ∧ u.parts.length = t.parts.length := by
  obtain ⟨rfl, h1, h2, h3, h4⟩ := back_ok h
  refine ⟨⟨h1, h2, h3⟩, fun p hp => ?_, by simp⟩
  obtain ⟨q, hq, rfl⟩ := List.mem_map.1 hp
  exact h4 q hq
theorem back_no {t : Tot} {n : Int} (h : backV t = .error n) : n = 7 := by
  unfold backV at h; split at h
  · cases h
  · cases h; rfl
theorem backSame (u t : Tot) (v x : Value) (w : World) (e : u = t) (hv : Rd partE w v u.parts) (hx : Rd partE w x t.parts) :
    Calls Try.prog 37 #[.agg #[.int .i64 u.net, .int .i64 u.tax, .int .i64 u.gross, v], .agg #[.int .i64 t.net, .int .i64 t.tax, .int .i64 t.gross, x]] w fun e w' => e = .returned (.bool true) ∧ Below w.heap.size w w' :=
  (keepTotals u t v x w hv hx).mono (by rintro e' w' ⟨rfl, h⟩; exact ⟨by rw [decide_eq_true e], h⟩)
set_option maxHeartbeats 8000000 in
set_option maxRecDepth 100000 in
theorem invoiceBack_walk (t0 : Tot) (v : Value) (w : World) (hv0 : Rd partE w v t0.parts) (hf0 : Mon.fits t0.net ∧ Mon.fits t0.tax ∧ Mon.fits t0.gross) (hfp0 : ∀ p ∈ t0.parts, Mon.fits p.net ∧ Mon.fits p.tax) :
    Calls Try.prog 14 #[.agg #[.int .i64 t0.net, .int .i64 t0.tax, .int .i64 t0.gross, v]] w fun e w' => e = .returned (.bool true) ∧ Below w.heap.size w w' := by
  obtain ⟨w0, hw0⟩ : ∃ w0, w0 = w := ⟨_, rfl⟩
  rw [← hw0] at hv0 ⊢
  clear hw0
  obtain ⟨net, tax, gross, ps0⟩ := t0
  simp only [] at hv0 hf0 hfp0
  obtain ⟨p0, cap0, rfl⟩ := hv0.shape
  have hb1 := below_alloc w0 (.cells #[.int .i64 net, .int .i64 tax, .int .i64 gross, .slice p0 ps0.length cap0] 56)
  have kt := Blk.new w0 #[.int .i64 net, .int .i64 tax, .int .i64 gross, .slice p0 ps0.length cap0] 56
  have hv1 := hv0.ext hb1
  have f0 := kt.frozen 3
  have c0 := kt.cell 0 _ rfl
  have c1 := kt.cell 1 _ rfl
  have c2 := kt.cell 2 _ rfl
  have c3 := kt.cell 3 _ rfl
  have hfp1 : ∀ p ∈ ps0.take 30, Mon.fits p.net ∧ Mon.fits p.tax := fun p hp => hfp0 p (List.mem_of_mem_take hp)
  have hlen : (ps0.take 30).length ≤ 30 := by simp; omega
  by_cases h30 : 30 < ps0.length
  ·
    have hs := run_sub_to tPart (P := Try.prog) hv1 .i64 30 30 rfl (by omega)
    have hr := hv1.sub 0 30 (by omega) (by omega)
    have hr0 := hv0.sub 0 30 (by omega) (by omega)
    have hi : (30 : Int) < (ps0.length : Int) := by omega
    rw [show (ps0.drop 0).take (30 - 0) = ps0.take 30 from by simp, show partE.sz = 4 from rfl] at hr hr0
    generalize subV (.slice p0 ps0.length cap0) 0 30 4 = vs at *
    obtain ⟨p1, k1, rfl⟩ := hr.shape
    generalize ps0.take 30 = ps at *
    have kt_1 : Blk (w0.alloc (.cells #[.int .i64 net, .int .i64 tax, .int .i64 gross, .slice p1 ps.length k1] 56)) w0.heap.size #[.int .i64 net, .int .i64 tax, .int .i64 gross, .slice p1 ps.length k1] 56 := Blk.new _ _ _
    have b_1 : Below w0.heap.size w0 (w0.alloc (.cells #[.int .i64 net, .int .i64 tax, .int .i64 gross, .slice p1 ps.length k1] 56)) := below_alloc _ _
    have hv_1 : Rd partE (w0.alloc (.cells #[.int .i64 net, .int .i64 tax, .int .i64 gross, .slice p1 ps.length k1] 56)) (.slice p1 ps.length k1) ps := hr0.ext b_1
    go_enter Try.func14, Try.ntmps14
    go_upto_region 3 with (fail)
    clear hs hi c0 c1 c2 c3 f0 kt hv0 hv1 hr hr0 hb1 h30
    generalize hw1 : w0.alloc (.cells #[.int .i64 net, .int .i64 tax, .int .i64 gross, .slice p1 ps.length k1] 56) = w1 at *
    clear hw1
    obtain ⟨t, ht⟩ : ∃ t : Tot, t = ⟨net, tax, gross, ps⟩ := ⟨_, rfl⟩
    have q1 : net = t.net := by rw [ht]
    have q2 : tax = t.tax := by rw [ht]
    have q3 : gross = t.gross := by rw [ht]
    have q4 : ps = t.parts := by rw [ht]
    clear ht
    subst q1 q2 q3 q4
    have Hfp := Lib.hid hfp1
    clear hfp1 hfp0
    obtain ⟨z, hz⟩ : ∃ z, backV t = z := ⟨_, rfl⟩
    have Hz := Lib.hid hz
    clear hz
    have c0 := kt_1.cell 0 _ rfl
    have c1 := kt_1.cell 1 _ rfl
    have c2 := kt_1.cell 2 _ rfl
    have c3 := kt_1.cell 3 _ rfl
    go_wp2_with fail
    clear c0 c1 c2 c3
    refine (roomyPart _ t.parts mkP4 _ hv_1 (by omega)).mono ?_
    rintro e w2 ⟨gF, rfl, ownF, c2⟩
    have b_2 := b_1.trans (c2.mono b_1.size)
    have kt_2 := kt_1.ext c2
    have hv_2 := hv_1.ext c2
    clear b_1 kt_1 hv_1
    clear c2
    have hF_2 := ownF.rd
    have sF := run_sub_to tPart (P := Try.prog) hF_2 .i64 (t.parts.length : Int) t.parts.length rfl (by rw [roomyL_length]; omega)
    have rO := hF_2.sub 0 t.parts.length (Nat.zero_le _) (by rw [roomyL_length]; omega)
    rw [show ((roomyL t.parts mkP4).drop 0).take (t.parts.length - 0) = t.parts from by simp [roomyL], show partE.sz = 4 from rfl] at rO
    generalize subV (.slice (some ⟨gF, 0, none⟩) (t.parts.length + 80) (t.parts.length + 80)) 0 t.parts.length 4 = vF at *
    clear ownF
    obtain ⟨pF, cF, rfl⟩ := rO.shape
    have hO_2 := rO
    clear rO
    have kn := Blk.new w2 #[.int .i64 t.net, .int .i64 t.tax, .int .i64 t.gross, (.slice p1 t.parts.length k1)] 56
    have fn := kn.frozen 3
    have en := kn.cell 3 _ rfl
    have c0 := kt_2.cell 0 _ rfl
    have c1 := kt_2.cell 1 _ rfl
    have c2 := kt_2.cell 2 _ rfl
    have c3 := kt_2.cell 3 _ rfl
    have hi0 : (0 : Int) ≤ (t.parts.length : Int) := by omega
    have hi1 : (t.parts.length : Int) ≤ ((t.parts.length + 80 : Nat) : Int) := by omega
    have ka := kt_2.ext (below_alloc w2 (.cells #[.int .i64 t.net, .int .i64 t.tax, .int .i64 t.gross, (.slice p1 t.parts.length k1)] 56))
    have m0 := ka.cell 0 _ rfl
    have m1 := ka.cell 1 _ rfl
    have m2 := ka.cell 2 _ rfl
    have m3 := ka.cell 3 _ rfl
    go_upto_region 6 with (fail)
    clear c0 c1 c2 c3
    clear m0 m1 m2 m3
    clear ka sF
    have c3 : Below w2.heap.size w2 (w2.alloc (.cells #[.int .i64 t.net, .int .i64 t.tax, .int .i64 t.gross, .slice pF t.parts.length cF] 56)) := below_alloc _ _
    have k4_3 : Blk (w2.alloc (.cells #[.int .i64 t.net, .int .i64 t.tax, .int .i64 t.gross, .slice pF t.parts.length cF] 56)) w2.heap.size #[.int .i64 t.net, .int .i64 t.tax, .int .i64 t.gross, .slice pF t.parts.length cF] 56 := Blk.new _ _ _
    have b_3 := b_2.trans (c3.mono b_2.size)
    have kt_3 := kt_2.ext c3
    have hv_3 := hv_2.ext c3
    have hF_3 := hF_2.ext c3
    have hO_3 := hO_2.ext c3
    clear b_2 kt_2 hv_2 hF_2 hO_2
    clear c3 kn fn en
    generalize hw3 : w2.alloc (.cells #[.int .i64 t.net, .int .i64 t.tax, .int .i64 t.gross, .slice pF t.parts.length cF] 56) = w3 at *
    clear hw3
    have c0 := k4_3.cell 0 _ rfl
    have c1 := k4_3.cell 1 _ rfl
    have c2 := k4_3.cell 2 _ rfl
    have c3 := k4_3.cell 3 _ rfl
    go_wp2_with fail
    clear c0 c1 c2 c3
    with_reducible refine (invBack t _ _ hO_3 hf0 Hfp.out (by omega)).mono ?_
    rintro e w4 ⟨hT, c4⟩
    rw [Hz.out] at hT
    obtain ⟨va, rfl, ownva⟩ := hT.uni
    clear hT
    have rA_4 := ownva.rd
    clear ownva
    obtain ⟨pva, cva, rfl⟩ := rA_4.shape
    have b_4 := b_3.trans (c4.mono b_3.size)
    have kt_4 := kt_3.ext c4
    have hv_4 := hv_3.ext c4
    have hF_4 := hF_3.ext c4
    have hO_4 := hO_3.ext c4
    have k4_4 := k4_3.ext c4
    clear b_3 kt_3 hv_3 hF_3 hO_3 k4_3
    clear c4
    have c5 : Below w4.heap.size w4 (w4.alloc (.cells #[.int .i64 (resT z).net, .int .i64 (resT z).tax, .int .i64 (resT z).gross, (.slice pva (resT z).parts.length cva)] 56)) := below_alloc _ _
    have k5_5 := Blk.new w4 #[.int .i64 (resT z).net, .int .i64 (resT z).tax, .int .i64 (resT z).gross, (.slice pva (resT z).parts.length cva)] 56
    have b_5 := b_4.trans (c5.mono b_4.size)
    have kt_5 := kt_4.ext c5
    have hv_5 := hv_4.ext c5
    have hF_5 := hF_4.ext c5
    have hO_5 := hO_4.ext c5
    have k4_5 := k4_4.ext c5
    have rA_5 := rA_4.ext c5
    clear b_4 kt_4 hv_4 hF_4 hO_4 k4_4 rA_4
    clear c5
    go_upto_region 7 with (fail)
    generalize hw5 : w4.alloc (.cells #[.int .i64 (resT z).net, .int .i64 (resT z).tax, .int .i64 (resT z).gross, (.slice pva (resT z).parts.length cva)] 56) = w5 at *
    clear hw5
    have c0 := kt_5.cell 0 _ rfl
    have c1 := kt_5.cell 1 _ rfl
    have c2 := kt_5.cell 2 _ rfl
    have c3 := kt_5.cell 3 _ rfl
    go_wp2_with fail
    clear c0 c1 c2 c3
    with_reducible refine (refBack t _ _ hv_5 hf0 Hfp.out (by omega)).mono ?_
    rintro e w6 ⟨hT, c6⟩
    rw [Hz.out] at hT
    obtain ⟨vu, rfl, ownvu⟩ := hT.uni
    clear hT
    have rU_6 := ownvu.rd
    clear ownvu
    obtain ⟨pvu, cvu, rfl⟩ := rU_6.shape
    have b_6 := b_5.trans (c6.mono b_5.size)
    have kt_6 := kt_5.ext c6
    have hv_6 := hv_5.ext c6
    have hF_6 := hF_5.ext c6
    have hO_6 := hO_5.ext c6
    have k4_6 := k4_5.ext c6
    have rA_6 := rA_5.ext c6
    have k5_6 := k5_5.ext c6
    clear b_5 kt_5 hv_5 hF_5 hO_5 k4_5 rA_5 k5_5
    clear c6
    have c7 : Below w6.heap.size w6 (w6.alloc (.cells #[.int .i64 (resT z).net, .int .i64 (resT z).tax, .int .i64 (resT z).gross, (.slice pvu (resT z).parts.length cvu)] 56)) := below_alloc _ _
    have k7_7 := Blk.new w6 #[.int .i64 (resT z).net, .int .i64 (resT z).tax, .int .i64 (resT z).gross, (.slice pvu (resT z).parts.length cvu)] 56
    have b_7 := b_6.trans (c7.mono b_6.size)
    have kt_7 := kt_6.ext c7
    have hv_7 := hv_6.ext c7
    have hF_7 := hF_6.ext c7
    have hO_7 := hO_6.ext c7
    have k4_7 := k4_6.ext c7
    have rA_7 := rA_6.ext c7
    have k5_7 := k5_6.ext c7
    have rU_7 := rU_6.ext c7
    clear b_6 kt_6 hv_6 hF_6 hO_6 k4_6 rA_6 k5_6 rU_6
    clear c7
    go_upto_region 8 with (fail)
    generalize hw7 : w6.alloc (.cells #[.int .i64 (resT z).net, .int .i64 (resT z).tax, .int .i64 (resT z).gross, (.slice pvu (resT z).parts.length cvu)] 56) = w7 at *
    clear hw7
    have c0 := k5_7.cell 0 _ rfl
    have c1 := k5_7.cell 1 _ rfl
    have c2 := k5_7.cell 2 _ rfl
    have c3 := k5_7.cell 3 _ rfl
    have d0 := k7_7.cell 0 _ rfl
    have d1 := k7_7.cell 1 _ rfl
    have d2 := k7_7.cell 2 _ rfl
    have d3 := k7_7.cell 3 _ rfl
    have m0 := kt_7.cell 0 _ rfl
    have m1 := kt_7.cell 1 _ rfl
    have m2 := kt_7.cell 2 _ rfl
    have m3 := kt_7.cell 3 _ rfl
    go_wp2_with fail
    clear c0 c1 c2 c3
    clear d0 d1 d2 d3
    clear m0 m1 m2 m3
    with_reducible refine (backSame _ _ _ _ _ rfl rA_7 rU_7).mono ?_
    rintro e w8 ⟨rfl, c8⟩
    have b_8 := b_7.trans (c8.mono b_7.size)
    have kt_8 := kt_7.ext c8
    have hv_8 := hv_7.ext c8
    have hF_8 := hF_7.ext c8
    have hO_8 := hO_7.ext c8
    have k4_8 := k4_7.ext c8
    have rA_8 := rA_7.ext c8
    have k5_8 := k5_7.ext c8
    have rU_8 := rU_7.ext c8
    have k7_8 := k7_7.ext c8
    clear b_7 kt_7 hv_7 hF_7 hO_7 k4_7 rA_7 k5_7 rU_7 k7_7
    clear c8
    have m0 := kt_8.cell 0 _ rfl
    have m1 := kt_8.cell 1 _ rfl
    have m2 := kt_8.cell 2 _ rfl
    have m3 := kt_8.cell 3 _ rfl
    have hee : (errT z != errT z) = false := by simp
    go_wp2_with fail
    clear m0 m1 m2 m3
    refine (intactPart _ _ (roomyL t.parts mkP4) t.parts mkP4 _ hF_8 hv_8 (by omega)).mono ?_
    rintro e w9 ⟨rfl, c9⟩
    rw [decide_eq_true rfl]
    have b_9 := b_8.trans (c9.mono b_8.size)
    have kt_9 := kt_8.ext c9
    have hv_9 := hv_8.ext c9
    have hF_9 := hF_8.ext c9
    have hO_9 := hO_8.ext c9
    have k4_9 := k4_8.ext c9
    have rA_9 := rA_8.ext c9
    have k5_9 := k5_8.ext c9
    have rU_9 := rU_8.ext c9
    have k7_9 := k7_8.ext c9
    clear b_8 kt_8 hv_8 hF_8 hO_8 k4_8 rA_8 k5_8 rU_8 k7_8
    clear c9
    clear hee hF_9 hO_9 rU_9 k4_9 k7_9
    cases z with
    | error n =>
      obtain rfl := back_no Hz.out
      simp only [resT, errT] at *
      go_wp2_with fail
      with_reducible refine (invoiceRuns_walk _).mono ?_
      rintro e w9 ⟨rfl, c9⟩
      have b9 := b_9.trans (c9.mono b_9.size)
      go_wp2_with fail
      go_ret
      exact ⟨rfl, b9⟩
    | ok u =>
      obtain ⟨u1, u2, u3⟩ := back_fits Hz.out
      have Hu2 := Lib.hid u2
      have Hu3 := Lib.hid u3
      clear u3
      have Hbb := Lib.hid (back_back hf0 Hfp.out Hz.out)
      clear u2
      simp only [resT, errT] at *
      have c0 := k5_9.cell 0 _ rfl
      have c1 := k5_9.cell 1 _ rfl
      have c2 := k5_9.cell 2 _ rfl
      have c3 := k5_9.cell 3 _ rfl
      go_wp2_with fail
      clear c0 c1 c2 c3
      with_reducible refine (invBack u _ _ rA_9 u1 Hu2.out (by rw [Hu3.out]; omega)).mono ?_
      rintro e w10 ⟨hT, c10⟩
      rw [Hbb.out] at hT
      obtain ⟨vb, rfl, ownB⟩ := hT
      have rB_10 := ownB.rd
      clear ownB
      obtain ⟨pb, cb, rfl⟩ := rB_10.shape
      have b_10 := b_9.trans (c10.mono b_9.size)
      have kt_10 := kt_9.ext c10
      have hv_10 := hv_9.ext c10
      have rA_10 := rA_9.ext c10
      have k5_10 := k5_9.ext c10
      clear b_9 kt_9 hv_9 rA_9 k5_9
      clear c10
      have c11 : Below w10.heap.size w10 (w10.alloc (.cells #[.int .i64 t.net, .int .i64 t.tax, .int .i64 t.gross, (.slice pb t.parts.length cb)] 56)) := below_alloc _ _
      have k9_11 := Blk.new w10 #[.int .i64 t.net, .int .i64 t.tax, .int .i64 t.gross, (.slice pb t.parts.length cb)] 56
      have b_11 := b_10.trans (c11.mono b_10.size)
      have kt_11 := kt_10.ext c11
      have hv_11 := hv_10.ext c11
      have rA_11 := rA_10.ext c11
      have k5_11 := k5_10.ext c11
      have rB_11 := rB_10.ext c11
      clear b_10 kt_10 hv_10 rA_10 k5_10 rB_10
      clear c11
      have c0 := k9_11.cell 0 _ rfl
      have c1 := k9_11.cell 1 _ rfl
      have c2 := k9_11.cell 2 _ rfl
      have c3 := k9_11.cell 3 _ rfl
      have m0 := kt_11.cell 0 _ rfl
      have m1 := kt_11.cell 1 _ rfl
      have m2 := kt_11.cell 2 _ rfl
      have m3 := kt_11.cell 3 _ rfl
      go_wp2_with fail
      clear c0 c1 c2 c3
      clear m0 m1 m2 m3
      with_reducible refine (backSame _ _ _ _ _ rfl rB_11 hv_11).mono ?_
      rintro e w19 ⟨rfl, c19⟩
      have b19 := b_11.trans (c19.mono b_11.size)
      go_wp2_with fail
      with_reducible refine (invoiceRuns_walk _).mono ?_
      rintro e w20 ⟨rfl, c20⟩
      have b20 := b19.trans (c20.mono b19.size)
      go_wp2_with fail
      go_ret
      exact ⟨rfl, b20⟩
  ·
    have hi : ¬ (30 : Int) < (ps0.length : Int) := by omega
    rw [List.take_of_length_le (show ps0.length ≤ 30 by omega)] at hfp1 hlen
    clear hfp0
    have hfp0 := True.intro
    go_enter Try.func14, Try.ntmps14
    go_upto_region 3 with (fail)
    clear hi c0 c1 c2 c3 f0 hv0 h30
    have kt_1 := kt
    have b_1 := hb1
    have hv_1 := hv1
    clear kt hb1 hv1
    generalize hw1 : w0.alloc (.cells #[.int .i64 net, .int .i64 tax, .int .i64 gross, .slice p0 ps0.length cap0] 56) = w1 at *
    clear hw1
    generalize hps : ps0 = ps at *
    clear hps
    generalize hpp : p0 = p1 at *
    clear hpp
    generalize hkk : cap0 = k1 at *
    clear hkk
    obtain ⟨t, ht⟩ : ∃ t : Tot, t = ⟨net, tax, gross, ps⟩ := ⟨_, rfl⟩
    have q1 : net = t.net := by rw [ht]
    have q2 : tax = t.tax := by rw [ht]
    have q3 : gross = t.gross := by rw [ht]
    have q4 : ps = t.parts := by rw [ht]
    clear ht
    subst q1 q2 q3 q4
    have Hfp := Lib.hid hfp1
    clear hfp1 hfp0
    obtain ⟨z, hz⟩ : ∃ z, backV t = z := ⟨_, rfl⟩
    have Hz := Lib.hid hz
    clear hz
    have c0 := kt_1.cell 0 _ rfl
    have c1 := kt_1.cell 1 _ rfl
    have c2 := kt_1.cell 2 _ rfl
    have c3 := kt_1.cell 3 _ rfl
    go_wp2_with fail
    clear c0 c1 c2 c3
    refine (roomyPart _ t.parts mkP4 _ hv_1 (by omega)).mono ?_
    rintro e w2 ⟨gF, rfl, ownF, c2⟩
    have b_2 := b_1.trans (c2.mono b_1.size)
    have kt_2 := kt_1.ext c2
    have hv_2 := hv_1.ext c2
    clear b_1 kt_1 hv_1
    clear c2
    have hF_2 := ownF.rd
    have sF := run_sub_to tPart (P := Try.prog) hF_2 .i64 (t.parts.length : Int) t.parts.length rfl (by rw [roomyL_length]; omega)
    have rO := hF_2.sub 0 t.parts.length (Nat.zero_le _) (by rw [roomyL_length]; omega)
    rw [show ((roomyL t.parts mkP4).drop 0).take (t.parts.length - 0) = t.parts from by simp [roomyL], show partE.sz = 4 from rfl] at rO
    generalize subV (.slice (some ⟨gF, 0, none⟩) (t.parts.length + 80) (t.parts.length + 80)) 0 t.parts.length 4 = vF at *
    clear ownF
    obtain ⟨pF, cF, rfl⟩ := rO.shape
    have hO_2 := rO
    clear rO
    have kn := Blk.new w2 #[.int .i64 t.net, .int .i64 t.tax, .int .i64 t.gross, (.slice p1 t.parts.length k1)] 56
    have fn := kn.frozen 3
    have en := kn.cell 3 _ rfl
    have c0 := kt_2.cell 0 _ rfl
    have c1 := kt_2.cell 1 _ rfl
    have c2 := kt_2.cell 2 _ rfl
    have c3 := kt_2.cell 3 _ rfl
    have hi0 : (0 : Int) ≤ (t.parts.length : Int) := by omega
    have hi1 : (t.parts.length : Int) ≤ ((t.parts.length + 80 : Nat) : Int) := by omega
    have ka := kt_2.ext (below_alloc w2 (.cells #[.int .i64 t.net, .int .i64 t.tax, .int .i64 t.gross, (.slice p1 t.parts.length k1)] 56))
    have m0 := ka.cell 0 _ rfl
    have m1 := ka.cell 1 _ rfl
    have m2 := ka.cell 2 _ rfl
    have m3 := ka.cell 3 _ rfl
    go_upto_region 6 with (fail)
    clear c0 c1 c2 c3
    clear m0 m1 m2 m3
    clear ka sF
    have c3 : Below w2.heap.size w2 (w2.alloc (.cells #[.int .i64 t.net, .int .i64 t.tax, .int .i64 t.gross, .slice pF t.parts.length cF] 56)) := below_alloc _ _
    have k4_3 : Blk (w2.alloc (.cells #[.int .i64 t.net, .int .i64 t.tax, .int .i64 t.gross, .slice pF t.parts.length cF] 56)) w2.heap.size #[.int .i64 t.net, .int .i64 t.tax, .int .i64 t.gross, .slice pF t.parts.length cF] 56 := Blk.new _ _ _
    have b_3 := b_2.trans (c3.mono b_2.size)
    have kt_3 := kt_2.ext c3
    have hv_3 := hv_2.ext c3
    have hF_3 := hF_2.ext c3
    have hO_3 := hO_2.ext c3
    clear b_2 kt_2 hv_2 hF_2 hO_2
    clear c3 kn fn en
    generalize hw3 : w2.alloc (.cells #[.int .i64 t.net, .int .i64 t.tax, .int .i64 t.gross, .slice pF t.parts.length cF] 56) = w3 at *
    clear hw3
    have c0 := k4_3.cell 0 _ rfl
    have c1 := k4_3.cell 1 _ rfl
    have c2 := k4_3.cell 2 _ rfl
    have c3 := k4_3.cell 3 _ rfl
    go_wp2_with fail
    clear c0 c1 c2 c3
    with_reducible refine (invBack t _ _ hO_3 hf0 Hfp.out (by omega)).mono ?_
    rintro e w4 ⟨hT, c4⟩
    rw [Hz.out] at hT
    obtain ⟨va, rfl, ownva⟩ := hT.uni
    clear hT
    have rA_4 := ownva.rd
    clear ownva
    obtain ⟨pva, cva, rfl⟩ := rA_4.shape
    have b_4 := b_3.trans (c4.mono b_3.size)
    have kt_4 := kt_3.ext c4
    have hv_4 := hv_3.ext c4
    have hF_4 := hF_3.ext c4
    have hO_4 := hO_3.ext c4
    have k4_4 := k4_3.ext c4
    clear b_3 kt_3 hv_3 hF_3 hO_3 k4_3
    clear c4
    have c5 : Below w4.heap.size w4 (w4.alloc (.cells #[.int .i64 (resT z).net, .int .i64 (resT z).tax, .int .i64 (resT z).gross, (.slice pva (resT z).parts.length cva)] 56)) := below_alloc _ _
    have k5_5 := Blk.new w4 #[.int .i64 (resT z).net, .int .i64 (resT z).tax, .int .i64 (resT z).gross, (.slice pva (resT z).parts.length cva)] 56
    have b_5 := b_4.trans (c5.mono b_4.size)
    have kt_5 := kt_4.ext c5
    have hv_5 := hv_4.ext c5
    have hF_5 := hF_4.ext c5
    have hO_5 := hO_4.ext c5
    have k4_5 := k4_4.ext c5
    have rA_5 := rA_4.ext c5
    clear b_4 kt_4 hv_4 hF_4 hO_4 k4_4 rA_4
    clear c5
    go_upto_region 7 with (fail)
    generalize hw5 : w4.alloc (.cells #[.int .i64 (resT z).net, .int .i64 (resT z).tax, .int .i64 (resT z).gross, (.slice pva (resT z).parts.length cva)] 56) = w5 at *
    clear hw5
    have c0 := kt_5.cell 0 _ rfl
    have c1 := kt_5.cell 1 _ rfl
    have c2 := kt_5.cell 2 _ rfl
    have c3 := kt_5.cell 3 _ rfl
    go_wp2_with fail
    clear c0 c1 c2 c3
    with_reducible refine (refBack t _ _ hv_5 hf0 Hfp.out (by omega)).mono ?_
    rintro e w6 ⟨hT, c6⟩
    rw [Hz.out] at hT
    obtain ⟨vu, rfl, ownvu⟩ := hT.uni
    clear hT
    have rU_6 := ownvu.rd
    clear ownvu
    obtain ⟨pvu, cvu, rfl⟩ := rU_6.shape
    have b_6 := b_5.trans (c6.mono b_5.size)
    have kt_6 := kt_5.ext c6
    have hv_6 := hv_5.ext c6
    have hF_6 := hF_5.ext c6
    have hO_6 := hO_5.ext c6
    have k4_6 := k4_5.ext c6
    have rA_6 := rA_5.ext c6
    have k5_6 := k5_5.ext c6
    clear b_5 kt_5 hv_5 hF_5 hO_5 k4_5 rA_5 k5_5
    clear c6
    have c7 : Below w6.heap.size w6 (w6.alloc (.cells #[.int .i64 (resT z).net, .int .i64 (resT z).tax, .int .i64 (resT z).gross, (.slice pvu (resT z).parts.length cvu)] 56)) := below_alloc _ _
    have k7_7 := Blk.new w6 #[.int .i64 (resT z).net, .int .i64 (resT z).tax, .int .i64 (resT z).gross, (.slice pvu (resT z).parts.length cvu)] 56
    have b_7 := b_6.trans (c7.mono b_6.size)
    have kt_7 := kt_6.ext c7
    have hv_7 := hv_6.ext c7
    have hF_7 := hF_6.ext c7
    have hO_7 := hO_6.ext c7
    have k4_7 := k4_6.ext c7
    have rA_7 := rA_6.ext c7
    have k5_7 := k5_6.ext c7
    have rU_7 := rU_6.ext c7
    clear b_6 kt_6 hv_6 hF_6 hO_6 k4_6 rA_6 k5_6 rU_6
    clear c7
    go_upto_region 8 with (fail)
    generalize hw7 : w6.alloc (.cells #[.int .i64 (resT z).net, .int .i64 (resT z).tax, .int .i64 (resT z).gross, (.slice pvu (resT z).parts.length cvu)] 56) = w7 at *
    clear hw7
    have c0 := k5_7.cell 0 _ rfl
    have c1 := k5_7.cell 1 _ rfl
    have c2 := k5_7.cell 2 _ rfl
    have c3 := k5_7.cell 3 _ rfl
    have d0 := k7_7.cell 0 _ rfl
    have d1 := k7_7.cell 1 _ rfl
    have d2 := k7_7.cell 2 _ rfl
    have d3 := k7_7.cell 3 _ rfl
    have m0 := kt_7.cell 0 _ rfl
    have m1 := kt_7.cell 1 _ rfl
    have m2 := kt_7.cell 2 _ rfl
    have m3 := kt_7.cell 3 _ rfl
    go_wp2_with fail
    clear c0 c1 c2 c3
    clear d0 d1 d2 d3
    clear m0 m1 m2 m3
    with_reducible refine (backSame _ _ _ _ _ rfl rA_7 rU_7).mono ?_
    rintro e w8 ⟨rfl, c8⟩
    have b_8 := b_7.trans (c8.mono b_7.size)
    have kt_8 := kt_7.ext c8
    have hv_8 := hv_7.ext c8
    have hF_8 := hF_7.ext c8
    have hO_8 := hO_7.ext c8
    have k4_8 := k4_7.ext c8
    have rA_8 := rA_7.ext c8
    have k5_8 := k5_7.ext c8
    have rU_8 := rU_7.ext c8
    have k7_8 := k7_7.ext c8
    clear b_7 kt_7 hv_7 hF_7 hO_7 k4_7 rA_7 k5_7 rU_7 k7_7
    clear c8
    have m0 := kt_8.cell 0 _ rfl
    have m1 := kt_8.cell 1 _ rfl
    have m2 := kt_8.cell 2 _ rfl
    have m3 := kt_8.cell 3 _ rfl
    have hee : (errT z != errT z) = false := by simp
    go_wp2_with fail
    clear m0 m1 m2 m3
    refine (intactPart _ _ (roomyL t.parts mkP4) t.parts mkP4 _ hF_8 hv_8 (by omega)).mono ?_
    rintro e w9 ⟨rfl, c9⟩
    rw [decide_eq_true rfl]
    have b_9 := b_8.trans (c9.mono b_8.size)
    have kt_9 := kt_8.ext c9
    have hv_9 := hv_8.ext c9
    have hF_9 := hF_8.ext c9
    have hO_9 := hO_8.ext c9
    have k4_9 := k4_8.ext c9
    have rA_9 := rA_8.ext c9
    have k5_9 := k5_8.ext c9
    have rU_9 := rU_8.ext c9
    have k7_9 := k7_8.ext c9
    clear b_8 kt_8 hv_8 hF_8 hO_8 k4_8 rA_8 k5_8 rU_8 k7_8
    clear c9
    clear hee hF_9 hO_9 rU_9 k4_9 k7_9
    cases z with
    | error n =>
      obtain rfl := back_no Hz.out
      simp only [resT, errT] at *
      go_wp2_with fail
      with_reducible refine (invoiceRuns_walk _).mono ?_
      rintro e w9 ⟨rfl, c9⟩
      have b9 := b_9.trans (c9.mono b_9.size)
      go_wp2_with fail
      go_ret
      exact ⟨rfl, b9⟩
    | ok u =>
      obtain ⟨u1, u2, u3⟩ := back_fits Hz.out
      have Hu2 := Lib.hid u2
      have Hu3 := Lib.hid u3
      clear u3
      have Hbb := Lib.hid (back_back hf0 Hfp.out Hz.out)
      clear u2
      simp only [resT, errT] at *
      have c0 := k5_9.cell 0 _ rfl
      have c1 := k5_9.cell 1 _ rfl
      have c2 := k5_9.cell 2 _ rfl
      have c3 := k5_9.cell 3 _ rfl
      go_wp2_with fail
      clear c0 c1 c2 c3
      with_reducible refine (invBack u _ _ rA_9 u1 Hu2.out (by rw [Hu3.out]; omega)).mono ?_
      rintro e w10 ⟨hT, c10⟩
      rw [Hbb.out] at hT
      obtain ⟨vb, rfl, ownB⟩ := hT
      have rB_10 := ownB.rd
      clear ownB
      obtain ⟨pb, cb, rfl⟩ := rB_10.shape
      have b_10 := b_9.trans (c10.mono b_9.size)
      have kt_10 := kt_9.ext c10
      have hv_10 := hv_9.ext c10
      have rA_10 := rA_9.ext c10
      have k5_10 := k5_9.ext c10
      clear b_9 kt_9 hv_9 rA_9 k5_9
      clear c10
      have c11 : Below w10.heap.size w10 (w10.alloc (.cells #[.int .i64 t.net, .int .i64 t.tax, .int .i64 t.gross, (.slice pb t.parts.length cb)] 56)) := below_alloc _ _
      have k9_11 := Blk.new w10 #[.int .i64 t.net, .int .i64 t.tax, .int .i64 t.gross, (.slice pb t.parts.length cb)] 56
      have b_11 := b_10.trans (c11.mono b_10.size)
      have kt_11 := kt_10.ext c11
      have hv_11 := hv_10.ext c11
      have rA_11 := rA_10.ext c11
      have k5_11 := k5_10.ext c11
      have rB_11 := rB_10.ext c11
      clear b_10 kt_10 hv_10 rA_10 k5_10 rB_10
      clear c11
      have c0 := k9_11.cell 0 _ rfl
      have c1 := k9_11.cell 1 _ rfl
      have c2 := k9_11.cell 2 _ rfl
      have c3 := k9_11.cell 3 _ rfl
      have m0 := kt_11.cell 0 _ rfl
      have m1 := kt_11.cell 1 _ rfl
      have m2 := kt_11.cell 2 _ rfl
      have m3 := kt_11.cell 3 _ rfl
      go_wp2_with fail
      clear c0 c1 c2 c3
      clear m0 m1 m2 m3
      with_reducible refine (backSame _ _ _ _ _ rfl rB_11 hv_11).mono ?_
      rintro e w19 ⟨rfl, c19⟩
      have b19 := b_11.trans (c19.mono b_11.size)
      go_wp2_with fail
      with_reducible refine (invoiceRuns_walk _).mono ?_
      rintro e w20 ⟨rfl, c20⟩
      have b20 := b19.trans (c20.mono b19.size)
      go_wp2_with fail
      go_ret
      exact ⟨rfl, b20⟩
end Go.Proofs.Ytpobhlnlnplbdaa
