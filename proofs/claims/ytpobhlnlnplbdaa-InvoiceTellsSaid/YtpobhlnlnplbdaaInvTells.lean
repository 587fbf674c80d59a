/- The walk of InvoiceTells. -/
import Derived.Test.YtpobhlnlnplbdaaInvG
import Derived.Test.YtpobhlnlnplbdaaInvSum
import Derived.Test.YtpobhlnlnplbdaaInvBk
import Derived.Test.YtpobhlnlnplbdaaBookLn
namespace Go.Proofs.Ytpobhlnlnplbdaa
open Go Go.RowKit
@[reducible] def mkL3 : Ln := ⟨⟨#[]⟩, ⟨#[]⟩, 0, 3⟩
set_option maxHeartbeats 8000000 in
set_option maxRecDepth 100000 in
theorem invoiceTells_walk (vt : Value) (T : List Rate) (d : Day) (vl : Value) (ls : List Ln) (w : World) (ht : Rd rateE w vt T) (hv : Rd lnE w vl ls) (hf : ∀ x ∈ ls, Mon.fits x.count ∧ Mon.fits x.price) :
    Calls Try.prog 10 #[vt, .agg #[.int .i64 d.y, .int .i64 d.m, .int .i64 d.d], vl] w fun e w' => e = .returned (.bool true) ∧ Below w.heap.size w w' := by
  obtain ⟨w0, hw0⟩ : ∃ w0, w0 = w := ⟨_, rfl⟩
  rw [← hw0] at ht hv ⊢
  clear hw0
  have hb1 := below_alloc w0 (.cells #[.int .i64 d.y, .int .i64 d.m, .int .i64 d.d] 23)
  have kd := Blk.new w0 #[.int .i64 d.y, .int .i64 d.m, .int .i64 d.d] 23
  have b_1 := hb1
  have ht1 := ht.ext hb1
  have hv1 := hv.ext hb1
  clear ht hv hb1
  go_enter Try.func10, Try.ntmps10
  go_wp2_with fail
  generalize hw1 : w0.alloc (.cells #[.int .i64 d.y, .int .i64 d.m, .int .i64 d.d] 23) = w1 at *
  clear hw1
  with_reducible refine (invFew _ _ T ls _ ht1 hv1).mono ?_
  rintro e w' ⟨⟨x, y, rfl, rT, rL⟩, hw'⟩
  have hw2 := hw'.symm
  clear hw'
  subst hw2
  have hf2 : ∀ x ∈ ls.take 20, Mon.fits x.count ∧ Mon.fits x.price := fun x hx => hf x (List.mem_of_mem_take hx)
  have hlen : (ls.take 20).length ≤ 20 := by simp; omega
  generalize T.take 30 = T1 at *
  generalize ls.take 20 = l1 at *
  clear ht1 hv1 hf
  have Hf := Lib.hid hf2
  clear hf2
  obtain ⟨z1, hz1⟩ : ∃ z, totalV T1 d l1 = z := ⟨_, rfl⟩
  have Hz := Lib.hid hz1
  clear hz1
  obtain ⟨py, cy, rfl⟩ := rL.shape
  go_wp2_with fail
  refine (roomyLn _ l1 mkL3 _ rL (by omega)).mono ?_
  rintro e w2 ⟨gF, rfl, ownF, c2⟩
  have b_2 := b_1.trans (c2.mono b_1.size)
  have kd_2 := kd.ext c2
  have rT_2 := rT.ext c2
  have rL_2 := rL.ext c2
  clear b_1 kd rT rL c2
  have hF_2 := ownF.rd
  have sF := run_sub_to tLn (P := Try.prog) hF_2 .i64 (l1.length : Int) l1.length rfl (by rw [roomyL_length]; omega)
  have rO := hF_2.sub 0 l1.length (Nat.zero_le _) (by rw [roomyL_length]; omega)
  rw [show ((roomyL l1 mkL3).drop 0).take (l1.length - 0) = l1 from by simp [roomyL], show lnE.sz = 4 from rfl] at rO
  generalize subV (.slice (some ⟨gF, 0, none⟩) (l1.length + 80) (l1.length + 80)) 0 l1.length 4 = vF at *
  clear ownF
  have hi0 : (0 : Int) ≤ (l1.length : Int) := by omega
  have hi1 : (l1.length : Int) ≤ ((l1.length + 80 : Nat) : Int) := by omega
  go_upto_region 3 with (fail)
  go_cut [8, 9] from 21 to 30 (fun ta te wx => TotIn w2 (resT z1) (errT z1) ta te wx)
  case first =>
    have d0 := kd_2.cell 0 _ rfl
    have d1 := kd_2.cell 1 _ rfl
    have d2 := kd_2.cell 2 _ rfl
    go_region_held3 (fun w' => w'.cell? ⟨w0.heap.size, 0, none⟩ = some (.int .i64 d.y) ∧ w'.cell? ⟨w0.heap.size, 1, none⟩ = some (.int .i64 d.m) ∧ w'.cell? ⟨w0.heap.size, 2, none⟩ = some (.int .i64 d.d))
      (first | with_reducible exact ⟨(kdz.out _ _ _ _).cell 0 _ rfl, (kdz.out _ _ _ _).cell 1 _ rfl, (kdz.out _ _ _ _).cell 2 _ rfl⟩ | go_keep)
      (first
            | (go_at_call 35; (with_reducible change Calls _ _ _ ((w2.alloc (.cells #[.int .i64 0, .int .i64 0, .int .i64 0, .slice none 0 0] 56)).drew) _); (have kz : Blk ((w2.alloc (.cells #[.int .i64 0, .int .i64 0, .int .i64 0, .slice none 0 0] 56)).drew) (w2.heap.size) #[.int .i64 0, .int .i64 0, .int .i64 0, .slice none 0 0] 56 := (by with_reducible exact (Blk.new w2 #[.int .i64 0, .int .i64 0, .int .i64 0, .slice none 0 0] 56).drew)); (have bX : Below w2.heap.size w2 ((w2.alloc (.cells #[.int .i64 0, .int .i64 0, .int .i64 0, .slice none 0 0] 56)).drew) := ((below_alloc w2 _).trans (below_drew _ _))); (have rX : Rd rateE ((w2.alloc (.cells #[.int .i64 0, .int .i64 0, .int .i64 0, .slice none 0 0] 56)).drew) x T1 := rT_2.ext bX); (have lX := rO.ext bX); (with_reducible refine (invTotal _ _ T1 d l1 _ rX lX Hf.out).mono ?_); (rintro e z3 ⟨hT, a3⟩); (rw [Hz.out] at hT); (obtain ⟨vT, rfl, ownT⟩ := hT.uni); clear hT; (have rP := ownT.rd); (obtain ⟨pT, cT, rfl⟩ := rP.shape); (have hz3 := bX.trans (a3.mono bX.size)); (have ka3 := kd_2.ext hz3); (have g0 := ka3.cell 0 _ rfl); (have g1 := ka3.cell 1 _ rfl); (have g2 := ka3.cell 2 _ rfl); (have kz9 := kz.ext a3); (have e0 := kz9.cell 0 _ rfl); (have f0 := kz9.frozen 0); (have e1 := kz9.cell 1 _ rfl); (have f1 := kz9.frozen 1); (have e2 := kz9.cell 2 _ rfl); (have f2 := kz9.frozen 2); (have e3 := kz9.cell 3 _ rfl); (have f3 := kz9.frozen 3); (have hge : w2.heap.size ≤ w2.heap.size := Nat.le_refl _); (have hltz := kz.lt); (have hne : w0.heap.size ≠ w2.heap.size := by have h1 := kd_2.lt; omega); (have kdz0 := fun a b c d => ka3.aside4 hne a b c d); (have kdz := Lib.hid kdz0); clear kdz0)
            | (go_at_call 35; (with_reducible change Calls _ _ _ w2.drew _); (have bX : Below w2.heap.size w2 w2.drew := (below_drew w2.heap.size w2)); (have rX : Rd rateE w2.drew x T1 := rT_2.ext bX); (have lX := rO.ext bX); (with_reducible refine (invTotal _ _ T1 d l1 _ rX lX Hf.out).mono ?_); (rintro e z3 ⟨hT, a3⟩); (rw [Hz.out] at hT); (obtain ⟨vT, rfl, ownT⟩ := hT.uni); clear hT; (have rP := ownT.rd); (obtain ⟨pT, cT, rfl⟩ := rP.shape); (have hz3 := bX.trans (a3.mono bX.size)); (have ka3 := kd_2.ext hz3); (have g0 := ka3.cell 0 _ rfl); (have g1 := ka3.cell 1 _ rfl); (have g2 := ka3.cell 2 _ rfl)))
    all_goals go_wp2_with fail
    all_goals go_meet
    all_goals first | exact TotIn.set ownT kz9 hltz hz3 hge | exact TotIn.new rP hz3
  case rest =>
    obtain ⟨N, v, rfl, rfl, kt_3, rt_3, hb⟩ := hcut
    obtain ⟨w3, hw3⟩ : ∃ z, z = wc := ⟨_, rfl⟩
    subst hw3
    have b_3 := b_2.trans (hb.mono b_2.size)
    have kd_3 := kd_2.ext hb
    have rT_3 := rT_2.ext hb
    have rL_3 := rL_2.ext hb
    have hF_3 := hF_2.ext hb
    clear hb b_2 kd_2 rT_2 rL_2 hF_2 rO sF
    obtain ⟨pv, cv, rfl⟩ := rt_3.shape
    have d0 := kd_3.cell 0 _ rfl
    have d1 := kd_3.cell 1 _ rfl
    have d2 := kd_3.cell 2 _ rfl
    go_wp2_with fail
    clear d0 d1 d2
    with_reducible refine (refTotal _ _ T1 d l1 _ rT_3 rL_3 Hf.out).mono ?_
    rintro e w4 ⟨hT, c4⟩
    rw [Hz.out] at hT
    obtain ⟨vu, rfl, ownU⟩ := hT.uni
    clear hT
    have rU_4 := ownU.rd
    clear ownU
    obtain ⟨pu, cu, rfl⟩ := rU_4.shape
    have b_4 := b_3.trans (c4.mono b_3.size)
    have kd_4 := kd_3.ext c4
    have rT_4 := rT_3.ext c4
    have rL_4 := rL_3.ext c4
    have hF_4 := hF_3.ext c4
    have kt_4 := kt_3.ext c4
    have rt_4 := rt_3.ext c4
    clear b_3 kd_3 rT_3 rL_3 hF_3 kt_3 rt_3
    clear c4
    have c5 : Below w4.heap.size w4 (w4.alloc (.cells #[.int .i64 (resT z1).net, .int .i64 (resT z1).tax, .int .i64 (resT z1).gross, (.slice pu (resT z1).parts.length cu)] 56)) := below_alloc _ _
    have ku_5 := Blk.new w4 #[.int .i64 (resT z1).net, .int .i64 (resT z1).tax, .int .i64 (resT z1).gross, (.slice pu (resT z1).parts.length cu)] 56
    have b_5 := b_4.trans (c5.mono b_4.size)
    have kd_5 := kd_4.ext c5
    have rT_5 := rT_4.ext c5
    have rL_5 := rL_4.ext c5
    have hF_5 := hF_4.ext c5
    have kt_5 := kt_4.ext c5
    have rt_5 := rt_4.ext c5
    have rU_5 := rU_4.ext c5
    clear b_4 kd_4 rT_4 rL_4 hF_4 kt_4 rt_4 rU_4
    clear c5
    go_upto_region 5 with (fail)
    generalize hw5 : w4.alloc (.cells #[.int .i64 (resT z1).net, .int .i64 (resT z1).tax, .int .i64 (resT z1).gross, (.slice pu (resT z1).parts.length cu)] 56) = w5 at *
    clear hw5
    have t0 := kt_5.cell 0 _ rfl
    have t1 := kt_5.cell 1 _ rfl
    have t2 := kt_5.cell 2 _ rfl
    have t3 := kt_5.cell 3 _ rfl
    have u0 := ku_5.cell 0 _ rfl
    have u1 := ku_5.cell 1 _ rfl
    have u2 := ku_5.cell 2 _ rfl
    have u3 := ku_5.cell 3 _ rfl
    go_wp2_with fail
    clear t0 t1 t2 t3 u0 u1 u2 u3
    with_reducible refine (backSame _ _ _ _ _ rfl rt_5 rU_5).mono ?_
    rintro e w6 ⟨rfl, c6⟩
    have b_6 := b_5.trans (c6.mono b_5.size)
    have kd_6 := kd_5.ext c6
    have rT_6 := rT_5.ext c6
    have rL_6 := rL_5.ext c6
    have hF_6 := hF_5.ext c6
    have kt_6 := kt_5.ext c6
    have rt_6 := rt_5.ext c6
    have rU_6 := rU_5.ext c6
    have ku_6 := ku_5.ext c6
    clear b_5 kd_5 rT_5 rL_5 hF_5 kt_5 rt_5 rU_5 ku_5
    clear c6
    have hee : (errT z1 == errT z1) = true := by simp
    have hee2 : (errT z1 != errT z1) = false := by simp
    go_wp2_with fail
    refine (intactLn _ _ (roomyL l1 mkL3) l1 mkL3 _ hF_6 rL_6 (by omega)).mono ?_
    rintro e w7 ⟨rfl, c7⟩
    rw [decide_eq_true rfl]
    have b_7 := b_6.trans (c7.mono b_6.size)
    have kd_7 := kd_6.ext c7
    have rT_7 := rT_6.ext c7
    have rL_7 := rL_6.ext c7
    have hF_7 := hF_6.ext c7
    have kt_7 := kt_6.ext c7
    have rt_7 := rt_6.ext c7
    have rU_7 := rU_6.ext c7
    have ku_7 := ku_6.ext c7
    clear b_6 kd_6 rT_6 rL_6 hF_6 kt_6 rt_6 rU_6 ku_6
    clear c7
    go_wp2_with fail
    with_reducible refine (invoiceRuns_walk _).mono ?_
    rintro e w8 ⟨rfl, c8⟩
    have b8 := b_7.trans (c8.mono b_7.size)
    go_wp2_with fail
    go_ret
    exact ⟨rfl, b8⟩
end Go.Proofs.Ytpobhlnlnplbdaa
