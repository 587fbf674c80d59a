/- The document's RightEntry and Right. Both logs, plain words: neither has a snapshot; they stay alike. Small Hards. An ask of the laws of the log, as it lies. Which segment counts, plain. -/
import Derived.Test.YtgpgcnmnfnnkjaaGreatDoorGWalOpens29
import Derived.Test.YtgpgcnmnfnnkjaaGreatDoorGWalOpens2
import Derived.Deep.RegionHeld3
import Derived.Test.YtgpgcnmnfnnkjaaGreatDoorGWalOpens23
import Derived.Test.YtgpgcnmnfnnkjaaGreatDoorGWalOpens28
import Derived.Test.YtgpgcnmnfnnkjaaGreatDoorGWalOpens12
import Derived.Test.YtgpgcnmnfnnkjaaGreatDoorGWalOpens22
set_option linter.unusedVariables false
set_option linter.unusedSimpArgs false
section
namespace Go.Proofs.YtgpgcnmnfnnkjaaGreatDoor
open Go Go.RowKit Go.PlainAid BigFrame
attribute [local go_sem] After.same
set_option maxRecDepth 4000 in
set_option maxHeartbeats 4000000 in
theorem refEntry (x : Ety) (b t : Int) (w : World) : Calls Tryz.prog 69 #[.agg #[.int .i64 x.term, .int .i64 x.members, .string x.data], .int .i64 b, .int .i64 t] w fun e w' => e = .returned (.bool (fitsE x b t)) ∧ Below w.heap.size w w' := by
 have Hf := Lib.hid (fitsE_iff x b t)
 generalize fitsE x b t = r at *
 by_cases hd : x.data.size = 0 <;> cases d1 : (x.members == 0)
 all_goals
  first | have he := str_none hd | have he := str_some hd
  simp only [beq_iff_eq, beq_eq_false_iff_ne, ne_eq] at d1
  have d2 : (x.members == 0) = decide (x.members = 0) := rfl
  first | rw [decide_eq_true d1] at d2 | rw [decide_eq_false d1] at d2
  go_enter Tryz.func69, Tryz.ntmps69
  go_wp2
  all_goals
   go_ret
   refine ⟨ret_bool (bool_of Hf.out ?_).symm.symm, below_alloc _ _⟩
   first
   | (simp; done)
   | (simp; omega)
   | (constructor <;> intro h <;> simp_all <;> omega)
theorem rightH_all (h : Hrd) : rightH h = true ↔ (((0 ≤ h.term ∧ h.term ≤ 1099511627776 ∧ -1 ≤ h.vote ∧ h.vote < 7 ∧ 0 ≤ h.base ∧ h.base ≤ 1099511627776 ∧ 0 ≤ h.bterm ∧ h.bterm ≤ h.term) ∧ (h.base = 0 ↔ h.bterm = 0) ∧ 1 ≤ h.members ∧ h.members < 128 ∧ (h.base = 0 ↔ h.snap.size = 0) ∧ h.snap.size ≤ 65536 ∧ h.log.length ≤ 200 ∧ h.base ≤ 1099511627776 - (h.log.length : Int)) ∧ logOk h.log h.bterm h.term = true) := by
 unfold rightH
 rw [Bool.and_eq_true, Bool.and_eq_true, bareH_all, beq_iff_eq, decide_eq_decide, decide_eq_true_iff]
 constructor
 · rintro ⟨⟨⟨⟨a1, a2, a3, a4, a5, a6, a7, a8, a9, a10, a11⟩, a12, a13, a14⟩, b1⟩, b2⟩
   exact ⟨⟨⟨a1, a2, a3, a4, a7, a8, a9, a10⟩, a11.symm, a5, by omega, b1.symm, b2, a12, by omega⟩, a14⟩
 · rintro ⟨⟨⟨a1, a2, a3, a4, a7, a8, a9, a10⟩, a11, a5, a6, b1, b2, a12, a13⟩, a14⟩
   exact ⟨⟨⟨⟨a1, a2, a3, a4, a5, by omega, a7, a8, a9, a10, a11.symm⟩, a12, by omega, a14⟩, b1.symm⟩, b2⟩
theorem empty_eq (s : ByteArray) : s.toList.isEmpty = decide (s.size = 0) := by
 by_cases hs : s.size = 0
 · rw [str_none hs, decide_eq_true hs]
 · rw [str_some hs, decide_eq_false hs]
set_option maxRecDepth 8000 in
set_option maxHeartbeats 16000000 in
theorem refRight (h : Hrd) (v : Value) (w : World) (hv : Rd etyE w v h.log) :
 Calls Tryz.prog 24 #[hrdA h v] w fun e w' => e = .returned (.bool (rightH h)) ∧ Below w.heap.size w w' := by
 obtain ⟨p, cap, rfl⟩ := hv.shape
 have hmax := hv.le
 unfold maxLen at hmax
 have HB := Lib.hid (rightH_all h)
 generalize rightH h = B at *
 have bW := below_alloc w (.cells #[.int .i64 h.term, .int .i64 h.vote, .int .i64 h.base, .int .i64 h.bterm, .int .i64 h.members, .string h.snap, .slice p h.log.length cap] 24)
 have kA := Blk.new w #[.int .i64 h.term, .int .i64 h.vote, .int .i64 h.base, .int .i64 h.bterm, .int .i64 h.members, .string h.snap, .slice p h.log.length cap] 24
 have x0 := kA.cell 0 _ rfl
 have x1 := kA.cell 1 _ rfl
 have x2 := kA.cell 2 _ rfl
 have x3 := kA.cell 3 _ rfl
 have x4 := kA.cell 4 _ rfl
 have x5 := kA.cell 5 _ rfl
 have x6 := kA.cell 6 _ rfl
 clear kA
 by_cases e0 : 0 ≤ h.term
 case neg =>
  have Hr := Lib.hid (no_of HB.out (fun hh => e0 hh.1.1.1))
  have n0 : decide (h.term < 0) = true := decide_eq_true (by omega)
  clear e0
  clear hv HB
  go_enter Tryz.func24, Tryz.ntmps24
  go_upto_region 1 with (fail)
  refine wp_region_plain2 (by simp only [List.append]; rfl) ?_
  repeat (go_big_quiet_step (fail))
  refine wpQuiet_nil ?_
  go_wp2
  go_ret
  exact ⟨ret_bool Hr.out, bW⟩
 have n0 : decide (h.term < 0) = false := decide_eq_false (by omega)
 have E0 := Lib.hid e0
 clear e0
 by_cases e1 : h.term ≤ 1099511627776
 case neg =>
  have Hr := Lib.hid (no_of HB.out (fun hh => e1 hh.1.1.2.1))
  have n1 : decide (1099511627776 < h.term) = true := decide_eq_true (by omega)
  clear e1
  clear hv HB
  go_enter Tryz.func24, Tryz.ntmps24
  go_upto_region 1 with (fail)
  refine wp_region_plain2 (by simp only [List.append]; rfl) ?_
  repeat (go_big_quiet_step (fail))
  refine wpQuiet_nil ?_
  go_wp2
  go_ret
  exact ⟨ret_bool Hr.out, bW⟩
 have n1 : decide (1099511627776 < h.term) = false := decide_eq_false (by omega)
 have E1 := Lib.hid e1
 clear e1
 by_cases e2 : -1 ≤ h.vote
 case neg =>
  have Hr := Lib.hid (no_of HB.out (fun hh => e2 hh.1.1.2.2.1))
  have n2 : decide (h.vote < -1) = true := decide_eq_true (by omega)
  clear e2
  clear hv HB
  go_enter Tryz.func24, Tryz.ntmps24
  go_upto_region 1 with (fail)
  refine wp_region_plain2 (by simp only [List.append]; rfl) ?_
  repeat (go_big_quiet_step (fail))
  refine wpQuiet_nil ?_
  go_wp2
  go_ret
  exact ⟨ret_bool Hr.out, bW⟩
 have n2 : decide (h.vote < -1) = false := decide_eq_false (by omega)
 have E2 := Lib.hid e2
 clear e2
 by_cases e3 : h.vote < 7
 case neg =>
  have Hr := Lib.hid (no_of HB.out (fun hh => e3 hh.1.1.2.2.2.1))
  have n3 : decide (7 ≤ h.vote) = true := decide_eq_true (by omega)
  clear e3
  clear hv HB
  go_enter Tryz.func24, Tryz.ntmps24
  go_upto_region 1 with (fail)
  refine wp_region_plain2 (by simp only [List.append]; rfl) ?_
  repeat (go_big_quiet_step (fail))
  refine wpQuiet_nil ?_
  go_wp2
  go_ret
  exact ⟨ret_bool Hr.out, bW⟩
 have n3 : decide (7 ≤ h.vote) = false := decide_eq_false (by omega)
 have E3 := Lib.hid e3
 clear e3
 by_cases e4 : 0 ≤ h.base
 case neg =>
  have Hr := Lib.hid (no_of HB.out (fun hh => e4 hh.1.1.2.2.2.2.1))
  have n4 : decide (h.base < 0) = true := decide_eq_true (by omega)
  clear e4
  clear hv HB
  go_enter Tryz.func24, Tryz.ntmps24
  go_upto_region 1 with (fail)
  refine wp_region_plain2 (by simp only [List.append]; rfl) ?_
  repeat (go_big_quiet_step (fail))
  refine wpQuiet_nil ?_
  go_wp2
  go_ret
  exact ⟨ret_bool Hr.out, bW⟩
 have n4 : decide (h.base < 0) = false := decide_eq_false (by omega)
 have E4 := Lib.hid e4
 clear e4
 by_cases e5 : h.base ≤ 1099511627776
 case neg =>
  have Hr := Lib.hid (no_of HB.out (fun hh => e5 hh.1.1.2.2.2.2.2.1))
  have n5 : decide (1099511627776 < h.base) = true := decide_eq_true (by omega)
  clear e5
  clear hv HB
  go_enter Tryz.func24, Tryz.ntmps24
  go_upto_region 1 with (fail)
  refine wp_region_plain2 (by simp only [List.append]; rfl) ?_
  repeat (go_big_quiet_step (fail))
  refine wpQuiet_nil ?_
  go_wp2
  go_ret
  exact ⟨ret_bool Hr.out, bW⟩
 have n5 : decide (1099511627776 < h.base) = false := decide_eq_false (by omega)
 have E5 := Lib.hid e5
 clear e5
 by_cases e6 : 0 ≤ h.bterm
 case neg =>
  have Hr := Lib.hid (no_of HB.out (fun hh => e6 hh.1.1.2.2.2.2.2.2.1))
  have n6 : decide (h.bterm < 0) = true := decide_eq_true (by omega)
  clear e6
  clear hv HB
  go_enter Tryz.func24, Tryz.ntmps24
  go_upto_region 1 with (fail)
  refine wp_region_plain2 (by simp only [List.append]; rfl) ?_
  repeat (go_big_quiet_step (fail))
  refine wpQuiet_nil ?_
  go_wp2
  go_ret
  exact ⟨ret_bool Hr.out, bW⟩
 have n6 : decide (h.bterm < 0) = false := decide_eq_false (by omega)
 have E6 := Lib.hid e6
 clear e6
 by_cases e7 : h.bterm ≤ h.term
 case neg =>
  have Hr := Lib.hid (no_of HB.out (fun hh => e7 hh.1.1.2.2.2.2.2.2.2))
  have n7 : decide (h.term < h.bterm) = true := decide_eq_true (by omega)
  clear e7
  clear hv HB
  go_enter Tryz.func24, Tryz.ntmps24
  go_upto_region 1 with (fail)
  refine wp_region_plain2 (by simp only [List.append]; rfl) ?_
  repeat (go_big_quiet_step (fail))
  refine wpQuiet_nil ?_
  go_wp2
  go_ret
  exact ⟨ret_bool Hr.out, bW⟩
 have n7 : decide (h.term < h.bterm) = false := decide_eq_false (by omega)
 have E7 := Lib.hid e7
 clear e7
 by_cases e8 : (h.base = 0 ↔ h.bterm = 0)
 case neg =>
  have Hr := Lib.hid (no_of HB.out (fun hh => e8 hh.1.2.1))
  have n8 : (h.base == 0) = !(h.bterm == 0) := by
   have a1 : (h.base == 0) = decide (h.base = 0) := rfl
   have a2 : (h.bterm == 0) = decide (h.bterm = 0) := rfl
   rw [a1, a2]
   by_cases x : h.base = 0 <;> by_cases y : h.bterm = 0 <;> simp_all
  clear e8
  clear hv HB
  go_enter Tryz.func24, Tryz.ntmps24
  go_upto_region 1 with (fail)
  refine wp_region_plain2 (by simp only [List.append]; rfl) ?_
  repeat (go_big_quiet_step (fail))
  refine wpQuiet_nil ?_
  go_wp2
  go_ret
  exact ⟨ret_bool Hr.out, bW⟩
 have n8 : (h.base == 0) = (h.bterm == 0) := by
  have a1 : (h.base == 0) = decide (h.base = 0) := rfl
  have a2 : (h.bterm == 0) = decide (h.bterm = 0) := rfl
  rw [a1, a2, decide_eq_decide]; exact e8
 have E8 := Lib.hid e8
 clear e8
 by_cases e9 : 1 ≤ h.members
 case neg =>
  have Hr := Lib.hid (no_of HB.out (fun hh => e9 hh.1.2.2.1))
  have n9 : decide (h.members < 1) = true := decide_eq_true (by omega)
  clear e9
  clear hv HB
  go_enter Tryz.func24, Tryz.ntmps24
  go_upto_region 1 with (fail)
  refine wp_region_plain2 (by simp only [List.append]; rfl) ?_
  repeat (go_big_quiet_step (fail))
  refine wpQuiet_nil ?_
  go_wp2
  go_ret
  exact ⟨ret_bool Hr.out, bW⟩
 have n9 : decide (h.members < 1) = false := decide_eq_false (by omega)
 have E9 := Lib.hid e9
 clear e9
 by_cases e10 : h.members < 128
 case neg =>
  have Hr := Lib.hid (no_of HB.out (fun hh => e10 hh.1.2.2.2.1))
  have n10 : decide (128 ≤ h.members) = true := decide_eq_true (by omega)
  clear e10
  clear hv HB
  go_enter Tryz.func24, Tryz.ntmps24
  go_upto_region 1 with (fail)
  refine wp_region_plain2 (by simp only [List.append]; rfl) ?_
  repeat (go_big_quiet_step (fail))
  refine wpQuiet_nil ?_
  go_wp2
  go_ret
  exact ⟨ret_bool Hr.out, bW⟩
 have n10 : decide (128 ≤ h.members) = false := decide_eq_false (by omega)
 have E10 := Lib.hid e10
 clear e10
 by_cases e11 : (h.base = 0 ↔ h.snap.size = 0)
 case neg =>
  have Hr := Lib.hid (no_of HB.out (fun hh => e11 hh.1.2.2.2.2.1))
  have n11 : h.snap.toList.isEmpty = !(h.bterm == 0) := by
   rw [← n8, empty_eq]
   have a1 : (h.base == 0) = decide (h.base = 0) := rfl
   rw [a1]
   by_cases x : h.base = 0 <;> by_cases y : h.snap.size = 0 <;> simp_all
  clear e11
  clear hv HB
  go_enter Tryz.func24, Tryz.ntmps24
  go_upto_region 1 with (fail)
  refine wp_region_plain2 (by simp only [List.append]; rfl) ?_
  repeat (go_big_quiet_step (fail))
  refine wpQuiet_nil ?_
  go_wp2
  go_ret
  exact ⟨ret_bool Hr.out, bW⟩
 have n11 : h.snap.toList.isEmpty = (h.bterm == 0) := by
  rw [← n8, empty_eq]
  have a1 : (h.base == 0) = decide (h.base = 0) := rfl
  rw [a1, decide_eq_decide]; exact e11.symm
 have E11 := Lib.hid e11
 clear e11
 by_cases e12 : h.snap.size ≤ 65536
 case neg =>
  have Hr := Lib.hid (no_of HB.out (fun hh => e12 hh.1.2.2.2.2.2.1))
  have n12 : decide ((65536 : Int) < (h.snap.size : Int)) = true := decide_eq_true (by omega)
  clear e12
  clear hv HB
  go_enter Tryz.func24, Tryz.ntmps24
  go_upto_region 1 with (fail)
  refine wp_region_plain2 (by simp only [List.append]; rfl) ?_
  repeat (go_big_quiet_step (fail))
  refine wpQuiet_nil ?_
  go_wp2
  go_ret
  exact ⟨ret_bool Hr.out, bW⟩
 have n12 : decide ((65536 : Int) < (h.snap.size : Int)) = false := decide_eq_false (by omega)
 have E12 := Lib.hid e12
 clear e12
 by_cases e13 : h.log.length ≤ 200
 case neg =>
  have Hr := Lib.hid (no_of HB.out (fun hh => e13 hh.1.2.2.2.2.2.2.1))
  have n13 : decide ((200 : Int) < (h.log.length : Int)) = true := decide_eq_true (by omega)
  clear e13
  clear hv HB
  go_enter Tryz.func24, Tryz.ntmps24
  go_upto_region 1 with (fail)
  refine wp_region_plain2 (by simp only [List.append]; rfl) ?_
  repeat (go_big_quiet_step (fail))
  refine wpQuiet_nil ?_
  go_wp2
  go_ret
  exact ⟨ret_bool Hr.out, bW⟩
 have n13 : decide ((200 : Int) < (h.log.length : Int)) = false := decide_eq_false (by omega)
 have E13 := Lib.hid e13
 clear e13
 by_cases e14 : h.base ≤ 1099511627776 - (h.log.length : Int)
 case neg =>
  have Hr := Lib.hid (no_of HB.out (fun hh => e14 hh.1.2.2.2.2.2.2.2))
  have n14 : decide (1099511627776 - (h.log.length : Int) < h.base) = true := decide_eq_true (by omega)
  clear e14
  clear hv HB
  go_enter Tryz.func24, Tryz.ntmps24
  go_upto_region 1 with (fail)
  refine wp_region_plain2 (by simp only [List.append]; rfl) ?_
  repeat (go_big_quiet_step (fail))
  refine wpQuiet_nil ?_
  go_wp2
  go_ret
  exact ⟨ret_bool Hr.out, bW⟩
 have n14 : decide (1099511627776 - (h.log.length : Int) < h.base) = false := decide_eq_false (by omega)
 have E14 := Lib.hid e14
 clear e14
 have hh : ((0 ≤ h.term ∧ h.term ≤ 1099511627776 ∧ -1 ≤ h.vote ∧ h.vote < 7 ∧ 0 ≤ h.base ∧ h.base ≤ 1099511627776 ∧ 0 ≤ h.bterm ∧ h.bterm ≤ h.term) ∧ (h.base = 0 ↔ h.bterm = 0) ∧ 1 ≤ h.members ∧ h.members < 128 ∧ (h.base = 0 ↔ h.snap.size = 0) ∧ h.snap.size ≤ 65536 ∧ h.log.length ≤ 200 ∧ h.base ≤ 1099511627776 - (h.log.length : Int)) := ⟨⟨E0.out, E1.out, E2.out, E3.out, E4.out, E5.out, E6.out, E7.out⟩, E8.out, E9.out, E10.out, E11.out, E12.out, E13.out, E14.out⟩
 have Hh := Lib.hid hh
 clear hh
 clear E0 E1 E2 E3 E4 E5 E6 E7 E8 E9 E10 E11 E12 E13 E14
 have hvW := hv.ext bW
 have Hno := Lib.hid (fun (k : Nat) (n : logOk (h.log.take k) h.bterm h.term = false) => no_of HB.out (fun hh => by have h2 := logOk_take hh.2 k; rw [n] at h2; cases h2))
 clear hv
 go_enter Tryz.func24, Tryz.ntmps24
 go_upto_region 1 with (fail)
 refine wp_region_plain2 (by simp only [List.append]; rfl) ?_
 repeat (go_big_quiet_step (fail))
 refine wpQuiet_nil ?_
 go_wp2
 clear n0 n1 n2 n3 n4 n5 n6 n7 n8 n9 n10 n11 n12 n13 n14 x1 x2 x3 x4 x5
 have hW : (w.alloc (.cells #[.int .i64 h.term, .int .i64 h.vote, .int .i64 h.base, .int .i64 h.bterm, .int .i64 h.members, .string h.snap, .slice p h.log.length cap] 24)).heap.size = w.heap.size + 1 := by simp
 generalize hZ : w.alloc (.cells #[.int .i64 h.term, .int .i64 h.vote, .int .i64 h.base, .int .i64 h.bterm, .int .i64 h.members, .string h.snap, .slice p h.log.length cap] 24) = W at *
 clear hZ
 go_loopw [3, 4] (fun b i wr => ∃ k : Nat, k ≤ h.log.length ∧ i = .int .i64 k ∧ b = .int .i64 (lastT (h.log.take k) h.bterm) ∧ Hid (logOk (h.log.take k) h.bterm h.term = true) ∧ Below W.heap.size W wr) (fun _ i _ => h.log.length - (intOf i).toNat)
 case atStart => exact ⟨0, by omega, rfl, rfl, rfl, Below.refl _ _⟩
 case round =>
  obtain ⟨k, hk, rfl, rfl, hlog, hb⟩ := hrel
  have hbw := bW.trans (hb.mono (by omega))
  have hwl : w.heap.size < W.heap.size := by omega
  have c0 : wr.cell? ⟨w.heap.size, 0, none⟩ = some (.int .i64 h.term) := by rw [hb.cell (p := ⟨w.heap.size, 0, none⟩) hwl]; exact x0
  have c6 : wr.cell? ⟨w.heap.size, 6, none⟩ = some (.slice p h.log.length cap) := by rw [hb.cell (p := ⟨w.heap.size, 6, none⟩) hwl]; exact x6
  clear x0 x6
  by_cases hlt : k < h.log.length
  · have hvr := hvW.ext hb
    obtain ⟨bb, off, rfl⟩ := Rd.blk hvr (by omega)
    have hi : (k : Int) < (h.log.length : Int) := by omega
    have hi0 : (0 : Int) ≤ (k : Int) := by omega
    have hsz := hb.size
    have hsnoc := Lib.hid (logOk_snoc hlt hlog.out)
    have hlast : lastT (h.log.take (k + 1)) h.bterm = (h.log[k]).term := by rw [List.take_succ_eq_append_getElem hlt, lastT_snoc]
    have Hlast := Lib.hid hlast
    have hz0 : ∀ z : After wr, z.1.cell? ⟨w.heap.size, 0, none⟩ = some (.int .i64 h.term) := fun z => by rw [z.2.cell (p := ⟨w.heap.size, 0, none⟩) (by show w.heap.size < _; omega)]; exact c0
    have hz6 : ∀ z : After wr, z.1.cell? ⟨w.heap.size, 6, none⟩ = some (.slice (some ⟨bb, off, none⟩) h.log.length cap) := fun z => by rw [z.2.cell (p := ⟨w.heap.size, 6, none⟩) (by show w.heap.size < _; omega)]; exact c6
    have hy0 : ∀ z : After wr, z.1.cell? ⟨bb, off + k * 3, none⟩ = some (.int .i64 (h.log[k]).term) := fun z => (ety3 (hvr.ext z.2) hlt).1
    have hy1 : ∀ z : After wr, z.1.cell? ⟨bb, off + k * 3 + 1, none⟩ = some (.int .i64 (h.log[k]).members) := fun z => (ety3 (hvr.ext z.2) hlt).2.1
    have hy2 : ∀ z : After wr, z.1.cell? ⟨bb, off + k * 3 + 2, none⟩ = some (.string (h.log[k]).data) := fun z => (ety3 (hvr.ext z.2) hlt).2.2
    clear hlast hvW
    generalize h.log[k] = x at *
    generalize lastT (h.log.take k) h.bterm = T at *
    go_wp2_with fail
    cases hf : fitsE x T h.term with
    | false =>
     have hcl : ∀ z : After wr, Calls Tryz.prog 69 #[.agg #[.int .i64 x.term, .int .i64 x.members, .string x.data], .int .i64 T, .int .i64 h.term] z.1 fun e w' => e = .returned (.bool false) ∧ ∃ y : After wr, w' = y.1 := fun z => z.call ((refEntry x T h.term z.1).mono fun e w' hh => ⟨by rw [hh.1, hf], hh.2⟩)
     have Hr := Lib.hid (Hno.out (k + 1) (by rw [hsnoc.out, hf]))
     clear hf
     refine wp_region_after (by kernel_rfl) (by kernel_rfl) ?_
     repeat (go_big_quiet_step (exact hcl _))
     refine wpQuiet_nil ?_
     rintro _ ⟨⟨w7, c7⟩, rfl⟩
     clear hcl hz0 hz6 hy0 hy1 hy2
     have b7 := hbw.trans (c7.mono hbw.size)
     go_wp2_with fail
     go_ret
     exact ⟨ret_bool Hr.out, b7⟩
    | true =>
     have hcl : ∀ z : After wr, Calls Tryz.prog 69 #[.agg #[.int .i64 x.term, .int .i64 x.members, .string x.data], .int .i64 T, .int .i64 h.term] z.1 fun e w' => e = .returned (.bool true) ∧ ∃ y : After wr, w' = y.1 := fun z => z.call ((refEntry x T h.term z.1).mono fun e w' hh => ⟨by rw [hh.1, hf], hh.2⟩)
     have Hok := Lib.hid (show logOk (h.log.take (k + 1)) h.bterm h.term = true by rw [hsnoc.out, hf])
     clear hf
     refine wp_region_after (by kernel_rfl) (by kernel_rfl) ?_
     repeat (go_big_quiet_step (exact hcl _))
     refine wpQuiet_nil ?_
     rintro w7 ⟨⟨w7x, c7⟩, hw7⟩
     change w7 = w7x at hw7
     subst hw7
     have z6 : w7.cell? ⟨w.heap.size, 6, none⟩ = some (.slice (some ⟨bb, off, none⟩) h.log.length cap) := hz6 ⟨w7, c7⟩
     have y0 : w7.cell? ⟨bb, off + k * 3, none⟩ = some (.int .i64 x.term) := hy0 ⟨w7, c7⟩
     have y1 : w7.cell? ⟨bb, off + k * 3 + 1, none⟩ = some (.int .i64 x.members) := hy1 ⟨w7, c7⟩
     have y2 : w7.cell? ⟨bb, off + k * 3 + 2, none⟩ = some (.string x.data) := hy2 ⟨w7, c7⟩
     clear hcl hz0 hz6 hy0 hy1 hy2
     have b7 := hb.trans (c7.mono hsz)
     go_wp2_with fail
     go_roundw
     case rel => exact ⟨k + 1, by omega, by go_num, by rw [Hlast.out], Hok.out, b7⟩
     case measure => simp [intOf]; omega
  · have hke : k = h.log.length := by omega
    have hi : ¬ (k : Int) < (h.log.length : Int) := by omega
    have Hk := Lib.hid hke
    clear hke
    go_wp2
    go_ret
    have hl := hlog.out
    rw [Hk.out, List.take_of_length_le (Nat.le_refl _)] at hl
    have hB := HB.out.2 ⟨Hh.out, hl⟩
    exact ⟨ret_bool hB.symm, hbw⟩
end Go.Proofs.YtgpgcnmnfnnkjaaGreatDoor
end

section
namespace Go.Proofs.YtgpgcnmnfnnkjaaGreatDoor
open Go Go.RowKit Go.PlainAid
theorem pickN_ok (d : Dk) : SgOk (pickN d).2 := by
 unfold pickN
 generalize (segsW (d.fs.map (·.name))).reverse = l
 have key : ∀ l : List Nat, SgOk ((pickW d l).getD (0, sg0)).2 := by
  intro l
  induction l with
  | nil => exact SgOk.zero
  | cons k r ih =>
   rw [pickW]
   split
   · exact readSeg_ok _
   · exact ih
 exact key l
theorem open_snap {d : Dk} {ws : Wl} (h : openW d = some ws) : ws.h.snap = sNone ∧ ws.down = false := by
 unfold openW at h
 split at h
 · cases h
   refine ⟨?_, rfl⟩
   show (openH d).snap = sNone
   unfold openH
   split
   · rfl
   · exact (pickN_ok d).snap
 · cases h
theorem keepR_snap {w : Wl} {h : Hrd} {r : Int × Nat × Dk} (hs : w.h.snap = sNone) : (keepR w h r).2.1.h.snap = sNone := by
 unfold keepR; split
 · rfl
 · exact hs
theorem saveR_snap {d : Dk} {w : Wl} (h : Hrd) (hs : w.h.snap = sNone) : (saveR d w h).2.1.h.snap = sNone := by
 unfold saveR
 repeat' split
 all_goals first | exact hs | exact keepR_snap hs
theorem Alk.saved {a b a' b' : Wl} {d da db : Dk} {h : Hrd} {Ea Eb : Int} (k : Alk a b) (ha : saveW d a h = (Ea, a', da)) (hb : saveR d b h = (Eb, b', db)) (hs : b.h.snap = sNone) : Ea = Eb ∧ da = db ∧ Alk a' b' ∧ b'.h.snap = sNone := by
 obtain ⟨h1, h2, h3⟩ := save_alk d h k
 have h4 := saveR_snap (d := d) h hs
 rw [ha, hb] at h1 h2 h3
 rw [hb] at h4
 exact ⟨h1, h2, h3, h4⟩
end Go.Proofs.YtgpgcnmnfnnkjaaGreatDoor
end

section
namespace Go.Proofs.YtgpgcnmnfnnkjaaGreatDoor
open Go Go.RowKit Go.PlainAid BigFrame
attribute [local go_sem] After.same
def sizesE (l : List Ety) : Nat := (l.map fun x => x.data.size).sum
def smallH (h : Hrd) : Bool := decide (h.log.length ≤ 40) && decide (h.snap.size + sizesE h.log ≤ 9000)
theorem sizesE_snoc {l : List Ety} {k : Nat} (h : k < l.length) : sizesE (l.take (k + 1)) = sizesE (l.take k) + l[k].data.size := by
 unfold sizesE; rw [List.take_succ_eq_append_getElem h, List.map_append, List.sum_append]; simp
theorem sizesE_take (l : List Ety) (k : Nat) : sizesE (l.take k) ≤ sizesE l := by
 conv => rhs; rw [← List.take_append_drop k l]
 unfold sizesE; rw [List.map_append, List.sum_append]; omega
set_option maxRecDepth 8000 in
set_option maxHeartbeats 4000000 in
theorem refSmall (h : Hrd) (v : Value) (w : World) (hv : Rd etyE w v h.log) (hsz : h.snap.size ≤ 281474976710656) (hdz : ∀ x ∈ h.log, x.data.size ≤ 281474976710656) :
 Calls Tryz.prog 8 #[hrdA h v] w fun e w' => e = .returned (.bool (smallH h)) ∧ Below w.heap.size w w' := by
 obtain ⟨p, cap, rfl⟩ := hv.shape
 have hmax := hv.le
 unfold maxLen at hmax
 have hS : smallH h = (decide (h.log.length ≤ 40) && decide (h.snap.size + sizesE h.log ≤ 9000)) := rfl
 have HS := Lib.hid hS
 have Hdz := Lib.hid hdz
 clear hS hdz
 generalize smallH h = B at *
 have bW := below_alloc w (.cells #[.int .i64 h.term, .int .i64 h.vote, .int .i64 h.base, .int .i64 h.bterm, .int .i64 h.members, .string h.snap, .slice p h.log.length cap] 24)
 have kA := Blk.new w #[.int .i64 h.term, .int .i64 h.vote, .int .i64 h.base, .int .i64 h.bterm, .int .i64 h.members, .string h.snap, .slice p h.log.length cap] 24
 by_cases h40 : h.log.length ≤ 40
 case neg =>
  have hi : (40 : Int) < (h.log.length : Int) := by omega
  have Hr := Lib.hid (show false = B by rw [HS.out, decide_eq_false h40]; rfl)
  clear h40 HS kA
  go_enter Tryz.func8, Tryz.ntmps8
  go_wp2
  go_ret
  exact ⟨ret_bool Hr.out, bW⟩
 have hi : ¬ (40 : Int) < (h.log.length : Int) := by omega
 have H40 := Lib.hid h40
 clear h40
 have hvW := hv.ext bW
 have x6 := kA.cell 6 _ rfl
 go_enter Tryz.func8, Tryz.ntmps8
 go_wp2
 have hW : (w.alloc (.cells #[.int .i64 h.term, .int .i64 h.vote, .int .i64 h.base, .int .i64 h.bterm, .int .i64 h.members, .string h.snap, .slice p h.log.length cap] 24)).heap.size = w.heap.size + 1 := by simp
 generalize hZ : w.alloc (.cells #[.int .i64 h.term, .int .i64 h.vote, .int .i64 h.base, .int .i64 h.bterm, .int .i64 h.members, .string h.snap, .slice p h.log.length cap] 24) = W at *
 clear hZ kA hv
 go_loopw [3, 4] (fun b i wr => ∃ k : Nat, k ≤ h.log.length ∧ i = .int .i64 k ∧ b = .int .i64 ((h.snap.size + sizesE (h.log.take k) : Nat) : Int) ∧ (0 < k → h.snap.size + sizesE (h.log.take k) ≤ 9000) ∧ wr = W) (fun _ i _ => h.log.length - (intOf i).toNat)
 case atStart => exact ⟨0, by omega, rfl, by simp [sizesE], by omega, rfl⟩
 case round =>
  obtain ⟨k, hk, rfl, rfl, hle, rfl⟩ := hrel
  by_cases hlt : k < h.log.length
  · obtain ⟨bb, off, rfl⟩ := Rd.blk hvW (by omega)
    obtain ⟨c0, c1, c2⟩ := ety3 hvW hlt
    have hi1 : (k : Int) < (h.log.length : Int) := by omega
    have hi0 : (0 : Int) ≤ (k : Int) := by omega
    have hsn := sizesE_snoc hlt
    have hst := sizesE_take h.log (k + 1)
    have hs3 : h.log[k].data.size ≤ 281474976710656 := Hdz.out _ (List.getElem_mem hlt)
    have Hsn := Lib.hid hsn
    have hb0 : h.snap.size + sizesE (h.log.take k) ≤ 281474976710656 := by
     rcases Nat.eq_zero_or_pos k with q | q
     · subst q; simpa [sizesE] using hsz
     · have := hle q; omega
    clear hsn hle
    generalize h.log[k] = x at *
    generalize sizesE (h.log.take k) = S at *
    by_cases h9 : h.snap.size + S + x.data.size ≤ 9000
    · have h9i : ¬ (9000 : Int) < ((h.snap.size + S : Nat) : Int) + (x.data.size : Int) := by omega
      have Hq := Lib.hid (show h.snap.size + sizesE (h.log.take (k + 1)) ≤ 9000 by rw [Hsn.out]; omega)
      have Hs := Lib.hid (show ((h.snap.size + S : Nat) : Int) + (x.data.size : Int) = ((h.snap.size + sizesE (h.log.take (k + 1)) : Nat) : Int) by rw [Hsn.out]; omega)
      have hr1 : ((h.snap.size + S : Nat) : Int) + (x.data.size : Int) ≤ 9223372036854775807 := by omega
      have hr0 : (0 : Int) ≤ ((h.snap.size + S : Nat) : Int) := by omega
      go_wp2
      go_roundw
      case rel => exact ⟨k + 1, by omega, by go_num, by rw [← Hs.out]; go_num, fun _ => Hq.out, trivial⟩
      case measure => simp [intOf]; omega
    · have h9i : (9000 : Int) < ((h.snap.size + S : Nat) : Int) + (x.data.size : Int) := by omega
      have hr1 : ((h.snap.size + S : Nat) : Int) + (x.data.size : Int) ≤ 9223372036854775807 := by omega
      have hr0 : (0 : Int) ≤ ((h.snap.size + S : Nat) : Int) := by omega
      have Hr := Lib.hid (show false = B by rw [HS.out, decide_eq_false (by rw [Hsn.out] at hst; omega : ¬ h.snap.size + sizesE h.log ≤ 9000), Bool.and_false])
      go_wp2
      go_ret
      exact ⟨ret_bool Hr.out, bW⟩
  · have hke : k = h.log.length := by omega
    have hi1 : ¬ (k : Int) < (h.log.length : Int) := by omega
    have Hr := Lib.hid (show decide (((h.snap.size + sizesE (h.log.take k) : Nat) : Int) ≤ 9000) = B by rw [HS.out, decide_eq_true H40.out, Bool.true_and, hke, List.take_length, decide_eq_decide]; omega)
    clear hke
    go_wp2
    all_goals
     go_ret
     refine ⟨ret_bool ?_, bW⟩
     rw [← Hr.out]
     first | rfl | (simp; omega) | simp_all
end Go.Proofs.YtgpgcnmnfnnkjaaGreatDoor
end

section
namespace Go.Proofs.YtgpgcnmnfnnkjaaGreatDoor
open Go Go.RowKit Go.PlainAid BigFrame
structure AskL where
 kind : Int
 n : Int
 h : Hrd
 hp : Option Addr
 hc : Nat
 pp : Option Addr
 pc : Nat
 picks : List Int
def AskL.vh (x : AskL) : Value := .slice x.hp x.h.log.length x.hc
def AskL.vp (x : AskL) : Value := .slice x.pp x.picks.length x.pc
@[reducible] def aslA (x : AskL) : Array Value := #[.int .i64 x.kind, .int .i64 x.n, .int .i64 x.h.term, .int .i64 x.h.vote, .int .i64 x.h.base, .int .i64 x.h.bterm, .int .i64 x.h.members, .string x.h.snap, .slice x.hp x.h.log.length x.hc, .slice x.pp x.picks.length x.pc]
structure AskLOk (w : World) (x : AskL) : Prop where
 log : Rd etyE w x.vh x.h.log
 picks : Rd intsE w x.vp x.picks
 hi : ∀ z ∈ x.picks, z ≤ 9223372036854775807
 few : x.h.log.length * 32 ≤ 140737488355328
 snap : x.h.snap.size ≤ 140737488355328
 data : ∀ y ∈ x.h.log, y.data.size ≤ 140737488355328
 n64 : -9223372036854775808 ≤ x.n ∧ x.n ≤ 9223372036854775807
theorem AskLOk.ext {w w' : World} {x : AskL} (h : AskLOk w x) (hb : Below w.heap.size w w') : AskLOk w' x := ⟨h.log.ext hb, h.picks.ext hb, h.hi, h.few, h.snap, h.data, h.n64⟩
end Go.Proofs.YtgpgcnmnfnnkjaaGreatDoor
end

section
namespace Go.Proofs.YtgpgcnmnfnnkjaaGreatDoor
open Go Go.RowKit Go.PlainAid
theorem insW_mem (out : List Nat) (n x : Nat) : x ∈ insW out n ↔ x = n ∨ x ∈ out := by
 unfold insW
 constructor
 · intro h
   rcases List.mem_append.1 h with h | h
   · exact .inr (List.mem_of_mem_take h)
   · rcases List.mem_cons.1 h with h | h
     · exact .inl h
     · exact .inr (List.mem_of_mem_drop h)
 · intro h
   rcases h with rfl | h
   · simp
   · rw [← List.take_append_drop (posR out n out.length) out] at h
     rcases List.mem_append.1 h with h | h
     · exact List.mem_append.2 (.inl h)
     · exact List.mem_append.2 (.inr (List.mem_cons_of_mem _ h))
theorem segs_mem : ∀ (l : List ByteArray) (out : List Nat) (n : Nat), n ∈ l.foldl segStep out ↔ n ∈ out ∨ (n ≠ 0 ∧ ∃ s ∈ l, numW s = n)
 | [], out, n => by simp
 | s :: l, out, n => by
  rw [List.foldl_cons, segs_mem l]
  unfold segStep
  constructor
  · rintro (h | ⟨h0, t, ht, hn⟩)
    · split at h
      · exact .inl h
      · rename_i hz
        rcases (insW_mem _ _ _).1 h with rfl | h
        · exact .inr ⟨hz, s, by simp, rfl⟩
        · exact .inl h
    · exact .inr ⟨h0, t, by simp [ht], hn⟩
  · rintro (h | ⟨h0, t, ht, hn⟩)
    · split
      · exact .inl h
      · exact .inl ((insW_mem _ _ _).2 (.inr h))
    · rcases List.mem_cons.1 ht with rfl | ht
      · rw [if_neg (by rw [hn]; exact h0)]
        exact .inl ((insW_mem _ _ _).2 (.inl hn.symm))
      · exact .inr ⟨h0, t, ht, hn⟩
theorem posR_spec (out : List Nat) (n : Nat) : ∀ k, (∀ i, posR out n k ≤ i → i < k → n < out.getD i 0) ∧ (0 < posR out n k → out.getD (posR out n k - 1) 0 ≤ n)
 | 0 => ⟨fun i h1 h2 => by omega, fun h => by simp [posR] at h⟩
 | k + 1 => by
  obtain ⟨h1, h2⟩ := posR_spec out n k
  rw [posR]
  split
  · rename_i hc
    refine ⟨fun i i1 i2 => ?_, h2⟩
    by_cases e : i = k
    · subst e; exact hc
    · exact h1 i i1 (by omega)
  · rename_i hc
    exact ⟨fun i i1 i2 => by omega, fun _ => by rw [Nat.add_sub_cancel]; omega⟩
def RiseN (l : List Nat) : Prop := l.Pairwise (· ≤ ·)
theorem getD_at {l : List Nat} {i : Nat} (h : i < l.length) : l.getD i 0 = l[i] := by rw [List.getD_eq_getElem?_getD, List.getElem?_eq_getElem h]; rfl
theorem insW_rise {out : List Nat} (h : RiseN out) (n : Nat) : RiseN (insW out n) := by
 obtain ⟨h1, h2⟩ := posR_spec out n out.length
 have hle := posR_le out n out.length
 unfold insW RiseN at *
 generalize posR out n out.length = p at *
 have hp := h
 rw [List.pairwise_iff_getElem] at hp
 rw [List.pairwise_append]
 have hlo : ∀ a ∈ out.take p, a ≤ n := fun a ha => by
  obtain ⟨i, hi, rfl⟩ := List.getElem_of_mem ha
  rw [List.length_take] at hi
  rw [List.getElem_take]
  have h3 := h2 (by omega)
  rw [getD_at (by omega)] at h3
  by_cases e : i = p - 1
  · subst e; exact h3
  · exact Nat.le_trans (hp i (p - 1) (by omega) (by omega) (by omega)) h3
 have hhi : ∀ b ∈ out.drop p, n ≤ b := fun b hb => by
  obtain ⟨i, hi, rfl⟩ := List.getElem_of_mem hb
  rw [List.length_drop] at hi
  rw [List.getElem_drop]
  have := h1 (p + i) (by omega) (by omega)
  rw [getD_at (by omega)] at this
  omega
 refine ⟨h.sublist (List.take_sublist _ _), List.pairwise_cons.2 ⟨hhi, h.sublist (List.drop_sublist _ _)⟩, fun a ha b hb => ?_⟩
 rcases List.mem_cons.1 hb with rfl | hb
 · exact hlo a ha
 · exact Nat.le_trans (hlo a ha) (hhi b hb)
theorem segs_rise : ∀ (l : List ByteArray) (out : List Nat), RiseN out → RiseN (l.foldl segStep out)
 | [], out, h => h
 | s :: l, out, h => by
  rw [List.foldl_cons]
  refine segs_rise l _ ?_
  unfold segStep
  split
  · exact h
  · exact insW_rise h _
def segsD (d : Dk) : List Nat := segsW (d.fs.map (·.name))
theorem get_mem {l : List Fil} {s : ByteArray} : getF l s ≠ none ↔ ∃ f ∈ l, f.name = s := by
 constructor
 · intro h
   cases hf : getF l s with
   | none => exact absurd hf h
   | some f =>
    obtain ⟨j, hj, _, e, en⟩ := get_at hf
    exact ⟨f, e ▸ List.getElem_mem hj, en⟩
 · rintro ⟨f, hf, rfl⟩ h
   exact get_none h f hf rfl
theorem segs_iff (d : Dk) (n : Nat) : n ∈ segsD d ↔ okN n ∧ getF d.fs (nameW n) ≠ none := by
 unfold segsD segsW
 rw [segs_mem, get_mem]
 constructor
 · rintro (h | ⟨h0, s, hs, hn⟩)
   · cases h
   · obtain ⟨f, hf, rfl⟩ := List.mem_map.1 hs
     have hz : numW f.name ≠ 0 := by rw [hn]; exact h0
     obtain ⟨h1, h2⟩ := name_num hz
     rw [hn] at h1 h2
     exact ⟨h1, f, hf, h2⟩
 · rintro ⟨h1, f, hf, e⟩
   exact .inr ⟨by have := h1.1; omega, f.name, List.mem_map.2 ⟨f, hf, rfl⟩, by rw [e]; exact numW_name h1⟩
theorem fileW_get (d : Dk) (n : Nat) : fileW d n = ((getF d.fs (nameW n)).map (·.data)).getD [] := by unfold fileW; rw [read_getF]
theorem fileW_some {d : Dk} {n : Nat} {f : Fil} (h : getF d.fs (nameW n) = some f) : fileW d n = f.data := by rw [fileW_get, h]; rfl
theorem pickW_spec (d : Dk) (n : Nat) : ∀ (l : List Nat), n ∈ l → (l.Pairwise fun a b => b ≤ a) → (readSeg (fileW d n)).whole = true → (∀ k ∈ l, n < k → (readSeg (fileW d k)).whole = false) → pickW d l = some (n, readSeg (fileW d n))
 | [], h, _, _, _ => by cases h
 | k :: r, h, hs, hw, hno => by
  rw [show pickW d (k :: r) = if (readSeg (fileW d k)).whole then some (k, readSeg (fileW d k)) else pickW d r from rfl]
  rw [List.pairwise_cons] at hs
  by_cases e : k = n
  · subst e; rw [if_pos hw]
  · have hr : n ∈ r := by
     rcases List.mem_cons.1 h with h | h
     · exact absurd h.symm e
     · exact h
    have hlt := hs.1 n hr
    rw [if_neg (by rw [hno k (by simp) (by omega)]; decide)]
    exact pickW_spec d n r hr hs.2 hw fun x hx => hno x (by simp [hx])
theorem pickN_spec {d : Dk} {n : Nat} (hn : okN n) {f : Fil} (hf : getF d.fs (nameW n) = some f) (hw : (readSeg f.data).whole = true) (hno : ∀ k, okN k → n < k → ∀ g, getF d.fs (nameW k) = some g → (readSeg g.data).whole = false) : pickN d = (n, readSeg f.data) := by
 have e := fileW_some hf
 have h1 : n ∈ (segsD d).reverse := List.mem_reverse.2 ((segs_iff d n).2 ⟨hn, by rw [hf]; simp⟩)
 have h2 : (segsD d).reverse.Pairwise fun a b => b ≤ a := List.pairwise_reverse.2 (segs_rise _ [] List.Pairwise.nil)
 have h3 := pickW_spec d n _ h1 h2 (by rw [e]; exact hw) fun k hk hlt => by
  obtain ⟨k1, k2⟩ := (segs_iff d k).1 (List.mem_reverse.1 hk)
  cases hg : getF d.fs (nameW k) with
  | none => exact absurd hg k2
  | some g => rw [fileW_some hg]; exact hno k k1 hlt g hg
 unfold pickN
 show (pickW d (segsD d).reverse).getD (0, sg0) = _
 rw [h3, e]; rfl
theorem pickN_none {d : Dk} (h : ∀ k, okN k → getF d.fs (nameW k) = none) : pickN d = (0, sg0) := by
 have : segsD d = [] := by
  rw [List.eq_nil_iff_forall_not_mem]
  intro n hn
  obtain ⟨h1, h2⟩ := (segs_iff d n).1 hn
  exact h2 (h n h1)
 unfold pickN
 show (pickW d (segsD d).reverse).getD (0, sg0) = _
 rw [this]; rfl
end Go.Proofs.YtgpgcnmnfnnkjaaGreatDoor
end
