/- The document's RightEntry and Right. Small Hards. An ask of the laws of the log, as it lies. Walks of package store: named, numbered. -/
import Derived.Test.YtgpgcnmnfnnkjaaGreatDoorGStoreCuts24
import Derived.Test.YtgpgcnmnfnnkjaaGreatDoorGStoreCuts2
import Derived.Deep.RegionHeld3
import Derived.Test.YtgpgcnmnfnnkjaaGreatDoorGStoreCuts23
import Derived.Test.YtgpgcnmnfnnkjaaGreatDoorGStoreCuts11
set_option linter.unusedVariables false
set_option linter.unusedSimpArgs false
section
namespace Go.Proofs.YtgpgcnmnfnnkjaaGreatDoor
open Go Go.RowKit Go.PlainAid BigFrame
attribute [local go_sem] After.same
set_option maxRecDepth 4000 in
set_option maxHeartbeats 4000000 in
theorem refEntry (x : Ety) (b t : Int) (w : World) : Calls Tryz.prog 69 #[.agg #[.int .i64 x.term, .int .i64 x.members, .string x.data], .int .i64 b, .int .i64 t] w fun e w' => e = .returned (.bool (fitsE x b t)) ∧ Below w.heap.size w w' := by
 have Hf := Lib.hid (fitsE_iff x b t)
 generalize fitsE x b t = r at *
 by_cases hd : x.data.size = 0 <;> cases d1 : (x.members == 0)
 all_goals
  first | have he := str_none hd | have he := str_some hd
  simp only [beq_iff_eq, beq_eq_false_iff_ne, ne_eq] at d1
  have d2 : (x.members == 0) = decide (x.members = 0) := rfl
  first | rw [decide_eq_true d1] at d2 | rw [decide_eq_false d1] at d2
  go_enter Tryz.func69, Tryz.ntmps69
  go_wp2
  all_goals
   go_ret
   refine ⟨ret_bool (bool_of Hf.out ?_).symm.symm, below_alloc _ _⟩
   first
   | (simp; done)
   | (simp; omega)
   | (constructor <;> intro h <;> simp_all <;> omega)
theorem rightH_all (h : Hrd) : rightH h = true ↔ (((0 ≤ h.term ∧ h.term ≤ 1099511627776 ∧ -1 ≤ h.vote ∧ h.vote < 7 ∧ 0 ≤ h.base ∧ h.base ≤ 1099511627776 ∧ 0 ≤ h.bterm ∧ h.bterm ≤ h.term) ∧ (h.base = 0 ↔ h.bterm = 0) ∧ 1 ≤ h.members ∧ h.members < 128 ∧ (h.base = 0 ↔ h.snap.size = 0) ∧ h.snap.size ≤ 65536 ∧ h.log.length ≤ 200 ∧ h.base ≤ 1099511627776 - (h.log.length : Int)) ∧ logOk h.log h.bterm h.term = true) := by
 unfold rightH
 rw [Bool.and_eq_true, Bool.and_eq_true, bareH_all, beq_iff_eq, decide_eq_decide, decide_eq_true_iff]
 constructor
 · rintro ⟨⟨⟨⟨a1, a2, a3, a4, a5, a6, a7, a8, a9, a10, a11⟩, a12, a13, a14⟩, b1⟩, b2⟩
   exact ⟨⟨⟨a1, a2, a3, a4, a7, a8, a9, a10⟩, a11.symm, a5, by omega, b1.symm, b2, a12, by omega⟩, a14⟩
 · rintro ⟨⟨⟨a1, a2, a3, a4, a7, a8, a9, a10⟩, a11, a5, a6, b1, b2, a12, a13⟩, a14⟩
   exact ⟨⟨⟨⟨a1, a2, a3, a4, a5, by omega, a7, a8, a9, a10, a11.symm⟩, a12, by omega, a14⟩, b1.symm⟩, b2⟩
theorem empty_eq (s : ByteArray) : s.toList.isEmpty = decide (s.size = 0) := by
 by_cases hs : s.size = 0
 · rw [str_none hs, decide_eq_true hs]
 · rw [str_some hs, decide_eq_false hs]
set_option maxRecDepth 8000 in
set_option maxHeartbeats 16000000 in
theorem refRight (h : Hrd) (v : Value) (w : World) (hv : Rd etyE w v h.log) :
 Calls Tryz.prog 24 #[hrdA h v] w fun e w' => e = .returned (.bool (rightH h)) ∧ Below w.heap.size w w' := by
 obtain ⟨p, cap, rfl⟩ := hv.shape
 have hmax := hv.le
 unfold maxLen at hmax
 have HB := Lib.hid (rightH_all h)
 generalize rightH h = B at *
 have bW := below_alloc w (.cells #[.int .i64 h.term, .int .i64 h.vote, .int .i64 h.base, .int .i64 h.bterm, .int .i64 h.members, .string h.snap, .slice p h.log.length cap] 24)
 have kA := Blk.new w #[.int .i64 h.term, .int .i64 h.vote, .int .i64 h.base, .int .i64 h.bterm, .int .i64 h.members, .string h.snap, .slice p h.log.length cap] 24
 have x0 := kA.cell 0 _ rfl
 have x1 := kA.cell 1 _ rfl
 have x2 := kA.cell 2 _ rfl
 have x3 := kA.cell 3 _ rfl
 have x4 := kA.cell 4 _ rfl
 have x5 := kA.cell 5 _ rfl
 have x6 := kA.cell 6 _ rfl
 clear kA
 by_cases e0 : 0 ≤ h.term
 case neg =>
  have Hr := Lib.hid (no_of HB.out (fun hh => e0 hh.1.1.1))
  have n0 : decide (h.term < 0) = true := decide_eq_true (by omega)
  clear e0
  clear hv HB
  go_enter Tryz.func24, Tryz.ntmps24
  go_upto_region 1 with (fail)
  refine wp_region_plain2 (by simp only [List.append]; rfl) ?_
  repeat (go_big_quiet_step (fail))
  refine wpQuiet_nil ?_
  go_wp2
  go_ret
  exact ⟨ret_bool Hr.out, bW⟩
 have n0 : decide (h.term < 0) = false := decide_eq_false (by omega)
 have E0 := Lib.hid e0
 clear e0
 by_cases e1 : h.term ≤ 1099511627776
 case neg =>
  have Hr := Lib.hid (no_of HB.out (fun hh => e1 hh.1.1.2.1))
  have n1 : decide (1099511627776 < h.term) = true := decide_eq_true (by omega)
  clear e1
  clear hv HB
  go_enter Tryz.func24, Tryz.ntmps24
  go_upto_region 1 with (fail)
  refine wp_region_plain2 (by simp only [List.append]; rfl) ?_
  repeat (go_big_quiet_step (fail))
  refine wpQuiet_nil ?_
  go_wp2
  go_ret
  exact ⟨ret_bool Hr.out, bW⟩
 have n1 : decide (1099511627776 < h.term) = false := decide_eq_false (by omega)
 have E1 := Lib.hid e1
 clear e1
 by_cases e2 : -1 ≤ h.vote
 case neg =>
  have Hr := Lib.hid (no_of HB.out (fun hh => e2 hh.1.1.2.2.1))
  have n2 : decide (h.vote < -1) = true := decide_eq_true (by omega)
  clear e2
  clear hv HB
  go_enter Tryz.func24, Tryz.ntmps24
  go_upto_region 1 with (fail)
  refine wp_region_plain2 (by simp only [List.append]; rfl) ?_
  repeat (go_big_quiet_step (fail))
  refine wpQuiet_nil ?_
  go_wp2
  go_ret
  exact ⟨ret_bool Hr.out, bW⟩
 have n2 : decide (h.vote < -1) = false := decide_eq_false (by omega)
 have E2 := Lib.hid e2
 clear e2
 by_cases e3 : h.vote < 7
 case neg =>
  have Hr := Lib.hid (no_of HB.out (fun hh => e3 hh.1.1.2.2.2.1))
  have n3 : decide (7 ≤ h.vote) = true := decide_eq_true (by omega)
  clear e3
  clear hv HB
  go_enter Tryz.func24, Tryz.ntmps24
  go_upto_region 1 with (fail)
  refine wp_region_plain2 (by simp only [List.append]; rfl) ?_
  repeat (go_big_quiet_step (fail))
  refine wpQuiet_nil ?_
  go_wp2
  go_ret
  exact ⟨ret_bool Hr.out, bW⟩
 have n3 : decide (7 ≤ h.vote) = false := decide_eq_false (by omega)
 have E3 := Lib.hid e3
 clear e3
 by_cases e4 : 0 ≤ h.base
 case neg =>
  have Hr := Lib.hid (no_of HB.out (fun hh => e4 hh.1.1.2.2.2.2.1))
  have n4 : decide (h.base < 0) = true := decide_eq_true (by omega)
  clear e4
  clear hv HB
  go_enter Tryz.func24, Tryz.ntmps24
  go_upto_region 1 with (fail)
  refine wp_region_plain2 (by simp only [List.append]; rfl) ?_
  repeat (go_big_quiet_step (fail))
  refine wpQuiet_nil ?_
  go_wp2
  go_ret
  exact ⟨ret_bool Hr.out, bW⟩
 have n4 : decide (h.base < 0) = false := decide_eq_false (by omega)
 have E4 := Lib.hid e4
 clear e4
 by_cases e5 : h.base ≤ 1099511627776
 case neg =>
  have Hr := Lib.hid (no_of HB.out (fun hh => e5 hh.1.1.2.2.2.2.2.1))
  have n5 : decide (1099511627776 < h.base) = true := decide_eq_true (by omega)
  clear e5
  clear hv HB
  go_enter Tryz.func24, Tryz.ntmps24
  go_upto_region 1 with (fail)
  refine wp_region_plain2 (by simp only [List.append]; rfl) ?_
  repeat (go_big_quiet_step (fail))
  refine wpQuiet_nil ?_
  go_wp2
  go_ret
  exact ⟨ret_bool Hr.out, bW⟩
 have n5 : decide (1099511627776 < h.base) = false := decide_eq_false (by omega)
 have E5 := Lib.hid e5
 clear e5
 by_cases e6 : 0 ≤ h.bterm
 case neg =>
  have Hr := Lib.hid (no_of HB.out (fun hh => e6 hh.1.1.2.2.2.2.2.2.1))
  have n6 : decide (h.bterm < 0) = true := decide_eq_true (by omega)
  clear e6
  clear hv HB
  go_enter Tryz.func24, Tryz.ntmps24
  go_upto_region 1 with (fail)
  refine wp_region_plain2 (by simp only [List.append]; rfl) ?_
  repeat (go_big_quiet_step (fail))
  refine wpQuiet_nil ?_
  go_wp2
  go_ret
  exact ⟨ret_bool Hr.out, bW⟩
 have n6 : decide (h.bterm < 0) = false := decide_eq_false (by omega)
 have E6 := Lib.hid e6
 clear e6
 by_cases e7 : h.bterm ≤ h.term
 case neg =>
  have Hr := Lib.hid (no_of HB.out (fun hh => e7 hh.1.1.2.2.2.2.2.2.2))
  have n7 : decide (h.term < h.bterm) = true := decide_eq_true (by omega)
  clear e7
  clear hv HB
  go_enter Tryz.func24, Tryz.ntmps24
  go_upto_region 1 with (fail)
  refine wp_region_plain2 (by simp only [List.append]; rfl) ?_
  repeat (go_big_quiet_step (fail))
  refine wpQuiet_nil ?_
  go_wp2
  go_ret
  exact ⟨ret_bool Hr.out, bW⟩
 have n7 : decide (h.term < h.bterm) = false := decide_eq_false (by omega)
 have E7 := Lib.hid e7
 clear e7
 by_cases e8 : (h.base = 0 ↔ h.bterm = 0)
 case neg =>
  have Hr := Lib.hid (no_of HB.out (fun hh => e8 hh.1.2.1))
  have n8 : (h.base == 0) = !(h.bterm == 0) := by
   have a1 : (h.base == 0) = decide (h.base = 0) := rfl
   have a2 : (h.bterm == 0) = decide (h.bterm = 0) := rfl
   rw [a1, a2]
   by_cases x : h.base = 0 <;> by_cases y : h.bterm = 0 <;> simp_all
  clear e8
  clear hv HB
  go_enter Tryz.func24, Tryz.ntmps24
  go_upto_region 1 with (fail)
  refine wp_region_plain2 (by simp only [List.append]; rfl) ?_
  repeat (go_big_quiet_step (fail))
  refine wpQuiet_nil ?_
  go_wp2
  go_ret
  exact ⟨ret_bool Hr.out, bW⟩
 have n8 : (h.base == 0) = (h.bterm == 0) := by
  have a1 : (h.base == 0) = decide (h.base = 0) := rfl
  have a2 : (h.bterm == 0) = decide (h.bterm = 0) := rfl
  rw [a1, a2, decide_eq_decide]; exact e8
 have E8 := Lib.hid e8
 clear e8
 by_cases e9 : 1 ≤ h.members
 case neg =>
  have Hr := Lib.hid (no_of HB.out (fun hh => e9 hh.1.2.2.1))
  have n9 : decide (h.members < 1) = true := decide_eq_true (by omega)
  clear e9
  clear hv HB
  go_enter Tryz.func24, Tryz.ntmps24
  go_upto_region 1 with (fail)
  refine wp_region_plain2 (by simp only [List.append]; rfl) ?_
  repeat (go_big_quiet_step (fail))
  refine wpQuiet_nil ?_
  go_wp2
  go_ret
  exact ⟨ret_bool Hr.out, bW⟩
 have n9 : decide (h.members < 1) = false := decide_eq_false (by omega)
 have E9 := Lib.hid e9
 clear e9
 by_cases e10 : h.members < 128
 case neg =>
  have Hr := Lib.hid (no_of HB.out (fun hh => e10 hh.1.2.2.2.1))
  have n10 : decide (128 ≤ h.members) = true := decide_eq_true (by omega)
  clear e10
  clear hv HB
  go_enter Tryz.func24, Tryz.ntmps24
  go_upto_region 1 with (fail)
  refine wp_region_plain2 (by simp only [List.append]; rfl) ?_
  repeat (go_big_quiet_step (fail))
  refine wpQuiet_nil ?_
  go_wp2
  go_ret
  exact ⟨ret_bool Hr.out, bW⟩
 have n10 : decide (128 ≤ h.members) = false := decide_eq_false (by omega)
 have E10 := Lib.hid e10
 clear e10
 by_cases e11 : (h.base = 0 ↔ h.snap.size = 0)
 case neg =>
  have Hr := Lib.hid (no_of HB.out (fun hh => e11 hh.1.2.2.2.2.1))
  have n11 : h.snap.toList.isEmpty = !(h.bterm == 0) := by
   rw [← n8, empty_eq]
   have a1 : (h.base == 0) = decide (h.base = 0) := rfl
   rw [a1]
   by_cases x : h.base = 0 <;> by_cases y : h.snap.size = 0 <;> simp_all
  clear e11
  clear hv HB
  go_enter Tryz.func24, Tryz.ntmps24
  go_upto_region 1 with (fail)
  refine wp_region_plain2 (by simp only [List.append]; rfl) ?_
  repeat (go_big_quiet_step (fail))
  refine wpQuiet_nil ?_
  go_wp2
  go_ret
  exact ⟨ret_bool Hr.out, bW⟩
 have n11 : h.snap.toList.isEmpty = (h.bterm == 0) := by
  rw [← n8, empty_eq]
  have a1 : (h.base == 0) = decide (h.base = 0) := rfl
  rw [a1, decide_eq_decide]; exact e11.symm
 have E11 := Lib.hid e11
 clear e11
 by_cases e12 : h.snap.size ≤ 65536
 case neg =>
  have Hr := Lib.hid (no_of HB.out (fun hh => e12 hh.1.2.2.2.2.2.1))
  have n12 : decide ((65536 : Int) < (h.snap.size : Int)) = true := decide_eq_true (by omega)
  clear e12
  clear hv HB
  go_enter Tryz.func24, Tryz.ntmps24
  go_upto_region 1 with (fail)
  refine wp_region_plain2 (by simp only [List.append]; rfl) ?_
  repeat (go_big_quiet_step (fail))
  refine wpQuiet_nil ?_
  go_wp2
  go_ret
  exact ⟨ret_bool Hr.out, bW⟩
 have n12 : decide ((65536 : Int) < (h.snap.size : Int)) = false := decide_eq_false (by omega)
 have E12 := Lib.hid e12
 clear e12
 by_cases e13 : h.log.length ≤ 200
 case neg =>
  have Hr := Lib.hid (no_of HB.out (fun hh => e13 hh.1.2.2.2.2.2.2.1))
  have n13 : decide ((200 : Int) < (h.log.length : Int)) = true := decide_eq_true (by omega)
  clear e13
  clear hv HB
  go_enter Tryz.func24, Tryz.ntmps24
  go_upto_region 1 with (fail)
  refine wp_region_plain2 (by simp only [List.append]; rfl) ?_
  repeat (go_big_quiet_step (fail))
  refine wpQuiet_nil ?_
  go_wp2
  go_ret
  exact ⟨ret_bool Hr.out, bW⟩
 have n13 : decide ((200 : Int) < (h.log.length : Int)) = false := decide_eq_false (by omega)
 have E13 := Lib.hid e13
 clear e13
 by_cases e14 : h.base ≤ 1099511627776 - (h.log.length : Int)
 case neg =>
  have Hr := Lib.hid (no_of HB.out (fun hh => e14 hh.1.2.2.2.2.2.2.2))
  have n14 : decide (1099511627776 - (h.log.length : Int) < h.base) = true := decide_eq_true (by omega)
  clear e14
  clear hv HB
  go_enter Tryz.func24, Tryz.ntmps24
  go_upto_region 1 with (fail)
  refine wp_region_plain2 (by simp only [List.append]; rfl) ?_
  repeat (go_big_quiet_step (fail))
  refine wpQuiet_nil ?_
  go_wp2
  go_ret
  exact ⟨ret_bool Hr.out, bW⟩
 have n14 : decide (1099511627776 - (h.log.length : Int) < h.base) = false := decide_eq_false (by omega)
 have E14 := Lib.hid e14
 clear e14
 have hh : ((0 ≤ h.term ∧ h.term ≤ 1099511627776 ∧ -1 ≤ h.vote ∧ h.vote < 7 ∧ 0 ≤ h.base ∧ h.base ≤ 1099511627776 ∧ 0 ≤ h.bterm ∧ h.bterm ≤ h.term) ∧ (h.base = 0 ↔ h.bterm = 0) ∧ 1 ≤ h.members ∧ h.members < 128 ∧ (h.base = 0 ↔ h.snap.size = 0) ∧ h.snap.size ≤ 65536 ∧ h.log.length ≤ 200 ∧ h.base ≤ 1099511627776 - (h.log.length : Int)) := ⟨⟨E0.out, E1.out, E2.out, E3.out, E4.out, E5.out, E6.out, E7.out⟩, E8.out, E9.out, E10.out, E11.out, E12.out, E13.out, E14.out⟩
 have Hh := Lib.hid hh
 clear hh
 clear E0 E1 E2 E3 E4 E5 E6 E7 E8 E9 E10 E11 E12 E13 E14
 have hvW := hv.ext bW
 have Hno := Lib.hid (fun (k : Nat) (n : logOk (h.log.take k) h.bterm h.term = false) => no_of HB.out (fun hh => by have h2 := logOk_take hh.2 k; rw [n] at h2; cases h2))
 clear hv
 go_enter Tryz.func24, Tryz.ntmps24
 go_upto_region 1 with (fail)
 refine wp_region_plain2 (by simp only [List.append]; rfl) ?_
 repeat (go_big_quiet_step (fail))
 refine wpQuiet_nil ?_
 go_wp2
 clear n0 n1 n2 n3 n4 n5 n6 n7 n8 n9 n10 n11 n12 n13 n14 x1 x2 x3 x4 x5
 have hW : (w.alloc (.cells #[.int .i64 h.term, .int .i64 h.vote, .int .i64 h.base, .int .i64 h.bterm, .int .i64 h.members, .string h.snap, .slice p h.log.length cap] 24)).heap.size = w.heap.size + 1 := by simp
 generalize hZ : w.alloc (.cells #[.int .i64 h.term, .int .i64 h.vote, .int .i64 h.base, .int .i64 h.bterm, .int .i64 h.members, .string h.snap, .slice p h.log.length cap] 24) = W at *
 clear hZ
 go_loopw [3, 4] (fun b i wr => ∃ k : Nat, k ≤ h.log.length ∧ i = .int .i64 k ∧ b = .int .i64 (lastT (h.log.take k) h.bterm) ∧ Hid (logOk (h.log.take k) h.bterm h.term = true) ∧ Below W.heap.size W wr) (fun _ i _ => h.log.length - (intOf i).toNat)
 case atStart => exact ⟨0, by omega, rfl, rfl, rfl, Below.refl _ _⟩
 case round =>
  obtain ⟨k, hk, rfl, rfl, hlog, hb⟩ := hrel
  have hbw := bW.trans (hb.mono (by omega))
  have hwl : w.heap.size < W.heap.size := by omega
  have c0 : wr.cell? ⟨w.heap.size, 0, none⟩ = some (.int .i64 h.term) := by rw [hb.cell (p := ⟨w.heap.size, 0, none⟩) hwl]; exact x0
  have c6 : wr.cell? ⟨w.heap.size, 6, none⟩ = some (.slice p h.log.length cap) := by rw [hb.cell (p := ⟨w.heap.size, 6, none⟩) hwl]; exact x6
  clear x0 x6
  by_cases hlt : k < h.log.length
  · have hvr := hvW.ext hb
    obtain ⟨bb, off, rfl⟩ := Rd.blk hvr (by omega)
    have hi : (k : Int) < (h.log.length : Int) := by omega
    have hi0 : (0 : Int) ≤ (k : Int) := by omega
    have hsz := hb.size
    have hsnoc := Lib.hid (logOk_snoc hlt hlog.out)
    have hlast : lastT (h.log.take (k + 1)) h.bterm = (h.log[k]).term := by rw [List.take_succ_eq_append_getElem hlt, lastT_snoc]
    have Hlast := Lib.hid hlast
    have hz0 : ∀ z : After wr, z.1.cell? ⟨w.heap.size, 0, none⟩ = some (.int .i64 h.term) := fun z => by rw [z.2.cell (p := ⟨w.heap.size, 0, none⟩) (by show w.heap.size < _; omega)]; exact c0
    have hz6 : ∀ z : After wr, z.1.cell? ⟨w.heap.size, 6, none⟩ = some (.slice (some ⟨bb, off, none⟩) h.log.length cap) := fun z => by rw [z.2.cell (p := ⟨w.heap.size, 6, none⟩) (by show w.heap.size < _; omega)]; exact c6
    have hy0 : ∀ z : After wr, z.1.cell? ⟨bb, off + k * 3, none⟩ = some (.int .i64 (h.log[k]).term) := fun z => (ety3 (hvr.ext z.2) hlt).1
    have hy1 : ∀ z : After wr, z.1.cell? ⟨bb, off + k * 3 + 1, none⟩ = some (.int .i64 (h.log[k]).members) := fun z => (ety3 (hvr.ext z.2) hlt).2.1
    have hy2 : ∀ z : After wr, z.1.cell? ⟨bb, off + k * 3 + 2, none⟩ = some (.string (h.log[k]).data) := fun z => (ety3 (hvr.ext z.2) hlt).2.2
    clear hlast hvW
    generalize h.log[k] = x at *
    generalize lastT (h.log.take k) h.bterm = T at *
    go_wp2_with fail
    cases hf : fitsE x T h.term with
    | false =>
     have hcl : ∀ z : After wr, Calls Tryz.prog 69 #[.agg #[.int .i64 x.term, .int .i64 x.members, .string x.data], .int .i64 T, .int .i64 h.term] z.1 fun e w' => e = .returned (.bool false) ∧ ∃ y : After wr, w' = y.1 := fun z => z.call ((refEntry x T h.term z.1).mono fun e w' hh => ⟨by rw [hh.1, hf], hh.2⟩)
     have Hr := Lib.hid (Hno.out (k + 1) (by rw [hsnoc.out, hf]))
     clear hf
     refine wp_region_after (by kernel_rfl) (by kernel_rfl) ?_
     repeat (go_big_quiet_step (exact hcl _))
     refine wpQuiet_nil ?_
     rintro _ ⟨⟨w7, c7⟩, rfl⟩
     clear hcl hz0 hz6 hy0 hy1 hy2
     have b7 := hbw.trans (c7.mono hbw.size)
     go_wp2_with fail
     go_ret
     exact ⟨ret_bool Hr.out, b7⟩
    | true =>
     have hcl : ∀ z : After wr, Calls Tryz.prog 69 #[.agg #[.int .i64 x.term, .int .i64 x.members, .string x.data], .int .i64 T, .int .i64 h.term] z.1 fun e w' => e = .returned (.bool true) ∧ ∃ y : After wr, w' = y.1 := fun z => z.call ((refEntry x T h.term z.1).mono fun e w' hh => ⟨by rw [hh.1, hf], hh.2⟩)
     have Hok := Lib.hid (show logOk (h.log.take (k + 1)) h.bterm h.term = true by rw [hsnoc.out, hf])
     clear hf
     refine wp_region_after (by kernel_rfl) (by kernel_rfl) ?_
     repeat (go_big_quiet_step (exact hcl _))
     refine wpQuiet_nil ?_
     rintro w7 ⟨⟨w7x, c7⟩, hw7⟩
     change w7 = w7x at hw7
     subst hw7
     have z6 : w7.cell? ⟨w.heap.size, 6, none⟩ = some (.slice (some ⟨bb, off, none⟩) h.log.length cap) := hz6 ⟨w7, c7⟩
     have y0 : w7.cell? ⟨bb, off + k * 3, none⟩ = some (.int .i64 x.term) := hy0 ⟨w7, c7⟩
     have y1 : w7.cell? ⟨bb, off + k * 3 + 1, none⟩ = some (.int .i64 x.members) := hy1 ⟨w7, c7⟩
     have y2 : w7.cell? ⟨bb, off + k * 3 + 2, none⟩ = some (.string x.data) := hy2 ⟨w7, c7⟩
     clear hcl hz0 hz6 hy0 hy1 hy2
     have b7 := hb.trans (c7.mono hsz)
     go_wp2_with fail
     go_roundw
     case rel => exact ⟨k + 1, by omega, by go_num, by rw [Hlast.out], Hok.out, b7⟩
     case measure => simp [intOf]; omega
  · have hke : k = h.log.length := by omega
    have hi : ¬ (k : Int) < (h.log.length : Int) := by omega
    have Hk := Lib.hid hke
    clear hke
    go_wp2
    go_ret
    have hl := hlog.out
    rw [Hk.out, List.take_of_length_le (Nat.le_refl _)] at hl
    have hB := HB.out.2 ⟨Hh.out, hl⟩
    exact ⟨ret_bool hB.symm, hbw⟩
end Go.Proofs.YtgpgcnmnfnnkjaaGreatDoor
end

section
namespace Go.Proofs.YtgpgcnmnfnnkjaaGreatDoor
open Go Go.RowKit Go.PlainAid BigFrame
attribute [local go_sem] After.same
def sizesE (l : List Ety) : Nat := (l.map fun x => x.data.size).sum
def smallH (h : Hrd) : Bool := decide (h.log.length ≤ 40) && decide (h.snap.size + sizesE h.log ≤ 9000)
theorem sizesE_snoc {l : List Ety} {k : Nat} (h : k < l.length) : sizesE (l.take (k + 1)) = sizesE (l.take k) + l[k].data.size := by
 unfold sizesE; rw [List.take_succ_eq_append_getElem h, List.map_append, List.sum_append]; simp
theorem sizesE_take (l : List Ety) (k : Nat) : sizesE (l.take k) ≤ sizesE l := by
 conv => rhs; rw [← List.take_append_drop k l]
 unfold sizesE; rw [List.map_append, List.sum_append]; omega
set_option maxRecDepth 8000 in
set_option maxHeartbeats 4000000 in
theorem refSmall (h : Hrd) (v : Value) (w : World) (hv : Rd etyE w v h.log) (hsz : h.snap.size ≤ 281474976710656) (hdz : ∀ x ∈ h.log, x.data.size ≤ 281474976710656) :
 Calls Tryz.prog 8 #[hrdA h v] w fun e w' => e = .returned (.bool (smallH h)) ∧ Below w.heap.size w w' := by
 obtain ⟨p, cap, rfl⟩ := hv.shape
 have hmax := hv.le
 unfold maxLen at hmax
 have hS : smallH h = (decide (h.log.length ≤ 40) && decide (h.snap.size + sizesE h.log ≤ 9000)) := rfl
 have HS := Lib.hid hS
 have Hdz := Lib.hid hdz
 clear hS hdz
 generalize smallH h = B at *
 have bW := below_alloc w (.cells #[.int .i64 h.term, .int .i64 h.vote, .int .i64 h.base, .int .i64 h.bterm, .int .i64 h.members, .string h.snap, .slice p h.log.length cap] 24)
 have kA := Blk.new w #[.int .i64 h.term, .int .i64 h.vote, .int .i64 h.base, .int .i64 h.bterm, .int .i64 h.members, .string h.snap, .slice p h.log.length cap] 24
 by_cases h40 : h.log.length ≤ 40
 case neg =>
  have hi : (40 : Int) < (h.log.length : Int) := by omega
  have Hr := Lib.hid (show false = B by rw [HS.out, decide_eq_false h40]; rfl)
  clear h40 HS kA
  go_enter Tryz.func8, Tryz.ntmps8
  go_wp2
  go_ret
  exact ⟨ret_bool Hr.out, bW⟩
 have hi : ¬ (40 : Int) < (h.log.length : Int) := by omega
 have H40 := Lib.hid h40
 clear h40
 have hvW := hv.ext bW
 have x6 := kA.cell 6 _ rfl
 go_enter Tryz.func8, Tryz.ntmps8
 go_wp2
 have hW : (w.alloc (.cells #[.int .i64 h.term, .int .i64 h.vote, .int .i64 h.base, .int .i64 h.bterm, .int .i64 h.members, .string h.snap, .slice p h.log.length cap] 24)).heap.size = w.heap.size + 1 := by simp
 generalize hZ : w.alloc (.cells #[.int .i64 h.term, .int .i64 h.vote, .int .i64 h.base, .int .i64 h.bterm, .int .i64 h.members, .string h.snap, .slice p h.log.length cap] 24) = W at *
 clear hZ kA hv
 go_loopw [3, 4] (fun b i wr => ∃ k : Nat, k ≤ h.log.length ∧ i = .int .i64 k ∧ b = .int .i64 ((h.snap.size + sizesE (h.log.take k) : Nat) : Int) ∧ (0 < k → h.snap.size + sizesE (h.log.take k) ≤ 9000) ∧ wr = W) (fun _ i _ => h.log.length - (intOf i).toNat)
 case atStart => exact ⟨0, by omega, rfl, by simp [sizesE], by omega, rfl⟩
 case round =>
  obtain ⟨k, hk, rfl, rfl, hle, rfl⟩ := hrel
  by_cases hlt : k < h.log.length
  · obtain ⟨bb, off, rfl⟩ := Rd.blk hvW (by omega)
    obtain ⟨c0, c1, c2⟩ := ety3 hvW hlt
    have hi1 : (k : Int) < (h.log.length : Int) := by omega
    have hi0 : (0 : Int) ≤ (k : Int) := by omega
    have hsn := sizesE_snoc hlt
    have hst := sizesE_take h.log (k + 1)
    have hs3 : h.log[k].data.size ≤ 281474976710656 := Hdz.out _ (List.getElem_mem hlt)
    have Hsn := Lib.hid hsn
    have hb0 : h.snap.size + sizesE (h.log.take k) ≤ 281474976710656 := by
     rcases Nat.eq_zero_or_pos k with q | q
     · subst q; simpa [sizesE] using hsz
     · have := hle q; omega
    clear hsn hle
    generalize h.log[k] = x at *
    generalize sizesE (h.log.take k) = S at *
    by_cases h9 : h.snap.size + S + x.data.size ≤ 9000
    · have h9i : ¬ (9000 : Int) < ((h.snap.size + S : Nat) : Int) + (x.data.size : Int) := by omega
      have Hq := Lib.hid (show h.snap.size + sizesE (h.log.take (k + 1)) ≤ 9000 by rw [Hsn.out]; omega)
      have Hs := Lib.hid (show ((h.snap.size + S : Nat) : Int) + (x.data.size : Int) = ((h.snap.size + sizesE (h.log.take (k + 1)) : Nat) : Int) by rw [Hsn.out]; omega)
      have hr1 : ((h.snap.size + S : Nat) : Int) + (x.data.size : Int) ≤ 9223372036854775807 := by omega
      have hr0 : (0 : Int) ≤ ((h.snap.size + S : Nat) : Int) := by omega
      go_wp2
      go_roundw
      case rel => exact ⟨k + 1, by omega, by go_num, by rw [← Hs.out]; go_num, fun _ => Hq.out, trivial⟩
      case measure => simp [intOf]; omega
    · have h9i : (9000 : Int) < ((h.snap.size + S : Nat) : Int) + (x.data.size : Int) := by omega
      have hr1 : ((h.snap.size + S : Nat) : Int) + (x.data.size : Int) ≤ 9223372036854775807 := by omega
      have hr0 : (0 : Int) ≤ ((h.snap.size + S : Nat) : Int) := by omega
      have Hr := Lib.hid (show false = B by rw [HS.out, decide_eq_false (by rw [Hsn.out] at hst; omega : ¬ h.snap.size + sizesE h.log ≤ 9000), Bool.and_false])
      go_wp2
      go_ret
      exact ⟨ret_bool Hr.out, bW⟩
  · have hke : k = h.log.length := by omega
    have hi1 : ¬ (k : Int) < (h.log.length : Int) := by omega
    have Hr := Lib.hid (show decide (((h.snap.size + sizesE (h.log.take k) : Nat) : Int) ≤ 9000) = B by rw [HS.out, decide_eq_true H40.out, Bool.true_and, hke, List.take_length, decide_eq_decide]; omega)
    clear hke
    go_wp2
    all_goals
     go_ret
     refine ⟨ret_bool ?_, bW⟩
     rw [← Hr.out]
     first | rfl | (simp; omega) | simp_all
end Go.Proofs.YtgpgcnmnfnnkjaaGreatDoor
end

section
namespace Go.Proofs.YtgpgcnmnfnnkjaaGreatDoor
open Go Go.RowKit Go.PlainAid BigFrame
structure AskL where
 kind : Int
 n : Int
 h : Hrd
 hp : Option Addr
 hc : Nat
 pp : Option Addr
 pc : Nat
 picks : List Int
def AskL.vh (x : AskL) : Value := .slice x.hp x.h.log.length x.hc
def AskL.vp (x : AskL) : Value := .slice x.pp x.picks.length x.pc
@[reducible] def aslA (x : AskL) : Array Value := #[.int .i64 x.kind, .int .i64 x.n, .int .i64 x.h.term, .int .i64 x.h.vote, .int .i64 x.h.base, .int .i64 x.h.bterm, .int .i64 x.h.members, .string x.h.snap, .slice x.hp x.h.log.length x.hc, .slice x.pp x.picks.length x.pc]
structure AskLOk (w : World) (x : AskL) : Prop where
 log : Rd etyE w x.vh x.h.log
 picks : Rd intsE w x.vp x.picks
 hi : ∀ z ∈ x.picks, z ≤ 9223372036854775807
 few : x.h.log.length * 32 ≤ 140737488355328
 snap : x.h.snap.size ≤ 140737488355328
 data : ∀ y ∈ x.h.log, y.data.size ≤ 140737488355328
 n64 : -9223372036854775808 ≤ x.n ∧ x.n ≤ 9223372036854775807
theorem AskLOk.ext {w w' : World} {x : AskL} (h : AskLOk w x) (hb : Below w.heap.size w w') : AskLOk w' x := ⟨h.log.ext hb, h.picks.ext hb, h.hi, h.few, h.snap, h.data, h.n64⟩
end Go.Proofs.YtgpgcnmnfnnkjaaGreatDoor
end

section
namespace Go.Proofs.YtgpgcnmnfnnkjaaGreatDoor
open Go Go.RowKit Go.PlainAid
set_option maxHeartbeats 1000000 in
theorem stoNamed (n : Nat) (N : Int) (hN : N = (n : Int)) (hn : n ≤ 9223372036854775807) (w : World) (htab : Lib.TabIs Tryz.prog w "internal/strconv.uint64pow10" .u64 Lib.pow10Tab) :
 Calls Tryz.prog 75 #[.int .i64 N] w fun e w' => e = .returned (.string (nameP n)) ∧ Below w.heap.size w w' := by
 subst hN
 go_enter Tryz.func75, Tryz.ntmps75
 go_wp2_with fail
 refine (Tryz.strconv_Itoa (n : Int) (by omega) (by omega) w htab).mono ?_
 rintro e w1 ⟨rfl, k, os, rfl⟩
 rw [itoa_nat]
 have hlen := digits_le 18 n (by omega)
 go_wp2_with fail
 go_ret
 exact ⟨by unfold nameP hdP; congr 2, Lib.below_grow _ w (Nat.le_refl _) k os⟩
theorem nameP_few {n : Nat} (h : n ≤ 9223372036854775807) : (nameP n).size ≤ 24 := by
 have := digits_le 18 n (by omega)
 show ((hdP ++ Lib.decDigits n).toArray).size ≤ 24
 simp [hdP]; omega
theorem all_cons {c : UInt8} (r : List UInt8) (h : digB c = true) : (c :: r).all digB = r.all digB := by rw [List.all_cons, h, Bool.true_and]
theorem all_bad {c : UInt8} (r : List UInt8) (h : ¬ digB c = true) : (c :: r).all digB = false := by
 cases hc : digB c
 · rw [List.all_cons, hc, Bool.false_and]
 · exact absurd hc h
theorem ret_boolP {a b : Bool} (h : a = b) : Ending.returned (.bool a) = .returned (.bool b) := by rw [h]
set_option maxRecDepth 4000 in
set_option maxHeartbeats 4000000 in
theorem stoNumbered (l : List UInt8) (w : World) :
 Calls Tryz.prog 112 #[.string ⟨l.toArray⟩] w fun e w' => e = .returned (.bool (numbB l)) ∧ Below w.heap.size w w' := by
 have hsz := str_size l
 have hn : numbB l = if l.length ≤ 5 ∨ l.take 5 ≠ hdP ∨ 19 < l.length ∨ l[5]? = some 48 then false else (l.drop 5).all digB := by
  unfold numbB
  split
  · rename_i h
    rcases h with h | h | h | h <;> rw [decide_eq_true h] <;> simp
  · rename_i h
    rw [decide_eq_false (fun q => h (.inl q)), decide_eq_false (fun q => h (.inr (.inl q))), decide_eq_false (fun q => h (.inr (.inr (.inl q)))), decide_eq_false (fun q => h (.inr (.inr (.inr q))))]; simp
 have Hn := Lib.hid hn
 clear hn
 generalize numbB l = R at *
 by_cases h1 : l.length ≤ 5
 · have Hr := Lib.hid (show R = false from Hn.out.trans (if_pos (.inl h1)))
   have hi : (l.length : Int) ≤ 5 := by omega
   go_enter Tryz.func112, Tryz.ntmps112
   go_wp2
   go_ret
   exact ⟨ret_boolP Hr.out.symm, Below.refl _ _⟩
 · have hi : ¬ (l.length : Int) ≤ 5 := by omega
   have hto := run_strTo (P := Tryz.prog) Tryz.underlying9 l 5 5 rfl (by omega)
   have hfr := run_strFrom (P := Tryz.prog) Tryz.underlying9 l 5 5 rfl (by omega)
   have h4s : 5 < (⟨l.toArray⟩ : ByteArray).size := by rw [hsz]; omega
   have h4e : (⟨l.toArray⟩ : ByteArray)[5]'h4s = l[5]'(by omega) := str_at l 5 h4s
   have h4g : l[5]? = some (l[5]'(by omega)) := List.getElem?_eq_getElem _
   by_cases hall : l.take 5 = hdP ∧ ¬ 19 < l.length ∧ (l[5]'(by omega)).toNat ≠ 48
   · obtain ⟨e2, e3, e4⟩ := hall
     have hr : R = (l.drop 5).all digB := Hn.out.trans (if_neg (by
      rintro (h | h | h | h)
      · exact h1 h
      · exact h e2
      · exact e3 h
      · rw [h4g] at h; exact e4 (by rw [Option.some.inj h]; rfl)))
     have Hr := Lib.hid hr
     have e2' : l.take 5 = [115, 110, 97, 112, 46] := e2
     have e3' : ¬ (19 : Int) < (l.length : Int) := by omega
     have e4' : ((((⟨l.toArray⟩ : ByteArray)[5]'h4s).toNat : Int) == 48) = false := by rw [h4e]; simp; omega
     clear hr e2 e4 Hn h4g h4e
     generalize l.drop 5 = d at *
     have hds := str_size d
     have hat := fun i h => str_at d i h
     go_enter Tryz.func112, Tryz.ntmps112
     go_wp2
     go_loopw [4] (fun r w' => ∃ (pos : Nat), w' = w.iter ⟨d.toArray⟩ pos ∧ pos ≤ d.length ∧ Hid ((d.drop pos).all digB = d.all digB)) (fun _ w' => d.length - w'.iterPos w.heap.size)
     case atStart => exact ⟨0, rfl, by omega, rfl⟩
     case round =>
      obtain ⟨pos, rfl, hpl, hdg⟩ := hrel
      by_cases hp : pos < d.length
      · have hps : pos < (⟨d.toArray⟩ : ByteArray).size := by rw [hds]; exact hp
        have hdc := List.drop_eq_getElem_cons hp
        have hge : (⟨d.toArray⟩ : ByteArray)[pos]'hps = d[pos] := hat pos hps
        have hdg2 := hdg.out
        rw [hdc] at hdg2
        have hnx : ∀ ty, (Instr.next (.pointer (some ⟨w.heap.size, 0, none⟩)) true ty).run Tryz.prog (w.iter ⟨d.toArray⟩ pos) = .ok (.tuple #[.bool true, .int .i64 pos, .int .i32 (Utf8.decode ⟨d.toArray⟩ pos).1]) (w.iter ⟨d.toArray⟩ (pos + (Utf8.decode ⟨d.toArray⟩ pos).2)) := fun ty => run_next_any w ⟨d.toArray⟩ pos ty hps
        by_cases hb : digB d[pos] = true
        · rw [all_cons _ hb] at hdg2
          obtain ⟨q1, q2⟩ := (digB_iff _).1 hb
          rw [decode_ascii _ pos hps (by rw [hge]; omega), hge] at hnx
          have Hd2 := Lib.hid hdg2
          clear hdg hdg2 hdc hb hge
          generalize d[pos] = c at *
          go_wp2_with fail
          go_roundw
          case rel => exact ⟨pos + 1, rfl, by omega, Hd2.out⟩
          case measure => simp; omega
        · rw [all_bad _ hb] at hdg2
          have hz : R = false := Hr.out.trans hdg2.symm
          have hbad : ((Utf8.decode ⟨d.toArray⟩ pos).1 : Int) < 48 ∨ (57 : Int) < ((Utf8.decode ⟨d.toArray⟩ pos).1 : Int) := by
           rcases Nat.lt_or_ge d[pos].toNat 128 with h | h
           · rw [decode_ascii _ pos hps (by rw [hge]; exact h), hge]
             show ((d[pos].toNat : Nat) : Int) < 48 ∨ _
             rcases Nat.lt_or_ge d[pos].toNat 48 with h5 | h5
             · left; omega
             · right
               rcases Nat.lt_or_ge 57 d[pos].toNat with h6 | h6
               · show (57 : Int) < ((d[pos].toNat : Nat) : Int); omega
               · exact absurd ((digB_iff d[pos]).2 ⟨h5, h6⟩) hb
           · have := (decode_high _ pos hps (by rw [hge]; exact h)).1
             omega
          have Hz := Lib.hid hz
          clear hdg hdg2 hdc hb hge hz
          generalize Utf8.decode ⟨d.toArray⟩ pos = dc at *
          rcases hbad with hbad | hbad
          · go_wp2_with fail
            go_ret
            exact ⟨ret_boolP Hz.out.symm, below_alloc w _⟩
          · have hb2 : ¬ (dc.1 : Int) < 48 := by omega
            go_wp2_with fail
            go_ret
            exact ⟨ret_boolP Hz.out.symm, below_alloc w _⟩
      · have hpe : pos = d.length := by omega
        have hps : ¬ pos < (⟨d.toArray⟩ : ByteArray).size := by rw [hds]; exact hp
        have hdg2 := hdg.out
        rw [List.drop_of_length_le (by omega)] at hdg2
        have hz : R = true := Hr.out.trans hdg2.symm
        have Hz := Lib.hid hz
        have hne := fun ty => run_next_end (P := Tryz.prog) w ⟨d.toArray⟩ pos ty hps
        clear hdg hdg2 hz hpe
        go_wp2
        go_ret
        exact ⟨ret_boolP Hz.out.symm, below_alloc w _⟩
   · have hr : R = false := Hn.out.trans (if_pos (by
      by_cases a1 : l.take 5 = hdP
      · by_cases a2 : 19 < l.length
        · exact .inr (.inr (.inl a2))
        · refine .inr (.inr (.inr ?_))
          rw [h4g]
          have a3 : (l[5]'(by omega)).toNat = 48 := Decidable.not_not.1 (fun a3 => hall ⟨a1, a2, a3⟩)
          congr 1
          exact UInt8.toNat_inj.1 a3
      · exact .inr (.inl a1)))
     have Hr := Lib.hid hr
     clear hr Hn
     by_cases a1 : l.take 5 = hdP
     · have e2' : l.take 5 = [115, 110, 97, 112, 46] := a1
       by_cases a2 : 19 < l.length
       · have e3' : (19 : Int) < (l.length : Int) := by omega
         go_enter Tryz.func112, Tryz.ntmps112
         go_wp2
         go_ret
         exact ⟨ret_boolP Hr.out.symm, Below.refl _ _⟩
       · have a3 : (l[5]'(by omega)).toNat = 48 := Decidable.not_not.1 (fun a3 => hall ⟨a1, a2, a3⟩)
         have e3' : ¬ (19 : Int) < (l.length : Int) := by omega
         have e4' : ((((⟨l.toArray⟩ : ByteArray)[5]'h4s).toNat : Int) == 48) = true := by rw [h4e]; simp; omega
         clear h4e h4g a3 a1 hall
         go_enter Tryz.func112, Tryz.ntmps112
         go_wp2
         go_ret
         exact ⟨ret_boolP Hr.out.symm, Below.refl _ _⟩
     · have e2' : ¬ l.take 5 = [115, 110, 97, 112, 46] := a1
       go_enter Tryz.func112, Tryz.ntmps112
       go_wp2
       go_ret
       exact ⟨ret_boolP Hr.out.symm, Below.refl _ _⟩
theorem stoNumberedS (s : ByteArray) (w : World) : Calls Tryz.prog 112 #[.string s] w fun e w' => e = .returned (.bool (numbS s)) ∧ Below w.heap.size w w' := stoNumbered s.data.toList w
end Go.Proofs.YtgpgcnmnfnnkjaaGreatDoor
end
