/- The walks of both Balanced. -/
import Derived.Test.YtfimaamndcdofaaPlus
import Derived.Deep.Cut
namespace Go.Proofs.Ytfimaamndcdofaa
open Go Go.RowKit

def amts (l : List Bal) : List Int := l.map (·.2)
theorem amts_take_succ {l : List Bal} {k : Nat} (h : k < l.length) : amts (l.take (k + 1)) = amts (l.take k) ++ [l[k].2] := by
  unfold amts; rw [List.take_succ_eq_append_getElem h, List.map_append]; rfl
theorem tInts : SlT Try.prog 52 3 1 8 := SlT.mk' (z := .int .i64 0) Try.underlying52 (by kernel_rfl) rfl (by decide) (by decide)

set_option maxHeartbeats 1000000 in
theorem postBalanced (v : Value) (l : List Bal) (w : World) (hv : Rd balE w v l) (hf : ∀ x ∈ l, Mon.fits x.2) (hl : l.length * 8 ≤ 140737488355328) :
    Calls Try.prog 12 #[v] w fun e w' => e = .returned (.bool (decide ((amts l).sum = 0))) ∧ Below w.heap.size w w' := by
  obtain ⟨p, cap, rfl, h1, h2, h3, h4⟩ := hv.form
  clear h3
  unfold maxLen at h2
  have Hf : Hid (∀ x ∈ amts l, Mon.fits x) := fun x hx => by
    obtain ⟨y, hy, rfl⟩ := List.mem_map.1 hx
    exact hf y hy
  clear hf
  go_enter Try.func12, Try.ntmps12
  go_wp2_with fail
  go_loopw [3, 10] (fun a i wr => ∃ k : Nat, k ≤ l.length ∧ i = .int .i64 k ∧ OwnR intsE wr w.heap.size 3 a (amts (l.take k)) ∧ Below w.heap.size w wr) (fun _ i _ => l.length - (intOf i).toNat)
  case atStart => exact ⟨0, by omega, rfl, OwnR.nil _ _ _, Below.refl _ _⟩
  case round =>
    obtain ⟨k, hk, rfl, own, hb⟩ := hrel
    have hs := hb.size
    by_cases hlt : k < l.length
    · obtain ⟨b, off, rfl, hc⟩ := h4 (by omega)
      have hbl : b < w.heap.size := by
        have := hc k hlt 0 (by decide)
        simp only [balE, List.getElem?_cons_zero] at this
        exact World.block_lt_of_cell? w _ this
      have c0 := hc k hlt 0 (by decide)
      have c1 := hc k hlt 1 (by decide)
      rw [← hb.cell (p := ⟨b, _, none⟩) hbl] at c0 c1
      simp only [balE, List.getElem?_cons_zero, List.getElem?_cons_succ, Nat.add_zero, ← Nat.add_assoc] at c0 c1
      have hi : (k : Int) < (l.length : Int) := by omega
      have hal : (amts (l.take k)).length = k := by unfold amts; simp; omega
      have hsu := Lib.hid (amts_take_succ hlt)
      have Hal := Lib.hid hal
      clear h4 hc hal
      generalize amts (l.take k) = am at *
      generalize l[k] = x at *
      go_wp2_with (first
        | (at_builtin; refine wpList_appR (E := intsE) tInts rfl rfl (OwnR.ext (OwnR.ext own (below_alloc _ _)) (below_alloc _ _)) rfl (OwnR.rd (OwnR.litAt intsE _ _ 3 [x.2] 1 0 (wr.heap.size + 1) (by simp) rfl rfl (by unfold maxLen; decide) (Nat.zero_le _))) rfl (by rw [Hal.out]; simp; omega) (by simp; omega) ?_; intro v8 w8 own8 g8 b8; clear g8)
        | fail)
      go_roundw
      case rel => exact ⟨k + 1, by omega, by go_num, by rw [hsu.out]; exact own8, ((hb.trans ((below_alloc _ _).mono hs)).trans ((below_alloc _ _).mono (by simp; omega))).trans b8⟩
      case measure => simp [intOf]; omega
    · have hk' : k = l.length := by omega
      rw [hk', List.take_of_length_le (Nat.le_refl _)] at own
      have hr := own.rd
      have hi : ¬ (k : Int) < (l.length : Int) := by omega
      clear own hk'
      have hal : (amts l).length ≤ 140737488355328 := by unfold amts; simp; omega
      go_wp2_with fail
      with_reducible refine (moneyExact _ _ _ hr Hf.out hal).mono ?_
      rintro e w' ⟨⟨n, ok, rfl, h5, h6⟩, rfl⟩
      have hz : (n == 0 && ok) = decide ((amts l).sum = 0) := by
        rw [Bool.eq_iff_iff, Bool.and_eq_true, beq_iff_eq, decide_eq_true_iff]
        constructor
        · rintro ⟨rfl, hok⟩; exact (h6 hok).symm
        · intro h
          have hok : ok = true := h5.2 (by rw [h]; decide)
          exact ⟨by rw [h6 hok, h], hok⟩
      have Hz := Lib.hid hz
      clear hz h5 h6
      by_cases hn : (n == 0) = true
      · rw [hn, Bool.true_and] at Hz
        cases ok
        all_goals
          go_wp2_with fail
          go_ret
          exact ⟨by rw [← Hz.out]; rfl, hb⟩
      · have hn' : (n == 0) = false := by simpa using hn
        rw [hn', Bool.false_and] at Hz
        clear hn
        go_wp2_with fail
        go_ret
        exact ⟨by rw [← Hz.out]; rfl, hb⟩

theorem eqin_wide (a b : Int) (w : World) : (Op.equalIn 10000 59 (.agg #[.int .i64 a, .int .u64 b]) (.agg #[.int .i64 0, .int .u64 0])).run Try.prog w = .ok (a == 0 && b == 0) w := by
  have u3 := Try.underlying2
  have u9 := Try.underlying57
  have a3 := Try.isAgg2
  have z3 := Try.sizeOf2
  have a9 := Try.isAgg57
  have z9 := Try.sizeOf57
  have hS : Try.prog.underlying 59 = some (.struct (Try.prog.fieldsOf 59)) := by kernel_rfl
  have hp : Try.prog.stoodInHeld 59 = false := by kernel_rfl
  rw [show (10000 : Nat) = 9999 + 1 from rfl, run_equalIn_agg w 9999 59 _ _ hS hp]
  simp only [Program.fieldsOf, Try.underlying59]
  go_simp
  by_cases h1 : a = 0 <;> by_cases h2 : b = 0 <;> simp [h1, h2]
theorem eql_wide (a b : Int) (w : World) : (binOp .eql 59 (.agg #[.int .i64 a, .int .u64 b]) (.agg #[.int .i64 0, .int .u64 0])).run Try.prog w = .ok (.bool (a == 0 && b == 0)) w := by
  rw [run_eql_struct, eqin_wide]; rfl

set_option maxHeartbeats 1000000 in
theorem refBalanced (v : Value) (l : List Bal) (w : World) (hv : Rd balE w v l) (hf : ∀ x ∈ l, Mon.fits x.2) (hl : l.length ≤ 140737488355328) :
    Calls Try.prog 19 #[v] w fun e w' => e = .returned (.bool (decide ((amts l).sum = 0))) ∧ Below w.heap.size w w' := by
  obtain ⟨p, cap, rfl, h1, h2, h3, h4⟩ := hv.form
  clear h3
  unfold maxLen at h2
  have Hf := Lib.hid hf
  clear hf
  have heq := eql_wide
  go_enter Try.func19, Try.ntmps19
  go_wp2_with fail
  obtain ⟨W, hW⟩ : ∃ W, W = w.alloc (.cells #[.int .i64 0, .int .u64 0] 59) := ⟨_, rfl⟩
  have hblk : Blk W w.heap.size #[.int .i64 0, .int .u64 0] 59 := by rw [hW]; exact Blk.new _ _ _
  have hb0 : Below w.heap.size w W := by rw [hW]; exact below_alloc _ _
  rw [← hW]
  clear hW
  go_loopw [4] (fun i wr => ∃ (k : Nat) (hi lo : Int), k ≤ l.length ∧ i = .int .i64 k ∧ Blk wr w.heap.size #[.int .i64 hi, .int .u64 lo] 59 ∧ Below w.heap.size w wr ∧ -(k : Int) ≤ hi ∧ hi ≤ k ∧ 0 ≤ lo ∧ lo < 18446744073709551616 ∧ Hid (hi * 18446744073709551616 + lo = (amts (l.take k)).sum)) (fun i _ => l.length - (intOf i).toNat)
  case atStart => exact ⟨0, 0, 0, by omega, rfl, hblk, hb0, by omega, by omega, by omega, by omega, rfl⟩
  case round =>
    obtain ⟨k, hi, lo, hk, rfl, hblk', hb, q1, q2, q3, q4, hsum⟩ := hrel
    clear hblk hb0
    have m0 := hblk'.cell 0 _ rfl
    have m1 := hblk'.cell 1 _ rfl
    by_cases hlt : k < l.length
    · obtain ⟨b, off, rfl, hc⟩ := h4 (by omega)
      have c1 := hc k hlt 1 (by decide)
      have hbl : b < w.heap.size := by
        simp only [balE, List.getElem?_cons_zero, List.getElem?_cons_succ] at c1
        exact World.block_lt_of_cell? w _ c1
      rw [← hb.cell (p := ⟨b, _, none⟩) hbl] at c1
      simp only [balE, List.getElem?_cons_zero, List.getElem?_cons_succ, Nat.add_zero, ← Nat.add_assoc] at c1
      have hik : (k : Int) < (l.length : Int) := by omega
      have hik0 : (0 : Int) ≤ (k : Int) := by omega
      have hx := Lib.hid (Hf.out l[k] (List.getElem_mem hlt))
      have hsu : Hid ((amts (l.take (k + 1))).sum = (amts (l.take k)).sum + l[k].2) := by
        show _ = _
        rw [amts_take_succ hlt, List.sum_append]; simp
      clear h4 hc
      generalize l[k] = x at *
      have hlt' := hblk'.lt
      clear heq
      go_wp2_with fail
      go_region_with ((first
        | (go_at_call 28; (with_reducible refine (widePlus hi lo x.2 _ hx.out (by omega) (by omega) q3 q4).mono ?_); (rintro e w3 ⟨⟨hi', lo', rfl, r1, r2, r3, r4, r5⟩, b3⟩); (have hbk3 : Blk w3 w.heap.size #[.int .i64 hi, .int .u64 lo] 59 := Blk.ext (w := wr.drew) hblk' b3); (have n0 := hbk3.cell 0 _ rfl); (have n1 := hbk3.cell 1 _ rfl); (have f0 := hbk3.frozen 0); (have f1 := hbk3.frozen 1); (have R1 := Lib.hid r1); clear r1)))
      all_goals
        have hbk4 := (hbk3.set 0 (.int .i64 hi')).set 1 (.int .u64 lo')
        have hb4 : Below w.heap.size w ((w3.setCell ⟨w.heap.size, 0, none⟩ (.int .i64 hi')).setCell ⟨w.heap.size, 1, none⟩ (.int .u64 lo')) := (((hb.trans (below_drew _ wr)).trans (b3.mono (by show _ ≤ wr.heap.size; omega))).setCell (Nat.le_refl _) _).setCell (Nat.le_refl _) _
        go_wp2_with fail
        go_roundw
        case rel => exact ⟨k + 1, hi', lo', by omega, by go_num, hbk4, hb4, by omega, by omega, r2, r3, by show _ = _; rw [hsu.out, R1.out, hsum.out]⟩
        case measure => simp [intOf]; omega
    · have hk' : k = l.length := by omega
      have hS := hsum.out
      rw [hk', List.take_of_length_le (Nat.le_refl _)] at hS
      have hi' : ¬ (k : Int) < (l.length : Int) := by omega
      have hz : (hi == 0 && lo == 0) = decide ((amts l).sum = 0) := by
        rw [Bool.eq_iff_iff, Bool.and_eq_true, beq_iff_eq, beq_iff_eq, decide_eq_true_iff]
        omega
      have Hz := Lib.hid hz
      have heq' := heq hi lo
      clear hz hS hk' heq
      go_wp2_with fail
      go_ret
      exact ⟨by rw [← Hz.out]; rfl, hb⟩
end Go.Proofs.Ytfimaamndcdofaa
