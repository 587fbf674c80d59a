/- The walk of SumBursts: sealed bytes of which bits within 32 are turned are not opened. -/
import Derived.Test.YtongoobcmlgdiaaSumLaws
import Derived.Test.YtongoobcmlgdiaaBurst
import Derived.RegionTactic
import Derived.BigRegion
namespace Go.Proofs.Ytongoobcmlgdiaa
open Go Go.RowKit

theorem bit_u32 (b : BitVec 32) (k : Nat) : bits .and .u32 ((b.toNat : Int) / 2 ^ k) 1 = ((b.toNat.testBit k).toNat : Int) := by
  have e : (b.toNat : Int) / 2 ^ k = ((b.toNat / 2 ^ k : Nat) : Int) := by simp
  have hb := b.isLt
  have hlt : b.toNat / 2 ^ k < 4294967296 := Nat.lt_of_le_of_lt (Nat.div_le_self _ _) hb
  rw [e, show (1 : Int) = ((1 : Nat) : Int) from rfl, u32_and_nat _ _ hlt (by omega), Nat.and_one_is_mod, Nat.testBit_eq_decide_div_mod_eq]
  rcases Nat.mod_two_eq_zero_or_one (b.toNat / 2 ^ k) with h | h <;> simp [h]

theorem flip_xor (x : UInt8) (j : Nat) (hj : j < 8) : bits .xor .u8 (x.toNat : Int) (2 ^ j % 256) = ((x ^^^ UInt8.ofNat (2 ^ j)).toNat : Int) := by
  have h : 2 ^ j < 2 ^ 8 := Nat.pow_lt_pow_right (by omega) hj
  have e : ((2 : Int) ^ j % 256) = ((2 ^ j : Nat) : Int) := by
    have : ((2 : Int) ^ j) = ((2 ^ j : Nat) : Int) := by simp
    rw [this]; clear this; generalize 2 ^ j = n at h ⊢; omega
  rw [e, u8_xor_nat _ _ x.toNat_lt (by omega), UInt8.toNat_xor, UInt8.toNat_ofNat', Nat.mod_eq_of_lt h]

set_option maxHeartbeats 1000000 in
theorem sumBursts_walk (v : Value) (p : List UInt8) (at' : Int) (burst : BitVec 32) (w : World) (hv : Bytes w v p) (hp : p.length ≤ 140737488351232) (_h1 : -9223372036854775808 ≤ at') (_h2 : at' ≤ 9223372036854775807) :
    Calls Try.prog 7 #[v, .int .i64 at', .int .u32 (burst.toNat : Int)] w fun e w' => e = .returned (.bool true) ∧ Below w.heap.size w w' := by
  obtain ⟨p0, cap0, rfl⟩ := hv.shape
  go_enter Try.func7, Try.ntmps7
  go_wp2_with fail
  with_reducible refine (sumSeal _ p _ hv (by omega)).mono ?_
  rintro e w1 ⟨s, rfl, own, b1⟩
  have hls : (Crc.seal' p).length = p.length + 4 := Crc.seal_length p
  obtain ⟨g, cs, rfl, hg1, hg2, hc1, hc2⟩ := own.head (by omega)
  rw [hls] at own hc1 ⊢
  unfold maxLen at hc2
  have hlen : ((p.length : Int) + 4 != (p.length : Int) + 4) = false := by simp
  clear hls
  go_wp2_with fail
  with_reducible refine (withinCalls at' 0 (8 * ((p.length : Int) + 4) - 1) _ (by omega) (by omega) (by omega)).mono ?_
  rintro e w' ⟨rfl, rfl⟩
  obtain ⟨a, ha⟩ : ∃ a : Nat, within at' 0 (8 * ((p.length : Int) + 4) - 1) = a := ⟨_, (Int.toNat_of_nonneg (within_bounds at' 0 _ (by omega)).1).symm⟩
  have hab : a < 8 * (p.length + 4) := by have := (within_bounds at' 0 (8 * ((p.length : Int) + 4) - 1) (by omega)).2; omega
  rw [ha]
  clear ha hlen
  go_wp2_with fail
  go_loopw [9, 10] (fun t i wr => ∃ k : Nat, k ≤ 32 ∧ i = .int .i64 k ∧ t = .bool (Crc.tur a burst.toNat (8 * (p.length + 4)) k) ∧ (∃ l', Crc.Turned (Crc.seal' p) a burst.toNat k l' ∧ OwnB wr w.heap.size 5 (.slice (some ⟨g, 0, none⟩) (p.length + 4) cs) l') ∧ Below w.heap.size w wr) (fun _ i _ => 32 - (intOf i).toNat)
  case atStart => exact ⟨0, by omega, rfl, rfl, ⟨_, Crc.Turned.zero _ _ _, own⟩, b1⟩
  case round =>
    obtain ⟨k, hk, rfl, rfl, ⟨l', ht, ownr⟩, hbr⟩ := hrel
    clear own b1
    by_cases hlt : k < 32
    · have htl := ht.len
      rw [Crc.seal_length] at htl
      by_cases hbit : burst.toNat.testBit k = true
      · have hb1 : bits .and .u32 ((burst.toNat : Int) / 2 ^ k) 1 = 1 := by rw [bit_u32, hbit]; rfl
        by_cases hin : a + k < 8 * (p.length + 4)
        · have hq : (((a : Int) + (k : Int)) / 8).toNat = (a + k) / 8 := by omega
          have hq0 : 0 ≤ ((a : Int) + (k : Int)) / 8 := by omega
          have hq1 : ((a : Int) + (k : Int)) / 8 < (p.length : Int) + 4 := by omega
          have hr : (((a : Int) + (k : Int)) % 8).toNat = (a + k) % 8 := by omega
          have hr0 : 0 ≤ ((a : Int) + (k : Int)) % 8 := by omega
          have hcell := ownr.cellAt (by omega) ((a + k) / 8) (by omega)
          have hfz := ownr.frozenAt (by omega) ((a + k) / 8)
          have hgd : l'.getD ((a + k) / 8) 0 = l'[(a + k) / 8]'(by omega) := by rw [List.getD_eq_getElem?_getD, List.getElem?_eq_getElem (by omega)]; rfl
          generalize l'[(a + k) / 8]'_ = xk at hcell hgd
          have Hgd := Lib.hid hgd
          have hfx := flip_xor xk ((a + k) % 8) (by omega)
          clear hgd
          go_wp2
          go_region
          obtain ⟨own', hg'⟩ := ownr.stored (by omega) ((a + k) / 8) (xk ^^^ UInt8.ofNat (2 ^ ((a + k) % 8)))
          have hflip : l'.set ((a + k) / 8) (xk ^^^ UInt8.ofNat (2 ^ ((a + k) % 8))) = Crc.flip l' (a + k) := by unfold Crc.flip; rw [Hgd.out]
          rw [hflip] at own'
          clear hflip
          go_wp2
          go_roundw
          case rel => exact ⟨k + 1, by omega, by go_num, by rw [Crc.tur_succ, hbit, decide_eq_true hin]; simp, ⟨_, ht.yes hbit (by rw [Crc.seal_length]; exact hin), own'.drew⟩, (hbr.setCell (p := ⟨g, (a + k) / 8, none⟩) hg1 _).drew⟩
          case measure => simp [intOf]; omega
        · go_wp2
          go_roundw
          case rel => exact ⟨k + 1, by omega, by go_num, by rw [Crc.tur_succ, hbit, decide_eq_false hin]; simp, ⟨_, ht.no (.inr (by rw [Crc.seal_length]; omega)), ownr⟩, hbr⟩
          case measure => simp [intOf]; omega
      · have hbit' : burst.toNat.testBit k = false := by simpa using hbit
        have hb1 : bits .and .u32 ((burst.toNat : Int) / 2 ^ k) 1 = 0 := by rw [bit_u32, hbit']; rfl
        clear hbit
        go_wp2
        go_roundw
        case rel => exact ⟨k + 1, by omega, by go_num, by rw [Crc.tur_succ, hbit']; simp, ⟨_, ht.no (.inl hbit'), ownr⟩, hbr⟩
        case measure => simp [intOf]; omega
    · have : k = 32 := by omega
      subst this
      have htl := ht.len
      rw [Crc.seal_length] at htl
      go_wp2_with fail
      with_reducible refine (sumOpen _ l' _ ?_ (by omega)).mono ?_
      · have := ownr.bytes
        exact this
      rintro e w3 ⟨r, rfl, _, b3⟩
      rw [Crc.opens_turned ht]
      replace hbr := hbr.trans (b3.mono hbr.size)
      cases htur : Crc.tur a burst.toNat (8 * (p.length + 4)) 32
      all_goals
        go_wp2_with fail
        with_reducible refine (sumRuns _).mono ?_
        rintro e w4 ⟨rfl, b4⟩
        replace hbr := hbr.trans (b4.mono hbr.size)
        go_wp2_with fail
        go_ret
        exact ⟨rfl, hbr⟩

end Go.Proofs.Ytongoobcmlgdiaa
