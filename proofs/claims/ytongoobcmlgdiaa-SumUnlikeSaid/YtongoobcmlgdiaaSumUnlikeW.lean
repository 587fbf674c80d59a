/- The walk of SumUnlike: texts of one length that differ within 32 bits have different sums. -/
import Derived.Test.YtongoobcmlgdiaaSumBurstsW
namespace Go.Proofs.Ytongoobcmlgdiaa
open Go Go.RowKit

set_option maxHeartbeats 1000000 in
theorem sumUnlike_walk (c : BitVec 32) (v : Value) (p : List UInt8) (at' : Int) (burst : BitVec 32) (w : World) (hv : Bytes w v p) (hp : p.length ≤ 140737488351232) (_h1 : -9223372036854775808 ≤ at') (_h2 : at' ≤ 9223372036854775807) :
    Calls Try.prog 8 #[.int .u32 (c.toNat : Int), v, .int .i64 at', .int .u32 (burst.toNat : Int)] w fun e w' => e = .returned (.bool true) ∧ Below w.heap.size w w' := by
  obtain ⟨p0, cap0, rfl⟩ := hv.shape
  by_cases hz : p.length = 0
  · have hb : ((p.length : Int) == 0) = true := by simp [hz]
    go_enter Try.func8, Try.ntmps8
    clear hz
    go_wp2_with fail
    with_reducible refine (sumRuns _).mono ?_
    rintro e w4 ⟨rfl, b4⟩
    go_wp2_with fail
    go_ret
    exact ⟨rfl, b4⟩
  · have hpos : 0 < p.length := by omega
    have hb : ((p.length : Int) == 0) = false := by simpa using hz
    clear hz
    go_enter Try.func8, Try.ntmps8
    go_wp2_with (at_builtin; refine wpList_app tBytes rfl rfl (Own.lit w #[] _ 0 w.heap.size rfl (by simp) (Nat.zero_le _) (Nat.le_refl _)) rfl (Cells.ext hv (below_alloc w _)) rfl (by omega) (by simp) ?_; intro v1 w1 own g1 b1; clear g1; replace own := OwnB.of (l := p) own (by simp) (by simp); replace b1 := (below_alloc w _).trans b1; obtain ⟨g, cs, rfl, hg1, hg2, hc1, hc2⟩ := own.head hpos; unfold maxLen at hc2)
    with_reducible refine (withinCalls at' 0 (8 * (p.length : Int) - 1) _ (by omega) (by omega) (by omega)).mono ?_
    rintro e w' ⟨rfl, rfl⟩
    obtain ⟨a, ha⟩ : ∃ a : Nat, within at' 0 (8 * (p.length : Int) - 1) = a := ⟨_, (Int.toNat_of_nonneg (within_bounds at' 0 _ (by omega)).1).symm⟩
    have hab : a < 8 * p.length := by have := (within_bounds at' 0 (8 * (p.length : Int) - 1) (by omega)).2; omega
    rw [ha]
    clear ha
    go_wp2_with fail
    go_loopw [11, 12] (fun t i wr => ∃ k : Nat, k ≤ 32 ∧ i = .int .i64 k ∧ t = .bool (Crc.tur a burst.toNat (8 * p.length) k) ∧ (∃ l', Crc.Turned p a burst.toNat k l' ∧ OwnB wr w.heap.size 5 (.slice (some ⟨g, 0, none⟩) p.length cs) l') ∧ Below w.heap.size w wr) (fun _ i _ => 32 - (intOf i).toNat)
    case atStart => exact ⟨0, by omega, rfl, rfl, ⟨_, Crc.Turned.zero _ _ _, own⟩, b1⟩
    case round =>
      obtain ⟨k, hk, rfl, rfl, ⟨l', ht, ownr⟩, hbr⟩ := hrel
      clear own b1 hb
      by_cases hlt : k < 32
      · have htl := ht.len
        by_cases hbit : burst.toNat.testBit k = true
        · have hb1 : bits .and .u32 ((burst.toNat : Int) / 2 ^ k) 1 = 1 := by rw [bit_u32, hbit]; rfl
          by_cases hin : a + k < 8 * p.length
          · have hq : (((a : Int) + (k : Int)) / 8).toNat = (a + k) / 8 := by omega
            have hq0 : 0 ≤ ((a : Int) + (k : Int)) / 8 := by omega
            have hq1 : ((a : Int) + (k : Int)) / 8 < (p.length : Int) := by omega
            have hr : (((a : Int) + (k : Int)) % 8).toNat = (a + k) % 8 := by omega
            have hr0 : 0 ≤ ((a : Int) + (k : Int)) % 8 := by omega
            have hcell := ownr.cellAt (by omega) ((a + k) / 8) (by omega)
            have hfz := ownr.frozenAt (by omega) ((a + k) / 8)
            have hgd : l'.getD ((a + k) / 8) 0 = l'[(a + k) / 8]'(by omega) := by rw [List.getD_eq_getElem?_getD, List.getElem?_eq_getElem (by omega)]; rfl
            generalize l'[(a + k) / 8]'_ = xk at hcell hgd
            have Hgd := Lib.hid hgd
            have hfx := flip_xor xk ((a + k) % 8) (by omega)
            obtain ⟨own', hg'⟩ := ownr.stored (by omega) ((a + k) / 8) (xk ^^^ UInt8.ofNat (2 ^ ((a + k) % 8)))
            have hflip : l'.set ((a + k) / 8) (xk ^^^ UInt8.ofNat (2 ^ ((a + k) % 8))) = Crc.flip l' (a + k) := by unfold Crc.flip; rw [Hgd.out]
            rw [hflip] at own'
            clear hflip hgd
            have Hl := Lib.hid htl
            clear htl
            go_wp2
            go_region
            go_wp2
            go_roundw
            case rel => exact ⟨k + 1, by omega, by go_num, by rw [Crc.tur_succ, hbit, decide_eq_true hin]; simp, ⟨_, ht.yes hbit hin, own'.drew⟩, (hbr.setCell (p := ⟨g, (a + k) / 8, none⟩) hg1 _).drew⟩
            case measure => simp [intOf]; omega
          · clear htl
            go_wp2
            go_roundw
            case rel => exact ⟨k + 1, by omega, by go_num, by rw [Crc.tur_succ, hbit, decide_eq_false hin]; simp, ⟨_, ht.no (.inr (by omega)), ownr⟩, hbr⟩
            case measure => simp [intOf]; omega
        · have hbit' : burst.toNat.testBit k = false := by simpa using hbit
          have hb1 : bits .and .u32 ((burst.toNat : Int) / 2 ^ k) 1 = 0 := by rw [bit_u32, hbit']; rfl
          clear hbit htl
          go_wp2
          go_roundw
          case rel => exact ⟨k + 1, by omega, by go_num, by rw [Crc.tur_succ, hbit']; simp, ⟨_, ht.no (.inl hbit'), ownr⟩, hbr⟩
          case measure => simp [intOf]; omega
      · have : k = 32 := by omega
        subst this
        have htl := ht.len
        have hvr := hv.ext hbr
        go_wp2_with fail
        with_reducible refine (sumOn c _ p _ hvr).mono ?_
        rintro e w' ⟨rfl, rfl⟩
        go_wp2_with fail
        with_reducible refine (sumOn c _ l' _ ?_).mono ?_
        · have := ownr.bytes
          exact this
        rintro e w' ⟨rfl, rfl⟩
        have hon := Crc.on_turned ht c
        generalize Crc.on c p = x at *
        generalize Crc.on c l' = y at *
        have hxy : ((x.toNat : Int) == (y.toNat : Int)) = !Crc.tur a burst.toNat (8 * p.length) 32 := by
          rw [← hon]
          by_cases e : x = y
          · subst e; simp
          · rw [decide_eq_false e]; simp; intro h; exact e (BitVec.eq_of_toNat_eq (by omega))
        clear hon htl
        cases htur : Crc.tur a burst.toNat (8 * p.length) 32
        all_goals
          rw [htur] at hxy
          clear htur
          go_wp2_with fail
          with_reducible refine (sumRuns _).mono ?_
          rintro e w4 ⟨rfl, b4⟩
          replace hbr := hbr.trans (b4.mono hbr.size)
          go_wp2_with fail
          go_ret
          exact ⟨rfl, hbr⟩

end Go.Proofs.Ytongoobcmlgdiaa
