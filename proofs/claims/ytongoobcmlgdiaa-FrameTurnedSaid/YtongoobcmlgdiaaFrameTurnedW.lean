/- The walk of FrameTurned: a frame of which bits are turned is not found; those ahead are. -/
import Derived.Test.YtongoobcmlgdiaaFrameLaws
import Derived.Test.YtongoobcmlgdiaaFrmLaws
import Derived.Test.YtongoobcmlgdiaaSumBurstsW
namespace Go.Proofs.Ytongoobcmlgdiaa
open Go Go.RowKit

theorem put_nil (p : List UInt8) : Frm.put [] p = Frm.one p := rfl

theorem OwnParts.shapeN {w : World} {B : Nat} {v : Value} {ls : List (List UInt8)} (h : OwnParts w B v ls) {n : Nat} (hn : ls.length = n) : ∃ p cap, v = .slice p n cap := by
  subst hn
  obtain ⟨vs, h1, _⟩ := h
  obtain ⟨p, cap, h, _⟩ := h1.cells.form
  exact ⟨p, cap, h⟩

set_option maxHeartbeats 1000000 in
theorem frameTurned_walk (v : Value) (p : List UInt8) (u : Value) (q : List UInt8) (at' : Int) (burst : BitVec 32) (w : World) (hv : Bytes w v p) (hp : p.length ≤ 140737488351232) (hu : Bytes w u q) (hq : q.length ≤ 140737488351232) (_h1 : -9223372036854775808 ≤ at') (_h2 : at' ≤ 9223372036854775807) :
    Calls Try.prog 13 #[v, u, .int .i64 at', .int .u32 (burst.toNat : Int)] w fun e w' => e = .returned (.bool true) ∧ Below w.heap.size w w' := by
  obtain ⟨p0, c0, rfl⟩ := hv.shape
  obtain ⟨q0, d0, rfl⟩ := hu.shape
  by_cases hc : 1000 < p.length ∨ 1000 < q.length ∨ q.length = 0
  · have hc' : (1000 < p.length) ∨ (p.length ≤ 1000 ∧ 1000 < q.length) ∨ (p.length ≤ 1000 ∧ q.length ≤ 1000 ∧ ((q.length : Int) == 0) = true) := by
      rcases hc with h | h | h
      · exact .inl h
      · by_cases h' : 1000 < p.length
        · exact .inl h'
        · exact .inr (.inl ⟨by omega, h⟩)
      · by_cases h' : 1000 < p.length
        · exact .inl h'
        · exact .inr (.inr ⟨by omega, by omega, by simp [h]⟩)
    clear hc
    rcases hc' with h | ⟨h, h'⟩ | ⟨h, h', h''⟩
    all_goals
      go_enter Try.func13, Try.ntmps13
      go_wp2_with fail
      with_reducible refine (frameRuns _).mono ?_
      rintro e w4 ⟨rfl, b4⟩
      go_wp2_with fail
      go_ret
      exact ⟨rfl, b4⟩
  · have hpl : p.length ≤ 1000 := by omega
    have hql : q.length ≤ 1000 := by omega
    have hqp : 1 ≤ q.length := by omega
    have hqz : ((q.length : Int) == 0) = false := by simp; intro h; simp [h] at hqp
    have hnq : Frm.none' q = false := (Frm.none_iff q).2 ⟨by omega, by omega⟩
    have hol := Frm.one_length hnq
    clear hc
    go_enter Try.func13, Try.ntmps13
    go_wp2_with fail
    with_reducible refine (framePut _ _ [] p _ (Bytes.nil _) hv (by simp) (by omega)).mono ?_
    rintro e w1 ⟨r1, rfl, own1, b1⟩
    rw [put_nil] at own1
    have hn8 : (Frm.one p).length ≤ 1008 := by
      cases hnp : Frm.none' p
      · rw [Frm.one_length hnp]; omega
      · rw [Frm.one_none hnp]; simp
    obtain ⟨a1, c1, rfl⟩ := own1.bytes.shape
    go_wp2_with fail
    with_reducible refine (framePut _ _ (Frm.one p) q _ own1.bytes (hu.ext b1) (by omega) (by omega)).mono ?_
    rintro e w2 ⟨r2, rfl, own2, b2⟩
    have hbl : (Frm.put (Frm.one p) q).length = (Frm.one p).length + (q.length + 8) := by unfold Frm.put; rw [List.length_append, hol]
    have hput : Frm.put (Frm.one p) q = Frm.one p ++ Frm.one q := rfl
    rw [hput] at hbl own2
    obtain ⟨g, cs, rfl, hg1, hg2, hc1, hc2⟩ := own2.head (by omega)
    rw [hbl] at own2 hc1 ⊢
    unfold maxLen at hc2
    have hlen : (((Frm.one p).length : Int) + ((q.length : Int) + 8) != ((Frm.one p).length : Int) + (q.length : Int) + 8) = false := by simp; omega
    have b02 := b1.trans (b2.mono b1.size)
    have hsz := b1.size
    have Hol := Lib.hid hol
    have Hbl := Lib.hid hbl
    clear own1 b1 b2 hput hol hbl
    generalize hnn : (Frm.one p).length = n at *
    have Hnn := Lib.hid hnn
    clear hnn
    go_wp2_with fail
    with_reducible refine (withinCalls at' (8 * ((n : Int) + 4)) (8 * ((n : Int) + ((q.length : Int) + 8)) - 1) _ (by omega) (by omega) (by omega)).mono ?_
    rintro e w' ⟨rfl, rfl⟩
    obtain ⟨a, ha⟩ : ∃ a : Nat, within at' (8 * ((n : Int) + 4)) (8 * ((n : Int) + ((q.length : Int) + 8)) - 1) = a := ⟨_, (Int.toNat_of_nonneg (by have := (within_bounds at' (8 * ((n : Int) + 4)) (8 * ((n : Int) + ((q.length : Int) + 8)) - 1) (by omega)).1; omega)).symm⟩
    have hab : 8 * (n + 4) ≤ a ∧ a < 8 * (n + (q.length + 8)) := by have := within_bounds at' (8 * ((n : Int) + 4)) (8 * ((n : Int) + ((q.length : Int) + 8)) - 1) (by omega); omega
    rw [ha]
    clear ha hlen
    go_wp2_with fail
    go_loopw [12, 13] (fun t i wr => ∃ k : Nat, k ≤ 32 ∧ i = .int .i64 k ∧ t = .bool (Crc.tur a burst.toNat (8 * (n + (q.length + 8))) k) ∧ (∃ l', Crc.Turned (Frm.one p ++ Frm.one q) a burst.toNat k l' ∧ OwnB wr w1.heap.size 5 (.slice (some ⟨g, 0, none⟩) (n + (q.length + 8)) cs) l') ∧ Below w.heap.size w wr) (fun _ i _ => 32 - (intOf i).toNat)
    case atStart => exact ⟨0, by omega, rfl, rfl, ⟨_, Crc.Turned.zero _ _ _, own2⟩, b02⟩
    case round =>
      obtain ⟨k, hk, rfl, rfl, ⟨l', ht, ownr⟩, hbr⟩ := hrel
      clear own2 b02
      by_cases hlt : k < 32
      · have htl := ht.len
        rw [Hbl.out] at htl
        by_cases hbit : burst.toNat.testBit k = true
        · have hb1 : bits .and .u32 ((burst.toNat : Int) / 2 ^ k) 1 = 1 := by rw [bit_u32, hbit]; rfl
          by_cases hin : a + k < 8 * (n + (q.length + 8))
          · have hq0 : 0 ≤ ((a : Int) + (k : Int)) / 8 := by omega
            have hqt : (((a : Int) + (k : Int)) / 8).toNat = (a + k) / 8 := by omega
            have hq1 : ((a : Int) + (k : Int)) / 8 < (n : Int) + ((q.length : Int) + 8) := by omega
            have hr : (((a : Int) + (k : Int)) % 8).toNat = (a + k) % 8 := by omega
            have hr0 : 0 ≤ ((a : Int) + (k : Int)) % 8 := by omega
            have hcell := ownr.cellAt (by omega) ((a + k) / 8) (by omega)
            have hfz := ownr.frozenAt (by omega) ((a + k) / 8)
            have hgd : l'.getD ((a + k) / 8) 0 = l'[(a + k) / 8]'(by omega) := by rw [List.getD_eq_getElem?_getD, List.getElem?_eq_getElem (by omega)]; rfl
            generalize l'[(a + k) / 8]'_ = xk at hcell hgd
            have Hgd := Lib.hid hgd
            have hfx := flip_xor xk ((a + k) % 8) (by omega)
            obtain ⟨own', hg'⟩ := ownr.stored (by omega) ((a + k) / 8) (xk ^^^ UInt8.ofNat (2 ^ ((a + k) % 8)))
            have hflip : l'.set ((a + k) / 8) (xk ^^^ UInt8.ofNat (2 ^ ((a + k) % 8))) = Crc.flip l' (a + k) := by unfold Crc.flip; rw [Hgd.out]
            rw [hflip] at own'
            clear hflip hgd htl
            go_wp2
            go_region
            go_wp2
            go_roundw
            case rel => exact ⟨k + 1, by omega, by go_num, by rw [Crc.tur_succ, hbit, decide_eq_true hin]; simp, ⟨_, ht.yes hbit (by rw [Hbl.out]; exact hin), own'.drew⟩, (hbr.setCell (p := ⟨g, (a + k) / 8, none⟩) (Nat.le_trans hsz hg1) _).drew⟩
            case measure => simp [intOf]; omega
          · clear htl
            go_wp2
            go_roundw
            case rel => exact ⟨k + 1, by omega, by go_num, by rw [Crc.tur_succ, hbit, decide_eq_false hin]; simp, ⟨_, ht.no (.inr (by rw [Hbl.out]; omega)), ownr⟩, hbr⟩
            case measure => simp [intOf]; omega
        · have hbit' : burst.toNat.testBit k = false := by simpa using hbit
          have hb1 : bits .and .u32 ((burst.toNat : Int) / 2 ^ k) 1 = 0 := by rw [bit_u32, hbit']; rfl
          clear hbit htl
          go_wp2
          go_roundw
          case rel => exact ⟨k + 1, by omega, by go_num, by rw [Crc.tur_succ, hbit']; simp, ⟨_, ht.no (.inl hbit'), ownr⟩, hbr⟩
          case measure => simp [intOf]; omega
      · have : k = 32 := by omega
        subst this
        have htl := ht.len
        rw [Hbl.out] at htl
        have hall := Frm.all_turned hnq (by rw [Hnn.out]; exact hab.1) ht
        rw [Hnn.out] at hall
        go_wp2_with fail
        with_reducible refine (frameScan _ l' _ ?_ (by omega)).mono ?_
        · have := ownr.bytes
          unfold Bytes at this ⊢
          rw [htl] at this ⊢
          exact this
        rintro e w3 ⟨r, rfl, ownl, b3⟩
        replace hbr := hbr.trans (b3.mono hbr.size)
        have Hall := Lib.hid hall
        clear hall
        cases htur : Crc.tur a burst.toNat (8 * (n + (q.length + 8))) 32
        · have h2 := Hall.out
          rw [htur, if_neg (by simp)] at h2
          rw [h2]
          have heq : (((n + (q.length + 8) : Nat) : Int) == (n : Int) + ((q.length : Int) + 8)) = true := by simp
          clear htur h2 htl
          go_wp2_with fail
          with_reducible refine (frameRuns _).mono ?_
          rintro e w4 ⟨rfl, b4⟩
          replace hbr := hbr.trans (b4.mono hbr.size)
          go_wp2_with fail
          go_ret
          exact ⟨rfl, hbr⟩
        · have h2 := Hall.out
          rw [htur, if_pos rfl] at h2
          rw [h2] at ownl
          rw [h2]
          cases hnp : Frm.none' p
          · have hn0 : n = p.length + 8 := by rw [← Hnn.out, Frm.one_length hnp]
            rw [hnp] at ownl
            obtain ⟨pr, cr, rfl⟩ := ownl.shapeN (n := 1) rfl
            have heq : ((n : Int) == (n : Int)) = true := by simp
            have hpos : 0 < (n : Int) := by omega
            have hpd : decide (0 < (n : Int)) = true := by simpa using hpos
            clear htur h2 htl hn0 hnp
            go_wp2_with fail
            with_reducible refine (frameRuns _).mono ?_
            rintro e w4 ⟨rfl, b4⟩
            replace hbr := hbr.trans (b4.mono hbr.size)
            go_wp2_with fail
            go_ret
            exact ⟨rfl, hbr⟩
          · have hn0 : n = 0 := by rw [← Hnn.out, Frm.one_none hnp]; rfl
            rw [hnp] at ownl
            obtain ⟨pr, cr, rfl⟩ := ownl.shapeN (n := 0) rfl
            subst hn0
            clear htur h2 htl hnp
            go_wp2_with fail
            with_reducible refine (frameRuns _).mono ?_
            rintro e w4 ⟨rfl, b4⟩
            replace hbr := hbr.trans (b4.mono hbr.size)
            go_wp2_with fail
            go_ret
            exact ⟨rfl, hbr⟩

end Go.Proofs.Ytongoobcmlgdiaa
