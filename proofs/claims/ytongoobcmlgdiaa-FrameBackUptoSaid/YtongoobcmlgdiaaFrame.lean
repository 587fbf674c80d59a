/- Walks of package frame: four, number, Put, Next give what Frm says. -/
import Derived.Test.YtongoobcmlgdiaaSumLaws
import Derived.Test.YtongoobcmlgdiaaFrm
namespace Go.Proofs.Ytongoobcmlgdiaa
open Go Go.RowKit

set_option maxHeartbeats 400000 in
theorem frameFour (c : BitVec 32) (C : Int) (hC : C = (c.toNat : Int)) (w : World) : Calls Try.prog 31 #[.int .u32 C] w fun e w' => ∃ r, e = .returned r ∧ OwnB w' w.heap.size 5 r (Crc.le4 c) ∧ Below w.heap.size w w' := by
  subst hC
  go_enter Try.func31, Try.ntmps31
  go_wp2
  go_ret
  refine ⟨_, rfl, ?_, below_alloc _ _⟩
  have h := Own.lit w #[.int .u8 ((c.toNat : Int) % 256), .int .u8 ((c.toNat : Int) / 256 % 256), .int .u8 ((c.toNat : Int) / 65536 % 256), .int .u8 ((c.toNat : Int) / 16777216)] 5 (sz := 1) 4 w.heap.size rfl (by simp [Value.oneCell']) (by unfold maxLen; omega) (Nat.le_refl _)
  exact OwnB.of h (by rfl) (le4_cells c)

theorem four_split (l : List UInt8) (h : 4 ≤ l.length) : ∃ x0 x1 x2 x3 r, l = x0 :: x1 :: x2 :: x3 :: r := by
  match l, h with
  | a :: b :: c :: d :: r, _ => exact ⟨a, b, c, d, r, rfl⟩
theorem Bytes.four' {w : World} {v : Value} {x0 x1 x2 x3 : UInt8} {r : List UInt8} (h : Bytes w v (x0 :: x1 :: x2 :: x3 :: r)) : ∃ b off cap, v = .slice (some ⟨b, off, none⟩) (r.length + 4) cap ∧ r.length + 4 ≤ cap ∧ cap ≤ maxLen ∧
    w.cell? ⟨b, off, none⟩ = some (.int .u8 (x0.toNat : Int)) ∧ w.cell? ⟨b, off + 1, none⟩ = some (.int .u8 (x1.toNat : Int)) ∧ w.cell? ⟨b, off + 2, none⟩ = some (.int .u8 (x2.toNat : Int)) ∧ w.cell? ⟨b, off + 3, none⟩ = some (.int .u8 (x3.toNat : Int)) := by
  obtain ⟨p, cap, rfl, h1, h2, h3, h4⟩ := h.form
  simp at h1
  obtain ⟨b, off, rfl, hc⟩ := h4 (by simp)
  exact ⟨b, off, cap, rfl, h1, h2, hc 0 (by simp), hc 1 (by simp), hc 2 (by simp), hc 3 (by simp)⟩

set_option maxHeartbeats 400000 in
theorem frameNumber (v : Value) (l : List UInt8) (w : World) (hv : Bytes w v l) (hl : 4 ≤ l.length) : Calls Try.prog 32 #[v] w fun e w' => e = .returned (.int .u32 ((Crc.num l).toNat : Int)) ∧ ∃ n, w' = w.drewN n := by
  obtain ⟨x0, x1, x2, x3, r, rfl⟩ := four_split l hl
  obtain ⟨b, off, cap, rfl, h1, h2, c0, c1, c2, c3⟩ := hv.four'
  have e : Crc.num (x0 :: x1 :: x2 :: x3 :: r) = Crc.num4 x0 x1 x2 x3 := rfl
  rw [e]
  clear hl e hv
  unfold maxLen at h2
  have i0 : (0 : Int) < (r.length : Int) + 4 := by omega
  have i1 : (1 : Int) < (r.length : Int) + 4 := by omega
  have i2 : (2 : Int) < (r.length : Int) + 4 := by omega
  have i3 : (3 : Int) < (r.length : Int) + 4 := by omega
  go_enter Try.func32, Try.ntmps32
  go_wp2
  go_quiet (fail)
  go_wp2
  go_ret
  exact ⟨rfl, _, rfl⟩

theorem ofNat_u32 (n : Nat) (h : n < 4294967296) : (n : Int) = ((BitVec.ofNat 32 n).toNat : Int) := by
  rw [BitVec.toNat_ofNat, Nat.mod_eq_of_lt h]

set_option maxHeartbeats 1000000 in
theorem framePut (v u : Value) (b p : List UInt8) (w : World) (hv : Bytes w v b) (hu : Bytes w u p) (hb : b.length ≤ 70368744177664) (hp : p.length ≤ 70368744177664) :
    Calls Try.prog 25 #[v, u] w fun e w' => ∃ r, e = .returned r ∧ OwnB w' w.heap.size 5 r (Frm.put b p) ∧ Below w.heap.size w w' := by
  obtain ⟨p0, c0, rfl⟩ := hv.shape
  obtain ⟨q0, d0, rfl⟩ := hu.shape
  by_cases hn : Frm.none' p = true
  · have hn' : p.length < 1 ∨ 131072 < p.length := by unfold Frm.none' at hn; simpa using hn
    go_enter Try.func25, Try.ntmps25
    have hfin : Frm.put b p = b := by unfold Frm.put Frm.one; rw [hn]; simp
    rw [hfin]
    clear hn hfin
    rcases hn' with hn | hn
    all_goals
      go_wp2_with (first
        | (at_make; refine wpList_mk tBytes rfl rfl w.heap.size (b.length + 8 + p.length) rfl rfl (by simp) (by omega) (by unfold maxLen; omega) (Nat.le_refl _) ?_; intro v2 w2 own2 g2 b2)
        | (at_builtin; refine wpList_app tBytes rfl rfl own2 rfl (Cells.ext hv b2) rfl (by omega) b2.size ?_; intro v3 w3 own3 g3 b3; clear own2))
      go_ret
      exact ⟨_, rfl, OwnB.of own3 (by simp) (by simp), b2.trans b3⟩
  · have hn' : 1 ≤ p.length ∧ p.length ≤ 131072 := by
      have h : ¬ (p.length < 1 ∨ 131072 < p.length) := fun h => hn (by unfold Frm.none'; simpa using h)
      omega
    obtain ⟨hp1, hp2⟩ := hn'
    have hfin : Frm.put b p = b ++ (Frm.head p ++ p ++ Crc.le4 (Crc.on 0#32 (Frm.head p ++ p))) := by unfold Frm.put Frm.one; rw [if_neg hn]
    rw [hfin]
    clear hn hfin
    have hmod : (p.length : Int) % 4294967296 = (p.length : Int) := by omega
    go_enter Try.func25, Try.ntmps25
    go_wp2_with (first
      | (at_make; refine wpList_mk tBytes rfl rfl w.heap.size (b.length + 8 + p.length) rfl rfl (by simp) (by omega) (by unfold maxLen; omega) (Nat.le_refl _) ?_; intro v2 w2 own2 g2 b2)
      | (at_builtin; refine wpList_app tBytes rfl rfl own2 rfl (Cells.ext hv b2) rfl (by omega) b2.size ?_; intro v3 w3 own3 g3 b3; clear own2; replace own3 := OwnB.of (l := b) own3 (by simp) (by simp); replace b3 := b2.trans b3; clear b2 g2 g3)
      | fail)
    have lt3 := own3.lt
    with_reducible refine (frameFour (BitVec.ofNat 32 p.length) _ (ofNat_u32 _ (by omega)) _).mono ?_
    rintro e w4 ⟨h, rfl, ownh, b4⟩
    replace own3 := own3.ext b4
    have b04 := b3.trans (b4.mono b3.size)
    have hsz := b04.size
    have hle4 : (Crc.le4 (BitVec.ofNat 32 p.length)).length = 4 := rfl
    have hhead : Crc.le4 (BitVec.ofNat 32 p.length) = Frm.head p := rfl
    rw [hhead] at ownh hle4
    generalize hhd : Frm.head p = hd at *
    have Hhd := Lib.hid hhd
    clear hhead hhd
    obtain ⟨gh, ch, rfl, hgh1, hgh2, _, _⟩ := ownh.head (by omega)
    rw [hle4] at ownh ⊢
    have hcell : Cells w4 1 (.slice (some ⟨gh, 0, none⟩) 4 ch) 4 (hd.map byteV) := by have := Own.cells ownh; rw [hle4] at this; exact this
    have Hle := Lib.hid hle4
    clear hle4
    go_wp2_with (first
      | (at_builtin; refine wpList_appW tBytes rfl rfl own3 rfl hcell rfl (by omega) hsz ?_; intro v5 w5 own5 g5 b5 at5)
      | (at_builtin; refine wpList_appW tBytes rfl rfl own5 rfl (Cells.ext hu (b04.trans b5)) rfl (by omega) (by have := b5.size; omega) ?_; intro v6 w6 own6 g6 b6 at6)
      | fail)
    have n3 : ∀ k, v3.ownBlock = some k → k ≠ gh := fun k hk => by have := lt3 k hk; omega
    have n5 : ∀ k, v5.ownBlock = some k → k ≠ gh := fun k hk => by
      rcases at5 with h | h
      · exact n3 k (h ▸ hk)
      · rw [h] at hk; cases hk; omega
    have n6 : ∀ k, v6.ownBlock = some k → k ≠ gh := fun k hk => by
      rcases at6 with h | h
      · exact n5 k (h ▸ hk)
      · rw [h] at hk; cases hk; have := b5.size; omega
    have ownh5 := ownh.aside g5 n3
    have ownh6 := ownh5.aside g6 n5
    have b06 := b04.trans (b5.trans b6)
    have lt6 := Own.lt own6
    with_reducible refine (sumOfL [_, _] [hd, p] _ ?_ _ 2 rfl ?_ ?_ _).mono ?_
    · have := ownh6.bytes
      exact ⟨this, hu.ext b06, trivial⟩
    · rfl
    · unfold maxLen; decide
    rintro e w7 ⟨rfl, b7⟩
    have own7 := Own.ext own6 b7
    have b07 := b06.trans (b7.mono b06.size)
    go_wp2_with fail
    with_reducible refine (frameFour _ _ rfl _).mono ?_
    rintro e w8 ⟨h8, rfl, ownh8, b8⟩
    have own8 := Own.ext own7 b8
    have b08 := b07.trans (b8.mono b07.size)
    obtain ⟨p8, c8, rfl⟩ := ownh8.bytes.shapeN (Crc.le4_length _)
    have hcell8 := Own.cells ownh8
    rw [Crc.le4_length] at hcell8
    have hsz8 := b08.size
    go_wp2_with (first
      | (at_builtin; refine wpList_app tBytes rfl rfl own8 rfl hcell8 rfl (by omega) hsz8 ?_; intro v9 w9 own9 g9 b9)
      | fail)
    go_ret
    refine ⟨_, rfl, OwnB.of own9 ?_ ?_, b08.trans b9⟩
    · rw [Hhd.out]; simp [Hle.out, Crc.le4]; omega
    · rw [Hhd.out]; simp [List.map_append]

set_option maxHeartbeats 1000000 in
theorem frameNext1 (v : Value) (b : List UInt8) (at' : Int) (w : World) (hv : Bytes w v b) (hb : b.length ≤ 70368744177664) (h : at' < 0 ∨ (b.length : Int) < at') :
    Calls Try.prog 26 #[v, .int .i64 at'] w fun e w' => ∃ r, e = .returned (.tuple #[r, .int .i64 (Frm.toAt b at'), .int .i64 (Frm.errAt b at' : Nat)]) ∧ OwnB w' w.heap.size 5 r (Frm.payAt b at') ∧ Below w.heap.size w w' := by
  obtain ⟨p0, c0, rfl⟩ := hv.shape
  have e1 : Frm.errAt b at' = 1 := by unfold Frm.errAt; rw [if_pos h]
  have e2 : Frm.toAt b at' = 0 := by unfold Frm.toAt; rw [e1]; rfl
  have e3 : Frm.payAt b at' = [] := by unfold Frm.payAt; rw [e1]; rfl
  rw [e1, e2, e3]
  clear e1 e2 e3
  rcases h with h | h
  · go_enter Try.func26, Try.ntmps26
    go_wp2
    go_ret3
    exact ⟨_, rfl, OwnB.nil _ _ _, Below.refl _ _⟩
  · have h0 : ¬ at' < 0 := by omega
    go_enter Try.func26, Try.ntmps26
    go_wp2
    go_ret3
    exact ⟨_, rfl, OwnB.nil _ _ _, Below.refl _ _⟩

end Go.Proofs.Ytongoobcmlgdiaa
