/- Walks of package impostref16's frames: Frame and Next give what Frm says. -/
import Derived.Test.YtongoobcmlgdiaaFrameNext
namespace Go.Proofs.Ytongoobcmlgdiaa
open Go Go.RowKit

set_option maxHeartbeats 400000 in
theorem refFour (c : BitVec 32) (C : Int) (hC : C = (c.toNat : Int)) (w : World) : Calls Try.prog 33 #[.int .u32 C] w fun e w' => ∃ r, e = .returned r ∧ OwnB w' w.heap.size 5 r (Crc.le4 c) ∧ Below w.heap.size w w' := by
  subst hC
  go_enter Try.func33, Try.ntmps33
  go_wp2
  go_ret
  refine ⟨_, rfl, ?_, below_alloc _ _⟩
  have h := Own.lit w #[.int .u8 ((c.toNat : Int) % 256), .int .u8 ((c.toNat : Int) / 256 % 256), .int .u8 ((c.toNat : Int) / 65536 % 256), .int .u8 ((c.toNat : Int) / 16777216)] 5 (sz := 1) 4 w.heap.size rfl (by simp [Value.oneCell']) (by unfold maxLen; omega) (Nat.le_refl _)
  exact OwnB.of h (by rfl) (le4_cells c)

set_option maxHeartbeats 400000 in
theorem refNumber (v : Value) (l : List UInt8) (w : World) (hv : Bytes w v l) (hl : 4 ≤ l.length) : Calls Try.prog 34 #[v] w fun e w' => e = .returned (.int .u32 ((Crc.num l).toNat : Int)) ∧ ∃ n, w' = w.drewN n := by
  obtain ⟨x0, x1, x2, x3, r, rfl⟩ := four_split l hl
  obtain ⟨b, off, cap, rfl, h1, h2, c0, c1, c2, c3⟩ := hv.four'
  have e : Crc.num (x0 :: x1 :: x2 :: x3 :: r) = Crc.num4 x0 x1 x2 x3 := rfl
  rw [e]
  clear hl e hv
  unfold maxLen at h2
  have i0 : (0 : Int) < (r.length : Int) + 4 := by omega
  have i1 : (1 : Int) < (r.length : Int) + 4 := by omega
  have i2 : (2 : Int) < (r.length : Int) + 4 := by omega
  have i3 : (3 : Int) < (r.length : Int) + 4 := by omega
  go_enter Try.func34, Try.ntmps34
  go_wp2
  go_quiet (fail)
  go_wp2
  go_ret
  exact ⟨rfl, _, rfl⟩


set_option maxHeartbeats 1000000 in
theorem refFrame (v u : Value) (b p : List UInt8) (w : World) (hv : Bytes w v b) (hu : Bytes w u p) (hb : b.length ≤ 70368744177664) (hp : p.length ≤ 70368744177664) :
    Calls Try.prog 28 #[v, u] w fun e w' => ∃ r, e = .returned r ∧ OwnB w' w.heap.size 5 r (Frm.put b p) ∧ Below w.heap.size w w' := by
  obtain ⟨p0, c0, rfl⟩ := hv.shape
  obtain ⟨q0, d0, rfl⟩ := hu.shape
  by_cases hn : Frm.none' p = true
  · have hn' : ((p.length : Int) == 0) = true ∨ (((p.length : Int) == 0) = false ∧ 131072 < p.length) := by
      unfold Frm.none' at hn
      by_cases hz : p.length = 0
      · left; simp [hz]
      · right; refine ⟨by simp; intro h; simp [h] at hz, ?_⟩
        have : p.length < 1 ∨ 131072 < p.length := by simpa using hn
        omega
    have hfin : Frm.put b p = b := by unfold Frm.put Frm.one; rw [hn]; simp
    rw [hfin]
    clear hn hfin
    rcases hn' with hn | ⟨hn, hn2⟩
    all_goals
      go_enter Try.func28, Try.ntmps28
      go_wp2_with (first
        | (at_builtin; refine wpList_app tBytes rfl rfl (Own.lit w #[] _ 0 w.heap.size rfl (by simp) (Nat.zero_le _) (Nat.le_refl _)) rfl (Cells.ext hv (below_alloc w _)) rfl (by omega) (by simp) ?_; intro v3 w3 own3 g3 b3)
        | fail)
      go_ret
      exact ⟨_, rfl, OwnB.of own3 (by simp) (by simp), (below_alloc w _).trans b3⟩
  · have hn' : 1 ≤ p.length ∧ p.length ≤ 131072 := by
      have h : ¬ (p.length < 1 ∨ 131072 < p.length) := fun h => hn (by unfold Frm.none'; simpa using h)
      omega
    obtain ⟨hp1, hp2⟩ := hn'
    have hfin : Frm.put b p = b ++ (Frm.head p ++ p ++ Crc.le4 (Crc.on 0#32 (Frm.head p ++ p))) := by unfold Frm.put Frm.one; rw [if_neg hn]
    rw [hfin]
    have hz : ((p.length : Int) == 0) = false := by simp; intro h; simp [h] at hp1
    clear hn hfin
    have hmod : (p.length : Int) % 4294967296 = (p.length : Int) := by omega
    go_enter Try.func28, Try.ntmps28
    go_wp2_with (first
      | (at_builtin; refine wpList_app tBytes rfl rfl (Own.lit w #[] _ 0 w.heap.size rfl (by simp) (Nat.zero_le _) (Nat.le_refl _)) rfl (Cells.ext hv (below_alloc w _)) rfl (by omega) (by simp) ?_; intro v3 w3 own3 g3 b3; replace own3 := OwnB.of (l := b) own3 (by simp) (by simp); replace b3 := (below_alloc w _).trans b3; clear g3)
      | fail)
    have lt3 := own3.lt
    with_reducible refine (refFour (BitVec.ofNat 32 p.length) _ (ofNat_u32 _ (by omega)) _).mono ?_
    rintro e w4 ⟨h, rfl, ownh, b4⟩
    replace own3 := own3.ext b4
    have b04 := b3.trans (b4.mono b3.size)
    have hsz := b04.size
    have hle4 : (Crc.le4 (BitVec.ofNat 32 p.length)).length = 4 := rfl
    have hhead : Crc.le4 (BitVec.ofNat 32 p.length) = Frm.head p := rfl
    rw [hhead] at ownh hle4
    generalize hhd : Frm.head p = hd at *
    have Hhd := Lib.hid hhd
    clear hhead hhd
    obtain ⟨gh, ch, rfl, hgh1, hgh2, _, _⟩ := ownh.head (by omega)
    rw [hle4] at ownh ⊢
    have hcell : Cells w4 1 (.slice (some ⟨gh, 0, none⟩) 4 ch) 4 (hd.map byteV) := by have := Own.cells ownh; rw [hle4] at this; exact this
    have Hle := Lib.hid hle4
    clear hle4
    go_wp2_with (first
      | (at_builtin; refine wpList_appW tBytes rfl rfl own3 rfl hcell rfl (by omega) hsz ?_; intro v5 w5 own5 g5 b5 at5)
      | (at_builtin; refine wpList_appW tBytes rfl rfl own5 rfl (Cells.ext hu (b04.trans b5)) rfl (by omega) (by have := b5.size; omega) ?_; intro v6 w6 own6 g6 b6 at6)
      | fail)
    have n3 : ∀ k, v3.ownBlock = some k → k ≠ gh := fun k hk => by have := lt3 k hk; omega
    have n5 : ∀ k, v5.ownBlock = some k → k ≠ gh := fun k hk => by
      rcases at5 with h | h
      · exact n3 k (h ▸ hk)
      · rw [h] at hk; cases hk; omega
    have ownh6 := (ownh.aside g5 n3).aside g6 n5
    have b06 := b04.trans (b5.trans b6)
    have hb6 : Bytes w6 (.slice (some ⟨gh, 0, none⟩) 4 ch) hd := ownh6.bytes
    with_reducible refine (refOn0 _ hd _ hb6).mono ?_
    rintro e w6' ⟨rfl, rfl⟩
    go_wp2_with fail
    with_reducible refine (refOn _ _ p _ (hu.ext b06)).mono ?_
    rintro e w6' ⟨rfl, rfl⟩
    rw [← Crc.on_append]
    go_wp2_with fail
    with_reducible refine (refFour _ _ rfl _).mono ?_
    rintro e w8 ⟨h8, rfl, ownh8, b8⟩
    have own8 := Own.ext own6 b8
    have b08 := b06.trans (b8.mono b06.size)
    obtain ⟨p8, c8, rfl⟩ := ownh8.bytes.shapeN (Crc.le4_length _)
    have hcell8 := Own.cells ownh8
    rw [Crc.le4_length] at hcell8
    have hsz8 := b08.size
    go_wp2_with (first
      | (at_builtin; refine wpList_app tBytes rfl rfl own8 rfl hcell8 rfl (by omega) hsz8 ?_; intro v9 w9 own9 g9 b9)
      | fail)
    go_ret
    refine ⟨_, rfl, OwnB.of own9 ?_ ?_, b08.trans b9⟩
    · rw [Hhd.out]; simp [Hle.out, Crc.le4]; omega
    · rw [Hhd.out]; simp [List.map_append]

end Go.Proofs.Ytongoobcmlgdiaa
