/- Walks of package impostref1's sums: On, Open, Seal give what Crc says. Walks of package impostref16's frames: Frame and Next give what Frm says. The walk of impostref16.Next gives what Frm says. Frames put are found again; cut or turned ones are not. No program in sight. Frames one behind the other, cut off anywhere: those that are whole are found. No program in sight. -/
import Derived.Test.YtgpgcnmnfnnkjaaGreatDoorGWalOpens5
set_option linter.unusedVariables false
set_option linter.unusedSimpArgs false
section
namespace Go.Proofs.YtgpgcnmnfnnkjaaGreatDoor
open Go Go.RowKit

set_option maxHeartbeats 400000 in
theorem refOn (c : BitVec 32) (v : Value) (l : List UInt8) (w : World) (hb : Bytes w v l) :
   Calls Tryz.prog 121 #[.int .u32 (c.toNat : Int), v] w fun e w' => e = .returned (.int .u32 ((Crc.on c l).toNat : Int)) ∧ w = w' := by
 obtain ⟨p, cap, rfl, h1, h2, h3, h4⟩ := hb.form
 unfold maxLen at h2
 clear hb
 go_enter Tryz.func121, Tryz.ntmps121
 go_wp2
 go_loop [5, 6] (fun s i => ∃ k : Nat, k ≤ l.length ∧ i = .int .i64 k ∧ s = .int .u32 ((Crc.fold (Crc.inv c) (l.take k)).toNat : Int)) (fun _ i => l.length - (intOf i).toNat)
 case atStart => exact ⟨0, by omega, rfl, rfl⟩
 case round =>
  obtain ⟨k, hk, rfl, rfl⟩ := hrel
  by_cases hlt : k < l.length
  · obtain ⟨b, off, rfl, hc⟩ := h4 (by omega)
    replace hc := hc k hlt
    clear h3 h4
    have hsn := Lib.hid (Crc.fold_snoc (Crc.inv c) l k hlt)
    go_wp2
    generalize Crc.fold (Crc.inv c) (List.take k l) = s0 at *
    generalize l[k] = x at *
    go_loop [5, 7] (fun s j => ∃ m : Nat, m ≤ 8 ∧ j = .int .i64 m ∧ s = .int .u32 ((Crc.steps m (Crc.mix s0 x)).toNat : Int)) (fun _ j => 8 - (intOf j).toNat)
    case atStart => exact ⟨0, by omega, rfl, rfl⟩
    case round =>
     obtain ⟨m, hm, rfl, rfl⟩ := hrel
     by_cases hlm : m < 8
     · generalize hs : Crc.steps m (Crc.mix s0 x) = t
       have Hs := Lib.hid hs
       clear hs
       by_cases hb : (((Crc.low t).toNat : Int) == 1) = true
       · go_wp2
         go_round
         case rel => exact ⟨m + 1, by omega, by go_num, by simp [Crc.steps, Hs.out, Crc.step]; simp at hb; rw [if_pos (by omega)]⟩
         case measure => simp [intOf]; omega
       · have hb' : (((Crc.low t).toNat : Int) == 1) = false := by simpa using hb
         clear hb
         go_wp2
         go_round
         case rel => exact ⟨m + 1, by omega, by go_num, by simp [Crc.steps, Hs.out, Crc.step]; simp at hb'; rw [if_neg (by omega)]⟩
         case measure => simp [intOf]; omega
     · have : m = 8 := by omega
       subst this
       go_wp2
       go_round
       case rel => exact ⟨k + 1, by omega, by go_num, by rw [hsn.out]; rfl⟩
       case measure => simp [intOf]; omega
  · go_wp2
    go_ret
    exact ⟨by rw [List.take_of_length_le (by omega)]; rfl, rfl⟩

theorem refOn0 (v : Value) (l : List UInt8) (w : World) (hb : Bytes w v l) :
   Calls Tryz.prog 121 #[.int .u32 0, v] w fun e w' => e = .returned (.int .u32 ((Crc.on 0#32 l).toNat : Int)) ∧ w = w' := refOn 0#32 v l w hb

end Go.Proofs.YtgpgcnmnfnnkjaaGreatDoor
end

section
namespace Go.Proofs.YtgpgcnmnfnnkjaaGreatDoor
open Go Go.RowKit

set_option maxHeartbeats 400000 in
theorem refFour (c : BitVec 32) (C : Int) (hC : C = (c.toNat : Int)) (w : World) : Calls Tryz.prog 122 #[.int .u32 C] w fun e w' => ∃ r, e = .returned r ∧ OwnB w' w.heap.size 5 r (Crc.le4 c) ∧ Below w.heap.size w w' := by
 subst hC
 go_enter Tryz.func122, Tryz.ntmps122
 go_wp2
 go_ret
 refine ⟨_, rfl, ?_, below_alloc _ _⟩
 have h := Own.lit w #[.int .u8 ((c.toNat : Int) % 256), .int .u8 ((c.toNat : Int) / 256 % 256), .int .u8 ((c.toNat : Int) / 65536 % 256), .int .u8 ((c.toNat : Int) / 16777216)] 5 (sz := 1) 4 w.heap.size rfl (by simp [Value.oneCell']) (by unfold maxLen; omega) (Nat.le_refl _)
 exact OwnB.of h (by rfl) (le4_cells c)

set_option maxHeartbeats 400000 in
theorem refNumber (v : Value) (l : List UInt8) (w : World) (hv : Bytes w v l) (hl : 4 ≤ l.length) : Calls Tryz.prog 120 #[v] w fun e w' => e = .returned (.int .u32 ((Crc.num l).toNat : Int)) ∧ ∃ n, w' = w.drewN n := by
 obtain ⟨x0, x1, x2, x3, r, rfl⟩ := four_split l hl
 obtain ⟨b, off, cap, rfl, h1, h2, c0, c1, c2, c3⟩ := hv.four'
 have e : Crc.num (x0 :: x1 :: x2 :: x3 :: r) = Crc.num4 x0 x1 x2 x3 := rfl
 rw [e]
 clear hl e hv
 unfold maxLen at h2
 have i0 : (0 : Int) < (r.length : Int) + 4 := by omega
 have i1 : (1 : Int) < (r.length : Int) + 4 := by omega
 have i2 : (2 : Int) < (r.length : Int) + 4 := by omega
 have i3 : (3 : Int) < (r.length : Int) + 4 := by omega
 go_enter Tryz.func120, Tryz.ntmps120
 go_wp2
 go_quiet (fail)
 go_wp2
 go_ret
 exact ⟨rfl, _, rfl⟩


set_option maxHeartbeats 1000000 in
theorem refFrame (v u : Value) (b p : List UInt8) (w : World) (hv : Bytes w v b) (hu : Bytes w u p) (hb : b.length ≤ 70368744177664) (hp : p.length ≤ 70368744177664) :
 Calls Tryz.prog 91 #[v, u] w fun e w' => ∃ r, e = .returned r ∧ OwnB w' w.heap.size 5 r (Frm.put b p) ∧ Below w.heap.size w w' := by
 obtain ⟨p0, c0, rfl⟩ := hv.shape
 obtain ⟨q0, d0, rfl⟩ := hu.shape
 by_cases hn : Frm.none' p = true
 · have hn' : ((p.length : Int) == 0) = true ∨ (((p.length : Int) == 0) = false ∧ 131072 < p.length) := by
    unfold Frm.none' at hn
    by_cases hz : p.length = 0
    · left; simp [hz]
    · right; refine ⟨by simp; intro h; simp [h] at hz, ?_⟩
      have : p.length < 1 ∨ 131072 < p.length := by simpa using hn
      omega
   have hfin : Frm.put b p = b := by unfold Frm.put Frm.one; rw [hn]; simp
   rw [hfin]
   clear hn hfin
   rcases hn' with hn | ⟨hn, hn2⟩
   all_goals
    go_enter Tryz.func91, Tryz.ntmps91
    go_wp2_with (first
     | (at_builtin; refine wpList_app tBytesF rfl rfl (Own.lit w #[] _ 0 w.heap.size rfl (by simp) (Nat.zero_le _) (Nat.le_refl _)) rfl (Cells.ext hv (below_alloc w _)) rfl (by omega) (by simp) ?_; intro v3 w3 own3 g3 b3)
     | fail)
    go_ret
    exact ⟨_, rfl, OwnB.of own3 (by simp) (by simp), (below_alloc w _).trans b3⟩
 · have hn' : 1 ≤ p.length ∧ p.length ≤ 131072 := by
    have h : ¬ (p.length < 1 ∨ 131072 < p.length) := fun h => hn (by unfold Frm.none'; simpa using h)
    omega
   obtain ⟨hp1, hp2⟩ := hn'
   have hfin : Frm.put b p = b ++ (Frm.head p ++ p ++ Crc.le4 (Crc.on 0#32 (Frm.head p ++ p))) := by unfold Frm.put Frm.one; rw [if_neg hn]
   rw [hfin]
   have hz : ((p.length : Int) == 0) = false := by simp; intro h; simp [h] at hp1
   clear hn hfin
   have hmod : (p.length : Int) % 4294967296 = (p.length : Int) := by omega
   go_enter Tryz.func91, Tryz.ntmps91
   go_wp2_with (first
    | (at_builtin; refine wpList_app tBytesF rfl rfl (Own.lit w #[] _ 0 w.heap.size rfl (by simp) (Nat.zero_le _) (Nat.le_refl _)) rfl (Cells.ext hv (below_alloc w _)) rfl (by omega) (by simp) ?_; intro v3 w3 own3 g3 b3; replace own3 := OwnB.of (l := b) own3 (by simp) (by simp); replace b3 := (below_alloc w _).trans b3; clear g3)
    | fail)
   have lt3 := own3.lt
   with_reducible refine (refFour (BitVec.ofNat 32 p.length) _ (ofNat_u32 _ (by omega)) _).mono ?_
   rintro e w4 ⟨h, rfl, ownh, b4⟩
   replace own3 := own3.ext b4
   have b04 := b3.trans (b4.mono b3.size)
   have hsz := b04.size
   have hle4 : (Crc.le4 (BitVec.ofNat 32 p.length)).length = 4 := rfl
   have hhead : Crc.le4 (BitVec.ofNat 32 p.length) = Frm.head p := rfl
   rw [hhead] at ownh hle4
   generalize hhd : Frm.head p = hd at *
   have Hhd := Lib.hid hhd
   clear hhead hhd
   obtain ⟨gh, ch, rfl, hgh1, hgh2, _, _⟩ := ownh.head (by omega)
   rw [hle4] at ownh ⊢
   have hcell : Cells w4 1 (.slice (some ⟨gh, 0, none⟩) 4 ch) 4 (hd.map byteV) := by have := Own.cells ownh; rw [hle4] at this; exact this
   have Hle := Lib.hid hle4
   clear hle4
   go_wp2_with (first
    | (at_builtin; refine wpList_appW tBytesF rfl rfl own3 rfl hcell rfl (by omega) hsz ?_; intro v5 w5 own5 g5 b5 at5)
    | (at_builtin; refine wpList_appW tBytesF rfl rfl own5 rfl (Cells.ext hu (b04.trans b5)) rfl (by omega) (by have := b5.size; omega) ?_; intro v6 w6 own6 g6 b6 at6)
    | fail)
   have n3 : ∀ k, v3.ownBlock = some k → k ≠ gh := fun k hk => by have := lt3 k hk; omega
   have n5 : ∀ k, v5.ownBlock = some k → k ≠ gh := fun k hk => by
    rcases at5 with h | h
    · exact n3 k (h ▸ hk)
    · rw [h] at hk; cases hk; omega
   have ownh6 := (ownh.aside g5 n3).aside g6 n5
   have b06 := b04.trans (b5.trans b6)
   have hb6 : Bytes w6 (.slice (some ⟨gh, 0, none⟩) 4 ch) hd := ownh6.bytes
   with_reducible refine (refOn0 _ hd _ hb6).mono ?_
   rintro e w6' ⟨rfl, rfl⟩
   go_wp2_with fail
   with_reducible refine (refOn _ _ p _ (hu.ext b06)).mono ?_
   rintro e w6' ⟨rfl, rfl⟩
   rw [← Crc.on_append]
   go_wp2_with fail
   with_reducible refine (refFour _ _ rfl _).mono ?_
   rintro e w8 ⟨h8, rfl, ownh8, b8⟩
   have own8 := Own.ext own6 b8
   have b08 := b06.trans (b8.mono b06.size)
   obtain ⟨p8, c8, rfl⟩ := ownh8.bytes.shapeN (Crc.le4_length _)
   have hcell8 := Own.cells ownh8
   rw [Crc.le4_length] at hcell8
   have hsz8 := b08.size
   go_wp2_with (first
    | (at_builtin; refine wpList_app tBytesF rfl rfl own8 rfl hcell8 rfl (by omega) hsz8 ?_; intro v9 w9 own9 g9 b9)
    | fail)
   go_ret
   refine ⟨_, rfl, OwnB.of own9 ?_ ?_, b08.trans b9⟩
   · rw [Hhd.out]; simp [Hle.out, Crc.le4]; omega
   · rw [Hhd.out]; simp [List.map_append]

end Go.Proofs.YtgpgcnmnfnnkjaaGreatDoor
end

section
namespace Go.Proofs.YtgpgcnmnfnnkjaaGreatDoor
open Go Go.RowKit

theorem bytes_drew {w : World} {v : Value} {l : List UInt8} (h : Bytes w v l) : Bytes w.drew v l := h

set_option maxHeartbeats 1000000 in
theorem refNext1 (v : Value) (b : List UInt8) (at' : Int) (w : World) (hv : Bytes w v b) (hb : b.length ≤ 70368744177664) (h : at' < 0 ∨ (b.length : Int) < at') :
 Calls Tryz.prog 85 #[v, .int .i64 at'] w fun e w' => ∃ r, e = .returned (.tuple #[r, .int .i64 (Frm.toAt b at'), .int .i64 (Frm.errAt b at' : Nat)]) ∧ OwnB w' w.heap.size 5 r (Frm.payAt b at') ∧ Below w.heap.size w w' := by
 obtain ⟨p0, c0, rfl⟩ := hv.shape
 have e1 : Frm.errAt b at' = 1 := by unfold Frm.errAt; rw [if_pos h]
 have e2 : Frm.toAt b at' = 0 := by unfold Frm.toAt; rw [e1]; rfl
 have e3 : Frm.payAt b at' = [] := by unfold Frm.payAt; rw [e1]; rfl
 rw [e1, e2, e3]
 clear e1 e2 e3
 rcases h with h | h
 · go_enter Tryz.func85, Tryz.ntmps85
   go_wp2
   go_ret3
   exact ⟨_, rfl, OwnB.nil _ _ _, Below.refl _ _⟩
 · have h0 : ¬ at' < 0 := by omega
   go_enter Tryz.func85, Tryz.ntmps85
   go_wp2
   go_ret3
   exact ⟨_, rfl, OwnB.nil _ _ _, Below.refl _ _⟩

set_option maxHeartbeats 1000000 in
theorem refNext2 (v : Value) (b : List UInt8) (a : Nat) (w : World) (hv : Bytes w v b) (hb : b.length ≤ 70368744177664) (ha : a ≤ b.length) :
 Calls Tryz.prog 85 #[v, .int .i64 (a : Int)] w fun e w' => ∃ r, e = .returned (.tuple #[r, .int .i64 (Frm.toAt b a), .int .i64 (Frm.errAt b a : Nat)]) ∧ OwnB w' w.heap.size 5 r (Frm.payAt b a) ∧ Below w.heap.size w w' := by
 have hsl := run_sub_from tBytesF (P := Tryz.prog) hv .i64 (a : Int) a rfl ha
 have hr := hv.sub a b.length ha (Nat.le_refl _)
 have e0 : (b.drop a).take (b.length - a) = b.drop a := List.take_of_length_le (by simp)
 rw [e0] at hr
 obtain ⟨pr, cr, hpr⟩ := hr.shape
 rw [hpr] at hsl hr
 have hgd : ¬ (b.length : Int) < (a : Int) := by omega
 have hgd0 : ¬ (a : Int) < 0 := by omega
 have hrl : (b.drop a).length = b.length - a := by simp
 obtain ⟨p0, c0, rfl⟩ := hv.shape
 clear hpr e0
 by_cases h4 : (b.drop a).length < 4
 · obtain ⟨e1, e2, e3⟩ := next_bad ha (by decide) (err_short h4)
   rw [e1, e2, e3]
   have h5 : (b.length : Int) - (a : Int) < 4 := by omega
   clear e1 e2 e3 hrl h4
   go_enter Tryz.func85, Tryz.ntmps85
   go_wp2
   go_ret3
   exact ⟨_, rfl, OwnB.nil _ _ _, Below.refl _ _⟩
 · have h5 : ¬ (b.length : Int) - (a : Int) < 4 := by omega
   by_cases h2 : Frm.len (b.drop a) = 0 ∨ 131072 < Frm.len (b.drop a)
   · obtain ⟨e1, e2, e3⟩ := next_bad ha (by decide) (err_form h4 h2)
     rw [e1, e2, e3]
     have Hrl := Lib.hid hrl
     clear e1 e2 e3 hrl
     generalize b.drop a = r at *
     have h2' : (((Crc.num r).toNat : Int) == 0) = true ∨ ((((Crc.num r).toNat : Int) == 0) = false ∧ 131072 < ((Crc.num r).toNat : Int)) := by
      unfold Frm.len at h2
      by_cases hz : (Crc.num r).toNat = 0
      · left; simp [hz]
      · right; constructor
        · simp; omega
        · omega
     clear h2
     rcases h2' with h2 | ⟨h2, h3⟩
     all_goals
      go_enter Tryz.func85, Tryz.ntmps85
      go_wp2_with fail
      with_reducible refine (refNumber _ r _ hr (by omega)).mono ?_
      rintro e w1 ⟨rfl, n, rfl⟩
      go_wp2
      go_ret3
      exact ⟨_, rfl, OwnB.nil _ _ _, below_drawn _ _ _⟩
   · have h2a : 1 ≤ Frm.len (b.drop a) ∧ Frm.len (b.drop a) ≤ 131072 := by omega
     by_cases h3 : (b.drop a).length < Frm.len (b.drop a) + 8
     · obtain ⟨e1, e2, e3⟩ := next_bad ha (by decide) (err_short2 h4 h2 h3)
       rw [e1, e2, e3]
       have Hrl := Lib.hid hrl
       have hs0 : (b.length : Int) - (a : Int) - 4 < (Frm.len (b.drop a) : Int) + 4 := by omega
       clear e1 e2 e3 h2 hrl
       generalize b.drop a = r at *
       have hz : (((Crc.num r).toNat : Int) == 0) = false := by unfold Frm.len at h2a; simp; omega
       have hg : ¬ 131072 < ((Crc.num r).toNat : Int) := by unfold Frm.len at h2a; omega
       have hs : (b.length : Int) - (a : Int) - 4 < ((Crc.num r).toNat : Int) + 4 := hs0
       clear hs0
       unfold Frm.len at h2a
       go_enter Tryz.func85, Tryz.ntmps85
       go_wp2_with fail
       with_reducible refine (refNumber _ r _ hr (by omega)).mono ?_
       rintro e w1 ⟨rfl, n, rfl⟩
       go_wp2
       go_ret3
       exact ⟨_, rfl, OwnB.nil _ _ _, below_drawn _ _ _⟩
     · have hlast := err_last h4 h2 h3
       have hbad := fun (h : Frm.err (b.drop a) = 6) => next_bad ha (by decide) h
       have hok := fun (h : Frm.err (b.drop a) = 0) => next_ok ha h
       have hs0 : ¬ (b.length : Int) - (a : Int) - 4 < (Frm.len (b.drop a) : Int) + 4 := by omega
       have t1 := run_sub tBytesF (P := Tryz.prog) hv .i64 .i64 (a : Int) ((a : Int) + 4 + (Frm.len (b.drop a) : Int)) a (a + 4 + Frm.len (b.drop a)) rfl (by omega) (by omega) (by omega)
       have t2 := run_sub_from tBytesF (P := Tryz.prog) hv .i64 ((a : Int) + 4 + (Frm.len (b.drop a) : Int)) (a + 4 + Frm.len (b.drop a)) (by omega) (by omega)
       have t3 := run_sub tBytesF (P := Tryz.prog) hv .i64 .i64 ((a : Int) + 4) ((a : Int) + 4 + (Frm.len (b.drop a) : Int)) (a + 4) (a + 4 + Frm.len (b.drop a)) (by omega) (by omega) (by omega) (by omega)
       have g1 := hv.sub a (a + 4 + Frm.len (b.drop a)) (by omega) (by omega)
       have g2 := hv.sub (a + 4 + Frm.len (b.drop a)) b.length (by omega) (by omega)
       have g3 := hv.sub (a + 4) (a + 4 + Frm.len (b.drop a)) (by omega) (by omega)
       have e1 : (b.drop a).take (a + 4 + Frm.len (b.drop a) - a) = (b.drop a).take (4 + Frm.len (b.drop a)) := by congr 1; omega
       have e2 : (b.drop (a + 4 + Frm.len (b.drop a))).take (b.length - (a + 4 + Frm.len (b.drop a))) = (b.drop a).drop (4 + Frm.len (b.drop a)) := by
        rw [List.take_of_length_le (by simp), List.drop_drop]; congr 1; omega
       have e3 : (b.drop (a + 4)).take (a + 4 + Frm.len (b.drop a) - (a + 4)) = Frm.pay (b.drop a) := by
        unfold Frm.pay; rw [List.drop_drop]; congr 1; omega
       rw [e1] at g1; rw [e2] at g2; rw [e3] at g3
       have hl2 : 4 ≤ ((b.drop a).drop (4 + Frm.len (b.drop a))).length := by rw [List.length_drop]; omega
       have hpl : (Frm.pay (b.drop a)).length ≤ b.length := by unfold Frm.pay; rw [List.length_take, List.length_drop]; omega
       have Hrl := Lib.hid hrl
       clear e1 e2 e3 h2 h3 hrl
       generalize hrr : b.drop a = r at *
       have hz : (((Crc.num r).toNat : Int) == 0) = false := by unfold Frm.len at h2a; simp; omega
       have hg : ¬ 131072 < ((Crc.num r).toNat : Int) := by unfold Frm.len at h2a; omega
       generalize subV _ a _ 1 = v1 at *
       generalize subV _ (a + 4 + Frm.len r) b.length 1 = v2 at *
       generalize subV _ (a + 4) _ 1 = v3 at *
       obtain ⟨a1, c1, rfl⟩ := g1.shape
       obtain ⟨a2, c2, rfl⟩ := g2.shape
       obtain ⟨a3, c3, rfl⟩ := g3.shape
       have Hlast := Lib.hid hlast
       clear hlast hrr
       generalize hxx : Crc.on 0#32 (r.take (4 + Frm.len r)) = x at *
       generalize hyy : Crc.num (r.drop (4 + Frm.len r)) = y at *
       have Hxx := Lib.hid hxx
       have Hyy := Lib.hid hyy
       clear hxx hyy
       generalize r.take (4 + Frm.len r) = r1 at *
       generalize r.drop (4 + Frm.len r) = r2 at *
       generalize hpp : Frm.pay r = rp at *
       clear hpp
       have Hbad := Lib.hid hbad
       have Hok := Lib.hid hok
       have hs : ¬ (b.length : Int) - (a : Int) - 4 < ((Crc.num r).toNat : Int) + 4 := hs0
       unfold Frm.len at t1 t2 t3 h2a
       clear hbad hok hv hs0
       have w0 : IntKind.i64.wrap ((a : Int) + 4) = (a : Int) + 4 := by rw [IntKind.wrap_i64]; omega
       have w1' : IntKind.i64.wrap ((a : Int) + 4 + ((Crc.num r).toNat : Int)) = (a : Int) + 4 + ((Crc.num r).toNat : Int) := by rw [IntKind.wrap_i64]; omega
       go_enter Tryz.func85, Tryz.ntmps85
       go_wp2_with fail
       with_reducible refine (refNumber _ r _ hr (by omega)).mono ?_
       rintro e w1 ⟨rfl, n, hw1⟩
       have b1 : Below w.heap.size w w1 := by subst hw1; exact below_drawn _ _ _
       have g1' := g1.ext b1
       have g2' := g2.ext b1
       have g3' := g3.ext b1
       clear hw1 g1 g2 g3 hr
       go_wp2
       go_region_held3 (fun _ => True) (exact trivial) ((first
        | (go_at_call 121; (with_reducible refine (refOn0 _ r1 _ (bytes_drew g1')).mono ?_); (rintro e w2 ⟨rfl, rfl⟩; rw [Hxx.out]))
        | (go_at_call 120; (with_reducible refine (refNumber _ r2 _ (bytes_drew g2') hl2).mono ?_); (rintro e w3 ⟨rfl, n3, hw3⟩; (replace hw3 : Below w1.heap.size w1 w3 := by rw [hw3]; exact (below_drew _ _).trans (below_drawn _ _ _)); rw [Hyy.out]))))
       have g3'' := g3'.ext hw3
       have b03 := b1.trans (hw3.mono b1.size)
       have hs03 := b03.size
       clear hw3 t1 t2 g1' g2' g3' w0 w1'
       go_wp2_with (first
        | (at_builtin; refine wpList_app tBytesF rfl rfl (Own.lit _ #[] _ 0 w.heap.size rfl (by simp) (Nat.zero_le _) hs03) rfl (Cells.ext g3'' (below_alloc _ _)) rfl (by omega) (by simp; omega) ?_; intro v4 w4 own4 g4 b4)
        | fail)
       · go_ret3
         have hne : ((x.toNat : Int) != (y.toNat : Int)) = true := by assumption
         have he : Frm.err r = 6 := by rw [Hlast.out, if_neg (fun h => by rw [h] at hne; simp at hne)]
         obtain ⟨e1, e2, e3⟩ := Hbad.out he
         rw [e1, e2, e3]
         exact ⟨_, rfl, OwnB.nil _ _ _, b03⟩
       · go_ret3
         have hne : ((x.toNat : Int) != (y.toNat : Int)) = false := by assumption
         have he : Frm.err r = 0 := by rw [Hlast.out, if_pos (BitVec.eq_of_toNat_eq (by simp at hne; omega))]
         obtain ⟨e1, e2, e3⟩ := Hok.out he
         rw [e1, e2, e3]
         exact ⟨_, ret3i rfl (by unfold Frm.len; omega) rfl, OwnB.of own4 (by simp) (by simp), b03.trans (((below_alloc _ _).mono hs03).trans b4)⟩

theorem refNext (v : Value) (b : List UInt8) (at' : Int) (w : World) (hv : Bytes w v b) (hb : b.length ≤ 70368744177664) :
 Calls Tryz.prog 85 #[v, .int .i64 at'] w fun e w' => ∃ r, e = .returned (.tuple #[r, .int .i64 (Frm.toAt b at'), .int .i64 (Frm.errAt b at' : Nat)]) ∧ OwnB w' w.heap.size 5 r (Frm.payAt b at') ∧ Below w.heap.size w w' := by
 by_cases h : at' < 0 ∨ (b.length : Int) < at'
 · exact refNext1 v b at' w hv hb h
 · obtain ⟨a, rfl⟩ := Int.eq_ofNat_of_zero_le (show 0 ≤ at' by omega)
   exact refNext2 v b a w hv hb (by omega)

end Go.Proofs.YtgpgcnmnfnnkjaaGreatDoor
end

section
namespace Go.Proofs.YtgpgcnmnfnnkjaaGreatDoor
open Go Go.RowKit
namespace Frm

theorem none_iff (p : List UInt8) : none' p = false ↔ 1 ≤ p.length ∧ p.length ≤ 131072 := by
 unfold none'
 by_cases h1 : p.length < 1
 · rw [decide_eq_true h1]; simp; omega
 · rw [decide_eq_false h1]
   by_cases h2 : 131072 < p.length
   · rw [decide_eq_true h2]; simp; omega
   · rw [decide_eq_false h2]; simp; omega
theorem one_some {p : List UInt8} (h : none' p = false) : one p = Crc.seal' (head p ++ p) := by
 unfold one Crc.seal'; rw [h]; rfl
theorem head_length (p : List UInt8) : (head p).length = 4 := rfl
theorem one_length {p : List UInt8} (h : none' p = false) : (one p).length = p.length + 8 := by
 rw [one_some h, Crc.seal_length, List.length_append, head_length]; omega
theorem one_shape {p : List UInt8} (h : none' p = false) : one p = head p ++ (p ++ Crc.le4 (Crc.on 0#32 (head p ++ p))) := by
 rw [one_some h]; unfold Crc.seal'; rw [List.append_assoc]
theorem num_head (p : List UInt8) (hp : p.length ≤ 131072) (r : List UInt8) : len (head p ++ r) = p.length := by
 unfold len head
 rw [num_append (by rw [Crc.le4_length]; omega), Crc.num_le4, BitVec.toNat_ofNat, Nat.mod_eq_of_lt (by omega)]

theorem whole {p : List UInt8} (h : none' p = false) (r : List UInt8) : err (one p ++ r) = 0 ∧ len (one p ++ r) = p.length ∧ pay (one p ++ r) = p ∧ (one p ++ r).drop (p.length + 8) = r := by
 obtain ⟨h1, h2⟩ := (none_iff p).1 h
 have hs := one_shape h
 have hol := one_length h
 have hlen : len (one p ++ r) = p.length := by rw [hs, List.append_assoc]; exact num_head p h2 _
 have hle := Crc.le4_length (Crc.on 0#32 (head p ++ p))
 refine ⟨?_, hlen, ?_, ?_⟩
 · unfold err
   have ht : (one p ++ r).length = p.length + 8 + r.length := by rw [List.length_append, hol]
   rw [if_neg (by omega), if_neg (by omega), if_neg (by omega), hlen]
   have e1 : (one p ++ r).take (4 + p.length) = head p ++ p := by
    rw [hs, ← List.append_assoc, List.append_assoc]
    rw [List.take_left' (by rw [List.length_append, head_length])]
   have e2 : (one p ++ r).drop (4 + p.length) = Crc.le4 (Crc.on 0#32 (head p ++ p)) ++ r := by
    rw [hs, ← List.append_assoc, List.append_assoc]
    rw [List.drop_left' (by rw [List.length_append, head_length])]
   rw [e1, e2, num_append (by rw [hle]; omega), Crc.num_le4, if_pos rfl]
 · unfold pay
   rw [hlen, hs]
   have e2 : (head p ++ (p ++ Crc.le4 (Crc.on 0#32 (head p ++ p))) ++ r).drop 4 = p ++ (Crc.le4 (Crc.on 0#32 (head p ++ p)) ++ r) := by
    rw [List.append_assoc, List.drop_left' (head_length p), List.append_assoc]
   rw [e2, List.take_left' rfl]
 · rw [List.drop_left' hol]
theorem cut {p : List UInt8} (h : none' p = false) (k : Nat) (hk : k < p.length + 8) : err ((one p).take k) ≠ 0 := by
 obtain ⟨h1, h2⟩ := (none_iff p).1 h
 have hol := one_length h
 have hl : ((one p).take k).length = k := by rw [List.length_take]; omega
 unfold err
 by_cases h4 : k < 4
 · rw [if_pos (by omega)]; omega
 · have hlen : len ((one p).take k) = p.length := by
    have : len ((one p).take k) = len (one p) := by unfold len; rw [num_take (by omega) (by omega)]
    rw [this, one_shape h]; exact num_head p h2 _
   rw [if_neg (by omega), if_neg (by omega), if_pos (by omega)]; omega

end Frm
end Go.Proofs.YtgpgcnmnfnnkjaaGreatDoor
end

section
namespace Go.Proofs.YtgpgcnmnfnnkjaaGreatDoor
open Go Go.RowKit
namespace Frm

def cat (K : List (List UInt8)) : List UInt8 := K.flatMap one
end Frm
end Go.Proofs.YtgpgcnmnfnnkjaaGreatDoor
end
