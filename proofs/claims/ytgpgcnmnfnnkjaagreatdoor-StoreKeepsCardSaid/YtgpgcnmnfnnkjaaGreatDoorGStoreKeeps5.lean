/- Walks of package frame: Next, at a place inside. Frames put are found again; cut or turned ones are not. No program in sight. Frames one behind the other, cut off anywhere: those that are whole are found. No program in sight. -/
import Derived.Test.YtgpgcnmnfnnkjaaGreatDoorGStoreKeeps4
import Derived.Deep.RegionHeld3
set_option linter.unusedVariables false
set_option linter.unusedSimpArgs false
section
namespace Go.Proofs.YtgpgcnmnfnnkjaaGreatDoor
open Go Go.RowKit

theorem err_short {r : List UInt8} (h : r.length < 4) : Frm.err r = 3 := by unfold Frm.err; rw [if_pos h]
theorem err_form {r : List UInt8} (h : ¬ r.length < 4) (h2 : Frm.len r = 0 ∨ 131072 < Frm.len r) : Frm.err r = 4 := by unfold Frm.err; rw [if_neg h, if_pos h2]
theorem err_short2 {r : List UInt8} (h : ¬ r.length < 4) (h2 : ¬ (Frm.len r = 0 ∨ 131072 < Frm.len r)) (h3 : r.length < Frm.len r + 8) : Frm.err r = 3 := by unfold Frm.err; rw [if_neg h, if_neg h2, if_pos h3]
theorem err_last {r : List UInt8} (h : ¬ r.length < 4) (h2 : ¬ (Frm.len r = 0 ∨ 131072 < Frm.len r)) (h3 : ¬ r.length < Frm.len r + 8) :
 Frm.err r = if Crc.on 0#32 (r.take (4 + Frm.len r)) = Crc.num (r.drop (4 + Frm.len r)) then 0 else 6 := by unfold Frm.err; rw [if_neg h, if_neg h2, if_neg h3]

theorem next_bad {b : List UInt8} {a k : Nat} (ha : a ≤ b.length) (hk : k ≠ 0) (h : Frm.err (b.drop a) = k) : Frm.errAt b a = k ∧ Frm.toAt b a = 0 ∧ Frm.payAt b a = [] := by
 have e1 : Frm.errAt b a = k := by unfold Frm.errAt; rw [if_neg (by omega)]; simpa using h
 exact ⟨e1, by unfold Frm.toAt; rw [e1, if_neg hk], by unfold Frm.payAt; rw [e1, if_neg hk]⟩
theorem next_ok {b : List UInt8} {a : Nat} (ha : a ≤ b.length) (h : Frm.err (b.drop a) = 0) : Frm.errAt b a = 0 ∧ Frm.toAt b a = (a : Int) + 8 + Frm.len (b.drop a) ∧ Frm.payAt b a = Frm.pay (b.drop a) := by
 have e1 : Frm.errAt b a = 0 := by unfold Frm.errAt; rw [if_neg (by omega)]; simpa using h
 exact ⟨e1, by unfold Frm.toAt; rw [e1, if_pos rfl]; simp, by unfold Frm.payAt; rw [e1, if_pos rfl]; simp⟩

theorem ret3i {r r' : Value} {x x' y y' : Int} (h : r = r') (hx : x = x') (hy : y = y') : Ending.returned (.tuple #[r, .int .i64 x, .int .i64 y]) = .returned (.tuple #[r', .int .i64 x', .int .i64 y']) := by rw [h, hx, hy]
theorem sumOf1d (v : Value) (l : List UInt8) (w : World) (hb : Bytes w v l) (B : Nat) (hB : B = w.heap.size) (t : TypeId) :
   Calls Tryz.prog 127 #[.slice (some ⟨B, 0, none⟩) 1 1] (w.alloc (.cells #[v] t)).drew fun e w' => e = .returned (.int .u32 ((Crc.on 0#32 l).toNat : Int)) ∧ Below w.heap.size w w' :=
 (sumOf _ [l] _ (parts_one hb B hB t).drew).mono fun e w' ⟨h1, h2⟩ => ⟨h1, h2 ▸ (below_alloc w _).trans (below_drew _ _)⟩

set_option maxHeartbeats 1000000 in
theorem frameNext2 (v : Value) (b : List UInt8) (a : Nat) (w : World) (hv : Bytes w v b) (hb : b.length ≤ 70368744177664) (ha : a ≤ b.length) :
 Calls Tryz.prog 98 #[v, .int .i64 (a : Int)] w fun e w' => ∃ r, e = .returned (.tuple #[r, .int .i64 (Frm.toAt b a), .int .i64 (Frm.errAt b a : Nat)]) ∧ OwnB w' w.heap.size 5 r (Frm.payAt b a) ∧ Below w.heap.size w w' := by
 have hsl := run_sub_from tBytesF (P := Tryz.prog) hv .i64 (a : Int) a rfl ha
 have hr := hv.sub a b.length ha (Nat.le_refl _)
 have e0 : (b.drop a).take (b.length - a) = b.drop a := List.take_of_length_le (by simp)
 rw [e0] at hr
 obtain ⟨pr, cr, hpr⟩ := hr.shape
 rw [hpr] at hsl hr
 have hgd : ¬ (b.length : Int) < (a : Int) := by omega
 have hgd0 : ¬ (a : Int) < 0 := by omega
 have hrl : (b.drop a).length ≤ b.length := by simp
 obtain ⟨p0, c0, rfl⟩ := hv.shape
 clear hpr e0
 by_cases h4 : (b.drop a).length < 4
 · obtain ⟨e1, e2, e3⟩ := next_bad ha (by decide) (err_short h4)
   rw [e1, e2, e3]
   clear e1 e2 e3
   generalize b.drop a = r at *
   go_enter Tryz.func98, Tryz.ntmps98
   go_wp2
   go_ret3
   exact ⟨_, rfl, OwnB.nil _ _ _, Below.refl _ _⟩
 · by_cases h2 : Frm.len (b.drop a) = 0 ∨ 131072 < Frm.len (b.drop a)
   · obtain ⟨e1, e2, e3⟩ := next_bad ha (by decide) (err_form h4 h2)
     rw [e1, e2, e3]
     clear e1 e2 e3
     generalize b.drop a = r at *
     have hlen : (Frm.len r : Int) = ((Crc.num r).toNat : Int) := rfl
     have h2' : (((Crc.num r).toNat : Int) == 0) = true ∨ ((((Crc.num r).toNat : Int) == 0) = false ∧ 131072 < ((Crc.num r).toNat : Int)) := by
      unfold Frm.len at h2
      by_cases hz : (Crc.num r).toNat = 0
      · left; simp [hz]
      · right; constructor
        · simp; omega
        · omega
     clear hlen h2
     rcases h2' with h2 | ⟨h2, h3⟩
     all_goals
      go_enter Tryz.func98, Tryz.ntmps98
      go_wp2_with fail
      with_reducible refine (frameNumber _ r _ hr (by omega)).mono ?_
      rintro e w1 ⟨rfl, n, rfl⟩
      go_wp2
      go_ret3
      exact ⟨_, rfl, OwnB.nil _ _ _, below_drawn _ _ _⟩
   · have h2a : 1 ≤ Frm.len (b.drop a) ∧ Frm.len (b.drop a) ≤ 131072 := by omega
     by_cases h3 : (b.drop a).length < Frm.len (b.drop a) + 8
     · obtain ⟨e1, e2, e3⟩ := next_bad ha (by decide) (err_short2 h4 h2 h3)
       rw [e1, e2, e3]
       clear e1 e2 e3 h2
       generalize b.drop a = r at *
       have hz : (((Crc.num r).toNat : Int) == 0) = false := by unfold Frm.len at h2a; simp; omega
       have hg : ¬ 131072 < ((Crc.num r).toNat : Int) := by unfold Frm.len at h2a; omega
       have hs : (r.length : Int) < 4 + ((Crc.num r).toNat : Int) + 4 := by unfold Frm.len at h3; omega
       unfold Frm.len at h2a
       go_enter Tryz.func98, Tryz.ntmps98
       go_wp2_with fail
       with_reducible refine (frameNumber _ r _ hr (by omega)).mono ?_
       rintro e w1 ⟨rfl, n, rfl⟩
       go_wp2
       go_ret3
       exact ⟨_, rfl, OwnB.nil _ _ _, below_drawn _ _ _⟩
     · have hlast := err_last h4 h2 h3
       have hbad := fun (h : Frm.err (b.drop a) = 6) => next_bad ha (by decide) h
       have hok := fun (h : Frm.err (b.drop a) = 0) => next_ok ha h
       generalize hrr : b.drop a = r at *
       have hz : (((Crc.num r).toNat : Int) == 0) = false := by unfold Frm.len at h2a; simp; omega
       have hg : ¬ 131072 < ((Crc.num r).toNat : Int) := by unfold Frm.len at h2a; omega
       have hs : ¬ (r.length : Int) < 4 + ((Crc.num r).toNat : Int) + 4 := by unfold Frm.len at h3; omega
       have t1 := run_sub_to tBytesF (P := Tryz.prog) hr .i64 (4 + ((Crc.num r).toNat : Int)) (4 + Frm.len r) (by unfold Frm.len; omega) (by omega)
       have t2 := run_sub_from tBytesF (P := Tryz.prog) hr .i64 (4 + ((Crc.num r).toNat : Int)) (4 + Frm.len r) (by unfold Frm.len; omega) (by omega)
       have t3 := run_sub tBytesF (P := Tryz.prog) hr .i64 .i64 4 (4 + ((Crc.num r).toNat : Int)) 4 (4 + Frm.len r) rfl (by unfold Frm.len; omega) (by omega) (by omega)
       have g1 := hr.sub 0 (4 + Frm.len r) (by omega) (by omega)
       have g2 := hr.sub (4 + Frm.len r) r.length (by omega) (by omega)
       have g3 := hr.sub 4 (4 + Frm.len r) (by omega) (by omega)
       have e1 : (r.drop 0).take (4 + Frm.len r - 0) = r.take (4 + Frm.len r) := by simp
       have e2 : (r.drop (4 + Frm.len r)).take (r.length - (4 + Frm.len r)) = r.drop (4 + Frm.len r) := List.take_of_length_le (by simp)
       have e3 : (r.drop 4).take (4 + Frm.len r - 4) = Frm.pay r := by unfold Frm.pay; congr 1; omega
       rw [e1] at g1; rw [e2] at g2; rw [e3] at g3
       generalize subV _ 0 (4 + Frm.len r) 1 = v1 at *
       generalize subV _ (4 + Frm.len r) r.length 1 = v2 at *
       generalize subV _ 4 (4 + Frm.len r) 1 = v3 at *
       obtain ⟨a1, c1, rfl⟩ := g1.shape
       obtain ⟨a2, c2, rfl⟩ := g2.shape
       obtain ⟨a3, c3, rfl⟩ := g3.shape
       have hl2 : 4 ≤ (r.drop (4 + Frm.len r)).length := by rw [List.length_drop]; omega
       have hpl : (Frm.pay r).length ≤ b.length := by unfold Frm.pay; rw [List.length_take, List.length_drop]; omega
       have Hlast := Lib.hid hlast
       have Hrr := Lib.hid hrr
       have hsum : (4 : Int) + ((Crc.num r).toNat : Int) = 4 + ((Crc.num r).toNat : Int) := rfl
       unfold Frm.len at h2a
       clear e1 e2 e3 hlast hrr hsum h2 h3
       generalize hxx : Crc.on 0#32 (r.take (4 + Frm.len r)) = x at *
       generalize hyy : Crc.num (r.drop (4 + Frm.len r)) = y at *
       have Hxx := Lib.hid hxx
       have Hyy := Lib.hid hyy
       clear hxx hyy
       generalize r.take (4 + Frm.len r) = r1 at *
       generalize r.drop (4 + Frm.len r) = r2 at *
       generalize hpp : Frm.pay r = rp at *
       have Hpp := Lib.hid hpp
       clear hpp
       have Hbad := Lib.hid hbad
       have Hok := Lib.hid hok
       clear hbad hok hv
       go_enter Tryz.func98, Tryz.ntmps98
       go_wp2_with fail
       with_reducible refine (frameNumber _ r _ hr (by omega)).mono ?_
       rintro e w1 ⟨rfl, n, hw1⟩
       have b1 : Below w.heap.size w w1 := by subst hw1; exact below_drawn _ _ _
       have g1' := g1.ext b1
       have g2' := g2.ext b1
       have g3' := g3.ext b1
       clear hw1 g1 g2 g3 hr
       go_wp2
       go_region_held3 (fun _ => True) (exact trivial) ((first
        | (go_at_call 127; (with_reducible refine (sumOf1d _ r1 _ g1' _ rfl _).mono ?_); (rintro e w2 ⟨rfl, b2⟩; rw [Hxx.out]))
        | (go_at_call 126; (with_reducible refine (frameNumber _ r2 _ (g2'.ext b2) hl2).mono ?_); (rintro e w3 ⟨rfl, n3, hw3⟩; (replace hw3 : Below w2.heap.size w2 w3 := by rw [hw3]; exact below_drawn _ _ _); rw [Hyy.out]))))
       have b3 : Below w1.heap.size w1 w3 := b2.trans (hw3.mono b2.size)
       have g3'' := g3'.ext b3
       have b03 := b1.trans (b3.mono b1.size)
       have hs03 := b03.size
       clear hw3 b2 b3 t1 t2 g1' g2' g3'
       go_wp2_with (first
        | (at_builtin; refine wpList_app tBytesF rfl rfl (Own.nil _ w.heap.size _ _) rfl g3'' rfl (by omega) hs03 ?_; intro v4 w4 own4 g4 b4)
        | fail)
       · go_ret3
         have hne : ((x.toNat : Int) != (y.toNat : Int)) = true := by assumption
         have he : Frm.err r = 6 := by rw [Hlast.out, if_neg (fun h => by rw [h] at hne; simp at hne)]
         obtain ⟨e1, e2, e3⟩ := Hbad.out he
         rw [e1, e2, e3]
         exact ⟨_, rfl, OwnB.nil _ _ _, b03⟩
       · go_ret3
         have hne : ((x.toNat : Int) != (y.toNat : Int)) = false := by assumption
         have he : Frm.err r = 0 := by rw [Hlast.out, if_pos (BitVec.eq_of_toNat_eq (by simp at hne; omega))]
         obtain ⟨e1, e2, e3⟩ := Hok.out he
         rw [e1, e2, e3]
         exact ⟨_, ret3i rfl (by unfold Frm.len; omega) rfl, OwnB.of own4 (by simp) (by simp), b03.trans b4⟩

theorem frameNext (v : Value) (b : List UInt8) (at' : Int) (w : World) (hv : Bytes w v b) (hb : b.length ≤ 70368744177664) :
 Calls Tryz.prog 98 #[v, .int .i64 at'] w fun e w' => ∃ r, e = .returned (.tuple #[r, .int .i64 (Frm.toAt b at'), .int .i64 (Frm.errAt b at' : Nat)]) ∧ OwnB w' w.heap.size 5 r (Frm.payAt b at') ∧ Below w.heap.size w w' := by
 by_cases h : at' < 0 ∨ (b.length : Int) < at'
 · exact frameNext1 v b at' w hv hb h
 · obtain ⟨a, rfl⟩ := Int.eq_ofNat_of_zero_le (show 0 ≤ at' by omega)
   exact frameNext2 v b a w hv hb (by omega)

end Go.Proofs.YtgpgcnmnfnnkjaaGreatDoor
end

section
namespace Go.Proofs.YtgpgcnmnfnnkjaaGreatDoor
open Go Go.RowKit
namespace Frm

theorem one_none {p : List UInt8} (h : none' p = true) : one p = [] := by unfold one; rw [h]; rfl
theorem none_iff (p : List UInt8) : none' p = false ↔ 1 ≤ p.length ∧ p.length ≤ 131072 := by
 unfold none'
 by_cases h1 : p.length < 1
 · rw [decide_eq_true h1]; simp; omega
 · rw [decide_eq_false h1]
   by_cases h2 : 131072 < p.length
   · rw [decide_eq_true h2]; simp; omega
   · rw [decide_eq_false h2]; simp; omega
theorem one_some {p : List UInt8} (h : none' p = false) : one p = Crc.seal' (head p ++ p) := by
 unfold one Crc.seal'; rw [h]; rfl
theorem head_length (p : List UInt8) : (head p).length = 4 := rfl
theorem one_length {p : List UInt8} (h : none' p = false) : (one p).length = p.length + 8 := by
 rw [one_some h, Crc.seal_length, List.length_append, head_length]; omega
theorem one_shape {p : List UInt8} (h : none' p = false) : one p = head p ++ (p ++ Crc.le4 (Crc.on 0#32 (head p ++ p))) := by
 rw [one_some h]; unfold Crc.seal'; rw [List.append_assoc]
theorem num_head (p : List UInt8) (hp : p.length ≤ 131072) (r : List UInt8) : len (head p ++ r) = p.length := by
 unfold len head
 rw [num_append (by rw [Crc.le4_length]; omega), Crc.num_le4, BitVec.toNat_ofNat, Nat.mod_eq_of_lt (by omega)]

theorem whole {p : List UInt8} (h : none' p = false) (r : List UInt8) : err (one p ++ r) = 0 ∧ len (one p ++ r) = p.length ∧ pay (one p ++ r) = p ∧ (one p ++ r).drop (p.length + 8) = r := by
 obtain ⟨h1, h2⟩ := (none_iff p).1 h
 have hs := one_shape h
 have hol := one_length h
 have hlen : len (one p ++ r) = p.length := by rw [hs, List.append_assoc]; exact num_head p h2 _
 have hle := Crc.le4_length (Crc.on 0#32 (head p ++ p))
 refine ⟨?_, hlen, ?_, ?_⟩
 · unfold err
   have ht : (one p ++ r).length = p.length + 8 + r.length := by rw [List.length_append, hol]
   rw [if_neg (by omega), if_neg (by omega), if_neg (by omega), hlen]
   have e1 : (one p ++ r).take (4 + p.length) = head p ++ p := by
    rw [hs, ← List.append_assoc, List.append_assoc]
    rw [List.take_left' (by rw [List.length_append, head_length])]
   have e2 : (one p ++ r).drop (4 + p.length) = Crc.le4 (Crc.on 0#32 (head p ++ p)) ++ r := by
    rw [hs, ← List.append_assoc, List.append_assoc]
    rw [List.drop_left' (by rw [List.length_append, head_length])]
   rw [e1, e2, num_append (by rw [hle]; omega), Crc.num_le4, if_pos rfl]
 · unfold pay
   rw [hlen, hs]
   have e2 : (head p ++ (p ++ Crc.le4 (Crc.on 0#32 (head p ++ p))) ++ r).drop 4 = p ++ (Crc.le4 (Crc.on 0#32 (head p ++ p)) ++ r) := by
    rw [List.append_assoc, List.drop_left' (head_length p), List.append_assoc]
   rw [e2, List.take_left' rfl]
 · rw [List.drop_left' hol]
theorem cut {p : List UInt8} (h : none' p = false) (k : Nat) (hk : k < p.length + 8) : err ((one p).take k) ≠ 0 := by
 obtain ⟨h1, h2⟩ := (none_iff p).1 h
 have hol := one_length h
 have hl : ((one p).take k).length = k := by rw [List.length_take]; omega
 unfold err
 by_cases h4 : k < 4
 · rw [if_pos (by omega)]; omega
 · have hlen : len ((one p).take k) = p.length := by
    have : len ((one p).take k) = len (one p) := by unfold len; rw [num_take (by omega) (by omega)]
    rw [this, one_shape h]; exact num_head p h2 _
   rw [if_neg (by omega), if_neg (by omega), if_pos (by omega)]; omega

end Frm
end Go.Proofs.YtgpgcnmnfnnkjaaGreatDoor
end

section
namespace Go.Proofs.YtgpgcnmnfnnkjaaGreatDoor
open Go Go.RowKit
namespace Frm

def cat (K : List (List UInt8)) : List UInt8 := K.flatMap one
def good (K : List (List UInt8)) : Prop := ∀ p ∈ K, none' p = false
end Frm
end Go.Proofs.YtgpgcnmnfnnkjaaGreatDoor
end
