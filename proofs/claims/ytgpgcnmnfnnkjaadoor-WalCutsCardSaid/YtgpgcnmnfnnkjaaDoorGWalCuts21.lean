/- Walks of package frame: Next, at a place inside. Walks of package wal: Right, copied, record, nums. Walks of package wal: number, named. -/
import Derived.Test.YtgpgcnmnfnnkjaaDoorGWalCuts20
import Derived.Deep.RegionHeld3
import Derived.Test.YtgpgcnmnfnnkjaaDoorGWalCuts15
import Derived.Test.YtgpgcnmnfnnkjaaDoorGWalCuts16
import Derived.Deep.Cut
import Derived.Laws.RangeAny
import Derived.Laws.RangeString
import Derived.Lib.AppendIntMem
set_option linter.unusedVariables false
set_option linter.unusedSimpArgs false
section
namespace Go.Proofs.YtgpgcnmnfnnkjaaDoor
open Go Go.RowKit

theorem err_short {r : List UInt8} (h : r.length < 4) : Frm.err r = 3 := by unfold Frm.err; rw [if_pos h]
theorem err_form {r : List UInt8} (h : ¬ r.length < 4) (h2 : Frm.len r = 0 ∨ 131072 < Frm.len r) : Frm.err r = 4 := by unfold Frm.err; rw [if_neg h, if_pos h2]
theorem err_short2 {r : List UInt8} (h : ¬ r.length < 4) (h2 : ¬ (Frm.len r = 0 ∨ 131072 < Frm.len r)) (h3 : r.length < Frm.len r + 8) : Frm.err r = 3 := by unfold Frm.err; rw [if_neg h, if_neg h2, if_pos h3]
theorem err_last {r : List UInt8} (h : ¬ r.length < 4) (h2 : ¬ (Frm.len r = 0 ∨ 131072 < Frm.len r)) (h3 : ¬ r.length < Frm.len r + 8) :
    Frm.err r = if Crc.on 0#32 (r.take (4 + Frm.len r)) = Crc.num (r.drop (4 + Frm.len r)) then 0 else 6 := by unfold Frm.err; rw [if_neg h, if_neg h2, if_neg h3]

/-- what Next answers, by what is wrong with the rest -/
theorem next_bad {b : List UInt8} {a k : Nat} (ha : a ≤ b.length) (hk : k ≠ 0) (h : Frm.err (b.drop a) = k) : Frm.errAt b a = k ∧ Frm.toAt b a = 0 ∧ Frm.payAt b a = [] := by
  have e1 : Frm.errAt b a = k := by unfold Frm.errAt; rw [if_neg (by omega)]; simpa using h
  exact ⟨e1, by unfold Frm.toAt; rw [e1, if_neg hk], by unfold Frm.payAt; rw [e1, if_neg hk]⟩
theorem next_ok {b : List UInt8} {a : Nat} (ha : a ≤ b.length) (h : Frm.err (b.drop a) = 0) : Frm.errAt b a = 0 ∧ Frm.toAt b a = (a : Int) + 8 + Frm.len (b.drop a) ∧ Frm.payAt b a = Frm.pay (b.drop a) := by
  have e1 : Frm.errAt b a = 0 := by unfold Frm.errAt; rw [if_neg (by omega)]; simpa using h
  exact ⟨e1, by unfold Frm.toAt; rw [e1, if_pos rfl]; simp, by unfold Frm.payAt; rw [e1, if_pos rfl]; simp⟩

theorem ret3i {r r' : Value} {x x' y y' : Int} (h : r = r') (hx : x = x') (hy : y = y') : Ending.returned (.tuple #[r, .int .i64 x, .int .i64 y]) = .returned (.tuple #[r', .int .i64 x', .int .i64 y']) := by rw [h, hx, hy]
theorem sumOf1d (v : Value) (l : List UInt8) (w : World) (hb : Bytes w v l) (B : Nat) (hB : B = w.heap.size) (t : TypeId) :
   Calls Tryd.prog 70 #[.slice (some ⟨B, 0, none⟩) 1 1] (w.alloc (.cells #[v] t)).drew fun e w' => e = .returned (.int .u32 ((Crc.on 0#32 l).toNat : Int)) ∧ Below w.heap.size w w' :=
  (sumOf _ [l] _ (parts_one hb B hB t).drew).mono fun e w' ⟨h1, h2⟩ => ⟨h1, h2 ▸ (below_alloc w _).trans (below_drew _ _)⟩

set_option maxHeartbeats 1000000 in
theorem frameNext2 (v : Value) (b : List UInt8) (a : Nat) (w : World) (hv : Bytes w v b) (hb : b.length ≤ 70368744177664) (ha : a ≤ b.length) :
    Calls Tryd.prog 49 #[v, .int .i64 (a : Int)] w fun e w' => ∃ r, e = .returned (.tuple #[r, .int .i64 (Frm.toAt b a), .int .i64 (Frm.errAt b a : Nat)]) ∧ OwnB w' w.heap.size 5 r (Frm.payAt b a) ∧ Below w.heap.size w w' := by
  have hsl := run_sub_from tBytesF (P := Tryd.prog) hv .i64 (a : Int) a rfl ha
  have hr := hv.sub a b.length ha (Nat.le_refl _)
  have e0 : (b.drop a).take (b.length - a) = b.drop a := List.take_of_length_le (by simp)
  rw [e0] at hr
  obtain ⟨pr, cr, hpr⟩ := hr.shape
  rw [hpr] at hsl hr
  have hgd : ¬ (b.length : Int) < (a : Int) := by omega
  have hgd0 : ¬ (a : Int) < 0 := by omega
  have hrl : (b.drop a).length ≤ b.length := by simp
  obtain ⟨p0, c0, rfl⟩ := hv.shape
  clear hpr e0
  by_cases h4 : (b.drop a).length < 4
  · obtain ⟨e1, e2, e3⟩ := next_bad ha (by decide) (err_short h4)
    rw [e1, e2, e3]
    clear e1 e2 e3
    generalize b.drop a = r at *
    go_enter Tryd.func49, Tryd.ntmps49
    go_wp2
    go_ret3
    exact ⟨_, rfl, OwnB.nil _ _ _, Below.refl _ _⟩
  · by_cases h2 : Frm.len (b.drop a) = 0 ∨ 131072 < Frm.len (b.drop a)
    · obtain ⟨e1, e2, e3⟩ := next_bad ha (by decide) (err_form h4 h2)
      rw [e1, e2, e3]
      clear e1 e2 e3
      generalize b.drop a = r at *
      have hlen : (Frm.len r : Int) = ((Crc.num r).toNat : Int) := rfl
      have h2' : (((Crc.num r).toNat : Int) == 0) = true ∨ ((((Crc.num r).toNat : Int) == 0) = false ∧ 131072 < ((Crc.num r).toNat : Int)) := by
        unfold Frm.len at h2
        by_cases hz : (Crc.num r).toNat = 0
        · left; simp [hz]
        · right; constructor
          · simp; omega
          · omega
      clear hlen h2
      rcases h2' with h2 | ⟨h2, h3⟩
      all_goals
        go_enter Tryd.func49, Tryd.ntmps49
        go_wp2_with fail
        with_reducible refine (frameNumber _ r _ hr (by omega)).mono ?_
        rintro e w1 ⟨rfl, n, rfl⟩
        go_wp2
        go_ret3
        exact ⟨_, rfl, OwnB.nil _ _ _, below_drawn _ _ _⟩
    · have h2a : 1 ≤ Frm.len (b.drop a) ∧ Frm.len (b.drop a) ≤ 131072 := by omega
      by_cases h3 : (b.drop a).length < Frm.len (b.drop a) + 8
      · obtain ⟨e1, e2, e3⟩ := next_bad ha (by decide) (err_short2 h4 h2 h3)
        rw [e1, e2, e3]
        clear e1 e2 e3 h2
        generalize b.drop a = r at *
        have hz : (((Crc.num r).toNat : Int) == 0) = false := by unfold Frm.len at h2a; simp; omega
        have hg : ¬ 131072 < ((Crc.num r).toNat : Int) := by unfold Frm.len at h2a; omega
        have hs : (r.length : Int) < 4 + ((Crc.num r).toNat : Int) + 4 := by unfold Frm.len at h3; omega
        unfold Frm.len at h2a
        go_enter Tryd.func49, Tryd.ntmps49
        go_wp2_with fail
        with_reducible refine (frameNumber _ r _ hr (by omega)).mono ?_
        rintro e w1 ⟨rfl, n, rfl⟩
        go_wp2
        go_ret3
        exact ⟨_, rfl, OwnB.nil _ _ _, below_drawn _ _ _⟩
      · have hlast := err_last h4 h2 h3
        have hbad := fun (h : Frm.err (b.drop a) = 6) => next_bad ha (by decide) h
        have hok := fun (h : Frm.err (b.drop a) = 0) => next_ok ha h
        generalize hrr : b.drop a = r at *
        have hz : (((Crc.num r).toNat : Int) == 0) = false := by unfold Frm.len at h2a; simp; omega
        have hg : ¬ 131072 < ((Crc.num r).toNat : Int) := by unfold Frm.len at h2a; omega
        have hs : ¬ (r.length : Int) < 4 + ((Crc.num r).toNat : Int) + 4 := by unfold Frm.len at h3; omega
        have t1 := run_sub_to tBytesF (P := Tryd.prog) hr .i64 (4 + ((Crc.num r).toNat : Int)) (4 + Frm.len r) (by unfold Frm.len; omega) (by omega)
        have t2 := run_sub_from tBytesF (P := Tryd.prog) hr .i64 (4 + ((Crc.num r).toNat : Int)) (4 + Frm.len r) (by unfold Frm.len; omega) (by omega)
        have t3 := run_sub tBytesF (P := Tryd.prog) hr .i64 .i64 4 (4 + ((Crc.num r).toNat : Int)) 4 (4 + Frm.len r) rfl (by unfold Frm.len; omega) (by omega) (by omega)
        have g1 := hr.sub 0 (4 + Frm.len r) (by omega) (by omega)
        have g2 := hr.sub (4 + Frm.len r) r.length (by omega) (by omega)
        have g3 := hr.sub 4 (4 + Frm.len r) (by omega) (by omega)
        have e1 : (r.drop 0).take (4 + Frm.len r - 0) = r.take (4 + Frm.len r) := by simp
        have e2 : (r.drop (4 + Frm.len r)).take (r.length - (4 + Frm.len r)) = r.drop (4 + Frm.len r) := List.take_of_length_le (by simp)
        have e3 : (r.drop 4).take (4 + Frm.len r - 4) = Frm.pay r := by unfold Frm.pay; congr 1; omega
        rw [e1] at g1; rw [e2] at g2; rw [e3] at g3
        generalize subV _ 0 (4 + Frm.len r) 1 = v1 at *
        generalize subV _ (4 + Frm.len r) r.length 1 = v2 at *
        generalize subV _ 4 (4 + Frm.len r) 1 = v3 at *
        obtain ⟨a1, c1, rfl⟩ := g1.shape
        obtain ⟨a2, c2, rfl⟩ := g2.shape
        obtain ⟨a3, c3, rfl⟩ := g3.shape
        have hl2 : 4 ≤ (r.drop (4 + Frm.len r)).length := by rw [List.length_drop]; omega
        have hpl : (Frm.pay r).length ≤ b.length := by unfold Frm.pay; rw [List.length_take, List.length_drop]; omega
        have Hlast := Lib.hid hlast
        have Hrr := Lib.hid hrr
        have hsum : (4 : Int) + ((Crc.num r).toNat : Int) = 4 + ((Crc.num r).toNat : Int) := rfl
        unfold Frm.len at h2a
        clear e1 e2 e3 hlast hrr hsum h2 h3
        generalize hxx : Crc.on 0#32 (r.take (4 + Frm.len r)) = x at *
        generalize hyy : Crc.num (r.drop (4 + Frm.len r)) = y at *
        have Hxx := Lib.hid hxx
        have Hyy := Lib.hid hyy
        clear hxx hyy
        generalize r.take (4 + Frm.len r) = r1 at *
        generalize r.drop (4 + Frm.len r) = r2 at *
        generalize hpp : Frm.pay r = rp at *
        have Hpp := Lib.hid hpp
        clear hpp
        have Hbad := Lib.hid hbad
        have Hok := Lib.hid hok
        clear hbad hok hv
        go_enter Tryd.func49, Tryd.ntmps49
        go_wp2_with fail
        with_reducible refine (frameNumber _ r _ hr (by omega)).mono ?_
        rintro e w1 ⟨rfl, n, hw1⟩
        have b1 : Below w.heap.size w w1 := by subst hw1; exact below_drawn _ _ _
        have g1' := g1.ext b1
        have g2' := g2.ext b1
        have g3' := g3.ext b1
        clear hw1 g1 g2 g3 hr
        go_wp2
        go_region_held3 (fun _ => True) (exact trivial) ((first
          | (go_at_call 70; (with_reducible refine (sumOf1d _ r1 _ g1' _ rfl _).mono ?_); (rintro e w2 ⟨rfl, b2⟩; rw [Hxx.out]))
          | (go_at_call 69; (with_reducible refine (frameNumber _ r2 _ (g2'.ext b2) hl2).mono ?_); (rintro e w3 ⟨rfl, n3, hw3⟩; (replace hw3 : Below w2.heap.size w2 w3 := by rw [hw3]; exact below_drawn _ _ _); rw [Hyy.out]))))
        have b3 : Below w1.heap.size w1 w3 := b2.trans (hw3.mono b2.size)
        have g3'' := g3'.ext b3
        have b03 := b1.trans (b3.mono b1.size)
        have hs03 := b03.size
        clear hw3 b2 b3 t1 t2 g1' g2' g3'
        go_wp2_with (first
          | (at_builtin; refine wpList_app tBytesF rfl rfl (Own.nil _ w.heap.size _ _) rfl g3'' rfl (by omega) hs03 ?_; intro v4 w4 own4 g4 b4)
          | fail)
        · go_ret3
          have hne : ((x.toNat : Int) != (y.toNat : Int)) = true := by assumption
          have he : Frm.err r = 6 := by rw [Hlast.out, if_neg (fun h => by rw [h] at hne; simp at hne)]
          obtain ⟨e1, e2, e3⟩ := Hbad.out he
          rw [e1, e2, e3]
          exact ⟨_, rfl, OwnB.nil _ _ _, b03⟩
        · go_ret3
          have hne : ((x.toNat : Int) != (y.toNat : Int)) = false := by assumption
          have he : Frm.err r = 0 := by rw [Hlast.out, if_pos (BitVec.eq_of_toNat_eq (by simp at hne; omega))]
          obtain ⟨e1, e2, e3⟩ := Hok.out he
          rw [e1, e2, e3]
          exact ⟨_, ret3i rfl (by unfold Frm.len; omega) rfl, OwnB.of own4 (by simp) (by simp), b03.trans b4⟩

theorem frameNext (v : Value) (b : List UInt8) (at' : Int) (w : World) (hv : Bytes w v b) (hb : b.length ≤ 70368744177664) :
    Calls Tryd.prog 49 #[v, .int .i64 at'] w fun e w' => ∃ r, e = .returned (.tuple #[r, .int .i64 (Frm.toAt b at'), .int .i64 (Frm.errAt b at' : Nat)]) ∧ OwnB w' w.heap.size 5 r (Frm.payAt b at') ∧ Below w.heap.size w w' := by
  by_cases h : at' < 0 ∨ (b.length : Int) < at'
  · exact frameNext1 v b at' w hv hb h
  · obtain ⟨a, rfl⟩ := Int.eq_ofNat_of_zero_le (show 0 ≤ at' by omega)
    exact frameNext2 v b a w hv hb (by omega)

end Go.Proofs.YtgpgcnmnfnnkjaaDoor
end

section
namespace Go.Proofs.YtgpgcnmnfnnkjaaDoor
open Go Go.RowKit Go.PlainAid

set_option maxRecDepth 4000 in
set_option maxHeartbeats 1000000 in
theorem walRight (h : Hrd) (v : Value) (w : World) (hv : Rd etyE w v h.log) :
    Calls Tryd.prog 29 #[hrdA h v] w fun e w' => e = .returned (.bool (rightH h)) ∧ Below w.heap.size w w' := by
  obtain ⟨p, cap, rfl⟩ := hv.shape
  have ca := below_alloc w (.cells #[.int .i64 h.term, .int .i64 h.vote, .int .i64 h.base, .int .i64 h.bterm, .int .i64 h.members, .string h.snap, .slice p h.log.length cap] 30)
  have hcall := walBare h _ _ (hv.ext ca)
  have kb := Blk.new w #[.int .i64 h.term, .int .i64 h.vote, .int .i64 h.base, .int .i64 h.bterm, .int .i64 h.members, .string h.snap, .slice p h.log.length cap] 30
  have hr : rightH h = (bareH h && (decide (h.snap.size = 0) == decide (h.base = 0)) && decide (h.snap.size ≤ 65536)) := rfl
  have hb0 : (h.base == 0) = decide (h.base = 0) := rfl
  have he : h.snap.toList.isEmpty = decide (h.snap.size = 0) := by
    by_cases hs : h.snap.size = 0
    · rw [str_none hs, decide_eq_true hs]
    · rw [str_some hs, decide_eq_false hs]
  have hi : decide ((h.snap.size : Int) ≤ 65536) = decide (h.snap.size ≤ 65536) := by
    rw [decide_eq_decide]; omega
  rw [hr]
  have Hx := Lib.hid (And.intro hb0 (And.intro he hi))
  clear hr hb0 he hi
  go_enter Tryd.func29, Tryd.ntmps29
  go_wp2_with fail
  refine hcall.mono ?_
  rintro e w2 ⟨rfl, b2⟩
  have b02 := ca.trans (b2.mono (by simp))
  have k2 := kb.ext b2
  have k5 := k2.cell 5 _ rfl
  have kk := k2.cell 2 _ rfl
  clear kb k2
  cases hB : bareH h with
  | false =>
    go_wp2
    go_ret
    exact ⟨ret_bool (by rw [hB]; rfl), b02⟩
  | true =>
    go_wp2
    all_goals
      go_ret
      refine ⟨ret_bool ?_, b02⟩
      obtain ⟨x1, x2, x3⟩ := Hx.out
      rw [hB, ← x1, ← x2, ← x3]
      rename_i hq
      revert hq
      cases h.snap.toList.isEmpty <;> cases (h.base == 0) <;> simp

set_option maxHeartbeats 1000000 in
theorem walCopied (h : Hrd) (v : Value) (w : World) (hv : Rd etyE w v h.log) (hl : h.log.length ≤ 1000000) :
    Calls Tryd.prog 34 #[hrdA h v] w fun e w' => ∃ v', e = .returned (hrdA (bareOf h) v') ∧ OwnR etyE w' w.heap.size 36 v' h.log ∧ Below w.heap.size w w' := by
  obtain ⟨p, cap, rfl⟩ := hv.shape
  have kA := (Blk.new w #[.int .i64 h.term, .int .i64 h.vote, .int .i64 h.base, .int .i64 h.bterm, .int .i64 h.members, .string ⟨#[]⟩, .slice p h.log.length cap] 30).ext (below_alloc _ (.cells #[.int .i64 0, .int .i64 0, .int .i64 0, .int .i64 0, .int .i64 0, .string ⟨#[]⟩, .slice none 0 0] 30))
  have kZ := Blk.new (w.alloc (.cells #[.int .i64 h.term, .int .i64 h.vote, .int .i64 h.base, .int .i64 h.bterm, .int .i64 h.members, .string ⟨#[]⟩, .slice p h.log.length cap] 30)) #[.int .i64 0, .int .i64 0, .int .i64 0, .int .i64 0, .int .i64 0, .string ⟨#[]⟩, .slice none 0 0] 30
  have bW : Below w.heap.size w ((w.alloc (.cells #[.int .i64 h.term, .int .i64 h.vote, .int .i64 h.base, .int .i64 h.bterm, .int .i64 h.members, .string ⟨#[]⟩, .slice p h.log.length cap] 30)).alloc (.cells #[.int .i64 0, .int .i64 0, .int .i64 0, .int .i64 0, .int .i64 0, .string ⟨#[]⟩, .slice none 0 0] 30)) := (below_alloc _ _).trans ((below_alloc _ _).mono (by simp))
  rw [show (w.alloc (.cells #[.int .i64 h.term, .int .i64 h.vote, .int .i64 h.base, .int .i64 h.bterm, .int .i64 h.members, .string ⟨#[]⟩, .slice p h.log.length cap] 30)).heap.size = w.heap.size + 1 from by simp] at kZ
  obtain ⟨W, hW⟩ : ∃ W, W = ((w.alloc (.cells #[.int .i64 h.term, .int .i64 h.vote, .int .i64 h.base, .int .i64 h.bterm, .int .i64 h.members, .string ⟨#[]⟩, .slice p h.log.length cap] 30)).alloc (.cells #[.int .i64 0, .int .i64 0, .int .i64 0, .int .i64 0, .int .i64 0, .string ⟨#[]⟩, .slice none 0 0] 30)) := ⟨_, rfl⟩
  rw [← hW] at kA kZ bW
  go_enter Tryd.func34, Tryd.ntmps34
  go_wp2_with (first
    | (at_builtin; rw [← hW]; refine wpList_appW tEty rfl rfl (Own.nil W w.heap.size 36 3) rfl (Cells.ext hv bW) rfl (by simp; omega) bW.size ?_; intro v3 w3 own3 g3 b3 at3; replace own3 : OwnR etyE w3 w.heap.size 36 v3 h.log := OwnR.of own3 (by simp) (by simp); obtain ⟨p3, c3, rfl⟩ := own3.rd.shape
       have kA3 := kA.grown g3 (by simp [Value.ownBlock]); have kZ3 := kZ.grown g3 (by simp [Value.ownBlock]); have a0 := kA3.cell 0 _ rfl; have a1 := kA3.cell 1 _ rfl; have a2 := kA3.cell 2 _ rfl; have a3 := kA3.cell 3 _ rfl; have a4 := kA3.cell 4 _ rfl; have a5 := kA3.cell 5 _ rfl; have a6 := kA3.frozen 6; have z0 := kZ3.frozen 0; have z1 := kZ3.frozen 1; have z2 := kZ3.frozen 2; have z3 := kZ3.frozen 3; have z4 := kZ3.frozen 4; have z5 := kZ3.frozen 5; have z6 := kZ3.frozen 6; have y0 := kZ3.cell 0 _ rfl; have y1 := kZ3.cell 1 _ rfl; have y2 := kZ3.cell 2 _ rfl; have y3 := kZ3.cell 3 _ rfl; have y4 := kZ3.cell 4 _ rfl; have y5 := kZ3.cell 5 _ rfl; have y6 := kZ3.cell 6 _ rfl
       have a6' := kA3.cell 6 _ rfl)
    | fail)
  have hWs : W.heap.size = w.heap.size + 2 := by rw [hW]; simp
  have hfar : ∀ k, (Value.slice p3 h.log.length c3).ownBlock = some k → ¬ (k = w.heap.size ∨ k = w.heap.size + 1) := fun k hk => by
    rcases at3 with e | e
    · rw [hk] at e; simp [Value.ownBlock] at e
    · rw [hk] at e; cases e; omega
  have hc := (((((((((Chg.refl (fun k => k = w.heap.size ∨ k = w.heap.size + 1) w3).setCell (p := ⟨w.heap.size, 6, none⟩) (.inl rfl) (.slice p3 h.log.length c3)).setCell (p := ⟨w.heap.size + 1, 0, none⟩) (.inr rfl) (.int .i64 h.term)).setCell (p := ⟨w.heap.size + 1, 1, none⟩) (.inr rfl) (.int .i64 h.vote)).setCell (p := ⟨w.heap.size + 1, 2, none⟩) (.inr rfl) (.int .i64 h.base)).setCell (p := ⟨w.heap.size + 1, 3, none⟩) (.inr rfl) (.int .i64 h.bterm)).setCell (p := ⟨w.heap.size + 1, 4, none⟩) (.inr rfl) (.int .i64 h.members)).setCell (p := ⟨w.heap.size + 1, 5, none⟩) (.inr rfl) (.string ⟨#[]⟩)).setCell (p := ⟨w.heap.size + 1, 6, none⟩) (.inr rfl) (.slice p3 h.log.length c3))
  refine bodyPost_ret (v := hrdA (bareOf h) (.slice p3 h.log.length c3)) (by simp [results, Tryd.results34, go_sem, *]; exact ⟨rfl, rfl, rfl, rfl, rfl, rfl⟩) rfl ?_
  exact ⟨_, rfl, hc.ownR own3 hfar, (bW.trans b3).trans (hc.below (B := w.heap.size) (fun k hk => by rcases hk with rfl | rfl <;> omega) (bW.trans b3).size)⟩

set_option maxHeartbeats 1000000 in
theorem walRecord (v u : Value) (b p : List UInt8) (w : World) (hv : Bytes w v b) (hu : Bytes w u p) (hb : b.length ≤ 70368744177664) (hp : p.length ≤ 70368744177664) :
    Calls Tryd.prog 55 #[v, u] w fun e w' => ∃ r, e = .returned r ∧ OwnB w' w.heap.size 5 r (b ++ Frm.one p) ∧ Below w.heap.size w w' := by
  go_enter Tryd.func55, Tryd.ntmps55
  go_wp2_with fail
  refine (framePut v u b p w hv hu hb hp).mono ?_
  rintro e w' ⟨r, rfl, h1, h2⟩
  go_wp2_with fail
  go_ret
  exact ⟨_, rfl, h1, h2⟩

theorem numsB_snoc (l : List Int) (n : Int) : numsB (l ++ [n]) = numsB l ++ numB n := by
  induction l with
  | nil => simp [numsB]
  | cons x r ih => rw [List.cons_append, numsB, numsB, ih, List.append_assoc]
theorem numsB_le (l : List Int) : (numsB l).length ≤ 10 * l.length := by
  induction l with
  | nil => simp [numsB]
  | cons x r ih => rw [numsB, List.length_append, List.length_cons]; have := numB_le x; omega
def In64 (n : Int) : Prop := -9223372036854775808 ≤ n ∧ n ≤ 9223372036854775807

set_option maxRecDepth 8000 in
set_option maxHeartbeats 1000000 in
theorem walNums (v : Value) (l : List Int) (w : World) (hv : Rd intsE w v l) (hl : l.length ≤ 1000000) (hr : ∀ x ∈ l, In64 x) :
    Calls Tryd.prog 56 #[v] w fun e w' => ∃ r, e = .returned r ∧ OwnB w' w.heap.size 5 r (numsB l) ∧ Below w.heap.size w w' := by
  obtain ⟨p, cap, rfl⟩ := hv.shape
  go_enter Tryd.func56, Tryd.ntmps56
  go_wp2
  go_loopw [3, 8] (fun o i wr => ∃ k : Nat, k ≤ l.length ∧ i = .int .i64 k ∧ OwnB wr w.heap.size 5 o (numsB (l.take k)) ∧ Below w.heap.size w wr) (fun _ i _ => l.length - (intOf i).toNat)
  case atStart => exact ⟨0, by omega, rfl, OwnB.nil _ _ _, Below.refl _ _⟩
  case round =>
    obtain ⟨k, hk, rfl, own, hb⟩ := hrel
    by_cases hlt : k < l.length
    · have hvr := hv.ext hb
      obtain ⟨bb, off, rfl⟩ := Rd.blk hvr (by omega)
      have c0 := hvr.at_ hlt 0 (by decide)
      have hmem := hr l[k] (List.getElem_mem hlt)
      have hsz := hb.size
      have hnl := numsB_le (l.take k)
      rw [List.length_take] at hnl
      have hsn : numsB (l.take (k + 1)) = numsB (l.take k) ++ numB l[k] := by rw [List.take_succ_eq_append_getElem hlt, numsB_snoc]
      have Hsn := Lib.hid hsn
      have hi : (k : Int) < (l.length : Int) := by omega
      have hi0 : (0 : Int) ≤ (k : Int) := by omega
      replace c0 : wr.cell? ⟨bb, off + k, none⟩ = some (.int .i64 l[k]) := by simpa [intsE] using c0
      clear hsn
      generalize l[k] = x at *
      generalize numsB (l.take k) = B at *
      obtain ⟨po, co, rfl⟩ := own.bytes.shape
      go_wp2_with fail
      refine (packNum _ B x wr own.bytes (by omega) hmem.1 hmem.2).mono ?_
      rintro e w2 ⟨r2, rfl, own2, b2⟩
      have own3 := Own.base own2 hsz
      go_wp2_with fail
      go_roundw
      case rel => exact ⟨k + 1, by omega, by go_num, by rw [Hsn.out]; exact own3, hb.trans (b2.mono hsz)⟩
      case measure => simp [intOf]; omega
    · have hke : k = l.length := by omega
      have hi : ¬ (k : Int) < (l.length : Int) := by omega
      have Hk := Lib.hid hke
      clear hke
      go_wp2
      go_ret
      exact ⟨_, rfl, by rw [Hk.out, List.take_of_length_le (Nat.le_refl _)] at own; exact own, hb⟩
end Go.Proofs.YtgpgcnmnfnnkjaaDoor
end

section
namespace Go.Proofs.YtgpgcnmnfnnkjaaDoor
open Go Go.RowKit Go.PlainAid

theorem run_strTo {P : Program} {T : TypeId} (hT : P.underlying T = some .string) (l : List UInt8) (K : Int) (k : Nat) (hK : K = (k : Int)) (hk : k ≤ l.length) (w : World) :
    (Instr.slice T (.string { data := l.toArray }) none (some (.int .i64 K)) none).run P w = .ok (.string { data := (l.take k).toArray }) w := by
  subst hK
  rw [run_slice_string_h w T _ hT .i64 (k : Int) (by omega) (by rw [str_size]; omega), str_extract]
  simp
theorem run_strFrom {P : Program} {T : TypeId} (hT : P.underlying T = some .string) (l : List UInt8) (K : Int) (k : Nat) (hK : K = (k : Int)) (hk : k ≤ l.length) (w : World) :
    (Instr.slice T (.string { data := l.toArray }) (some (.int .i64 K)) none none).run P w = .ok (.string { data := (l.drop k).toArray }) w := by
  subst hK
  rw [run_slice_string_l w T _ hT .i64 (k : Int) (by omega) (by rw [str_size]; omega), str_extract, str_size]
  simp
  rw [List.take_of_length_le (by simp)]
theorem itoa_nat (n : Nat) : Lib.itoa (n : Int) = Lib.decDigits n := by unfold Lib.itoa; rw [if_neg (by omega)]; simp
theorem digits_le : ∀ (k u : Nat), u < 10 ^ (k + 1) → (Lib.decDigits u).length ≤ k + 1
  | 0, u, h => by rw [Lib.decDigits, dif_pos (by simpa using h)]; simp
  | k + 1, u, h => by
    rw [Lib.decDigits]
    split
    · simp
    · rw [List.length_append, List.length_singleton]
      have := digits_le k (u / 10) (by rw [Nat.div_lt_iff_lt_mul (by decide), ← Nat.pow_succ]; exact h)
      omega
theorem digsW_cons {c : UInt8} (r : List UInt8) (n : Nat) (h : digB c = true) : digsW (c :: r) n = digsW r (10 * n + (c.toNat - 48)) := by rw [digsW, if_pos h]
theorem digsW_bad {c : UInt8} (r : List UInt8) (n : Nat) (h : ¬ digB c = true) : digsW (c :: r) n = 0 := by rw [digsW, if_neg h]
theorem digB_iff (c : UInt8) : digB c = true ↔ 48 ≤ c.toNat ∧ c.toNat ≤ 57 := by unfold digB; simp
set_option maxHeartbeats 1000000 in
theorem walNamed (n : Nat) (N : Int) (hN : N = (n : Int)) (hn : n ≤ 9223372036854775807) (w : World) (htab : Lib.TabIs Tryd.prog w "internal/strconv.uint64pow10" .u64 Lib.pow10Tab) :
    Calls Tryd.prog 26 #[.int .i64 N] w fun e w' => e = .returned (.string (nameW n)) ∧ Below w.heap.size w w' := by
  subst hN
  go_enter Tryd.func26, Tryd.ntmps26
  go_wp2_with fail
  refine (Tryd.strconv_Itoa (n : Int) (by omega) (by omega) w htab).mono ?_
  rintro e w1 ⟨rfl, k, os, rfl⟩
  rw [itoa_nat]
  have hlen := digits_le 18 n (by omega)
  go_wp2_with fail
  go_ret
  exact ⟨by unfold nameW hdW; congr 2, Lib.below_grow _ w (Nat.le_refl _) k os⟩

set_option maxRecDepth 4000 in
set_option maxHeartbeats 4000000 in
theorem walNumber (l : List UInt8) (w : World) :
    Calls Tryd.prog 46 #[.string ⟨l.toArray⟩] w fun e w' => e = .returned (.int .i64 (numW ⟨l.toArray⟩ : Nat)) ∧ Below w.heap.size w w' := by
  have hsz := str_size l
  have hbo : bytesOf ⟨l.toArray⟩ = l := bytesOf_of l
  have hn : numW ⟨l.toArray⟩ = if l.length ≤ 4 ∨ l.take 4 ≠ hdW ∨ 18 < l.length ∨ l[4]? = some 48 then 0 else digsW (l.drop 4) 0 := by
    unfold numW; rw [hsz, hbo]
  have Hn := Lib.hid hn
  clear hn hbo
  generalize numW ⟨l.toArray⟩ = R at *
  by_cases h1 : l.length ≤ 4
  · have Hr := Lib.hid (show R = 0 from Hn.out.trans (if_pos (.inl h1)))
    have hi : (l.length : Int) ≤ 4 := by omega
    go_enter Tryd.func46, Tryd.ntmps46
    go_wp2
    go_ret
    exact ⟨by rw [Hr.out]; rfl, Below.refl _ _⟩
  · have hi : ¬ (l.length : Int) ≤ 4 := by omega
    have hto := run_strTo (P := Tryd.prog) Tryd.underlying9 l 4 4 rfl (by omega)
    have hfr := run_strFrom (P := Tryd.prog) Tryd.underlying9 l 4 4 rfl (by omega)
    have h4s : 4 < (⟨l.toArray⟩ : ByteArray).size := by rw [hsz]; omega
    have h4e : (⟨l.toArray⟩ : ByteArray)[4]'h4s = l[4]'(by omega) := str_at l 4 h4s
    have h4g : l[4]? = some (l[4]'(by omega)) := List.getElem?_eq_getElem _
    by_cases hall : l.take 4 = hdW ∧ ¬ 18 < l.length ∧ (l[4]'(by omega)).toNat ≠ 48
    · obtain ⟨e2, e3, e4⟩ := hall
      have hr : R = digsW (l.drop 4) 0 := Hn.out.trans (if_neg (by
        rintro (h | h | h | h)
        · exact h1 h
        · exact h e2
        · exact e3 h
        · rw [h4g] at h; exact e4 (by rw [Option.some.inj h]; rfl)))
      have Hr := Lib.hid hr
      have e2' : l.take 4 = [119, 97, 108, 46] := e2
      have e3' : ¬ (18 : Int) < (l.length : Int) := by omega
      have e4' : ((((⟨l.toArray⟩ : ByteArray)[4]'h4s).toNat : Int) == 48) = false := by rw [h4e]; simp; omega
      have hdl : (l.drop 4).length ≤ 14 := by rw [List.length_drop]; omega
      clear hr e2 e4 Hn h4g h4e
      generalize l.drop 4 = d at *
      have hds := str_size d
      have hat := fun i h => str_at d i h
      go_enter Tryd.func46, Tryd.ntmps46
      go_wp2
      go_loopw [3] (fun n w' => ∃ (pos acc : Nat), w' = w.iter ⟨d.toArray⟩ pos ∧ n = .int .i64 (acc : Int) ∧ pos ≤ d.length ∧ acc < 10 ^ pos ∧ Hid (digsW (d.drop pos) acc = digsW d 0)) (fun _ w' => d.length - w'.iterPos w.heap.size)
      case atStart => exact ⟨0, 0, rfl, rfl, by omega, by decide, rfl⟩
      case round =>
        obtain ⟨pos, acc, rfl, rfl, hpl, hacc, hdg⟩ := hrel
        by_cases hp : pos < d.length
        · have hps : pos < (⟨d.toArray⟩ : ByteArray).size := by rw [hds]; exact hp
          have hdc := List.drop_eq_getElem_cons hp
          have hge : (⟨d.toArray⟩ : ByteArray)[pos]'hps = d[pos] := hat pos hps
          have hdg2 := hdg.out
          rw [hdc] at hdg2
          have hnx : ∀ ty, (Instr.next (.pointer (some ⟨w.heap.size, 0, none⟩)) true ty).run Tryd.prog (w.iter ⟨d.toArray⟩ pos) = .ok (.tuple #[.bool true, .int .i64 pos, .int .i32 (Utf8.decode ⟨d.toArray⟩ pos).1]) (w.iter ⟨d.toArray⟩ (pos + (Utf8.decode ⟨d.toArray⟩ pos).2)) := fun ty => run_next_any w ⟨d.toArray⟩ pos ty hps
          by_cases hb : digB d[pos] = true
          · rw [digsW_cons _ _ hb] at hdg2
            obtain ⟨q1, q2⟩ := (digB_iff _).1 hb
            rw [decode_ascii _ pos hps (by rw [hge]; omega), hge] at hnx
            have hacc2 : 10 * acc + (d[pos].toNat - 48) < 10 ^ (pos + 1) := by rw [Nat.pow_succ]; omega
            have hp14 : 10 ^ (pos + 1) ≤ 10 ^ 14 := Nat.pow_le_pow_right (by decide) (by omega)
            have h14 : (10 : Nat) ^ 14 = 100000000000000 := by decide
            have Hd2 := Lib.hid hdg2
            have Hacc := Lib.hid hacc2
            have hsmall : 10 * acc + 9 ≤ 1000000000000000 := by rw [h14] at hp14; rw [Nat.pow_succ] at hp14; omega
            clear hdg hdg2 hacc hacc2 hp14 h14 hdc hb hge
            generalize d[pos] = c at *
            go_wp2_with fail
            go_roundw
            case rel => exact ⟨pos + 1, 10 * acc + (c.toNat - 48), rfl, by go_num, by omega, Hacc.out, Hd2.out⟩
            case measure => simp; omega
          · rw [digsW_bad _ _ hb] at hdg2
            have hz : R = 0 := Hr.out.trans hdg2.symm
            have hbad : ((Utf8.decode ⟨d.toArray⟩ pos).1 : Int) < 48 ∨ (57 : Int) < ((Utf8.decode ⟨d.toArray⟩ pos).1 : Int) := by
              rcases Nat.lt_or_ge d[pos].toNat 128 with h | h
              · rw [decode_ascii _ pos hps (by rw [hge]; exact h), hge]
                show ((d[pos].toNat : Nat) : Int) < 48 ∨ _
                rcases Nat.lt_or_ge d[pos].toNat 48 with h5 | h5
                · left; omega
                · right
                  rcases Nat.lt_or_ge 57 d[pos].toNat with h6 | h6
                  · show (57 : Int) < ((d[pos].toNat : Nat) : Int); omega
                  · exact absurd ((digB_iff d[pos]).2 ⟨h5, h6⟩) hb
              · have := (decode_high _ pos hps (by rw [hge]; exact h)).1
                omega
            have Hz := Lib.hid hz
            clear hdg hdg2 hacc hdc hb hge hz
            generalize Utf8.decode ⟨d.toArray⟩ pos = dc at *
            rcases hbad with hbad | hbad
            · go_wp2_with fail
              go_ret
              exact ⟨by rw [Hz.out]; rfl, below_alloc w _⟩
            · have hb2 : ¬ (dc.1 : Int) < 48 := by omega
              go_wp2_with fail
              go_ret
              exact ⟨by rw [Hz.out]; rfl, below_alloc w _⟩
        · have hpe : pos = d.length := by omega
          have hps : ¬ pos < (⟨d.toArray⟩ : ByteArray).size := by rw [hds]; exact hp
          have hdg2 := hdg.out
          rw [List.drop_of_length_le (by omega), digsW] at hdg2
          have hz : R = acc := Hr.out.trans hdg2.symm
          have Hz := Lib.hid hz
          have hne := fun ty => run_next_end (P := Tryd.prog) w ⟨d.toArray⟩ pos ty hps
          clear hdg hdg2 hacc hz hpe
          go_wp2
          go_ret
          exact ⟨by rw [Hz.out]; rfl, below_alloc w _⟩
    · have hr : R = 0 := Hn.out.trans (if_pos (by
        by_cases a1 : l.take 4 = hdW
        · by_cases a2 : 18 < l.length
          · exact .inr (.inr (.inl a2))
          · refine .inr (.inr (.inr ?_))
            rw [h4g]
            have a3 : (l[4]'(by omega)).toNat = 48 := Decidable.not_not.1 (fun a3 => hall ⟨a1, a2, a3⟩)
            congr 1
            exact UInt8.toNat_inj.1 a3
        · exact .inr (.inl a1)))
      have Hr := Lib.hid hr
      clear hr Hn
      by_cases a1 : l.take 4 = hdW
      · have e2' : l.take 4 = [119, 97, 108, 46] := a1
        by_cases a2 : 18 < l.length
        · have e3' : (18 : Int) < (l.length : Int) := by omega
          go_enter Tryd.func46, Tryd.ntmps46
          go_wp2
          go_ret
          exact ⟨by rw [Hr.out]; rfl, Below.refl _ _⟩
        · have a3 : (l[4]'(by omega)).toNat = 48 := Decidable.not_not.1 (fun a3 => hall ⟨a1, a2, a3⟩)
          have e3' : ¬ (18 : Int) < (l.length : Int) := by omega
          have e4' : ((((⟨l.toArray⟩ : ByteArray)[4]'h4s).toNat : Int) == 48) = true := by rw [h4e]; simp; omega
          clear h4e h4g a3 a1 hall
          go_enter Tryd.func46, Tryd.ntmps46
          go_wp2
          go_ret
          exact ⟨by rw [Hr.out]; rfl, Below.refl _ _⟩
      · have e2' : ¬ l.take 4 = [119, 97, 108, 46] := a1
        go_enter Tryd.func46, Tryd.ntmps46
        go_wp2
        go_ret
        exact ⟨by rw [Hr.out]; rfl, Below.refl _ _⟩
end Go.Proofs.YtgpgcnmnfnnkjaaDoor
end
