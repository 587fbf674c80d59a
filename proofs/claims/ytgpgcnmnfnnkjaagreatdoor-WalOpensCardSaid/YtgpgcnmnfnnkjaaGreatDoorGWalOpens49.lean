/- The walk of WalOpens. -/
import Derived.Test.YtgpgcnmnfnnkjaaGreatDoorGWalOpens48
import Derived.Test.YtgpgcnmnfnnkjaaGreatDoorGWalOpens47
import Derived.Test.YtgpgcnmnfnnkjaaGreatDoorGWalOpens30
import Derived.Test.YtgpgcnmnfnnkjaaGreatDoorGWalOpens43
import Derived.Test.YtgpgcnmnfnnkjaaGreatDoorGWalOpens13
import Derived.Test.YtgpgcnmnfnnkjaaGreatDoorGWalOpens3
import Derived.StillTailTactics
import Derived.Deep.CutRange
set_option linter.unusedVariables false
set_option linter.unusedSimpArgs false
section
namespace Go.Proofs.YtgpgcnmnfnnkjaaGreatDoor
open Go Go.RowKit Go.PlainAid BigFrame
attribute [local go_sem] After.same
set_option maxRecDepth 100000 in
set_option maxHeartbeats 16000000 in
theorem walOpens_walk (x : HdL) (v1 : Value) (l : List HdL) (cut : Int) (v3 : Value) (b : List UInt8) (v4 : Value) (ob : List UInt8) (kk : Int) (w : World) (T : TabW w) (hx : HdLOk w x) (hv : Rd hdlE w v1 l) (hd : ∀ y ∈ l, HdLOk w y) (hb3 : Bytes w v3 b) (hb4 : Bytes w v4 ob) :
 Calls Tryz.prog 3 #[hrdA x.h (.slice x.p x.h.log.length x.c), v1, .int .i64 cut, v3, v4, .int .i64 kk] w fun e w' => e = .returned (.bool true) ∧ Below w.heap.size w w' := by
 obtain ⟨w0, hw0⟩ : ∃ w0, w0 = w := ⟨_, rfl⟩
 rw [← hw0] at T hx hv hd hb3 hb4 ⊢
 clear hw0
 have T0 : ∀ z, Below w0.heap.size w0 z → TabW z := Lib.tabBelow_of_tabIs T
 have Tn := Lib.hid T0
 have Hd := Lib.hid hd
 have Hx := Lib.hid hx
 have Hv := Lib.hid hv
 have Hb3 := Lib.hid hb3
 have Hb4 := Lib.hid hb4
 clear T T0 hd
 obtain ⟨pl, cl, rfl⟩ := hv.shape
 obtain ⟨p3, c3, rfl⟩ := hb3.shape
 obtain ⟨p4, c4, rfl⟩ := hb4.shape
 have hl2 := hv.le
 have hl3 := Cells.le hb3
 have hl4 := Cells.le hb4
 unfold maxLen at hl2 hl3 hl4
 clear hx hv hb3 hb4
 have ca := below_alloc w0 (.cells #[.int .i64 x.h.term, .int .i64 x.h.vote, .int .i64 x.h.base, .int .i64 x.h.bterm, .int .i64 x.h.members, .string x.h.snap, .slice x.p x.h.log.length x.c] 24)
 have kA := Blk.new w0 #[.int .i64 x.h.term, .int .i64 x.h.vote, .int .i64 x.h.base, .int .i64 x.h.bterm, .int .i64 x.h.members, .string x.h.snap, .slice x.p x.h.log.length x.c] 24
 have y0 := kA.cell 0 _ rfl
 have y1 := kA.cell 1 _ rfl
 have y2 := kA.cell 2 _ rfl
 have y3 := kA.cell 3 _ rfl
 have y4 := kA.cell 4 _ rfl
 have y5 := kA.cell 5 _ rfl
 have y6 := kA.cell 6 _ rfl
 have hsm := refSmall x.h (.slice x.p x.h.log.length x.c) (w0.alloc (.cells #[.int .i64 x.h.term, .int .i64 x.h.vote, .int .i64 x.h.base, .int .i64 x.h.bterm, .int .i64 x.h.members, .string x.h.snap, .slice x.p x.h.log.length x.c] 24)) (Hx.out.log.ext ca) (Nat.le_trans Hx.out.snap (by decide)) (fun y hy => Nat.le_trans (Hx.out.data y hy) (by decide))
 have hsA : (w0.alloc (.cells #[.int .i64 x.h.term, .int .i64 x.h.vote, .int .i64 x.h.base, .int .i64 x.h.bterm, .int .i64 x.h.members, .string x.h.snap, .slice x.p x.h.log.length x.c] 24)).heap.size = w0.heap.size + 1 := by simp
 go_enter Tryz.func3, Tryz.ntmps3
 go_upto_region 1 with (fail)
 generalize w0.alloc (.cells #[.int .i64 x.h.term, .int .i64 x.h.vote, .int .i64 x.h.base, .int .i64 x.h.bterm, .int .i64 x.h.members, .string x.h.snap, .slice x.p x.h.log.length x.c] 24) = wA at *
 go_cut [43] from 26 to 43 (fun q wi => q = .bool (!smallH x.h || decide (300 < b.length) || decide (300 < ob.length) || decide (6 < l.length)) ∧ Below wA.heap.size wA wi)
 case first =>
  cases hs : smallH x.h with
  | false =>
   rw [hs] at hsm
   go_wp2_with fail
   refine hsm.mono ?_
   rintro e w5 ⟨rfl, b5⟩
   have k5 := kA.ext b5
   have q0 := k5.cell 0 _ rfl
   have q1 := k5.cell 1 _ rfl
   have q2 := k5.cell 2 _ rfl
   have q3 := k5.cell 3 _ rfl
   have q4 := k5.cell 4 _ rfl
   have q5 := k5.cell 5 _ rfl
   have q6 := k5.cell 6 _ rfl
   clear y0 y1 y2 y3 y4 y5 y6
   go_wp2_with fail
   go_meet
   exact ⟨by simp [hs] <;> omega, b5⟩
  | true =>
   rw [hs] at hsm
   by_cases h1 : 300 < b.length
   · have h1i : (300 : Int) < (b.length : Int) := by omega
     go_wp2_with fail
     refine hsm.mono ?_
     rintro e w5 ⟨rfl, b5⟩
     have k5 := kA.ext b5
     have q0 := k5.cell 0 _ rfl
     have q1 := k5.cell 1 _ rfl
     have q2 := k5.cell 2 _ rfl
     have q3 := k5.cell 3 _ rfl
     have q4 := k5.cell 4 _ rfl
     have q5 := k5.cell 5 _ rfl
     have q6 := k5.cell 6 _ rfl
     clear y0 y1 y2 y3 y4 y5 y6
     go_wp2_with fail
     go_meet
     exact ⟨by simp [hs, h1] <;> omega, b5⟩
   · have h1i : ¬ (300 : Int) < (b.length : Int) := by omega
     by_cases h2 : 300 < ob.length
     · have h2i : (300 : Int) < (ob.length : Int) := by omega
       go_wp2_with fail
       refine hsm.mono ?_
       rintro e w5 ⟨rfl, b5⟩
       have k5 := kA.ext b5
       have q0 := k5.cell 0 _ rfl
       have q1 := k5.cell 1 _ rfl
       have q2 := k5.cell 2 _ rfl
       have q3 := k5.cell 3 _ rfl
       have q4 := k5.cell 4 _ rfl
       have q5 := k5.cell 5 _ rfl
       have q6 := k5.cell 6 _ rfl
       clear y0 y1 y2 y3 y4 y5 y6
       go_wp2_with fail
       go_meet
       exact ⟨by simp [hs, h1, h2] <;> omega, b5⟩
     · have h2i : ¬ (300 : Int) < (ob.length : Int) := by omega
       by_cases h3 : 6 < l.length
       · have h3i : (6 : Int) < (l.length : Int) := by omega
         go_wp2_with fail
         refine hsm.mono ?_
         rintro e w5 ⟨rfl, b5⟩
         have k5 := kA.ext b5
         have q0 := k5.cell 0 _ rfl
         have q1 := k5.cell 1 _ rfl
         have q2 := k5.cell 2 _ rfl
         have q3 := k5.cell 3 _ rfl
         have q4 := k5.cell 4 _ rfl
         have q5 := k5.cell 5 _ rfl
         have q6 := k5.cell 6 _ rfl
         clear y0 y1 y2 y3 y4 y5 y6
         go_wp2_with fail
         go_meet
         exact ⟨by simp [hs, h1, h2, h3] <;> omega, b5⟩
       · have h3i : ¬ (6 : Int) < (l.length : Int) := by omega
         go_wp2_with fail
         refine hsm.mono ?_
         rintro e w5 ⟨rfl, b5⟩
         have k5 := kA.ext b5
         have q0 := k5.cell 0 _ rfl
         have q1 := k5.cell 1 _ rfl
         have q2 := k5.cell 2 _ rfl
         have q3 := k5.cell 3 _ rfl
         have q4 := k5.cell 4 _ rfl
         have q5 := k5.cell 5 _ rfl
         have q6 := k5.cell 6 _ rfl
         clear y0 y1 y2 y3 y4 y5 y6
         go_wp2_with fail
         go_meet
         exact ⟨by simp [hs, h1, h2, h3] <;> omega, b5⟩
 case rest =>
 obtain ⟨rfl, b5⟩ := hcut
 obtain ⟨w5, hw5e⟩ : ∃ z, z = wc := ⟨_, rfl⟩
 subst hw5e
 have k5 := kA.ext b5
 have b05 := ca.trans (b5.mono ca.size)
 clear hsm y0 y1 y2 y3 y4 y5 y6 kA ca b5 hsA
 obtain ⟨sm, hsm⟩ : ∃ q, (!smallH x.h || decide (300 < b.length) || decide (300 < ob.length) || decide (6 < l.length)) = q := ⟨_, rfl⟩
 rw [hsm]
 cases sm with
 | true =>
  go_wp2_with fail
  refine (walRuns_walk _ (Tn.out _ b05)).mono ?_
  rintro e w9 ⟨rfl, c9⟩
  have b9 := b05.trans (c9.mono b05.size)
  go_wp2_with fail
  go_ret
  exact ⟨rfl, b9⟩
 | false =>
 have hfew : b.length ≤ 300 ∧ ob.length ≤ 300 ∧ l.length ≤ 6 := by
  simp only [Bool.or_eq_false_iff, decide_eq_false_iff_not] at hsm
  omega
 obtain ⟨hfb, hfo, hfl⟩ := hfew
 clear hsm
 have k5lt := k5.lt
 go_wp2_with fail
 refine (rNew w0 w5 b05.size (fun k => k = w0.heap.size) (fun k hk => by rw [hk]; exact k5lt)).mono ?_
 rintro e w6 ⟨rfl, r6, c6⟩
 have k6 := k5.ext c6
 have b06 := b05.trans (c6.mono b05.size)
 generalize w5.heap.size = gF at r6
 clear c6 k5 k5lt b05
 have ho := rkOpen r6 PInv.zero (by omega)
 unfold OpenedR at ho
 rw [tw0, tw0c] at ho
 go_wp2_with fail
 refine ho.mono ?_
 rintro e w7 ⟨⟨gw, v7, X7, rfl, hgw, hx7, -, r7, v7', -⟩, -, c7⟩
 have b07 := b06.trans (c7.gx r6.size)
 have hgw0 : w0.heap.size ≤ gw := Nat.le_trans r6.size hgw
 have k7 := c7.blk k6 (fun hG => hG.2 rfl)
 clear c7 r6 b06 k6 ho hgw hx7
 have z0 := k7.cell 0 _ rfl
 have z1 := k7.cell 1 _ rfl
 have z2 := k7.cell 2 _ rfl
 have z3 := k7.cell 3 _ rfl
 have z4 := k7.cell 4 _ rfl
 have z5 := k7.cell 5 _ rfl
 have z6 := k7.cell 6 _ rfl
 obtain ⟨E, ws1, d1, hsA⟩ : ∃ E ws' dA, saveW dk0 wr0 x.h = (E, ws', dA) := ⟨_, _, _, rfl⟩
 obtain ⟨E2, wt1, dB, hsB⟩ : ∃ E ws' dB, saveR dk0 wr0 x.h = (E, ws', dB) := ⟨_, _, _, rfl⟩
 obtain ⟨rfl, rfl, al1, sn1⟩ := (Alk.refl wr0).saved hsA hsB rfl
 have pi1 : PInv 1 d1 := by have := PInv.zero.save wr0 x.h; rw [hsA] at this; exact this
 have Al1 := Lib.hid al1
 have Sn1 := Lib.hid sn1
 have Pi1 := Lib.hid pi1
 have HsB := Lib.hid hsB
 have HxL := Lib.hid (Hx.out.log.ext b07)
 clear hsA hsB al1 sn1 pi1
 go_wp2_with fail
 refine (rkSave r7 PInv.zero (by omega) v7' rfl x.h (.slice x.p x.h.log.length x.c) HxL.out HsB.out).mono ?_
 rintro e w8 ⟨rfl, X8, v8, -, -, r8, v8', c8, -⟩
 have b08 := b07.trans (c8.gwB b07.size hgw0)
 have St0 := Lib.hid (show HopS w0 w8 gF gw X8 d1 v8 wt1 from ⟨r8, v8', b08, hgw0⟩)
 clear c8 r8 v8' b08 b07 r7 v7' k7 z0 z1 z2 z3 z4 z5 z6 HsB HxL
 go_wp2_with fail
 go_loopw [16] (fun ti wr => ∃ (j : Nat) (d : Dk) (X : Nat → Prop) (v : Value) (ws wt : Wl), j ≤ l.length ∧ ti = .int .i64 (j : Int) ∧ Hid (PInv (j + 1) d) ∧ Hid (Alk ws wt) ∧ Hid (wt.h.snap = sNone) ∧ Hid (HopS w0 wr gF gw X d v wt)) (fun ti _ => l.length - (intOf ti).toNat)
 case atStart => exact ⟨0, d1, X8, v8, ws1, wt1, by omega, rfl, Pi1, Al1, Sn1, St0⟩
 case round =>
  clear St0 Pi1 Al1 Sn1
  obtain ⟨j, d, X, v, ws, wt, hj, rfl, pi, al, sn, st⟩ := hrel
  have hj0 : (0 : Int) ≤ (j : Int) := by omega
  have hb := st.out.hb
  by_cases hlt : j < l.length
  · have hi4 : (j : Int) < (l.length : Int) := by omega
    obtain ⟨pb, po, rfl⟩ := Rd.blk Hv.out (by omega)
    have rr := Hv.out.ext hb
    have hx := Hd.out _ (List.getElem_mem hlt)
    obtain ⟨a0, a1, a2, a3, a4, a5, a6⟩ := hdl7 rr hlt
    obtain ⟨x, hxe⟩ : ∃ x, l[j] = x := ⟨_, rfl⟩
    rw [hxe] at a0 a1 a2 a3 a4 a5 a6 hx
    have Hy := Lib.hid hx
    clear hxe rr hx
    have hsm := refSmall x.h (.slice x.p x.h.log.length x.c) wr (Hy.out.log.ext hb) (Nat.le_trans Hy.out.snap (by decide)) (fun y hy => Nat.le_trans (Hy.out.data y hy) (by decide))
    go_wp2_with fail
    refine hsm.mono ?_
    rintro e w9 ⟨rfl, c9⟩
    have st9 := st.out.ext c9
    have e0 := (c9.cell (p := ⟨pb, po + j * 7, none⟩) (World.block_lt_of_cell? _ _ a0)).trans a0
    have e1 := (c9.cell (p := ⟨pb, po + j * 7 + 1, none⟩) (World.block_lt_of_cell? _ _ a1)).trans a1
    have e2 := (c9.cell (p := ⟨pb, po + j * 7 + 2, none⟩) (World.block_lt_of_cell? _ _ a2)).trans a2
    have e3 := (c9.cell (p := ⟨pb, po + j * 7 + 3, none⟩) (World.block_lt_of_cell? _ _ a3)).trans a3
    have e4 := (c9.cell (p := ⟨pb, po + j * 7 + 4, none⟩) (World.block_lt_of_cell? _ _ a4)).trans a4
    have e5 := (c9.cell (p := ⟨pb, po + j * 7 + 5, none⟩) (World.block_lt_of_cell? _ _ a5)).trans a5
    have e6 := (c9.cell (p := ⟨pb, po + j * 7 + 6, none⟩) (World.block_lt_of_cell? _ _ a6)).trans a6
    clear a0 a1 a2 a3 a4 a5 a6 hsm
    cases hs : smallH x.h with
    | false =>
     have St9 := Lib.hid st9
     clear st9 st e0 e1 e2 e3 e4 e5 e6 c9
     go_wp2_with fail
     go_roundw
     case rel => exact ⟨j + 1, d, X, v, ws, wt, by omega, by go_num, Lib.hid pi.out.up, al, sn, St9⟩
     case measure => simp [intOf]; omega
    | true =>
     obtain ⟨E, ws1, d1, hsA⟩ : ∃ E ws' dA, saveW d ws x.h = (E, ws', dA) := ⟨_, _, _, rfl⟩
     obtain ⟨E2, wt1, dB, hsB⟩ : ∃ E ws' dB, saveR d wt x.h = (E, ws', dB) := ⟨_, _, _, rfl⟩
     obtain ⟨rfl, rfl, al1, sn1⟩ := al.out.saved hsA hsB sn.out
     have pi1 : PInv (j + 1 + 1) d1 := by have := pi.out.save ws x.h; rw [hsA] at this; exact this
     have Al1 := Lib.hid al1
     have Sn1 := Lib.hid sn1
     have Pi1 := Lib.hid pi1
     have HsB := Lib.hid hsB
     have HxL := Lib.hid (Hy.out.log.ext st9.hb)
     have St9 := Lib.hid st9
     clear hsA hsB al1 sn1 pi1 st c9 st9
     go_wp2_with fail
     refine (rkSave St9.out.rf pi.out (by omega) St9.out.rv sn.out x.h (.slice x.p x.h.log.length x.c) HxL.out HsB.out).mono ?_
     rintro e w10 ⟨rfl, X10, v10, -, -, r10, v10', c10, -⟩
     have b10 := St9.out.hb.trans (c10.gwB St9.out.hb.size hgw0)
     have St10 := Lib.hid (show HopS w0 w10 gF gw X10 d1 v10 wt1 from ⟨r10, v10', b10, hgw0⟩)
     clear c10 r10 v10' b10 St9 e0 e1 e2 e3 e4 e5 e6 HsB HxL
     go_wp2_with fail
     go_roundw
     case rel => exact ⟨j + 1, d1, X10, v10, ws1, wt1, by omega, by go_num, Pi1, Al1, Sn1, St10⟩
     case measure => simp [intOf]; omega
  · have hi4 : ¬ (j : Int) < (l.length : Int) := by omega
    obtain rfl : j = l.length := by omega
    have ok := pi.out.ok (by omega)
    go_upto_if 75 with (go_at_call 13; refine (rNames st.out.rf ok).mono ?_; rintro e w9 ⟨⟨r9, rfl, own9⟩, c9⟩; (have rd9 := own9.rd); clear own9; (obtain ⟨p9, cc9, rfl⟩ := rd9.shape))
    have st9 := st.out.ext c9
    clear c9 st
    go_cut [17, 18] from 71 to 83 (fun q _ wi => ∃ wb, Bytes wi q wb ∧ wb.length ≤ 4194304 ∧ Below w0.heap.size w0 wi)
    case first =>
     rcases Nat.eq_zero_or_pos d.fs.length with hz0 | hpos
     · have fin := Lib.hid (show ∃ wb, Bytes w9 (.slice none 0 0) wb ∧ wb.length ≤ 4194304 ∧ Below w0.heap.size w0 w9 from ⟨[], Own.cells (Own.nil w9 0 5 1), by simp, st9.hb⟩)
       have hzi : ¬ (0 : Int) < (d.fs.length : Int) := by omega
       clear rd9 st9
       go_wp2_with fail
       go_meet
       exact fin.out
     · have hpos' : 0 < (d.fs.map (·.name)).length := by rw [List.length_map]; exact hpos
       obtain ⟨pb, po, rfl⟩ := Rd.blk rd9 hpos'
       have h0 := rd9.at_ hpos' 0 (by decide)
       have y0 : w9.cell? ⟨pb, po, none⟩ = some (.string (d.fs.map (·.name))[0]) := by simpa [strE] using h0
       generalize (d.fs.map (·.name))[0] = s0 at y0
       have hpi : (0 : Int) < (d.fs.length : Int) := by omega
       clear rd9 h0 hpos'
       go_wp2_with fail
       refine (rRead st9.rf s0 rfl).mono ?_
       rintro e w10 ⟨⟨r10, rfl, by10⟩, rfl⟩
       have fin := Lib.hid (show ∃ wb, Bytes w9 r10 wb ∧ wb.length ≤ 4194304 ∧ Below w0.heap.size w0 w9 from ⟨_, by10, read_le pi.out s0, st9.hb⟩)
       clear by10 st9 y0
       go_wp2_with fail
       go_meet
       exact fin.out
    case rest =>
    obtain ⟨wb, hbw, hwl, b9⟩ := hcut
    obtain ⟨w9, hw9e⟩ : ∃ z, z = wc := ⟨_, rfl⟩
    subst hw9e
    clear rd9 st9 hb ok pi al sn
    obtain ⟨pw, cw, rfl⟩ := hbw.shape
    obtain ⟨nC, hnC⟩ : ∃ nC : Nat, within cut 0 (wb.length : Int) = (nC : Int) := ⟨(within cut 0 (wb.length : Int)).toNat, by have := within_bounds cut 0 (wb.length : Int) (by omega); omega⟩
    have hnCl : nC ≤ wb.length := by have := within_bounds cut 0 (wb.length : Int) (by omega); omega
    have HnC := Lib.hid hnC
    clear hnC
    have hsl := run_sub_to tBytesP (P := Tryz.prog) hbw .i64 (nC : Int) nC rfl hnCl
    have hsb := hbw.sub 0 nC (by omega) hnCl
    generalize subV _ 0 nC 1 = vS at *
    simp only [List.drop_zero, Nat.sub_zero] at hsb
    have hlt0 : (wb.take nC).length = nC := by rw [List.length_take]; omega
    obtain ⟨pS, cS, rfl⟩ := hsb.shapeN hlt0
    have hb39 := Cells.ext Hb3.out b9
    go_wp2_with (first
     | (go_at_call 15; refine (withinCalls cut 0 (wb.length : Int) _ (by decide) (by omega) (by omega)).mono ?_; rintro e w' ⟨rfl, rfl⟩; rw [HnC.out])
     | (at_builtin; refine wpList_app tBytesP rfl rfl (Own.lit _ #[] _ 0 _ rfl (by simp) (Nat.zero_le _) (Nat.le_refl _)) rfl (Cells.ext hsb (below_alloc _ _)) rfl (by omega) (by simp) ?_; intro v6 w6 own6 g6 b6; clear g6; replace b6 := (below_alloc _ _).trans b6)
     | (at_builtin; refine wpList_app tBytesP rfl rfl own6 rfl (Cells.ext hb39 b6) rfl (by omega) b6.size ?_; intro v7 w7 own7 g7 b7; clear g7 own6; replace b7 := b6.trans b7; clear b6)
     | fail)
    obtain ⟨whole, hW⟩ : ∃ q, q = wb.take nC ++ b := ⟨_, rfl⟩
    have own := OwnB.of (l := whole) own7 (by rw [hW]; simp) (by rw [hW]; simp)
    have hWl : whole.length ≤ 4194604 := by rw [hW, List.length_append, hlt0]; omega
    have b07 := b9.trans (b7.mono b9.size)
    clear own7 b7 hb39 hsb hsl hW hlt0 HnC hbw
    obtain ⟨X, hXd⟩ : ∃ X : Nat → Prop, ∀ k, X k ↔ k < w7.heap.size := ⟨_, fun _ => Iff.rfl⟩
    have hOX : ∀ k, v7.ownBlock = some k → X k := fun k hk => (hXd k).2 (own.lt k hk).2
    have Own7 := Lib.hid own.bytes
    refine (lNew w0 w7 b07.size X (fun k hk => (hXd k).1 hk)).mono ?_
    rintro e w10 ⟨rfl, d10, c10⟩
    have hX10 : ∀ k, X k → k < w10.heap.size := fun k hk => Nat.lt_of_lt_of_le ((hXd k).1 hk) c10.size
    clear hXd own
    generalize w7.heap.size = gD at d10
    go_wp2_with fail
    refine (rNew w10 w10 (Nat.le_refl _) (fun _ => False) (fun _ h => h.elim)).mono ?_
    rintro e w11 ⟨rfl, r11, c11⟩
    have t11 := TwoD.start d10 hX10 r11 c11
    have b11 := b07.trans ((c10.trans (c11.mono c10.size)).mono b07.size)
    have o11 := Cells.ext Own7.out (c10.trans (c11.mono c10.size))
    generalize w10.heap.size = gR at t11 r11
    clear d10 r11 c10 c11 hX10
    have a12 := below_alloc w11 (.cells #[.string ⟨#[49]⟩, .string ⟨#[50]⟩, .string ⟨#[57]⟩, .string ⟨#[49, 48]⟩, .string ⟨#[48, 55]⟩, .string ⟨#[120]⟩, .string ⟨#[]⟩] 9)
    have l12 : Rd strE (w11.alloc (.cells #[.string ⟨#[49]⟩, .string ⟨#[50]⟩, .string ⟨#[57]⟩, .string ⟨#[49, 48]⟩, .string ⟨#[48, 55]⟩, .string ⟨#[120]⟩, .string ⟨#[]⟩] 9)) (.slice (some ⟨w11.heap.size, 0, none⟩) 7 7) sfxO := (OwnR.litAt strE w11 #[.string ⟨#[49]⟩, .string ⟨#[50]⟩, .string ⟨#[57]⟩, .string ⟨#[49, 48]⟩, .string ⟨#[48, 55]⟩, .string ⟨#[120]⟩, .string ⟨#[]⟩] 9 sfxO 7 0 w11.heap.size rfl rfl rfl (by unfold maxLen; omega) (Nat.zero_le _)).rd
    obtain ⟨kN, hkN⟩ : ∃ kN : Nat, within kk 0 6 = (kN : Int) := ⟨(within kk 0 6).toNat, by have := within_bounds kk 0 6 (by omega); omega⟩
    have hk7 : kN < 7 := by have := within_bounds kk 0 6 (by omega); omega
    have h12 := l12.at_ (k := kN) hk7 0 (by decide)
    have hk7i : (kN : Int) < 7 := by omega
    have hk0i : (0 : Int) ≤ (kN : Int) := by omega
    have y12 : (w11.alloc (.cells #[.string ⟨#[49]⟩, .string ⟨#[50]⟩, .string ⟨#[57]⟩, .string ⟨#[49, 48]⟩, .string ⟨#[48, 55]⟩, .string ⟨#[120]⟩, .string ⟨#[]⟩] 9)).cell? ⟨w11.heap.size, kN, none⟩ = some (.string (sfxO[kN]'hk7)) := by simpa [strE] using h12
    have hsz := sfx_size (k := kN) hk7
    generalize (sfxO[kN]'hk7) = sx at y12 hsz
    have t12 := t11.ext a12
    have b12 := b11.trans (a12.mono b11.size)
    have o12 := Cells.ext o11 a12
    clear l12 h12 t11 b11 o11 a12
    go_upto_region 20 with (first | (go_at_call 15; refine (withinCalls kk 0 6 _ (by decide) (by omega) (by omega)).mono ?_; rintro e w' ⟨rfl, rfl⟩; rw [hkN]) | fail)
    clear y12 hk7 hk7i hk0i hkN
    have hnm : ({ data := #[119, 97, 108, 46] } ++ sx : ByteArray).size ≤ 4611686018427387904 := by rw [ByteArray.size_append]; have : ({ data := #[119, 97, 108, 46] } : ByteArray).size = 4 := rfl; omega
    generalize ({ data := #[119, 97, 108, 46] } ++ sx : ByteArray) = nm at *
    generalize w11.alloc (.cells #[.string ⟨#[49]⟩, .string ⟨#[50]⟩, .string ⟨#[57]⟩, .string ⟨#[49, 48]⟩, .string ⟨#[48, 55]⟩, .string ⟨#[120]⟩, .string ⟨#[]⟩] 9) = w12 at *
    have hk5 : ({ data := #[119, 97, 108, 46, 53] } : ByteArray).size ≤ 4611686018427387904 := by decide
    clear hsz
    have o4 := Cells.ext Hb4.out b12
    have hB4 : ob ≠ [] → ∀ k, (Value.slice p4 ob.length c4).ownBlock = some k → k < w0.heap.size ∨ X k := fun hne k hk => .inl (Cells.lt Hb4.out (by rw [List.length_map]; exact List.length_pos_iff.2 hne) k hk)
    have hB7 : whole ≠ [] → ∀ k, v7.ownBlock = some k → k < w0.heap.size ∨ X k := fun _ k hk => .inr (hOX k hk)
    go_wp2_with fail
    refine (t12.appD (PInv.zero.ok (by omega)) hk5 o12 hB7).mono ?_
    rintro e w13 ⟨⟨E13, rfl⟩, t13, c13⟩
    have o13 := c13.cells o12 (fun k hk q => q.2 (hOX k hk))
    have b13 := b12.trans (c13.gx t12.size)
    clear c13 t12 o12 b12 o4
    go_wp2_with fail
    refine (t13.appR (PInv.zero.ok (by omega)) hk5 (by omega) o13 hB7).mono ?_
    rintro e w14 ⟨⟨E14, rfl⟩, t14, c14⟩
    have b14 := b13.trans (c14.gx t13.size)
    have o14 := Cells.ext Hb4.out b14
    have pi1 : PInv 1 (appendD dk0 { data := #[119, 97, 108, 46, 53] } whole).2 := PInv.zero.append _ _
    have on1 : OnD (appendD dk0 { data := #[119, 97, 108, 46, 53] } whole).2 := OnD.appended (d := dk0) ⟨rfl, rfl⟩ _ _
    generalize (appendD dk0 { data := #[119, 97, 108, 46, 53] } whole).2 = d1 at *
    clear c14 t13 o13 b13 Own7 hOX hB7 hWl
    go_wp2_with fail
    refine (t14.appD (pi1.ok (by omega)) hnm o14 hB4).mono ?_
    rintro e w15 ⟨⟨E15, rfl⟩, t15, c15⟩
    have b15 := b14.trans (c15.gx t14.size)
    have o15 := Cells.ext Hb4.out b15
    clear c15 t14 o14 b14
    go_wp2_with fail
    refine (t15.appR (pi1.ok (by omega)) hnm (by omega) o15 hB4).mono ?_
    rintro e w16 ⟨⟨E16, rfl⟩, t16, c16⟩
    have b16 := b15.trans (c16.gx t15.size)
    have pi2 : PInv 2 (appendD d1 nm ob).2 := pi1.append _ _
    have on2 : OnD (appendD d1 nm ob).2 := on1.appended _ _
    generalize (appendD d1 nm ob).2 = d2 at *
    clear c16 t15 o15 b15 pi1 on1 hB4 hnm hk5
    obtain ⟨ws, d', q1, q2, q3, q4, piX⟩ := open_again pi2 on2
    have hcl : (cleanW d2).2 = d' := by rw [q1]
    have hcl2 : (cleanW d').2 = d' := by rw [q3]
    have sn := (open_snap q2).1
    have ho := t16.openD Tn.out b16 pi2 (by omega)
    unfold TwoOpD at ho
    rw [q2, hcl] at ho
    clear q1 on2 q3
    have Q2 := Lib.hid q2
    have Q4 := Lib.hid q4
    have Hcl := Lib.hid hcl
    have Hcl2 := Lib.hid hcl2
    clear q2 q4 hcl hcl2
    go_wp2_with fail
    refine ho.mono ?_
    rintro e w17 ⟨⟨gx, v17, X17, rfl, hgx, hx17, t17, v17'⟩, c17⟩
    have b17 := b16.trans (c17.gx t16.size)
    have ho := t17.openR pi2 (by omega)
    unfold TwoOpR at ho
    rw [Q2.out, Hcl.out] at ho
    clear c17 t16 b16 hx17 hgx
    go_wp2_with fail
    refine ho.mono ?_
    rintro e wx ⟨⟨gr, v18, X18, rfl, hgr, hx18, tt, rv, -⟩, c18⟩
    have bx := b17.trans (c18.gx t17.size)
    have vv := (v17'.keep c18).mono hx18
    have piH := Lib.hid piX
    clear ho c18 t17 b17 hgr hx18 v17' piX
    have hgl := vv.blk.lt
    have hbw : bareOf ws.h = ws.h := by unfold bareOf; rw [← sn]
    clear sn
    obtain ⟨pv, cv, hpv⟩ := rv.log.shape
    subst hpv
    have hHard : ∀ z, Below wx.heap.size wx z → Calls Tryz.prog 21 #[.pointer (some ⟨gx, 0, none⟩)] z fun e w' => ∃ v', e = .returned (hrdA ws.h v') ∧ Rd etyE w' v' ws.h.log ∧ Below z.heap.size z w' := fun z hz => (walHard (vv.ext hz)).mono fun e w' ⟨v', h1, h2, h3⟩ => ⟨v', by rw [h1, hbw], h2.rd, h3⟩
    have HH := Lib.hid hHard
    clear hHard
    go_upto_region 26 with (fail)
    refine wp_region_F (n := 22) (S := fun w' : World => w'.cell? ⟨gr, 1, none⟩ = some (.int .i64 ws.h.term) ∧ w'.cell? ⟨gr, 2, none⟩ = some (.int .i64 ws.h.vote) ∧ w'.cell? ⟨gr, 3, none⟩ = some (.int .i64 ws.h.base) ∧ w'.cell? ⟨gr, 4, none⟩ = some (.int .i64 ws.h.bterm) ∧ w'.cell? ⟨gr, 5, none⟩ = some (.int .i64 ws.h.members) ∧ w'.cell? ⟨gr, 6, none⟩ = some (.string ws.h.snap) ∧ w'.cell? ⟨gr, 7, none⟩ = some (.slice pv ws.h.log.length cv)) (by kernel_rfl) ?_
    have hHeld : (fun w' : World => w'.cell? ⟨gr, 1, none⟩ = some (.int .i64 ws.h.term) ∧ w'.cell? ⟨gr, 2, none⟩ = some (.int .i64 ws.h.vote) ∧ w'.cell? ⟨gr, 3, none⟩ = some (.int .i64 ws.h.base) ∧ w'.cell? ⟨gr, 4, none⟩ = some (.int .i64 ws.h.bterm) ∧ w'.cell? ⟨gr, 5, none⟩ = some (.int .i64 ws.h.members) ∧ w'.cell? ⟨gr, 6, none⟩ = some (.string ws.h.snap) ∧ w'.cell? ⟨gr, 7, none⟩ = some (.slice pv ws.h.log.length cv)) wx.drew := ⟨(rv.ext (below_drew _ _)).blk.cell 1 _ rfl, (rv.ext (below_drew _ _)).blk.cell 2 _ rfl, (rv.ext (below_drew _ _)).blk.cell 3 _ rfl, (rv.ext (below_drew _ _)).blk.cell 4 _ rfl, (rv.ext (below_drew _ _)).blk.cell 5 _ rfl, (rv.ext (below_drew _ _)).blk.cell 6 _ rfl, (rv.ext (below_drew _ _)).blk.cell 7 _ rfl⟩
    refine wpAnyF_tk 0 (some 128) (Op.move (Operand.tmp 22)) 45 (v := ?_) rfl (by kernel_rfl) (fun _ _ _ h => h) ?_ hHeld ?_
    rotate_left
    · intro w hSw
      try dsimp only at hSw
      obtain ⟨_, _, _, _, _, _, _⟩ := hSw
      dsimp only [bare]
      go_simp <;> with_reducible rfl
    try simp only [bare, Act.put, lyA, lyZ, lyS]
    refine wpAnyF_tk 1 (some 129) (Op.binOp BinOp.eql 45 (Operand.tmp 128) (Operand.const (Value.pointer none)) 45) 4 (v := ?_) rfl (by kernel_rfl) (fun _ _ _ h => h) ?_ hHeld ?_
    rotate_left
    · intro w hSw
      try dsimp only at hSw
      obtain ⟨_, _, _, _, _, _, _⟩ := hSw
      dsimp only [bare]
      go_simp <;> with_reducible rfl
    try simp only [bare, Act.put, lyA, lyZ, lyS]
    refine wpAnyF_tk 2 (some 130) (Op.move (Operand.tmp 129)) 4 (v := ?_) rfl (by kernel_rfl) (fun _ _ _ h => h) ?_ hHeld ?_
    rotate_left
    · intro w hSw
      try dsimp only at hSw
      obtain ⟨_, _, _, _, _, _, _⟩ := hSw
      dsimp only [bare]
      go_simp <;> with_reducible rfl
    try simp only [bare, Act.put, lyA, lyZ, lyS]
    refine wpAnyF_tg 3 (some 131) (Op.move (Operand.tmp 23)) 42 (some (2, false)) (v := ?_) rfl (by kernel_rfl) (by kernel_rfl) (fun _ _ _ h => h) ?_ hHeld ?_
    rotate_left
    · intro w hSw
      try dsimp only at hSw
      obtain ⟨_, _, _, _, _, _, _⟩ := hSw
      dsimp only [bare]
      go_simp <;> with_reducible rfl
    try simp only [bare, Act.put, lyA, lyZ, lyS]
    refine wpAnyF_tg 4 (some 132) (Op.move (Operand.tmp 25)) 3 (some (2, false)) (v := ?_) rfl (by kernel_rfl) (by kernel_rfl) (fun _ _ _ h => h) ?_ hHeld ?_
    rotate_left
    · intro w hSw
      try dsimp only at hSw
      obtain ⟨_, _, _, _, _, _, _⟩ := hSw
      dsimp only [bare]
      go_simp <;> with_reducible rfl
    try simp only [bare, Act.put, lyA, lyZ, lyS]
    refine wpAnyF_tg 5 (some 133) (Op.binOp BinOp.neq 3 (Operand.tmp 131) (Operand.tmp 132) 3) 4 (some (2, false)) (v := ?_) rfl (by kernel_rfl) (by kernel_rfl) (fun _ _ _ h => h) ?_ hHeld ?_
    rotate_left
    · intro w hSw
      try dsimp only at hSw
      obtain ⟨_, _, _, _, _, _, _⟩ := hSw
      dsimp only [bare]
      go_simp <;> with_reducible rfl
    try simp only [bare, Act.put, lyA, lyZ, lyS]
    refine wpAnyF_tk 6 (some 134) (Op.pick (Operand.tmp 130) (Operand.const (Value.bool true)) (Operand.tmp 133)) 4 (v := ?_) rfl (by kernel_rfl) (fun _ _ _ h => h) ?_ hHeld ?_
    rotate_left
    · intro w hSw
      try dsimp only at hSw
      obtain ⟨_, _, _, _, _, _, _⟩ := hSw
      dsimp only [bare]
      go_simp <;> with_reducible rfl
    try simp only [bare, Act.put, lyA, lyZ, lyS]
    refine wpAnyF_tk 7 (some 135) (Op.move (Operand.tmp 134)) 4 (v := ?_) rfl (by kernel_rfl) (fun _ _ _ h => h) ?_ hHeld ?_
    rotate_left
    · intro w hSw
      try dsimp only at hSw
      obtain ⟨_, _, _, _, _, _, _⟩ := hSw
      dsimp only [bare]
      go_simp <;> with_reducible rfl
    try simp only [bare, Act.put, lyA, lyZ, lyS]
    refine wpAnyF_tg 8 (some 136) (Op.move (Operand.tmp 22)) 45 (some (7, false)) (v := ?_) rfl (by kernel_rfl) (by kernel_rfl) (fun _ _ _ h => h) ?_ hHeld ?_
    rotate_left
    · intro w hSw
      try dsimp only at hSw
      obtain ⟨_, _, _, _, _, _, _⟩ := hSw
      dsimp only [bare]
      go_simp <;> with_reducible rfl
    try simp only [bare, Act.put, lyA, lyZ, lyS]
    refine wpAnyF_tg 10 (some 138) (Op.move (Operand.tmp 24)) 31 (some (7, false)) (v := ?_) rfl (by kernel_rfl) (by kernel_rfl) (fun _ _ _ h => h) ?_ hHeld ?_
    rotate_left
    · intro w hSw
      try dsimp only at hSw
      obtain ⟨_, _, _, _, _, _, _⟩ := hSw
      dsimp only [bare]
      go_simp <;> with_reducible rfl
    try simp only [bare, Act.put, lyA, lyZ, lyS]
    refine wpAnyF_tg 11 (some 139) (Op.nilCheck (Operand.tmp 138)) 0 (some (7, false)) (v := ?_) rfl (by kernel_rfl) (by kernel_rfl) (fun _ _ _ h => h) ?_ hHeld ?_
    rotate_left
    · intro w hSw
      try dsimp only at hSw
      obtain ⟨_, _, _, _, _, _, _⟩ := hSw
      dsimp only [bare]
      go_simp <;> with_reducible rfl
    try simp only [bare, Act.put, lyA, lyZ, lyS]
    refine wpAnyF_tg 12 (some 140) (Op.fieldAddr 51 (Operand.tmp 139) 1) 0 (some (7, false)) (v := ?_) rfl (by kernel_rfl) (by kernel_rfl) (fun _ _ _ h => h) ?_ hHeld ?_
    rotate_left
    · intro w hSw
      try dsimp only at hSw
      obtain ⟨_, _, _, _, _, _, _⟩ := hSw
      dsimp only [bare]
      go_simp <;> with_reducible rfl
    try simp only [bare, Act.put, lyA, lyZ, lyS]
    refine wpAnyF_tg 13 (some 141) (Op.load 24 (Operand.tmp 140)) 24 (some (7, false)) (v := ?_) rfl (by kernel_rfl) (by kernel_rfl) (fun _ _ _ h => h) ?_ hHeld ?_
    rotate_left
    · intro w hSw
      try dsimp only at hSw
      obtain ⟨_, _, _, _, _, _, _⟩ := hSw
      dsimp only [bare]
      go_simp <;> with_reducible rfl
    try simp only [bare, Act.put, lyA, lyZ, lyS]
    refine wpAnyF_og 9 (some 137) (Op.call { callee := Callee.value (Operand.func 21), args := #[Operand.tmp 136], argTypes := #[45] }) 24 (some (7, false)) rfl (by kernel_rfl) (by kernel_rfl) (fun K hK => ?_)
    dsimp only [bare]; go_simp
    (with_reducible refine (HH.out wx.drew (below_drew _ _)).mono ?_)
    rintro e w18 ⟨v19, rfl, rd18, b18⟩
    dsimp only
    have bx18 : Below wx.heap.size wx w18 := (below_drew wx.heap.size wx).trans b18
    have L18 := rv.ext bx18
    refine hK _ _ ⟨(L18).blk.cell 1 _ rfl, (L18).blk.cell 2 _ rfl, (L18).blk.cell 3 _ rfl, (L18).blk.cell 4 _ rfl, (L18).blk.cell 5 _ rfl, (L18).blk.cell 6 _ rfl, (L18).blk.cell 7 _ rfl⟩ (fun hHeld => ?_)
    clear hK K
    try simp only [bare, Act.put, lyA, lyZ, lyS]
    refine wpAnyF_og 14 (some 142) (Op.call { callee := Callee.value (Operand.func 20), args := #[Operand.tmp 137, Operand.tmp 141], argTypes := #[24, 24] }) 4 (some (7, false)) rfl (by kernel_rfl) (by kernel_rfl) (fun K hK => ?_)
    dsimp only [bare]; go_simp
    (with_reducible refine (refSame ws.h ws.h v19 (.slice pv ws.h.log.length cv) rd18 L18.log).mono ?_)
    rintro e w19 ⟨rfl, b19⟩
    dsimp only
    have bx19 := bx18.trans (b19.mono bx18.size)
    have L19 := rv.ext bx19
    refine hK _ _ ⟨(L19).blk.cell 1 _ rfl, (L19).blk.cell 2 _ rfl, (L19).blk.cell 3 _ rfl, (L19).blk.cell 4 _ rfl, (L19).blk.cell 5 _ rfl, (L19).blk.cell 6 _ rfl, (L19).blk.cell 7 _ rfl⟩ (fun hHeld => ?_)
    clear hK K
    try simp only [bare, Act.put, lyA, lyZ, lyS]
    refine wpAnyF_tg 15 (some 143) (Op.unOp UnOp.not 4 (Operand.tmp 142)) 4 (some (7, false)) (v := ?_) rfl (by kernel_rfl) (by kernel_rfl) (fun _ _ _ h => h) ?_ hHeld ?_
    rotate_left
    · intro w hSw
      try dsimp only at hSw
      obtain ⟨_, _, _, _, _, _, _⟩ := hSw
      dsimp only [bare]
      go_simp <;> with_reducible rfl
    try simp only [bare, Act.put, lyA, lyZ, lyS]
    refine wpAnyF_tk 16 (some 144) (Op.pick (Operand.tmp 135) (Operand.const (Value.bool true)) (Operand.tmp 143)) 4 (v := ?_) rfl (by kernel_rfl) (fun _ _ _ h => h) ?_ hHeld ?_
    rotate_left
    · intro w hSw
      try dsimp only at hSw
      obtain ⟨_, _, _, _, _, _, _⟩ := hSw
      dsimp only [bare]
      go_simp <;> with_reducible rfl
    try simp only [bare, Act.put, lyA, lyZ, lyS]
    refine wpAnyF_tk 17 (some 145) (Op.move (Operand.tmp 144)) 4 (v := ?_) rfl (by kernel_rfl) (fun _ _ _ h => h) ?_ hHeld ?_
    rotate_left
    · intro w hSw
      try dsimp only at hSw
      obtain ⟨_, _, _, _, _, _, _⟩ := hSw
      dsimp only [bare]
      go_simp <;> with_reducible rfl
    try simp only [bare, Act.put, lyA, lyZ, lyS]
    refine wpAnyF_tg 18 (some 146) (Op.move (Operand.tmp 19)) 40 (some (17, false)) (v := ?_) rfl (by kernel_rfl) (by kernel_rfl) (fun _ _ _ h => h) ?_ hHeld ?_
    rotate_left
    · intro w hSw
      try dsimp only at hSw
      obtain ⟨_, _, _, _, _, _, _⟩ := hSw
      dsimp only [bare]
      go_simp <;> with_reducible rfl
    try simp only [bare, Act.put, lyA, lyZ, lyS]
    refine wpAnyF_tg 19 (some 147) (Op.move (Operand.tmp 20)) 29 (some (17, false)) (v := ?_) rfl (by kernel_rfl) (by kernel_rfl) (fun _ _ _ h => h) ?_ hHeld ?_
    rotate_left
    · intro w hSw
      try dsimp only at hSw
      obtain ⟨_, _, _, _, _, _, _⟩ := hSw
      dsimp only [bare]
      go_simp <;> with_reducible rfl
    try simp only [bare, Act.put, lyA, lyZ, lyS]
    refine wpAnyF_og 20 (some 148) (Op.call { callee := Callee.value (Operand.func 22), args := #[Operand.tmp 146, Operand.tmp 147], argTypes := #[40, 29] }) 4 (some (17, false)) rfl (by kernel_rfl) (by kernel_rfl) (fun K hK => ?_)
    dsimp only [bare]; go_simp
    (with_reducible refine (alikeL (by omega) piH.out (tt.ext bx19)).mono ?_)
    rintro e w20 ⟨rfl, c20⟩
    dsimp only
    have bx20 := bx19.trans (c20.mono bx19.size)
    have L20 := rv.ext bx20
    refine hK _ _ ⟨(L20).blk.cell 1 _ rfl, (L20).blk.cell 2 _ rfl, (L20).blk.cell 3 _ rfl, (L20).blk.cell 4 _ rfl, (L20).blk.cell 5 _ rfl, (L20).blk.cell 6 _ rfl, (L20).blk.cell 7 _ rfl⟩ (fun hHeld => ?_)
    clear hK K
    try simp only [bare, Act.put, lyA, lyZ, lyS]
    refine wpAnyF_tg 21 (some 149) (Op.unOp UnOp.not 4 (Operand.tmp 148)) 4 (some (17, false)) (v := ?_) rfl (by kernel_rfl) (by kernel_rfl) (fun _ _ _ h => h) ?_ hHeld ?_
    rotate_left
    · intro w hSw
      try dsimp only at hSw
      obtain ⟨_, _, _, _, _, _, _⟩ := hSw
      dsimp only [bare]
      go_simp <;> with_reducible rfl
    try simp only [bare, Act.put, lyA, lyZ, lyS]
    refine wpAnyF_end (some 150) (Op.pick (Operand.tmp 145) (Operand.const (Value.bool true)) (Operand.tmp 149)) 4 rfl (by kernel_rfl) (by kernel_rfl) (fun K hK => ?_)
    dsimp only [bare]; go_simp
    refine hK _ _ ?_
    clear hK K
    try simp only [bare, Act.put, lyA, lyZ, lyS]
    have t20 := tt.ext bx20
    have b20 := bx.trans (bx20.mono bx.size)
    have rv20 := L20
    clear hHeld L18 L19 rd18 b18 b19 c20 bx18 bx19 bx20 tt bx rv vv HH
    go_wp2_with fail
    have ho := t20.openD Tn.out b20 piH.out (by omega)
    unfold TwoOpD at ho
    rw [Q4.out, Hcl2.out] at ho
    refine ho.mono ?_
    rintro e wy ⟨⟨gy, v21, X21, rfl, hgy, hx21, t21, vv21⟩, c21⟩
    have b21 := b20.trans (c21.gx t20.size)
    have rv21 := (rv20.keep c21).mono hx21
    clear ho c21 t20 b20 hx21 hgy rv20
    have hHard : ∀ z, Below wy.heap.size wy z → Calls Tryz.prog 21 #[.pointer (some ⟨gy, 0, none⟩)] z fun e w' => ∃ v', e = .returned (hrdA ws.h v') ∧ Rd etyE w' v' ws.h.log ∧ Below z.heap.size z w' := fun z hz => (walHard (vv21.ext hz)).mono fun e w' ⟨v', h1, h2, h3⟩ => ⟨v', by rw [h1, hbw], h2.rd, h3⟩
    have HH := Lib.hid hHard
    clear hHard
    go_upto_region 29 with (fail)
    refine wp_region_F (n := 23) (S := fun w' : World => w'.cell? ⟨gr, 1, none⟩ = some (.int .i64 ws.h.term) ∧ w'.cell? ⟨gr, 2, none⟩ = some (.int .i64 ws.h.vote) ∧ w'.cell? ⟨gr, 3, none⟩ = some (.int .i64 ws.h.base) ∧ w'.cell? ⟨gr, 4, none⟩ = some (.int .i64 ws.h.bterm) ∧ w'.cell? ⟨gr, 5, none⟩ = some (.int .i64 ws.h.members) ∧ w'.cell? ⟨gr, 6, none⟩ = some (.string ws.h.snap) ∧ w'.cell? ⟨gr, 7, none⟩ = some (.slice pv ws.h.log.length cv)) (by kernel_rfl) ?_
    have hHeld : (fun w' : World => w'.cell? ⟨gr, 1, none⟩ = some (.int .i64 ws.h.term) ∧ w'.cell? ⟨gr, 2, none⟩ = some (.int .i64 ws.h.vote) ∧ w'.cell? ⟨gr, 3, none⟩ = some (.int .i64 ws.h.base) ∧ w'.cell? ⟨gr, 4, none⟩ = some (.int .i64 ws.h.bterm) ∧ w'.cell? ⟨gr, 5, none⟩ = some (.int .i64 ws.h.members) ∧ w'.cell? ⟨gr, 6, none⟩ = some (.string ws.h.snap) ∧ w'.cell? ⟨gr, 7, none⟩ = some (.slice pv ws.h.log.length cv)) wy.drew := ⟨(rv21.ext (below_drew _ _)).blk.cell 1 _ rfl, (rv21.ext (below_drew _ _)).blk.cell 2 _ rfl, (rv21.ext (below_drew _ _)).blk.cell 3 _ rfl, (rv21.ext (below_drew _ _)).blk.cell 4 _ rfl, (rv21.ext (below_drew _ _)).blk.cell 5 _ rfl, (rv21.ext (below_drew _ _)).blk.cell 6 _ rfl, (rv21.ext (below_drew _ _)).blk.cell 7 _ rfl⟩
    refine wpAnyF_tk 0 (some 156) (Op.move (Operand.tmp 22)) 45 (v := ?_) rfl (by kernel_rfl) (fun _ _ _ h => h) ?_ hHeld ?_
    rotate_left
    · intro w hSw
      try dsimp only at hSw
      obtain ⟨_, _, _, _, _, _, _⟩ := hSw
      dsimp only [bare]
      go_simp <;> with_reducible rfl
    try simp only [bare, Act.put, lyA, lyZ, lyS]
    refine wpAnyF_tk 1 (some 157) (Op.binOp BinOp.neq 45 (Operand.tmp 156) (Operand.const (Value.pointer none)) 45) 4 (v := ?_) rfl (by kernel_rfl) (fun _ _ _ h => h) ?_ hHeld ?_
    rotate_left
    · intro w hSw
      try dsimp only at hSw
      obtain ⟨_, _, _, _, _, _, _⟩ := hSw
      dsimp only [bare]
      go_simp <;> with_reducible rfl
    try simp only [bare, Act.put, lyA, lyZ, lyS]
    refine wpAnyF_tk 2 (some 158) (Op.move (Operand.tmp 157)) 4 (v := ?_) rfl (by kernel_rfl) (fun _ _ _ h => h) ?_ hHeld ?_
    rotate_left
    · intro w hSw
      try dsimp only at hSw
      obtain ⟨_, _, _, _, _, _, _⟩ := hSw
      dsimp only [bare]
      go_simp <;> with_reducible rfl
    try simp only [bare, Act.put, lyA, lyZ, lyS]
    refine wpAnyF_tg 3 (some 159) (Op.move (Operand.tmp 23)) 42 (some (2, true)) (v := ?_) rfl (by kernel_rfl) (by kernel_rfl) (fun _ _ _ h => h) ?_ hHeld ?_
    rotate_left
    · intro w hSw
      try dsimp only at hSw
      obtain ⟨_, _, _, _, _, _, _⟩ := hSw
      dsimp only [bare]
      go_simp <;> with_reducible rfl
    try simp only [bare, Act.put, lyA, lyZ, lyS]
    refine wpAnyF_tg 4 (some 160) (Op.binOp BinOp.eql 42 (Operand.tmp 159) (Operand.const (Value.int IntKind.i64 0)) 42) 4 (some (2, true)) (v := ?_) rfl (by kernel_rfl) (by kernel_rfl) (fun _ _ _ h => h) ?_ hHeld ?_
    rotate_left
    · intro w hSw
      try dsimp only at hSw
      obtain ⟨_, _, _, _, _, _, _⟩ := hSw
      dsimp only [bare]
      go_simp <;> with_reducible rfl
    try simp only [bare, Act.put, lyA, lyZ, lyS]
    refine wpAnyF_tk 5 (some 161) (Op.pick (Operand.tmp 158) (Operand.tmp 160) (Operand.const (Value.bool false))) 4 (v := ?_) rfl (by kernel_rfl) (fun _ _ _ h => h) ?_ hHeld ?_
    rotate_left
    · intro w hSw
      try dsimp only at hSw
      obtain ⟨_, _, _, _, _, _, _⟩ := hSw
      dsimp only [bare]
      go_simp <;> with_reducible rfl
    try simp only [bare, Act.put, lyA, lyZ, lyS]
    refine wpAnyF_tk 6 (some 162) (Op.move (Operand.tmp 161)) 4 (v := ?_) rfl (by kernel_rfl) (fun _ _ _ h => h) ?_ hHeld ?_
    rotate_left
    · intro w hSw
      try dsimp only at hSw
      obtain ⟨_, _, _, _, _, _, _⟩ := hSw
      dsimp only [bare]
      go_simp <;> with_reducible rfl
    try simp only [bare, Act.put, lyA, lyZ, lyS]
    refine wpAnyF_tg 7 (some 163) (Op.move (Operand.tmp 22)) 45 (some (6, true)) (v := ?_) rfl (by kernel_rfl) (by kernel_rfl) (fun _ _ _ h => h) ?_ hHeld ?_
    rotate_left
    · intro w hSw
      try dsimp only at hSw
      obtain ⟨_, _, _, _, _, _, _⟩ := hSw
      dsimp only [bare]
      go_simp <;> with_reducible rfl
    try simp only [bare, Act.put, lyA, lyZ, lyS]
    refine wpAnyF_tg 9 (some 165) (Op.move (Operand.tmp 24)) 31 (some (6, true)) (v := ?_) rfl (by kernel_rfl) (by kernel_rfl) (fun _ _ _ h => h) ?_ hHeld ?_
    rotate_left
    · intro w hSw
      try dsimp only at hSw
      obtain ⟨_, _, _, _, _, _, _⟩ := hSw
      dsimp only [bare]
      go_simp <;> with_reducible rfl
    try simp only [bare, Act.put, lyA, lyZ, lyS]
    refine wpAnyF_tg 10 (some 166) (Op.nilCheck (Operand.tmp 165)) 0 (some (6, true)) (v := ?_) rfl (by kernel_rfl) (by kernel_rfl) (fun _ _ _ h => h) ?_ hHeld ?_
    rotate_left
    · intro w hSw
      try dsimp only at hSw
      obtain ⟨_, _, _, _, _, _, _⟩ := hSw
      dsimp only [bare]
      go_simp <;> with_reducible rfl
    try simp only [bare, Act.put, lyA, lyZ, lyS]
    refine wpAnyF_tg 11 (some 167) (Op.fieldAddr 51 (Operand.tmp 166) 1) 0 (some (6, true)) (v := ?_) rfl (by kernel_rfl) (by kernel_rfl) (fun _ _ _ h => h) ?_ hHeld ?_
    rotate_left
    · intro w hSw
      try dsimp only at hSw
      obtain ⟨_, _, _, _, _, _, _⟩ := hSw
      dsimp only [bare]
      go_simp <;> with_reducible rfl
    try simp only [bare, Act.put, lyA, lyZ, lyS]
    refine wpAnyF_tg 12 (some 168) (Op.load 24 (Operand.tmp 167)) 24 (some (6, true)) (v := ?_) rfl (by kernel_rfl) (by kernel_rfl) (fun _ _ _ h => h) ?_ hHeld ?_
    rotate_left
    · intro w hSw
      try dsimp only at hSw
      obtain ⟨_, _, _, _, _, _, _⟩ := hSw
      dsimp only [bare]
      go_simp <;> with_reducible rfl
    try simp only [bare, Act.put, lyA, lyZ, lyS]
    refine wpAnyF_og 8 (some 164) (Op.call { callee := Callee.value (Operand.func 21), args := #[Operand.tmp 163], argTypes := #[45] }) 24 (some (6, true)) rfl (by kernel_rfl) (by kernel_rfl) (fun K hK => ?_)
    dsimp only [bare]; go_simp
    (with_reducible refine (HH.out wy.drew (below_drew _ _)).mono ?_)
    rintro e w22 ⟨v22, rfl, rd22, b22⟩
    dsimp only
    have bx22 : Below wy.heap.size wy w22 := (below_drew wy.heap.size wy).trans b22
    have L22 := rv21.ext bx22
    refine hK _ _ ⟨(L22).blk.cell 1 _ rfl, (L22).blk.cell 2 _ rfl, (L22).blk.cell 3 _ rfl, (L22).blk.cell 4 _ rfl, (L22).blk.cell 5 _ rfl, (L22).blk.cell 6 _ rfl, (L22).blk.cell 7 _ rfl⟩ (fun hHeld => ?_)
    clear hK K
    try simp only [bare, Act.put, lyA, lyZ, lyS]
    refine wpAnyF_og 13 (some 169) (Op.call { callee := Callee.value (Operand.func 20), args := #[Operand.tmp 164, Operand.tmp 168], argTypes := #[24, 24] }) 4 (some (6, true)) rfl (by kernel_rfl) (by kernel_rfl) (fun K hK => ?_)
    dsimp only [bare]; go_simp
    (with_reducible refine (refSame ws.h ws.h v22 (.slice pv ws.h.log.length cv) rd22 L22.log).mono ?_)
    rintro e w23 ⟨rfl, b23⟩
    dsimp only
    have bx23 := bx22.trans (b23.mono bx22.size)
    have L23 := rv21.ext bx23
    refine hK _ _ ⟨(L23).blk.cell 1 _ rfl, (L23).blk.cell 2 _ rfl, (L23).blk.cell 3 _ rfl, (L23).blk.cell 4 _ rfl, (L23).blk.cell 5 _ rfl, (L23).blk.cell 6 _ rfl, (L23).blk.cell 7 _ rfl⟩ (fun hHeld => ?_)
    clear hK K
    try simp only [bare, Act.put, lyA, lyZ, lyS]
    refine wpAnyF_tk 14 (some 170) (Op.pick (Operand.tmp 162) (Operand.tmp 169) (Operand.const (Value.bool false))) 4 (v := ?_) rfl (by kernel_rfl) (fun _ _ _ h => h) ?_ hHeld ?_
    rotate_left
    · intro w hSw
      try dsimp only at hSw
      obtain ⟨_, _, _, _, _, _, _⟩ := hSw
      dsimp only [bare]
      go_simp <;> with_reducible rfl
    try simp only [bare, Act.put, lyA, lyZ, lyS]
    refine wpAnyF_tk 15 (some 171) (Op.move (Operand.tmp 170)) 4 (v := ?_) rfl (by kernel_rfl) (fun _ _ _ h => h) ?_ hHeld ?_
    rotate_left
    · intro w hSw
      try dsimp only at hSw
      obtain ⟨_, _, _, _, _, _, _⟩ := hSw
      dsimp only [bare]
      go_simp <;> with_reducible rfl
    try simp only [bare, Act.put, lyA, lyZ, lyS]
    refine wpAnyF_tg 16 (some 172) (Op.move (Operand.tmp 19)) 40 (some (15, true)) (v := ?_) rfl (by kernel_rfl) (by kernel_rfl) (fun _ _ _ h => h) ?_ hHeld ?_
    rotate_left
    · intro w hSw
      try dsimp only at hSw
      obtain ⟨_, _, _, _, _, _, _⟩ := hSw
      dsimp only [bare]
      go_simp <;> with_reducible rfl
    try simp only [bare, Act.put, lyA, lyZ, lyS]
    refine wpAnyF_tg 17 (some 173) (Op.move (Operand.tmp 20)) 29 (some (15, true)) (v := ?_) rfl (by kernel_rfl) (by kernel_rfl) (fun _ _ _ h => h) ?_ hHeld ?_
    rotate_left
    · intro w hSw
      try dsimp only at hSw
      obtain ⟨_, _, _, _, _, _, _⟩ := hSw
      dsimp only [bare]
      go_simp <;> with_reducible rfl
    try simp only [bare, Act.put, lyA, lyZ, lyS]
    refine wpAnyF_og 18 (some 174) (Op.call { callee := Callee.value (Operand.func 22), args := #[Operand.tmp 172, Operand.tmp 173], argTypes := #[40, 29] }) 4 (some (15, true)) rfl (by kernel_rfl) (by kernel_rfl) (fun K hK => ?_)
    dsimp only [bare]; go_simp
    (with_reducible refine (alikeL (by omega) piH.out (t21.ext bx23)).mono ?_)
    rintro e w24 ⟨rfl, b24⟩
    dsimp only
    have bx24 := bx23.trans (b24.mono bx23.size)
    have L24 := rv21.ext bx24
    have b024 := b21.trans (bx24.mono b21.size)
    refine hK _ _ ⟨(L24).blk.cell 1 _ rfl, (L24).blk.cell 2 _ rfl, (L24).blk.cell 3 _ rfl, (L24).blk.cell 4 _ rfl, (L24).blk.cell 5 _ rfl, (L24).blk.cell 6 _ rfl, (L24).blk.cell 7 _ rfl⟩ (fun hHeld => ?_)
    clear hK K
    try simp only [bare, Act.put, lyA, lyZ, lyS]
    refine wpAnyF_tk 19 (some 175) (Op.pick (Operand.tmp 171) (Operand.tmp 174) (Operand.const (Value.bool false))) 4 (v := ?_) rfl (by kernel_rfl) (fun _ _ _ h => h) ?_ hHeld ?_
    rotate_left
    · intro w hSw
      try dsimp only at hSw
      obtain ⟨_, _, _, _, _, _, _⟩ := hSw
      dsimp only [bare]
      go_simp <;> with_reducible rfl
    try simp only [bare, Act.put, lyA, lyZ, lyS]
    refine wpAnyF_tk 20 (some 176) (Op.move (Operand.tmp 175)) 4 (v := ?_) rfl (by kernel_rfl) (fun _ _ _ h => h) ?_ hHeld ?_
    rotate_left
    · intro w hSw
      try dsimp only at hSw
      obtain ⟨_, _, _, _, _, _, _⟩ := hSw
      dsimp only [bare]
      go_simp <;> with_reducible rfl
    try simp only [bare, Act.put, lyA, lyZ, lyS]
    refine wpAnyF_og 21 (some 177) (Op.call { callee := Callee.value (Operand.func 9), args := #[], argTypes := #[] }) 4 (some (20, true)) rfl (by kernel_rfl) (by kernel_rfl) (fun K hK => ?_)
    dsimp only [bare]; go_simp
    (with_reducible refine (walRuns_walk _ (Tn.out _ b024)).mono ?_)
    rintro e w25 ⟨rfl, b25⟩
    dsimp only
    have bx25 := bx24.trans (b25.mono bx24.size)
    have L25 := rv21.ext bx25
    refine hK _ _ ⟨(L25).blk.cell 1 _ rfl, (L25).blk.cell 2 _ rfl, (L25).blk.cell 3 _ rfl, (L25).blk.cell 4 _ rfl, (L25).blk.cell 5 _ rfl, (L25).blk.cell 6 _ rfl, (L25).blk.cell 7 _ rfl⟩ (fun hHeld => ?_)
    clear hK K
    try simp only [bare, Act.put, lyA, lyZ, lyS]
    refine wpAnyF_tk 22 (some 178) (Op.pick (Operand.tmp 176) (Operand.tmp 177) (Operand.const (Value.bool false))) 4 (v := ?_) rfl (by kernel_rfl) (fun _ _ _ h => h) ?_ hHeld ?_
    rotate_left
    · intro w hSw
      try dsimp only at hSw
      obtain ⟨_, _, _, _, _, _, _⟩ := hSw
      dsimp only [bare]
      go_simp <;> with_reducible rfl
    try simp only [bare, Act.put, lyA, lyZ, lyS]
    refine wpAnyF_end (some 12) (Op.assign (Operand.tmp 178)) 4 rfl (by kernel_rfl) (by kernel_rfl) (fun K hK => ?_)
    dsimp only [bare]; go_simp
    refine hK _ _ ?_
    clear hK K
    try simp only [bare, Act.put, lyA, lyZ, lyS]
    have b25 := b21.trans (bx25.mono b21.size)
    clear hHeld
    go_wp2_with fail
    go_ret
    exact ⟨rfl, b25⟩
end Go.Proofs.YtgpgcnmnfnnkjaaGreatDoor
end
