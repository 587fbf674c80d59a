/- Walk: the document's Back. -/
import Derived.Test.YtpobhlnlnplbdaaInvE
namespace Go.Proofs.Ytpobhlnlnplbdaa
open Go Go.RowKit BigFrame
theorem val_fit {z : Int} (h : Mon.fits z) : Mon.val z = z := by unfold Mon.val; rw [if_pos h]
theorem err_fit {z : Int} : Mon.err z = 0 ↔ Mon.fits z := by unfold Mon.err; split <;> simp [*]
theorem back_err {t : Tot} (h : ¬ (Mon.err (0 - t.net) = 0 ∧ Mon.err (0 - t.tax) = 0 ∧ Mon.err (0 - t.gross) = 0)) : backV t = .error 7 := by
  unfold backV; rw [if_neg]; intro hn
  simp only [Bool.and_eq_true, decide_eq_true_eq] at hn
  exact h ⟨err_fit.2 hn.1, err_fit.2 hn.2.1, err_fit.2 hn.2.2.1⟩

set_option maxHeartbeats 8000000 in
set_option maxRecDepth 100000 in
theorem refBack (t : Tot) (v : Value) (w : World) (hv : Rd partE w v t.parts) (hf : Mon.fits t.net ∧ Mon.fits t.tax ∧ Mon.fits t.gross) (hfp : ∀ p ∈ t.parts, Mon.fits p.net ∧ Mon.fits p.tax) (hl : t.parts.length ≤ 1000) :
    Calls Try.prog 45 #[.agg #[.int .i64 t.net, .int .i64 t.tax, .int .i64 t.gross, v]] w fun e w' => TellsTot w' w.heap.size (backV t) e ∧ Below w.heap.size w w' := by
  obtain ⟨w0, hw0⟩ : ∃ w0, w0 = w := ⟨_, rfl⟩
  rw [← hw0] at hv ⊢
  clear hw0
  have Hfp := Lib.hid hfp
  obtain ⟨hf0, hf1, hf2⟩ := hf
  clear hfp
  have hb1 := below_alloc w0 (.cells #[.int .i64 t.net, .int .i64 t.tax, .int .i64 t.gross, v] 56)
  have kt0 := Blk.new w0 #[.int .i64 t.net, .int .i64 t.tax, .int .i64 t.gross, v] 56
  have hb2 := below_alloc (w0.alloc (.cells #[.int .i64 t.net, .int .i64 t.tax, .int .i64 t.gross, v] 56)) (.cells #[.int .i64 0, .int .i64 0, .int .i64 0, .slice none 0 0] 56)
  have kr := Blk.new (w0.alloc (.cells #[.int .i64 t.net, .int .i64 t.tax, .int .i64 t.gross, v] 56)) #[.int .i64 0, .int .i64 0, .int .i64 0, .slice none 0 0] 56
  have kt := kt0.ext hb2
  have hbb := hb1.trans (hb2.mono hb1.size)
  have hs2 : (w0.alloc (.cells #[.int .i64 t.net, .int .i64 t.tax, .int .i64 t.gross, v] 56)).heap.size = w0.heap.size + 1 := by simp
  rw [hs2] at kr
  have hs3 : ((w0.alloc (.cells #[.int .i64 t.net, .int .i64 t.tax, .int .i64 t.gross, v] 56)).alloc (.cells #[.int .i64 0, .int .i64 0, .int .i64 0, .slice none 0 0] 56)).heap.size = w0.heap.size + 2 := by simp
  obtain ⟨p, cap, rfl⟩ := hv.shape
  have Hv0 := Lib.hid hv
  clear hb1 hb2 kt0 hs2 hv
  have x0 := kt.cell 0 _ rfl
  have x1 := kt.cell 1 _ rfl
  have x2 := kt.cell 2 _ rfl
  obtain ⟨n0, hn0⟩ : ∃ z, z = Mon.val (0 - t.net) := ⟨_, rfl⟩
  obtain ⟨n1, hn1⟩ : ∃ z, z = Mon.val (0 - t.tax) := ⟨_, rfl⟩
  obtain ⟨n2, hn2⟩ : ∃ z, z = Mon.val (0 - t.gross) := ⟨_, rfl⟩
  obtain ⟨e0, he0⟩ : ∃ z, z = Mon.err (0 - t.net) := ⟨_, rfl⟩
  obtain ⟨e1, he1⟩ : ∃ z, z = Mon.err (0 - t.tax) := ⟨_, rfl⟩
  obtain ⟨e2, he2⟩ : ∃ z, z = Mon.err (0 - t.gross) := ⟨_, rfl⟩
  have hc0 : ∀ w, Calls Try.prog 64 #[.int .i64 0, .int .i64 t.net] w fun e w' => e = .returned (.tuple #[.int .i64 n0, .int .i64 e0]) ∧ w = w' := fun w => by rw [hn0, he0]; exact refSub 0 t.net w fits0 hf0
  have hc1 : ∀ w, Calls Try.prog 64 #[.int .i64 0, .int .i64 t.tax] w fun e w' => e = .returned (.tuple #[.int .i64 n1, .int .i64 e1]) ∧ w = w' := fun w => by rw [hn1, he1]; exact refSub 0 t.tax w fits0 hf1
  have hc2 : ∀ w, Calls Try.prog 64 #[.int .i64 0, .int .i64 t.gross] w fun e w' => e = .returned (.tuple #[.int .i64 n2, .int .i64 e2]) ∧ w = w' := fun w => by rw [hn2, he2]; exact refSub 0 t.gross w fits0 hf2
  have Hc0 := Lib.hid hc0
  have Hc1 := Lib.hid hc1
  have Hc2 := Lib.hid hc2
  have Hn0 := Lib.hid hn0
  have Hn1 := Lib.hid hn1
  have Hn2 := Lib.hid hn2
  have He0 := Lib.hid he0
  have He1 := Lib.hid he1
  have He2 := Lib.hid he2
  clear hc0 hc1 hc2 hn0 hn1 hn2 he0 he1 he2 hf0 hf1 hf2
  go_enter Try.func45, Try.ntmps45
  go_wp2_with fail
  generalize hW : (w0.alloc (.cells #[.int .i64 t.net, .int .i64 t.tax, .int .i64 t.gross, .slice p t.parts.length cap] 56)).alloc (.cells #[.int .i64 0, .int .i64 0, .int .i64 0, .slice none 0 0] 56) = W at *
  clear hW
  have hc := Hc0.out
  with_reducible refine (hc _).mono ?_
  rintro e w' ⟨rfl, rfl⟩
  clear hc
  go_wp2_with fail
  have hc := Hc1.out
  with_reducible refine (hc _).mono ?_
  rintro e w' ⟨rfl, rfl⟩
  clear hc
  go_wp2_with fail
  have hc := Hc2.out
  with_reducible refine (hc _).mono ?_
  rintro e w' ⟨rfl, rfl⟩
  clear hc x0 x1 x2
  by_cases hall : e0 = 0 ∧ e1 = 0 ∧ e2 = 0
  rotate_left
  · have Hv : Hid (backV t = .error 7) := by show _ = _; rw [He0.out, He1.out, He2.out] at hall; exact back_err hall
    have hthree : (e0 ≠ 0) ∨ (e0 = 0 ∧ e1 ≠ 0) ∨ (e0 = 0 ∧ e1 = 0 ∧ e2 ≠ 0) := by
      by_cases h1 : e0 = 0
      · by_cases h2 : e1 = 0
        · exact .inr (.inr ⟨h1, h2, fun h3 => hall ⟨h1, h2, h3⟩⟩)
        · exact .inr (.inl ⟨h1, h2⟩)
      · exact .inl h1
    clear hall
    rcases hthree with h1 | ⟨rfl, h1⟩ | ⟨rfl, rfl, h1⟩
    all_goals
      have m1 := ne_beq h1
      have m2 := ne_bne h1
      clear h1
      have r0 := kr.cell 0 _ rfl
      have r1 := kr.cell 1 _ rfl
      have r2 := kr.cell 2 _ rfl
      have r3 := kr.cell 3 _ rfl
      have s0 := kr.frozen 0
      have s1 := kr.frozen 1
      have s2 := kr.frozen 2
      have s3 := kr.frozen 3
      have kf := (((kr.set 0 (.int .i64 0)).set 1 (.int .i64 0)).set 2 (.int .i64 0)).set 3 (.slice none 0 0)
      have y0 := kf.cell 0 _ rfl
      have y1 := kf.cell 1 _ rfl
      have y2 := kf.cell 2 _ rfl
      have y3 := kf.cell 3 _ rfl
      go_wp2_with fail
      refine bodyPost_ret (v := .tuple #[.agg #[.int .i64 0, .int .i64 0, .int .i64 0, .slice none 0 0], .int .i64 7]) (by simp [results, Try.results45, go_sem, y0, y1, y2, y3]) rfl ⟨by rw [Hv.out]; rfl, ?_⟩
      exact (((hbb.setCell (p := ⟨w0.heap.size + 1, 0, none⟩) (Nat.le_succ _) _).setCell (p := ⟨w0.heap.size + 1, 1, none⟩) (Nat.le_succ _) _).setCell (p := ⟨w0.heap.size + 1, 2, none⟩) (Nat.le_succ _) _).setCell (p := ⟨w0.heap.size + 1, 3, none⟩) (Nat.le_succ _) _
  · obtain ⟨rfl, rfl, rfl⟩ := hall
    have hn0 := err_fit.1 He0.out.symm
    have hn1 := err_fit.1 He1.out.symm
    have hn2 := err_fit.1 He2.out.symm
    have Hall : Hid (t.parts.all okP = true → backV t = .ok ⟨n0, n1, n2, t.parts.map negP⟩) := fun h => by rw [Hn0.out, Hn1.out, Hn2.out, val_fit hn0, val_fit hn1, val_fit hn2]; exact back_yes hn0 hn1 hn2 h
    have Hno : Hid (t.parts.all okP = false → backV t = .error 7) := fun h => back_part h
    clear hn0 hn1 hn2 Hc0 Hc1 Hc2
    have ko := Blk.new W #[.int .i64 n0, .int .i64 n1, .int .i64 n2, .slice none 0 0] 56
    have cb := below_alloc W (.cells #[.int .i64 n0, .int .i64 n1, .int .i64 n2, .slice none 0 0] 56)
    rw [hs3] at ko
    have kt1 := kt.ext cb
    have kr1 := kr.ext cb
    have b1 := hbb.trans (cb.mono hbb.size)
    have hso : (W.alloc (.cells #[.int .i64 n0, .int .i64 n1, .int .i64 n2, .slice none 0 0] 56)).heap.size = w0.heap.size + 3 := by simp [hs3]
    have Hs3 := Lib.hid hs3
    have Hso := Lib.hid hso
    obtain ⟨ps, hps⟩ : ∃ z, z = t.parts := ⟨_, rfl⟩
    rw [← hps] at kt1 Hv0 hl Hfp Hall Hno ⊢
    go_wp2_with fail
    generalize hw1 : W.alloc (.cells #[.int .i64 n0, .int .i64 n1, .int .i64 n2, .slice none 0 0] 56) = w1 at *
    clear hw1 cb hs3 hso kt kr hbb hps
    have hsz1 := Hso.out
    go_loopw [11] (fun i wr => ∃ (k : Nat) (vo : Value), k ≤ ps.length ∧ i = .int .i64 k ∧ OwnR partE wr w1.heap.size 64 vo ((ps.take k).map negP) ∧ Hid ((ps.take k).all okP = true) ∧ Blk wr (w0.heap.size + 2) #[.int .i64 n0, .int .i64 n1, .int .i64 n2, vo] 56 ∧ Blk wr (w0.heap.size + 1) #[.int .i64 0, .int .i64 0, .int .i64 0, .slice none 0 0] 56 ∧ Blk wr w0.heap.size #[.int .i64 t.net, .int .i64 t.tax, .int .i64 t.gross, .slice p ps.length cap] 56 ∧ Below w0.heap.size w0 wr ∧ w1.heap.size ≤ wr.heap.size) (fun i _ => ps.length - (intOf i).toNat)
    case atStart => exact ⟨0, .slice none 0 0, by omega, rfl, OwnR.nil _ _ _, by show _ = _; simp, ko, kr1, kt1, b1, Nat.le_refl _⟩
    case round =>
      obtain ⟨k, vo, hk, rfl, own, hok, kor, krr, ktr, hb, hsr⟩ := hrel
      clear ko kr1 kt1 b1
      have hvr := Hv0.out.ext hb
      have hki0 : (0 : Int) ≤ (k : Int) := by omega
      have z3 := ktr.cell 3 _ rfl
      by_cases hlt : k < ps.length
      · have hi : (k : Int) < (ps.length : Int) := by omega
        obtain ⟨bb, off, rfl⟩ := Rd.blk hvr (by omega)
        obtain ⟨c0, c1, c2, c3⟩ := part4 hvr hlt
        have hfq := Hfp.out _ (List.getElem_mem hlt)
        have hal := Lib.hid (fun h => all_upto hlt hok.out h)
        have hbad : Hid (okP ps[k] = false → backV t = .error 7) := fun h => Hno.out (List.all_eq_false.2 ⟨ps[k], List.getElem_mem hlt, by rw [h]; simp⟩)
        have hst : Hid ((ps.take (k + 1)).map negP = (ps.take k).map negP ++ [negP ps[k]]) := by show _ = _; rw [List.take_succ_eq_append_getElem hlt, List.map_append]; rfl
        have hlk : ((ps.take k).map negP).length ≤ 1000 := by simp; omega
        generalize ps[k] = q at *
        have cx := below_alloc wr (.cells #[.string q.cat, .int .i64 q.bp, .int .i64 q.net, .int .i64 q.tax] 64)
        have kx := Blk.new wr #[.string q.cat, .int .i64 q.bp, .int .i64 q.net, .int .i64 q.tax] 64
        have koa := kor.ext cx
        have kra := krr.ext cx
        have kta := ktr.ext cx
        have owna := own.ext cx
        have hba := hb.trans (cx.mono hb.size)
        have hsa : w1.heap.size ≤ (wr.alloc (.cells #[.string q.cat, .int .i64 q.bp, .int .i64 q.net, .int .i64 q.tax] 64)).heap.size := Nat.le_trans hsr cx.size
        have g0 := kx.cell 0 _ rfl
        have g1 := kx.cell 1 _ rfl
        have g2 := kx.cell 2 _ rfl
        have g3 := kx.cell 3 _ rfl
        obtain ⟨a0, ha0⟩ : ∃ z, z = Mon.val (0 - q.net) := ⟨_, rfl⟩
        obtain ⟨a1, ha1⟩ : ∃ z, z = Mon.val (0 - q.tax) := ⟨_, rfl⟩
        obtain ⟨f0, hf0⟩ : ∃ z, z = Mon.err (0 - q.net) := ⟨_, rfl⟩
        obtain ⟨f1, hf1⟩ : ∃ z, z = Mon.err (0 - q.tax) := ⟨_, rfl⟩
        have hc0 : ∀ w, Calls Try.prog 64 #[.int .i64 0, .int .i64 q.net] w fun e w' => e = .returned (.tuple #[.int .i64 a0, .int .i64 f0]) ∧ w = w' := fun w => by rw [ha0, hf0]; exact refSub 0 q.net w fits0 hfq.1
        have hc1 : ∀ w, Calls Try.prog 64 #[.int .i64 0, .int .i64 q.tax] w fun e w' => e = .returned (.tuple #[.int .i64 a1, .int .i64 f1]) ∧ w = w' := fun w => by rw [ha1, hf1]; exact refSub 0 q.tax w fits0 hfq.2
        have Hc0 := Lib.hid hc0
        have Hc1 := Lib.hid hc1
        have Ha0 := Lib.hid ha0
        have Ha1 := Lib.hid ha1
        have Hf0 := Lib.hid hf0
        have Hf1 := Lib.hid hf1
        clear hc0 hc1 ha0 ha1 hf0 hf1 hfq own kor krr ktr hb hvr
        go_wp2_with fail
        generalize hwa : wr.alloc (.cells #[.string q.cat, .int .i64 q.bp, .int .i64 q.net, .int .i64 q.tax] 64) = wa at *
        clear hwa cx
        have hc := Hc0.out
        with_reducible refine (hc _).mono ?_
        rintro e w' ⟨rfl, rfl⟩
        clear hc
        go_wp2_with fail
        have hc := Hc1.out
        with_reducible refine (hc _).mono ?_
        rintro e w' ⟨rfl, rfl⟩
        clear hc
        by_cases hall : f0 = 0 ∧ f1 = 0
        rotate_left
        · have hokq : okP q = false := by
            cases hq : okP q with
            | false => rfl
            | true =>
              unfold okP at hq; simp only [Bool.and_eq_true, decide_eq_true_eq] at hq
              exact absurd ⟨by rw [Hf0.out]; exact err_fit.2 hq.1, by rw [Hf1.out]; exact err_fit.2 hq.2⟩ hall
          have Hv := Lib.hid (hbad.out hokq)
          have htwo : (f0 ≠ 0) ∨ (f0 = 0 ∧ f1 ≠ 0) := by
            by_cases h1 : f0 = 0
            · exact .inr ⟨h1, fun h2 => hall ⟨h1, h2⟩⟩
            · exact .inl h1
          clear hall hokq
          rcases htwo with h1 | ⟨rfl, h1⟩
          all_goals
            have m1 := ne_beq h1
            have m2 := ne_bne h1
            clear h1
            have r0 := kra.cell 0 _ rfl
            have r1 := kra.cell 1 _ rfl
            have r2 := kra.cell 2 _ rfl
            have r3 := kra.cell 3 _ rfl
            have s0 := kra.frozen 0
            have s1 := kra.frozen 1
            have s2 := kra.frozen 2
            have s3 := kra.frozen 3
            have kf := (((kra.set 0 (.int .i64 0)).set 1 (.int .i64 0)).set 2 (.int .i64 0)).set 3 (.slice none 0 0)
            have y0 := kf.cell 0 _ rfl
            have y1 := kf.cell 1 _ rfl
            have y2 := kf.cell 2 _ rfl
            have y3 := kf.cell 3 _ rfl
            go_wp2_with fail
            refine bodyPost_ret (v := .tuple #[.agg #[.int .i64 0, .int .i64 0, .int .i64 0, .slice none 0 0], .int .i64 7]) (by simp [results, Try.results45, go_sem, y0, y1, y2, y3]) rfl ⟨by rw [Hv.out]; rfl, ?_⟩
            exact (((hba.setCell (p := ⟨w0.heap.size + 1, 0, none⟩) (Nat.le_succ _) _).setCell (p := ⟨w0.heap.size + 1, 1, none⟩) (Nat.le_succ _) _).setCell (p := ⟨w0.heap.size + 1, 2, none⟩) (Nat.le_succ _) _).setCell (p := ⟨w0.heap.size + 1, 3, none⟩) (Nat.le_succ _) _
        · obtain ⟨rfl, rfl⟩ := hall
          have q0 := err_fit.1 Hf0.out.symm
          have q1 := err_fit.1 Hf1.out.symm
          have hokq : okP q = true := by unfold okP; rw [decide_eq_true q0, decide_eq_true q1]; rfl
          have hneg : negP q = ⟨q.cat, q.bp, a0, a1⟩ := by unfold negP; rw [Ha0.out, Ha1.out, val_fit q0, val_fit q1]
          rw [hneg] at hst
          have Hal := Lib.hid (hal.out hokq)
          have cl := below_alloc wa (.cells #[.string q.cat, .int .i64 q.bp, .int .i64 a0, .int .i64 a1] 64)
          have kol := koa.ext cl
          have krl := kra.ext cl
          have ktl := kta.ext cl
          have ownl := owna.ext cl
          have hbl := hba.trans (cl.mono hba.size)
          have srcl : Rd partE (wa.alloc (.cells #[.string q.cat, .int .i64 q.bp, .int .i64 a0, .int .i64 a1] 64)) (.slice (some ⟨wa.heap.size, 0, none⟩) 1 1) [⟨q.cat, q.bp, a0, a1⟩] := OwnR.rd (OwnR.litAt partE wa _ _ [⟨q.cat, q.bp, a0, a1⟩] 1 0 wa.heap.size rfl rfl rfl (by unfold maxLen; omega) (Nat.zero_le _))
          have hbytes : (((ps.take k).map negP).length + [(⟨q.cat, q.bp, a0, a1⟩ : Part)].length) * 40 ≤ 140737488355328 := by simp; omega
          have Hby := Lib.hid hbytes
          have hszl : w1.heap.size ≤ (wa.alloc (.cells #[.string q.cat, .int .i64 q.bp, .int .i64 a0, .int .i64 a1] 64)).heap.size := Nat.le_trans hsa cl.size
          have ya3 := koa.cell 3 _ rfl
          have y3 := kol.cell 3 _ rfl
          have fy3 := kol.frozen 3
          have hol := ownl.lt
          have Hol := Lib.hid hol
          have Hneg := Lib.hid hneg
          obtain ⟨pv, cv, rfl⟩ := owna.rd.shape
          obtain ⟨m, hm⟩ : ∃ m, m = (ps.take k).map negP := ⟨_, rfl⟩
          rw [← hm] at ownl Hby hlk hst kol y3 ya3 Hol
          clear hbytes hneg q0 q1 hokq hol koa kra kta owna hba hm
          go_wp2_with (first
            | (at_builtin; refine wpList_appR (E := partE) (l := m) (m := [⟨q.cat, q.bp, a0, a1⟩]) tPart rfl rfl ownl rfl srcl rfl Hby.out hszl ?_; intro v6 w6 own6 g6 b6; have kt6 := ktl.below b6 (by omega); have kr6 := krl.below b6 (by omega); have ko6 := kol.below b6 (by omega); have f6 := ko6.frozen 3; have y6 := ko6.cell 3 _ rfl; obtain ⟨p6, c6, rfl⟩ := own6.rd.shapeN (n := m.length + 1) (by simp))
            | fail)
          have hl6 := own6.lt
          have gr8 := ko6.setGrown 3 (.slice p6 (m.length + 1) c6)
          have ko8 : Blk (w6.setCell ⟨w0.heap.size + 2, 3, none⟩ (.slice p6 (m.length + 1) c6)) (w0.heap.size + 2) #[.int .i64 n0, .int .i64 n1, .int .i64 n2, .slice p6 (m.length + 1) c6] 56 := ko6.set 3 (.slice p6 (m.length + 1) c6)
          have own8 := own6.grown gr8 (by cases hvb : (Value.slice p6 (m.length + 1) c6).ownBlock with | none => exact .inl rfl | some z => exact .inr (fun e => by cases e; have := (hl6 _ hvb).1; omega))
          have kt8 := kt6.grown gr8 (by simp)
          have kr8 := kr6.grown gr8 (by simp)
          have hb6 := hbl.trans (b6.mono (by omega))
          have hb8 := hb6.trans (below_grown gr8 (by have := hb6.size; omega) (fun j h => by cases h; omega))
          have hsz8 : w1.heap.size ≤ (w6.setCell ⟨w0.heap.size + 2, 3, none⟩ (.slice p6 (m.length + 1) c6)).heap.size := Nat.le_trans (Nat.le_trans hszl b6.size) gr8.size
          have Own8 : Hid (OwnR partE (w6.setCell ⟨w0.heap.size + 2, 3, none⟩ (.slice p6 (m.length + 1) c6)) w1.heap.size 64 (.slice p6 (m.length + 1) c6) ((ps.take (k + 1)).map negP)) := by show _; rw [hst.out]; exact own8
          clear own6 own8 gr8 hl6 kol krl ktl ownl hbl srcl b6 g6 y3 fy3 y6 kt6 kr6 ko6 hb6
          go_wp2_with fail
          go_roundw
          case rel => exact ⟨k + 1, .slice p6 (m.length + 1) c6, by omega, by go_num, Own8.out, Hal, ko8, kr8, kt8, hb8, hsz8⟩
          case measure => simp [intOf]; omega
      · have hi : ¬ (k : Int) < (ps.length : Int) := by omega
        have hok2 := hok.out
        rw [List.take_of_length_le (by omega)] at own hok2
        have hv0 := Hall.out hok2
        have Hv := Lib.hid hv0
        have hol := own.lt
        have r0 := krr.cell 0 _ rfl
        have r1 := krr.cell 1 _ rfl
        have r2 := krr.cell 2 _ rfl
        have r3 := krr.cell 3 _ rfl
        have s0 := krr.frozen 0
        have s1 := krr.frozen 1
        have s2 := krr.frozen 2
        have s3 := krr.frozen 3
        have u0 := kor.cell 0 _ rfl
        have u1 := kor.cell 1 _ rfl
        have u2 := kor.cell 2 _ rfl
        have u3 := kor.cell 3 _ rfl
        have kf := (((krr.set 0 (.int .i64 n0)).set 1 (.int .i64 n1)).set 2 (.int .i64 n2)).set 3 vo
        have gf := grown_tr (grown_tr (grown_tr (krr.setGrown 0 (.int .i64 n0)) ((krr.set 0 (.int .i64 n0)).setGrown 1 (.int .i64 n1))) (((krr.set 0 (.int .i64 n0)).set 1 (.int .i64 n1)).setGrown 2 (.int .i64 n2))) ((((krr.set 0 (.int .i64 n0)).set 1 (.int .i64 n1)).set 2 (.int .i64 n2)).setGrown 3 vo)
        have ownf := own.grown gf (by cases hvb : vo.ownBlock with | none => exact .inl rfl | some z => exact .inr (fun e => by cases e; have := (hol _ hvb).1; omega))
        have y0 := kf.cell 0 _ rfl
        have y1 := kf.cell 1 _ rfl
        have y2 := kf.cell 2 _ rfl
        have y3 := kf.cell 3 _ rfl
        have Ownf := Lib.hid (ownf.base (B' := w0.heap.size) (by omega))
        have hbf := hb.trans (below_grown gf hb.size (fun j h => by cases h; exact Nat.le_succ _))
        obtain ⟨p6, c6, rfl⟩ := own.rd.shapeN (n := ps.length) (by simp)
        clear hok2 hv0 own ownf gf kf hb hol
        go_wp2_with fail
        refine bodyPost_ret (v := .tuple #[.agg #[.int .i64 n0, .int .i64 n1, .int .i64 n2, .slice p6 ps.length c6], .int .i64 0]) (by simp [results, Try.results45, go_sem, y0, y1, y2, y3]) rfl ⟨?_, hbf⟩
        rw [Hv.out]
        exact ⟨_, rfl, Ownf.out⟩
end Go.Proofs.Ytpobhlnlnplbdaa
