/- The walk of impostref8.Total. -/
import Derived.Test.YtpobhlnlnplbdaaInvC
import Derived.Test.YtpobhlnlnplbdaaInvRuns
import Derived.Test.YtpobhlnlnplbdaaVatB
import Derived.Test.YtpobhlnlnplbdaaRegG
import Derived.Deep.CutBlock
import Derived.Deep.RegionHeld
namespace Go.Proofs.Ytpobhlnlnplbdaa
open Go Go.RowKit BigFrame
attribute [local go_sem] After.same
theorem putP_at2 {ps L : List Part} {c : ByteArray} {bp n : Int} {j : Nat} (hc : cntP ps c = j) (hw : withP ps c bp = L) (hj : j < L.length) : putP ps c bp n = if Mon.fits (L[j].net + n) then .ok (L.set j ⟨L[j].cat, L[j].bp, L[j].net + n, L[j].tax⟩) else .error 7 := by
  unfold putP; subst hw; subst hc; rw [List.getElem?_eq_getElem hj]

set_option maxHeartbeats 8000000 in
set_option maxRecDepth 100000 in
theorem refTotal (vt vl : Value) (T : List Rate) (d : Day) (ls : List Ln) (w : World) (ht : Rd rateE w vt T) (hv : Rd lnE w vl ls) (hf : ∀ x ∈ ls, Mon.fits x.count ∧ Mon.fits x.price) :
    Calls Try.prog 40 #[vt, .agg #[.int .i64 d.y, .int .i64 d.m, .int .i64 d.d], vl] w fun e w' => TellsTot w' w.heap.size (totalV T d ls) e ∧ Below w.heap.size w w' := by
  obtain ⟨w0, hw0⟩ : ∃ w0, w0 = w := ⟨_, rfl⟩
  rw [← hw0] at ht hv ⊢
  clear hw0
  obtain ⟨p, cap, rfl, h1, h2, h3, h4⟩ := hv.form
  clear h3 h4
  unfold maxLen at h2
  have Hf := Lib.hid hf
  clear hf
  have hb1 := below_alloc w0 (.cells #[.int .i64 d.y, .int .i64 d.m, .int .i64 d.d] 23)
  have kd0 := Blk.new w0 #[.int .i64 d.y, .int .i64 d.m, .int .i64 d.d] 23
  have hb2 := below_alloc (w0.alloc (.cells #[.int .i64 d.y, .int .i64 d.m, .int .i64 d.d] 23)) (.cells #[.int .i64 0, .int .i64 0, .int .i64 0, .slice none 0 0] 56)
  have kr := Blk.new (w0.alloc (.cells #[.int .i64 d.y, .int .i64 d.m, .int .i64 d.d] 23)) #[.int .i64 0, .int .i64 0, .int .i64 0, .slice none 0 0] 56
  have kd := kd0.ext hb2
  have hbb := hb1.trans (hb2.mono hb1.size)
  have hs2 : (w0.alloc (.cells #[.int .i64 d.y, .int .i64 d.m, .int .i64 d.d] 23)).heap.size = w0.heap.size + 1 := by simp
  rw [hs2] at kr
  have htW := ht.ext hbb
  have hvW := hv.ext hbb
  clear hb1 hb2 kd0 hs2 ht hv
  go_enter Try.func40, Try.ntmps40
  go_wp2_with fail
  generalize hW : (w0.alloc (.cells #[.int .i64 d.y, .int .i64 d.m, .int .i64 d.d] 23)).alloc (.cells #[.int .i64 0, .int .i64 0, .int .i64 0, .slice none 0 0] 56) = W at *
  clear hW
  with_reducible refine (refTable _ T _ htW).mono ?_
  rintro e w1 ⟨rfl, c1⟩
  have b1 := hbb.trans (c1.mono hbb.size)
  have kd1 := kd.ext c1
  have kr1 := kr.ext c1
  have ht1 := htW.ext c1
  have hv1 := hvW.ext c1
  clear hbb kd kr htW hvW c1
  cases hr : rightT T with
  | false =>
    have Hv := Lib.hid (total_arg (d := d) (ls := ls) hr)
    clear hr
    have r0 := kr1.cell 0 _ rfl
    have r1 := kr1.cell 1 _ rfl
    have r2 := kr1.cell 2 _ rfl
    have r3 := kr1.cell 3 _ rfl
    have s0 := kr1.frozen 0
    have s1 := kr1.frozen 1
    have s2 := kr1.frozen 2
    have s3 := kr1.frozen 3
    have kf := (((kr1.set 0 (.int .i64 0)).set 1 (.int .i64 0)).set 2 (.int .i64 0)).set 3 (.slice none 0 0)
    have y0 := kf.cell 0 _ rfl
    have y1 := kf.cell 1 _ rfl
    have y2 := kf.cell 2 _ rfl
    have y3 := kf.cell 3 _ rfl
    go_wp2_with fail
    refine bodyPost_ret (v := .tuple #[.agg #[.int .i64 0, .int .i64 0, .int .i64 0, .slice none 0 0], .int .i64 1]) (by simp [results, Try.results40, go_sem, y0, y1, y2, y3]) rfl ⟨by rw [Hv.out]; rfl, ?_⟩
    exact (((b1.setCell (p := ⟨w0.heap.size + 1, 0, none⟩) (Nat.le_succ _) _).setCell (p := ⟨w0.heap.size + 1, 1, none⟩) (Nat.le_succ _) _).setCell (p := ⟨w0.heap.size + 1, 2, none⟩) (Nat.le_succ _) _).setCell (p := ⟨w0.heap.size + 1, 3, none⟩) (Nat.le_succ _) _
  | true =>
    have Hr := Lib.hid hr
    clear hr
    have d0 := kd1.cell 0 _ rfl
    have d1 := kd1.cell 1 _ rfl
    have d2 := kd1.cell 2 _ rfl
    go_wp2_with fail
    with_reducible refine (refRightD d _).mono ?_
    rintro e w2 ⟨rfl, c2⟩
    have b2 := b1.trans (c2.mono b1.size)
    have kd2 := kd1.ext c2
    have kr2 := kr1.ext c2
    have ht2 := ht1.ext c2
    have hv2 := hv1.ext c2
    clear b1 kd1 kr1 ht1 hv1 c2 d0 d1 d2
    cases hd : rightD d with
    | false =>
      have Hv := Lib.hid (total_day (ls := ls) Hr.out hd)
      clear hd
      have r0 := kr2.cell 0 _ rfl
      have r1 := kr2.cell 1 _ rfl
      have r2 := kr2.cell 2 _ rfl
      have r3 := kr2.cell 3 _ rfl
      have s0 := kr2.frozen 0
      have s1 := kr2.frozen 1
      have s2 := kr2.frozen 2
      have s3 := kr2.frozen 3
      have kf := (((kr2.set 0 (.int .i64 0)).set 1 (.int .i64 0)).set 2 (.int .i64 0)).set 3 (.slice none 0 0)
      have y0 := kf.cell 0 _ rfl
      have y1 := kf.cell 1 _ rfl
      have y2 := kf.cell 2 _ rfl
      have y3 := kf.cell 3 _ rfl
      go_wp2_with fail
      refine bodyPost_ret (v := .tuple #[.agg #[.int .i64 0, .int .i64 0, .int .i64 0, .slice none 0 0], .int .i64 9]) (by simp [results, Try.results40, go_sem, y0, y1, y2, y3]) rfl ⟨by rw [Hv.out]; rfl, ?_⟩
      exact (((b2.setCell (p := ⟨w0.heap.size + 1, 0, none⟩) (Nat.le_succ _) _).setCell (p := ⟨w0.heap.size + 1, 1, none⟩) (Nat.le_succ _) _).setCell (p := ⟨w0.heap.size + 1, 2, none⟩) (Nat.le_succ _) _).setCell (p := ⟨w0.heap.size + 1, 3, none⟩) (Nat.le_succ _) _
    | true =>
      have Hd := Lib.hid hd
      clear hd
      by_cases h0 : ls.length = 0
      · have Hv := Lib.hid (total_none Hr.out Hd.out h0)
        have hz1 : (ls.length == 0) = true := by simpa using h0
        have hz2 : ((ls.length : Int) == 0) = true := by rw [h0]; rfl
        clear h0
        have r0 := kr2.cell 0 _ rfl
        have r1 := kr2.cell 1 _ rfl
        have r2 := kr2.cell 2 _ rfl
        have r3 := kr2.cell 3 _ rfl
        have s0 := kr2.frozen 0
        have s1 := kr2.frozen 1
        have s2 := kr2.frozen 2
        have s3 := kr2.frozen 3
        have kf := (((kr2.set 0 (.int .i64 0)).set 1 (.int .i64 0)).set 2 (.int .i64 0)).set 3 (.slice none 0 0)
        have y0 := kf.cell 0 _ rfl
        have y1 := kf.cell 1 _ rfl
        have y2 := kf.cell 2 _ rfl
        have y3 := kf.cell 3 _ rfl
        go_wp2_with fail
        refine bodyPost_ret (v := .tuple #[.agg #[.int .i64 0, .int .i64 0, .int .i64 0, .slice none 0 0], .int .i64 1]) (by simp [results, Try.results40, go_sem, y0, y1, y2, y3]) rfl ⟨by rw [Hv.out]; rfl, ?_⟩
        exact (((b2.setCell (p := ⟨w0.heap.size + 1, 0, none⟩) (Nat.le_succ _) _).setCell (p := ⟨w0.heap.size + 1, 1, none⟩) (Nat.le_succ _) _).setCell (p := ⟨w0.heap.size + 1, 2, none⟩) (Nat.le_succ _) _).setCell (p := ⟨w0.heap.size + 1, 3, none⟩) (Nat.le_succ _) _
      · have hz1 : (ls.length == 0) = false := by simpa using h0
        have hz2 : ((ls.length : Int) == 0) = false := int_ne (by omega)
        by_cases h12 : 12 < ls.length
        · have Hv := Lib.hid (total_long Hr.out Hd.out h0 h12)
          have hi12 : (12 : Int) < (ls.length : Int) := by omega
          clear h0
          have r0 := kr2.cell 0 _ rfl
          have r1 := kr2.cell 1 _ rfl
          have r2 := kr2.cell 2 _ rfl
          have r3 := kr2.cell 3 _ rfl
          have s0 := kr2.frozen 0
          have s1 := kr2.frozen 1
          have s2 := kr2.frozen 2
          have s3 := kr2.frozen 3
          have kf := (((kr2.set 0 (.int .i64 0)).set 1 (.int .i64 0)).set 2 (.int .i64 0)).set 3 (.slice none 0 0)
          have y0 := kf.cell 0 _ rfl
          have y1 := kf.cell 1 _ rfl
          have y2 := kf.cell 2 _ rfl
          have y3 := kf.cell 3 _ rfl
          go_wp2_with fail
          refine bodyPost_ret (v := .tuple #[.agg #[.int .i64 0, .int .i64 0, .int .i64 0, .slice none 0 0], .int .i64 2]) (by simp [results, Try.results40, go_sem, y0, y1, y2, y3]) rfl ⟨by rw [Hv.out]; rfl, ?_⟩
          exact (((b2.setCell (p := ⟨w0.heap.size + 1, 0, none⟩) (Nat.le_succ _) _).setCell (p := ⟨w0.heap.size + 1, 1, none⟩) (Nat.le_succ _) _).setCell (p := ⟨w0.heap.size + 1, 2, none⟩) (Nat.le_succ _) _).setCell (p := ⟨w0.heap.size + 1, 3, none⟩) (Nat.le_succ _) _
        · have Hv := Lib.hid (total_is (T := T) Hr.out Hd.out h0 h12)
          have hi12 : ¬ (12 : Int) < (ls.length : Int) := by omega
          clear h0
          have hsz := b2.size
          have hB := Nat.le_refl w2.heap.size
          have hN1 : w0.heap.size + 1 < w2.heap.size := kr2.lt
          go_wp2_with fail
          have ct := below_alloc w2 (.cells #[.int .i64 0, .int .i64 0, .int .i64 0, .slice none 0 0] 56)
          have kt := Blk.new w2 #[.int .i64 0, .int .i64 0, .int .i64 0, .slice none 0 0] 56
          go_loopw [9] (fun i wr => ∃ (k : Nat) (ps : List Part) (vP : Value), k ≤ ls.length ∧ i = .int .i64 k ∧ OwnR partE wr (w2.heap.size + 1) 64 vP ps ∧ Hid (GoodP ps) ∧ ps.length ≤ k ∧ Hid (partsV T d [] ls = partsV T d ps (ls.drop k)) ∧ Blk wr w2.heap.size #[.int .i64 0, .int .i64 0, .int .i64 0, vP] 56 ∧ Below w2.heap.size w2 wr) (fun i _ => ls.length - (intOf i).toNat)
          case atStart => exact ⟨0, [], _, by omega, rfl, OwnR.nil _ _ _, GoodP.nil, by simp, rfl, kt, ct⟩
          case round =>
            clear kt ct
            obtain ⟨k, ps, vP, hk, rfl, own, hgp, hpl, hpv, kt, hb⟩ := hrel
            have hki0 : (0 : Int) ≤ (k : Int) := by omega
            by_cases hlt : k < ls.length
            · have hi : (k : Int) < (ls.length : Int) := by omega
              obtain ⟨bb, off, rfl⟩ := Rd.blk hv2 (by omega)
              obtain ⟨x0, x1, x2, x3⟩ := ln4 (hv2.ext hb) hlt
              have hfx := Hf.out _ (List.getElem_mem hlt)
              have hbad := Lib.hid (fun n h => hpv.out.trans (lines_bad (ps := ps) (n := n) hlt h))
              have hovr := Lib.hid (fun b n h h2 => hpv.out.trans (lines_over (ps := ps) (b := b) (n := n) hlt h h2))
              have hnxt := Lib.hid (fun b qs h h2 => hpv.out.trans (lines_next (ps := ps) (b := b) (qs := qs) hlt h h2))
              have hszr := hb.size
              have kdr := kd2.ext hb
              have krr := kr2.ext hb
              have htr := ht2.ext hb
              clear hpv
              generalize ls[k] = x at *
              have ca := below_alloc wr (.cells #[.string x.text, .string x.cat, .int .i64 x.count, .int .i64 x.price] 60)
              have kx := Blk.new wr #[.string x.text, .string x.cat, .int .i64 x.count, .int .i64 x.price] 60
              have hba := hb.trans (ca.mono hszr)
              have kda := kdr.ext ca
              have kra := krr.ext ca
              have kta := kt.ext ca
              have hta := htr.ext ca
              have owna := own.ext ca
              have g0 := kx.cell 0 _ rfl
              have g1 := kx.cell 1 _ rfl
              obtain ⟨hfx1, hfx2⟩ := hfx
              obtain ⟨pt, cpt, rfl⟩ := own.rd.shape
              clear kdr krr htr own hb kt
              by_cases h64 : 64 < x.text.size
              · have hi64 : (64 : Int) < (x.text.size : Int) := by omega
                have hq := hbad.out 2 (line_text h64)
                have hvv := Hv.out
                rw [hq] at hvv
                have Hvv := Lib.hid hvv
                have hbf := b2.trans (hba.mono b2.size)
                clear hq hvv
                have r0 := kra.cell 0 _ rfl
                have r1 := kra.cell 1 _ rfl
                have r2 := kra.cell 2 _ rfl
                have r3 := kra.cell 3 _ rfl
                have s0 := kra.frozen 0
                have s1 := kra.frozen 1
                have s2 := kra.frozen 2
                have s3 := kra.frozen 3
                have kf := (((kra.set 0 (.int .i64 0)).set 1 (.int .i64 0)).set 2 (.int .i64 0)).set 3 (.slice none 0 0)
                have y0 := kf.cell 0 _ rfl
                have y1 := kf.cell 1 _ rfl
                have y2 := kf.cell 2 _ rfl
                have y3 := kf.cell 3 _ rfl
                go_wp2_with fail
                refine bodyPost_ret (v := .tuple #[.agg #[.int .i64 0, .int .i64 0, .int .i64 0, .slice none 0 0], .int .i64 2]) (by simp [results, Try.results40, go_sem, y0, y1, y2, y3]) rfl ⟨by rw [Hvv.out]; rfl, ?_⟩
                exact (((hbf.setCell (p := ⟨w0.heap.size + 1, 0, none⟩) (Nat.le_succ _) _).setCell (p := ⟨w0.heap.size + 1, 1, none⟩) (Nat.le_succ _) _).setCell (p := ⟨w0.heap.size + 1, 2, none⟩) (Nat.le_succ _) _).setCell (p := ⟨w0.heap.size + 1, 3, none⟩) (Nat.le_succ _) _
              · have hi64 : ¬ (64 : Int) < (x.text.size : Int) := by omega
                go_wp2_with fail
                generalize hwa : wr.alloc (.cells #[.string x.text, .string x.cat, .int .i64 x.count, .int .i64 x.price] 60) = wa at *
                clear hwa ca g0 g1 x0 x1 x2 x3
                with_reducible refine (refName x.cat _).mono ?_
                rintro e w3 ⟨rfl, c3⟩
                have own3 := owna.ext c3
                have hb3 := hba.trans (c3.mono hba.size)
                have kr3 := kra.ext c3
                have kx3 := kx.ext c3
                have kd3 := kda.ext c3
                have kt3 := kta.ext c3
                have ht3 := hta.ext c3
                clear owna hba kra kx kda kta hta c3
                cases hnm : nameB x.cat with
                | false =>
                  have Hnm := Lib.hid hnm
                  clear hnm
                  have hq := hbad.out 8 (line_name h64 Hnm.out)
                  have hvv := Hv.out
                  rw [hq] at hvv
                  have Hvv := Lib.hid hvv
                  have hbf := b2.trans (hb3.mono b2.size)
                  clear hq hvv
                  have r0 := kr3.cell 0 _ rfl
                  have r1 := kr3.cell 1 _ rfl
                  have r2 := kr3.cell 2 _ rfl
                  have r3 := kr3.cell 3 _ rfl
                  have s0 := kr3.frozen 0
                  have s1 := kr3.frozen 1
                  have s2 := kr3.frozen 2
                  have s3 := kr3.frozen 3
                  have kf := (((kr3.set 0 (.int .i64 0)).set 1 (.int .i64 0)).set 2 (.int .i64 0)).set 3 (.slice none 0 0)
                  have y0 := kf.cell 0 _ rfl
                  have y1 := kf.cell 1 _ rfl
                  have y2 := kf.cell 2 _ rfl
                  have y3 := kf.cell 3 _ rfl
                  go_wp2_with fail
                  refine bodyPost_ret (v := .tuple #[.agg #[.int .i64 0, .int .i64 0, .int .i64 0, .slice none 0 0], .int .i64 8]) (by simp [results, Try.results40, go_sem, y0, y1, y2, y3]) rfl ⟨by rw [Hvv.out]; rfl, ?_⟩
                  exact (((hbf.setCell (p := ⟨w0.heap.size + 1, 0, none⟩) (Nat.le_succ _) _).setCell (p := ⟨w0.heap.size + 1, 1, none⟩) (Nat.le_succ _) _).setCell (p := ⟨w0.heap.size + 1, 2, none⟩) (Nat.le_succ _) _).setCell (p := ⟨w0.heap.size + 1, 3, none⟩) (Nat.le_succ _) _
                | true =>
                  have Hnm := Lib.hid hnm
                  clear hnm
                  have g2 := kx3.cell 2 _ rfl
                  by_cases hc1 : x.count < 1
                  · skip
                    have hq := hbad.out 1 (line_count h64 Hnm.out (.inl hc1))
                    have hvv := Hv.out
                    rw [hq] at hvv
                    have Hvv := Lib.hid hvv
                    have hbf := b2.trans (hb3.mono b2.size)
                    clear hq hvv
                    have r0 := kr3.cell 0 _ rfl
                    have r1 := kr3.cell 1 _ rfl
                    have r2 := kr3.cell 2 _ rfl
                    have r3 := kr3.cell 3 _ rfl
                    have s0 := kr3.frozen 0
                    have s1 := kr3.frozen 1
                    have s2 := kr3.frozen 2
                    have s3 := kr3.frozen 3
                    have kf := (((kr3.set 0 (.int .i64 0)).set 1 (.int .i64 0)).set 2 (.int .i64 0)).set 3 (.slice none 0 0)
                    have y0 := kf.cell 0 _ rfl
                    have y1 := kf.cell 1 _ rfl
                    have y2 := kf.cell 2 _ rfl
                    have y3 := kf.cell 3 _ rfl
                    go_wp2_with fail
                    refine bodyPost_ret (v := .tuple #[.agg #[.int .i64 0, .int .i64 0, .int .i64 0, .slice none 0 0], .int .i64 1]) (by simp [results, Try.results40, go_sem, y0, y1, y2, y3]) rfl ⟨by rw [Hvv.out]; rfl, ?_⟩
                    exact (((hbf.setCell (p := ⟨w0.heap.size + 1, 0, none⟩) (Nat.le_succ _) _).setCell (p := ⟨w0.heap.size + 1, 1, none⟩) (Nat.le_succ _) _).setCell (p := ⟨w0.heap.size + 1, 2, none⟩) (Nat.le_succ _) _).setCell (p := ⟨w0.heap.size + 1, 3, none⟩) (Nat.le_succ _) _
                  · by_cases hc2 : 1048576 < x.count
                    · skip
                      have hq := hbad.out 1 (line_count h64 Hnm.out (.inr hc2))
                      have hvv := Hv.out
                      rw [hq] at hvv
                      have Hvv := Lib.hid hvv
                      have hbf := b2.trans (hb3.mono b2.size)
                      clear hq hvv
                      have r0 := kr3.cell 0 _ rfl
                      have r1 := kr3.cell 1 _ rfl
                      have r2 := kr3.cell 2 _ rfl
                      have r3 := kr3.cell 3 _ rfl
                      have s0 := kr3.frozen 0
                      have s1 := kr3.frozen 1
                      have s2 := kr3.frozen 2
                      have s3 := kr3.frozen 3
                      have kf := (((kr3.set 0 (.int .i64 0)).set 1 (.int .i64 0)).set 2 (.int .i64 0)).set 3 (.slice none 0 0)
                      have y0 := kf.cell 0 _ rfl
                      have y1 := kf.cell 1 _ rfl
                      have y2 := kf.cell 2 _ rfl
                      have y3 := kf.cell 3 _ rfl
                      go_wp2_with fail
                      refine bodyPost_ret (v := .tuple #[.agg #[.int .i64 0, .int .i64 0, .int .i64 0, .slice none 0 0], .int .i64 1]) (by simp [results, Try.results40, go_sem, y0, y1, y2, y3]) rfl ⟨by rw [Hvv.out]; rfl, ?_⟩
                      exact (((hbf.setCell (p := ⟨w0.heap.size + 1, 0, none⟩) (Nat.le_succ _) _).setCell (p := ⟨w0.heap.size + 1, 1, none⟩) (Nat.le_succ _) _).setCell (p := ⟨w0.heap.size + 1, 2, none⟩) (Nat.le_succ _) _).setCell (p := ⟨w0.heap.size + 1, 3, none⟩) (Nat.le_succ _) _
                    · have hcc : ¬ (x.count < 1 ∨ 1048576 < x.count) := by omega
                      have g1 := kx3.cell 1 _ rfl
                      have d0 := kd3.cell 0 _ rfl
                      have d1 := kd3.cell 1 _ rfl
                      have d2 := kd3.cell 2 _ rfl
                      go_wp2_with fail
                      with_reducible refine (refFind _ T x.cat d _ ht3).mono ?_
                      rintro e w4 ⟨rfl, c4⟩
                      have own4 := own3.ext c4
                      have hb4 := hb3.trans (c4.mono hb3.size)
                      have kr4 := kr3.ext c4
                      have kx4 := kx3.ext c4
                      have kt4 := kt3.ext c4
                      clear own3 hb3 kr3 kx3 kd3 kt3 ht3 c4 g1 g2 d0 d1 d2
                      obtain ⟨F, hF⟩ : ∃ F, findT T x.cat d = F := ⟨_, rfl⟩
                      have HF := Lib.hid hF
                      rw [hF]
                      clear hF
                      obtain ⟨bp, okF⟩ := F
                      cases okF with
                      | false =>
                        have hq := hbad.out 10 (line_rate h64 Hnm.out hcc (by rw [HF.out]))
                        have hvv := Hv.out
                        rw [hq] at hvv
                        have Hvv := Lib.hid hvv
                        have hbf := b2.trans (hb4.mono b2.size)
                        clear hq hvv
                        have r0 := kr4.cell 0 _ rfl
                        have r1 := kr4.cell 1 _ rfl
                        have r2 := kr4.cell 2 _ rfl
                        have r3 := kr4.cell 3 _ rfl
                        have s0 := kr4.frozen 0
                        have s1 := kr4.frozen 1
                        have s2 := kr4.frozen 2
                        have s3 := kr4.frozen 3
                        have kf := (((kr4.set 0 (.int .i64 0)).set 1 (.int .i64 0)).set 2 (.int .i64 0)).set 3 (.slice none 0 0)
                        have y0 := kf.cell 0 _ rfl
                        have y1 := kf.cell 1 _ rfl
                        have y2 := kf.cell 2 _ rfl
                        have y3 := kf.cell 3 _ rfl
                        go_wp2_with fail
                        refine bodyPost_ret (v := .tuple #[.agg #[.int .i64 0, .int .i64 0, .int .i64 0, .slice none 0 0], .int .i64 10]) (by simp [results, Try.results40, go_sem, y0, y1, y2, y3]) rfl ⟨by rw [Hvv.out]; rfl, ?_⟩
                        exact (((hbf.setCell (p := ⟨w0.heap.size + 1, 0, none⟩) (Nat.le_succ _) _).setCell (p := ⟨w0.heap.size + 1, 1, none⟩) (Nat.le_succ _) _).setCell (p := ⟨w0.heap.size + 1, 2, none⟩) (Nat.le_succ _) _).setCell (p := ⟨w0.heap.size + 1, 3, none⟩) (Nat.le_succ _) _
                      | true =>
                        have g2 := kx4.cell 2 _ rfl
                        have g3 := kx4.cell 3 _ rfl
                        go_wp2_with fail
                        with_reducible refine (refMul x.count x.price _ hfx1 hfx2).mono ?_
                        rintro e w' ⟨rfl, rfl⟩
                        clear g2 g3
                        by_cases hfit : Mon.fits (x.count * x.price)
                        · have hln := line_yes h64 Hnm.out hcc (by rw [HF.out]) hfit
                          rw [HF.out] at hln
                          have hover := Lib.hid (fun n h => hovr.out (bp, x.count * x.price) n hln h)
                          have hnext := Lib.hid (fun qs h => hnxt.out (bp, x.count * x.price) qs hln h)
                          have hbp := find_bp T x.cat d
                          rw [HF.out] at hbp
                          rw [Mon.told_ok hfit]
                          generalize x.count * x.price = m at *
                          generalize wr.heap.size = gx at *
                          clear hln hovr hnxt hbad HF Hnm hcc hc1 hc2 hi64 h64
                          have hpl63 : ps.length ≤ 12 := by omega
                          go_upto_block 3 with (fail)
                          go_cut [15] from 41 to 164 (fun q wi => ∃ (j : Nat), j ≤ ps.length ∧ q = .int .i64 j ∧ Hid (cntP ps x.cat = j) ∧ Below w4.heap.size w4 wi)
                          case first =>
                            have t3 := kt4.cell 3 _ rfl
                            go_wp2_with fail
                            clear t3
                            go_loopw [15] (fun q wi => ∃ (j : Nat), j ≤ ps.length ∧ q = .int .i64 j ∧ Hid (∀ i (h : i < ps.length), i < j → ltS ps[i].cat x.cat = true) ∧ Below w4.heap.size w4 wi) (fun q _ => ps.length - (intOf q).toNat)
                            case atStart => exact ⟨0, by omega, rfl, fun i h hi => absurd hi (Nat.not_lt_zero _), Below.refl _ _⟩
                            case round =>
                              obtain ⟨j, hj, rfl, hlo, hbi⟩ := hrel
                              have kti := kt4.ext hbi
                              have kxi := kx4.ext hbi
                              have t3 := kti.cell 3 _ rfl
                              have g1 := kxi.cell 1 _ rfl
                              have hj0 : (0 : Int) ≤ (j : Int) := by omega
                              by_cases hjl : j < ps.length
                              · have hji : (j : Int) < (ps.length : Int) := by omega
                                obtain ⟨gb, go, rfl⟩ := Rd.blk own4.rd (by omega)
                                obtain ⟨c0, _⟩ := part4 (own4.rd.ext hbi) hjl
                                cases hlt2 : ltS ps[j].cat x.cat with
                                | true =>
                                  have hl3 : Op.bytesLess (ps[j]).cat.toList x.cat.toList = true := hlt2
                                  have Hlo := Lib.hid (fun i (h : i < ps.length) (hi : i < j + 1) => show ltS ps[i].cat x.cat = true from by
                                    rcases Nat.lt_or_ge i j with h1 | h1
                                    · exact hlo.out i h h1
                                    · have e : i = j := by omega
                                      subst e; exact hlt2)
                                  go_wp2_with fail
                                  go_quiet (fail)
                                  go_wp2_with fail
                                  go_roundw
                                  case rel => exact ⟨j + 1, by omega, by go_num, Hlo, hbi.trans (below_drawn _ _ _)⟩
                                  case measure => simp [intOf]; omega
                                | false =>
                                  have hl3 : Op.bytesLess (ps[j]).cat.toList x.cat.toList = false := hlt2
                                  have Hcnt := Lib.hid (cntP_is (k := j) (by omega) hlo.out (fun _ => hlt2))
                                  go_wp2_with fail
                                  go_quiet (fail)
                                  go_wp2_with fail
                                  go_meet
                                  exact ⟨j, hj, rfl, Hcnt, hbi.trans (below_drawn _ _ _)⟩
                              · have hji : ¬ (j : Int) < (ps.length : Int) := by omega
                                have Hcnt := Lib.hid (cntP_is (k := j) (by omega) hlo.out (fun h => absurd h hjl))
                                go_wp2_with fail
                                go_quiet (fail)
                                go_wp2_with fail
                                go_meet
                                exact ⟨j, hj, rfl, Hcnt, hbi.trans (below_drawn _ _ _)⟩
                          case rest =>
                            obtain ⟨j, hj, rfl, Hcnt, hbj⟩ := hcut
                            obtain ⟨wj, hwj⟩ : ∃ z, z = wc := ⟨_, rfl⟩
                            subst hwj
                            have hj0 : (0 : Int) ≤ (j : Int) := by omega
                            go_upto_region 29 with (fail)
                            go_cut [126] from 41 to 164 (fun q wi => ∃ b : Bool, q = .bool b ∧ Hid (hasP ps x.cat = !b) ∧ Below w4.heap.size w4 wi)
                            case first =>
                              have kti := kt4.ext hbj
                              have kxi := kx4.ext hbj
                              have t3 := kti.cell 3 _ rfl
                              have g1 := kxi.cell 1 _ rfl
                              by_cases hjl : j < ps.length
                              · have hji : (j : Int) < (ps.length : Int) := by omega
                                have hjne : ((j : Int) == (ps.length : Int)) = false := by simp; omega
                                obtain ⟨gb, go, rfl⟩ := Rd.blk own4.rd (by omega)
                                obtain ⟨c0, _⟩ := part4 (own4.rd.ext hbj) hjl
                                cases heq : eqS ps[j].cat x.cat with
                                | true =>
                                  have Hhas := Lib.hid ((hasP_at Hcnt.out hjl).trans heq)
                                  change (ps[j].cat.toList == x.cat.toList) = true at heq
                                  go_quiet (fail)
                                  go_wp2_with fail
                                  go_meet
                                  exact ⟨false, rfl, Hhas, hbj.trans (below_drawn _ _ _)⟩
                                | false =>
                                  have Hhas := Lib.hid ((hasP_at Hcnt.out hjl).trans heq)
                                  change (ps[j].cat.toList == x.cat.toList) = false at heq
                                  go_quiet (fail)
                                  go_wp2_with fail
                                  go_meet
                                  exact ⟨true, rfl, Hhas, hbj.trans (below_drawn _ _ _)⟩
                              · have hji : ¬ (j : Int) < (ps.length : Int) := by omega
                                have hje : ((j : Int) == (ps.length : Int)) = true := by simp; omega
                                have Hhas := Lib.hid (hasP_end (ps := ps) (c := x.cat) Hcnt.out (by omega))
                                go_quiet (fail)
                                go_wp2_with fail
                                go_meet
                                exact ⟨true, rfl, Hhas, hbj.trans (below_drawn _ _ _)⟩
                            case rest =>
                              obtain ⟨bh, rfl, Hhas, hbk⟩ := hcut
                              obtain ⟨wk, hwk⟩ : ∃ z, z = wc := ⟨_, rfl⟩
                              subst hwk
                              go_upto_if 126 with (fail)
                              go_cut [] from 41 to 164 (fun wi => ∃ (L : List Part) (g c : Nat), Hid (withP ps x.cat bp = L) ∧ OwnR partE wi (w2.heap.size + 1) 64 (.slice (some ⟨g, 0, none⟩) L.length c) L ∧ Hid (L.length ≤ ps.length + 1) ∧ Blk wi w2.heap.size #[.int .i64 0, .int .i64 0, .int .i64 0, .slice (some ⟨g, 0, none⟩) L.length c] 56 ∧ Blk wi (w0.heap.size + 1) #[.int .i64 0, .int .i64 0, .int .i64 0, .slice none 0 0] 56 ∧ Below w2.heap.size w2 wi)
                              case first =>
                                have kt5 := kt4.ext hbk
                                have kx5 := kx4.ext hbk
                                have own5 := own4.ext hbk
                                have kr5 := kr4.ext hbk
                                have hb5 := hb4.trans (hbk.mono hb4.size)
                                cases bh with
                                | false =>
                                  have Hwp := Lib.hid (withP_yes (bp := bp) Hhas.out)
                                  have hjl : j < ps.length := by
                                    rcases Nat.lt_or_ge j ps.length with h | h
                                    · exact h
                                    · have := Hhas.out; rw [hasP_end Hcnt.out h] at this; cases this
                                  obtain ⟨gB, cB, hsh, e1, e2, e3, e4⟩ := own5.head (by omega)
                                  simp only [Value.slice.injEq, true_and] at hsh
                                  obtain ⟨rfl, rfl⟩ := hsh
                                  go_wp2_with fail
                                  go_meet
                                  exact ⟨ps, gB, cpt, Hwp, own5, Nat.le_succ _, kt5, kr5, hb5⟩
                                | true =>
                                  go_wp2_with fail
                                  have t3 := kt5.cell 3 _ rfl
                                  have g1 := kx5.cell 1 _ rfl
                                  have hA := run_sub_to tPart (P := Try.prog) own5.rd .i64 (j : Int) j rfl hj
                                  have hB := run_sub_from tPart (P := Try.prog) own5.rd .i64 (j : Int) j rfl hj
                                  have rA := own5.rd.sub 0 j (by omega) hj
                                  have rB := own5.rd.sub j ps.length hj (Nat.le_refl _)
                                  rw [show (ps.drop 0).take (j - 0) = ps.take j from by simp, show partE.sz = 4 from rfl] at rA
                                  rw [show (ps.drop j).take (ps.length - j) = ps.drop j from List.take_of_length_le (by simp), show partE.sz = 4 from rfl] at rB
                                  
                                  generalize subV (.slice pt ps.length cpt) 0 j 4 = vA at *
                                  generalize subV (.slice pt ps.length cpt) j ps.length 4 = vB at *
                                  have htl : (ps.take j).length ≤ 12 := by rw [List.length_take]; omega
                                  have hdl : (ps.drop j).length ≤ 12 := by rw [List.length_drop]; omega
                                  have hc1 : Hid ((([] : List Part).length + (ps.take j).length) * 40 ≤ 140737488355328) := by show _ ≤ _; simp only [List.length_nil]; omega
                                  have hc2 : Hid ((([] ++ ps.take j).length + [(⟨x.cat, bp, 0, 0⟩ : Part)].length) * 40 ≤ 140737488355328) := by show _ ≤ _; simp only [List.nil_append, List.length_singleton]; omega
                                  have hc3 : Hid ((([] ++ ps.take j ++ [(⟨x.cat, bp, 0, 0⟩ : Part)]).length + (ps.drop j).length) * 40 ≤ 140737488355328) := by show _ ≤ _; simp only [List.nil_append, List.length_append, List.length_singleton]; omega
                                  clear htl hdl
                                  have bD := below_drew wk.heap.size wk
                                  refine wp_region_F (n := 18) (S := fun w' => w'.cell? ⟨w2.heap.size, 3, none⟩ = some (.slice pt ps.length cpt) ∧ w'.cell? ⟨gx, 1, none⟩ = some (.string x.cat)) (by kernel_rfl) ?_
                                  have hHeld : (fun w' : World => w'.cell? ⟨w2.heap.size, 3, none⟩ = some (.slice pt ps.length cpt) ∧ w'.cell? ⟨gx, 1, none⟩ = some (.string x.cat)) wk.drew := ⟨t3, g1⟩
                                  refine wpAnyF_tk 1 (some 128) (Op.fieldAddr 56 (Operand.tmp 8) 3) 0 (v := ?_) rfl (by kernel_rfl) (fun _ _ _ h => h) ?_ hHeld ?_
                                  rotate_left
                                  · intro w hSw
                                    try dsimp only at hSw
                                    obtain ⟨_, _⟩ := hSw
                                    dsimp only [bare]
                                    go_simp <;> with_reducible rfl
                                  try simp only [bare, Act.put, List.setIfInBounds_toArray, List.set_cons_zero, List.set_cons_succ]
                                  refine wpAnyF_tk 2 (some 129) (Op.load 54 (Operand.tmp 128)) 54 (v := ?_) rfl (by kernel_rfl) (fun _ _ _ h => h) ?_ hHeld ?_
                                  rotate_left
                                  · intro w hSw
                                    try dsimp only at hSw
                                    obtain ⟨_, _⟩ := hSw
                                    dsimp only [bare]
                                    go_simp <;> with_reducible rfl
                                  try simp only [bare, Act.put, List.setIfInBounds_toArray, List.set_cons_zero, List.set_cons_succ]
                                  refine wpAnyF_tk 3 (some 130) (Op.move (Operand.tmp 15)) 3 (v := ?_) rfl (by kernel_rfl) (fun _ _ _ h => h) ?_ hHeld ?_
                                  rotate_left
                                  · intro w hSw
                                    try dsimp only at hSw
                                    obtain ⟨_, _⟩ := hSw
                                    dsimp only [bare]
                                    go_simp <;> with_reducible rfl
                                  try simp only [bare, Act.put, List.setIfInBounds_toArray, List.set_cons_zero, List.set_cons_succ]
                                  refine wpAnyF_tk 4 (some 131) (Op.slice 54 (Operand.tmp 129) none (some (Operand.tmp 130)) none) 54 (v := ?_) rfl (by kernel_rfl) (fun _ _ _ h => h) ?_ hHeld ?_
                                  rotate_left
                                  · intro w hSw
                                    try dsimp only at hSw
                                    obtain ⟨_, _⟩ := hSw
                                    dsimp only [bare]
                                    go_simp <;> with_reducible rfl
                                  try simp only [bare, Act.put, List.setIfInBounds_toArray, List.set_cons_zero, List.set_cons_succ]
                                  refine wpAnyF_tk 6 (some 133) (Op.fieldAddr 60 (Operand.tmp 10) 1) 0 (v := ?_) rfl (by kernel_rfl) (fun _ _ _ h => h) ?_ hHeld ?_
                                  rotate_left
                                  · intro w hSw
                                    try dsimp only at hSw
                                    obtain ⟨_, _⟩ := hSw
                                    dsimp only [bare]
                                    go_simp <;> with_reducible rfl
                                  try simp only [bare, Act.put, List.setIfInBounds_toArray, List.set_cons_zero, List.set_cons_succ]
                                  refine wpAnyF_tk 7 (some 134) (Op.load 9 (Operand.tmp 133)) 9 (v := ?_) rfl (by kernel_rfl) (fun _ _ _ h => h) ?_ hHeld ?_
                                  rotate_left
                                  · intro w hSw
                                    try dsimp only at hSw
                                    obtain ⟨_, _⟩ := hSw
                                    dsimp only [bare]
                                    go_simp <;> with_reducible rfl
                                  try simp only [bare, Act.put, List.setIfInBounds_toArray, List.set_cons_zero, List.set_cons_succ]
                                  refine wpAnyF_tk 8 (some 135) (Op.move (Operand.tmp 11)) 3 (v := ?_) rfl (by kernel_rfl) (fun _ _ _ h => h) ?_ hHeld ?_
                                  rotate_left
                                  · intro w hSw
                                    try dsimp only at hSw
                                    obtain ⟨_, _⟩ := hSw
                                    dsimp only [bare]
                                    go_simp <;> with_reducible rfl
                                  try simp only [bare, Act.put, List.setIfInBounds_toArray, List.set_cons_zero, List.set_cons_succ]
                                  refine wpAnyF_tk 9 (some 136) (Op.build 64 #[(0, Operand.tmp 134), (1, Operand.tmp 135)]) 64 (v := ?_) rfl (by kernel_rfl) (fun _ _ _ h => h) ?_ hHeld ?_
                                  rotate_left
                                  · intro w hSw
                                    try dsimp only at hSw
                                    obtain ⟨_, _⟩ := hSw
                                    dsimp only [bare]
                                    go_simp <;> with_reducible rfl
                                  try simp only [bare, Act.put, List.setIfInBounds_toArray, List.set_cons_zero, List.set_cons_succ]
                                  refine wpAnyF_tk 12 (some 139) (Op.fieldAddr 56 (Operand.tmp 8) 3) 0 (v := ?_) rfl (by kernel_rfl) (fun _ _ _ h => h) ?_ hHeld ?_
                                  rotate_left
                                  · intro w hSw
                                    try dsimp only at hSw
                                    obtain ⟨_, _⟩ := hSw
                                    dsimp only [bare]
                                    go_simp <;> with_reducible rfl
                                  try simp only [bare, Act.put, List.setIfInBounds_toArray, List.set_cons_zero, List.set_cons_succ]
                                  refine wpAnyF_tk 13 (some 140) (Op.load 54 (Operand.tmp 139)) 54 (v := ?_) rfl (by kernel_rfl) (fun _ _ _ h => h) ?_ hHeld ?_
                                  rotate_left
                                  · intro w hSw
                                    try dsimp only at hSw
                                    obtain ⟨_, _⟩ := hSw
                                    dsimp only [bare]
                                    go_simp <;> with_reducible rfl
                                  try simp only [bare, Act.put, List.setIfInBounds_toArray, List.set_cons_zero, List.set_cons_succ]
                                  refine wpAnyF_tk 14 (some 141) (Op.move (Operand.tmp 15)) 3 (v := ?_) rfl (by kernel_rfl) (fun _ _ _ h => h) ?_ hHeld ?_
                                  rotate_left
                                  · intro w hSw
                                    try dsimp only at hSw
                                    obtain ⟨_, _⟩ := hSw
                                    dsimp only [bare]
                                    go_simp <;> with_reducible rfl
                                  try simp only [bare, Act.put, List.setIfInBounds_toArray, List.set_cons_zero, List.set_cons_succ]
                                  refine wpAnyF_tk 15 (some 142) (Op.slice 54 (Operand.tmp 140) (some (Operand.tmp 141)) none none) 54 (v := ?_) rfl (by kernel_rfl) (fun _ _ _ h => h) ?_ hHeld ?_
                                  rotate_left
                                  · intro w hSw
                                    try dsimp only at hSw
                                    obtain ⟨_, _⟩ := hSw
                                    dsimp only [bare]
                                    go_simp <;> with_reducible rfl
                                  try simp only [bare, Act.put, List.setIfInBounds_toArray, List.set_cons_zero, List.set_cons_succ]
                                  refine wpAnyF_two 0 10 (some 127) (Op.buildSlice 54 0 #[]) 54 (some 137) (Op.buildSlice 54 1 #[(0, Operand.tmp 136)]) 54 rfl rfl (by kernel_rfl) (fun K hK => ?_) (fun K hK => ?_)
                                  · have ownE := OwnR.litAt partE wk.drew #[] 64 [] 0 wk.heap.size wk.drew.heap.size rfl rfl rfl (Nat.zero_le _) bD.size
                                    have bE := bD.trans ((below_alloc wk.drew (.cells #[] 64)).mono bD.size)
                                    dsimp only [bare]; go_simp
                                    refine hK _ _ ⟨(kt5.ext bE).cell 3 _ rfl, (kx5.ext bE).cell 1 _ rfl⟩ (fun hHeld => ?_)
                                    clear hK K
                                    try simp only [bare, Act.put, List.setIfInBounds_toArray, List.set_cons_zero, List.set_cons_succ]
                                    refine wpAnyF_two 5 10 (some 132) (Op.call { callee := Callee.builtin Builtin.append, args := #[Operand.tmp 127, Operand.tmp 131], argTypes := #[54, 54] }) 54 (some 137) (Op.buildSlice 54 1 #[(0, Operand.tmp 136)]) 54 rfl rfl (by kernel_rfl) (fun K hK => ?_) (fun K hK => ?_)
                                    · refine step_appR (E := partE) (s := .tmp 127) (y := .tmp 131) (B := wk.heap.size) (l := []) (m := ps.take j) tPart rfl rfl ownE (by simp [Act.eval, Act.put]) (rA.ext bE) (by simp [Act.eval, Act.put]) hc1.out bE.size ?_
                                      intro v8 w8 own8 g8 b8
                                      have bF := bE.trans b8
                                      refine hK _ _ ⟨(kt5.ext bF).cell 3 _ rfl, (kx5.ext bF).cell 1 _ rfl⟩ (fun hHeld => ?_)
                                      clear hK K
                                      try simp only [bare, Act.put, List.setIfInBounds_toArray, List.set_cons_zero, List.set_cons_succ]
                                      refine wpAnyF_one 10 (some 137) (Op.buildSlice 54 1 #[(0, Operand.tmp 136)]) 54 rfl (by kernel_rfl) (fun K hK => ?_)
                                      have ownL := OwnR.litAt partE w8 #[.string x.cat, .int .i64 bp, .int .i64 0, .int .i64 0] 64 [(⟨x.cat, bp, 0, 0⟩ : Part)] 1 wk.heap.size w8.heap.size rfl rfl rfl (by unfold maxLen; omega) bF.size
                                      have bG := bF.trans ((below_alloc w8 (.cells #[.string x.cat, .int .i64 bp, .int .i64 0, .int .i64 0] 64)).mono bF.size)
                                      have own9 := own8.ext (below_alloc w8 (.cells #[.string x.cat, .int .i64 bp, .int .i64 0, .int .i64 0] 64))
                                      dsimp only [bare]; go_simp
                                      refine hK _ _ ⟨(kt5.ext bG).cell 3 _ rfl, (kx5.ext bG).cell 1 _ rfl⟩ (fun hHeld => ?_)
                                      clear hK K
                                      try simp only [bare, Act.put, List.setIfInBounds_toArray, List.set_cons_zero, List.set_cons_succ]
                                      refine wpAnyF_one 11 (some 138) (Op.call { callee := Callee.builtin Builtin.append, args := #[Operand.tmp 132, Operand.tmp 137], argTypes := #[54, 54] }) 54 rfl (by kernel_rfl) (fun K hK => ?_)
                                      refine step_appR (E := partE) (s := .tmp 132) (y := .tmp 137) (B := wk.heap.size) (l := [] ++ ps.take j) (m := [(⟨x.cat, bp, 0, 0⟩ : Part)]) tPart rfl rfl own9 (by simp [Act.eval, Act.put]) ownL.rd (by simp [Act.eval, Act.put]) hc2.out bG.size ?_
                                      intro v9 w9 own10 g9 b9
                                      have bH := bG.trans b9
                                      refine hK _ _ ⟨(kt5.ext bH).cell 3 _ rfl, (kx5.ext bH).cell 1 _ rfl⟩ (fun hHeld => ?_)
                                      clear hK K
                                      try simp only [bare, Act.put, List.setIfInBounds_toArray, List.set_cons_zero, List.set_cons_succ]
                                      refine wpAnyF_one 16 (some 143) (Op.call { callee := Callee.builtin Builtin.append, args := #[Operand.tmp 138, Operand.tmp 142], argTypes := #[54, 54] }) 54 rfl (by kernel_rfl) (fun K hK => ?_)
                                      refine step_appR (E := partE) (s := .tmp 138) (y := .tmp 142) (B := wk.heap.size) (l := [] ++ ps.take j ++ [(⟨x.cat, bp, 0, 0⟩ : Part)]) (m := ps.drop j) tPart rfl rfl own10 (by simp [Act.eval, Act.put]) (rB.ext bH) (by simp [Act.eval, Act.put]) hc3.out bH.size ?_
                                      intro v10 w10 own11 g10 b10
                                      have bI := bH.trans b10
                                      refine hK _ _ ⟨(kt5.ext bI).cell 3 _ rfl, (kx5.ext bI).cell 1 _ rfl⟩ (fun hHeld => ?_)
                                      clear hK K
                                      try simp only [bare, Act.put, List.setIfInBounds_toArray, List.set_cons_zero, List.set_cons_succ]
                                      refine wpAnyF_tk 17 (some 144) (Op.fieldAddr 56 (Operand.tmp 8) 3) 0 (v := ?_) rfl (by kernel_rfl) (fun _ _ _ h => h) ?_ hHeld ?_
                                      rotate_left
                                      · intro w hSw
                                        try dsimp only at hSw
                                        obtain ⟨_, _⟩ := hSw
                                        dsimp only [bare]
                                        go_simp <;> with_reducible rfl
                                      try simp only [bare, Act.put, List.setIfInBounds_toArray, List.set_cons_zero, List.set_cons_succ]
                                      have kt6 := kt5.ext bI
                                      have kr6 := kr5.ext bI
                                      have fz := kt6.frozen 3
                                      have hbk6 := hb5.trans (bI.mono hb5.size)
                                      have own12 : OwnR partE w10 wk.heap.size 64 v10 (ps.take j ++ ⟨x.cat, bp, 0, 0⟩ :: ps.drop j) := by have h := own11; rw [List.nil_append, List.append_assoc] at h; exact h
                                      have Hwp := Lib.hid (withP_no (bp := bp) Hcnt.out Hhas.out)
                                      have hll : (ps.take j ++ (⟨x.cat, bp, 0, 0⟩ : Part) :: ps.drop j).length = ps.length + 1 := by simp; omega
                                      have Hpl := Lib.hid (Nat.le_of_eq hll)
                                      generalize ps.take j ++ (⟨x.cat, bp, 0, 0⟩ : Part) :: ps.drop j = L at *
                                      obtain ⟨gB, cB, rfl, e1, e2, e3, e4⟩ := own12.head (by omega)
                                      clear hll
                                      have hNk : w2.heap.size < wk.heap.size := kt5.lt
                                      have gr7 := kt6.setGrown 3 (.slice (some ⟨gB, 0, none⟩) L.length cB)
                                      have kt7 := kt6.set 3 (.slice (some ⟨gB, 0, none⟩) L.length cB)
                                      have own7 := (own12.grown gr7 (.inr (fun e => by have h := Option.some.inj (show some gB = some w2.heap.size from e); omega))).base (by omega : w2.heap.size + 1 ≤ wk.heap.size)
                                      have kr7 := kr6.grown gr7 (fun e => by have h := Option.some.inj e; omega)
                                      have hb7 := hbk6.trans (below_grown gr7 (by have := hbk6.size; omega) (fun k h => by cases h; omega))
                                      simp only [List.setIfInBounds_toArray, List.set_cons_zero, List.set_cons_succ] at kt7
                                      have e1' : w2.heap.size + 1 ≤ gB := by omega
                                      refine wpAnyF_end (none) (Op.store 54 (Operand.tmp 144) (Operand.tmp 143)) 0 rfl (by kernel_rfl) (by kernel_rfl) (fun K hK => ?_)
                                      dsimp only [bare]; go_simp
                                      refine hK _ _ ?_
                                      clear hK K
                                      try simp only [bare, Act.put, List.setIfInBounds_toArray, List.set_cons_zero, List.set_cons_succ]
                                      go_wp2_with fail
                                      go_meet
                                      exact ⟨L, gB, cB, Hwp, own7, Hpl, kt7, kr7, hb7⟩
                                    · have ownL := OwnR.litAt partE (wk.drew.alloc (.cells #[] 64)) #[.string x.cat, .int .i64 bp, .int .i64 0, .int .i64 0] 64 [(⟨x.cat, bp, 0, 0⟩ : Part)] 1 wk.heap.size (wk.drew.alloc (.cells #[] 64)).heap.size rfl rfl rfl (by unfold maxLen; omega) bE.size
                                      have bF := bE.trans ((below_alloc (wk.drew.alloc (.cells #[] 64)) (.cells #[.string x.cat, .int .i64 bp, .int .i64 0, .int .i64 0] 64)).mono bE.size)
                                      have ownE2 := ownE.ext (below_alloc (wk.drew.alloc (.cells #[] 64)) (.cells #[.string x.cat, .int .i64 bp, .int .i64 0, .int .i64 0] 64))
                                      dsimp only [bare]; go_simp
                                      refine hK _ _ ⟨(kt5.ext bF).cell 3 _ rfl, (kx5.ext bF).cell 1 _ rfl⟩ (fun hHeld => ?_)
                                      clear hK K
                                      try simp only [bare, Act.put, List.setIfInBounds_toArray, List.set_cons_zero, List.set_cons_succ]
                                      refine wpAnyF_one 5 (some 132) (Op.call { callee := Callee.builtin Builtin.append, args := #[Operand.tmp 127, Operand.tmp 131], argTypes := #[54, 54] }) 54 rfl (by kernel_rfl) (fun K hK => ?_)
                                      refine step_appR (E := partE) (s := .tmp 127) (y := .tmp 131) (B := wk.heap.size) (l := []) (m := ps.take j) tPart rfl rfl ownE2 (by simp [Act.eval, Act.put]) (rA.ext bF) (by simp [Act.eval, Act.put]) hc1.out bF.size ?_
                                      intro v8 w8 own8 g8 b8
                                      have bG := bF.trans b8
                                      have own9 := own8
                                      have rL := ownL.rd.grown g8 (.inr (by simp [Value.ownBlock]))
                                      refine hK _ _ ⟨(kt5.ext bG).cell 3 _ rfl, (kx5.ext bG).cell 1 _ rfl⟩ (fun hHeld => ?_)
                                      clear hK K
                                      try simp only [bare, Act.put, List.setIfInBounds_toArray, List.set_cons_zero, List.set_cons_succ]
                                      refine wpAnyF_one 11 (some 138) (Op.call { callee := Callee.builtin Builtin.append, args := #[Operand.tmp 132, Operand.tmp 137], argTypes := #[54, 54] }) 54 rfl (by kernel_rfl) (fun K hK => ?_)
                                      refine step_appR (E := partE) (s := .tmp 132) (y := .tmp 137) (B := wk.heap.size) (l := [] ++ ps.take j) (m := [(⟨x.cat, bp, 0, 0⟩ : Part)]) tPart rfl rfl own9 (by simp [Act.eval, Act.put]) rL (by simp [Act.eval, Act.put]) hc2.out bG.size ?_
                                      intro v9 w9 own10 g9 b9
                                      have bH := bG.trans b9
                                      refine hK _ _ ⟨(kt5.ext bH).cell 3 _ rfl, (kx5.ext bH).cell 1 _ rfl⟩ (fun hHeld => ?_)
                                      clear hK K
                                      try simp only [bare, Act.put, List.setIfInBounds_toArray, List.set_cons_zero, List.set_cons_succ]
                                      refine wpAnyF_one 16 (some 143) (Op.call { callee := Callee.builtin Builtin.append, args := #[Operand.tmp 138, Operand.tmp 142], argTypes := #[54, 54] }) 54 rfl (by kernel_rfl) (fun K hK => ?_)
                                      refine step_appR (E := partE) (s := .tmp 138) (y := .tmp 142) (B := wk.heap.size) (l := [] ++ ps.take j ++ [(⟨x.cat, bp, 0, 0⟩ : Part)]) (m := ps.drop j) tPart rfl rfl own10 (by simp [Act.eval, Act.put]) (rB.ext bH) (by simp [Act.eval, Act.put]) hc3.out bH.size ?_
                                      intro v10 w10 own11 g10 b10
                                      have bI := bH.trans b10
                                      refine hK _ _ ⟨(kt5.ext bI).cell 3 _ rfl, (kx5.ext bI).cell 1 _ rfl⟩ (fun hHeld => ?_)
                                      clear hK K
                                      try simp only [bare, Act.put, List.setIfInBounds_toArray, List.set_cons_zero, List.set_cons_succ]
                                      refine wpAnyF_tk 17 (some 144) (Op.fieldAddr 56 (Operand.tmp 8) 3) 0 (v := ?_) rfl (by kernel_rfl) (fun _ _ _ h => h) ?_ hHeld ?_
                                      rotate_left
                                      · intro w hSw
                                        try dsimp only at hSw
                                        obtain ⟨_, _⟩ := hSw
                                        dsimp only [bare]
                                        go_simp <;> with_reducible rfl
                                      try simp only [bare, Act.put, List.setIfInBounds_toArray, List.set_cons_zero, List.set_cons_succ]
                                      have kt6 := kt5.ext bI
                                      have kr6 := kr5.ext bI
                                      have fz := kt6.frozen 3
                                      have hbk6 := hb5.trans (bI.mono hb5.size)
                                      have own12 : OwnR partE w10 wk.heap.size 64 v10 (ps.take j ++ ⟨x.cat, bp, 0, 0⟩ :: ps.drop j) := by have h := own11; rw [List.nil_append, List.append_assoc] at h; exact h
                                      have Hwp := Lib.hid (withP_no (bp := bp) Hcnt.out Hhas.out)
                                      have hll : (ps.take j ++ (⟨x.cat, bp, 0, 0⟩ : Part) :: ps.drop j).length = ps.length + 1 := by simp; omega
                                      have Hpl := Lib.hid (Nat.le_of_eq hll)
                                      generalize ps.take j ++ (⟨x.cat, bp, 0, 0⟩ : Part) :: ps.drop j = L at *
                                      obtain ⟨gB, cB, rfl, e1, e2, e3, e4⟩ := own12.head (by omega)
                                      clear hll
                                      have hNk : w2.heap.size < wk.heap.size := kt5.lt
                                      have gr7 := kt6.setGrown 3 (.slice (some ⟨gB, 0, none⟩) L.length cB)
                                      have kt7 := kt6.set 3 (.slice (some ⟨gB, 0, none⟩) L.length cB)
                                      have own7 := (own12.grown gr7 (.inr (fun e => by have h := Option.some.inj (show some gB = some w2.heap.size from e); omega))).base (by omega : w2.heap.size + 1 ≤ wk.heap.size)
                                      have kr7 := kr6.grown gr7 (fun e => by have h := Option.some.inj e; omega)
                                      have hb7 := hbk6.trans (below_grown gr7 (by have := hbk6.size; omega) (fun k h => by cases h; omega))
                                      simp only [List.setIfInBounds_toArray, List.set_cons_zero, List.set_cons_succ] at kt7
                                      have e1' : w2.heap.size + 1 ≤ gB := by omega
                                      refine wpAnyF_end (none) (Op.store 54 (Operand.tmp 144) (Operand.tmp 143)) 0 rfl (by kernel_rfl) (by kernel_rfl) (fun K hK => ?_)
                                      dsimp only [bare]; go_simp
                                      refine hK _ _ ?_
                                      clear hK K
                                      try simp only [bare, Act.put, List.setIfInBounds_toArray, List.set_cons_zero, List.set_cons_succ]
                                      go_wp2_with fail
                                      go_meet
                                      exact ⟨L, gB, cB, Hwp, own7, Hpl, kt7, kr7, hb7⟩
                                  · have ownL := OwnR.litAt partE wk.drew #[.string x.cat, .int .i64 bp, .int .i64 0, .int .i64 0] 64 [(⟨x.cat, bp, 0, 0⟩ : Part)] 1 wk.heap.size wk.drew.heap.size rfl rfl rfl (by unfold maxLen; omega) bD.size
                                    have bE := bD.trans ((below_alloc wk.drew (.cells #[.string x.cat, .int .i64 bp, .int .i64 0, .int .i64 0] 64)).mono bD.size)
                                    dsimp only [bare]; go_simp
                                    refine hK _ _ ⟨(kt5.ext bE).cell 3 _ rfl, (kx5.ext bE).cell 1 _ rfl⟩ (fun hHeld => ?_)
                                    clear hK K
                                    try simp only [bare, Act.put, List.setIfInBounds_toArray, List.set_cons_zero, List.set_cons_succ]
                                    refine wpAnyF_one 0 (some 127) (Op.buildSlice 54 0 #[]) 54 rfl (by kernel_rfl) (fun K hK => ?_)
                                    have ownE := OwnR.litAt partE (wk.drew.alloc (.cells #[.string x.cat, .int .i64 bp, .int .i64 0, .int .i64 0] 64)) #[] 64 [] 0 wk.heap.size (wk.drew.alloc (.cells #[.string x.cat, .int .i64 bp, .int .i64 0, .int .i64 0] 64)).heap.size rfl rfl rfl (Nat.zero_le _) bE.size
                                    have bF := bE.trans ((below_alloc (wk.drew.alloc (.cells #[.string x.cat, .int .i64 bp, .int .i64 0, .int .i64 0] 64)) (.cells #[] 64)).mono bE.size)
                                    have rL1 := (ownL.ext (below_alloc (wk.drew.alloc (.cells #[.string x.cat, .int .i64 bp, .int .i64 0, .int .i64 0] 64)) (.cells #[] 64))).rd
                                    dsimp only [bare]; go_simp
                                    refine hK _ _ ⟨(kt5.ext bF).cell 3 _ rfl, (kx5.ext bF).cell 1 _ rfl⟩ (fun hHeld => ?_)
                                    clear hK K
                                    try simp only [bare, Act.put, List.setIfInBounds_toArray, List.set_cons_zero, List.set_cons_succ]
                                    refine wpAnyF_one 5 (some 132) (Op.call { callee := Callee.builtin Builtin.append, args := #[Operand.tmp 127, Operand.tmp 131], argTypes := #[54, 54] }) 54 rfl (by kernel_rfl) (fun K hK => ?_)
                                    refine step_appR (E := partE) (s := .tmp 127) (y := .tmp 131) (B := wk.heap.size) (l := []) (m := ps.take j) tPart rfl rfl ownE (by simp [Act.eval, Act.put]) (rA.ext bF) (by simp [Act.eval, Act.put]) hc1.out bF.size ?_
                                    intro v8 w8 own8 g8 b8
                                    have bG := bF.trans b8
                                    have own9 := own8
                                    have rL := rL1.grown g8 (.inr (by simp [Value.ownBlock]))
                                    refine hK _ _ ⟨(kt5.ext bG).cell 3 _ rfl, (kx5.ext bG).cell 1 _ rfl⟩ (fun hHeld => ?_)
                                    clear hK K
                                    try simp only [bare, Act.put, List.setIfInBounds_toArray, List.set_cons_zero, List.set_cons_succ]
                                    refine wpAnyF_one 11 (some 138) (Op.call { callee := Callee.builtin Builtin.append, args := #[Operand.tmp 132, Operand.tmp 137], argTypes := #[54, 54] }) 54 rfl (by kernel_rfl) (fun K hK => ?_)
                                    refine step_appR (E := partE) (s := .tmp 132) (y := .tmp 137) (B := wk.heap.size) (l := [] ++ ps.take j) (m := [(⟨x.cat, bp, 0, 0⟩ : Part)]) tPart rfl rfl own9 (by simp [Act.eval, Act.put]) rL (by simp [Act.eval, Act.put]) hc2.out bG.size ?_
                                    intro v9 w9 own10 g9 b9
                                    have bH := bG.trans b9
                                    refine hK _ _ ⟨(kt5.ext bH).cell 3 _ rfl, (kx5.ext bH).cell 1 _ rfl⟩ (fun hHeld => ?_)
                                    clear hK K
                                    try simp only [bare, Act.put, List.setIfInBounds_toArray, List.set_cons_zero, List.set_cons_succ]
                                    refine wpAnyF_one 16 (some 143) (Op.call { callee := Callee.builtin Builtin.append, args := #[Operand.tmp 138, Operand.tmp 142], argTypes := #[54, 54] }) 54 rfl (by kernel_rfl) (fun K hK => ?_)
                                    refine step_appR (E := partE) (s := .tmp 138) (y := .tmp 142) (B := wk.heap.size) (l := [] ++ ps.take j ++ [(⟨x.cat, bp, 0, 0⟩ : Part)]) (m := ps.drop j) tPart rfl rfl own10 (by simp [Act.eval, Act.put]) (rB.ext bH) (by simp [Act.eval, Act.put]) hc3.out bH.size ?_
                                    intro v10 w10 own11 g10 b10
                                    have bI := bH.trans b10
                                    refine hK _ _ ⟨(kt5.ext bI).cell 3 _ rfl, (kx5.ext bI).cell 1 _ rfl⟩ (fun hHeld => ?_)
                                    clear hK K
                                    try simp only [bare, Act.put, List.setIfInBounds_toArray, List.set_cons_zero, List.set_cons_succ]
                                    refine wpAnyF_tk 17 (some 144) (Op.fieldAddr 56 (Operand.tmp 8) 3) 0 (v := ?_) rfl (by kernel_rfl) (fun _ _ _ h => h) ?_ hHeld ?_
                                    rotate_left
                                    · intro w hSw
                                      try dsimp only at hSw
                                      obtain ⟨_, _⟩ := hSw
                                      dsimp only [bare]
                                      go_simp <;> with_reducible rfl
                                    try simp only [bare, Act.put, List.setIfInBounds_toArray, List.set_cons_zero, List.set_cons_succ]
                                    have kt6 := kt5.ext bI
                                    have kr6 := kr5.ext bI
                                    have fz := kt6.frozen 3
                                    have hbk6 := hb5.trans (bI.mono hb5.size)
                                    have own12 : OwnR partE w10 wk.heap.size 64 v10 (ps.take j ++ ⟨x.cat, bp, 0, 0⟩ :: ps.drop j) := by have h := own11; rw [List.nil_append, List.append_assoc] at h; exact h
                                    have Hwp := Lib.hid (withP_no (bp := bp) Hcnt.out Hhas.out)
                                    have hll : (ps.take j ++ (⟨x.cat, bp, 0, 0⟩ : Part) :: ps.drop j).length = ps.length + 1 := by simp; omega
                                    have Hpl := Lib.hid (Nat.le_of_eq hll)
                                    generalize ps.take j ++ (⟨x.cat, bp, 0, 0⟩ : Part) :: ps.drop j = L at *
                                    obtain ⟨gB, cB, rfl, e1, e2, e3, e4⟩ := own12.head (by omega)
                                    clear hll
                                    have hNk : w2.heap.size < wk.heap.size := kt5.lt
                                    have gr7 := kt6.setGrown 3 (.slice (some ⟨gB, 0, none⟩) L.length cB)
                                    have kt7 := kt6.set 3 (.slice (some ⟨gB, 0, none⟩) L.length cB)
                                    have own7 := (own12.grown gr7 (.inr (fun e => by have h := Option.some.inj (show some gB = some w2.heap.size from e); omega))).base (by omega : w2.heap.size + 1 ≤ wk.heap.size)
                                    have kr7 := kr6.grown gr7 (fun e => by have h := Option.some.inj e; omega)
                                    have hb7 := hbk6.trans (below_grown gr7 (by have := hbk6.size; omega) (fun k h => by cases h; omega))
                                    simp only [List.setIfInBounds_toArray, List.set_cons_zero, List.set_cons_succ] at kt7
                                    have e1' : w2.heap.size + 1 ≤ gB := by omega
                                    refine wpAnyF_end (none) (Op.store 54 (Operand.tmp 144) (Operand.tmp 143)) 0 rfl (by kernel_rfl) (by kernel_rfl) (fun K hK => ?_)
                                    dsimp only [bare]; go_simp
                                    refine hK _ _ ?_
                                    clear hK K
                                    try simp only [bare, Act.put, List.setIfInBounds_toArray, List.set_cons_zero, List.set_cons_succ]
                                    go_wp2_with fail
                                    go_meet
                                    exact ⟨L, gB, cB, Hwp, own7, Hpl, kt7, kr7, hb7⟩
                              case rest =>
                                obtain ⟨L, gB, cB, Hwp, own5, Hpl, kt5, kr5, hb5⟩ := hcut
                                obtain ⟨w11, hw11⟩ : ∃ z, z = wc := ⟨_, rfl⟩
                                subst hw11
                                have hjL : j < L.length := by rw [← Hwp.out, ← Hcnt.out]; exact withP_lt ps x.cat bp
                                obtain ⟨gQ, cQ, hsh, e1, e2, e3, e4⟩ := own5.head (by omega)
                                simp only [Value.slice.injEq, Option.some.injEq, Addr.mk.injEq, true_and, and_true] at hsh
                                obtain ⟨rfl, rfl⟩ := hsh
                                have t3 := kt5.cell 3 _ rfl
                                have hjLi : (j : Int) < (L.length : Int) := by omega
                                unfold maxLen at e4
                                have n2 := own5.cellAt rfl j hjL 2 (by decide)
                                have z2 := own5.frozenAt rfl (j * partE.sz + 2)
                                have hgl : Hid (GoodP L) := by show _; rw [← Hwp.out]; exact hgp.out.withP x.cat hbp
                                have hfn := hgl.out.fit _ (List.getElem_mem hjL)
                                have hgb := hgl.out.bps _ (List.getElem_mem hjL)
                                have Hput := Lib.hid (putP_at2 (n := m) Hcnt.out Hwp.out hjL)
                                have Hel := Lib.hid (fun (y : Part) (hy : L[j] = y) (z : Int) => own5.stored rfl j hjL 2 (by decide) (.int .i64 z) rfl ⟨y.cat, y.bp, z, y.tax⟩ (by rw [hy]; rfl))
                                simp only [partE, List.getElem?_cons_zero, List.getElem?_cons_succ] at n2 z2
                                have hms := Lib.hid hfit
                                obtain ⟨y, hy⟩ : ∃ y, L[j] = y := ⟨_, rfl⟩
                                rw [hy] at n2 hfn hgb Hput
                                have Hy := Lib.hid hy
                                clear hy
                                have hN : w2.heap.size ≤ w11.heap.size := hb5.size
                                have hne : (some gB : Option Nat) ≠ some w2.heap.size := by intro e; cases e; omega
                                have hne2 : (some gB : Option Nat) ≠ some (w0.heap.size + 1) := by intro e; cases e; omega
                                by_cases hf2 : Mon.fits (y.net + m)
                                · have hadd := fun w => refAdd y.net m w hfn hms.out
                                  simp only [Mon.told_ok hf2] at hadd
                                  have Hp2 : Hid (putP ps x.cat bp m = .ok (L.set j ⟨y.cat, y.bp, y.net + m, y.tax⟩)) := by show _ = _; rw [Hput.out, if_pos hf2]
                                  have Hfz := Lib.hid hf2
                                  clear hf2 Hput
                                  generalize y.net + m = z at *
                                  obtain ⟨own6, gr6⟩ := Hel.out y Hy.out z
                                  rw [show partE.sz = 4 from rfl] at gr6 own6
                                  have kt6 := kt5.grown gr6 hne
                                  have kr6 := kr5.grown gr6 hne2
                                  have hb6 := hb5.trans (below_grown gr6 hN (fun k h => by cases h; omega))
                                  have Hn := Lib.hid (hnext.out _ Hp2.out)
                                  have hgq := putP_good hgp.out hbp Hp2.out
                                  have hg1 := Lib.hid hgq.1
                                  have hg2 : Hid ((L.set j ⟨y.cat, y.bp, z, y.tax⟩).length ≤ ps.length + 1) := hgq.2
                                  have hsl : Hid ((L.set j ⟨y.cat, y.bp, z, y.tax⟩).length = L.length) := List.length_set
                                  have o6 := own6.drew
                                  have k6 := kt6.drew
                                  have h6 := hb6.drew
                                  clear Hel hgq Hp2 own6 kt6 hb6 hgb gr6 hfn
                                  go_wp2_with fail
                                  go_region_with (first | (go_at_call 60; (with_reducible refine (hadd _).mono ?_); (rintro e w' ⟨rfl, rfl⟩)))
                                  all_goals
                                    generalize (World.setCell w11 ⟨gB, j * 4 + 2, none⟩ (.int .i64 z)).drew = w12 at *
                                    go_wp2_with fail
                                    go_roundw
                                    case rel => first | exact ⟨k + 1, L.set j ⟨y.cat, y.bp, z, y.tax⟩, .slice (some ⟨gB, 0, none⟩) L.length cB, by omega, by go_num, o6, hg1, by have := hg2.out; omega, Hn, k6, h6⟩ | ((repeat apply Exists.intro); exact ⟨⟨k + 1, L.set j ⟨y.cat, y.bp, z, y.tax⟩, .slice (some ⟨gB, 0, none⟩) L.length cB, by omega, by go_num, o6, hg1, by have := hg2.out; omega, Hn, k6, h6⟩, rfl⟩)
                                    case measure => simp [intOf]; omega
                                · have hadd := fun w => refAdd y.net m w hfn hms.out
                                  simp only [Mon.told_no hf2] at hadd
                                  have Hp2 : Hid (putP ps x.cat bp m = .error 7) := by show _ = _; rw [Hput.out, if_neg hf2]
                                  obtain ⟨own6, gr6⟩ := Hel.out y Hy.out 0
                                  rw [show partE.sz = 4 from rfl] at gr6 own6
                                  have kt6 := kt5.grown gr6 hne
                                  have kr6 := kr5.grown gr6 hne2
                                  have hb6 := hb5.trans (below_grown gr6 hN (fun k h => by cases h; omega))
                                  have hq := hover.out 7 Hp2.out
                                  have hvv := Hv.out
                                  rw [hq] at hvv
                                  have Hvv := Lib.hid hvv
                                  have hbf := b2.trans ((hb6.drew).mono b2.size)
                                  have kr7 := kr6.drew
                                  clear hf2 Hput Hel hq hvv own6 kt6 kr6 hb6 hgb gr6 hfn
                                  go_wp2_with fail
                                  go_region_with (first | (go_at_call 60; (with_reducible refine (hadd _).mono ?_); (rintro e w' ⟨rfl, rfl⟩)))
                                  all_goals
                                    generalize (World.setCell w11 ⟨gB, j * 4 + 2, none⟩ (.int .i64 0)).drew = w12 at *
                                    have r0 := kr7.cell 0 _ rfl
                                    have r1 := kr7.cell 1 _ rfl
                                    have r2 := kr7.cell 2 _ rfl
                                    have r3 := kr7.cell 3 _ rfl
                                    have s0 := kr7.frozen 0
                                    have s1 := kr7.frozen 1
                                    have s2 := kr7.frozen 2
                                    have s3 := kr7.frozen 3
                                    have kf := (((kr7.set 0 (.int .i64 0)).set 1 (.int .i64 0)).set 2 (.int .i64 0)).set 3 (.slice none 0 0)
                                    have y0 := kf.cell 0 _ rfl
                                    have y1 := kf.cell 1 _ rfl
                                    have y2 := kf.cell 2 _ rfl
                                    have y3 := kf.cell 3 _ rfl
                                    go_wp2_with fail
                                    refine bodyPost_ret (v := .tuple #[.agg #[.int .i64 0, .int .i64 0, .int .i64 0, .slice none 0 0], .int .i64 7]) (by simp [results, Try.results40, go_sem, y0, y1, y2, y3]) rfl ⟨by rw [Hvv.out]; rfl, ?_⟩
                                    exact (((hbf.setCell (p := ⟨w0.heap.size + 1, 0, none⟩) (Nat.le_succ _) _).setCell (p := ⟨w0.heap.size + 1, 1, none⟩) (Nat.le_succ _) _).setCell (p := ⟨w0.heap.size + 1, 2, none⟩) (Nat.le_succ _) _).setCell (p := ⟨w0.heap.size + 1, 3, none⟩) (Nat.le_succ _) _
                        · rw [Mon.told_no hfit]
                          have hq := hbad.out 7 (line_over h64 Hnm.out hcc (by rw [HF.out]) hfit)
                          have hvv := Hv.out
                          rw [hq] at hvv
                          have Hvv := Lib.hid hvv
                          have hbf := b2.trans (hb4.mono b2.size)
                          clear hq hvv
                          have r0 := kr4.cell 0 _ rfl
                          have r1 := kr4.cell 1 _ rfl
                          have r2 := kr4.cell 2 _ rfl
                          have r3 := kr4.cell 3 _ rfl
                          have s0 := kr4.frozen 0
                          have s1 := kr4.frozen 1
                          have s2 := kr4.frozen 2
                          have s3 := kr4.frozen 3
                          have kf := (((kr4.set 0 (.int .i64 0)).set 1 (.int .i64 0)).set 2 (.int .i64 0)).set 3 (.slice none 0 0)
                          have y0 := kf.cell 0 _ rfl
                          have y1 := kf.cell 1 _ rfl
                          have y2 := kf.cell 2 _ rfl
                          have y3 := kf.cell 3 _ rfl
                          go_wp2_with fail
                          refine bodyPost_ret (v := .tuple #[.agg #[.int .i64 0, .int .i64 0, .int .i64 0, .slice none 0 0], .int .i64 7]) (by simp [results, Try.results40, go_sem, y0, y1, y2, y3]) rfl ⟨by rw [Hvv.out]; rfl, ?_⟩
                          exact (((hbf.setCell (p := ⟨w0.heap.size + 1, 0, none⟩) (Nat.le_succ _) _).setCell (p := ⟨w0.heap.size + 1, 1, none⟩) (Nat.le_succ _) _).setCell (p := ⟨w0.heap.size + 1, 2, none⟩) (Nat.le_succ _) _).setCell (p := ⟨w0.heap.size + 1, 3, none⟩) (Nat.le_succ _) _
            · have hi : ¬ (k : Int) < (ls.length : Int) := by omega
              have hpe := hpv.out
              rw [partsV_end (by omega)] at hpe
              have hvv := Hv.out
              rw [hpe] at hvv
              have Hvv : Hid (totalV T d ls = wholeTo 0 0 [] ps) := hvv
              obtain ⟨pt, cpt, rfl⟩ := own.rd.shape
              clear hpe hvv hpv
              go_wp2_with fail
              go_loopw [16] (fun i wq => ∃ (j : Nat) (s t : Int) (done : List Part), j ≤ ps.length ∧ i = .int .i64 j ∧ OwnR partE wq (w2.heap.size + 1) 64 (.slice pt ps.length cpt) (done ++ ps.drop j) ∧ Hid (done.length = j) ∧ Hid (wholeTo 0 0 [] ps = wholeTo s t done (ps.drop j)) ∧ Hid (Mon.fits s) ∧ Hid (Mon.fits t) ∧ Blk wq w2.heap.size #[.int .i64 s, .int .i64 t, .int .i64 0, .slice pt ps.length cpt] 56 ∧ Below w2.heap.size w2 wq) (fun i _ => ps.length - (intOf i).toNat)
              case atStart => exact ⟨0, 0, 0, [], by omega, rfl, own, rfl, rfl, fits0, fits0, kt, hb⟩
              case round =>
                obtain ⟨j, s, t, done, hj, rfl, ownY, hdl, hwh, hfs, hft, kt1, hbw⟩ := hrel
                clear own kt hb
                have hj0 : (0 : Int) ≤ (j : Int) := by omega
                have t3 := kt1.cell 3 _ rfl
                have hN : w2.heap.size ≤ wr.heap.size := hbw.size
                have krq := kr2.ext hbw
                by_cases hlt : j < ps.length
                · have hi2 : (j : Int) < (ps.length : Int) := by omega
                  have hdr := List.drop_eq_getElem_cons hlt
                  have hgq := And.intro (hgp.out.fit _ (List.getElem_mem hlt)) (hgp.out.bps _ (List.getElem_mem hlt))
                  rw [hdr] at ownY hwh
                  generalize ps[j] = q at *
                  clear hdr
                  have hlen : Hid (ps.length = (done ++ q :: ps.drop (j + 1)).length) := by show _ = _; have := hdl.out; simp; omega
                  have hkl : j < (done ++ q :: ps.drop (j + 1)).length := by have := hdl.out; simp; omega
                  have hel : (done ++ q :: ps.drop (j + 1))[j]'hkl = q := by rw [List.getElem_append_right (by have := hdl.out; omega)]; simp [hdl.out]
                  obtain ⟨g, cp, hsh, e1, e2, e3, e4⟩ := ownY.head (by omega)
                  rw [← hlen.out] at hsh e3
                  simp only [Value.slice.injEq, true_and] at hsh
                  obtain ⟨rfl, rfl⟩ := hsh
                  unfold maxLen at e4
                  have c1 := ownY.cellAt hlen.out j hkl 1 (by decide)
                  have c2 := ownY.cellAt hlen.out j hkl 2 (by decide)
                  rw [hel] at c1 c2
                  simp only [partE, List.getElem?_cons_zero, List.getElem?_cons_succ] at c1 c2
                  obtain ⟨hqf, hqb⟩ := hgq
                  have htax := fun w => refTax q.net q.bp w hqf (by omega) (by omega)
                  rcases taxV_cases (n := q.net) hqb with ⟨hy, hA, hE⟩ | ⟨x, hy, hA, hE, hxf⟩
                  · simp only [hA, hE] at htax
                    have Hres : Hid (totalV T d ls = .error 7) := by show _ = _; rw [Hvv.out, hwh.out, wholeTo_tax hy]
                    clear hy hA hE ownY hwh hel hkl
                    go_wp2_with fail
                    go_quiet ((go_at_call 61; exact Calls.quiet_of_same ((htax _).mono fun _ _ h => ⟨h.1, h.2.symm⟩)))
                    have kr6 := krq.ext (below_drawn wr.heap.size wr nq)
                    have hbf := b2.trans ((hbw.trans (below_drawn _ _ nq)).mono b2.size)
                    clear krq hbw kt1
                    generalize hw6 : World.drewN wr nq = w6 at *
                    clear hw6 htax c1 c2 t3
                    have r0 := kr6.cell 0 _ rfl
                    have r1 := kr6.cell 1 _ rfl
                    have r2 := kr6.cell 2 _ rfl
                    have r3 := kr6.cell 3 _ rfl
                    have s0 := kr6.frozen 0
                    have s1 := kr6.frozen 1
                    have s2 := kr6.frozen 2
                    have s3 := kr6.frozen 3
                    have kf := (((kr6.set 0 (.int .i64 0)).set 1 (.int .i64 0)).set 2 (.int .i64 0)).set 3 (.slice none 0 0)
                    have y0 := kf.cell 0 _ rfl
                    have y1 := kf.cell 1 _ rfl
                    have y2 := kf.cell 2 _ rfl
                    have y3 := kf.cell 3 _ rfl
                    go_wp2_with fail
                    refine bodyPost_ret (v := .tuple #[.agg #[.int .i64 0, .int .i64 0, .int .i64 0, .slice none 0 0], .int .i64 7]) (by simp [results, Try.results40, go_sem, y0, y1, y2, y3]) rfl ⟨by rw [Hres.out]; rfl, ?_⟩
                    exact (((hbf.setCell (p := ⟨w0.heap.size + 1, 0, none⟩) (Nat.le_succ _) _).setCell (p := ⟨w0.heap.size + 1, 1, none⟩) (Nat.le_succ _) _).setCell (p := ⟨w0.heap.size + 1, 2, none⟩) (Nat.le_succ _) _).setCell (p := ⟨w0.heap.size + 1, 3, none⟩) (Nat.le_succ _) _
                  · simp only [hA, hE] at htax
                    have Hy := Lib.hid hy
                    have Hxf := Lib.hid hxf
                    have Hqf := Lib.hid hqf
                    clear hy hA hE hxf hqf
                    go_wp2_with fail
                    go_quiet ((go_at_call 61; exact Calls.quiet_of_same ((htax _).mono fun _ _ h => ⟨h.1, h.2.symm⟩)))
                    have own6 := ownY.ext (below_drawn wr.heap.size wr nq)
                    have kt6 := kt1.ext (below_drawn wr.heap.size wr nq)
                    have kr6 := krq.ext (below_drawn wr.heap.size wr nq)
                    have hb6 := hbw.trans (below_drawn _ wr nq)
                    clear ownY kt1 hbw krq
                    generalize hw6 : World.drewN wr nq = w6 at *
                    clear hw6 htax c1 c2 t3
                    have c3 := own6.cellAt hlen.out j hkl 3 (by decide)
                    have f3 := own6.frozenAt hlen.out (j * 4 + 3)
                    have t36 := kt6.cell 3 _ rfl
                    rw [hel] at c3
                    simp only [partE, List.getElem?_cons_zero, List.getElem?_cons_succ] at c3
                    obtain ⟨own7, gr7⟩ := own6.stored hlen.out j hkl 3 (by decide) (.int .i64 x) rfl ⟨q.cat, q.bp, q.net, x⟩ (by rw [hel]; rfl)
                    rw [set_done hdl.out] at own7
                    rw [show partE.sz = 4 from rfl] at own7 gr7
                    have hne : (some g : Option Nat) ≠ some w2.heap.size := by intro e; cases e; omega
                    have hne2 : (some g : Option Nat) ≠ some (w0.heap.size + 1) := by intro e; cases e; omega
                    have hrl := kr2.lt
                    have hne3 : (some w2.heap.size : Option Nat) ≠ some (w0.heap.size + 1) := fun e => by have := Option.some.inj e; omega
                    have kt7 := kt6.grown gr7 hne
                    have kr7 := kr6.grown gr7 hne2
                    have hb7 := hb6.trans (below_grown gr7 (by have := hb6.size; omega) (fun k h => by cases h; omega))
                    have hlen7 : Hid (ps.length = (done ++ ⟨q.cat, q.bp, q.net, x⟩ :: ps.drop (j + 1)).length) := by show _ = _; have := hdl.out; simp; omega
                    have hkl7 : j < (done ++ (⟨q.cat, q.bp, q.net, x⟩ : Part) :: ps.drop (j + 1)).length := by have := hdl.out; simp; omega
                    have d2 := own7.cellAt hlen7.out j hkl7 2 (by decide)
                    rw [show (done ++ (⟨q.cat, q.bp, q.net, x⟩ : Part) :: ps.drop (j + 1))[j]'hkl7 = ⟨q.cat, q.bp, q.net, x⟩ from by rw [List.getElem_append_right (by have := hdl.out; omega)]; simp [hdl.out]] at d2
                    simp only [partE, List.getElem?_cons_zero, List.getElem?_cons_succ] at d2
                    have z0 := kt7.cell 0 _ rfl
                    have z3 := kt7.cell 3 _ rfl
                    have fz0 := kt7.frozen 0
                    have Kr8 := Lib.hid (fun a => (kr7.grown (kt7.setGrown 0 (.int .i64 a)) hne3).drew)
                    have Kt8 : Hid (∀ a, Blk ((World.setCell _ ⟨w2.heap.size, 0, none⟩ (.int .i64 a)).drew) w2.heap.size #[.int .i64 a, .int .i64 t, .int .i64 0, .slice (some ⟨g, 0, none⟩) ps.length cpt] 56) := fun a => (kt7.set 0 (.int .i64 a)).drew
                    have Own8 := Lib.hid (fun a => (own7.grown (kt7.setGrown 0 (.int .i64 a)) (.inr hne)).drew)
                    have D2 : Hid (∀ a : Int, ((World.setCell _ ⟨w2.heap.size, 0, none⟩ (.int .i64 a)).drew).cell? ⟨g, j * 4 + 2, none⟩ = some (.int .i64 q.net)) := fun a => by
                      have h := (own7.grown (kt7.setGrown 0 (.int .i64 a)) (.inr hne)).drew.cellAt hlen7.out j hkl7 2 (by decide)
                      rw [show (done ++ (⟨q.cat, q.bp, q.net, x⟩ : Part) :: ps.drop (j + 1))[j]'hkl7 = ⟨q.cat, q.bp, q.net, x⟩ from by rw [List.getElem_append_right (by have := hdl.out; omega)]; simp [hdl.out]] at h
                      exact h
                    have Hb8 := Lib.hid (fun a => (hb7.trans (below_grown (kt7.setGrown 0 (.int .i64 a)) (by have := hb7.size; omega) (fun j h => by cases h; omega))).drew)
                    clear own6 kt6 kr6 hb6 own7 kt7 kr7 hb7 gr7 hel hkl hkl7
                    skip
                    all_goals
                      go_wp2_with fail
                      generalize World.setCell w6 ⟨g, j * 4 + 3, none⟩ (.int .i64 x) = w7 at *
                      clear c3 f3 t36
                      have hadd := fun w => refAdd s q.net w hfs.out Hqf.out
                      by_cases hf2 : Mon.fits (s + q.net)
                      · simp only [Mon.told_ok hf2] at hadd
                        have Hw3 : Hid (∀ y, wholeTo s t done (q :: ps.drop (j + 1)) = y → y = y) := fun _ _ => rfl
                        have Hst := Lib.hid (fun (h3 : Mon.fits (t + x)) => wholeTo_step (t := t) (done := done) (r := ps.drop (j + 1)) Hy.out hf2 h3)
                        have Hfa := Lib.hid hf2
                        clear hf2 Hw3
                        generalize s + q.net = a at *
                        have own8 := Own8.out a
                        have kt8 := Kt8.out a
                        have d8 := D2.out a
                        have kr8 := Kr8.out a
                        have hb8 := Hb8.out a
                        clear Own8 Kt8 Kr8 Hb8 D2
                        refine wp_region_F (n := 14) (S := fun w' => w'.cell? ⟨w2.heap.size, 3, none⟩ = some (.slice (some ⟨g, 0, none⟩) ps.length cpt) ∧ w'.cell? ⟨g, j * 4 + 2, none⟩ = some (.int .i64 q.net)) (by kernel_rfl) ?_
                        have hHeld : (fun w' : World => w'.cell? ⟨w2.heap.size, 3, none⟩ = some (.slice (some ⟨g, 0, none⟩) ps.length cpt) ∧ w'.cell? ⟨g, j * 4 + 2, none⟩ = some (.int .i64 q.net)) w7.drew := ⟨z3, d2⟩
                        refine wpAnyF_tk 0 (some 199) (Op.fieldAddr 56 (Operand.tmp 8) 0) 0 (v := ?_) rfl (by kernel_rfl) (fun _ _ _ h => h) ?_ hHeld ?_
                        rotate_left
                        · intro w hSw
                          try dsimp only at hSw
                          obtain ⟨_, _⟩ := hSw
                          dsimp only [bare]
                          go_simp <;> with_reducible rfl
                        try simp only [bare, Act.put, List.setIfInBounds_toArray, List.set_cons_zero, List.set_cons_succ]
                        refine wpAnyF_tk 2 (some 201) (Op.fieldAddr 56 (Operand.tmp 8) 3) 0 (v := ?_) rfl (by kernel_rfl) (fun _ _ _ h => h) ?_ hHeld ?_
                        rotate_left
                        · intro w hSw
                          try dsimp only at hSw
                          obtain ⟨_, _⟩ := hSw
                          dsimp only [bare]
                          go_simp <;> with_reducible rfl
                        try simp only [bare, Act.put, List.setIfInBounds_toArray, List.set_cons_zero, List.set_cons_succ]
                        refine wpAnyF_tk 3 (some 202) (Op.load 54 (Operand.tmp 201)) 54 (v := ?_) rfl (by kernel_rfl) (fun _ _ _ h => h) ?_ hHeld ?_
                        rotate_left
                        · intro w hSw
                          try dsimp only at hSw
                          obtain ⟨_, _⟩ := hSw
                          dsimp only [bare]
                          go_simp <;> with_reducible rfl
                        try simp only [bare, Act.put, List.setIfInBounds_toArray, List.set_cons_zero, List.set_cons_succ]
                        refine wpAnyF_tk 4 (some 203) (Op.move (Operand.tmp 16)) 3 (v := ?_) rfl (by kernel_rfl) (fun _ _ _ h => h) ?_ hHeld ?_
                        rotate_left
                        · intro w hSw
                          try dsimp only at hSw
                          obtain ⟨_, _⟩ := hSw
                          dsimp only [bare]
                          go_simp <;> with_reducible rfl
                        try simp only [bare, Act.put, List.setIfInBounds_toArray, List.set_cons_zero, List.set_cons_succ]
                        refine wpAnyF_tk 5 (some 204) (Op.indexAddr 54 (Operand.tmp 202) (Operand.tmp 203)) 0 (v := ?_) rfl (by kernel_rfl) (fun _ _ _ h => h) ?_ hHeld ?_
                        rotate_left
                        · intro w hSw
                          try dsimp only at hSw
                          obtain ⟨_, _⟩ := hSw
                          dsimp only [bare]
                          go_simp <;> with_reducible rfl
                        try simp only [bare, Act.put, List.setIfInBounds_toArray, List.set_cons_zero, List.set_cons_succ]
                        refine wpAnyF_tk 6 (some 205) (Op.fieldAddr 64 (Operand.tmp 204) 2) 0 (v := ?_) rfl (by kernel_rfl) (fun _ _ _ h => h) ?_ hHeld ?_
                        rotate_left
                        · intro w hSw
                          try dsimp only at hSw
                          obtain ⟨_, _⟩ := hSw
                          dsimp only [bare]
                          go_simp <;> with_reducible rfl
                        try simp only [bare, Act.put, List.setIfInBounds_toArray, List.set_cons_zero, List.set_cons_succ]
                        refine wpAnyF_tk 7 (some 206) (Op.load 3 (Operand.tmp 205)) 3 (v := ?_) rfl (by kernel_rfl) (fun _ _ _ h => h) ?_ hHeld ?_
                        rotate_left
                        · intro w hSw
                          try dsimp only at hSw
                          obtain ⟨_, _⟩ := hSw
                          dsimp only [bare]
                          go_simp <;> with_reducible rfl
                        try simp only [bare, Act.put, List.setIfInBounds_toArray, List.set_cons_zero, List.set_cons_succ]
                        refine wpAnyF_one 1 (some 200) (Op.load 3 (Operand.tmp 199)) 3 rfl (by kernel_rfl) (fun K hK => ?_)
                        dsimp only [bare]; go_simp
                        refine hK _ _ ⟨z3, d2⟩ (fun hHeld => ?_)
                        clear hK K
                        refine wpAnyF_one 8 (some 207) (Op.call { callee := Callee.value (Operand.func 60), args := #[Operand.tmp 200, Operand.tmp 206], argTypes := #[3, 3] }) 91 rfl (by kernel_rfl) (fun K hK => ?_)
                        dsimp only [bare]; go_simp
                        refine (hadd _).mono ?_
                        rintro e w' ⟨rfl, rfl⟩
                        dsimp only
                        refine hK _ _ ⟨z3, d2⟩ (fun hHeld => ?_)
                        clear hK K
                        refine wpAnyF_tk 9 (some 198) (Op.move (Operand.tmp 207)) 91 (v := ?_) rfl (by kernel_rfl) (fun _ _ _ h => h) ?_ hHeld ?_
                        rotate_left
                        · intro w hSw
                          try dsimp only at hSw
                          obtain ⟨_, _⟩ := hSw
                          dsimp only [bare]
                          go_simp <;> with_reducible rfl
                        try simp only [bare, Act.put, List.setIfInBounds_toArray, List.set_cons_zero, List.set_cons_succ]
                        refine wpAnyF_tk 10 (some 208) (Op.extract (Operand.tmp 198) 0) 3 (v := ?_) rfl (by kernel_rfl) (fun _ _ _ h => h) ?_ hHeld ?_
                        rotate_left
                        · intro w hSw
                          try dsimp only at hSw
                          obtain ⟨_, _⟩ := hSw
                          dsimp only [bare]
                          go_simp <;> with_reducible rfl
                        try simp only [bare, Act.put, List.setIfInBounds_toArray, List.set_cons_zero, List.set_cons_succ]
                        refine wpAnyF_tk 11 (some 209) (Op.extract (Operand.tmp 198) 1) 3 (v := ?_) rfl (by kernel_rfl) (fun _ _ _ h => h) ?_ hHeld ?_
                        rotate_left
                        · intro w hSw
                          try dsimp only at hSw
                          obtain ⟨_, _⟩ := hSw
                          dsimp only [bare]
                          go_simp <;> with_reducible rfl
                        try simp only [bare, Act.put, List.setIfInBounds_toArray, List.set_cons_zero, List.set_cons_succ]
                        refine wpAnyF_tk 12 (some 210) (Op.fieldAddr 56 (Operand.tmp 8) 0) 0 (v := ?_) rfl (by kernel_rfl) (fun _ _ _ h => h) ?_ hHeld ?_
                        rotate_left
                        · intro w hSw
                          try dsimp only at hSw
                          obtain ⟨_, _⟩ := hSw
                          dsimp only [bare]
                          go_simp <;> with_reducible rfl
                        try simp only [bare, Act.put, List.setIfInBounds_toArray, List.set_cons_zero, List.set_cons_succ]
                        refine wpAnyF_one 13 (none) (Op.store 3 (Operand.tmp 210) (Operand.tmp 208)) 0 rfl (by kernel_rfl) (fun K hK => ?_)
                        dsimp only [bare]; go_simp
                        refine hK _ _ ⟨kt8.cell 3 _ rfl, d8⟩ (fun hHeld => ?_)
                        clear hK K
                        refine wpAnyF_end (some 18) (Op.assign (Operand.tmp 209)) 3 rfl (by kernel_rfl) (by kernel_rfl) (fun K hK => ?_)
                        dsimp only [bare]; go_simp
                        refine hK _ _ ?_
                        clear hK K
                        all_goals
                          generalize (World.setCell w7 ⟨w2.heap.size, 0, none⟩ (.int .i64 a)).drew = w8 at *
                          clear z0 z3 fz0 d2 d8 hadd
                          have z1 := kt8.cell 1 _ rfl
                          have fz1 := kt8.frozen 1
                          have hadd := fun w => refAdd t x w hft.out Hxf.out
                          by_cases hf3 : Mon.fits (t + x)
                          · simp only [Mon.told_ok hf3] at hadd
                            have hw4 := Hst.out hf3
                            have Hw4 : Hid (wholeTo 0 0 [] ps = wholeTo a (t + x) (done ++ [⟨q.cat, q.bp, q.net, x⟩]) (ps.drop (j + 1))) := hwh.out.trans hw4
                            have Hfb := Lib.hid hf3
                            clear hw4 hf3 Hst
                            generalize t + x = b at *
                            have kt9 := kt8.set 1 (.int .i64 b)
                            have gr9 := kt8.setGrown 1 (.int .i64 b)
                            have own9 := own8.grown gr9 (.inr hne)
                            have kr9 := kr8.grown gr9 hne3
                            have hb9 := hb8.trans (below_grown gr9 (by have := hb8.size; omega) (fun j h => by cases h; omega))
                            have Own9 := Lib.hid own9
                            clear own8 own9 kt8 hb8 kr8 gr9
                            go_wp2_with fail
                            with_reducible refine (hadd _).mono ?_
                            rintro e w' ⟨rfl, rfl⟩
                            go_wp2_with fail
                            go_roundw
                            case rel => first | exact ⟨j + 1, a, b, done ++ [⟨q.cat, q.bp, q.net, x⟩], by omega, by go_num, by rw [List.append_assoc]; exact Own9.out, by show _ = _; have := hdl.out; simp; omega, Hw4, Hfa, Hfb, kt9, hb9⟩ | ((repeat apply Exists.intro); exact ⟨⟨j + 1, a, b, done ++ [⟨q.cat, q.bp, q.net, x⟩], by omega, by go_num, by rw [List.append_assoc]; exact Own9.out, by show _ = _; have := hdl.out; simp; omega, Hw4, Hfa, Hfb, kt9, hb9⟩, rfl⟩)
                            case measure => simp [intOf]; omega
                          · simp only [Mon.told_no hf3] at hadd
                            have Hres : Hid (totalV T d ls = .error 7) := by show _ = _; rw [Hvv.out, hwh.out, wholeTo_sum Hy.out hf3]
                            have gr9 := kt8.setGrown 1 (.int .i64 0)
                            have kr9 := kr8.grown gr9 hne3
                            have hb9 := hb8.trans (below_grown gr9 (by have := hb8.size; omega) (fun j h => by cases h; omega))
                            have hbf := b2.trans (hb9.mono b2.size)
                            clear hf3 Hst own8 kt8 hb8 kr8 gr9
                            go_wp2_with fail
                            with_reducible refine (hadd _).mono ?_
                            rintro e w' ⟨rfl, rfl⟩
                            clear hadd
                            have r0 := kr9.cell 0 _ rfl
                            have r1 := kr9.cell 1 _ rfl
                            have r2 := kr9.cell 2 _ rfl
                            have r3 := kr9.cell 3 _ rfl
                            have s0 := kr9.frozen 0
                            have s1 := kr9.frozen 1
                            have s2 := kr9.frozen 2
                            have s3 := kr9.frozen 3
                            have kf := (((kr9.set 0 (.int .i64 0)).set 1 (.int .i64 0)).set 2 (.int .i64 0)).set 3 (.slice none 0 0)
                            have y0 := kf.cell 0 _ rfl
                            have y1 := kf.cell 1 _ rfl
                            have y2 := kf.cell 2 _ rfl
                            have y3 := kf.cell 3 _ rfl
                            go_wp2_with fail
                            refine bodyPost_ret (v := .tuple #[.agg #[.int .i64 0, .int .i64 0, .int .i64 0, .slice none 0 0], .int .i64 7]) (by simp [results, Try.results40, go_sem, y0, y1, y2, y3]) rfl ⟨by rw [Hres.out]; rfl, ?_⟩
                            exact (((hbf.setCell (p := ⟨w0.heap.size + 1, 0, none⟩) (Nat.le_succ _) _).setCell (p := ⟨w0.heap.size + 1, 1, none⟩) (Nat.le_succ _) _).setCell (p := ⟨w0.heap.size + 1, 2, none⟩) (Nat.le_succ _) _).setCell (p := ⟨w0.heap.size + 1, 3, none⟩) (Nat.le_succ _) _
                      · simp only [Mon.told_no hf2] at hadd
                        have Hres : Hid (totalV T d ls = .error 7) := by show _ = _; rw [Hvv.out, hwh.out, wholeTo_net hf2]
                        have kr8 := Kr8.out 0
                        have kt8 := Kt8.out 0
                        have d8 := D2.out 0
                        have hb8 := Hb8.out 0
                        have hbf := b2.trans (hb8.mono b2.size)
                        clear hf2 Own8 Kt8 Kr8 Hb8 D2
                        refine wp_region_F (n := 14) (S := fun w' => w'.cell? ⟨w2.heap.size, 3, none⟩ = some (.slice (some ⟨g, 0, none⟩) ps.length cpt) ∧ w'.cell? ⟨g, j * 4 + 2, none⟩ = some (.int .i64 q.net)) (by kernel_rfl) ?_
                        have hHeld : (fun w' : World => w'.cell? ⟨w2.heap.size, 3, none⟩ = some (.slice (some ⟨g, 0, none⟩) ps.length cpt) ∧ w'.cell? ⟨g, j * 4 + 2, none⟩ = some (.int .i64 q.net)) w7.drew := ⟨z3, d2⟩
                        refine wpAnyF_tk 0 (some 199) (Op.fieldAddr 56 (Operand.tmp 8) 0) 0 (v := ?_) rfl (by kernel_rfl) (fun _ _ _ h => h) ?_ hHeld ?_
                        rotate_left
                        · intro w hSw
                          try dsimp only at hSw
                          obtain ⟨_, _⟩ := hSw
                          dsimp only [bare]
                          go_simp <;> with_reducible rfl
                        try simp only [bare, Act.put, List.setIfInBounds_toArray, List.set_cons_zero, List.set_cons_succ]
                        refine wpAnyF_tk 2 (some 201) (Op.fieldAddr 56 (Operand.tmp 8) 3) 0 (v := ?_) rfl (by kernel_rfl) (fun _ _ _ h => h) ?_ hHeld ?_
                        rotate_left
                        · intro w hSw
                          try dsimp only at hSw
                          obtain ⟨_, _⟩ := hSw
                          dsimp only [bare]
                          go_simp <;> with_reducible rfl
                        try simp only [bare, Act.put, List.setIfInBounds_toArray, List.set_cons_zero, List.set_cons_succ]
                        refine wpAnyF_tk 3 (some 202) (Op.load 54 (Operand.tmp 201)) 54 (v := ?_) rfl (by kernel_rfl) (fun _ _ _ h => h) ?_ hHeld ?_
                        rotate_left
                        · intro w hSw
                          try dsimp only at hSw
                          obtain ⟨_, _⟩ := hSw
                          dsimp only [bare]
                          go_simp <;> with_reducible rfl
                        try simp only [bare, Act.put, List.setIfInBounds_toArray, List.set_cons_zero, List.set_cons_succ]
                        refine wpAnyF_tk 4 (some 203) (Op.move (Operand.tmp 16)) 3 (v := ?_) rfl (by kernel_rfl) (fun _ _ _ h => h) ?_ hHeld ?_
                        rotate_left
                        · intro w hSw
                          try dsimp only at hSw
                          obtain ⟨_, _⟩ := hSw
                          dsimp only [bare]
                          go_simp <;> with_reducible rfl
                        try simp only [bare, Act.put, List.setIfInBounds_toArray, List.set_cons_zero, List.set_cons_succ]
                        refine wpAnyF_tk 5 (some 204) (Op.indexAddr 54 (Operand.tmp 202) (Operand.tmp 203)) 0 (v := ?_) rfl (by kernel_rfl) (fun _ _ _ h => h) ?_ hHeld ?_
                        rotate_left
                        · intro w hSw
                          try dsimp only at hSw
                          obtain ⟨_, _⟩ := hSw
                          dsimp only [bare]
                          go_simp <;> with_reducible rfl
                        try simp only [bare, Act.put, List.setIfInBounds_toArray, List.set_cons_zero, List.set_cons_succ]
                        refine wpAnyF_tk 6 (some 205) (Op.fieldAddr 64 (Operand.tmp 204) 2) 0 (v := ?_) rfl (by kernel_rfl) (fun _ _ _ h => h) ?_ hHeld ?_
                        rotate_left
                        · intro w hSw
                          try dsimp only at hSw
                          obtain ⟨_, _⟩ := hSw
                          dsimp only [bare]
                          go_simp <;> with_reducible rfl
                        try simp only [bare, Act.put, List.setIfInBounds_toArray, List.set_cons_zero, List.set_cons_succ]
                        refine wpAnyF_tk 7 (some 206) (Op.load 3 (Operand.tmp 205)) 3 (v := ?_) rfl (by kernel_rfl) (fun _ _ _ h => h) ?_ hHeld ?_
                        rotate_left
                        · intro w hSw
                          try dsimp only at hSw
                          obtain ⟨_, _⟩ := hSw
                          dsimp only [bare]
                          go_simp <;> with_reducible rfl
                        try simp only [bare, Act.put, List.setIfInBounds_toArray, List.set_cons_zero, List.set_cons_succ]
                        refine wpAnyF_one 1 (some 200) (Op.load 3 (Operand.tmp 199)) 3 rfl (by kernel_rfl) (fun K hK => ?_)
                        dsimp only [bare]; go_simp
                        refine hK _ _ ⟨z3, d2⟩ (fun hHeld => ?_)
                        clear hK K
                        refine wpAnyF_one 8 (some 207) (Op.call { callee := Callee.value (Operand.func 60), args := #[Operand.tmp 200, Operand.tmp 206], argTypes := #[3, 3] }) 91 rfl (by kernel_rfl) (fun K hK => ?_)
                        dsimp only [bare]; go_simp
                        refine (hadd _).mono ?_
                        rintro e w' ⟨rfl, rfl⟩
                        dsimp only
                        refine hK _ _ ⟨z3, d2⟩ (fun hHeld => ?_)
                        clear hK K
                        refine wpAnyF_tk 9 (some 198) (Op.move (Operand.tmp 207)) 91 (v := ?_) rfl (by kernel_rfl) (fun _ _ _ h => h) ?_ hHeld ?_
                        rotate_left
                        · intro w hSw
                          try dsimp only at hSw
                          obtain ⟨_, _⟩ := hSw
                          dsimp only [bare]
                          go_simp <;> with_reducible rfl
                        try simp only [bare, Act.put, List.setIfInBounds_toArray, List.set_cons_zero, List.set_cons_succ]
                        refine wpAnyF_tk 10 (some 208) (Op.extract (Operand.tmp 198) 0) 3 (v := ?_) rfl (by kernel_rfl) (fun _ _ _ h => h) ?_ hHeld ?_
                        rotate_left
                        · intro w hSw
                          try dsimp only at hSw
                          obtain ⟨_, _⟩ := hSw
                          dsimp only [bare]
                          go_simp <;> with_reducible rfl
                        try simp only [bare, Act.put, List.setIfInBounds_toArray, List.set_cons_zero, List.set_cons_succ]
                        refine wpAnyF_tk 11 (some 209) (Op.extract (Operand.tmp 198) 1) 3 (v := ?_) rfl (by kernel_rfl) (fun _ _ _ h => h) ?_ hHeld ?_
                        rotate_left
                        · intro w hSw
                          try dsimp only at hSw
                          obtain ⟨_, _⟩ := hSw
                          dsimp only [bare]
                          go_simp <;> with_reducible rfl
                        try simp only [bare, Act.put, List.setIfInBounds_toArray, List.set_cons_zero, List.set_cons_succ]
                        refine wpAnyF_tk 12 (some 210) (Op.fieldAddr 56 (Operand.tmp 8) 0) 0 (v := ?_) rfl (by kernel_rfl) (fun _ _ _ h => h) ?_ hHeld ?_
                        rotate_left
                        · intro w hSw
                          try dsimp only at hSw
                          obtain ⟨_, _⟩ := hSw
                          dsimp only [bare]
                          go_simp <;> with_reducible rfl
                        try simp only [bare, Act.put, List.setIfInBounds_toArray, List.set_cons_zero, List.set_cons_succ]
                        refine wpAnyF_one 13 (none) (Op.store 3 (Operand.tmp 210) (Operand.tmp 208)) 0 rfl (by kernel_rfl) (fun K hK => ?_)
                        dsimp only [bare]; go_simp
                        refine hK _ _ ⟨kt8.cell 3 _ rfl, d8⟩ (fun hHeld => ?_)
                        clear hK K
                        refine wpAnyF_end (some 18) (Op.assign (Operand.tmp 209)) 3 rfl (by kernel_rfl) (by kernel_rfl) (fun K hK => ?_)
                        dsimp only [bare]; go_simp
                        refine hK _ _ ?_
                        clear hK K
                        all_goals
                          generalize (World.setCell w7 ⟨w2.heap.size, 0, none⟩ (.int .i64 0)).drew = w8 at *
                          clear z0 z3 fz0 d2 d8 hadd
                          have r0 := kr8.cell 0 _ rfl
                          have r1 := kr8.cell 1 _ rfl
                          have r2 := kr8.cell 2 _ rfl
                          have r3 := kr8.cell 3 _ rfl
                          have s0 := kr8.frozen 0
                          have s1 := kr8.frozen 1
                          have s2 := kr8.frozen 2
                          have s3 := kr8.frozen 3
                          have kf := (((kr8.set 0 (.int .i64 0)).set 1 (.int .i64 0)).set 2 (.int .i64 0)).set 3 (.slice none 0 0)
                          have y0 := kf.cell 0 _ rfl
                          have y1 := kf.cell 1 _ rfl
                          have y2 := kf.cell 2 _ rfl
                          have y3 := kf.cell 3 _ rfl
                          go_wp2_with fail
                          refine bodyPost_ret (v := .tuple #[.agg #[.int .i64 0, .int .i64 0, .int .i64 0, .slice none 0 0], .int .i64 7]) (by simp [results, Try.results40, go_sem, y0, y1, y2, y3]) rfl ⟨by rw [Hres.out]; rfl, ?_⟩
                          exact (((hbf.setCell (p := ⟨w0.heap.size + 1, 0, none⟩) (Nat.le_succ _) _).setCell (p := ⟨w0.heap.size + 1, 1, none⟩) (Nat.le_succ _) _).setCell (p := ⟨w0.heap.size + 1, 2, none⟩) (Nat.le_succ _) _).setCell (p := ⟨w0.heap.size + 1, 3, none⟩) (Nat.le_succ _) _
                · have hi2 : ¬ (j : Int) < (ps.length : Int) := by omega
                  have hke : j = ps.length := by omega
                  rw [List.drop_of_length_le (by omega)] at ownY hwh
                  rw [List.append_nil] at ownY
                  have hwh2 := hwh.out
                  rw [wholeTo_end] at hwh2
                  have Hw := Lib.hid (Hvv.out.trans hwh2)
                  have z0 := kt1.cell 0 _ rfl
                  have z1 := kt1.cell 1 _ rfl
                  have z2 := kt1.cell 2 _ rfl
                  have fz2 := kt1.frozen 2
                  have hadd := fun w => refAdd s t w hfs.out hft.out
                  have hlo := ownY.lt
                  have hrl := kr2.lt
                  have hne3 : (some w2.heap.size : Option Nat) ≠ some (w0.heap.size + 1) := fun e => by have := Option.some.inj e; omega
                  clear hwh2 hke
                  go_wp2_with fail
                  with_reducible refine (hadd _).mono ?_
                  rintro e w' ⟨rfl, rfl⟩
                  by_cases hz : Mon.fits (s + t)
                  · rw [Mon.told_ok hz]
                    have hr := Hw.out
                    rw [if_pos hz] at hr
                    have Hr := Lib.hid hr
                    have kt2 := kt1.set 2 (.int .i64 (s + t))
                    have gr2 := kt1.setGrown 2 (.int .i64 (s + t))
                    have own2 := ownY.grown gr2 (.inr (by intro e; have := (hlo _ e).1; omega))
                    have kr3 := krq.grown gr2 hne3
                    have hb2 := hbw.trans (below_grown gr2 (by have := hbw.size; omega) (fun j h => by cases h; omega))
                    generalize s + t = z at *
                    have x0 := kt2.cell 0 _ rfl
                    have x1 := kt2.cell 1 _ rfl
                    have x2 := kt2.cell 2 _ rfl
                    have x3 := kt2.cell 3 _ rfl
                    have u0 := kr3.cell 0 _ rfl
                    have u1 := kr3.cell 1 _ rfl
                    have u2 := kr3.cell 2 _ rfl
                    have u3 := kr3.cell 3 _ rfl
                    have s0 := kr3.frozen 0
                    have s1 := kr3.frozen 1
                    have s2 := kr3.frozen 2
                    have s3 := kr3.frozen 3
                    have kf := (((kr3.set 0 (.int .i64 s)).set 1 (.int .i64 t)).set 2 (.int .i64 z)).set 3 (.slice pt ps.length cpt)
                    have gf := grown_tr (grown_tr (grown_tr (kr3.setGrown 0 (.int .i64 s)) ((kr3.set 0 (.int .i64 s)).setGrown 1 (.int .i64 t))) (((kr3.set 0 (.int .i64 s)).set 1 (.int .i64 t)).setGrown 2 (.int .i64 z))) ((((kr3.set 0 (.int .i64 s)).set 1 (.int .i64 t)).set 2 (.int .i64 z)).setGrown 3 (.slice pt ps.length cpt))
                    have ownf := own2.grown gf (.inr (by intro e; have := (hlo _ e).1; omega))
                    have y0 := kf.cell 0 _ rfl
                    have y1 := kf.cell 1 _ rfl
                    have y2 := kf.cell 2 _ rfl
                    have y3 := kf.cell 3 _ rfl
                    have Ownf := Lib.hid ownf
                    have hbf := (b2.trans (hb2.mono b2.size)).trans (below_grown gf (by have := hb2.size; omega) (fun j h => by cases h; omega))
                    clear hr hz hadd own2 ownf ownY z0 z1 gf kf gr2 t3
                    go_wp2_with fail
                    refine bodyPost_ret (v := .tuple #[.agg #[.int .i64 s, .int .i64 t, .int .i64 z, .slice pt ps.length cpt], .int .i64 0]) (by simp [results, Try.results40, go_sem, y0, y1, y2, y3]) rfl ⟨by rw [Hr.out]; exact ⟨_, rfl, Ownf.out.base (by omega)⟩, hbf⟩
                  · rw [Mon.told_no hz]
                    have hr := Hw.out
                    rw [if_neg hz] at hr
                    have Hr := Lib.hid hr
                    have hbf := b2.trans (hbw.mono b2.size)
                    clear hr hz hadd ownY z0 z1 z2 t3
                    have r0 := krq.cell 0 _ rfl
                    have r1 := krq.cell 1 _ rfl
                    have r2 := krq.cell 2 _ rfl
                    have r3 := krq.cell 3 _ rfl
                    have s0 := krq.frozen 0
                    have s1 := krq.frozen 1
                    have s2 := krq.frozen 2
                    have s3 := krq.frozen 3
                    have kf := (((krq.set 0 (.int .i64 0)).set 1 (.int .i64 0)).set 2 (.int .i64 0)).set 3 (.slice none 0 0)
                    have y0 := kf.cell 0 _ rfl
                    have y1 := kf.cell 1 _ rfl
                    have y2 := kf.cell 2 _ rfl
                    have y3 := kf.cell 3 _ rfl
                    go_wp2_with fail
                    refine bodyPost_ret (v := .tuple #[.agg #[.int .i64 0, .int .i64 0, .int .i64 0, .slice none 0 0], .int .i64 7]) (by simp [results, Try.results40, go_sem, y0, y1, y2, y3]) rfl ⟨by rw [Hr.out]; rfl, ?_⟩
                    exact (((hbf.setCell (p := ⟨w0.heap.size + 1, 0, none⟩) (Nat.le_succ _) _).setCell (p := ⟨w0.heap.size + 1, 1, none⟩) (Nat.le_succ _) _).setCell (p := ⟨w0.heap.size + 1, 2, none⟩) (Nat.le_succ _) _).setCell (p := ⟨w0.heap.size + 1, 3, none⟩) (Nat.le_succ _) _
end Go.Proofs.Ytpobhlnlnplbdaa
