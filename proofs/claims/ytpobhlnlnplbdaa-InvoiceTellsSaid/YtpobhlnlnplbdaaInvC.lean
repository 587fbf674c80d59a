/- The walk of invoice.Total. -/
import Derived.Test.YtpobhlnlnplbdaaInvB
namespace Go.Proofs.Ytpobhlnlnplbdaa
open Go Go.RowKit BigFrame
theorem int_ne {a : Int} (h : a ≠ 0) : (a == 0) = false := by simpa using h
theorem TellsTot.uni2 {w' : World} {B : Nat} {r : Except Int Tot} {e : Ending} (h : TellsTot w' B r e) :
    ∃ v, e = .returned (.tuple #[.agg #[.int .i64 (resT r).net, .int .i64 (resT r).tax, .int .i64 (resT r).gross, v], .int .i64 (errT r)]) ∧ OwnR partE w' B 64 v (resT r).parts ∧ ∀ n, r = .error n → v = .slice none 0 0 := by
  cases r with
  | ok t => obtain ⟨v, h1, h2⟩ := h; exact ⟨v, h1, h2, fun n hn => by cases hn⟩
  | error n => exact ⟨_, h, OwnR.nil _ _ _, fun _ _ => rfl⟩
theorem ln4 {w : World} {b off n c : Nat} {l : List Ln} (h : Rd lnE w (.slice (some ⟨b, off, none⟩) n c) l) {k : Nat} (hk : k < l.length) :
    w.cell? ⟨b, off + k * 4, none⟩ = some (.string l[k].text) ∧ w.cell? ⟨b, off + k * 4 + 1, none⟩ = some (.string l[k].cat) ∧ w.cell? ⟨b, off + k * 4 + 2, none⟩ = some (.int .i64 l[k].count) ∧ w.cell? ⟨b, off + k * 4 + 3, none⟩ = some (.int .i64 l[k].price) :=
  ⟨h.at_ hk 0 (by decide), h.at_ hk 1 (by decide), h.at_ hk 2 (by decide), h.at_ hk 3 (by decide)⟩
theorem lines_bad {T : List Rate} {d : Day} {ps : List Part} {ls : List Ln} {k : Nat} {n : Int} (hk : k < ls.length) (h : lineV T d ls[k] = .error n) : partsV T d ps (ls.drop k) = .error n := by rw [partsV_step hk, h]
theorem lines_over {T : List Rate} {d : Day} {ps : List Part} {ls : List Ln} {k : Nat} {b : Int × Int} {n : Int} (hk : k < ls.length) (h : lineV T d ls[k] = .ok b) (h2 : putP ps ls[k].cat b.1 b.2 = .error n) : partsV T d ps (ls.drop k) = .error n := by rw [partsV_step hk, h]; simp only; rw [h2]
theorem lines_next {T : List Rate} {d : Day} {ps qs : List Part} {ls : List Ln} {k : Nat} {b : Int × Int} (hk : k < ls.length) (h : lineV T d ls[k] = .ok b) (h2 : putP ps ls[k].cat b.1 b.2 = .ok qs) : partsV T d ps (ls.drop k) = partsV T d qs (ls.drop (k + 1)) := by rw [partsV_step hk, h]; simp only; rw [h2]
theorem putP_error {ps : List Part} {c : ByteArray} {bp n e : Int} (h : putP ps c bp n = .error e) : e = 7 := by
  rw [putP_eq] at h; split at h
  · cases h
  · cases h; rfl

set_option maxHeartbeats 8000000 in
set_option maxRecDepth 100000 in
theorem invTotal (vt vl : Value) (T : List Rate) (d : Day) (ls : List Ln) (w : World) (ht : Rd rateE w vt T) (hv : Rd lnE w vl ls) (hf : ∀ x ∈ ls, Mon.fits x.count ∧ Mon.fits x.price) :
    Calls Try.prog 35 #[vt, .agg #[.int .i64 d.y, .int .i64 d.m, .int .i64 d.d], vl] w fun e w' => TellsTot w' w.heap.size (totalV T d ls) e ∧ Below w.heap.size w w' := by
  obtain ⟨w0, hw0⟩ : ∃ w0, w0 = w := ⟨_, rfl⟩
  rw [← hw0] at ht hv ⊢
  clear hw0
  obtain ⟨p, cap, rfl, h1, h2, h3, h4⟩ := hv.form
  clear h3 h4
  unfold maxLen at h2
  have Hf := Lib.hid hf
  clear hf
  have hb1 := below_alloc w0 (.cells #[.int .i64 d.y, .int .i64 d.m, .int .i64 d.d] 23)
  have kd0 := Blk.new w0 #[.int .i64 d.y, .int .i64 d.m, .int .i64 d.d] 23
  have hb2 := below_alloc (w0.alloc (.cells #[.int .i64 d.y, .int .i64 d.m, .int .i64 d.d] 23)) (.cells #[.int .i64 0, .int .i64 0, .int .i64 0, .slice none 0 0] 56)
  have kr := Blk.new (w0.alloc (.cells #[.int .i64 d.y, .int .i64 d.m, .int .i64 d.d] 23)) #[.int .i64 0, .int .i64 0, .int .i64 0, .slice none 0 0] 56
  have kd := kd0.ext hb2
  have hbb := hb1.trans (hb2.mono hb1.size)
  have hs2 : (w0.alloc (.cells #[.int .i64 d.y, .int .i64 d.m, .int .i64 d.d] 23)).heap.size = w0.heap.size + 1 := by simp
  rw [hs2] at kr
  have htW := ht.ext hbb
  have hvW := hv.ext hbb
  clear hb1 hb2 kd0 hs2 ht hv
  go_enter Try.func35, Try.ntmps35
  go_wp2_with fail
  generalize hW : (w0.alloc (.cells #[.int .i64 d.y, .int .i64 d.m, .int .i64 d.d] 23)).alloc (.cells #[.int .i64 0, .int .i64 0, .int .i64 0, .slice none 0 0] 56) = W at *
  clear hW
  with_reducible refine (vatRight _ T _ htW).mono ?_
  rintro e w1 ⟨rfl, c1⟩
  have b1 := hbb.trans (c1.mono hbb.size)
  have kd1 := kd.ext c1
  have kr1 := kr.ext c1
  have ht1 := htW.ext c1
  have hv1 := hvW.ext c1
  clear hbb kd kr htW hvW c1
  cases hr : rightT T with
  | false =>
    have Hv := Lib.hid (total_arg (d := d) (ls := ls) hr)
    clear hr
    have r0 := kr1.cell 0 _ rfl
    have r1 := kr1.cell 1 _ rfl
    have r2 := kr1.cell 2 _ rfl
    have r3 := kr1.cell 3 _ rfl
    have s0 := kr1.frozen 0
    have s1 := kr1.frozen 1
    have s2 := kr1.frozen 2
    have s3 := kr1.frozen 3
    have kf := (((kr1.set 0 (.int .i64 0)).set 1 (.int .i64 0)).set 2 (.int .i64 0)).set 3 (.slice none 0 0)
    have y0 := kf.cell 0 _ rfl
    have y1 := kf.cell 1 _ rfl
    have y2 := kf.cell 2 _ rfl
    have y3 := kf.cell 3 _ rfl
    go_wp2_with fail
    refine bodyPost_ret (v := .tuple #[.agg #[.int .i64 0, .int .i64 0, .int .i64 0, .slice none 0 0], .int .i64 1]) (by simp [results, Try.results35, go_sem, y0, y1, y2, y3]) rfl ⟨by rw [Hv.out]; rfl, ?_⟩
    exact (((b1.setCell (p := ⟨w0.heap.size + 1, 0, none⟩) (Nat.le_succ _) _).setCell (p := ⟨w0.heap.size + 1, 1, none⟩) (Nat.le_succ _) _).setCell (p := ⟨w0.heap.size + 1, 2, none⟩) (Nat.le_succ _) _).setCell (p := ⟨w0.heap.size + 1, 3, none⟩) (Nat.le_succ _) _
  | true =>
    have Hr := Lib.hid hr
    clear hr
    have d0 := kd1.cell 0 _ rfl
    have d1 := kd1.cell 1 _ rfl
    have d2 := kd1.cell 2 _ rfl
    go_wp2_with fail
    with_reducible refine (dateRight d _).mono ?_
    rintro e w2 ⟨rfl, c2⟩
    have b2 := b1.trans (c2.mono b1.size)
    have kd2 := kd1.ext c2
    have kr2 := kr1.ext c2
    have ht2 := ht1.ext c2
    have hv2 := hv1.ext c2
    clear b1 kd1 kr1 ht1 hv1 c2 d0 d1 d2
    cases hd : rightD d with
    | false =>
      have Hv := Lib.hid (total_day (ls := ls) Hr.out hd)
      clear hd
      have r0 := kr2.cell 0 _ rfl
      have r1 := kr2.cell 1 _ rfl
      have r2 := kr2.cell 2 _ rfl
      have r3 := kr2.cell 3 _ rfl
      have s0 := kr2.frozen 0
      have s1 := kr2.frozen 1
      have s2 := kr2.frozen 2
      have s3 := kr2.frozen 3
      have kf := (((kr2.set 0 (.int .i64 0)).set 1 (.int .i64 0)).set 2 (.int .i64 0)).set 3 (.slice none 0 0)
      have y0 := kf.cell 0 _ rfl
      have y1 := kf.cell 1 _ rfl
      have y2 := kf.cell 2 _ rfl
      have y3 := kf.cell 3 _ rfl
      go_wp2_with fail
      refine bodyPost_ret (v := .tuple #[.agg #[.int .i64 0, .int .i64 0, .int .i64 0, .slice none 0 0], .int .i64 9]) (by simp [results, Try.results35, go_sem, y0, y1, y2, y3]) rfl ⟨by rw [Hv.out]; rfl, ?_⟩
      exact (((b2.setCell (p := ⟨w0.heap.size + 1, 0, none⟩) (Nat.le_succ _) _).setCell (p := ⟨w0.heap.size + 1, 1, none⟩) (Nat.le_succ _) _).setCell (p := ⟨w0.heap.size + 1, 2, none⟩) (Nat.le_succ _) _).setCell (p := ⟨w0.heap.size + 1, 3, none⟩) (Nat.le_succ _) _
    | true =>
      have Hd := Lib.hid hd
      clear hd
      by_cases h0 : ls.length = 0
      · have Hv := Lib.hid (total_none Hr.out Hd.out h0)
        have hz1 : (ls.length == 0) = true := by simpa using h0
        have hz2 : ((ls.length : Int) == 0) = true := by rw [h0]; rfl
        clear h0
        have r0 := kr2.cell 0 _ rfl
        have r1 := kr2.cell 1 _ rfl
        have r2 := kr2.cell 2 _ rfl
        have r3 := kr2.cell 3 _ rfl
        have s0 := kr2.frozen 0
        have s1 := kr2.frozen 1
        have s2 := kr2.frozen 2
        have s3 := kr2.frozen 3
        have kf := (((kr2.set 0 (.int .i64 0)).set 1 (.int .i64 0)).set 2 (.int .i64 0)).set 3 (.slice none 0 0)
        have y0 := kf.cell 0 _ rfl
        have y1 := kf.cell 1 _ rfl
        have y2 := kf.cell 2 _ rfl
        have y3 := kf.cell 3 _ rfl
        go_wp2_with fail
        refine bodyPost_ret (v := .tuple #[.agg #[.int .i64 0, .int .i64 0, .int .i64 0, .slice none 0 0], .int .i64 1]) (by simp [results, Try.results35, go_sem, y0, y1, y2, y3]) rfl ⟨by rw [Hv.out]; rfl, ?_⟩
        exact (((b2.setCell (p := ⟨w0.heap.size + 1, 0, none⟩) (Nat.le_succ _) _).setCell (p := ⟨w0.heap.size + 1, 1, none⟩) (Nat.le_succ _) _).setCell (p := ⟨w0.heap.size + 1, 2, none⟩) (Nat.le_succ _) _).setCell (p := ⟨w0.heap.size + 1, 3, none⟩) (Nat.le_succ _) _
      · have hz1 : (ls.length == 0) = false := by simpa using h0
        have hz2 : ((ls.length : Int) == 0) = false := int_ne (by omega)
        by_cases h12 : 12 < ls.length
        · have Hv := Lib.hid (total_long Hr.out Hd.out h0 h12)
          have hi12 : (12 : Int) < (ls.length : Int) := by omega
          clear h0
          have r0 := kr2.cell 0 _ rfl
          have r1 := kr2.cell 1 _ rfl
          have r2 := kr2.cell 2 _ rfl
          have r3 := kr2.cell 3 _ rfl
          have s0 := kr2.frozen 0
          have s1 := kr2.frozen 1
          have s2 := kr2.frozen 2
          have s3 := kr2.frozen 3
          have kf := (((kr2.set 0 (.int .i64 0)).set 1 (.int .i64 0)).set 2 (.int .i64 0)).set 3 (.slice none 0 0)
          have y0 := kf.cell 0 _ rfl
          have y1 := kf.cell 1 _ rfl
          have y2 := kf.cell 2 _ rfl
          have y3 := kf.cell 3 _ rfl
          go_wp2_with fail
          refine bodyPost_ret (v := .tuple #[.agg #[.int .i64 0, .int .i64 0, .int .i64 0, .slice none 0 0], .int .i64 2]) (by simp [results, Try.results35, go_sem, y0, y1, y2, y3]) rfl ⟨by rw [Hv.out]; rfl, ?_⟩
          exact (((b2.setCell (p := ⟨w0.heap.size + 1, 0, none⟩) (Nat.le_succ _) _).setCell (p := ⟨w0.heap.size + 1, 1, none⟩) (Nat.le_succ _) _).setCell (p := ⟨w0.heap.size + 1, 2, none⟩) (Nat.le_succ _) _).setCell (p := ⟨w0.heap.size + 1, 3, none⟩) (Nat.le_succ _) _
        · have Hv := Lib.hid (total_is (T := T) Hr.out Hd.out h0 h12)
          have hi12 : ¬ (12 : Int) < (ls.length : Int) := by omega
          clear h0
          have hsz := b2.size
          have hB := Nat.le_refl w2.heap.size
          have hN1 : w0.heap.size + 1 < w2.heap.size := kr2.lt
          go_wp2_with fail
          go_loopw [8, 36] (fun t i wr => ∃ (k : Nat) (ps : List Part), k ≤ ls.length ∧ i = .int .i64 k ∧ OwnR partE wr w2.heap.size 64 t ps ∧ Hid (GoodP ps) ∧ ps.length ≤ k ∧ Hid (partsV T d [] ls = partsV T d ps (ls.drop k)) ∧ Below w2.heap.size w2 wr) (fun _ i _ => ls.length - (intOf i).toNat)
          case atStart => exact ⟨0, [], by omega, rfl, OwnR.nil _ _ _, GoodP.nil, by simp, rfl, Below.refl _ _⟩
          case round =>
            obtain ⟨k, ps, hk, rfl, own, hgp, hpl, hpv, hb⟩ := hrel
            have hki0 : (0 : Int) ≤ (k : Int) := by omega
            by_cases hlt : k < ls.length
            · have hi : (k : Int) < (ls.length : Int) := by omega
              obtain ⟨bb, off, rfl⟩ := Rd.blk hv2 (by omega)
              obtain ⟨x0, x1, x2, x3⟩ := ln4 (hv2.ext hb) hlt
              have hfx := Hf.out _ (List.getElem_mem hlt)
              have hbad := Lib.hid (fun n h => hpv.out.trans (lines_bad (ps := ps) (n := n) hlt h))
              have hovr := Lib.hid (fun b n h h2 => hpv.out.trans (lines_over (ps := ps) (b := b) (n := n) hlt h h2))
              have hnxt := Lib.hid (fun b qs h h2 => hpv.out.trans (lines_next (ps := ps) (b := b) (qs := qs) hlt h h2))
              have hszr := hb.size
              have kdr := kd2.ext hb
              have krr := kr2.ext hb
              have htr := ht2.ext hb
              clear hpv
              generalize ls[k] = x at *
              have ca := below_alloc wr (.cells #[.string x.text, .string x.cat, .int .i64 x.count, .int .i64 x.price] 60)
              have kx := Blk.new wr #[.string x.text, .string x.cat, .int .i64 x.count, .int .i64 x.price] 60
              have hba := hb.trans (ca.mono hszr)
              have kda := kdr.ext ca
              have kra := krr.ext ca
              have hta := htr.ext ca
              have owna := own.ext ca
              have d0 := kda.cell 0 _ rfl
              have d1 := kda.cell 1 _ rfl
              have d2 := kda.cell 2 _ rfl
              have g0 := kx.cell 0 _ rfl
              have g1 := kx.cell 1 _ rfl
              have g2 := kx.cell 2 _ rfl
              have g3 := kx.cell 3 _ rfl
              obtain ⟨hfx1, hfx2⟩ := hfx
              obtain ⟨pt, ct, rfl⟩ := own.rd.shape
              clear kdr krr htr own hb
              go_wp2_with fail
              generalize hwa : wr.alloc (.cells #[.string x.text, .string x.cat, .int .i64 x.count, .int .i64 x.price] 60) = wa at *
              clear hwa ca
              with_reducible refine (invLine vt T d x _ hta hfx1 hfx2).mono ?_
              rintro e w3 ⟨hL, c3⟩
              have own3 := owna.ext c3
              have hsa := hba.size
              have hb3 := hba.trans (c3.mono hsa)
              have kr3 := kra.ext c3
              have k3 := kx.ext c3
              clear owna hba kda kra hta kx c3 d0 d1 d2 g0 g1 g2 g3 x0 x1 x2 x3
              obtain ⟨res, hres⟩ : ∃ z, lineV T d x = z := ⟨_, rfl⟩
              rw [hres] at hL
              cases res with
              | error n =>
                obtain ⟨a, rfl, hn⟩ := hL
                have hq := hbad.out n hres
                have hvv := Hv.out
                rw [hq] at hvv
                have Hvv := Lib.hid hvv
                have n1 := ne_beq hn
                have n2 := ne_bne hn
                have hbf := b2.trans (hb3.mono b2.size)
                clear hq hvv hn hres
                have r0 := kr3.cell 0 _ rfl
                have r1 := kr3.cell 1 _ rfl
                have r2 := kr3.cell 2 _ rfl
                have r3 := kr3.cell 3 _ rfl
                have s0 := kr3.frozen 0
                have s1 := kr3.frozen 1
                have s2 := kr3.frozen 2
                have s3 := kr3.frozen 3
                have kf := (((kr3.set 0 (.int .i64 0)).set 1 (.int .i64 0)).set 2 (.int .i64 0)).set 3 (.slice none 0 0)
                have y0 := kf.cell 0 _ rfl
                have y1 := kf.cell 1 _ rfl
                have y2 := kf.cell 2 _ rfl
                have y3 := kf.cell 3 _ rfl
                go_wp2_with fail
                refine bodyPost_ret (v := .tuple #[.agg #[.int .i64 0, .int .i64 0, .int .i64 0, .slice none 0 0], .int .i64 n]) (by simp [results, Try.results35, go_sem, y0, y1, y2, y3]) rfl ⟨by rw [Hvv.out]; rfl, ?_⟩
                exact (((hbf.setCell (p := ⟨w0.heap.size + 1, 0, none⟩) (Nat.le_succ _) _).setCell (p := ⟨w0.heap.size + 1, 1, none⟩) (Nat.le_succ _) _).setCell (p := ⟨w0.heap.size + 1, 2, none⟩) (Nat.le_succ _) _).setCell (p := ⟨w0.heap.size + 1, 3, none⟩) (Nat.le_succ _) _
              | ok b =>
                obtain ⟨ln1, ln2, ln3, ln4', ln5, ln6, ln7, ln8, ln9⟩ := line_ok hres
                change _ = _ at hL
                subst hL
                have y1 := k3.cell 1 _ rfl
                have hover := Lib.hid (fun n h => hovr.out b n hres h)
                have hnext := Lib.hid (fun qs h => hnxt.out b qs hres h)
                obtain ⟨b, z⟩ := b
                have hBw : w2.heap.size ≤ w3.heap.size := hb3.size
                clear ln1 ln2 ln3 ln4' ln5 ln6 hbad hovr hnxt hres
                go_wp2_with fail
                with_reducible refine (invPut w2.heap.size _ ps x.cat b z _ own3 hBw hgp.out ln7 (by omega)).mono ?_
                rintro e w4 ⟨⟨v4, qs, rfl, own4, hqs⟩, c4⟩
                have hb4 := hb3.trans c4
                have kr4 := kr3.below c4 hN1
                clear own3 k3 kr3 hb3 y1 c4
                obtain ⟨res, hres⟩ : ∃ z', putP ps x.cat b z = z' := ⟨_, rfl⟩
                rw [hres] at hqs ⊢
                cases res with
                | error n =>
                  have hn7 := putP_error hres
                  have hq := hover.out n hres
                  have hvv := Hv.out
                  rw [hq] at hvv
                  have Hvv := Lib.hid hvv
                  subst hn7
                  have hbf := b2.trans (hb4.mono b2.size)
                  clear hq hvv hres
                  rw [show resE (.error 7 : Except Int (List Part)) = 7 from rfl]
                  have r0 := kr4.cell 0 _ rfl
                  have r1 := kr4.cell 1 _ rfl
                  have r2 := kr4.cell 2 _ rfl
                  have r3 := kr4.cell 3 _ rfl
                  have s0 := kr4.frozen 0
                  have s1 := kr4.frozen 1
                  have s2 := kr4.frozen 2
                  have s3 := kr4.frozen 3
                  have kf := (((kr4.set 0 (.int .i64 0)).set 1 (.int .i64 0)).set 2 (.int .i64 0)).set 3 (.slice none 0 0)
                  have y0 := kf.cell 0 _ rfl
                  have y1 := kf.cell 1 _ rfl
                  have y2 := kf.cell 2 _ rfl
                  have y3 := kf.cell 3 _ rfl
                  go_wp2_with fail
                  refine bodyPost_ret (v := .tuple #[.agg #[.int .i64 0, .int .i64 0, .int .i64 0, .slice none 0 0], .int .i64 7]) (by simp [results, Try.results35, go_sem, y0, y1, y2, y3]) rfl ⟨by rw [Hvv.out]; rfl, ?_⟩
                  exact (((hbf.setCell (p := ⟨w0.heap.size + 1, 0, none⟩) (Nat.le_succ _) _).setCell (p := ⟨w0.heap.size + 1, 1, none⟩) (Nat.le_succ _) _).setCell (p := ⟨w0.heap.size + 1, 2, none⟩) (Nat.le_succ _) _).setCell (p := ⟨w0.heap.size + 1, 3, none⟩) (Nat.le_succ _) _
                | ok rs =>
                  have e1 := hqs rs rfl
                  subst e1
                  have hgq := putP_good hgp.out ⟨ln8, ln9⟩ hres
                  have hq := hnext.out qs hres
                  have Hq := Lib.hid hq
                  have hgq1 := Lib.hid hgq.1
                  have hgq2 := hgq.2
                  clear hq hgq hres hqs
                  rw [show resE (.ok qs : Except Int (List Part)) = 0 from rfl]
                  go_wp2_with fail
                  go_roundw
                  case rel => exact ⟨k + 1, qs, by omega, by go_num, own4, hgq1, by omega, Hq, hb4⟩
                  case measure => simp [intOf]; omega
            · have hi : ¬ (k : Int) < (ls.length : Int) := by omega
              have hpe := hpv.out
              rw [partsV_end (by omega)] at hpe
              have hvv := Hv.out
              rw [hpe] at hvv
              have Hvv := Lib.hid hvv
              have hszr := hb.size
              have krr := kr2.ext hb
              obtain ⟨pt, ct, rfl⟩ := own.rd.shape
              clear hpe hvv hpv
              go_wp2_with fail
              with_reducible refine (invWhole w2.heap.size _ ps _ own hszr hgp.out (by omega)).mono ?_
              rintro e w3 ⟨hT, c3⟩
              have hb3 := hb.trans c3
              have kr3 := krr.below c3 hN1
              have hbf := b2.trans (hb3.mono b2.size)
              clear own hb krr c3
              obtain ⟨v3, rfl, own3, hnil⟩ := hT.uni2
              have hT2 : Hid (totalV T d ls = wholeTo 0 0 [] ps) := Hvv
              generalize wholeTo 0 0 [] ps = R at *
              have r0 := kr3.cell 0 _ rfl
              have r1 := kr3.cell 1 _ rfl
              have r2 := kr3.cell 2 _ rfl
              have r3 := kr3.cell 3 _ rfl
              have s0 := kr3.frozen 0
              have s1 := kr3.frozen 1
              have s2 := kr3.frozen 2
              have s3 := kr3.frozen 3
              have hown := own3.lt
              have hgN : (Value.ownBlock v3 = none ∨ v3.ownBlock ≠ some (w0.heap.size + 1)) := by
                cases hvb : v3.ownBlock with
                | none => exact .inl rfl
                | some q => exact .inr (fun e => by cases e; have := (hown _ hvb).1; omega)
              obtain ⟨n3, hn3⟩ : ∃ z, z = (resT R).net := ⟨_, rfl⟩
              obtain ⟨t3, ht3⟩ : ∃ z, z = (resT R).tax := ⟨_, rfl⟩
              obtain ⟨g3, hg3⟩ : ∃ z, z = (resT R).gross := ⟨_, rfl⟩
              obtain ⟨e3, he3⟩ : ∃ z, z = errT R := ⟨_, rfl⟩
              rw [← hn3, ← ht3, ← hg3, ← he3]
              have kf := (((kr3.set 0 (.int .i64 n3)).set 1 (.int .i64 t3)).set 2 (.int .i64 g3)).set 3 v3
              have gf := grown_tr (grown_tr (grown_tr (kr3.setGrown 0 (.int .i64 n3)) ((kr3.set 0 (.int .i64 n3)).setGrown 1 (.int .i64 t3))) (((kr3.set 0 (.int .i64 n3)).set 1 (.int .i64 t3)).setGrown 2 (.int .i64 g3))) ((((kr3.set 0 (.int .i64 n3)).set 1 (.int .i64 t3)).set 2 (.int .i64 g3)).setGrown 3 v3)
              have ownf := own3.grown gf hgN
              have y0 := kf.cell 0 _ rfl
              have y1 := kf.cell 1 _ rfl
              have y2 := kf.cell 2 _ rfl
              have y3 := kf.cell 3 _ rfl
              have Ownf := Lib.hid ownf
              have hbf2 := hbf.trans (below_grown gf hbf.size (fun j h => by cases h; exact Nat.le_succ _))
              have Hnil := Lib.hid hnil
              have Hn3 := Lib.hid hn3
              have Ht3 := Lib.hid ht3
              have Hg3 := Lib.hid hg3
              have He3 := Lib.hid he3
              obtain ⟨p3, c3, rfl⟩ := own3.rd.shape
              clear ownf own3 gf kf hown hnil hn3 ht3 hg3 he3 hgN
              go_wp2_with fail
              refine bodyPost_ret (v := .tuple #[.agg #[.int .i64 n3, .int .i64 t3, .int .i64 g3, .slice p3 (resT R).parts.length c3], .int .i64 e3]) (by simp [results, Try.results35, go_sem, y0, y1, y2, y3]) rfl ⟨?_, hbf2⟩
              rw [hT2.out]
              cases R with
              | error n =>
                have hz := Hnil.out n rfl
                rw [hz]
                show _ = _
                rw [Hn3.out, Ht3.out, Hg3.out, He3.out]; rfl
              | ok t =>
                refine ⟨_, by rw [Hn3.out, Ht3.out, Hg3.out, He3.out]; rfl, Ownf.out.base hsz⟩
end Go.Proofs.Ytpobhlnlnplbdaa
