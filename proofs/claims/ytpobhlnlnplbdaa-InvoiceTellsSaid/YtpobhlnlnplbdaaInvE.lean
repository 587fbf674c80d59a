/- Walks: invoice.Back, the document's Back. -/
import Derived.Test.YtpobhlnlnplbdaaInvD
namespace Go.Proofs.Ytpobhlnlnplbdaa
open Go Go.RowKit BigFrame
theorem back_yes {t : Tot} (h0 : Mon.fits (0 - t.net)) (h1 : Mon.fits (0 - t.tax)) (h2 : Mon.fits (0 - t.gross)) (h3 : t.parts.all okP = true) : backV t = .ok ⟨0 - t.net, 0 - t.tax, 0 - t.gross, t.parts.map negP⟩ := by
  unfold backV; rw [decide_eq_true h0, decide_eq_true h1, decide_eq_true h2, h3]; rfl
theorem back_three {t : Tot} (h : ([t.net, t.tax, t.gross].all fun x => decide (Mon.fits (0 - x))) = false) : backV t = .error 7 := by
  unfold backV; rw [if_neg]; intro hn; simp only [Bool.and_eq_true] at hn; simp only [List.all_cons, List.all_nil, Bool.and_true] at h; rw [hn.1, hn.2.1, hn.2.2.1] at h; cases h
theorem back_part {t : Tot} (h : t.parts.all okP = false) : backV t = .error 7 := by
  unfold backV; rw [if_neg]; intro hn; simp only [Bool.and_eq_true] at hn; rw [h] at hn; cases hn.2.2.2
theorem okP_two (p : Part) : okP p = ([p.net, p.tax].all fun x => decide (Mon.fits (0 - x))) := by unfold okP; simp
theorem all_upto {ps : List Part} {k : Nat} (hk : k < ps.length) (h0 : (ps.take k).all okP = true) (h : okP ps[k] = true) : (ps.take (k + 1)).all okP = true := by
  rw [List.take_succ_eq_append_getElem hk, List.all_append, h0]; simp [h]
theorem neg_step {ps : List Part} {k : Nat} (hk : k < ps.length) : ((ps.take k).map negP ++ ps.drop k).set k (negP ps[k]) = (ps.take (k + 1)).map negP ++ ps.drop (k + 1) := by
  rw [List.drop_eq_getElem_cons hk, List.take_succ_eq_append_getElem hk, List.map_append, List.set_append_right _ _ (by simp; omega), List.append_assoc]
  have : k - ((ps.take k).map negP).length = 0 := by simp; omega
  rw [this]; rfl
theorem neg_at {ps : List Part} {k : Nat} (hk : k < ps.length) : ((ps.take k).map negP ++ ps.drop k)[k]? = some ps[k] := by
  rw [List.getElem?_append_right (by simp; omega), List.getElem?_drop]; simp [Nat.min_eq_left (Nat.le_of_lt hk), hk]

set_option maxHeartbeats 8000000 in
set_option maxRecDepth 100000 in
theorem invBack (t : Tot) (v : Value) (w : World) (hv : Rd partE w v t.parts) (hf : Mon.fits t.net ∧ Mon.fits t.tax ∧ Mon.fits t.gross) (hfp : ∀ p ∈ t.parts, Mon.fits p.net ∧ Mon.fits p.tax) (hl : t.parts.length ≤ 1000) :
    Calls Try.prog 44 #[.agg #[.int .i64 t.net, .int .i64 t.tax, .int .i64 t.gross, v]] w fun e w' => TellsTot w' w.heap.size (backV t) e ∧ Below w.heap.size w w' := by
  obtain ⟨w0, hw0⟩ : ∃ w0, w0 = w := ⟨_, rfl⟩
  rw [← hw0] at hv ⊢
  clear hw0
  have Hfp := Lib.hid hfp
  have Hf := Lib.hid hf
  clear hfp hf
  have hb1 := below_alloc w0 (.cells #[.int .i64 t.net, .int .i64 t.tax, .int .i64 t.gross, v] 56)
  have kt0 := Blk.new w0 #[.int .i64 t.net, .int .i64 t.tax, .int .i64 t.gross, v] 56
  have hb2 := below_alloc (w0.alloc (.cells #[.int .i64 t.net, .int .i64 t.tax, .int .i64 t.gross, v] 56)) (.cells #[.int .i64 0, .int .i64 0, .int .i64 0, .slice none 0 0] 56)
  have kr := Blk.new (w0.alloc (.cells #[.int .i64 t.net, .int .i64 t.tax, .int .i64 t.gross, v] 56)) #[.int .i64 0, .int .i64 0, .int .i64 0, .slice none 0 0] 56
  have kt := kt0.ext hb2
  have hbb := hb1.trans (hb2.mono hb1.size)
  have hs2 : (w0.alloc (.cells #[.int .i64 t.net, .int .i64 t.tax, .int .i64 t.gross, v] 56)).heap.size = w0.heap.size + 1 := by simp
  rw [hs2] at kr
  have hs3 : ((w0.alloc (.cells #[.int .i64 t.net, .int .i64 t.tax, .int .i64 t.gross, v] 56)).alloc (.cells #[.int .i64 0, .int .i64 0, .int .i64 0, .slice none 0 0] 56)).heap.size = w0.heap.size + 2 := by simp
  have hvW := hv.ext hbb
  obtain ⟨p, cap, rfl⟩ := hv.shape
  clear hb1 hb2 kt0 hs2 hv
  have x3 := kt.cell 3 _ rfl
  have f3 := kt.frozen 3
  obtain ⟨W, hW⟩ : ∃ z, z = (w0.alloc (.cells #[.int .i64 t.net, .int .i64 t.tax, .int .i64 t.gross, .slice p t.parts.length cap] 56)).alloc (.cells #[.int .i64 0, .int .i64 0, .int .i64 0, .slice none 0 0] 56) := ⟨_, rfl⟩
  rw [← hW] at kt kr hbb hs3 hvW x3 f3
  have hc1 : (([] : List Part).length + t.parts.length) * 40 ≤ 140737488355328 := by simp; omega
  have Hc1 := Lib.hid hc1
  have Hs3 := Lib.hid hs3
  have HW := Lib.hid hW
  clear hc1 hs3 hW
  go_enter Try.func44, Try.ntmps44
  go_wp2_with (first
    | (at_builtin; rw [← HW.out]; refine wpList_appR (E := partE) (l := []) (m := t.parts) tPart rfl rfl (OwnR.nil W W.heap.size _) rfl hvW rfl Hc1.out (Nat.le_refl _) ?_; intro v6 w6 own6 g6 b6; rw [List.nil_append] at own6; have kt6 := kt.ext b6; have kr6 := kr.ext b6; have y3 := kt6.cell 3 _ rfl; have fy3 := kt6.frozen 3; obtain ⟨p6, c6, rfl⟩ := own6.rd.shape; clear g6)
    | fail)
  have hlt6 := own6.lt
  have gr7 := kt6.setGrown 3 (.slice p6 t.parts.length c6)
  have kt7 : Blk (w6.setCell ⟨w0.heap.size, 3, none⟩ (.slice p6 t.parts.length c6)) w0.heap.size #[.int .i64 t.net, .int .i64 t.tax, .int .i64 t.gross, .slice p6 t.parts.length c6] 56 := kt6.set 3 _
  have hg6 : (Value.slice p6 t.parts.length c6).ownBlock = none ∨ (Value.slice p6 t.parts.length c6).ownBlock ≠ some w0.heap.size := by
    cases hvb : (Value.slice p6 t.parts.length c6).ownBlock with
    | none => exact .inl rfl
    | some q => exact .inr (fun e => by cases e; have := (hlt6 _ hvb).1; rw [Hs3.out] at this; omega)
  have own7 := own6.grown gr7 hg6
  have kr7 := kr6.grown gr7 (by simp)
  have hb7 := (hbb.trans (b6.mono hbb.size)).trans (below_grown gr7 (by have := (hbb.trans (b6.mono hbb.size)).size; omega) (fun j h => by cases h; exact Nat.le_refl _))
  have Hlt6 := Lib.hid hlt6
  have hs7 : (w6.setCell ⟨w0.heap.size, 3, none⟩ (.slice p6 t.parts.length c6)).heap.size = w6.heap.size := World.size_setCell _ _ _
  generalize hw7 : w6.setCell ⟨w0.heap.size, 3, none⟩ (.slice p6 t.parts.length c6) = w7 at *
  clear hw7 own6 kt6 kr6 b6 gr7 y3 fy3 x3 f3 kt kr hbb hvW hg6 hlt6
  -- the three pointers
  have ca := below_alloc w7 (.cells #[.pointer (some ⟨w0.heap.size, 0, none⟩), .pointer (some ⟨w0.heap.size, 1, none⟩), .pointer (some ⟨w0.heap.size, 2, none⟩)] 95)
  have kq := Blk.new w7 #[.pointer (some ⟨w0.heap.size, 0, none⟩), .pointer (some ⟨w0.heap.size, 1, none⟩), .pointer (some ⟨w0.heap.size, 2, none⟩)] 95
  rw [hs7] at kq
  have Hs7 := Lib.hid hs7
  clear hs7
  have own8 := own7.ext ca
  have kt8 := kt7.ext ca
  have kr8 := kr7.ext ca
  have hb8 := hb7.trans (ca.mono hb7.size)
  have hN7 := kt7.lt
  have hN1 := kr7.lt
  have hsz7 := hb7.size
  generalize hw8 : w7.alloc (.cells #[.pointer (some ⟨w0.heap.size, 0, none⟩), .pointer (some ⟨w0.heap.size, 1, none⟩), .pointer (some ⟨w0.heap.size, 2, none⟩)] 95) = w8 at *
  clear hw8 ca own7 kt7 kr7 hb7
  have hoff : Calls Try.prog 63 #[.slice (some ⟨w6.heap.size, 0, none⟩) 3 3] w8 fun e w' => OffR w8 [(w0.heap.size, 0), (w0.heap.size, 1), (w0.heap.size, 2)] [t.net, t.tax, t.gross] e w' ∧ Below w0.heap.size w8 w' := invOff w0.heap.size w6.heap.size 0 3 [(w0.heap.size, 0), (w0.heap.size, 1), (w0.heap.size, 2)] [t.net, t.tax, t.gross] w8 rfl (Nat.le_refl _) (by unfold maxLen; decide)
    (fun i h => by
      have h3 : i < 3 := h
      have : i = 0 ∨ i = 1 ∨ i = 2 := by omega
      rcases this with rfl | rfl | rfl
      · exact kq.cell 0 _ rfl
      · exact kq.cell 1 _ rfl
      · exact kq.cell 2 _ rfl)
    (fun a ha => by simp only [List.mem_cons, List.not_mem_nil, or_false] at ha; rcases ha with rfl | rfl | rfl <;> (have := Hs7.out; simp only; omega))
    (fun i h x hx => by
      have h3 : i < 3 := h
      have : i = 0 ∨ i = 1 ∨ i = 2 := by omega
      rcases this with rfl | rfl | rfl
      · cases hx; exact kt8.cell 0 _ rfl
      · cases hx; exact kt8.cell 1 _ rfl
      · cases hx; exact kt8.cell 2 _ rfl)
    (fun a ha => by simp only [List.mem_cons, List.not_mem_nil, or_false] at ha; rcases ha with rfl | rfl | rfl <;> exact kt8.frozen _)
    (by simp) (fun x hx => by simp only [List.mem_cons, List.not_mem_nil, or_false] at hx; rcases hx with rfl | rfl | rfl; exact Hf.out.1; exact Hf.out.2.1; exact Hf.out.2.2)
    (fun a ha => by simp only [List.mem_cons, List.not_mem_nil, or_false] at ha; rcases ha with rfl | rfl | rfl <;> exact Nat.le_refl _)
  have Hoff := Lib.hid hoff
  clear hoff kq
  have hoff := Hoff.out
  with_reducible refine hoff.mono ?_
  clear hoff
  rintro e w9 ⟨⟨ee, rfl, hO⟩, c9⟩
  have hb9 := hb8.trans c9
  have kr9 : Blk w9 (w0.heap.size + 1) #[.int .i64 0, .int .i64 0, .int .i64 0, .slice none 0 0] 56 := by
    rcases hO with ⟨_, _, rfl⟩ | ⟨_, _, k, rfl⟩
    · exact setAll_blk kr8 (fun a ha => by simp only [List.mem_cons, List.not_mem_nil, or_false] at ha; rcases ha with rfl | rfl | rfl <;> simp)
    · exact setAll_blk kr8 (fun a ha => by have ha := List.mem_of_mem_take ha; simp only [List.mem_cons, List.not_mem_nil, or_false] at ha; rcases ha with rfl | rfl | rfl <;> simp)
  rcases hO with ⟨rfl, hall, hw9⟩ | ⟨rfl, hall, _⟩
  rotate_left
  · have Hv := Lib.hid (back_three hall)
    clear hall c9 own8 kt8
    have r0 := kr9.cell 0 _ rfl
    have r1 := kr9.cell 1 _ rfl
    have r2 := kr9.cell 2 _ rfl
    have r3 := kr9.cell 3 _ rfl
    have s0 := kr9.frozen 0
    have s1 := kr9.frozen 1
    have s2 := kr9.frozen 2
    have s3 := kr9.frozen 3
    have kf := (((kr9.set 0 (.int .i64 0)).set 1 (.int .i64 0)).set 2 (.int .i64 0)).set 3 (.slice none 0 0)
    have y0 := kf.cell 0 _ rfl
    have y1 := kf.cell 1 _ rfl
    have y2 := kf.cell 2 _ rfl
    have y3 := kf.cell 3 _ rfl
    go_wp2_with fail
    refine bodyPost_ret (v := .tuple #[.agg #[.int .i64 0, .int .i64 0, .int .i64 0, .slice none 0 0], .int .i64 7]) (by simp [results, Try.results44, go_sem, y0, y1, y2, y3]) rfl ⟨by rw [Hv.out]; rfl, ?_⟩
    exact (((hb9.setCell (p := ⟨w0.heap.size + 1, 0, none⟩) (Nat.le_succ _) _).setCell (p := ⟨w0.heap.size + 1, 1, none⟩) (Nat.le_succ _) _).setCell (p := ⟨w0.heap.size + 1, 2, none⟩) (Nat.le_succ _) _).setCell (p := ⟨w0.heap.size + 1, 3, none⟩) (Nat.le_succ _) _
  · have hn0 : Mon.fits (0 - t.net) := of_decide_eq_true (List.all_eq_true.1 hall t.net (by simp))
    have hn1 : Mon.fits (0 - t.tax) := of_decide_eq_true (List.all_eq_true.1 hall t.tax (by simp))
    have hn2 : Mon.fits (0 - t.gross) := of_decide_eq_true (List.all_eq_true.1 hall t.gross (by simp))
    have kt9 : Blk w9 w0.heap.size #[.int .i64 (0 - t.net), .int .i64 (0 - t.tax), .int .i64 (0 - t.gross), .slice p6 t.parts.length c6] 56 := by
      rw [hw9]; exact ((kt8.set 0 (.int .i64 (0 - t.net))).set 1 (.int .i64 (0 - t.tax))).set 2 (.int .i64 (0 - t.gross))
    have hg6 : (Value.slice p6 t.parts.length c6).ownBlock = none ∨ (Value.slice p6 t.parts.length c6).ownBlock ≠ some w0.heap.size := by
      cases hvb : (Value.slice p6 t.parts.length c6).ownBlock with
      | none => exact .inl rfl
      | some q => exact .inr (fun e => by cases e; have := (Hlt6.out _ hvb).1; rw [Hs3.out] at this; omega)
    have own9 : OwnR partE w9 W.heap.size 64 (.slice p6 t.parts.length c6) t.parts := by
      rw [hw9]
      exact ((own8.grown (kt8.setGrown 0 (.int .i64 (0 - t.net))) hg6).grown ((kt8.set 0 (.int .i64 (0 - t.net))).setGrown 1 (.int .i64 (0 - t.tax))) hg6).grown (((kt8.set 0 (.int .i64 (0 - t.net))).set 1 (.int .i64 (0 - t.tax))).setGrown 2 (.int .i64 (0 - t.gross))) hg6
    have Hall : Hid (t.parts.all okP = true → backV t = .ok ⟨0 - t.net, 0 - t.tax, 0 - t.gross, t.parts.map negP⟩) := fun h => back_yes hn0 hn1 hn2 h
    have Hno : Hid (t.parts.all okP = false → backV t = .error 7) := fun h => back_part h
    have z3 := kt9.cell 3 _ rfl
    clear hall hw9 own8 kt8 kr8 hb8 c9 hn0 hn1 hn2 Hoff
    obtain ⟨n0, hn0⟩ : ∃ z, z = 0 - t.net := ⟨_, rfl⟩
    obtain ⟨n1, hn1⟩ : ∃ z, z = 0 - t.tax := ⟨_, rfl⟩
    obtain ⟨n2, hn2⟩ : ∃ z, z = 0 - t.gross := ⟨_, rfl⟩
    rw [← hn0, ← hn1, ← hn2] at kt9 Hall
    obtain ⟨ps, hps⟩ : ∃ z, z = t.parts := ⟨_, rfl⟩
    rw [← hps] at kt9 own9 hg6 Hlt6 hl z3 Hfp Hall Hno ⊢
    have HWs := Lib.hid Hs3.out
    clear hn0 hn1 hn2 hps
    go_wp2_with fail
    go_loopw [23] (fun i wr => ∃ k : Nat, k ≤ ps.length ∧ i = .int .i64 k ∧ OwnR partE wr W.heap.size 64 (.slice p6 ps.length c6) ((ps.take k).map negP ++ ps.drop k) ∧ Hid ((ps.take k).all okP = true) ∧ Blk wr w0.heap.size #[.int .i64 n0, .int .i64 n1, .int .i64 n2, .slice p6 ps.length c6] 56 ∧ Blk wr (w0.heap.size + 1) #[.int .i64 0, .int .i64 0, .int .i64 0, .slice none 0 0] 56 ∧ Below w0.heap.size w0 wr) (fun i _ => ps.length - (intOf i).toNat)
    case atStart => exact ⟨0, by omega, rfl, own9, by show _ = _; simp, kt9, kr9, hb9⟩
    case round =>
      obtain ⟨k, hk, rfl, own, hok, ktr, krr, hb⟩ := hrel
      clear own9 kt9 kr9 hb9 z3
      have hki0 : (0 : Int) ≤ (k : Int) := by omega
      by_cases hlt : k < ps.length
      · have hi : (k : Int) < (ps.length : Int) := by omega
        have hlen : Hid (ps.length = ((ps.take k).map negP ++ ps.drop k).length) := by show _ = _; simp; omega
        obtain ⟨g, cp, hsh, e1, e2, e3, e4⟩ := own.head (by rw [← hlen.out]; omega)
        rw [← hlen.out] at hsh e3
        simp only [Value.slice.injEq, true_and] at hsh
        obtain ⟨rfl, rfl⟩ := hsh
        unfold maxLen at e4
        have hkl : k < ((ps.take k).map negP ++ ps.drop k).length := by rw [← hlen.out]; exact hlt
        have hel : ((ps.take k).map negP ++ ps.drop k)[k]'hkl = ps[k] := by
          have h := neg_at hlt; rw [List.getElem?_eq_getElem hkl] at h; exact Option.some.inj h
        have hfq := Hfp.out _ (List.getElem_mem hlt)
        have hst := Lib.hid (neg_step hlt)
        have hal := Lib.hid (fun h => all_upto hlt hok.out h)
        have hbad : Hid (okP ps[k] = false → backV t = .error 7) := fun h => Hno.out (List.all_eq_false.2 ⟨ps[k], List.getElem_mem hlt, by rw [h]; simp⟩)
        have c2 := own.cellAt hlen.out k hkl 2 (by decide)
        have c3 := own.cellAt hlen.out k hkl 3 (by decide)
        rw [hel] at c2 c3
        have f2 := own.frozenAt hlen.out (k * 4 + 2)
        have f3 := own.frozenAt hlen.out (k * 4 + 3)
        obtain ⟨q, hq⟩ : ∃ q, ps[k] = q := ⟨_, rfl⟩
        rw [hq] at c2 c3 hfq hst hal hbad
        simp only [partE, List.getElem?_cons_zero, List.getElem?_cons_succ] at c2 c3
        have hel2 : Hid (((ps.take k).map negP ++ ps.drop k)[k]'hkl = q) := by show _ = _; rw [hel, hq]
        have z3 := ktr.cell 3 _ rfl
        have hWg : W.heap.size ≤ g := e1
        have hgN : w0.heap.size + 2 ≤ g := by have := HWs.out; omega
        have cb := below_alloc wr (.cells #[.pointer (some ⟨g, k * 4 + 2, none⟩), .pointer (some ⟨g, k * 4 + 3, none⟩)] 95)
        have kq := Blk.new wr #[.pointer (some ⟨g, k * 4 + 2, none⟩), .pointer (some ⟨g, k * 4 + 3, none⟩)] 95
        have cc : Below wr.heap.size wr ((wr.alloc (.cells #[.pointer (some ⟨g, k * 4 + 2, none⟩), .pointer (some ⟨g, k * 4 + 3, none⟩)] 95)).drew) := cb.trans (below_drew _ _)
        have hoff : Calls Try.prog 63 #[.slice (some ⟨wr.heap.size, 0, none⟩) 2 2] ((wr.alloc (.cells #[.pointer (some ⟨g, k * 4 + 2, none⟩), .pointer (some ⟨g, k * 4 + 3, none⟩)] 95)).drew) fun e w' => OffR ((wr.alloc (.cells #[.pointer (some ⟨g, k * 4 + 2, none⟩), .pointer (some ⟨g, k * 4 + 3, none⟩)] 95)).drew) [(g, k * 4 + 2), (g, k * 4 + 3)] [q.net, q.tax] e w' ∧ Below W.heap.size ((wr.alloc (.cells #[.pointer (some ⟨g, k * 4 + 2, none⟩), .pointer (some ⟨g, k * 4 + 3, none⟩)] 95)).drew) w' := invOff W.heap.size wr.heap.size 0 2 [(g, k * 4 + 2), (g, k * 4 + 3)] [q.net, q.tax] ((wr.alloc (.cells #[.pointer (some ⟨g, k * 4 + 2, none⟩), .pointer (some ⟨g, k * 4 + 3, none⟩)] 95)).drew) rfl (Nat.le_refl _) (by unfold maxLen; decide)
          (fun i h => by
            have h3 : i < 2 := h
            have : i = 0 ∨ i = 1 := by omega
            rcases this with rfl | rfl
            · exact kq.cell 0 _ rfl
            · exact kq.cell 1 _ rfl)
          (fun a ha => by simp only [List.mem_cons, List.not_mem_nil, or_false] at ha; rcases ha with rfl | rfl <;> (simp only; omega))
          (fun i h x hx => by
            have h3 : i < 2 := h
            have : i = 0 ∨ i = 1 := by omega
            rcases this with rfl | rfl
            · cases hx; exact (cc.cell (p := ⟨g, k * 4 + 2, none⟩) e2).trans c2
            · cases hx; exact (cc.cell (p := ⟨g, k * 4 + 3, none⟩) e2).trans c3)
          (fun a ha => by simp only [List.mem_cons, List.not_mem_nil, or_false] at ha; rcases ha with rfl | rfl; exact (cc.frozen (p := ⟨g, k * 4 + 2, none⟩) e2).trans f2; exact (cc.frozen (p := ⟨g, k * 4 + 3, none⟩) e2).trans f3)
          (by simp) (fun x hx => by simp only [List.mem_cons, List.not_mem_nil, or_false] at hx; rcases hx with rfl | rfl; exact hfq.1; exact hfq.2)
          (fun a ha => by simp only [List.mem_cons, List.not_mem_nil, or_false] at ha; rcases ha with rfl | rfl <;> exact e1)
        have ktc := ktr.ext cc
        have krc := krr.ext cc
        have ownc := own.ext cc
        have hbc := hb.trans (cc.mono hb.size)
        have Hoff := Lib.hid hoff
        have Hkq := Lib.hid kq
        have Hktc := Lib.hid ktc
        have Hown := Lib.hid ownc
        have hbsz := hbc.size
        clear hoff kq cb cc ktc hq hel c2 c3 f2 f3 hfq ownc
        go_wp2_with fail
        go_region_held3 (fun w' => w'.cell? ⟨w0.heap.size, 3, none⟩ = some (.slice (some ⟨g, 0, none⟩) ps.length c6))
          (first | go_keep)
          (first | (go_at_call 63; (have hoff := Hoff.out); (with_reducible refine hoff.mono ?_); clear hoff; (rintro e w9 ⟨⟨ee, rfl, hO⟩, c9⟩); (have k9 : Blk w9 w0.heap.size _ _ := (by rcases hO with ⟨_, _, rfl⟩ | ⟨_, _, j, rfl⟩; exact setAll_blk Hktc.out (fun a ha => by simp only [List.mem_cons, List.not_mem_nil, or_false] at ha; rcases ha with rfl | rfl <;> (simp only; omega)); exact setAll_blk Hktc.out (fun a ha => by have ha := List.mem_of_mem_take ha; simp only [List.mem_cons, List.not_mem_nil, or_false] at ha; rcases ha with rfl | rfl <;> (simp only; omega)))); (have q3 := k9.cell 3 _ rfl)))
        have kr9 : Blk w9 (w0.heap.size + 1) #[.int .i64 0, .int .i64 0, .int .i64 0, .slice none 0 0] 56 := by
          rcases hO with ⟨_, _, rfl⟩ | ⟨_, _, j, rfl⟩
          · exact setAll_blk krc (fun a ha => by simp only [List.mem_cons, List.not_mem_nil, or_false] at ha; rcases ha with rfl | rfl <;> (simp only; omega))
          · exact setAll_blk krc (fun a ha => by have ha := List.mem_of_mem_take ha; simp only [List.mem_cons, List.not_mem_nil, or_false] at ha; rcases ha with rfl | rfl <;> (simp only; omega))
        have hb9 := hbc.trans (c9.mono (by have := HWs.out; omega))
        clear c9 krc hbc q3
        rcases hO with ⟨rfl, hall, hw9⟩ | ⟨rfl, hall, _⟩
        · have hokq : okP q = true := by rw [okP_two]; exact hall
          obtain ⟨o1, g1⟩ := Hown.out.stored hlen.out k hkl 2 (by decide) (.int .i64 (0 - q.net)) rfl ⟨q.cat, q.bp, 0 - q.net, q.tax⟩ (by rw [hel2.out]; rfl)
          obtain ⟨o2, g2⟩ := o1.stored (by rw [List.length_set]; exact hlen.out) k (by rw [List.length_set]; exact hkl) 3 (by decide) (.int .i64 (0 - q.tax)) rfl (negP q) (by rw [List.getElem_set_self]; rfl)
          rw [List.set_set, hst.out] at o2
          have own9 : OwnR partE w9 W.heap.size 64 (.slice (some ⟨g, 0, none⟩) ps.length c6) ((ps.take (k + 1)).map negP ++ ps.drop (k + 1)) := by rw [hw9]; exact o2
          have Hal := Lib.hid (hal.out hokq)
          have Own9 := Lib.hid own9
          clear hall hw9 o1 o2 g1 g2 own own9 hokq
          go_wp2_with fail
          go_roundw
          case rel => exact ⟨k + 1, by omega, by go_num, Own9.out, Hal, k9, kr9, hb9⟩
          case measure => simp [intOf]; omega
        · have hv0 := hbad.out (by rw [okP_two]; exact hall)
          have Hv := Lib.hid hv0
          clear hv0 hall own
          have r0 := kr9.cell 0 _ rfl
          have r1 := kr9.cell 1 _ rfl
          have r2 := kr9.cell 2 _ rfl
          have r3 := kr9.cell 3 _ rfl
          have s0 := kr9.frozen 0
          have s1 := kr9.frozen 1
          have s2 := kr9.frozen 2
          have s3 := kr9.frozen 3
          have kf := (((kr9.set 0 (.int .i64 0)).set 1 (.int .i64 0)).set 2 (.int .i64 0)).set 3 (.slice none 0 0)
          have y0 := kf.cell 0 _ rfl
          have y1 := kf.cell 1 _ rfl
          have y2 := kf.cell 2 _ rfl
          have y3 := kf.cell 3 _ rfl
          go_wp2_with fail
          refine bodyPost_ret (v := .tuple #[.agg #[.int .i64 0, .int .i64 0, .int .i64 0, .slice none 0 0], .int .i64 7]) (by simp [results, Try.results44, go_sem, y0, y1, y2, y3]) rfl ⟨by rw [Hv.out]; rfl, ?_⟩
          exact (((hb9.setCell (p := ⟨w0.heap.size + 1, 0, none⟩) (Nat.le_succ _) _).setCell (p := ⟨w0.heap.size + 1, 1, none⟩) (Nat.le_succ _) _).setCell (p := ⟨w0.heap.size + 1, 2, none⟩) (Nat.le_succ _) _).setCell (p := ⟨w0.heap.size + 1, 3, none⟩) (Nat.le_succ _) _
      · have hi : ¬ (k : Int) < (ps.length : Int) := by omega
        have hok2 := hok.out
        rw [List.take_of_length_le (by omega)] at own hok2
        rw [List.drop_of_length_le (by omega), List.append_nil] at own
        have hv0 := Hall.out hok2
        have Hv := Lib.hid hv0
        have r0 := krr.cell 0 _ rfl
        have r1 := krr.cell 1 _ rfl
        have r2 := krr.cell 2 _ rfl
        have r3 := krr.cell 3 _ rfl
        have s0 := krr.frozen 0
        have s1 := krr.frozen 1
        have s2 := krr.frozen 2
        have s3 := krr.frozen 3
        have u0 := ktr.cell 0 _ rfl
        have u1 := ktr.cell 1 _ rfl
        have u2 := ktr.cell 2 _ rfl
        have u3 := ktr.cell 3 _ rfl
        have kf := (((krr.set 0 (.int .i64 n0)).set 1 (.int .i64 n1)).set 2 (.int .i64 n2)).set 3 (.slice p6 ps.length c6)
        have gf := grown_tr (grown_tr (grown_tr (krr.setGrown 0 (.int .i64 n0)) ((krr.set 0 (.int .i64 n0)).setGrown 1 (.int .i64 n1))) (((krr.set 0 (.int .i64 n0)).set 1 (.int .i64 n1)).setGrown 2 (.int .i64 n2))) ((((krr.set 0 (.int .i64 n0)).set 1 (.int .i64 n1)).set 2 (.int .i64 n2)).setGrown 3 (.slice p6 ps.length c6))
        have ownf := own.grown gf (.inr (fun e => by have := (Hlt6.out _ e).1; have := HWs.out; omega))
        have y0 := kf.cell 0 _ rfl
        have y1 := kf.cell 1 _ rfl
        have y2 := kf.cell 2 _ rfl
        have y3 := kf.cell 3 _ rfl
        have Ownf := Lib.hid ownf
        have hbf := hb.trans (below_grown gf hb.size (fun j h => by cases h; exact Nat.le_succ _))
        clear hok2 hv0 own ownf gf kf hb
        go_wp2_with fail
        refine bodyPost_ret (v := .tuple #[.agg #[.int .i64 n0, .int .i64 n1, .int .i64 n2, .slice p6 ps.length c6], .int .i64 0]) (by simp [results, Try.results44, go_sem, y0, y1, y2, y3]) rfl ⟨?_, hbf⟩
        rw [Hv.out]
        have h : OwnR partE _ w0.heap.size 64 (.slice p6 ps.length c6) (ps.map negP) := Ownf.out.base (by have := HWs.out; omega)
        exact ⟨_, rfl, by first | exact h | (simpa using h)⟩
end Go.Proofs.Ytpobhlnlnplbdaa
