/- Walks of package impostbook at api.Part: Same, Roomy, Intact. -/
import Derived.Test.YtpobhlnlnplbdaaInvEq
import Derived.Test.YtpobhlnlnplbdaaBook0
namespace Go.Proofs.Ytpobhlnlnplbdaa
open Go Go.RowKit

set_option maxHeartbeats 1000000 in
theorem samePart (v u : Value) (l m : List Part) (w : World) (hv : Rd partE w v l) (hu : Rd partE w u m) :
    Calls Try.prog 58 #[v, u] w fun e w' => e = .returned (.bool (decide (l = m))) ∧ ∃ n, w' = w.drewN n := by
  obtain ⟨p, cap, rfl, h1, h2, h3, h4⟩ := hv.form
  obtain ⟨q, dap, rfl, g1, g2, g3, g4⟩ := hu.form
  clear hv hu h3 g3
  unfold maxLen at h2 g2
  by_cases hlen : l.length = m.length
  · go_enter Try.func58, Try.ntmps58
    have Hl := Lib.hid hlen
    have hb : ((l.length : Int) != (m.length : Int)) = false := by simp [hlen]
    clear hlen
    go_wp2
    go_loopw [5] (fun i wr => ∃ k : Nat, k ≤ l.length ∧ i = .int .i64 k ∧ Hid (l.take k = m.take k) ∧ ∃ n, wr = w.drewN n) (fun i _ => l.length - (intOf i).toNat)
    case atStart => exact ⟨0, by omega, rfl, rfl, 0, rfl⟩
    case round =>
      obtain ⟨k, hk, rfl, ht, n, rfl⟩ := hrel
      by_cases hlt : k < l.length
      · have hlt' : k < m.length := by have := Hl.out; omega
        obtain ⟨b, off, rfl, hc⟩ := h4 (by omega)
        obtain ⟨b', off', rfl, hc'⟩ := g4 (by omega)
        have c0 := hc k hlt 0 (by decide)
        have c1 := hc k hlt 1 (by decide)
        have c2 := hc k hlt 2 (by decide)
        have c3 := hc k hlt 3 (by decide)
        have d0 := hc' k hlt' 0 (by decide)
        have d1 := hc' k hlt' 1 (by decide)
        have d2 := hc' k hlt' 2 (by decide)
        have d3 := hc' k hlt' 3 (by decide)
        simp only [partE, List.getElem?_cons_zero, List.getElem?_cons_succ, Nat.add_zero, ← Nat.add_assoc] at c0 c1 c2 c3 d0 d1 d2 d3
        clear h4 g4 hc hc'
        have hi1 : (k : Int) < (l.length : Int) := by omega
        have hi2 : (k : Int) < (m.length : Int) := by omega
        have hne := neq_Part l[k] m[k]
        go_wp2
        go_quiet (fail)
        go_wp2
        · go_ret
          have hd : (!decide (l[k] = m[k])) = true := by assumption
          refine ⟨?_, _, by first | rfl | exact World.drewN_drewN _ _ _⟩
          rw [decide_eq_false (p := l = m) (fun h => by subst h; simp at hd)]; rfl
        · go_roundw
          case rel =>
            have hd : (!decide (l[k] = m[k])) = false := by assumption
            refine ⟨k + 1, by omega, by go_num, ?_, _, by first | rfl | exact World.drewN_drewN _ _ _⟩
            show l.take (k + 1) = m.take (k + 1)
            rw [List.take_succ_eq_append_getElem hlt, List.take_succ_eq_append_getElem hlt', ht.out, show l[k] = m[k] from by simpa using hd]
          case measure => simp [intOf]; omega
      · go_wp2
        go_ret
        refine ⟨?_, n, rfl⟩
        have e : l.take k = m.take k := ht
        rw [List.take_of_length_le (by omega), List.take_of_length_le (by have := Hl.out; omega)] at e
        rw [decide_eq_true e]; rfl
  · go_enter Try.func58, Try.ntmps58
    have hb : ((l.length : Int) != (m.length : Int)) = true := by simp; omega
    go_wp2
    go_ret
    exact ⟨by rw [decide_eq_false (fun h => hlen (by rw [h]))]; rfl, 0, rfl⟩
set_option maxHeartbeats 1000000 in
theorem roomyPart (v : Value) (l : List Part) (x : Part) (w : World) (hv : Rd partE w v l) (hl : l.length * 40 ≤ 140737488355328) :
    Calls Try.prog 43 #[v, .agg #[.string x.cat, .int .i64 x.bp, .int .i64 x.net, .int .i64 x.tax]] w fun e w' => ∃ g, e = .returned (.slice (some ⟨g, 0, none⟩) (l.length + 80) (l.length + 80)) ∧
      OwnR partE w' w.heap.size 64 (.slice (some ⟨g, 0, none⟩) (l.length + 80) (l.length + 80)) (roomyL l x) ∧ Below w.heap.size w w' := by
  obtain ⟨p, cap, rfl⟩ := hv.shape
  go_enter Try.func43, Try.ntmps43
  go_wp2_with (first
    | (refine wpList_mkR (E := partE) tPart rfl rfl (w.heap.size + 1) (l.length + 80) part0 (.agg #[.string { data := #[] }, .int .i64 0, .int .i64 0, .int .i64 0]) (by kernel_rfl) rfl rfl rfl (by simp) (by simp) (by omega) (by unfold maxLen; omega) (by simp) ?_; intro g w1 own1 hg g1 b1)
    | (refine wpList_cpR (E := partE) tPart rfl rfl own1 (by simp) rfl (Rd.ext (Rd.ext hv (below_alloc _ _)) b1) rfl (by omega) ?_; intro w2 own2 g2 b2; clear own1)
    | fail)
  have b0 := b1.trans (b2.mono (by simp))
  have e0 : l ++ (List.replicate (l.length + 80) part0).drop l.length = fillL l x part0 (l.length + 80) l.length := by unfold fillL; simp
  rw [e0] at own2
  have hg' : w.heap.size + 1 ≤ g := by simpa using hg
  rw [show (w.alloc (.cells #[.string x.cat, .int .i64 x.bp, .int .i64 x.net, .int .i64 x.tax] 64)).heap.size = w.heap.size + 1 from by simp] at b0
  clear b1 b2 g1 g2 e0 hg
  go_loopw [6] (fun i wr => ∃ k : Nat, l.length ≤ k ∧ k ≤ l.length + 80 ∧ i = .int .i64 k ∧ OwnR partE wr (w.heap.size + 1) 64 (.slice (some ⟨g, 0, none⟩) (l.length + 80) (l.length + 80)) (fillL l x part0 (l.length + 80) k) ∧ Below (w.heap.size + 1) (w.alloc (.cells #[.string x.cat, .int .i64 x.bp, .int .i64 x.net, .int .i64 x.tax] 64)) wr) (fun i _ => l.length + 80 - (intOf i).toNat)
  case atStart => exact ⟨l.length, by omega, by omega, rfl, own2, b0⟩
  case round =>
    obtain ⟨k, hk, hk2, rfl, own, hb⟩ := hrel
    clear own2 b0
    by_cases hlt : k < l.length + 80
    · have hfl := fillL_length l x part0 (l.length + 80) k hk hk2
      have hc0 := own.cellAt hfl.symm k (by omega) 0 (by decide)
      have hc1 := own.cellAt hfl.symm k (by omega) 1 (by decide)
      have hc2 := own.cellAt hfl.symm k (by omega) 2 (by decide)
      have hc3 := own.cellAt hfl.symm k (by omega) 3 (by decide)
      have hf0 := own.frozenAt hfl.symm (k * 4)
      have hf1 := own.frozenAt hfl.symm (k * 4 + 1)
      have hf2 := own.frozenAt hfl.symm (k * 4 + 2)
      have hf3 := own.frozenAt hfl.symm (k * 4 + 3)
      obtain ⟨own', hg2⟩ := own.put hfl.symm k (by omega) x
      rw [fillL_set _ _ _ _ _ hk hlt] at own'
      have m0 : wr.cell? ⟨w.heap.size, 0, none⟩ = some (.string x.cat) := by rw [hb.cell (by simp)]; rw [World.cell?_alloc_new]; rfl
      have m1 : wr.cell? ⟨w.heap.size, 1, none⟩ = some (.int .i64 x.bp) := by rw [hb.cell (by simp)]; rw [World.cell?_alloc_new]; rfl
      have m2 : wr.cell? ⟨w.heap.size, 2, none⟩ = some (.int .i64 x.net) := by rw [hb.cell (by simp)]; rw [World.cell?_alloc_new]; rfl
      have m3 : wr.cell? ⟨w.heap.size, 3, none⟩ = some (.int .i64 x.tax) := by rw [hb.cell (by simp)]; rw [World.cell?_alloc_new]; rfl
      generalize (fillL l x part0 (l.length + 80) k)[k]'_ = old at hc0 hc1 hc2 hc3
      simp only [partE, List.getElem?_cons_zero, List.getElem?_cons_succ, Nat.add_zero] at hc0 hc1 hc2 hc3
      clear hfl
      go_wp2_with fail
      go_roundw
      case rel => exact ⟨k + 1, by omega, by omega, by go_num, own', ((((hb.setCell hg' _).setCell hg' _).setCell hg' _).setCell hg' _)⟩
      case measure => simp [intOf]; omega
    · have : k = l.length + 80 := by omega
      subst this
      have hw : w.heap.size ≤ (w.alloc (.cells #[.string x.cat, .int .i64 x.bp, .int .i64 x.net, .int .i64 x.tax] 64)).heap.size := by simp
      go_wp2_with fail
      go_ret
      refine ⟨g, rfl, ?_, (below_alloc w _).trans (hb.mono (by omega))⟩
      have e1 : fillL l x part0 (l.length + 80) (l.length + 80) = roomyL l x := by unfold fillL roomyL; simp
      rw [e1] at own
      exact own.base (by omega)

set_option maxHeartbeats 1000000 in
theorem intactPart (v u : Value) (lf lw : List Part) (x : Part) (w : World) (hv : Rd partE w v lf) (hu : Rd partE w u lw) (hl : lw.length * 40 ≤ 140737488355328) :
    Calls Try.prog 46 #[v, u, .agg #[.string x.cat, .int .i64 x.bp, .int .i64 x.net, .int .i64 x.tax]] w fun e w' => e = .returned (.bool (decide (lf = roomyL lw x))) ∧ Below w.heap.size w w' := by
  by_cases hlen : lf.length = lw.length + 80
  · have hs := run_sub_to tPart (P := Try.prog) hv .i64 (lw.length : Int) lw.length rfl (by omega)
    have hsub := (hv.ext (below_alloc w (.cells #[.string x.cat, .int .i64 x.bp, .int .i64 x.net, .int .i64 x.tax] 64))).sub 0 lw.length (by omega) (by omega)
    have hu1 := hu.ext (below_alloc w (.cells #[.string x.cat, .int .i64 x.bp, .int .i64 x.net, .int .i64 x.tax] 64))
    have hv1 := hv.ext (below_alloc w (.cells #[.string x.cat, .int .i64 x.bp, .int .i64 x.net, .int .i64 x.tax] 64))
    have e0 : (lf.drop 0).take (lw.length - 0) = lf.take lw.length := by simp
    rw [e0] at hsub
    obtain ⟨p, cap, rfl, h1, h2, h3, h4⟩ := hv1.form
    obtain ⟨q, dap, rfl⟩ := hu.shape
    unfold maxLen at h2
    clear h3 e0
    have hsz : partE.sz = 4 := rfl
    rw [hsz] at hsub
    generalize subV (.slice p lf.length cap) 0 lw.length 4 = vs at *
    obtain ⟨r, sap, rfl⟩ := hsub.shapeN (n := lw.length) (by simp; omega)
    have Hl := Lib.hid hlen
    have hb : ((lf.length : Int) != (lw.length : Int) + 80) = false := by simp; omega
    clear hlen hsz hv1
    by_cases hsame : lf.take lw.length = lw
    · have Hs := Lib.hid hsame
      clear hsame
      go_enter Try.func46, Try.ntmps46
      go_wp2_with (go_at_call 58; with_reducible refine (samePart _ _ _ _ _ hsub hu1).mono ?_; (rintro e w' ⟨rfl, n0, rfl⟩; rw [decide_eq_true Hs.out]))
      go_loopw [7] (fun i wr => ∃ k : Nat, lw.length ≤ k ∧ k ≤ lf.length ∧ i = .int .i64 k ∧ Hid (∀ i (h : i < lf.length), lw.length ≤ i → i < k → lf[i] = x) ∧ ∃ n, wr = (w.alloc (.cells #[.string x.cat, .int .i64 x.bp, .int .i64 x.net, .int .i64 x.tax] 64)).drewN n) (fun i _ => lf.length - (intOf i).toNat)
      case atStart => exact ⟨lw.length, by omega, by have := Hl.out; omega, rfl, fun i h a b => by omega, _, rfl⟩
      case round =>
        obtain ⟨k, hk, hk2, rfl, hall, n, rfl⟩ := hrel
        by_cases hlt : k < lf.length
        · obtain ⟨b, off, rfl, hc⟩ := h4 (by omega)
          have c0 := hc k hlt 0 (by decide)
          have c1 := hc k hlt 1 (by decide)
          have c2 := hc k hlt 2 (by decide)
          have c3 := hc k hlt 3 (by decide)
          simp only [partE, List.getElem?_cons_zero, List.getElem?_cons_succ, Nat.add_zero, ← Nat.add_assoc] at c0 c1 c2 c3
          have hi : (k : Int) < (lf.length : Int) := by omega
          have hne := neq_Part lf[k] x
          have m0 : (w.alloc (.cells #[.string x.cat, .int .i64 x.bp, .int .i64 x.net, .int .i64 x.tax] 64)).cell? ⟨w.heap.size, 0, none⟩ = some (.string x.cat) := by rw [World.cell?_alloc_new]; rfl
          have m1 : (w.alloc (.cells #[.string x.cat, .int .i64 x.bp, .int .i64 x.net, .int .i64 x.tax] 64)).cell? ⟨w.heap.size, 1, none⟩ = some (.int .i64 x.bp) := by rw [World.cell?_alloc_new]; rfl
          have m2 : (w.alloc (.cells #[.string x.cat, .int .i64 x.bp, .int .i64 x.net, .int .i64 x.tax] 64)).cell? ⟨w.heap.size, 2, none⟩ = some (.int .i64 x.net) := by rw [World.cell?_alloc_new]; rfl
          have m3 : (w.alloc (.cells #[.string x.cat, .int .i64 x.bp, .int .i64 x.net, .int .i64 x.tax] 64)).cell? ⟨w.heap.size, 3, none⟩ = some (.int .i64 x.tax) := by rw [World.cell?_alloc_new]; rfl
          clear h4 hc hs hsub hu1
          have HW : ∃ W, W = w.alloc (.cells #[.string x.cat, .int .i64 x.bp, .int .i64 x.net, .int .i64 x.tax] 64) := ⟨_, rfl⟩
          obtain ⟨W, hW⟩ := HW
          rw [← hW] at c0 c1 c2 c3 m0 m1 m2 m3 ⊢
          have HW := Lib.hid hW
          clear hW
          go_wp2_with fail
          go_quiet (fail)
          go_wp2_with fail
          · go_ret
            have hd : (!decide (lf[k] = x)) = true := by assumption
            refine ⟨?_, ?_⟩
            · rw [decide_eq_false (p := lf = roomyL lw x) (fun h => ?_)]
              · rfl
              · have : lf[k] = x := by simp only [h]; unfold roomyL; rw [List.getElem_append_right (by omega)]; exact List.getElem_replicate _
                rw [this] at hd; simp at hd
            · rw [HW.out]; first | exact (below_alloc w _).trans (below_drawn _ _ _) | exact (below_alloc w _).trans ((below_drawn _ _ _).trans (below_drawn _ _ _))
          · go_roundw
            case rel =>
              have hd : (!decide (lf[k] = x)) = false := by assumption
              refine ⟨k + 1, by omega, by omega, by go_num, fun i h a b => ?_, _, by first | rfl | exact World.drewN_drewN _ _ _⟩
              by_cases hik : i = k
              · subst hik; simpa using hd
              · exact hall.out i h a (by omega)
            case measure => simp [intOf]; omega
        · have hi : ¬ (k : Int) < (lf.length : Int) := by omega
          go_wp2_with fail
          go_ret
          refine ⟨?_, (below_alloc w _).trans (below_drawn _ _ _)⟩
          rw [decide_eq_true (roomyL_of Hl.out Hs.out (fun i h a => hall.out i h a (by omega)))]; rfl
    · go_enter Try.func46, Try.ntmps46
      go_wp2_with (go_at_call 58; with_reducible refine (samePart _ _ _ _ _ hsub hu1).mono ?_; (rintro e w' ⟨rfl, n0, rfl⟩; rw [decide_eq_false hsame]))
      go_ret
      refine ⟨?_, (below_alloc w _).trans (below_drawn _ _ _)⟩
      rw [decide_eq_false (p := lf = roomyL lw x) (fun h => hsame (by rw [h]; unfold roomyL; simp))]; rfl
  · obtain ⟨p, cap, rfl⟩ := hv.shape
    obtain ⟨q, dap, rfl⟩ := hu.shape
    go_enter Try.func46, Try.ntmps46
    have hb : ((lf.length : Int) != (lw.length : Int) + 80) = true := by simp; omega
    go_wp2_with fail
    go_ret
    exact ⟨by rw [decide_eq_false (p := lf = roomyL lw x) (fun h => hlen (by rw [h, roomyL_length]))]; rfl, below_alloc w _⟩
end Go.Proofs.Ytpobhlnlnplbdaa
