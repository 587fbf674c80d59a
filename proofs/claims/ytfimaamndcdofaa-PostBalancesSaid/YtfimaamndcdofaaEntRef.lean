/- The walk of impostref8.Entries. -/
import Derived.Test.YtfimaamndcdofaaEntries
import Derived.Deep.RegionHeld3
import Derived.Deep.DrawnRows
namespace Go.Proofs.Ytfimaamndcdofaa
open Go Go.RowKit
attribute [local go_sem ↓] Go.wp_at_zero Go.wp_at_succ

set_option maxHeartbeats 2000000 in
theorem refEntries (net tax gross : Int) (v : Value) (ps : List Part) (w : World) (hv : Rd partE w v ps) (hf : ∀ p ∈ ps, Mon.fits p.net ∧ Mon.fits p.tax) (hs : ∀ p ∈ ps, p.cat.size ≤ 140737488355328) (hl : (2 * ps.length + 1) * 24 ≤ 140737488355328) :
    Calls Try.prog 15 #[.agg #[.int .i64 net, .int .i64 tax, .int .i64 gross, v]] w fun e w' => TellsL balE w' w.heap.size 33 (entries gross ps) e ∧ Below w.heap.size w w' := by
  obtain ⟨p, cap, rfl, h1, h2, h3, h4⟩ := hv.form
  clear h3
  unfold maxLen at h2
  have Hf := Lib.hid hf
  have Hs := Lib.hid hs
  clear hf hs
  go_enter Try.func15, Try.ntmps15
  go_wp2_with fail
  have own0 : OwnR balE ((w.alloc (.cells #[.int .i64 net, .int .i64 tax, .int .i64 gross, .slice p ps.length cap] 30)).alloc (.cells #[.string sOwed, .int .i64 gross] 33)) (w.heap.size + 1) 33 (.slice (some ⟨w.heap.size + 1, 0, none⟩) 1 1) [(sOwed, gross)] :=
    OwnR.litAt balE _ _ _ _ 1 (w.heap.size + 1) (w.heap.size + 1) (by simp) rfl rfl (by unfold maxLen; omega) (by simp)
  have b0 : Below w.heap.size w ((w.alloc (.cells #[.int .i64 net, .int .i64 tax, .int .i64 gross, .slice p ps.length cap] 30)).alloc (.cells #[.string sOwed, .int .i64 gross] 33)) := ((Below.refl _ _).alloc (Nat.le_refl _) _).alloc (by simp) _
  have hbk0 : Blk ((w.alloc (.cells #[.int .i64 net, .int .i64 tax, .int .i64 gross, .slice p ps.length cap] 30)).alloc (.cells #[.string sOwed, .int .i64 gross] 33)) w.heap.size #[.int .i64 net, .int .i64 tax, .int .i64 gross, .slice p ps.length cap] 30 := (Blk.new _ _ _).ext (below_alloc _ _)
  have e0 : sOwed = { data := #[111, 119, 101, 100] } := rfl
  rw [e0] at own0 b0 hbk0
  clear e0
  go_loopw [4, 5] (fun a i wr => ∃ (k : Nat) (acc : List Bal), k ≤ ps.length ∧ i = .int .i64 k ∧ OwnR balE wr (w.heap.size + 1) 33 a acc ∧ Blk wr w.heap.size #[.int .i64 net, .int .i64 tax, .int .i64 gross, .slice p ps.length cap] 30 ∧ acc.length = 2 * k + 1 ∧ Hid (entries gross ps = entTo acc (ps.drop k)) ∧ Below w.heap.size w wr) (fun _ i _ => ps.length - (intOf i).toNat)
  case atStart => exact ⟨0, _, by omega, rfl, own0, hbk0, rfl, rfl, b0⟩
  case round =>
    obtain ⟨k, acc, hk, rfl, own, hbk, hal, hent, hb⟩ := hrel
    clear own0 b0 hbk0
    have hsz := hb.size
    by_cases hlt : k < ps.length
    · obtain ⟨b, off, rfl, hc⟩ := h4 (by omega)
      have c0 := hc k hlt 0 (by decide)
      have c1 := hc k hlt 1 (by decide)
      have c2 := hc k hlt 2 (by decide)
      have c3 := hc k hlt 3 (by decide)
      simp only [partE, List.getElem?_cons_zero, List.getElem?_cons_succ] at c0 c1 c2 c3
      have hbl : b < w.heap.size := World.block_lt_of_cell? w _ c0
      rw [← hb.cell (p := ⟨b, _, none⟩) hbl] at c0 c1 c2 c3
      simp only [Nat.add_zero, ← Nat.add_assoc] at c0 c1 c2 c3
      have hi : (k : Int) < (ps.length : Int) := by omega
      have hfx := Lib.hid (Hf.out ps[k] (List.getElem_mem hlt))
      have hsx := Hs.out ps[k] (List.getElem_mem hlt)
      have hyes := Lib.hid (fun h1 h2 => ent_yes (acc := acc) hlt h1 h2)
      have hno := Lib.hid (fun h => ent_no (acc := acc) hlt h)
      have Hal := Lib.hid hal
      clear h4 hc hal
      generalize ps[k] = x at *
      have f0 : Mon.fits 0 := by decide
      have F0 := Lib.hid f0
      clear f0
      have m3 := hbk.cell 3 _ rfl
      have hblt := hbk.lt
      go_wp2_with fail
      with_reducible refine (refSub 0 x.net _ F0.out hfx.out.1).mono ?_
      rintro e w' ⟨rfl, rfl⟩
      by_cases z1 : Mon.fits (0 - x.net)
      · rw [Mon.told_ok z1]
        have Z1 := Lib.hid z1
        clear z1
        obtain ⟨a, ha⟩ : ∃ a, a = 0 - x.net := ⟨_, rfl⟩
        rw [← ha]
        have Ha := Lib.hid ha
        clear ha
        go_wp2_with fail
        with_reducible refine (refSub 0 x.tax _ F0.out hfx.out.2).mono ?_
        rintro e w' ⟨rfl, rfl⟩
        by_cases z2 : Mon.fits (0 - x.tax)
        · rw [Mon.told_ok z2]
          have Z2 := Lib.hid z2
          clear z2
          obtain ⟨d, hd⟩ : ∃ a, a = 0 - x.tax := ⟨_, rfl⟩
          rw [← hd]
          have Hd := Lib.hid hd
          clear hd
          have hsum : (x.cat.size : Int) + 4 ≤ 9223372036854775807 := by omega
          go_wp2_with fail
          have hk0 : (0 : Int) ≤ (k : Int) := by omega
          have hcat1 := fun w => run_string_add_sum (P := Try.prog) w { data := #[110, 101, 116, 47] } x.cat (by show 4 + x.cat.size ≤ _; omega)
          have hcat2 := fun w => run_string_add_sum (P := Try.prog) w { data := #[116, 97, 120, 47] } x.cat (by show 4 + x.cat.size ≤ _; omega)
          go_region_held3 (fun w' => w'.cell? ⟨b, off + k * 4, none⟩ = some (.string x.cat) ∧ w'.cell? ⟨w.heap.size, 3, none⟩ = some (.slice (some ⟨b, off, none⟩) ps.length cap))
            (first | go_keep | (refine ⟨?_, ?_⟩ <;> first | go_keep | (rw [b8.cell (by first | omega | (simp; done) | (simp; omega))]; go_keep)))
            (first | (refine step_appR (E := balE) tBal rfl rfl (B := w.heap.size + 1) (l := acc) (m := [({ data := #[110, 101, 116, 47] } ++ x.cat, a), ({ data := #[116, 97, 120, 47] } ++ x.cat, d)]) (OwnR.ext (OwnR.drew own) (below_alloc _ _)) (by simp [Act.eval, Act.put]) (OwnR.rd (OwnR.litAt balE _ _ 33 _ 2 0 wr.heap.size (by simp) rfl (by rfl) (by unfold maxLen; decide) (Nat.zero_le _))) (by simp [Act.eval, Act.put]) ?hb1 (by simp; omega) ?_; (case hb1 => (have hh := Hal.out; show (acc.length + 2) * 24 ≤ 140737488355328; omega)); intro v8 w8 own8 g8 b8; clear g8))
          all_goals
            have b9 : Below wr.heap.size wr ((wr.drew).alloc (.cells #[.string ({ data := #[110, 101, 116, 47] } ++ x.cat), .int .i64 a, .string ({ data := #[116, 97, 120, 47] } ++ x.cat), .int .i64 d] 33)) := (below_drew _ _).trans (below_alloc wr.drew _)
            go_wp2_with fail
            go_roundw
            case rel =>
              refine ⟨k + 1, acc ++ pairOf x, by omega, by go_num, ?_, (hbk.ext b9).below b8 (by omega), ?_, ?_, (hb.trans (b9.mono hsz)).trans (b8.mono (by omega))⟩
              · have e : pairOf x = [(sNet ++ x.cat, a), (sTax ++ x.cat, d)] := by unfold pairOf; rw [Ha.out, Hd.out]
                rw [e]; exact own8
              · rw [List.length_append, Hal.out]; simp [pairOf]; omega
              · show _ = _
                rw [hent.out]; exact hyes.out Z1.out Z2.out
            case measure => simp [intOf]; omega
        · rw [Mon.told_no z2]
          have Z2 := Lib.hid z2
          clear z2
          go_wp2_with fail
          go_ret2
          refine ⟨?_, hb⟩
          rw [hent.out, hno.out (fun h => Z2.out h.2)]
          rfl
      · rw [Mon.told_no z1]
        have Z1 := Lib.hid z1
        clear z1
        go_wp2_with fail
        with_reducible refine (refSub 0 x.tax _ F0.out hfx.out.2).mono ?_
        rintro e w' ⟨rfl, rfl⟩
        rw [told_eq' (0 - x.tax)]
        generalize Mon.val (0 - x.tax) = vt
        generalize Mon.err (0 - x.tax) = et
        go_wp2_with fail
        go_ret2
        refine ⟨?_, hb⟩
        rw [hent.out, hno.out (fun h => Z1.out h.1)]
        rfl
    · have hk' : k = ps.length := by omega
      have hi : ¬ (k : Int) < (ps.length : Int) := by omega
      have hE := hent.out
      rw [hk', List.drop_of_length_le (Nat.le_refl _)] at hE
      have HE := Lib.hid hE
      have m3 := hbk.cell 3 _ rfl
      clear hE hk'
      go_wp2_with fail
      go_ret2
      exact ⟨by rw [HE.out]; exact ⟨_, rfl, own.base (by omega)⟩, hb⟩
end Go.Proofs.Ytfimaamndcdofaa
