/- The walks of both Entries. -/
import Derived.Test.YtfimaamndcdofaaBookE
import Derived.Test.YtfimaamndcdofaaRds2
import Derived.Test.YtfimaamndcdofaaMoney
namespace Go.Proofs.Ytfimaamndcdofaa
open Go Go.RowKit

set_option maxHeartbeats 2000000 in
theorem postEntries (net tax gross : Int) (v : Value) (ps : List Part) (w : World) (hv : Rd partE w v ps) (hf : ∀ p ∈ ps, Mon.fits p.net ∧ Mon.fits p.tax) (hs : ∀ p ∈ ps, p.cat.size ≤ 140737488355328) (hl : (2 * ps.length + 1) * 24 ≤ 140737488355328) :
    Calls Try.prog 8 #[.agg #[.int .i64 net, .int .i64 tax, .int .i64 gross, v]] w fun e w' => TellsL balE w' w.heap.size 33 (entries gross ps) e ∧ Below w.heap.size w w' := by
  obtain ⟨p, cap, rfl, h1, h2, h3, h4⟩ := hv.form
  clear h3
  unfold maxLen at h2
  have Hf := Lib.hid hf
  have Hs := Lib.hid hs
  clear hf hs
  go_enter Try.func8, Try.ntmps8
  go_wp2_with fail
  have own0 : OwnR balE ((w.alloc (.cells #[.int .i64 net, .int .i64 tax, .int .i64 gross, .slice p ps.length cap] 30)).alloc (.cells #[.string sOwed, .int .i64 gross] 33)) w.heap.size 33 (.slice (some ⟨w.heap.size + 1, 0, none⟩) 1 1) [(sOwed, gross)] :=
    OwnR.litAt balE _ _ _ _ 1 w.heap.size (w.heap.size + 1) (by simp) rfl rfl (by unfold maxLen; omega) (by simp)
  have b0 : Below w.heap.size w ((w.alloc (.cells #[.int .i64 net, .int .i64 tax, .int .i64 gross, .slice p ps.length cap] 30)).alloc (.cells #[.string sOwed, .int .i64 gross] 33)) := ((Below.refl _ _).alloc (Nat.le_refl _) _).alloc (by simp) _
  have e0 : sOwed = { data := #[111, 119, 101, 100] } := rfl
  rw [e0] at own0 b0
  clear e0
  go_loopw [4, 18] (fun a i wr => ∃ (k : Nat) (acc : List Bal), k ≤ ps.length ∧ i = .int .i64 k ∧ OwnR balE wr w.heap.size 33 a acc ∧ acc.length = 2 * k + 1 ∧ Hid (entries gross ps = entTo acc (ps.drop k)) ∧ Below w.heap.size w wr) (fun _ i _ => ps.length - (intOf i).toNat)
  case atStart => exact ⟨0, _, by omega, rfl, own0, rfl, rfl, b0⟩
  case round =>
    obtain ⟨k, acc, hk, rfl, own, hal, hent, hb⟩ := hrel
    clear own0 b0
    have hsz := hb.size
    by_cases hlt : k < ps.length
    · obtain ⟨b, off, rfl, hc⟩ := h4 (by omega)
      have c0 := hc k hlt 0 (by decide)
      have c1 := hc k hlt 1 (by decide)
      have c2 := hc k hlt 2 (by decide)
      have c3 := hc k hlt 3 (by decide)
      simp only [partE, List.getElem?_cons_zero, List.getElem?_cons_succ] at c0 c1 c2 c3
      have hbl : b < w.heap.size := World.block_lt_of_cell? w _ c0
      rw [← hb.cell (p := ⟨b, _, none⟩) hbl] at c0 c1 c2 c3
      simp only [Nat.add_zero, ← Nat.add_assoc] at c0 c1 c2 c3
      have hi : (k : Int) < (ps.length : Int) := by omega
      have hfx := Lib.hid (Hf.out ps[k] (List.getElem_mem hlt))
      have hsx := Hs.out ps[k] (List.getElem_mem hlt)
      have hyes := Lib.hid (fun h1 h2 => ent_yes (acc := acc) hlt h1 h2)
      have hno := Lib.hid (fun h => ent_no (acc := acc) hlt h)
      have Hal := Lib.hid hal
      clear h4 hc hal
      generalize ps[k] = x at *
      have f0 : Mon.fits 0 := by decide
      have F0 := Lib.hid f0
      clear f0
      go_wp2_with fail
      with_reducible refine (moneySub 0 x.net _ F0.out hfx.out.1).mono ?_
      rintro e w' ⟨rfl, rfl⟩
      by_cases z1 : Mon.fits (0 - x.net)
      · rw [Mon.told_ok z1]
        have Z1 := Lib.hid z1
        clear z1
        obtain ⟨a, ha⟩ : ∃ a, a = 0 - x.net := ⟨_, rfl⟩
        rw [← ha]
        have Ha := Lib.hid ha
        clear ha
        go_wp2_with fail
        with_reducible refine (moneySub 0 x.tax _ F0.out hfx.out.2).mono ?_
        rintro e w' ⟨rfl, rfl⟩
        by_cases z2 : Mon.fits (0 - x.tax)
        · rw [Mon.told_ok z2]
          have Z2 := Lib.hid z2
          clear z2
          obtain ⟨d, hd⟩ : ∃ a, a = 0 - x.tax := ⟨_, rfl⟩
          rw [← hd]
          have Hd := Lib.hid hd
          clear hd
          have hsum : (x.cat.size : Int) + 4 ≤ 9223372036854775807 := by omega
          go_wp2_with (first
            | (at_builtin; refine wpList_appR (E := balE) tBal rfl rfl (OwnR.ext (OwnR.ext own (below_alloc _ _)) (below_alloc _ _)) rfl (OwnR.rd (OwnR.litAt balE _ _ 33 [({ data := #[110, 101, 116, 47] } ++ x.cat, a), ({ data := #[116, 97, 120, 47] } ++ x.cat, d)] 2 0 (wr.heap.size + 1) (by simp) rfl (by rfl) (by unfold maxLen; decide) (Nat.zero_le _))) rfl ?hb1 (by simp; omega) ?_; (case hb1 => (have hh := Hal.out; show (acc.length + 2) * 24 ≤ 140737488355328; omega)); intro v8 w8 own8 g8 b8; clear g8)
            | fail)
          go_roundw
          case rel =>
            refine ⟨k + 1, acc ++ pairOf x, by omega, by go_num, ?_, ?_, ?_, ((hb.trans ((below_alloc _ _).mono hsz)).trans ((below_alloc _ _).mono (by simp; omega))).trans b8⟩
            · have e : pairOf x = [(sNet ++ x.cat, a), (sTax ++ x.cat, d)] := by unfold pairOf; rw [Ha.out, Hd.out]
              rw [e]; exact own8
            · rw [List.length_append, Hal.out]; simp [pairOf]; omega
            · show _ = _
              rw [hent.out]; exact hyes.out Z1.out Z2.out
          case measure => simp [intOf]; omega
        · rw [Mon.told_no z2]
          have Z2 := Lib.hid z2
          clear z2
          go_wp2_with fail
          go_ret2
          refine ⟨?_, hb.trans ((below_alloc _ _).mono hsz)⟩
          rw [hent.out, hno.out (fun h => Z2.out h.2)]
          rfl
      · rw [Mon.told_no z1]
        have Z1 := Lib.hid z1
        clear z1
        go_wp2_with fail
        with_reducible refine (moneySub 0 x.tax _ F0.out hfx.out.2).mono ?_
        rintro e w' ⟨rfl, rfl⟩
        rw [told_eq' (0 - x.tax)]
        generalize Mon.val (0 - x.tax) = vt
        generalize Mon.err (0 - x.tax) = et
        go_wp2_with fail
        go_ret2
        refine ⟨?_, hb.trans ((below_alloc _ _).mono hsz)⟩
        rw [hent.out, hno.out (fun h => Z1.out h.1)]
        rfl
    · have hk' : k = ps.length := by omega
      have hi : ¬ (k : Int) < (ps.length : Int) := by omega
      have hE := hent.out
      rw [hk', List.drop_of_length_le (Nat.le_refl _)] at hE
      have HE := Lib.hid hE
      clear hE hk'
      go_wp2_with fail
      go_ret2
      exact ⟨by rw [HE.out]; exact ⟨_, rfl, own⟩, hb⟩
end Go.Proofs.Ytfimaamndcdofaa
