/- The walk of MoneySums. -/
import Derived.Test.YtfimaamndcdofaaDoorMoneySum
import Derived.Test.YtfimaamndcdofaaDoorMoneyRuns
import Derived.Deep.Cut
import Derived.Deep.QuietTactic
import Derived.BigQuiet
namespace Go.Proofs.YtfimaamndcdofaaDoor
open Go Go.RowKit

theorem tInts : SlT Tryd.prog 35 3 1 8 := SlT.mk' (z := .int .i64 0) Tryd.underlying35 (by kernel_rfl) rfl (by decide) (by decide)

theorem sumV_form (l : List Int) : ∃ n F : Int, Mon.sumV l = .tuple #[.int .i64 n, .int .i64 F] := by
  unfold Mon.sumV; split <;> exact ⟨_, _, rfl⟩

set_option maxHeartbeats 2000000 in
theorem moneySums_walk (v : Value) (l : List Int) (w : World) (hv : Rd intsE w v l) (hf : ∀ x ∈ l, Mon.fits x) (_hn : l.length * 8 ≤ 140737488351232) (htab : Lib.TabIs Tryd.prog w "internal/strconv.uint64pow10" .u64 Lib.pow10Tab) :
    Calls Tryd.prog 8 #[v] w fun e w' => e = .returned (.bool true) ∧ Below w.heap.size w w' := by
  have hcase : ∃ (v1 : Value) (l1 : List Int), Rd intsE w v1 l1 ∧ l1.length ≤ 300 ∧ Hid (∀ x ∈ l1, Mon.fits x) ∧ ((300 < l.length ∧ ∀ w', (Instr.slice 35 v none (some (.int .i64 300)) none).run Tryd.prog w' = .ok v1 w') ∨ (¬ 300 < l.length ∧ v1 = v)) := by
    by_cases h : 300 < l.length
    · have hsub := hv.sub 0 300 (by omega) (by omega)
      refine ⟨_, _, hsub, by simp; omega, fun x hx => hf x ?_, .inl ⟨h, fun w' => run_sub_to tInts hv .i64 300 300 rfl (by omega) w'⟩⟩
      exact List.mem_of_mem_drop (List.mem_of_mem_take hx)
    · exact ⟨v, l, hv, by omega, hf, .inr ⟨h, rfl⟩⟩
  obtain ⟨v1, l1, hv1, hl1, hf1, hcase⟩ := hcase
  obtain ⟨p, cap, rfl⟩ := hv.shape
  clear hv hf
  obtain ⟨N, F, hsum⟩ := sumV_form l1
  have Hsum := Lib.hid hsum
  clear hsum
  rcases hcase with ⟨h, hs⟩ | ⟨h, hs⟩
  all_goals
    first
    | (have hq : (300 : Int) < (l.length : Int) := by omega)
    | (have hq : ¬ (300 : Int) < (l.length : Int) := by omega)
    go_enter Tryd.func8, Tryd.ntmps8
    go_upto_region 3 with (fail)
    clear hq h
    first
    | subst hs
    | clear hs
    try (generalize Value.slice p l.length cap = v1 at *)
    obtain ⟨p1, cap1, rfl⟩ := hv1.shape
    go_wp2_with (first
      | (at_builtin; refine wpList_app tInts rfl rfl (Own.lit w #[] _ 0 w.heap.size rfl (by simp) (Nat.zero_le _) (Nat.le_refl _)) rfl (Cells.ext hv1 (below_alloc _ _)) rfl (by omega) (by simp) ?_; intro v6 w6 own6 g6 b6; clear g6; replace b6 := (below_alloc _ _).trans b6)
      | fail)
    have hv6 := hv1.ext b6
    have hr6 : Rd intsE w6 v6 l1 := (OwnR.of (l := l1) own6 (by simp) (by simp)).rd
    clear hv1 own6
    have ht6 := tabIs_below htab b6
    clear htab
    with_reducible refine (moneySum _ l1 _ hr6 hf1.out).mono ?_
    rintro e w' ⟨rfl, rfl⟩
    rw [Hsum.out]
    have hm1 : (l1.length : Int) ≤ 300 := by omega
    obtain ⟨q, cap6, rfl⟩ := hr6.shape
    go_wp2_with fail
    go_loop [6, 7, 8] (fun s f i => ∃ (k : Nat) (n g : Int), k ≤ l1.length ∧ i = .int .i64 k ∧ s = .int .i64 n ∧ f = .int .i64 g ∧ Hid ((g = 0 ∧ Mon.fits n ∧ Mon.sumTo 0 l1 = Mon.sumTo n (l1.drop k)) ∨ (g = 7 ∧ n = 0 ∧ Mon.sumTo 0 l1 = none))) (fun _ _ i => l1.length - (intOf i).toNat)
    case atStart => exact ⟨0, 0, 0, by omega, rfl, rfl, rfl, .inl ⟨rfl, by decide, rfl⟩⟩
    case round =>
      obtain ⟨k, n, g, hk, rfl, rfl, rfl, hg⟩ := hrel
      by_cases hgo : k < l1.length ∧ g = 0
      · obtain ⟨hlt, hg0⟩ := hgo
        subst hg0
        obtain ⟨hn, hs⟩ : Mon.fits n ∧ Mon.sumTo 0 l1 = Mon.sumTo n (l1.drop k) := by rcases hg.out with h | h; exact h.2; omega
        have Hn := Lib.hid hn
        have Hs := Lib.hid (hs.trans (Mon.sum_step hlt))
        clear hn hs hg
        obtain ⟨p', cap', hsh, h1, h2, h3, h4⟩ := hv6.form
        obtain ⟨b, off, hp', hc⟩ := h4 (by omega)
        simp only [Value.slice.injEq, true_and] at hsh
        obtain ⟨rfl, rfl⟩ := hsh
        subst hp'
        have hc := intsE_cell hlt hc
        have hi : (k : Int) < (l1.length : Int) := by omega
        have hx := Lib.hid (hf1.out l1[k] (List.getElem_mem hlt))
        clear h2 h3 h4
        generalize l1[k] = x at *
        go_wp2_with fail
        with_reducible refine (refAdd _ _ _ Hn.out hx.out).mono ?_
        rintro e w' ⟨rfl, rfl⟩
        by_cases hz : Mon.fits (n + x)
        · rw [Mon.told_ok hz]
          have Hz := Lib.hid hz
          clear hz
          go_wp2_with fail
          go_round
          case rel => exact ⟨k + 1, n + x, 0, by omega, by go_num, rfl, rfl, .inl ⟨rfl, Hz.out, by rw [Hs.out, if_pos Hz.out]⟩⟩
          case measure => simp [intOf]; omega
        · rw [Mon.told_no hz]
          have Hz := Lib.hid hz
          clear hz
          go_wp2_with fail
          go_round
          case rel => exact ⟨k + 1, 0, 7, by omega, by go_num, rfl, rfl, .inr ⟨rfl, rfl, by rw [Hs.out, if_neg Hz.out]⟩⟩
          case measure => simp [intOf]; omega
      · have hend : n = N ∧ g = F := by
          have hS := Hsum.out
          rcases hg.out with ⟨h1, h2, h3⟩ | ⟨h1, h2, h3⟩
          · have hk' : k = l1.length := by omega
            rw [hk', List.drop_of_length_le (Nat.le_refl _)] at h3
            rw [Mon.sum_some h3] at hS
            simp at hS; omega
          · rw [Mon.sum_none h3] at hS
            simp at hS; omega
        obtain ⟨rfl, rfl⟩ := hend
        have hstop : (¬ (k : Int) < (l1.length : Int)) ∨ ((k : Int) < (l1.length : Int) ∧ (g == 0) = false) := by
          by_cases h : k < l1.length
          · exact .inr ⟨by omega, by simp; omega⟩
          · exact .inl (by omega)
        clear hgo hg
        rcases hstop with hst | ⟨hst, hst2⟩
        all_goals
          go_wp2_with fail
          clear hst
          try clear hst2
          go_loopw [9] (fun i wr => ∃ k : Nat, k ≤ l1.length ∧ i = .int .i64 k ∧ ∃ n, wr = w6.drewN n) (fun i _ => l1.length - (intOf i).toNat)
          case atStart => exact ⟨0, by omega, rfl, 0, rfl⟩
          case round =>
            obtain ⟨j, hj, rfl, nd, rfl⟩ := hrel
            by_cases hlt : j < l1.length
            · obtain ⟨p', cap', hsh, h1, h2, h3, h4⟩ := hv6.form
              obtain ⟨b, off, hp', hc⟩ := h4 (by omega)
              simp only [Value.slice.injEq, true_and] at hsh
              obtain ⟨rfl, rfl⟩ := hsh
              subst hp'
              have hc := intsE_cell hlt hc
              obtain ⟨p', cap', hsh, g1, g2, g3, g4⟩ := hr6.form
              obtain ⟨b', off', hp', hc'⟩ := g4 (by omega)
              simp only [Value.slice.injEq, true_and] at hsh
              obtain ⟨rfl, rfl⟩ := hsh
              subst hp'
              have hc' := intsE_cell hlt hc'
              have hi : (j : Int) < (l1.length : Int) := by omega
              clear h2 h3 h4 g2 g3 g4
              generalize l1[j] = x at *
              go_wp2_with fail
              go_quiet (fail)
              go_wp2_with fail
              go_roundw
              case rel => exact ⟨j + 1, by omega, by go_num, _, by first | rfl | exact World.drewN_drewN _ _ _⟩
              case measure => simp [intOf]; omega
            · have hi : ¬ (j : Int) < (l1.length : Int) := by omega
              go_wp2_with fail
              with_reducible refine (moneyRuns_walk _ (tabIs_below ht6 (below_drawn _ _ nd))).mono ?_
              rintro e w7 ⟨rfl, b7⟩
              go_wp2_with fail
              go_ret
              exact ⟨rfl, (b6.trans (below_drawn _ _ _)).trans (b7.mono b6.size)⟩
end Go.Proofs.YtfimaamndcdofaaDoor
