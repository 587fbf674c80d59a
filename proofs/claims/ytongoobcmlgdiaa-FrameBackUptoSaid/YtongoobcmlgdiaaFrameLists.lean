/- The walk of impostlaw17.lists: two lists of lists of bytes compared. -/
import Derived.Test.YtongoobcmlgdiaaFrameLaws
namespace Go.Proofs.Ytongoobcmlgdiaa
open Go Go.RowKit

theorem ltake_succ {α : Type} {l m : List α} {k : Nat} (h : l.take k = m.take k) (hl : k < l.length) (hm : k < m.length) (he : l[k] = m[k]) : l.take (k + 1) = m.take (k + 1) := by
  rw [List.take_succ_eq_append_getElem hl, List.take_succ_eq_append_getElem hm, h, he]

theorem Parts.form {w : World} {v : Value} {ls : List (List UInt8)} (h : Parts w v ls) : ∃ p cap, v = .slice p ls.length cap ∧ ls.length ≤ cap ∧ cap ≤ maxLen ∧
    ∀ (k : Nat) (hk : k < ls.length), ∃ b off x, p = some ⟨b, off, none⟩ ∧ w.cell? ⟨b, off + k, none⟩ = some x ∧ Bytes w x ls[k] := by
  obtain ⟨vs, hb, hl, hbs⟩ := h
  obtain ⟨p, cap, rfl, h1, h2, h3, h4⟩ := hb.form
  refine ⟨p, cap, rfl, h1, h2, fun k hk => ?_⟩
  obtain ⟨b, off, rfl, hc⟩ := h4 (by omega)
  have hkv : k < vs.length := by rw [hl]; exact hk
  exact ⟨b, off, vs[k], rfl, hc k _ (by simp), hbs k _ _ (by simp) (by simp)⟩

set_option maxHeartbeats 1000000 in
theorem listsCalls (v u : Value) (l m : List (List UInt8)) (w : World) (hv : Parts w v l) (hu : Parts w u m) :
    Calls Try.prog 30 #[v, u] w fun e w' => e = .returned (.bool (decide (l = m))) ∧ ∃ n, w' = w.drewN n := by
  obtain ⟨p, cap, rfl, h1, h2, h4⟩ := hv.form
  obtain ⟨q, dap, rfl, g1, g2, g4⟩ := hu.form
  clear hv hu
  unfold maxLen at h2 g2
  by_cases hlen : l.length = m.length
  · go_enter Try.func30, Try.ntmps30
    have Hl := Lib.hid hlen
    have hb : ((l.length : Int) != (m.length : Int)) = false := by simp [hlen]
    clear hlen
    go_wp2
    go_loopw [5] (fun i wr => ∃ k : Nat, k ≤ l.length ∧ i = .int .i64 k ∧ Hid (l.take k = m.take k) ∧ ∃ n, wr = w.drewN n) (fun i _ => l.length - (intOf i).toNat)
    case atStart => exact ⟨0, by omega, rfl, rfl, 0, rfl⟩
    case round =>
      obtain ⟨k, hk, rfl, ht, n, hwr⟩ := hrel
      have Hwr := Lib.hid hwr
      by_cases hlt : k < l.length
      · have hlt' : k < m.length := by have := Hl.out; omega
        obtain ⟨b, off, x, rfl, hc, hx⟩ := h4 k hlt
        obtain ⟨b', off', y, rfl, hc', hy⟩ := g4 k hlt'
        clear h4 g4
        have hi1 : (k : Int) < (l.length : Int) := by omega
        have hi2 : (k : Int) < (m.length : Int) := by omega
        replace hc : wr.cell? ⟨b, off + k, none⟩ = some x := by rw [hwr]; exact hc
        replace hc' : wr.cell? ⟨b', off' + k, none⟩ = some y := by rw [hwr]; exact hc'
        replace hx : Bytes wr x l[k] := by rw [hwr]; exact hx.drewN n
        replace hy : Bytes wr y m[k] := by rw [hwr]; exact hy.drewN n
        clear hwr
        have hsame := fun j => sameBytes _ _ _ _ _ (hx.drewN j) (hy.drewN j)
        by_cases hxy : l[k] = m[k]
        · rw [decide_eq_true hxy] at hsame
          go_wp2
          go_quiet ((go_at_call 17; exact Calls.quiet_of (hsame _)))
          go_wp2
          go_roundw
          case rel => exact ⟨k + 1, by omega, by go_num, ltake_succ ht hlt hlt' hxy, n + nq, by rw [Hwr.out, World.drewN_drewN]⟩
          case measure => simp [intOf]; omega
        · rw [decide_eq_false hxy] at hsame
          go_wp2
          go_quiet ((go_at_call 17; exact Calls.quiet_of (hsame _)))
          go_wp2
          go_ret
          refine ⟨?_, n + nq, by rw [Hwr.out, World.drewN_drewN]⟩
          rw [decide_eq_false (fun h => hxy (by simp only [h]))]; rfl
      · clear hwr
        go_wp2
        go_ret
        refine ⟨?_, n, Hwr.out⟩
        have e : l.take k = m.take k := ht
        rw [List.take_of_length_le (by omega), List.take_of_length_le (by have := Hl.out; omega)] at e
        rw [decide_eq_true e]; rfl
  · go_enter Try.func30, Try.ntmps30
    have hb : ((l.length : Int) != (m.length : Int)) = true := by simp; omega
    go_wp2
    go_ret
    exact ⟨by rw [decide_eq_false (fun h => hlen (by rw [h]))]; rfl, 0, rfl⟩

end Go.Proofs.Ytongoobcmlgdiaa
