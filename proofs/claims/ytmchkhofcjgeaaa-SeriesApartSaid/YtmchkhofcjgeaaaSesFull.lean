/- The walk of SessionFull. -/
import Derived.Test.YtmchkhofcjgeaaaSesLaw
import Derived.Test.YtmchkhofcjgeaaaSesRuns
import Derived.Test.YtmchkhofcjgeaaaWithin
namespace Go.Proofs.Ytmchkhofcjgeaaa
open Go Go.RowKit

theorem Rd.cells1 {w : World} {b off n c : Nat} {l : List Int} (h : Rd intsE w (.slice (some ⟨b, off, none⟩) n c) l) {k : Nat} (hk : k < l.length) : w.cell? ⟨b, off + k, none⟩ = some (.int .i64 l[k]) := by
  have := h.at_ hk 0 Nat.one_pos
  simpa [intsE] using this

set_option maxHeartbeats 8000000 in
set_option maxRecDepth 100000 in
theorem sessionFull_walk (v : Value) (ids : List Int) (w : World) (hv : Rd intsE w v ids) :
    Calls Try.prog 6 #[v] w fun e w' => e = .returned (.bool true) ∧ Below w.heap.size w w' := by
  obtain ⟨p, cap, rfl, h1, h2, h3, h4⟩ := hv.form
  clear h3 h4
  unfold maxLen at h2
  go_enter Try.func6, Try.ntmps6
  go_wp2_with fail
  go_loopw [3, 4] (fun lv i wr => ∃ (k : Nat) (ls : List Ses), k ≤ ids.length ∧ i = .int .i64 k ∧ Rd sesE wr lv ls ∧ Hid (RightP ls) ∧ Below w.heap.size w wr) (fun _ i _ => ids.length - (intOf i).toNat)
  case atStart => exact ⟨0, [], by omega, rfl, Rd.nil _, RightP.nil, Below.refl _ _⟩
  case round =>
    obtain ⟨k, ls, hk, rfl, rL, hR, hb⟩ := hrel
    by_cases hlt : k < ids.length ∧ k < 60
    · obtain ⟨hlt, hlt60⟩ := hlt
      have hki : (k : Int) < (ids.length : Int) := by omega
      have hki60 : (k : Int) < 60 := by omega
      obtain ⟨b, off, rfl⟩ := Rd.blk hv (by omega)
      have c0 := Rd.cells1 (hv.ext hb) hlt
      generalize ids[k] = z at c0
      go_wp2_with fail
      with_reducible refine (withinCalls z 1 40 _ (by omega) (by omega) (by omega)).mono ?_
      rintro e w' ⟨rfl, rfl⟩
      obtain ⟨q1, q2⟩ := within_bounds z 1 40 (by omega)
      generalize within z 1 40 = q at *
      obtain ⟨pL, cL, rfl⟩ := rL.shape
      have h8 := hR.out.few
      go_wp2_with fail
      with_reducible refine (sesAt _ ls q _ rL).mono ?_
      rintro e w' ⟨rfl, rfl⟩
      go_wp2_with fail
      with_reducible refine (sesJoin _ ls q _ rL).mono ?_
      rintro e w2 ⟨hT, b2⟩
      have rL2 := rL.ext b2
      have hb2 := hb.trans (b2.mono hb.size)
      clear rL b2 hb
      by_cases hg : getS ls q = none
      · have hp := getS_none.1 hg
        by_cases hl8 : ls.length < 8
        · obtain ⟨m, hm, hRm, hml, _⟩ := join_ok hR.out q1 hg hl8
          rw [hm] at hT
          obtain ⟨vm, rfl, ownM⟩ := hT
          have rM := ownM.rd
          have HRm := Lib.hid hRm
          have hl8i : (ls.length : Int) < 8 := by omega
          clear ownM hm hRm hml hg
          go_wp2_with fail
          go_roundw
          case rel => exact ⟨k + 1, m, by omega, by go_num, rM, HRm, hb2⟩
          case measure => simp [intOf]; omega
        · have hj := join_full hR.out q1 hg hl8
          rw [hj] at hT
          obtain rfl := hT
          have h0 : 0 < ls.length := by omega
          have hl8i : ¬ (ls.length : Int) < 8 := by omega
          have hl0i : (0 : Int) < (ls.length : Int) := by omega
          obtain ⟨bL, offL, rfl⟩ := Rd.blk rL2 h0
          obtain ⟨d0, _⟩ := ses5 rL2 h0
          obtain ⟨m, hm, hRm, hml, _⟩ := leave_ok hR.out (getS_at hR.out.up h0).1
          simp only [Nat.zero_mul, Nat.add_zero] at d0
          generalize ls[0].id = x at *
          have HRm := Lib.hid hRm
          have Hm := Lib.hid hm
          have hm7 : ((m.length : Int) != 7) = false := by simp; omega
          clear hj hRm hm hml hg
          go_wp2_with fail
          with_reducible refine (sesLeave _ ls x _ rL2).mono ?_
          rintro e w3 ⟨hT, b3⟩
          rw [Hm.out] at hT
          obtain ⟨vm, rfl, ownM⟩ := hT
          have rM := ownM.rd
          have hb3 := hb2.trans (b3.mono hb2.size)
          obtain ⟨pM, cM, rfl⟩ := rM.shape
          clear ownM
          go_wp2_with fail
          go_roundw
          case rel => exact ⟨k + 1, m, by omega, by go_num, rM, HRm, hb3⟩
          case measure => simp [intOf]; omega
      · have hj := join_taken hR.out q1 hg
        rw [hj] at hT
        obtain rfl := hT
        have hp : 0 ≤ placeS ls q := by have := mt getS_none.2 hg; omega
        clear hj hg
        go_wp2_with fail
        go_roundw
        case rel => exact ⟨k + 1, ls, by omega, by go_num, rL2, hR, hb2⟩
        case measure => simp [intOf]; omega
    · have hcase : (¬ (k : Int) < (ids.length : Int)) ∨ ((k : Int) < (ids.length : Int) ∧ ¬ (k : Int) < 60) := by omega
      clear hlt
      obtain ⟨pL, cL, rfl⟩ := rL.shape
      rcases hcase with hki | ⟨hki, hki60⟩
      all_goals
        go_wp2_with fail
        with_reducible refine (sesRight _ ls _ rL).mono ?_
        rintro e w2 ⟨rfl, b2⟩
        rw [(rightP_iff ls).2 hR.out]
        have hb2 := hb.trans (b2.mono hb.size)
        go_wp2_with fail
        with_reducible refine (sessionRuns_walk _).mono ?_
        rintro e w3 ⟨rfl, b3⟩
        go_wp2_with fail
        go_ret
        exact ⟨rfl, hb2.trans (b3.mono hb2.size)⟩
end Go.Proofs.Ytmchkhofcjgeaaa
