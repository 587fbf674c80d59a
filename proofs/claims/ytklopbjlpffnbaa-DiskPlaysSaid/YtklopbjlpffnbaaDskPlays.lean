/- The walk of DiskPlays. -/
import Derived.Test.YtklopbjlpffnbaaRfU
import Derived.Test.YtklopbjlpffnbaaDskRuns
namespace Go.Proofs.Ytklopbjlpffnbaa
open Go Go.RowKit BigFrame Go.PlainAid
attribute [local go_sem] After.same
set_option maxHeartbeats 8000000 in
set_option maxRecDepth 100000 in
theorem diskPlays_walk (v : Value) (ls : List AskV) (w : World) (hv : Rd askE w v ls) (hd : ∀ x ∈ ls, AskOk w x ∧ x.n ≤ 9223372036854775807) :
    Calls Try.prog 7 #[v] w fun e w' => e = .returned (.bool true) ∧ Below w.heap.size w w' := by
  obtain ⟨w0, hw0⟩ : ∃ w0, w0 = w := ⟨_, rfl⟩
  rw [← hw0] at hv hd ⊢
  clear hw0
  have Hd := Lib.hid hd
  obtain ⟨pv, cv, rfl, hl1, hl2, _, _⟩ := hv.form
  unfold maxLen at hl2
  clear hd
  go_enter Try.func7, Try.ntmps7
  go_wp2_with fail
  refine (dskNew w0).mono ?_
  rintro e w1 ⟨rfl, d1, b1⟩
  go_wp2_with fail
  refine (refNew w1).mono ?_
  rintro e w2 ⟨rfl, d2, b2⟩
  have h2 : Two w0 noX w0.heap.size w1.heap.size dk0 dk0 w2 := ⟨⟨_, _, d1.ext b2, d2, fun k hk => ⟨hk.1, fun h => h.elim⟩, fun k hk => ⟨by have := b1.size; omega, fun h => h.elim⟩, fun k hk hk2 => by omega⟩, fun k h => h.elim⟩
  have hb2 := b1.trans (b2.mono b1.size)
  obtain ⟨gD, hgD⟩ : ∃ gD, gD = w0.heap.size := ⟨_, rfl⟩
  obtain ⟨gR, hgR⟩ : ∃ gR, gR = w1.heap.size := ⟨_, rfl⟩
  have e1 : Two w0 noX gD gR dk0 dk0 w2 := by rw [hgD, hgR]; exact h2
  rw [← hgD, ← hgR]
  clear h2 d1 d2 b1 b2 hgD hgR
  have Z := Lib.hid PInv.zero
  go_wp2_with fail
  go_loopw [5] (fun i wr => ∃ (k : Nat) (d : Dk), k ≤ ls.length ∧ k ≤ 60 ∧ i = .int .i64 k ∧ Hid (PInv k d) ∧ Two w0 noX gD gR d d wr ∧ Below w0.heap.size w0 wr) (fun i _ => ls.length - (intOf i).toNat)
  case atStart => exact ⟨0, dk0, by omega, by omega, rfl, Z, e1, hb2⟩
  case round =>
    clear e1 hb2 Z
    obtain ⟨k, d, hk, hk60, rfl, hinv, dd, hb⟩ := hrel
    have hk0 : (0 : Int) ≤ (k : Int) := by omega
    by_cases hlt : k < ls.length ∧ k < 60
    · obtain ⟨hlt, hlt3⟩ := hlt
      have hi4 : (k : Int) < (ls.length : Int) := by omega
      have hi5 : (k : Int) < 60 := by omega
      obtain ⟨pb, po, rfl⟩ := Rd.blk hv (by omega)
      obtain ⟨a0, a1, a2, a3, a4, a5⟩ := ask6 (hv.ext hb) hlt
      have hx := Hd.out _ (List.getElem_mem hlt)
      obtain ⟨x, hxe⟩ : ∃ x, ls[k] = x := ⟨_, rfl⟩
      rw [hxe] at a0 a1 a2 a3 a4 a5 hx
      clear hxe
      have Hx := Lib.hid hx
      have hup := Lib.hid hinv.out.up
      clear hx
      by_cases h300 : 300 < x.data.length
      · have h3i : (300 : Int) < (x.data.length : Int) := by omega
        go_wp2_with fail
        go_roundw
        case rel => first | exact ⟨k + 1, d, by omega, by omega, by go_num, hup, dd, hb⟩ | exact ⟨k + 1, by omega, by omega, by go_num, d, hup, dd⟩ | ((repeat apply Exists.intro); exact ⟨⟨k + 1, d, by omega, by omega, by go_num, hup, dd, hb⟩, rfl⟩)
        case measure => simp [intOf]; omega
      · have h3i : ¬ (300 : Int) < (x.data.length : Int) := by omega
        by_cases h30 : 30 < x.picks.length
        · have h4i : (30 : Int) < (x.picks.length : Int) := by omega
          go_wp2_with fail
          go_roundw
          case rel => first | exact ⟨k + 1, d, by omega, by omega, by go_num, hup, dd, hb⟩ | exact ⟨k + 1, by omega, by omega, by go_num, d, hup, dd⟩ | ((repeat apply Exists.intro); exact ⟨⟨k + 1, d, by omega, by omega, by go_num, hup, dd, hb⟩, rfl⟩)
          case measure => simp [intOf]; omega
        · have h4i : ¬ (30 : Int) < (x.picks.length : Int) := by omega
          have hcall := callT (by omega) hinv.out dd x Hx.out.1 Hx.out.2 (by omega) hb
          clear hup hinv dd
          go_wp2_with fail
          refine hcall.mono ?_
          rintro e w5 ⟨rfl, ⟨d', hi', t5⟩, b5⟩
          have hb5 := hb.trans b5
          have hal := alikeT (by omega) hi' t5
          have Hi' := Lib.hid hi'
          clear hcall hi' b5 hb a0 a1 a2 a3 a4 a5
          go_wp2_with fail
          refine hal.mono ?_
          rintro e w6 ⟨rfl, b6⟩
          have t6 := t5.ext b6
          have hb6 := hb5.trans (b6.mono hb5.size)
          clear hal t5 b6 hb5
          go_wp2_with fail
          go_roundw
          case rel => first | exact ⟨k + 1, d', by omega, by omega, by go_num, Hi', t6, hb6⟩ | ((repeat apply Exists.intro); exact ⟨⟨k + 1, d', by omega, by omega, by go_num, Hi', t6, hb6⟩, rfl⟩)
          case measure => simp [intOf]; omega
    · rcases Nat.lt_or_ge k ls.length with hl | hl
      · have hi4 : (k : Int) < (ls.length : Int) := by omega
        have hi5 : ¬ (k : Int) < 60 := by omega
        go_wp2_with fail
        refine (diskRuns_walk wr).mono ?_
        rintro e w9 ⟨rfl, c9⟩
        have b9 := hb.trans (c9.mono hb.size)
        go_wp2_with fail
        go_ret
        exact ⟨rfl, b9⟩
      · have hi4 : ¬ (k : Int) < (ls.length : Int) := by omega
        go_wp2_with fail
        refine (diskRuns_walk wr).mono ?_
        rintro e w9 ⟨rfl, c9⟩
        have b9 := hb.trans (c9.mono hb.size)
        go_wp2_with fail
        go_ret
        exact ⟨rfl, b9⟩
end Go.Proofs.Ytklopbjlpffnbaa
