/- The walk of SeriesGapless. -/
import Derived.Test.YtmchkhofcjgeaaaSerGapP
import Derived.Test.YtmchkhofcjgeaaaSerAskP
import Derived.Test.YtmchkhofcjgeaaaSerRuns
import Derived.Test.YtmchkhofcjgeaaaSesOnce
import Derived.Deep.CutRange
import Derived.Deep.CutBlock
import Derived.BigQuiet
namespace Go.Proofs.Ytmchkhofcjgeaaa
open Go Go.RowKit

theorem Blk.extAt {w w' : World} {g : Nat} {cs : Array Value} {t : TypeId} (h : Blk w g cs t) (o : Obj) (e : w' = w.alloc o) : Blk w' g cs t := by subst e; exact h.ext (below_alloc _ _)

set_option maxHeartbeats 8000000 in
set_option maxRecDepth 100000 in
theorem seriesGapless_walk (v : Value) (asks : List RAsk) (w : World) (hv : Rd raskE w v asks) :
    Calls Try.prog 8 #[v] w fun e w' => e = .returned (.bool true) ∧ Below w.heap.size w w' := by
  obtain ⟨p, cap, rfl, h1, h2, h3, h4⟩ := hv.form
  clear h3 h4
  unfold maxLen at h2
  go_enter Try.func8, Try.ntmps8
  go_upto_region 3 with (fail)
  have k0 : Blk (w.alloc (.cells #[.string { data := #[97] }, .string { data := #[98] }, .string { data := #[82, 111, 116] }, .string { data := #[122, 45, 57] }] 9)) w.heap.size (arrS 4 nmS) 9 := Blk.new w _ _
  have b0 := below_alloc w (.cells #[.string { data := #[97] }, .string { data := #[98] }, .string { data := #[82, 111, 116] }, .string { data := #[122, 45, 57] }] 9)
  have s0 : (w.alloc (.cells #[.string { data := #[97] }, .string { data := #[98] }, .string { data := #[82, 111, 116] }, .string { data := #[122, 45, 57] }] 9)).heap.size = w.heap.size + 1 := by simp
  generalize hw0 : w.alloc (.cells #[.string { data := #[97] }, .string { data := #[98] }, .string { data := #[82, 111, 116] }, .string { data := #[122, 45, 57] }] 9) = w0 at *
  have S0 := Lib.hid s0
  clear hw0 s0
  have k1 : Blk (w0.alloc (.cells #[.int .i64 0, .int .i64 0, .int .i64 0, .int .i64 0] 58)) w0.heap.size (arrI 4 fun _ => 0) 58 := Blk.new w0 _ _
  have b1 := below_alloc w0 (.cells #[.int .i64 0, .int .i64 0, .int .i64 0, .int .i64 0] 58)
  have s1 : (w0.alloc (.cells #[.int .i64 0, .int .i64 0, .int .i64 0, .int .i64 0] 58)).heap.size = w0.heap.size + 1 := by simp
  have k2 : Blk ((w0.alloc (.cells #[.int .i64 0, .int .i64 0, .int .i64 0, .int .i64 0] 58)).alloc (.cells #[.int .i64 0, .int .i64 0, .int .i64 0, .int .i64 0] 58)) (w0.heap.size + 1) (arrI 4 fun _ => 0) 58 := by rw [← s1]; exact Blk.new _ _ _
  have b2 := below_alloc (w0.alloc (.cells #[.int .i64 0, .int .i64 0, .int .i64 0, .int .i64 0] 58)) (.cells #[.int .i64 0, .int .i64 0, .int .i64 0, .int .i64 0] 58)
  have s2 : ((w0.alloc (.cells #[.int .i64 0, .int .i64 0, .int .i64 0, .int .i64 0] 58)).alloc (.cells #[.int .i64 0, .int .i64 0, .int .i64 0, .int .i64 0] 58)).heap.size = w0.heap.size + 2 := by simp
  have k1 := k1.ext b2
  have k0 := (k0.ext b1).ext b2
  have b0 := b0.trans ((b1.trans (b2.mono b1.size)).mono b0.size)
  have Hs := Lib.hid s2
  clear b1 b2 s1 s2
  go_upto_region 4 with (fail)
  generalize hw2 : (w0.alloc (.cells #[.int .i64 0, .int .i64 0, .int .i64 0, .int .i64 0] 58)).alloc (.cells #[.int .i64 0, .int .i64 0, .int .i64 0, .int .i64 0] 58) = w2 at *
  clear hw2
  have k3 : Blk (w2.alloc (.cells #[.bool false, .bool false, .bool false, .bool false] 59)) w2.heap.size (arrB 4 fun _ => false) 59 := Blk.new w2 _ _
  have b1 := below_alloc w2 (.cells #[.bool false, .bool false, .bool false, .bool false] 59)
  have s1 : (w2.alloc (.cells #[.bool false, .bool false, .bool false, .bool false] 59)).heap.size = w2.heap.size + 1 := by simp
  have k4 : Blk ((w2.alloc (.cells #[.bool false, .bool false, .bool false, .bool false] 59)).alloc (.cells #[.bool false, .bool false, .bool false, .bool false] 59)) (w2.heap.size + 1) (arrB 4 fun _ => false) 59 := by rw [← s1]; exact Blk.new _ _ _
  have b2 := below_alloc (w2.alloc (.cells #[.bool false, .bool false, .bool false, .bool false] 59)) (.cells #[.bool false, .bool false, .bool false, .bool false] 59)
  have k3 := k3.ext b2
  have k0 := (k0.ext b1).ext b2
  have k1 := (k1.ext b1).ext b2
  have k2 := (k2.ext b1).ext b2
  have b0 := b0.trans ((b1.trans (b2.mono b1.size)).mono b0.size)
  clear b1 b2 s1
  go_wp2_with fail
  go_loopw [3, 9] (fun lv i wr => ∃ (k : Nat) (ls : List Srs) (la lm : Nat → Int) (op sh : Nat → Bool), k ≤ asks.length ∧ i = .int .i64 k ∧ Rd srsE wr lv ls ∧ Hid (GapP ls la lm op sh) ∧ Blk wr w.heap.size (arrS 4 nmS) 9 ∧ Blk wr w0.heap.size (arrI 4 la) 58 ∧ Blk wr (w0.heap.size + 1) (arrI 4 lm) 58 ∧ Blk wr w2.heap.size (arrB 4 op) 59 ∧ Blk wr (w2.heap.size + 1) (arrB 4 sh) 59 ∧ Below w.heap.size w wr) (fun _ i _ => asks.length - (intOf i).toNat)
  case atStart => exact ⟨0, [], _, _, _, _, by omega, rfl, Rd.nil _, GapP.start, k0, k1, k2, k3, k4, b0⟩
  case round =>
    clear k0 k1 k2 k3 k4 b0
    obtain ⟨k, ls, la, lm, op, sh, hk, rfl, rL, hO, k0, k1, k2, k3, k4, hb⟩ := hrel
    by_cases hlt : k < asks.length ∧ k < 200
    · obtain ⟨hlt, hlt200⟩ := hlt
      have hki : (k : Int) < (asks.length : Int) := by omega
      have hki200 : (k : Int) < 200 := by omega
      obtain ⟨b, off, rfl⟩ := Rd.blk hv (by omega)
      obtain ⟨c0, c1, c2⟩ := rask3 (hv.ext hb) hlt
      generalize asks[k] = x at c0 c1 c2
      obtain ⟨pL, cL, rfl⟩ := rL.shape
      go_wp2_with fail
      with_reducible refine (withinCalls x.name 0 3 _ (by omega) (by omega) (by omega)).mono ?_
      rintro e w' ⟨rfl, rfl⟩
      obtain ⟨q1, q2⟩ := within_bounds x.name 0 3 (by omega)
      generalize within x.name 0 3 = qi at *
      obtain ⟨q, rfl⟩ : ∃ q : Nat, qi = q := ⟨qi.toNat, by omega⟩
      go_wp2_with fail
      with_reducible refine (withinCalls x.limit 1 9 _ (by omega) (by omega) (by omega)).mono ?_
      rintro e w' ⟨rfl, rfl⟩
      obtain ⟨u1, u2⟩ := within_bounds x.limit 1 9 (by omega)
      generalize within x.limit 1 9 = sq at *
      have hq4 : q < 4 := by omega
      have hqi : (q : Int) < 4 := by omega
      have hq0 : (0 : Int) ≤ (q : Int) := by omega
      have hget := Lib.hid (hO.out.has q hq4)
      have hnm := Lib.hid (nmS_name hq4)
      have hlen := Lib.hid hO.out.len
      go_upto_block 2 with (fail)
      go_cut [3, 12, 13, 14, 15, 16, 17, 18] from 20 to 152 (fun lv _ _ _ _ _ _ _ wx => ∃ (ls : List Srs) (la lm : Nat → Int) (op sh : Nat → Bool), Rd srsE wx lv ls ∧ Hid (GapP ls la lm op sh) ∧ Blk wx w.heap.size (arrS 4 nmS) 9 ∧ Blk wx w0.heap.size (arrI 4 la) 58 ∧ Blk wx (w0.heap.size + 1) (arrI 4 lm) 58 ∧ Blk wx w2.heap.size (arrB 4 op) 59 ∧ Blk wx (w2.heap.size + 1) (arrB 4 sh) 59 ∧ Below w.heap.size w wx)
      case first =>
        have l0 := k0.cellS hq4
        by_cases hk1 : x.kind = 1
        · have hb1 : (x.kind == 1) = true := by simpa using hk1
          clear hk1
          go_wp2_with fail
          with_reducible refine (srsOpen _ ls (nmS q) sq _ rL).mono ?_
          rintro e w3 ⟨hT, b2⟩
          have m0 := k0.ext b2
          have m1 := k1.ext b2
          have m2 := k2.ext b2
          have m3 := k3.ext b2
          have m4 := k4.ext b2
          have hb2 := hb.trans (b2.mono hb.size)
          cases hq : op q with
          | true =>
            have hj := open_taken (lim := sq) hO.out.right hnm.out u1 (by omega) (by rw [hget.out, hq]; simp)
            rw [hj] at hT
            obtain rfl := hT
            have n3 := m3.cellB hq4
            rw [hq] at n3
            clear hj hq
            go_wp2_with fail
            go_meet
            exact ⟨ls, la, lm, op, sh, rL.ext b2, hO, m0, m1, m2, m3, m4, hb2⟩
          | false =>
            obtain ⟨m, hm, hRm, hml, hgm⟩ := open_ok hO.out.right hnm.out u1 (by omega) (by rw [hget.out, hq]; rfl) hlen.out
            rw [hm] at hT
            obtain ⟨vm, rfl, ownM⟩ := hT
            have HOm := Lib.hid (hO.out.opened hq4 hq hRm hml hgm)
            have rM := ownM.rd
            have hvm := fun N (h : N < wr.heap.size) => ownM.notAt h
            have Hvm := Lib.hid hvm
            have n3 := m3.cellB hq4
            rw [hq] at n3
            have f3 := m3.frozen q
            have f2 := m2.frozen q
            have n2 := m2.cellI hq4
            have d1 : ¬ w0.heap.size + 1 = w2.heap.size := by have := Hs.out; omega
            have d2 : ¬ w2.heap.size = w0.heap.size + 1 := by have := Hs.out; omega
            have e0 := (m0.away (p := ⟨w2.heap.size, q, none⟩) (by have := Hs.out; have := S0.out; simp; omega) (.bool true)).away (p := ⟨w0.heap.size + 1, q, none⟩) (by have := S0.out; simp; omega) (.int .i64 sq)
            have e1 := (m1.away (p := ⟨w2.heap.size, q, none⟩) (by have := Hs.out; simp; omega) (.bool true)).away (p := ⟨w0.heap.size + 1, q, none⟩) (by simp) (.int .i64 sq)
            have e2 := (m2.away (p := ⟨w2.heap.size, q, none⟩) (by have := Hs.out; simp; omega) (.bool true)).setI q sq
            have e3 := (m3.setB q true).away (p := ⟨w0.heap.size + 1, q, none⟩) (by have := Hs.out; simp; omega) (.int .i64 sq)
            have e4 := (m4.away (p := ⟨w2.heap.size, q, none⟩) (by simp) (.bool true)).away (p := ⟨w0.heap.size + 1, q, none⟩) (by have := Hs.out; simp; omega) (.int .i64 sq)
            have lt4 := k4.lt
            clear hm hRm hgm hml ownM hvm hq
            go_wp2_with fail
            go_meet
            refine ⟨m, _, _, _, _, (rM.away (p := ⟨w2.heap.size, q, none⟩) _ (Hvm.out w2.heap.size (by omega))).away (p := ⟨w0.heap.size + 1, q, none⟩) _ (Hvm.out (w0.heap.size + 1) (by have := Hs.out; omega)), HOm, e0, e1, e2, e3, e4, ?_⟩
            exact (hb2.setCell (p := ⟨w2.heap.size, q, none⟩) (by have := Hs.out; have := S0.out; simp; omega) _).setCell (p := ⟨w0.heap.size + 1, q, none⟩) (by have := S0.out; simp; omega) _
        · have hb1 : (x.kind == 1) = false := by simpa using hk1
          clear hk1
          by_cases hk2 : x.kind = 2
          · have hb2' : (x.kind == 2) = true := by simpa using hk2
            clear hk2
            go_wp2_with fail
            with_reducible refine (srsShut _ ls (nmS q) _ rL).mono ?_
            rintro e w3 ⟨hT, b2⟩
            have m0 := k0.ext b2
            have m1 := k1.ext b2
            have m2 := k2.ext b2
            have m3 := k3.ext b2
            have m4 := k4.ext b2
            have hb2 := hb.trans (b2.mono hb.size)
            have n3 := m3.cellB hq4
            have n4 := m4.cellB hq4
            have f4 := m4.frozen q
            cases hq : op q with
            | false =>
              rw [hq] at n3
              rw [shut_none hO.out.right (by rw [hget.out, hq]; rfl)] at hT
              obtain rfl := hT
              clear hq
              go_wp2_with fail
              go_meet
              exact ⟨ls, la, lm, op, sh, rL.ext b2, hO, m0, m1, m2, m3, m4, hb2⟩
            | true =>
              rw [hq] at n3
              have hg2 := hget.out
              rw [hq, if_pos rfl] at hg2
              cases hs : sh q with
              | true =>
                rw [hs] at n4
                rw [shut_shut hO.out.right hg2 hs] at hT
                obtain rfl := hT
                clear hq hs hg2
                go_wp2_with fail
                go_meet
                exact ⟨ls, la, lm, op, sh, rL.ext b2, hO, m0, m1, m2, m3, m4, hb2⟩
              | false =>
                rw [hs] at n4
                obtain ⟨m, hm, hRm, hml, hgm⟩ := shut_ok hO.out.right hg2 hs
                rw [hm] at hT
                obtain ⟨vm, rfl, ownM⟩ := hT
                have HOm := Lib.hid (hO.out.shutted hq4 hq hRm hml hgm)
                have rM := ownM.rd
                have hvm := fun N (h : N < wr.heap.size) => ownM.notAt h
                have Hvm := Lib.hid hvm
                have e0 := m0.away (p := ⟨w2.heap.size + 1, q, none⟩) (by have := Hs.out; have := S0.out; simp; omega) (.bool true)
                have e1 := m1.away (p := ⟨w2.heap.size + 1, q, none⟩) (by have := Hs.out; simp; omega) (.bool true)
                have e2 := m2.away (p := ⟨w2.heap.size + 1, q, none⟩) (by have := Hs.out; simp; omega) (.bool true)
                have e3 := m3.away (p := ⟨w2.heap.size + 1, q, none⟩) (by simp) (.bool true)
                have e4 := m4.setB q true
                have lt4 := k4.lt
                clear hm hRm hgm hml ownM hvm hq hs hg2
                go_wp2_with fail
                go_meet
                exact ⟨m, _, _, _, _, rM.away (p := ⟨w2.heap.size + 1, q, none⟩) _ (Hvm.out (w2.heap.size + 1) lt4), HOm, e0, e1, e2, e3, e4, hb2.setCell (p := ⟨w2.heap.size + 1, q, none⟩) (by have := Hs.out; have := S0.out; simp; omega) _⟩
          · have hb2' : (x.kind == 2) = false := by simpa using hk2
            clear hk2
            go_wp2_with fail
            with_reducible refine (srsTake _ ls (nmS q) _ rL).mono ?_
            rintro e w3 ⟨hT, b2⟩
            have m0 := k0.ext b2
            have m1 := k1.ext b2
            have m2 := k2.ext b2
            have m3 := k3.ext b2
            have m4 := k4.ext b2
            have hb2 := hb.trans (b2.mono hb.size)
            have n1 := m1.cellI hq4
            have n2 := m2.cellI hq4
            have n3 := m3.cellB hq4
            have n4 := m4.cellB hq4
            cases hq : op q with
            | false =>
              rw [hq] at n3
              rw [take_none hO.out.right (by rw [hget.out, hq]; rfl)] at hT
              obtain rfl := hT
              clear hq
              go_wp2_with fail
              go_quiet (fail)
              go_wp2_with fail
              go_meet
              exact ⟨ls, la, lm, op, sh, (rL.ext b2).drewN _, hO, m0.drewN _, m1.drewN _, m2.drewN _, m3.drewN _, m4.drewN _, hb2.trans (below_drawn _ _ _)⟩
            | true =>
              rw [hq] at n3
              have hg2 := hget.out
              rw [hq, if_pos rfl] at hg2
              obtain ⟨y1, y2, y3, y4⟩ := hO.out.bounds hq4 hq
              cases hs : sh q with
              | true =>
                rw [hs] at n4
                rw [take_shut hO.out.right hg2 hs] at hT
                obtain rfl := hT
                clear hq hs hg2
                go_wp2_with fail
                go_quiet (fail)
                go_wp2_with fail
                go_meet
                exact ⟨ls, la, lm, op, sh, (rL.ext b2).drewN _, hO, m0.drewN _, m1.drewN _, m2.drewN _, m3.drewN _, m4.drewN _, hb2.trans (below_drawn _ _ _)⟩
              | false =>
                rw [hs] at n4
                by_cases hls : la q < lm q
                · obtain ⟨m, hm, hRm, hml, hgm⟩ := take_ok hO.out.right hg2 hs (by show ¬ lm q < la q + 1; omega)
                  rw [hm] at hT
                  obtain ⟨vm, rfl, ownM⟩ := hT
                  have HOm := Lib.hid (hO.out.taken hq4 hq hRm hml hgm)
                  have rM := ownM.rd
                  have hvm := fun N (h : N < wr.heap.size) => ownM.notAt h
                  have Hvm := Lib.hid hvm
                  have f1 := m1.frozen q
                  have hdl : decide (la q < lm q) = true := by simpa using hls
                  have hwl : IntKind.i64.wrap (la q + 1) = la q + 1 := by rw [IntKind.wrap_i64]; omega
                  have hbq : (la q + 1 != la q + 1) = false := by simp
                  have lt4 := k4.lt
                  clear hm hRm hgm hml ownM hvm hq hs hg2
                  go_wp2_with fail
                  go_quiet (fail)
                  have e0 := (m0.drewN nq).away (p := ⟨w0.heap.size, q, none⟩) (by have := S0.out; simp; omega) (.int .i64 (la q + 1))
                  have e1 := (m1.drewN nq).setI q (la q + 1)
                  have e2 := (m2.drewN nq).away (p := ⟨w0.heap.size, q, none⟩) (by simp) (.int .i64 (la q + 1))
                  have e3 := (m3.drewN nq).away (p := ⟨w0.heap.size, q, none⟩) (by have := Hs.out; simp; omega) (.int .i64 (la q + 1))
                  have e4 := (m4.drewN nq).away (p := ⟨w0.heap.size, q, none⟩) (by have := Hs.out; simp; omega) (.int .i64 (la q + 1))
                  go_wp2_with fail
                  go_meet
                  exact ⟨m, _, _, _, _, (rM.drewN nq).away (p := ⟨w0.heap.size, q, none⟩) _ (Hvm.out w0.heap.size (by have := Hs.out; omega)), HOm, e0, e1, e2, e3, e4, (hb2.trans (below_drawn _ _ _)).setCell (p := ⟨w0.heap.size, q, none⟩) (by have := S0.out; simp; omega) _⟩
                · rw [take_full hO.out.right hg2 hs (by show lm q < la q + 1; omega)] at hT
                  obtain rfl := hT
                  have hdl : decide (la q < lm q) = false := by simpa using hls
                  clear hq hs hg2
                  go_wp2_with fail
                  go_quiet (fail)
                  go_wp2_with fail
                  go_meet
                  exact ⟨ls, la, lm, op, sh, (rL.ext b2).drewN _, hO, m0.drewN _, m1.drewN _, m2.drewN _, m3.drewN _, m4.drewN _, hb2.trans (below_drawn _ _ _)⟩
      case rest =>
        clear rL hO k0 k1 k2 k3 k4 hb hget hlen c0 c1 c2
        obtain ⟨ls, la, lm, op, sh, rL, hO, k0, k1, k2, k3, k4, hb⟩ := hcut
        obtain ⟨pL, cL, rfl⟩ := rL.shape
        go_wp2_with fail
        with_reducible refine (srsRight _ ls _ rL).mono ?_
        rintro e w3 ⟨rfl, b2⟩
        rw [(rightQ_iff ls).2 hO.out.right]
        have m0 := k0.ext b2
        have m1 := k1.ext b2
        have m2 := k2.ext b2
        have m3 := k3.ext b2
        have m4 := k4.ext b2
        have hb2 := hb.trans (b2.mono hb.size)
        go_wp2_with fail
        go_roundw
        case rel => exact ⟨k + 1, ls, la, lm, op, sh, by omega, by go_num, rL.ext b2, hO, m0, m1, m2, m3, m4, hb2⟩
        case measure => simp [intOf]; omega
    · have hcase : (¬ (k : Int) < (asks.length : Int)) ∨ ((k : Int) < (asks.length : Int) ∧ ¬ (k : Int) < 200) := by omega
      clear hlt
      rcases hcase with hki | ⟨hki, hki200⟩
      all_goals
        go_wp2_with fail
        with_reducible refine (seriesRuns_walk _).mono ?_
        rintro e w3 ⟨rfl, b3⟩
        go_wp2_with fail
        go_ret
        exact ⟨rfl, hb.trans (b3.mono hb.size)⟩
end Go.Proofs.Ytmchkhofcjgeaaa
