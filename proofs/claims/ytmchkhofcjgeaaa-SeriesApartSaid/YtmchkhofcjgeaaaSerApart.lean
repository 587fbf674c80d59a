/- The walk of SeriesApart. -/
import Derived.Test.YtmchkhofcjgeaaaSerGapP
import Derived.Test.YtmchkhofcjgeaaaSerAskP
import Derived.Test.YtmchkhofcjgeaaaSerRuns
import Derived.Test.YtmchkhofcjgeaaaSesOnce
import Derived.Deep.RegionHeld3
namespace Go.Proofs.Ytmchkhofcjgeaaa
open Go Go.RowKit

theorem open_any {l : List Srs} {n : ByteArray} {lim : Int} (hr : RightQ l) (hnm : nameB n = true) (h1 : 1 ≤ lim) (h2 : lim ≤ 1099511627776) : (∃ m, openR l n lim = .ok m ∧ RightQ m) ∨ ∃ e, openR l n lim = .error e ∧ e ≠ 0 := by
  by_cases hg : getR l n = none
  · by_cases h8 : l.length < 8
    · obtain ⟨m, a, b, _⟩ := open_ok hr hnm h1 h2 hg h8
      exact .inl ⟨m, a, b⟩
    · exact .inr ⟨_, open_full hr hnm h1 h2 hg h8, by decide⟩
  · exact .inr ⟨_, open_taken hr hnm h1 h2 hg, by decide⟩
theorem take_any {l : List Srs} {n : ByteArray} (hr : RightQ l) : (∃ s m, getR l n = some s ∧ takeR l n = .ok (m, s.next) ∧ RightQ m ∧ ∀ x, getR m x = if x = n then some ⟨n, s.next + 1, s.limit, s.shut⟩ else getR l x) ∨ ∃ e, takeR l n = .error e ∧ e ≠ 0 := by
  cases hg : getR l n with
  | none => exact .inr ⟨_, take_none hr hg, by decide⟩
  | some s =>
    cases hs : s.shut with
    | true => exact .inr ⟨_, take_shut hr hg hs, by decide⟩
    | false =>
      by_cases hlt : s.limit < s.next
      · exact .inr ⟨_, take_full hr hg hs hlt, by decide⟩
      · obtain ⟨m, a, b, _, c⟩ := take_ok hr hg hs hlt
        exact .inl ⟨s, m, rfl, a, b, fun x => by rw [c x, hs]⟩

set_option maxHeartbeats 8000000 in
set_option maxRecDepth 100000 in
theorem seriesApart_walk (v : Value) (asks : List RAsk) (nz : Int) (w : World) (hv : Rd raskE w v asks) :
    Calls Try.prog 10 #[v, .int .i64 nz] w fun e w' => e = .returned (.bool true) ∧ Below w.heap.size w w' := by
  obtain ⟨p, cap, rfl, h1, h2, h3, h4⟩ := hv.form
  clear h3 h4
  unfold maxLen at h2
  have kn : Blk (w.alloc (.cells #[.string { data := #[97] }, .string { data := #[98] }, .string { data := #[82, 111, 116] }, .string { data := #[122, 45, 57] }] 9)) w.heap.size (arrS 4 nmS) 9 := Blk.new w _ _
  have b0 := below_alloc w (.cells #[.string { data := #[97] }, .string { data := #[98] }, .string { data := #[82, 111, 116] }, .string { data := #[122, 45, 57] }] 9)
  go_enter Try.func10, Try.ntmps10
  go_wp2_with fail
  go_loopw [5, 7] (fun lv i wr => ∃ (k : Nat) (ls : List Srs), k ≤ asks.length ∧ i = .int .i64 k ∧ Rd srsE wr lv ls ∧ Hid (RightQ ls) ∧ Blk wr w.heap.size (arrS 4 nmS) 9 ∧ Below w.heap.size w wr) (fun _ i _ => asks.length - (intOf i).toNat)
  case atStart => exact ⟨0, [], by omega, rfl, Rd.nil _, RightQ.nil, kn, b0⟩
  case round =>
    clear kn b0
    obtain ⟨k, ls, hk, rfl, rL, hR, kn, hb⟩ := hrel
    obtain ⟨pL, cL, rfl⟩ := rL.shape
    by_cases hlt : k < asks.length ∧ k < 50
    · obtain ⟨hlt, hlt50⟩ := hlt
      have hki : (k : Int) < (asks.length : Int) := by omega
      have hki50 : (k : Int) < 50 := by omega
      have hk0 : (0 : Int) ≤ (k : Int) := by omega
      obtain ⟨b, off, rfl⟩ := Rd.blk hv (by omega)
      obtain ⟨c0, c1, c2⟩ := rask3 (hv.ext hb) hlt
      generalize asks[k] = x at c0 c1 c2
      have hbb : b < wr.heap.size := World.block_lt_of_cell? wr _ c0
      go_wp2_with fail
      with_reducible refine (withinCalls x.name 0 3 _ (by omega) (by omega) (by omega)).mono ?_
      rintro e w' ⟨rfl, rfl⟩
      obtain ⟨q1, q2⟩ := within_bounds x.name 0 3 (by omega)
      generalize within x.name 0 3 = qi at *
      obtain ⟨q, rfl⟩ : ∃ q : Nat, qi = q := ⟨qi.toNat, by omega⟩
      obtain ⟨u1, u2⟩ := within_bounds x.limit 1 9 (by omega)
      have hq4 : q < 4 := by omega
      have hqi : (q : Int) < 4 := by omega
      have hq0 : (0 : Int) ≤ (q : Int) := by omega
      have l0 := kn.cellS hq4
      have hN := kn.lt
      have rLd := rL.drew
      rcases open_any (n := nmS q) (lim := within x.limit 1 9) hR.out (nmS_name hq4) (by omega) (by omega) with ⟨m, hm, hRm⟩ | ⟨n, hm, hn⟩
      · have Hm := Lib.hid hm
        have HRm := Lib.hid hRm
        clear hm hRm
        go_wp2_with fail
        go_region_held3 (fun w' => w'.cell? ⟨w.heap.size, q, none⟩ = some (.string (nmS q)) ∧ w'.cell? ⟨b, off + k * 3 + 2, none⟩ = some (.int .i64 x.limit)) (first | go_keep | (refine ⟨?_, ?_⟩ <;> first | (rw [b3.cell (p := ⟨w.heap.size, q, none⟩) hN]; exact l0) | (rw [b3.cell (p := ⟨b, off + k * 3 + 2, none⟩) hbb]; exact c2)))
          (first
            | (go_at_call 25; (with_reducible refine (withinCalls _ _ _ _ (by omega) (by omega) (by omega)).mono ?_); (rintro e w' ⟨rfl, rfl⟩))
            | (go_at_call 27; (with_reducible refine (srsOpen _ ls (nmS q) (within x.limit 1 9) _ rLd).mono ?_); (rintro e w3 ⟨hT, b3⟩); rw [Hm.out] at hT; obtain ⟨vm, rfl, ownM⟩ := hT))
        have rM := ownM.rd
        have b3' := (below_drew wr.heap.size wr).trans b3
        clear ownM b3
        go_wp2_with fail
        go_roundw
        case rel => exact ⟨k + 1, m, by omega, by go_num, rM, HRm, kn.ext b3', hb.trans (b3'.mono hb.size)⟩
        case measure => simp [intOf]; omega
      · have Hm := Lib.hid hm
        have hnb : (n == 0) = false := by simpa using hn
        clear hm hn
        go_wp2_with fail
        go_region_held3 (fun w' => w'.cell? ⟨w.heap.size, q, none⟩ = some (.string (nmS q)) ∧ w'.cell? ⟨b, off + k * 3 + 2, none⟩ = some (.int .i64 x.limit)) (first | go_keep | (refine ⟨?_, ?_⟩ <;> first | (rw [b3.cell (p := ⟨w.heap.size, q, none⟩) hN]; exact l0) | (rw [b3.cell (p := ⟨b, off + k * 3 + 2, none⟩) hbb]; exact c2)))
          (first
            | (go_at_call 25; (with_reducible refine (withinCalls _ _ _ _ (by omega) (by omega) (by omega)).mono ?_); (rintro e w' ⟨rfl, rfl⟩))
            | (go_at_call 27; (with_reducible refine (srsOpen _ ls (nmS q) (within x.limit 1 9) _ rLd).mono ?_); (rintro e w3 ⟨hT, b3⟩); rw [Hm.out] at hT; obtain rfl := hT))
        have b3' := (below_drew wr.heap.size wr).trans b3
        clear b3
        go_wp2_with fail
        go_roundw
        case rel => exact ⟨k + 1, ls, by omega, by go_num, rL.ext b3', hR, kn.ext b3', hb.trans (b3'.mono hb.size)⟩
        case measure => simp [intOf]; omega
    · have hcase : (¬ (k : Int) < (asks.length : Int)) ∨ ((k : Int) < (asks.length : Int) ∧ ¬ (k : Int) < 50) := by omega
      clear hlt
      rcases hcase with hki | ⟨hki, hki50⟩
      all_goals
        go_wp2_with fail
        with_reducible refine (withinCalls nz 0 3 _ (by omega) (by omega) (by omega)).mono ?_
        rintro e w' ⟨rfl, rfl⟩
        obtain ⟨q1, q2⟩ := within_bounds nz 0 3 (by omega)
        generalize within nz 0 3 = qi at *
        obtain ⟨q, rfl⟩ : ∃ q : Nat, qi = q := ⟨qi.toNat, by omega⟩
        have hq4 : q < 4 := by omega
        have hqi : (q : Int) < 4 := by omega
        have hq0 : (0 : Int) ≤ (q : Int) := by omega
        have l0 := kn.cellS hq4
        go_wp2_with fail
        with_reducible refine (srsTake _ ls (nmS q) _ rL).mono ?_
        rintro e wt ⟨hT, b3⟩
        have rLt := rL.ext b3
        have knt := kn.ext b3
        have hbt := hb.trans (b3.mono hb.size)
        clear rL kn hb b3 l0
        rcases take_any (n := nmS q) hR.out with ⟨s, m, hs, hm, hRm, hgm⟩ | ⟨n, hm, hn⟩
        · rw [hm] at hT
          obtain ⟨vm, rfl, ownM⟩ := hT
          have rMt := ownM.rd
          obtain ⟨pM, cM, rfl⟩ := rMt.shape
          obtain ⟨w1, w2, w3, w4⟩ := numR_iff.1 (hR.out.good _ (getR_some hs).1).2
          have hsn := (getR_some hs).2
          have HRm := Lib.hid hRm
          have Hs := Lib.hid hs
          have Hgm := Lib.hid hgm
          have Hsn := Lib.hid hsn
          have hkt := knt.lt
          clear ownM hm hRm hs hgm hsn
          go_wp2_with fail
          go_loopw [15] (fun i w9 => ∃ j : Nat, j ≤ 4 ∧ i = .int .i64 j ∧ Below wt.heap.size wt w9) (fun i _ => 4 - (intOf i).toNat)
          case atStart => exact ⟨0, by omega, rfl, Below.refl _ _⟩
          case round =>
            obtain ⟨j, hj, rfl, hb9⟩ := hrel
            by_cases hj4 : j < 4
            · have hji : (j : Int) < 4 := by omega
              have hj0 : (0 : Int) ≤ (j : Int) := by omega
              have rL9 := rLt.ext hb9
              have rM9 := rMt.ext hb9
              have kn := knt.ext hb9
              by_cases hjq : j = q
              · subst hjq
                have bx : Bool := true
                have HA : Hid (lookR ls (nmS j) = (s, true)) := look_has hR.out Hs.out
                have HB : Hid (lookR m (nmS j) = (⟨nmS j, s.next + 1, s.limit, s.shut⟩, true)) := look_has HRm.out (by rw [Hgm.out, if_pos rfl])
                have z1 : ((j : Int) != (j : Int)) = false := by simp
                have z2 : ((j : Int) == (j : Int)) = true := by simp
                have z3 : IntKind.i64.wrap (s.next + 1) = s.next + 1 := by rw [IntKind.wrap_i64]; omega
                have z4 : (s.name.toList != (nmS j).toList) = false := by rw [Hsn.out]; simp
                have z4' : (s.name.toList == (nmS j).toList) = true := by rw [Hsn.out]; simp
                clear bx
                have l0 := kn.cellS hj4
                go_wp2_with fail
                with_reducible refine (srsFind _ ls (nmS j) _ rL9).mono ?_
                rintro e w10 ⟨he, c10⟩
                obtain rfl : e = .returned (.tuple #[.agg #[.string s.name, .int .i64 s.next, .int .i64 s.limit, .bool s.shut], .bool true]) := by rw [he, HA.out]
                clear he
                have a10 := c10.trans ((below_alloc w10 (.cells #[.string s.name, .int .i64 s.next, .int .i64 s.limit, .bool s.shut] 66)).mono c10.size)
                have k16 : Blk (w10.alloc (.cells #[.string s.name, .int .i64 s.next, .int .i64 s.limit, .bool s.shut] 66)) w10.heap.size #[.string s.name, .int .i64 s.next, .int .i64 s.limit, .bool s.shut] 66 := Blk.new _ _ _
                have rM10 := rM9.ext a10
                have kn10 := kn.ext a10
                have hb10 := hb9.trans (a10.mono hb9.size)
                have l1 := kn10.cellS hj4
                clear c10 a10
                go_wp2_with fail
                generalize hw10 : w10.alloc (.cells #[.string s.name, .int .i64 s.next, .int .i64 s.limit, .bool s.shut] 66) = w11 at *
                clear hw10
                with_reducible refine (srsFind _ m (nmS j) _ rM10).mono ?_
                rintro e w12 ⟨he, c12⟩
                obtain rfl : e = .returned (.tuple #[.agg #[.string (nmS j), .int .i64 (s.next + 1), .int .i64 s.limit, .bool s.shut], .bool true]) := by rw [he, HB.out]
                clear he
                have a12 := c12.trans ((below_alloc w12 (.cells #[.string (nmS j), .int .i64 (s.next + 1), .int .i64 s.limit, .bool s.shut] 66)).mono c12.size)
                have k18 : Blk (w12.alloc (.cells #[.string (nmS j), .int .i64 (s.next + 1), .int .i64 s.limit, .bool s.shut] 66)) w12.heap.size #[.string (nmS j), .int .i64 (s.next + 1), .int .i64 s.limit, .bool s.shut] 66 := Blk.new _ _ _
                have k16 := k16.ext a12
                have hb12 := hb10.trans (a12.mono hb10.size)
                clear c12 a12 l0 l1
                obtain ⟨⟨x0, x1, x2, x3⟩, _⟩ := srs_cells k16
                obtain ⟨⟨y0, y1, y2, y3⟩, _⟩ := srs_cells k18
                go_wp2_with fail
                go_roundw
                case rel => exact ⟨j + 1, by omega, by go_num, hb12⟩
                case measure => simp [intOf]; omega
              · have z1 : ((j : Int) != (q : Int)) = true := by simp; omega
                have z2 : ((j : Int) == (q : Int)) = false := by simp; omega
                have hLM : lookR m (nmS j) = lookR ls (nmS j) := by rw [look_get _ _ HRm.out, look_get _ _ hR.out, Hgm.out, if_neg (fun h => hjq (nmS_inj hj4 hq4 h))]
                obtain ⟨⟨a, bx⟩, hA⟩ : ∃ y, lookR ls (nmS j) = y := ⟨_, rfl⟩
                have HA := Lib.hid hA
                have HB : Hid (lookR m (nmS j) = (a, bx)) := hLM.trans hA
                have hne := neq_Srs a a
                rw [decide_eq_true rfl] at hne
                clear hLM hA
                have l0 := kn.cellS hj4
                go_wp2_with fail
                with_reducible refine (srsFind _ ls (nmS j) _ rL9).mono ?_
                rintro e w10 ⟨he, c10⟩
                obtain rfl : e = .returned (.tuple #[.agg #[.string a.name, .int .i64 a.next, .int .i64 a.limit, .bool a.shut], .bool bx]) := by rw [he, HA.out]
                clear he
                have a10 := c10.trans ((below_alloc w10 (.cells #[.string a.name, .int .i64 a.next, .int .i64 a.limit, .bool a.shut] 66)).mono c10.size)
                have k16 : Blk (w10.alloc (.cells #[.string a.name, .int .i64 a.next, .int .i64 a.limit, .bool a.shut] 66)) w10.heap.size #[.string a.name, .int .i64 a.next, .int .i64 a.limit, .bool a.shut] 66 := Blk.new _ _ _
                have rM10 := rM9.ext a10
                have kn10 := kn.ext a10
                have hb10 := hb9.trans (a10.mono hb9.size)
                have l1 := kn10.cellS hj4
                clear c10 a10
                go_wp2_with fail
                generalize hw10 : w10.alloc (.cells #[.string a.name, .int .i64 a.next, .int .i64 a.limit, .bool a.shut] 66) = w11 at *
                clear hw10
                with_reducible refine (srsFind _ m (nmS j) _ rM10).mono ?_
                rintro e w12 ⟨he, c12⟩
                obtain rfl : e = .returned (.tuple #[.agg #[.string a.name, .int .i64 a.next, .int .i64 a.limit, .bool a.shut], .bool bx]) := by rw [he, HB.out]
                clear he
                have a12 := c12.trans ((below_alloc w12 (.cells #[.string a.name, .int .i64 a.next, .int .i64 a.limit, .bool a.shut] 66)).mono c12.size)
                have k18 : Blk (w12.alloc (.cells #[.string a.name, .int .i64 a.next, .int .i64 a.limit, .bool a.shut] 66)) w12.heap.size #[.string a.name, .int .i64 a.next, .int .i64 a.limit, .bool a.shut] 66 := Blk.new _ _ _
                have k16 := k16.ext a12
                have hb12 := hb10.trans (a12.mono hb10.size)
                clear c12 a12 l0 l1
                obtain ⟨⟨x0, x1, x2, x3⟩, _⟩ := srs_cells k16
                obtain ⟨⟨y0, y1, y2, y3⟩, _⟩ := srs_cells k18
                go_wp2_with fail
                go_roundw
                case rel => exact ⟨j + 1, by omega, by go_num, hb12⟩
                case measure => simp [intOf]; omega
            · have hji : ¬ (j : Int) < 4 := by omega
              have hb8 := hbt.trans (hb9.mono hbt.size)
              go_wp2_with fail
              with_reducible refine (seriesRuns_walk _).mono ?_
              rintro e w3 ⟨rfl, b3⟩
              go_wp2_with fail
              go_ret
              exact ⟨rfl, hb8.trans (b3.mono hb8.size)⟩
        · rw [hm] at hT
          obtain rfl := hT
          have hnb : (n != 0) = true := by simpa using hn
          clear hm hn
          go_wp2_with fail
          with_reducible refine (seriesRuns_walk _).mono ?_
          rintro e w3 ⟨rfl, b3⟩
          go_wp2_with fail
          go_ret
          exact ⟨rfl, hbt.trans (b3.mono hbt.size)⟩
end Go.Proofs.Ytmchkhofcjgeaaa
