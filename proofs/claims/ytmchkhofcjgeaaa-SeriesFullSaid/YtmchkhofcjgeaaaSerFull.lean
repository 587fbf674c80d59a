/- The walk of SeriesFull. -/
import Derived.Test.YtmchkhofcjgeaaaSerLaw
import Derived.Test.YtmchkhofcjgeaaaSerRuns
import Derived.Test.YtmchkhofcjgeaaaSesFull
import Derived.Laws.IdiomStrings
namespace Go.Proofs.Ytmchkhofcjgeaaa
open Go Go.RowKit

def nmB (i : Nat) : ByteArray := { data := #[UInt8.ofNat (97 + i)] }
theorem nmB_all : ∀ i ∈ List.range 20, nameB (nmB i) = true := by decide +kernel
theorem nmB_name {i : Nat} (h : i < 20) : nameB (nmB i) = true := nmB_all i (List.mem_range.2 h)
theorem conv_name (g cap k : Nat) (hk : k < 20) (W : World) (h0 : W.cell? ⟨g, 0, none⟩ = some (.int .u8 (97 + (k : Int)))) :
    (convert 79 9 (.slice (some ⟨g, 0, none⟩) 1 cap)).run Try.prog W = .ok (.string (nmB k)) W := by
  have e : nmB k = ⟨[UInt8.ofNat (97 + k)].toArray⟩ := rfl
  rw [e]
  apply run_convert_bytes_back (P := Try.prog) W 79 9 5 ⟨g, 0, none⟩ cap [UInt8.ofNat (97 + k)] Try.underlying79 Try.underlying5 Try.underlying9
  intro j hj
  match j, hj with
  | 0, _ => rw [addr_add _ rfl, Nat.zero_add, h0]; simp; omega
theorem below_two {w a b : World} {o : Obj} (h1 : Below w.heap.size w a) (h2 : Below a.heap.size a b) : Below w.heap.size w (b.alloc o) := (h1.trans (h2.mono h1.size)).trans ((below_alloc b o).mono (h1.trans (h2.mono h1.size)).size)

set_option maxHeartbeats 8000000 in
set_option maxRecDepth 100000 in
theorem seriesFull_walk (v : Value) (ids : List Int) (w : World) (hv : Rd intsE w v ids) :
    Calls Try.prog 11 #[v] w fun e w' => e = .returned (.bool true) ∧ Below w.heap.size w w' := by
  obtain ⟨p, cap, rfl, h1, h2, h3, h4⟩ := hv.form
  clear h3 h4
  unfold maxLen at h2
  go_enter Try.func11, Try.ntmps11
  go_wp2_with fail
  go_loopw [3, 4, 5] (fun lv nv i wr => ∃ (k : Nat) (ls : List Srs), k ≤ ids.length ∧ i = .int .i64 k ∧ nv = .int .i64 ls.length ∧ Rd srsE wr lv ls ∧ Hid (RightQ ls) ∧ Below w.heap.size w wr) (fun _ _ i _ => ids.length - (intOf i).toNat)
  case atStart => exact ⟨0, [], by omega, rfl, rfl, Rd.nil _, RightQ.nil, Below.refl _ _⟩
  case round =>
    obtain ⟨k, ls, hk, rfl, rfl, rL, hR, hb⟩ := hrel
    have h8 := hR.out.few
    by_cases hlt : k < ids.length ∧ k < 60
    · obtain ⟨hlt, hlt60⟩ := hlt
      have hki : (k : Int) < (ids.length : Int) := by omega
      have hki60 : (k : Int) < 60 := by omega
      obtain ⟨b, off, rfl⟩ := Rd.blk hv (by omega)
      have c0 := Rd.cells1 (hv.ext hb) hlt
      generalize ids[k] = z at c0
      go_wp2_with fail
      with_reducible refine (withinCalls z 0 19 _ (by omega) (by omega) (by omega)).mono ?_
      rintro e w' ⟨rfl, rfl⟩
      obtain ⟨q1, q2⟩ := within_bounds z 0 19 (by omega)
      generalize within z 0 19 = qi at *
      obtain ⟨q, rfl⟩ : ∃ q : Nat, qi = q := ⟨qi.toNat, by omega⟩
      have hq20 : q < 20 := by omega
      have e1 : IntKind.i64.wrap (97 + (q : Int)) = 97 + (q : Int) := by rw [IntKind.wrap_i64]; omega
      have e2 : IntKind.u8.wrap (97 + (q : Int)) = 97 + (q : Int) := by simp [IntKind.wrap, IntKind.bits, IntKind.signed]; omega
      have hq0 : (0 : Int) ≤ (q : Int) := by omega
      have cv := fun (W : World) (g cap : Nat) h0 => conv_name g cap q hq20 W h0
      obtain ⟨pL, cL, rfl⟩ := rL.shape
      have ba := below_alloc wr (.cells #[.int .u8 (97 + (q : Int))] 5)
      have rL1 := rL.ext ba
      have hb1 := hb.trans (ba.mono hb.size)
      have hnm := Lib.hid (nmB_name hq20)
      clear rL hb ba
      go_wp2_with fail
      generalize nmB q = nm at *
      clear cv e1 e2
      generalize hw1 : World.alloc _ _ = w1 at *
      clear hw1
      with_reducible refine (srsFind _ ls nm _ rL1).mono ?_
      rintro e w2 ⟨he, b2⟩
      rcases hg : getR ls nm with _ | s
      · have hlk := look_hasnt hR.out hg
        obtain rfl : e = .returned (.tuple #[.agg #[.string ⟨#[]⟩, .int .i64 0, .int .i64 0, .bool false], .bool false]) := by rw [he, hlk]; rfl
        have ba := below_two hb1 (b2) (o := .cells #[.string ⟨#[]⟩, .int .i64 0, .int .i64 0, .bool false] 66)
        have rL2 := (rL1.ext b2).ext (below_alloc w2 (.cells #[.string ⟨#[]⟩, .int .i64 0, .int .i64 0, .bool false] 66))
        clear he hlk b2 rL1 hb1
        by_cases hl8 : ls.length < 8
        · obtain ⟨m, hm, hRm, hml, _⟩ := open_ok (lim := 5) hR.out hnm.out (by omega) (by omega) hg hl8
          have HRm := Lib.hid hRm
          have Hml := Lib.hid hml
          have hl8i : (ls.length : Int) < 8 := by omega
          have hl8e : ((ls.length : Int) == 8) = false := by simp; omega
          clear hRm hml hg
          go_wp2_with fail
          with_reducible refine (srsOpen _ ls nm 5 _ rL2).mono ?_
          rintro e w3 ⟨hT, b3⟩
          rw [hm] at hT
          obtain ⟨vm, rfl, ownM⟩ := hT
          have rM := ownM.rd
          have hb3 := ba.trans (b3.mono ba.size)
          clear ownM hm b3
          go_wp2_with fail
          go_roundw
          case rel => exact ⟨k + 1, m, by omega, by go_num, by rw [Hml.out]; go_num, rM, HRm, hb3⟩
          case measure => simp [intOf]; omega
        · have hj := open_full (lim := 5) hR.out hnm.out (by omega) (by omega) hg hl8
          have hl8i : ¬ (ls.length : Int) < 8 := by omega
          have hl8e : ((ls.length : Int) == 8) = true := by simp; omega
          clear hg
          go_wp2_with fail
          with_reducible refine (srsOpen _ ls nm 5 _ rL2).mono ?_
          rintro e w3 ⟨hT, b3⟩
          rw [hj] at hT
          obtain rfl := hT
          have rM := rL2.ext b3
          have hb3 := ba.trans (b3.mono ba.size)
          clear hj b3 rL2
          go_wp2_with fail
          go_roundw
          case rel => exact ⟨k + 1, ls, by omega, by go_num, rfl, rM, hR, hb3⟩
          case measure => simp [intOf]; omega
      · have hlk := look_has hR.out hg
        obtain rfl : e = .returned (.tuple #[.agg #[.string s.name, .int .i64 s.next, .int .i64 s.limit, .bool s.shut], .bool true]) := by rw [he, hlk]
        have ba := below_two hb1 (b2) (o := .cells #[.string s.name, .int .i64 s.next, .int .i64 s.limit, .bool s.shut] 66)
        have rL2 := (rL1.ext b2).ext (below_alloc w2 (.cells #[.string s.name, .int .i64 s.next, .int .i64 s.limit, .bool s.shut] 66))
        have hj := open_taken (lim := 5) hR.out hnm.out (by omega) (by omega) (by rw [hg]; simp)
        clear he hlk b2 rL1 hb1 hg
        go_wp2_with fail
        with_reducible refine (srsOpen _ ls nm 5 _ rL2).mono ?_
        rintro e w3 ⟨hT, b3⟩
        rw [hj] at hT
        obtain rfl := hT
        have rM := rL2.ext b3
        have hb3 := ba.trans (b3.mono ba.size)
        clear hj b3 rL2
        go_wp2_with fail
        go_roundw
        case rel => exact ⟨k + 1, ls, by omega, by go_num, rfl, rM, hR, hb3⟩
        case measure => simp [intOf]; omega
    · have hcase : (¬ (k : Int) < (ids.length : Int)) ∨ ((k : Int) < (ids.length : Int) ∧ ¬ (k : Int) < 60) := by omega
      clear hlt
      obtain ⟨pL, cL, rfl⟩ := rL.shape
      have HL := Lib.hid rL
      clear rL
      rcases hcase with hki | ⟨hki, hki60⟩
      all_goals
        go_wp2_with fail
        go_loopw [12] (fun i w9 => ∃ j : Nat, 1 ≤ j ∧ (j ≤ ls.length ∨ j = 1) ∧ i = .int .i64 j ∧ Below wr.heap.size wr w9) (fun i _ => ls.length + 1 - (intOf i).toNat)
        case atStart => exact ⟨1, by omega, .inr rfl, rfl, Below.refl _ _⟩
        case round =>
          obtain ⟨j, hj1, hj2, rfl, hb9⟩ := hrel
          by_cases hj : j < ls.length
          · obtain ⟨i, rfl⟩ : ∃ i, j = i + 1 := ⟨j - 1, by omega⟩
            have hrl := HL.out.ext hb9
            obtain ⟨b, off, rfl⟩ := Rd.blk hrl (by omega)
            have d0 := (srs4 hrl (k := i) (by omega)).1
            have d1 := (srs4 hrl hj).1
            have hup := List.pairwise_iff_getElem.1 hR.out.up i (i + 1) (by omega) hj (by omega)
            unfold ltS at hup
            have hi0 : (0 : Int) ≤ (i : Int) := by omega
            have hil : (i : Int) < (ls.length : Int) := by omega
            have hjl : (i : Int) + 1 < (ls.length : Int) := by omega
            have hjl' : ((i + 1 : Nat) : Int) < (ls.length : Int) := by omega
            have hw1 : IntKind.i64.wrap ((i : Int) + 1 - 1) = (i : Int) := by rw [IntKind.wrap_i64]; omega
            generalize ls[i].name = n0 at *
            generalize ls[i + 1].name = n1 at *
            clear hrl
            go_wp2_with fail
            go_quiet (fail)
            go_wp2_with fail
            go_roundw
            case rel => exact ⟨i + 1 + 1, by omega, by omega, by go_num, hb9.trans (below_drawn _ _ _)⟩
            case measure => simp [intOf]; omega
          · have hjl : ¬ (j : Int) < (ls.length : Int) := by omega
            have hb8 := hb.trans (hb9.mono hb.size)
            go_wp2_with fail
            with_reducible refine (seriesRuns_walk _).mono ?_
            rintro e w3 ⟨rfl, b3⟩
            go_wp2_with fail
            go_ret
            exact ⟨rfl, hb8.trans (b3.mono hb8.size)⟩
end Go.Proofs.Ytmchkhofcjgeaaa
