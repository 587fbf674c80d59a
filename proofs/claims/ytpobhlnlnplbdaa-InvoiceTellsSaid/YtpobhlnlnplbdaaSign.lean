/- Walks: sign.Letter, sign.Name; the document's Letter, Name. -/
import Derived.Test.YtpobhlnlnplbdaaRows
import Derived.Test.YtpobhlnlnplbdaaSignP
namespace Go.Proofs.Ytpobhlnlnplbdaa
open Go Go.RowKit

theorem iter_below (w : World) (s : ByteArray) (pos : Nat) : Below w.heap.size w (w.iter s pos) := below_alloc w _

set_option maxHeartbeats 2000000 in
theorem signLetter (r : Int) (w : World) (h0 : 0 ≤ r) (h1 : r ≤ 2147483647) :
    Calls Try.prog 69 #[.int .i32 r] w fun e w' => e = .returned (.bool (letterB r)) ∧ w = w' := by
  cases d1 : (r == 215) <;> cases d2 : (r == 247)
  all_goals
    go_enter Try.func69, Try.ntmps69
    go_wp2
    all_goals
      go_ret
      refine ⟨ret_bool ?_, rfl⟩
      unfold letterB
      rw [d1, d2]
      simp at d1 d2
      first
      | rfl
      | (simp; done)
      | (simp; omega)
      | (rw [Bool.eq_iff_iff]; simp; omega)

set_option maxHeartbeats 2000000 in
theorem refLetter (r : Int) (w : World) (h0 : 0 ≤ r) (h1 : r ≤ 2147483647) :
    Calls Try.prog 70 #[.int .i32 r] w fun e w' => e = .returned (.bool (letterB r)) ∧ w = w' := by
  cases d1 : (r == 215) <;> cases d2 : (r == 247)
  all_goals
    have d3 : (r != 215) = !(r == 215) := rfl
    have d4 : (r != 247) = !(r == 247) := rfl
    rw [d1] at d3
    rw [d2] at d4
    go_enter Try.func70, Try.ntmps70
    go_wp2
    all_goals
      go_ret
      refine ⟨ret_bool ?_, rfl⟩
      unfold letterB
      rw [d1, d2]
      simp at d1 d2
      first
      | rfl
      | (simp; done)
      | (simp; omega)
      | (rw [Bool.eq_iff_iff]; simp; omega)

theorem nm_no {s : ByteArray} {b pos : Nat} {x y z : Bool} (h1 : nameTo s (b + 1) pos = (x && y)) (h2 : nameTo s (b + 1) pos = z) (h : x = false) : z = false := by rw [← h2, h1, h]; rfl
theorem nm_go {s : ByteArray} {b pos : Nat} {x y z : Bool} (h1 : nameTo s (b + 1) pos = (x && y)) (h2 : nameTo s (b + 1) pos = z) (h : x = true) : y = z := by rw [← h2, h1, h]; rfl

set_option maxHeartbeats 4000000 in
theorem signName (s : ByteArray) (w : World) :
    Calls Try.prog 51 #[.string s] w fun e w' => e = .returned (.bool (nameB s)) ∧ Below w.heap.size w w' := by
  by_cases h1 : s.size < 1
  · have h0 : s.size = 0 := by omega
    have hl0 : s.toList = [] := by rw [ByteArray.toList_eq]; exact List.length_eq_zero_iff.1 (by simpa using h0)
    have hle : s.toList.isEmpty = true := by rw [hl0]; rfl
    have Hn := Lib.hid (nameB_short h1)
    have hs1 : (s.size : Int) < 1 := by omega
    clear h0 h1
    go_enter Try.func51, Try.ntmps51
    go_wp2
    go_ret
    exact ⟨ret_bool Hn.out.symm, Below.refl _ _⟩
  · have hne : ¬ s.toList = [] := by
      intro e; apply h1
      rw [ByteArray.toList_eq] at e
      have h2 : s.data.toList.length = s.size := by simp
      have h3 : s.size = 0 := by rw [← h2, e]; rfl
      omega
    have hle : s.toList.isEmpty = false := by cases h : s.toList.isEmpty with
      | true => exact absurd (List.isEmpty_iff.1 h) hne
      | false => rfl
    have hle2 : (!s.toList.isEmpty) = true := by rw [hle]; rfl
    by_cases h2 : 24 < s.size
    · have Hn := Lib.hid (nameB_long h2)
      have hs1 : ¬ (s.size : Int) < 1 := by omega
      have hs2 : (24 : Int) < (s.size : Int) := by omega
      go_enter Try.func51, Try.ntmps51
      go_wp2
      go_ret
      exact ⟨ret_bool Hn.out.symm, Below.refl _ _⟩
    · have HB := Lib.hid (nameB_mid (s := s) (by omega) (by omega))
      have hs1 : ¬ (s.size : Int) < 1 := by omega
      have hs2 : ¬ (24 : Int) < (s.size : Int) := by omega
      go_enter Try.func51, Try.ntmps51
      go_wp2
      go_loopw [3] (fun _ w' => ∃ (pos b : Nat), w' = w.iter s pos ∧ Hid (nameTo s b pos = nameTo s s.size 0) ∧ s.size ≤ pos + b) (fun _ w' => s.size - w'.iterPos w.heap.size)
      case atStart => exact ⟨0, s.size, rfl, rfl, by omega⟩
      case round =>
        obtain ⟨pos, b, rfl, hc, hb⟩ := hrel
        by_cases hp : pos < s.size
        · have hle3 := decode_le s pos
          have hwd := decode_wide s pos hp
          obtain ⟨b', rfl⟩ : ∃ b', b = b' + 1 := ⟨b - 1, by omega⟩
          have hst := nameTo_step s b' pos hp
          have hnx : ∀ ty, (Instr.next (.pointer (some ⟨w.heap.size, 0, none⟩)) true ty).run Try.prog (w.iter s pos) = .ok (.tuple #[.bool true, .int .i64 pos, .int .i32 (Utf8.decode s pos).1]) (w.iter s (pos + (Utf8.decode s pos).2)) := fun ty => run_next_any w s pos ty hp
          generalize Utf8.decode s pos = d at *
          have hr0 : (0 : Int) ≤ (d.1 : Int) := by omega
          have hr1 : (d.1 : Int) ≤ 2147483647 := by omega
          have Hst := Lib.hid hst
          clear hst
          go_wp2_with fail
          with_reducible refine (signLetter _ _ hr0 hr1).mono ?_
          rintro e w' ⟨rfl, rfl⟩
          cases hL : letterB (d.1 : Int) with
          | true =>
            have Hgo := Lib.hid (nm_go Hst.out hc.out (by rw [hL]; rfl))
            clear hL
            go_wp2_with fail
            go_roundw
            case rel => exact ⟨pos + d.2, b', rfl, Hgo.out, by omega⟩
            case measure => simp; omega
          | false =>
            by_cases hp0 : pos = 0
            · have Hno := Lib.hid (nm_no Hst.out hc.out (by rw [hL, hp0]; rfl))
              have hpb : ((pos : Int) == 0) = true := by simpa using hp0
              clear hL hp0
              go_wp2_with fail
              go_ret
              exact ⟨ret_bool (by rw [HB.out, Hno.out]), iter_below _ _ _⟩
            · have hpb : ((pos : Int) == 0) = false := by simpa using hp0
              have hpn : (pos == 0) = false := by simpa using hp0
              rcases other_cases (d.1 : Int) with ⟨hq, t1, t2⟩ | ⟨hq, t1⟩ | ⟨hq, t1⟩ | ⟨hq, t1⟩ | ⟨hq, t1, t2, t3, t4⟩ | ⟨hq, t1, t2, t3, t4⟩
              · have Hgo := Lib.hid (nm_go Hst.out hc.out (by rw [hL, hpn, hq]; rfl))
                have g1 : ¬ (d.1 : Int) < 48 := by omega
                have g2 : ¬ (57 : Int) < (d.1 : Int) := by omega
                have e45 : ((d.1 : Int) == 45) = false := by simp; omega
                have n45 : ((d.1 : Int) != 45) = true := by simp; omega
                have e95 : ((d.1 : Int) == 95) = false := by simp; omega
                have n95 : ((d.1 : Int) != 95) = true := by simp; omega
                have e46 : ((d.1 : Int) == 46) = false := by simp; omega
                have n46 : ((d.1 : Int) != 46) = true := by simp; omega
                clear hL hq hp0 hpn
                go_wp2_with fail
                go_roundw
                case rel => exact ⟨pos + d.2, b', rfl, Hgo.out, by omega⟩
                case measure => simp; omega
              · have Hgo := Lib.hid (nm_go Hst.out hc.out (by rw [hL, hpn, hq]; rfl))
                have g1 : (d.1 : Int) < 48 := by omega
                have e45 : ((d.1 : Int) == 45) = true := by simp; omega
                have n45 : ((d.1 : Int) != 45) = false := by simp; omega
                have e95 : ((d.1 : Int) == 95) = false := by simp; omega
                have n95 : ((d.1 : Int) != 95) = true := by simp; omega
                have e46 : ((d.1 : Int) == 46) = false := by simp; omega
                have n46 : ((d.1 : Int) != 46) = true := by simp; omega
                clear t1
                clear hL hq hp0 hpn
                go_wp2_with fail
                go_roundw
                case rel => exact ⟨pos + d.2, b', rfl, Hgo.out, by omega⟩
                case measure => simp; omega
              · have Hgo := Lib.hid (nm_go Hst.out hc.out (by rw [hL, hpn, hq]; rfl))
                have g1 : ¬ (d.1 : Int) < 48 := by omega
                have g2 : (57 : Int) < (d.1 : Int) := by omega
                have e45 : ((d.1 : Int) == 45) = false := by simp; omega
                have n45 : ((d.1 : Int) != 45) = true := by simp; omega
                have e95 : ((d.1 : Int) == 95) = true := by simp; omega
                have n95 : ((d.1 : Int) != 95) = false := by simp; omega
                have e46 : ((d.1 : Int) == 46) = false := by simp; omega
                have n46 : ((d.1 : Int) != 46) = true := by simp; omega
                clear t1
                clear hL hq hp0 hpn
                go_wp2_with fail
                go_roundw
                case rel => exact ⟨pos + d.2, b', rfl, Hgo.out, by omega⟩
                case measure => simp; omega
              · have Hgo := Lib.hid (nm_go Hst.out hc.out (by rw [hL, hpn, hq]; rfl))
                have g1 : (d.1 : Int) < 48 := by omega
                have e45 : ((d.1 : Int) == 45) = false := by simp; omega
                have n45 : ((d.1 : Int) != 45) = true := by simp; omega
                have e95 : ((d.1 : Int) == 95) = false := by simp; omega
                have n95 : ((d.1 : Int) != 95) = true := by simp; omega
                have e46 : ((d.1 : Int) == 46) = true := by simp; omega
                have n46 : ((d.1 : Int) != 46) = false := by simp; omega
                clear t1
                clear hL hq hp0 hpn
                go_wp2_with fail
                go_roundw
                case rel => exact ⟨pos + d.2, b', rfl, Hgo.out, by omega⟩
                case measure => simp; omega
              · have Hno := Lib.hid (nm_no Hst.out hc.out (by rw [hL, hpn, hq]; rfl))
                have e45 : ((d.1 : Int) == 45) = false := by simp; omega
                have n45 : ((d.1 : Int) != 45) = true := by simp; omega
                have e95 : ((d.1 : Int) == 95) = false := by simp; omega
                have n95 : ((d.1 : Int) != 95) = true := by simp; omega
                have e46 : ((d.1 : Int) == 46) = false := by simp; omega
                have n46 : ((d.1 : Int) != 46) = true := by simp; omega
                clear t2 t3 t4
                clear hL hq hp0 hpn
                go_wp2_with fail
                all_goals first
                  | (go_ret; exact ⟨ret_bool (by rw [HB.out, Hno.out]), iter_below _ _ _⟩)
                  | (exfalso; rename_i hx; simp at hx; omega)
              · have Hno := Lib.hid (nm_no Hst.out hc.out (by rw [hL, hpn, hq]; rfl))
                have g1 : ¬ (d.1 : Int) < 48 := by omega
                have e45 : ((d.1 : Int) == 45) = false := by simp; omega
                have n45 : ((d.1 : Int) != 45) = true := by simp; omega
                have e95 : ((d.1 : Int) == 95) = false := by simp; omega
                have n95 : ((d.1 : Int) != 95) = true := by simp; omega
                have e46 : ((d.1 : Int) == 46) = false := by simp; omega
                have n46 : ((d.1 : Int) != 46) = true := by simp; omega
                clear t2 t3 t4
                clear hL hq hp0 hpn
                go_wp2_with fail
                all_goals first
                  | (go_ret; exact ⟨ret_bool (by rw [HB.out, Hno.out]), iter_below _ _ _⟩)
                  | (exfalso; rename_i hx; simp at hx; omega)
        · have hnx : ∀ ty, (Instr.next (.pointer (some ⟨w.heap.size, 0, none⟩)) true ty).run Try.prog (w.iter s pos) = .ok (.tuple #[.bool false]) (w.iter s pos) := fun ty => run_next_end w s pos ty hp
          have Hy : Hid (nameTo s s.size 0 = true) := by show _ = _; rw [← hc.out]; exact nameTo_end s b pos hp
          go_wp2_with fail
          go_ret
          exact ⟨ret_bool (by rw [HB.out, Hy.out]), iter_below _ _ _⟩

set_option maxHeartbeats 4000000 in
theorem refName (s : ByteArray) (w : World) :
    Calls Try.prog 52 #[.string s] w fun e w' => e = .returned (.bool (nameB s)) ∧ Below w.heap.size w w' := by
  by_cases h1 : s.size < 1
  · have h0 : s.size = 0 := by omega
    have hl0 : s.toList = [] := by rw [ByteArray.toList_eq]; exact List.length_eq_zero_iff.1 (by simpa using h0)
    have hle : s.toList.isEmpty = true := by rw [hl0]; rfl
    have Hn := Lib.hid (nameB_short h1)
    have hs1 : (s.size : Int) < 1 := by omega
    clear h0 h1
    go_enter Try.func52, Try.ntmps52
    go_wp2
    go_ret
    exact ⟨ret_bool Hn.out.symm, Below.refl _ _⟩
  · have hne : ¬ s.toList = [] := by
      intro e; apply h1
      rw [ByteArray.toList_eq] at e
      have h2 : s.data.toList.length = s.size := by simp
      have h3 : s.size = 0 := by rw [← h2, e]; rfl
      omega
    have hle : s.toList.isEmpty = false := by cases h : s.toList.isEmpty with
      | true => exact absurd (List.isEmpty_iff.1 h) hne
      | false => rfl
    have hle2 : (!s.toList.isEmpty) = true := by rw [hle]; rfl
    by_cases h2 : 24 < s.size
    · have Hn := Lib.hid (nameB_long h2)
      have hs1 : ¬ (s.size : Int) < 1 := by omega
      have hs2 : (24 : Int) < (s.size : Int) := by omega
      go_enter Try.func52, Try.ntmps52
      go_wp2
      go_ret
      exact ⟨ret_bool Hn.out.symm, Below.refl _ _⟩
    · have HB := Lib.hid (nameB_mid (s := s) (by omega) (by omega))
      have hs1 : ¬ (s.size : Int) < 1 := by omega
      have hs2 : ¬ (24 : Int) < (s.size : Int) := by omega
      go_enter Try.func52, Try.ntmps52
      go_wp2
      go_loopw [3] (fun _ w' => ∃ (pos b : Nat), w' = w.iter s pos ∧ Hid (nameTo s b pos = nameTo s s.size 0) ∧ s.size ≤ pos + b) (fun _ w' => s.size - w'.iterPos w.heap.size)
      case atStart => exact ⟨0, s.size, rfl, rfl, by omega⟩
      case round =>
        obtain ⟨pos, b, rfl, hc, hb⟩ := hrel
        by_cases hp : pos < s.size
        · have hle3 := decode_le s pos
          have hwd := decode_wide s pos hp
          obtain ⟨b', rfl⟩ : ∃ b', b = b' + 1 := ⟨b - 1, by omega⟩
          have hst := nameTo_step s b' pos hp
          have hnx : ∀ ty, (Instr.next (.pointer (some ⟨w.heap.size, 0, none⟩)) true ty).run Try.prog (w.iter s pos) = .ok (.tuple #[.bool true, .int .i64 pos, .int .i32 (Utf8.decode s pos).1]) (w.iter s (pos + (Utf8.decode s pos).2)) := fun ty => run_next_any w s pos ty hp
          generalize Utf8.decode s pos = d at *
          have hr0 : (0 : Int) ≤ (d.1 : Int) := by omega
          have hr1 : (d.1 : Int) ≤ 2147483647 := by omega
          have Hst := Lib.hid hst
          clear hst
          go_wp2_with fail
          with_reducible refine (refLetter _ _ hr0 hr1).mono ?_
          rintro e w' ⟨rfl, rfl⟩
          cases hL : letterB (d.1 : Int) with
          | true =>
            have Hgo := Lib.hid (nm_go Hst.out hc.out (by rw [hL]; rfl))
            clear hL
            go_wp2_with fail
            go_roundw
            case rel => exact ⟨pos + d.2, b', rfl, Hgo.out, by omega⟩
            case measure => simp; omega
          | false =>
            by_cases hp0 : pos = 0
            · have Hno := Lib.hid (nm_no Hst.out hc.out (by rw [hL, hp0]; rfl))
              have hpb : ((pos : Int) == 0) = true := by simpa using hp0
              clear hL hp0
              go_wp2_with fail
              go_ret
              exact ⟨ret_bool (by rw [HB.out, Hno.out]), iter_below _ _ _⟩
            · have hpb : ((pos : Int) == 0) = false := by simpa using hp0
              have hpn : (pos == 0) = false := by simpa using hp0
              rcases other_cases (d.1 : Int) with ⟨hq, t1, t2⟩ | ⟨hq, t1⟩ | ⟨hq, t1⟩ | ⟨hq, t1⟩ | ⟨hq, t1, t2, t3, t4⟩ | ⟨hq, t1, t2, t3, t4⟩
              · have Hgo := Lib.hid (nm_go Hst.out hc.out (by rw [hL, hpn, hq]; rfl))
                have g1 : ¬ (d.1 : Int) < 48 := by omega
                have g2 : ¬ (57 : Int) < (d.1 : Int) := by omega
                have e45 : ((d.1 : Int) == 45) = false := by simp; omega
                have n45 : ((d.1 : Int) != 45) = true := by simp; omega
                have e95 : ((d.1 : Int) == 95) = false := by simp; omega
                have n95 : ((d.1 : Int) != 95) = true := by simp; omega
                have e46 : ((d.1 : Int) == 46) = false := by simp; omega
                have n46 : ((d.1 : Int) != 46) = true := by simp; omega
                clear hL hq hp0 hpn
                go_wp2_with fail
                go_roundw
                case rel => exact ⟨pos + d.2, b', rfl, Hgo.out, by omega⟩
                case measure => simp; omega
              · have Hgo := Lib.hid (nm_go Hst.out hc.out (by rw [hL, hpn, hq]; rfl))
                have g1 : (d.1 : Int) < 48 := by omega
                have e45 : ((d.1 : Int) == 45) = true := by simp; omega
                have n45 : ((d.1 : Int) != 45) = false := by simp; omega
                have e95 : ((d.1 : Int) == 95) = false := by simp; omega
                have n95 : ((d.1 : Int) != 95) = true := by simp; omega
                have e46 : ((d.1 : Int) == 46) = false := by simp; omega
                have n46 : ((d.1 : Int) != 46) = true := by simp; omega
                clear t1
                clear hL hq hp0 hpn
                go_wp2_with fail
                go_roundw
                case rel => exact ⟨pos + d.2, b', rfl, Hgo.out, by omega⟩
                case measure => simp; omega
              · have Hgo := Lib.hid (nm_go Hst.out hc.out (by rw [hL, hpn, hq]; rfl))
                have g1 : ¬ (d.1 : Int) < 48 := by omega
                have g2 : (57 : Int) < (d.1 : Int) := by omega
                have e45 : ((d.1 : Int) == 45) = false := by simp; omega
                have n45 : ((d.1 : Int) != 45) = true := by simp; omega
                have e95 : ((d.1 : Int) == 95) = true := by simp; omega
                have n95 : ((d.1 : Int) != 95) = false := by simp; omega
                have e46 : ((d.1 : Int) == 46) = false := by simp; omega
                have n46 : ((d.1 : Int) != 46) = true := by simp; omega
                clear t1
                clear hL hq hp0 hpn
                go_wp2_with fail
                go_roundw
                case rel => exact ⟨pos + d.2, b', rfl, Hgo.out, by omega⟩
                case measure => simp; omega
              · have Hgo := Lib.hid (nm_go Hst.out hc.out (by rw [hL, hpn, hq]; rfl))
                have g1 : (d.1 : Int) < 48 := by omega
                have e45 : ((d.1 : Int) == 45) = false := by simp; omega
                have n45 : ((d.1 : Int) != 45) = true := by simp; omega
                have e95 : ((d.1 : Int) == 95) = false := by simp; omega
                have n95 : ((d.1 : Int) != 95) = true := by simp; omega
                have e46 : ((d.1 : Int) == 46) = true := by simp; omega
                have n46 : ((d.1 : Int) != 46) = false := by simp; omega
                clear t1
                clear hL hq hp0 hpn
                go_wp2_with fail
                go_roundw
                case rel => exact ⟨pos + d.2, b', rfl, Hgo.out, by omega⟩
                case measure => simp; omega
              · have Hno := Lib.hid (nm_no Hst.out hc.out (by rw [hL, hpn, hq]; rfl))
                have e45 : ((d.1 : Int) == 45) = false := by simp; omega
                have n45 : ((d.1 : Int) != 45) = true := by simp; omega
                have e95 : ((d.1 : Int) == 95) = false := by simp; omega
                have n95 : ((d.1 : Int) != 95) = true := by simp; omega
                have e46 : ((d.1 : Int) == 46) = false := by simp; omega
                have n46 : ((d.1 : Int) != 46) = true := by simp; omega
                clear t2 t3 t4
                clear hL hq hp0 hpn
                go_wp2_with fail
                all_goals first
                  | (go_ret; exact ⟨ret_bool (by rw [HB.out, Hno.out]), iter_below _ _ _⟩)
                  | (exfalso; rename_i hx; simp at hx; omega)
              · have Hno := Lib.hid (nm_no Hst.out hc.out (by rw [hL, hpn, hq]; rfl))
                have g1 : ¬ (d.1 : Int) < 48 := by omega
                have e45 : ((d.1 : Int) == 45) = false := by simp; omega
                have n45 : ((d.1 : Int) != 45) = true := by simp; omega
                have e95 : ((d.1 : Int) == 95) = false := by simp; omega
                have n95 : ((d.1 : Int) != 95) = true := by simp; omega
                have e46 : ((d.1 : Int) == 46) = false := by simp; omega
                have n46 : ((d.1 : Int) != 46) = true := by simp; omega
                clear t2 t3 t4
                clear hL hq hp0 hpn
                go_wp2_with fail
                all_goals first
                  | (go_ret; exact ⟨ret_bool (by rw [HB.out, Hno.out]), iter_below _ _ _⟩)
                  | (exfalso; rename_i hx; simp at hx; omega)
        · have hnx : ∀ ty, (Instr.next (.pointer (some ⟨w.heap.size, 0, none⟩)) true ty).run Try.prog (w.iter s pos) = .ok (.tuple #[.bool false]) (w.iter s pos) := fun ty => run_next_end w s pos ty hp
          have Hy : Hid (nameTo s s.size 0 = true) := by show _ = _; rw [← hc.out]; exact nameTo_end s b pos hp
          go_wp2_with fail
          go_ret
          exact ⟨ret_bool (by rw [HB.out, Hy.out]), iter_below _ _ _⟩
end Go.Proofs.Ytpobhlnlnplbdaa
