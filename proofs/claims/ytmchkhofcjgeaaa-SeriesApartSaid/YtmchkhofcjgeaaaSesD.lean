/- Walks: session.Look, Keep. -/
import Derived.Test.YtmchkhofcjgeaaaSesC
namespace Go.Proofs.Ytmchkhofcjgeaaa
open Go Go.RowKit

theorem rep_set {w : World} {N : Nat} {a b c : Value} {t : TypeId} (h : Blk w N #[a, b, c] t) (x y z : Value) : Blk (((w.setCell ⟨N, 0, none⟩ x).setCell ⟨N, 1, none⟩ y).setCell ⟨N, 2, none⟩ z) N #[x, y, z] t := ((h.set 0 x).set 1 y).set 2 z
theorem rep_cells {w : World} {N : Nat} {a b c : Value} {t : TypeId} (h : Blk w N #[a, b, c] t) : w.cell? ⟨N, 0, none⟩ = some a ∧ w.cell? ⟨N, 1, none⟩ = some b ∧ w.cell? ⟨N, 2, none⟩ = some c ∧ w.frozen? ⟨N, 0, none⟩ = false ∧ w.frozen? ⟨N, 1, none⟩ = false ∧ w.frozen? ⟨N, 2, none⟩ = false :=
  ⟨h.cell 0 _ rfl, h.cell 1 _ rfl, h.cell 2 _ rfl, h.frozen 0, h.frozen 1, h.frozen 2⟩

theorem lookS_gone {l : List Ses} {id seq : Int} (hr : rightS l = true) (hp : placeS l id < 0) : lookS l id seq = (rep0, false, 15) := by
  unfold lookS
  rw [if_neg (by rw [hr]; simp)]
  split
  · rfl
  · rw [if_pos hp]
theorem lookS_at {l : List Ses} {id seq : Int} {k : Nat} (hr : rightS l = true) (hk : k < l.length) (hp : placeS l id = (k : Int)) :
    lookS l id seq = if seq < 1 ∨ 1099511627776 < seq then (rep0, false, 1) else if seq = l[k].last then (l[k].rep, true, 0) else if seq < l[k].last then (rep0, false, 16) else (rep0, false, 0) := by
  unfold lookS
  rw [if_neg (by rw [hr]; simp), hp, show ((k : Int)).toNat = k from by omega, List.getElem?_eq_getElem hk]
  simp only
  rw [if_neg (by omega)]

set_option maxHeartbeats 2000000 in
theorem sesLook (v : Value) (l : List Ses) (id seq : Int) (w : World) (hv : Rd sesE w v l) :
    Calls Try.prog 14 #[v, .int .i64 id, .int .i64 seq] w fun e w' => e = .returned (.tuple #[.agg #[.int .i64 (lookS l id seq).1.why, .int .i64 (lookS l id seq).1.num, .int .i64 (lookS l id seq).1.gross], .bool (lookS l id seq).2.1, .int .i64 (lookS l id seq).2.2]) ∧ Below w.heap.size w w' := by
  obtain ⟨p, cap, rfl, h1, h2, h3, h4⟩ := hv.form
  clear h3 h4
  unfold maxLen at h2
  have hb0 := below_alloc w (.cells #[.int .i64 0, .int .i64 0, .int .i64 0] 24)
  have hk0 := Blk.new w #[.int .i64 0, .int .i64 0, .int .i64 0] 24
  have hv0 := hv.ext hb0
  cases hr : rightS l with
  | false =>
    have he : Hid (lookS l id seq = (rep0, false, 1)) := by show _ = _; unfold lookS; rw [if_pos hr]
    have Hr := Lib.hid hr
    clear hr
    go_enter Try.func14, Try.ntmps14
    generalize hw0 : w.alloc (.cells #[.int .i64 0, .int .i64 0, .int .i64 0] 24) = w0 at *
    go_wp2_with fail
    with_reducible refine (sesRight _ l _ hv0).mono ?_
    rintro e w1 ⟨rfl, b1⟩
    rw [Hr.out]
    have hk1 := hk0.ext b1
    obtain ⟨m0, m1, m2, f0, f1, f2⟩ := rep_cells hk1
    have hF := rep_set hk1 (.int .i64 0) (.int .i64 0) (.int .i64 0)
    obtain ⟨y0, y1, y2, _⟩ := rep_cells hF
    have hb1 := hb0.trans (b1.mono hb0.size)
    go_wp2_with fail
    refine bodyPost_ret (v := .tuple #[.agg #[.int .i64 0, .int .i64 0, .int .i64 0], .bool false, .int .i64 1]) (by simp [results, Try.results14, go_sem, y0, y1, y2]) rfl ⟨by rw [he.out]; try rfl, ?_⟩
    exact ((hb1.setCell (p := ⟨w.heap.size, 0, none⟩) (Nat.le_refl _) _).setCell (p := ⟨w.heap.size, 1, none⟩) (Nat.le_refl _) _).setCell (p := ⟨w.heap.size, 2, none⟩) (Nat.le_refl _) _
  | true =>
    have Hr := Lib.hid hr
    have hg := Lib.hid (fun h => lookS_gone (id := id) (seq := seq) hr h)
    have ha := Lib.hid (fun k h h2 => lookS_at (id := id) (k := k) (seq := seq) hr h h2)
    clear hr
    go_enter Try.func14, Try.ntmps14
    generalize hw0 : w.alloc (.cells #[.int .i64 0, .int .i64 0, .int .i64 0] 24) = w0 at *
    go_wp2_with fail
    with_reducible refine (sesRight _ l _ hv0).mono ?_
    rintro e w1 ⟨rfl, b1⟩
    rw [Hr.out]
    have hk1 := hk0.ext b1
    have hv1 := hv0.ext b1
    have hb1 := hb0.trans (b1.mono hb0.size)
    clear hk0 hv0 b1 hb0 hw0
    go_wp2_with fail
    with_reducible refine (sesPlace _ l id _ hv1).mono ?_
    rintro e w2 ⟨rfl, b2⟩
    have hk2 := hk1.ext b2
    have hv2 := hv1.ext b2
    have hb2 := hb1.trans (b2.mono hb1.size)
    clear hk1 hv1 b2 hb1
    by_cases hp : placeS l id < 0
    · have he : Hid (lookS l id seq = (rep0, false, 15)) := hg.out hp
      obtain ⟨m0, m1, m2, f0, f1, f2⟩ := rep_cells hk2
      have hF := rep_set hk2 (.int .i64 0) (.int .i64 0) (.int .i64 0)
      obtain ⟨y0, y1, y2, _⟩ := rep_cells hF
      go_wp2_with fail
      refine bodyPost_ret (v := .tuple #[.agg #[.int .i64 0, .int .i64 0, .int .i64 0], .bool false, .int .i64 15]) (by simp [results, Try.results14, go_sem, y0, y1, y2]) rfl ⟨by rw [he.out]; try rfl, ?_⟩
      exact ((hb2.setCell (p := ⟨w.heap.size, 0, none⟩) (Nat.le_refl _) _).setCell (p := ⟨w.heap.size, 1, none⟩) (Nat.le_refl _) _).setCell (p := ⟨w.heap.size, 2, none⟩) (Nat.le_refl _) _
    · obtain ⟨k, hk, hpk, _⟩ := placeS_lt (l := l) (id := id) (by omega)
      have ha2 := Lib.hid (ha.out k hk hpk)
      rw [hpk]
      clear hp hpk ha hg
      have hk0 : ¬ (k : Int) < 0 := by omega
      have hki : (k : Int) < (l.length : Int) := by omega
      obtain ⟨b, off, rfl⟩ := Rd.blk hv2 (by omega)
      obtain ⟨c0, c1, c2, c3, c4⟩ := ses5 hv2 hk
      generalize l[k] = s at *
      by_cases ho : seq < 1 ∨ 1099511627776 < seq
      · have he : Hid (lookS l id seq = (rep0, false, 1)) := by show _ = _; rw [ha2.out, if_pos ho]
        rcases ho with ho | ho
        · obtain ⟨m0, m1, m2, f0, f1, f2⟩ := rep_cells hk2
          have hF := rep_set hk2 (.int .i64 0) (.int .i64 0) (.int .i64 0)
          obtain ⟨y0, y1, y2, _⟩ := rep_cells hF
          go_wp2_with fail
          refine bodyPost_ret (v := .tuple #[.agg #[.int .i64 0, .int .i64 0, .int .i64 0], .bool false, .int .i64 1]) (by simp [results, Try.results14, go_sem, y0, y1, y2]) rfl ⟨by rw [he.out]; try rfl, ?_⟩
          exact ((hb2.setCell (p := ⟨w.heap.size, 0, none⟩) (Nat.le_refl _) _).setCell (p := ⟨w.heap.size, 1, none⟩) (Nat.le_refl _) _).setCell (p := ⟨w.heap.size, 2, none⟩) (Nat.le_refl _) _
        · have ho1 : ¬ seq < 1 := by omega
          obtain ⟨m0, m1, m2, f0, f1, f2⟩ := rep_cells hk2
          have hF := rep_set hk2 (.int .i64 0) (.int .i64 0) (.int .i64 0)
          obtain ⟨y0, y1, y2, _⟩ := rep_cells hF
          go_wp2_with fail
          refine bodyPost_ret (v := .tuple #[.agg #[.int .i64 0, .int .i64 0, .int .i64 0], .bool false, .int .i64 1]) (by simp [results, Try.results14, go_sem, y0, y1, y2]) rfl ⟨by rw [he.out]; try rfl, ?_⟩
          exact ((hb2.setCell (p := ⟨w.heap.size, 0, none⟩) (Nat.le_refl _) _).setCell (p := ⟨w.heap.size, 1, none⟩) (Nat.le_refl _) _).setCell (p := ⟨w.heap.size, 2, none⟩) (Nat.le_refl _) _
      · have ho1 : ¬ seq < 1 := by omega
        have ho2 : ¬ 1099511627776 < seq := by omega
        by_cases hq : seq = s.last
        · have he : Hid (lookS l id seq = (s.rep, true, 0)) := by show _ = _; rw [ha2.out, if_neg ho, if_pos hq]
          have hqb : (seq == s.last) = true := by simpa using hq
          clear hq
          obtain ⟨m0, m1, m2, f0, f1, f2⟩ := rep_cells hk2
          have hF := rep_set hk2 (.int .i64 s.rep.why) (.int .i64 s.rep.num) (.int .i64 s.rep.gross)
          obtain ⟨y0, y1, y2, _⟩ := rep_cells hF
          go_wp2_with fail
          refine bodyPost_ret (v := .tuple #[.agg #[.int .i64 s.rep.why, .int .i64 s.rep.num, .int .i64 s.rep.gross], .bool true, .int .i64 0]) (by simp [results, Try.results14, go_sem, y0, y1, y2]) rfl ⟨by rw [he.out]; try rfl, ?_⟩
          exact ((hb2.setCell (p := ⟨w.heap.size, 0, none⟩) (Nat.le_refl _) _).setCell (p := ⟨w.heap.size, 1, none⟩) (Nat.le_refl _) _).setCell (p := ⟨w.heap.size, 2, none⟩) (Nat.le_refl _) _
        · have hqb : (seq == s.last) = false := by simpa using hq
          by_cases hlt : seq < s.last
          · have he : Hid (lookS l id seq = (rep0, false, 16)) := by show _ = _; rw [ha2.out, if_neg ho, if_neg hq, if_pos hlt]
            clear hq
            obtain ⟨m0, m1, m2, f0, f1, f2⟩ := rep_cells hk2
            have hF := rep_set hk2 (.int .i64 0) (.int .i64 0) (.int .i64 0)
            obtain ⟨y0, y1, y2, _⟩ := rep_cells hF
            go_wp2_with fail
            refine bodyPost_ret (v := .tuple #[.agg #[.int .i64 0, .int .i64 0, .int .i64 0], .bool false, .int .i64 16]) (by simp [results, Try.results14, go_sem, y0, y1, y2]) rfl ⟨by rw [he.out]; try rfl, ?_⟩
            exact ((hb2.setCell (p := ⟨w.heap.size, 0, none⟩) (Nat.le_refl _) _).setCell (p := ⟨w.heap.size, 1, none⟩) (Nat.le_refl _) _).setCell (p := ⟨w.heap.size, 2, none⟩) (Nat.le_refl _) _
          · have he : Hid (lookS l id seq = (rep0, false, 0)) := by show _ = _; rw [ha2.out, if_neg ho, if_neg hq, if_neg hlt]
            clear hq
            obtain ⟨m0, m1, m2, f0, f1, f2⟩ := rep_cells hk2
            have hF := rep_set hk2 (.int .i64 0) (.int .i64 0) (.int .i64 0)
            obtain ⟨y0, y1, y2, _⟩ := rep_cells hF
            go_wp2_with fail
            refine bodyPost_ret (v := .tuple #[.agg #[.int .i64 0, .int .i64 0, .int .i64 0], .bool false, .int .i64 0]) (by simp [results, Try.results14, go_sem, y0, y1, y2]) rfl ⟨by rw [he.out]; try rfl, ?_⟩
            exact ((hb2.setCell (p := ⟨w.heap.size, 0, none⟩) (Nat.le_refl _) _).setCell (p := ⟨w.heap.size, 1, none⟩) (Nat.le_refl _) _).setCell (p := ⟨w.heap.size, 2, none⟩) (Nat.le_refl _) _
end Go.Proofs.Ytmchkhofcjgeaaa
