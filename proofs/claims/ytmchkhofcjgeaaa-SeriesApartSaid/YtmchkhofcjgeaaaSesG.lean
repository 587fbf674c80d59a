/- Walks: the document's Fresh; the law's look. -/
import Derived.Test.YtmchkhofcjgeaaaSesF
namespace Go.Proofs.Ytmchkhofcjgeaaa
open Go Go.RowKit

def freshS (l : List Ses) (id seq : Int) : Int × Rep × Int :=
  match l[(placeS l id).toNat]? with
  | none => (0, rep0, 15)
  | some s =>
    if placeS l id < 0 then (0, rep0, 15)
    else if seq < 1 ∨ 1099511627776 < seq then (0, rep0, 1)
    else if seq = s.last then (1, s.rep, 0)
    else if seq < s.last then (0, rep0, 16)
    else (0, rep0, 0)
theorem fresh_look {l : List Ses} {id seq : Int} (hr : rightS l = true) : lookS l id seq = ((freshS l id seq).2.1, (freshS l id seq).1 == 1, (freshS l id seq).2.2) := by
  unfold lookS freshS
  rw [if_neg (by rw [hr]; simp)]
  cases l[(placeS l id).toNat]? with
  | none => rfl
  | some s =>
    simp only
    by_cases h1 : placeS l id < 0
    · simp [h1]
    · by_cases h2 : seq < 1 ∨ 1099511627776 < seq
      · simp [h1, h2]
      · by_cases h3 : seq = s.last
        · rw [if_neg h1, if_neg h2, if_pos h3, if_neg h1, if_neg h2, if_pos h3]; rfl
        · by_cases h4 : seq < s.last
          · rw [if_neg h1, if_neg h2, if_neg h3, if_pos h4, if_neg h1, if_neg h2, if_neg h3, if_pos h4]; rfl
          · rw [if_neg h1, if_neg h2, if_neg h3, if_neg h4, if_neg h1, if_neg h2, if_neg h3, if_neg h4]; rfl
theorem freshS_gone {l : List Ses} {id seq : Int} (hp : placeS l id < 0) : freshS l id seq = (0, rep0, 15) := by
  unfold freshS
  split
  · rfl
  · rw [if_pos hp]
theorem freshS_at {l : List Ses} {id seq : Int} {k : Nat} (hk : k < l.length) (hp : placeS l id = (k : Int)) :
    freshS l id seq = if seq < 1 ∨ 1099511627776 < seq then (0, rep0, 1) else if seq = l[k].last then (1, l[k].rep, 0) else if seq < l[k].last then (0, rep0, 16) else (0, rep0, 0) := by
  unfold freshS
  rw [hp, show ((k : Int)).toNat = k from by omega, List.getElem?_eq_getElem hk]
  simp only
  rw [if_neg (by omega)]

set_option maxHeartbeats 2000000 in
theorem sesFresh (v : Value) (l : List Ses) (id seq : Int) (w : World) (hv : Rd sesE w v l) :
    Calls Try.prog 43 #[v, .int .i64 id, .int .i64 seq] w fun e w' => e = .returned (.tuple #[.int .i64 (freshS l id seq).1, .agg #[.int .i64 (freshS l id seq).2.1.why, .int .i64 (freshS l id seq).2.1.num, .int .i64 (freshS l id seq).2.1.gross], .int .i64 (freshS l id seq).2.2]) ∧ Below w.heap.size w w' := by
  obtain ⟨p, cap, rfl, h1, h2, h3, h4⟩ := hv.form
  clear h3 h4
  unfold maxLen at h2
  have hb2 := below_alloc w (.cells #[.int .i64 0, .int .i64 0, .int .i64 0] 24)
  have hk2 := Blk.new w #[.int .i64 0, .int .i64 0, .int .i64 0] 24
  have hv2 := hv.ext hb2
  have hg := Lib.hid (fun h => freshS_gone (l := l) (id := id) (seq := seq) h)
  have ha := Lib.hid (fun k h h2 => freshS_at (l := l) (id := id) (k := k) (seq := seq) h h2)
  have hwl := hk2.lt
  go_enter Try.func43, Try.ntmps43
  generalize hw0 : w.alloc (.cells #[.int .i64 0, .int .i64 0, .int .i64 0] 24) = w0 at *
  go_wp2_with fail
  clear hw0
  with_reducible refine (sesSeat _ l id _ hv2).mono ?_
  rintro e w' ⟨rfl, rfl⟩
  by_cases hp : placeS l id < 0
  · have he : Hid (freshS l id seq = (0, rep0, 15)) := hg.out hp
    obtain ⟨m0, m1, m2, f0, f1, f2⟩ := rep_cells hk2
    have hF := rep_set hk2 (.int .i64 0) (.int .i64 0) (.int .i64 0)
    obtain ⟨y0, y1, y2, _⟩ := rep_cells hF
    go_wp2_with fail
    refine bodyPost_ret (v := .tuple #[.int .i64 0, .agg #[.int .i64 0, .int .i64 0, .int .i64 0], .int .i64 15]) (by simp [results, Try.results43, go_sem, y0, y1, y2]) rfl ⟨by rw [he.out]; try rfl, ?_⟩
    exact ((hb2.setCell (p := ⟨w.heap.size, 0, none⟩) (Nat.le_refl _) _).setCell (p := ⟨w.heap.size, 1, none⟩) (Nat.le_refl _) _).setCell (p := ⟨w.heap.size, 2, none⟩) (Nat.le_refl _) _
  · obtain ⟨k, hk, hpk, _⟩ := placeS_lt (l := l) (id := id) (by omega)
    have ha2 := Lib.hid (ha.out k hk hpk)
    rw [hpk]
    clear hp hpk ha hg
    have hk0 : ¬ (k : Int) < 0 := by omega
    have hk0' : (0 : Int) ≤ (k : Int) := by omega
    have hki : (k : Int) < (l.length : Int) := by omega
    obtain ⟨b, off, rfl⟩ := Rd.blk hv2 (by omega)
    obtain ⟨c0, c1, c2, c3, c4⟩ := ses5 hv2 hk
    have hbb : b < w.heap.size := World.block_lt_of_cell? w _ (ses5 hv hk).1
    generalize l[k] = s at *
    by_cases ho : seq < 1 ∨ 1099511627776 < seq
    · have he : Hid (freshS l id seq = (0, rep0, 1)) := by show _ = _; rw [ha2.out, if_pos ho]
      rcases ho with ho | ho
      · obtain ⟨m0, m1, m2, f0, f1, f2⟩ := rep_cells hk2
        have hF := rep_set hk2 (.int .i64 0) (.int .i64 0) (.int .i64 0)
        obtain ⟨y0, y1, y2, _⟩ := rep_cells hF
        go_wp2_with fail
        refine bodyPost_ret (v := .tuple #[.int .i64 0, .agg #[.int .i64 0, .int .i64 0, .int .i64 0], .int .i64 1]) (by simp [results, Try.results43, go_sem, y0, y1, y2]) rfl ⟨by rw [he.out]; try rfl, ?_⟩
        exact ((hb2.setCell (p := ⟨w.heap.size, 0, none⟩) (Nat.le_refl _) _).setCell (p := ⟨w.heap.size, 1, none⟩) (Nat.le_refl _) _).setCell (p := ⟨w.heap.size, 2, none⟩) (Nat.le_refl _) _
      · have ho1 : ¬ seq < 1 := by omega
        obtain ⟨m0, m1, m2, f0, f1, f2⟩ := rep_cells hk2
        have hF := rep_set hk2 (.int .i64 0) (.int .i64 0) (.int .i64 0)
        obtain ⟨y0, y1, y2, _⟩ := rep_cells hF
        go_wp2_with fail
        refine bodyPost_ret (v := .tuple #[.int .i64 0, .agg #[.int .i64 0, .int .i64 0, .int .i64 0], .int .i64 1]) (by simp [results, Try.results43, go_sem, y0, y1, y2]) rfl ⟨by rw [he.out]; try rfl, ?_⟩
        exact ((hb2.setCell (p := ⟨w.heap.size, 0, none⟩) (Nat.le_refl _) _).setCell (p := ⟨w.heap.size, 1, none⟩) (Nat.le_refl _) _).setCell (p := ⟨w.heap.size, 2, none⟩) (Nat.le_refl _) _
    · have ho1 : ¬ seq < 1 := by omega
      have ho2 : ¬ 1099511627776 < seq := by omega
      by_cases hq : seq = s.last
      · have he : Hid (freshS l id seq = (1, s.rep, 0)) := by show _ = _; rw [ha2.out, if_neg ho, if_pos hq]
        have hqb : (seq == s.last) = true := by simpa using hq
        clear hq
        have hne : ¬ b = w.heap.size := by omega
        obtain ⟨m0, m1, m2, f0, f1, f2⟩ := rep_cells hk2
        have hF := rep_set hk2 (.int .i64 s.rep.why) (.int .i64 s.rep.num) (.int .i64 s.rep.gross)
        obtain ⟨y0, y1, y2, _⟩ := rep_cells hF
        go_wp2_with fail
        go_region
        go_wp2_with fail
        refine bodyPost_ret (v := .tuple #[.int .i64 1, .agg #[.int .i64 s.rep.why, .int .i64 s.rep.num, .int .i64 s.rep.gross], .int .i64 0]) (by simp [results, Try.results43, go_sem, y0, y1, y2]) rfl ⟨by rw [he.out]; try rfl, ?_⟩
        exact (((hb2.setCell (p := ⟨w.heap.size, 0, none⟩) (Nat.le_refl _) _).setCell (p := ⟨w.heap.size, 1, none⟩) (Nat.le_refl _) _).setCell (p := ⟨w.heap.size, 2, none⟩) (Nat.le_refl _) _).trans (below_drew _ _)
      · have hqb : (seq == s.last) = false := by simpa using hq
        by_cases hlt : seq < s.last
        · have he : Hid (freshS l id seq = (0, rep0, 16)) := by show _ = _; rw [ha2.out, if_neg ho, if_neg hq, if_pos hlt]
          clear hq
          obtain ⟨m0, m1, m2, f0, f1, f2⟩ := rep_cells hk2
          have hF := rep_set hk2 (.int .i64 0) (.int .i64 0) (.int .i64 0)
          obtain ⟨y0, y1, y2, _⟩ := rep_cells hF
          go_wp2_with fail
          refine bodyPost_ret (v := .tuple #[.int .i64 0, .agg #[.int .i64 0, .int .i64 0, .int .i64 0], .int .i64 16]) (by simp [results, Try.results43, go_sem, y0, y1, y2]) rfl ⟨by rw [he.out]; try rfl, ?_⟩
          exact ((hb2.setCell (p := ⟨w.heap.size, 0, none⟩) (Nat.le_refl _) _).setCell (p := ⟨w.heap.size, 1, none⟩) (Nat.le_refl _) _).setCell (p := ⟨w.heap.size, 2, none⟩) (Nat.le_refl _) _
        · have he : Hid (freshS l id seq = (0, rep0, 0)) := by show _ = _; rw [ha2.out, if_neg ho, if_neg hq, if_neg hlt]
          clear hq
          obtain ⟨m0, m1, m2, f0, f1, f2⟩ := rep_cells hk2
          have hF := rep_set hk2 (.int .i64 0) (.int .i64 0) (.int .i64 0)
          obtain ⟨y0, y1, y2, _⟩ := rep_cells hF
          go_wp2_with fail
          refine bodyPost_ret (v := .tuple #[.int .i64 0, .agg #[.int .i64 0, .int .i64 0, .int .i64 0], .int .i64 0]) (by simp [results, Try.results43, go_sem, y0, y1, y2]) rfl ⟨by rw [he.out]; try rfl, ?_⟩
          exact ((hb2.setCell (p := ⟨w.heap.size, 0, none⟩) (Nat.le_refl _) _).setCell (p := ⟨w.heap.size, 1, none⟩) (Nat.le_refl _) _).setCell (p := ⟨w.heap.size, 2, none⟩) (Nat.le_refl _) _

set_option maxHeartbeats 2000000 in
theorem sesLookL (v : Value) (l : List Ses) (id seq : Int) (w : World) (hv : Rd sesE w v l) :
    Calls Try.prog 19 #[v, .int .i64 id, .int .i64 seq] w fun e w' => e = .returned (.tuple #[.agg #[.int .i64 (lookS l id seq).1.why, .int .i64 (lookS l id seq).1.num, .int .i64 (lookS l id seq).1.gross], .bool (lookS l id seq).2.1, .int .i64 (lookS l id seq).2.2]) ∧ Below w.heap.size w w' := by
  obtain ⟨p, cap, rfl, h1, h2, h3, h4⟩ := hv.form
  clear h3 h4
  unfold maxLen at h2
  have hb0 := below_alloc w (.cells #[.int .i64 0, .int .i64 0, .int .i64 0] 24)
  have hk0 := Blk.new w #[.int .i64 0, .int .i64 0, .int .i64 0] 24
  have hv0 := hv.ext hb0
  have hwl := hk0.lt
  cases hr : rightS l with
  | false =>
    have he : Hid (lookS l id seq = (rep0, false, 1)) := by show _ = _; unfold lookS; rw [if_pos hr]
    have Hr := Lib.hid hr
    clear hr
    go_enter Try.func19, Try.ntmps19
    generalize hw0 : w.alloc (.cells #[.int .i64 0, .int .i64 0, .int .i64 0] 24) = w0 at *
    go_wp2_with fail
    clear hw0
    with_reducible refine (sesRefRight _ l _ hv0).mono ?_
    rintro e w1 ⟨rfl, n1, hw1⟩
    have b1 : Below w0.heap.size w0 w1 := by rw [hw1]; exact below_drawn _ _ _
    clear hw1
    rw [Hr.out]
    have hk1 := hk0.ext b1
    obtain ⟨m0, m1, m2, f0, f1, f2⟩ := rep_cells hk1
    have hF := rep_set hk1 (.int .i64 0) (.int .i64 0) (.int .i64 0)
    obtain ⟨y0, y1, y2, _⟩ := rep_cells hF
    have hb1 := hb0.trans (b1.mono hb0.size)
    go_wp2_with fail
    refine bodyPost_ret (v := .tuple #[.agg #[.int .i64 0, .int .i64 0, .int .i64 0], .bool false, .int .i64 1]) (by simp [results, Try.results19, go_sem, y0, y1, y2]) rfl ⟨by rw [he.out]; try rfl, ?_⟩
    exact ((hb1.setCell (p := ⟨w.heap.size, 0, none⟩) (Nat.le_refl _) _).setCell (p := ⟨w.heap.size, 1, none⟩) (Nat.le_refl _) _).setCell (p := ⟨w.heap.size, 2, none⟩) (Nat.le_refl _) _
  | true =>
    have he : Hid (lookS l id seq = ((freshS l id seq).2.1, (freshS l id seq).1 == 1, (freshS l id seq).2.2)) := fresh_look hr
    have Hr := Lib.hid hr
    clear hr
    go_enter Try.func19, Try.ntmps19
    generalize hw0 : w.alloc (.cells #[.int .i64 0, .int .i64 0, .int .i64 0] 24) = w0 at *
    go_wp2_with fail
    clear hw0
    with_reducible refine (sesRefRight _ l _ hv0).mono ?_
    rintro e w1 ⟨rfl, n1, hw1⟩
    have b1 : Below w0.heap.size w0 w1 := by rw [hw1]; exact below_drawn _ _ _
    clear hw1
    rw [Hr.out]
    have hk1 := hk0.ext b1
    have hv1 := hv0.ext b1
    have hb1 := hb0.trans (b1.mono hb0.size)
    clear hk0 hv0 b1 hb0
    go_wp2_with fail
    with_reducible refine (sesFresh _ l id seq _ hv1).mono ?_
    rintro e w2 ⟨rfl, b2⟩
    generalize freshS l id seq = f at *
    have hk2 := hk1.ext b2
    have hb2 := hb1.trans (b2.mono hb1.size)
    clear hk1 hv1 hb1 b2
    have hs2 := hk2.lt
    have hk3 := hk2.ext (below_alloc w2 (.cells #[.int .i64 f.2.1.why, .int .i64 f.2.1.num, .int .i64 f.2.1.gross] 24))
    have hb3 := hb2.trans ((below_alloc w2 (.cells #[.int .i64 f.2.1.why, .int .i64 f.2.1.num, .int .i64 f.2.1.gross] 24)).mono hb2.size)
    obtain ⟨m0, m1, m2, f0, f1, f2⟩ := rep_cells hk3
    have hF := rep_set hk3 (.int .i64 f.2.1.why) (.int .i64 f.2.1.num) (.int .i64 f.2.1.gross)
    obtain ⟨y0, y1, y2, _⟩ := rep_cells hF
    generalize hw3 : w2.alloc (.cells #[.int .i64 f.2.1.why, .int .i64 f.2.1.num, .int .i64 f.2.1.gross] 24) = w3 at *
    have hkN : Blk w3 w2.heap.size #[.int .i64 f.2.1.why, .int .i64 f.2.1.num, .int .i64 f.2.1.gross] 24 := by rw [← hw3]; exact Blk.new _ _ _
    obtain ⟨q0, q1, q2, _⟩ := rep_cells hkN
    go_wp2_with fail
    refine bodyPost_ret (v := .tuple #[.agg #[.int .i64 f.2.1.why, .int .i64 f.2.1.num, .int .i64 f.2.1.gross], .bool (f.1 == 1), .int .i64 f.2.2]) (by simp [results, Try.results19, go_sem, y0, y1, y2]) rfl ⟨by rw [he.out], ?_⟩
    exact ((hb3.setCell (p := ⟨w.heap.size, 0, none⟩) (Nat.le_refl _) _).setCell (p := ⟨w.heap.size, 1, none⟩) (Nat.le_refl _) _).setCell (p := ⟨w.heap.size, 2, none⟩) (Nat.le_refl _) _
end Go.Proofs.Ytmchkhofcjgeaaa
