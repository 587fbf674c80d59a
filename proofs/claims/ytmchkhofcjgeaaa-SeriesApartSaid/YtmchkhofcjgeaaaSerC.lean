/- Walks: series.open, Shut, Take, Find; the document's Shut, Take. -/
import Derived.Test.YtmchkhofcjgeaaaSerB
import Derived.RegionTactic
namespace Go.Proofs.Ytmchkhofcjgeaaa
open Go Go.RowKit

theorem chainR_all {p : Option ByteArray} {l : List Srs} (h : chainR p l = true) : ∀ s ∈ l, nameB s.name = true ∧ numR s = true := by
  induction l generalizing p with
  | nil => intro s hs; cases hs
  | cons x l ih =>
    rw [chainR, Bool.and_eq_true] at h
    intro s hs
    rcases List.mem_cons.1 hs with rfl | hs
    · have h1 := h.1
      unfold okR at h1
      simp only [Bool.and_eq_true] at h1
      exact ⟨h1.1, h1.2.2⟩
    · exact ih h.2 s hs
theorem rightR_all {l : List Srs} (h : rightR l = true) : ∀ s ∈ l, nameB s.name = true ∧ numR s = true := by
  unfold rightR at h; rw [Bool.and_eq_true] at h; exact chainR_all h.2
theorem numR_parts {s : Srs} (h : numR s = true) : 1 ≤ s.limit ∧ s.limit ≤ 1099511627776 ∧ 1 ≤ s.next ∧ s.next ≤ s.limit + 1 := by
  unfold numR at h; simpa using h

set_option maxHeartbeats 2000000 in
theorem srsAt (v : Value) (l : List Srs) (id : ByteArray) (w : World) (hv : Rd srsE w v l) :
    Calls Try.prog 49 #[v, .string id] w fun e w' => e = .returned (.tuple #[.int .i64 (atR l id).1, .int .i64 (atR l id).2]) ∧ Below w.heap.size w w' := by
  obtain ⟨p, cap, rfl, h1, h2, h3, h4⟩ := hv.form
  clear h3 h4
  unfold maxLen at h2
  cases hr : rightR l with
  | false =>
    have he : Hid (atR l id = (0, 1)) := by show _ = _; unfold atR; rw [if_pos hr]
    have Hr := Lib.hid hr
    clear hr
    go_enter Try.func49, Try.ntmps49
    go_wp2_with fail
    with_reducible refine (srsRight _ l _ hv).mono ?_
    rintro e w1 ⟨rfl, b1⟩
    rw [Hr.out]
    go_wp2_with fail
    go_ret2
    exact ⟨(by rw [he.out]; first | done | rfl), b1⟩
  | true =>
    have Hr := Lib.hid hr
    have hg := Lib.hid (fun h => atR_gone (n := id) hr h)
    have ha := Lib.hid (fun k h h2 => atR_at (n := id) (k := k) hr h h2)
    clear hr
    go_enter Try.func49, Try.ntmps49
    go_wp2_with fail
    with_reducible refine (srsRight _ l _ hv).mono ?_
    rintro e w1 ⟨rfl, b1⟩
    rw [Hr.out]
    have hv1 := hv.ext b1
    go_wp2_with fail
    with_reducible refine (srsPlace _ l id _ hv1).mono ?_
    rintro e w2 ⟨rfl, b2⟩
    have hv2 := hv1.ext b2
    have b12 := b1.trans (b2.mono b1.size)
    clear hv1 b1 b2
    by_cases hp : placeR l id < 0
    · have he : Hid (atR l id = (0, 11)) := hg.out hp
      go_wp2_with fail
      go_ret2
      exact ⟨(by rw [he.out]; first | done | rfl), b12⟩
    · obtain ⟨k, hk, hpk, hnm⟩ := placeR_lt (l := l) (n := id) (by omega)
      have ha2 := Lib.hid (ha.out k hk hpk)
      rw [hpk]
      clear hp hpk ha hg hnm
      have hk0 : ¬ (k : Int) < 0 := by omega
      have hk0' : (0 : Int) ≤ (k : Int) := by omega
      have hki : (k : Int) < (l.length : Int) := by omega
      obtain ⟨b, off, rfl⟩ := Rd.blk hv2 (by omega)
      obtain ⟨c0, c1, c2, c3⟩ := srs4 hv2 hk
      generalize l[k] = s at *
      cases hs : s.shut with
      | true =>
        have he : Hid (atR l id = (0, 13)) := by show _ = _; rw [ha2.out, if_pos hs]
        rw [hs] at c3
        clear hs
        go_wp2_with fail
        go_ret2
        exact ⟨(by rw [he.out]; first | done | rfl), b12⟩
      | false =>
        have he : Hid (atR l id = ((k : Int), 0)) := by show _ = _; rw [ha2.out, if_neg (by rw [hs]; simp)]
        rw [hs] at c3
        clear hs
        go_wp2_with fail
        go_ret2
        exact ⟨(by rw [he.out]; first | done | rfl), b12⟩

set_option maxHeartbeats 2000000 in
set_option maxRecDepth 100000 in
theorem srsShut (v : Value) (l : List Srs) (id : ByteArray) (w : World) (hv : Rd srsE w v l) :
    Calls Try.prog 29 #[v, .string id] w fun e w' => TellsL srsE w' w.heap.size 66 (shutR l id) e ∧ Below w.heap.size w w' := by
  obtain ⟨p, cap, rfl, h1, h2, h3, h4⟩ := hv.form
  clear h3 h4
  unfold maxLen at h2
  have hok := Lib.hid (fun h => atR_ok (l := l) (n := id) h)
  have hno := Lib.hid (fun h => shutR_no (l := l) (n := id) h)
  have hyes := Lib.hid (fun k hk h h1 => shutR_ok (l := l) (n := id) (k := k) hk h h1)
  go_enter Try.func29, Try.ntmps29
  go_wp2_with fail
  with_reducible refine (srsAt _ l id _ hv).mono ?_
  rintro e w1 ⟨rfl, b1⟩
  have hv1 := hv.ext b1
  generalize atR l id = at_ at *
  by_cases hz : at_.2 = 0
  · obtain ⟨k, hk, hak, _, _, hsh, hrt⟩ := hok.out hz
    have hl8 := rightR_len hrt
    have he := Lib.hid (hyes.out k hk hz hak)
    have hzb : (at_.2 != 0) = false := by simpa using hz
    rw [hak]
    clear hok hno hyes hrt hz hak hsh
    have hsz := b1.size
    go_wp2_with fail
    with_reducible refine (srsCopied _ l _ hv1 (by omega)).mono ?_
    rintro e w3 ⟨⟨v3, rfl, own3⟩, b3⟩
    obtain ⟨g, cg, rfl, e1, e2, e3, e4⟩ := own3.head (by omega)
    unfold maxLen at e4
    have s3 := own3.cellAt rfl k hk 3 (by decide)
    have f3 := own3.frozenAt rfl (k * 4 + 3)
    simp only [srsE, List.getElem?_cons_zero, List.getElem?_cons_succ] at s3
    have hki : (k : Int) < (l.length : Int) := by omega
    have hk0 : (0 : Int) ≤ (k : Int) := by omega
    obtain ⟨own5, gr5⟩ := OwnR.stored own3 rfl k hk 3 (by decide) (.bool true) rfl ⟨l[k].name, l[k].next, l[k].limit, true⟩ rfl
    go_wp2_with fail
    go_ret2
    exact ⟨by rw [he.out]; exact ⟨_, rfl, (OwnR.of own5 (by simp) rfl).base hsz⟩, b1.trans ((b3.trans (below_grown gr5 (by omega) (fun b hb => by cases hb; exact e1))).mono hsz)⟩
  · have he := Lib.hid (hno.out hz)
    have hzb : (at_.2 != 0) = true := by simpa using hz
    clear hok hno hyes hz
    go_wp2_with fail
    go_ret2
    exact ⟨by rw [he.out]; rfl, b1⟩

set_option maxHeartbeats 2000000 in
set_option maxRecDepth 100000 in
theorem srsTake (v : Value) (l : List Srs) (id : ByteArray) (w : World) (hv : Rd srsE w v l) :
    Calls Try.prog 28 #[v, .string id] w fun e w' => TellsN srsE w' w.heap.size 66 (takeR l id) e ∧ Below w.heap.size w w' := by
  obtain ⟨p, cap, rfl, h1, h2, h3, h4⟩ := hv.form
  clear h3 h4
  unfold maxLen at h2
  have hok := Lib.hid (fun h => atR_ok (l := l) (n := id) h)
  have hno := Lib.hid (fun h => takeR_no (l := l) (n := id) h)
  have hyes := Lib.hid (fun k hk h h1 => takeR_at (l := l) (n := id) (k := k) hk h h1)
  go_enter Try.func28, Try.ntmps28
  go_wp2_with fail
  with_reducible refine (srsAt _ l id _ hv).mono ?_
  rintro e w1 ⟨rfl, b1⟩
  have hv1 := hv.ext b1
  generalize atR l id = at_ at *
  by_cases hz : at_.2 = 0
  · obtain ⟨k, hk, hak, _, _, hsh, hrt⟩ := hok.out hz
    have hl8 := rightR_len hrt
    obtain ⟨n1, n2, n3, n4⟩ := numR_parts (rightR_all hrt l[k] (List.getElem_mem hk)).2
    have he0 := Lib.hid (hyes.out k hk hz hak)
    have hzb : (at_.2 != 0) = false := by simpa using hz
    rw [hak]
    clear hok hno hyes hrt hz hak hsh
    have hsz := b1.size
    have hki : (k : Int) < (l.length : Int) := by omega
    have hk0 : (0 : Int) ≤ (k : Int) := by omega
    obtain ⟨b, off, rfl⟩ := Rd.blk hv1 (by omega)
    obtain ⟨c0, c1, c2, c3⟩ := srs4 hv1 hk
    by_cases hlt : l[k].limit < l[k].next
    · have he : Hid (takeR l id = .error 14) := by show _ = _; rw [he0.out, if_pos hlt]
      go_wp2_with fail
      go_ret3
      exact ⟨by rw [he.out]; rfl, b1⟩
    · have he : Hid (takeR l id = .ok (l.set k ⟨l[k].name, l[k].next + 1, l[k].limit, l[k].shut⟩, l[k].next)) := by show _ = _; rw [he0.out, if_neg hlt]
      go_wp2_with fail
      with_reducible refine (srsCopied _ l _ hv1 (by omega)).mono ?_
      rintro e w3 ⟨⟨v3, rfl, own3⟩, b3⟩
      obtain ⟨g, cg, rfl, e1, e2, e3, e4⟩ := own3.head (by omega)
      unfold maxLen at e4
      have s1 := own3.cellAt rfl k hk 1 (by decide)
      have f1 := own3.frozenAt rfl (k * 4 + 1)
      simp only [srsE, List.getElem?_cons_zero, List.getElem?_cons_succ] at s1
      obtain ⟨own5, gr5⟩ := OwnR.stored own3 rfl k hk 1 (by decide) (.int .i64 (l[k].next + 1)) rfl ⟨l[k].name, l[k].next + 1, l[k].limit, l[k].shut⟩ rfl
      generalize l[k].next = nx at *
      generalize l[k].limit = lm at *
      go_wp2_with fail
      go_ret3
      exact ⟨by rw [he.out]; exact ⟨_, rfl, (OwnR.of own5 (by simp) rfl).base hsz⟩, b1.trans ((b3.trans (below_grown gr5 (by omega) (fun b hb => by cases hb; exact e1))).mono hsz)⟩
  · have he := Lib.hid (hno.out hz)
    have hzb : (at_.2 != 0) = true := by simpa using hz
    clear hok hno hyes hz
    go_wp2_with fail
    go_ret3
    exact ⟨by rw [he.out]; rfl, b1⟩

theorem srs_set {w : World} {N : Nat} {a b c d : Value} {t : TypeId} (h : Blk w N #[a, b, c, d] t) (x y z u : Value) : Blk ((((w.setCell ⟨N, 0, none⟩ x).setCell ⟨N, 1, none⟩ y).setCell ⟨N, 2, none⟩ z).setCell ⟨N, 3, none⟩ u) N #[x, y, z, u] t := (((h.set 0 x).set 1 y).set 2 z).set 3 u
theorem srs_cells {w : World} {N : Nat} {a b c d : Value} {t : TypeId} (h : Blk w N #[a, b, c, d] t) : (w.cell? ⟨N, 0, none⟩ = some a ∧ w.cell? ⟨N, 1, none⟩ = some b ∧ w.cell? ⟨N, 2, none⟩ = some c ∧ w.cell? ⟨N, 3, none⟩ = some d) ∧ w.frozen? ⟨N, 0, none⟩ = false ∧ w.frozen? ⟨N, 1, none⟩ = false ∧ w.frozen? ⟨N, 2, none⟩ = false ∧ w.frozen? ⟨N, 3, none⟩ = false :=
  ⟨⟨h.cell 0 _ rfl, h.cell 1 _ rfl, h.cell 2 _ rfl, h.cell 3 _ rfl⟩, h.frozen 0, h.frozen 1, h.frozen 2, h.frozen 3⟩

set_option maxHeartbeats 2000000 in
theorem srsFind (v : Value) (l : List Srs) (id : ByteArray) (w : World) (hv : Rd srsE w v l) :
    Calls Try.prog 38 #[v, .string id] w fun e w' => e = .returned (.tuple #[.agg #[.string (lookR l id).1.name, .int .i64 (lookR l id).1.next, .int .i64 (lookR l id).1.limit, .bool (lookR l id).1.shut], .bool (lookR l id).2]) ∧ Below w.heap.size w w' := by
  obtain ⟨p, cap, rfl, h1, h2, h3, h4⟩ := hv.form
  clear h3 h4
  unfold maxLen at h2
  have hb0 := below_alloc w (.cells #[.string ⟨#[]⟩, .int .i64 0, .int .i64 0, .bool false] 66)
  have hk0 := Blk.new w #[.string ⟨#[]⟩, .int .i64 0, .int .i64 0, .bool false] 66
  have hv0 := hv.ext hb0
  have hg := Lib.hid (fun h => lookR_gone (l := l) (n := id) h)
  have ha := Lib.hid (fun k h h2 => lookR_at (l := l) (n := id) (k := k) h h2)
  go_enter Try.func38, Try.ntmps38
  generalize hw0 : w.alloc (.cells #[.string ⟨#[]⟩, .int .i64 0, .int .i64 0, .bool false] 66) = w0 at *
  go_wp2_with fail
  clear hw0
  with_reducible refine (srsPlace _ l id _ hv0).mono ?_
  rintro e w2 ⟨rfl, b2⟩
  have hk2 := hk0.ext b2
  have hv2 := hv0.ext b2
  have hb2 := hb0.trans (b2.mono hb0.size)
  clear hk0 hv0 b2 hb0
  by_cases hp : placeR l id < 0
  · have he : Hid (lookR l id = (srs0, false)) := hg.out hp
    obtain ⟨⟨m0, m1, m2, m3⟩, f0, f1, f2, f3⟩ := srs_cells hk2
    have hF := srs_set hk2 (.string ⟨#[]⟩) (.int .i64 0) (.int .i64 0) (.bool false)
    obtain ⟨⟨y0, y1, y2, y3⟩, _⟩ := srs_cells hF
    go_wp2_with fail
    refine bodyPost_ret (v := .tuple #[.agg #[.string ⟨#[]⟩, .int .i64 0, .int .i64 0, .bool false], .bool false]) (by simp [results, Try.results38, go_sem, y0, y1, y2, y3]) rfl ⟨by rw [he.out]; try rfl, ?_⟩
    exact (((hb2.setCell (p := ⟨w.heap.size, 0, none⟩) (Nat.le_refl _) _).setCell (p := ⟨w.heap.size, 1, none⟩) (Nat.le_refl _) _).setCell (p := ⟨w.heap.size, 2, none⟩) (Nat.le_refl _) _).setCell (p := ⟨w.heap.size, 3, none⟩) (Nat.le_refl _) _
  · obtain ⟨k, hk, hpk, hnm⟩ := placeR_lt (l := l) (n := id) (by omega)
    have he := Lib.hid (ha.out k hk hpk)
    rw [hpk]
    clear hp hpk ha hg hnm
    have hk0 : ¬ (k : Int) < 0 := by omega
    have hk0' : (0 : Int) ≤ (k : Int) := by omega
    have hki : (k : Int) < (l.length : Int) := by omega
    obtain ⟨b, off, rfl⟩ := Rd.blk hv2 (by omega)
    obtain ⟨c0, c1, c2, c3⟩ := srs4 hv2 hk
    generalize l[k] = s at *
    obtain ⟨⟨m0, m1, m2, m3⟩, f0, f1, f2, f3⟩ := srs_cells hk2
    have hF := srs_set hk2 (.string s.name) (.int .i64 s.next) (.int .i64 s.limit) (.bool s.shut)
    obtain ⟨⟨y0, y1, y2, y3⟩, _⟩ := srs_cells hF
    go_wp2_with fail
    refine bodyPost_ret (v := .tuple #[.agg #[.string s.name, .int .i64 s.next, .int .i64 s.limit, .bool s.shut], .bool true]) (by simp [results, Try.results38, go_sem, y0, y1, y2, y3]) rfl ⟨by rw [he.out]; try rfl, ?_⟩
    exact (((hb2.setCell (p := ⟨w.heap.size, 0, none⟩) (Nat.le_refl _) _).setCell (p := ⟨w.heap.size, 1, none⟩) (Nat.le_refl _) _).setCell (p := ⟨w.heap.size, 2, none⟩) (Nat.le_refl _) _).setCell (p := ⟨w.heap.size, 3, none⟩) (Nat.le_refl _) _

set_option maxHeartbeats 4000000 in
set_option maxRecDepth 100000 in
theorem srsRefShut (v : Value) (l : List Srs) (id : ByteArray) (w : World) (hv : Rd srsE w v l) :
    Calls Try.prog 34 #[v, .string id] w fun e w' => TellsL srsE w' w.heap.size 66 (shutR l id) e ∧ Below w.heap.size w w' := by
  obtain ⟨p, cap, rfl, h1, h2, h3, h4⟩ := hv.form
  clear h3 h4
  unfold maxLen at h2
  have hno := Lib.hid (fun h => shutR_no (l := l) (n := id) h)
  cases hr : rightR l with
  | false =>
    have ha : atR l id = (0, 1) := by unfold atR; rw [if_pos hr]
    have he : Hid (shutR l id = .error 1) := by show _ = _; rw [hno.out (by rw [ha]; simp), ha]
    have Hr := Lib.hid hr
    clear hr ha
    go_enter Try.func34, Try.ntmps34
    go_wp2_with fail
    with_reducible refine (srsRefRight _ l _ hv).mono ?_
    rintro e w1 ⟨rfl, b1⟩
    rw [Hr.out]
    go_wp2_with fail
    go_ret2
    exact ⟨by rw [he.out]; rfl, b1⟩
  | true =>
    have hl8 := rightR_len hr
    have Hr := Lib.hid hr
    have hg := Lib.hid (fun h => atR_gone (n := id) hr h)
    have ha := Lib.hid (fun k h h2 => atR_at (n := id) (k := k) hr h h2)
    clear hr
    go_enter Try.func34, Try.ntmps34
    go_wp2_with fail
    with_reducible refine (srsRefRight _ l _ hv).mono ?_
    rintro e w1 ⟨rfl, b1⟩
    rw [Hr.out]
    have hv1 := hv.ext b1
    have hsz := b1.size
    go_wp2_with fail
    with_reducible refine (srsFind0 _ l id _ hv1).mono ?_
    rintro e w' ⟨rfl, rfl⟩
    by_cases hp : placeR l id < 0
    · have he : Hid (shutR l id = .error 11) := by show _ = _; rw [hno.out (by rw [hg.out hp]; simp), hg.out hp]
      go_wp2_with fail
      go_ret2
      exact ⟨by rw [he.out]; rfl, b1⟩
    · obtain ⟨k, hk, hpk, hnm⟩ := placeR_lt (l := l) (n := id) (by omega)
      have ha2 := Lib.hid (ha.out k hk hpk)
      rw [hpk]
      clear hp hpk ha hg hnm
      have hk0 : ¬ (k : Int) < 0 := by omega
      have hk0' : (0 : Int) ≤ (k : Int) := by omega
      have hki : (k : Int) < (l.length : Int) := by omega
      obtain ⟨b, off, rfl⟩ := Rd.blk hv1 (by omega)
      obtain ⟨c0, c1, c2, c3⟩ := srs4 hv1 hk
      cases hs : l[k].shut with
      | true =>
        have he : Hid (shutR l id = .error 13) := by show _ = _; rw [hno.out (by rw [ha2.out, if_pos hs]; simp), ha2.out, if_pos hs]
        rw [hs] at c3
        clear hs
        go_wp2_with fail
        go_ret2
        exact ⟨by rw [he.out]; rfl, b1⟩
      | false =>
        have hat : atR l id = ((k : Int), 0) := by rw [ha2.out, if_neg (by rw [hs]; simp)]
        rw [hs] at c3
        have he := Lib.hid (shutR_ok hk (by rw [hat]) (by rw [hat]))
        clear hs hat
        have hbl := below_alloc w1 (.cells #[] 66)
        have hvl := hv1.ext hbl
        have ownl := OwnR.litAt srsE w1 #[] 66 [] 0 w1.heap.size w1.heap.size rfl rfl rfl (Nat.zero_le _) (Nat.le_refl _)
        have hsl := hbl.size
        go_wp2_with (first
          | (at_builtin; refine wpList_appR (E := srsE) tSrs rfl rfl ownl rfl hvl rfl (by simp; omega) hsl ?_; intro v3 w3 own3 g3 b3; rw [List.nil_append] at own3; clear g3; have b13 := hbl.trans b3; obtain ⟨g, cg, rfl, e1, e2, e3, e4⟩ := own3.head (by omega); unfold maxLen at e4; have s3 := own3.cellAt rfl k hk 3 (by decide); have f3 := own3.frozenAt rfl (k * 4 + 3); simp only [srsE, List.getElem?_cons_zero, List.getElem?_cons_succ] at s3)
          | fail)
        obtain ⟨own5, gr5⟩ := OwnR.stored own3 rfl k hk 3 (by decide) (.bool true) rfl ⟨l[k].name, l[k].next, l[k].limit, true⟩ rfl
        go_ret2
        exact ⟨by rw [he.out]; exact ⟨_, rfl, (OwnR.of own5 (by simp) rfl).base hsz⟩, b1.trans ((b13.trans (below_grown gr5 (by omega) (fun b hb => by cases hb; exact e1))).mono hsz)⟩
end Go.Proofs.Ytmchkhofcjgeaaa
