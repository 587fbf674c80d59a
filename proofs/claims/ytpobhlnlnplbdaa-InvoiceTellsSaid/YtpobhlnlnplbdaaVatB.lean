/- Walks: vat.Find, vat.Put; the document's Find, Put. -/
import Derived.Test.YtpobhlnlnplbdaaVatA
import Derived.Test.YtpobhlnlnplbdaaInsRate
namespace Go.Proofs.Ytpobhlnlnplbdaa
open Go Go.RowKit BigFrame
attribute [local go_sem] After.same

theorem find_none {l : List Rate} {c : ByteArray} {d : Day} (h : rightT l = false ∨ rightD d = false) : findT l c d = (0, false) := by unfold findT; rw [if_pos h]
theorem find_some {l : List Rate} {c : ByteArray} {d : Day} (h : rightT l = true) (h2 : rightD d = true) : findT l c d = lastT c d (0, false) l := by unfold findT; rw [if_neg (by rw [h, h2]; simp)]
theorem lastT_hit {l : List Rate} {c : ByteArray} {d : Day} {s : Int × Bool} {k : Nat} (hk : k < l.length) (h : hitT c d l[k] = true) : lastT c d s (l.drop k) = lastT c d (l[k].bp, true) (l.drop (k + 1)) := by
  rw [List.drop_eq_getElem_cons hk, lastT, if_pos h]
theorem lastT_miss {l : List Rate} {c : ByteArray} {d : Day} {s : Int × Bool} {k : Nat} (hk : k < l.length) (h : hitT c d l[k] = false) : lastT c d s (l.drop k) = lastT c d s (l.drop (k + 1)) := by
  rw [List.drop_eq_getElem_cons hk, lastT, if_neg (by rw [h]; simp)]
theorem lastT_end {l : List Rate} {c : ByteArray} {d : Day} {s : Int × Bool} {k : Nat} (hk : l.length ≤ k) : lastT c d s (l.drop k) = s := by rw [List.drop_of_length_le hk]; rfl
theorem hitT_cat {c : ByteArray} {d : Day} {x : Rate} (h : eqS x.cat c = false) : hitT c d x = false := by unfold hitT; rw [h]; rfl
theorem hitT_is {c : ByteArray} {d : Day} {x : Rate} (h : eqS x.cat c = true) : hitT c d x = !beforeD d x.day := by unfold hitT; rw [h]; rfl
theorem hitT_days {c : ByteArray} {d : Day} {x : Rate} (h : eqS x.cat c = true) (h1 : rightD d = true) (h2 : rightD x.day = true) : hitT c d x = decide (daysD x.day ≤ daysD d) := by
  rw [hitT_is h, beforeD_iff h1 h2, Bool.eq_iff_iff]; simp
theorem put_arg {l : List Rate} {r : Rate} (h : rightT l = false) : putT l r = .error 1 := by unfold putT; rw [if_pos h]
theorem put_row {l : List Rate} {r : Rate} (h : rightT l = true) (h2 : rowT r ≠ 0) : putT l r = .error (rowT r) := by unfold putT; rw [if_neg (by rw [h]; simp), if_pos h2]
theorem put_taken {l : List Rate} {r : Rate} (h : rightT l = true) (h2 : rowT r = 0) (h3 : l.any (sameT r) = true) : putT l r = .error 12 := by unfold putT; rw [if_neg (by rw [h]; simp), if_neg (by simpa using h2), if_pos h3]
theorem put_long {l : List Rate} {r : Rate} (h : rightT l = true) (h2 : rowT r = 0) (h3 : l.any (sameT r) = false) (h4 : 24 ≤ l.length) : putT l r = .error 2 := by unfold putT; rw [if_neg (by rw [h]; simp), if_neg (by simpa using h2), if_neg (by rw [h3]; simp), if_pos h4]
theorem put_yes {l : List Rate} {r : Rate} (h : rightT l = true) (h2 : rowT r = 0) (h3 : l.any (sameT r) = false) (h4 : ¬ 24 ≤ l.length) : putT l r = .ok (l.take (cntT l r) ++ r :: l.drop (cntT l r)) := by unfold putT; rw [if_neg (by rw [h]; simp), if_neg (by simpa using h2), if_neg (by rw [h3]; simp), if_neg h4]
/-- how many of the first k stand ahead of it -/
def nA (l : List Rate) (r : Rate) (k : Nat) : Nat := ((l.take k).filter fun x => aheadT x r).length
theorem nA_zero (l : List Rate) (r : Rate) : nA l r 0 = 0 := rfl
theorem nA_le (l : List Rate) (r : Rate) (k : Nat) : nA l r k ≤ l.length := by
  unfold nA; exact Nat.le_trans (List.length_filter_le _ _) (by simp; omega)
theorem nA_yes {l : List Rate} {r : Rate} {k : Nat} (hk : k < l.length) (h : aheadT l[k] r = true) : nA l r (k + 1) = nA l r k + 1 := by
  unfold nA; rw [List.take_succ_eq_append_getElem hk, List.filter_append]; simp [h]
theorem nA_no {l : List Rate} {r : Rate} {k : Nat} (hk : k < l.length) (h : aheadT l[k] r = false) : nA l r (k + 1) = nA l r k := by
  unfold nA; rw [List.take_succ_eq_append_getElem hk, List.filter_append]; simp [h]
theorem nA_all {l : List Rate} {r : Rate} (hl : l.Pairwise fun a b => aheadT a b = true) : nA l r l.length = cntT l r := by
  unfold nA cntT
  rw [List.take_length]
  induction l with
  | nil => rfl
  | cons x l ih =>
    obtain ⟨h1, h2⟩ := List.pairwise_cons.1 hl
    rw [List.filter_cons, List.takeWhile_cons]
    cases hx : aheadT x r with
    | true => simp only [if_true, List.length_cons]; rw [ih h2]
    | false =>
      simp only [Bool.false_eq_true, if_false]
      rw [List.length_eq_zero_iff.2 (List.filter_eq_nil_iff.2 ?_)]; · rfl
      intro y hy h
      have := aheadT_trans (h1 y hy) h
      rw [hx] at this; cases this
theorem same_step {l : List Rate} {r : Rate} {k : Nat} (hk : k < l.length) (h0 : (l.take k).any (sameT r) = false) (h : sameT r l[k] = false) : (l.take (k + 1)).any (sameT r) = false := by
  rw [List.take_succ_eq_append_getElem hk, List.any_append, h0]; simp [h]
theorem same_hit {l : List Rate} {r : Rate} {k : Nat} (hk : k < l.length) (h : sameT r l[k] = true) : l.any (sameT r) = true := List.any_eq_true.2 ⟨l[k], List.getElem_mem hk, h⟩
theorem same_cat {r x : Rate} (h : eqS x.cat r.cat = false) : sameT r x = false := by
  unfold sameT; rw [decide_eq_false]; rintro ⟨e, _⟩; rw [(eqS_iff _ _).2 e] at h; cases h
theorem same_day {r x : Rate} (h : eqS x.cat r.cat = true) : sameT r x = decide (x.day = r.day) := by
  unfold sameT; rw [Bool.eq_iff_iff]; simp [(eqS_iff _ _).1 h]
/-- where a row would stand: there is one of that category and day just if the one there isn't behind it -/
theorem cntT_is {l : List Rate} {r : Rate} {k : Nat} (hk : k ≤ l.length) (h1 : ∀ i (h : i < l.length), i < k → aheadT l[i] r = true) (h2 : ∀ h : k < l.length, aheadT l[k] r = false) : cntT l r = k := by
  have hle := cntT_le l r
  rcases Nat.lt_trichotomy (cntT l r) k with h | h | h
  · have := h1 _ (by omega) h; rw [cntT_hi (by omega)] at this; cases this
  · exact h
  · have := cntT_lo h (by omega); rw [h2 (by omega)] at this; cases this
theorem any_same_end {l : List Rate} {r : Rate} (h1 : ∀ i (h : i < l.length), i < l.length → aheadT l[i] r = true) : l.any (sameT r) = false := by
  rw [List.any_eq_false]
  intro x hx hs
  obtain ⟨i, hi, rfl⟩ := List.getElem_of_mem hx
  have h := h1 i hi hi
  unfold sameT at hs; simp only [decide_eq_true_eq] at hs
  unfold aheadT beforeD at h
  rw [hs.1, hs.2, ltS_irrefl, decide_eq_false (Int.lt_irrefl _)] at h; simp at h
theorem any_same_at {l : List Rate} {r : Rate} {k : Nat} (hl : RightV l) (hr : rowT r = 0) (hk : k < l.length) (h1 : ∀ i (h : i < l.length), i < k → aheadT l[i] r = true) (h2 : aheadT l[k] r = false) : l.any (sameT r) = !aheadT r l[k] := by
  have hne : ∀ x : Rate, aheadT x r = true ∨ aheadT r x = true → sameT r x = false := by
    intro x h
    unfold sameT; rw [decide_eq_false]
    rintro ⟨e1, e2⟩
    unfold aheadT beforeD at h
    rw [e1, e2, ltS_irrefl, decide_eq_false (Int.lt_irrefl _)] at h; simp at h
  cases h3 : aheadT r l[k] with
  | true =>
    show _ = false
    rw [List.any_eq_false]
    intro x hx hs
    obtain ⟨i, hi, rfl⟩ := List.getElem_of_mem hx
    rcases Nat.lt_trichotomy i k with h | h | h
    · rw [hne _ (.inl (h1 i hi h))] at hs; cases hs
    · subst h; rw [hne _ (.inr h3)] at hs; cases hs
    · rw [hne _ (.inr (aheadT_trans h3 (List.pairwise_iff_getElem.1 hl.up k i hk hi h)))] at hs; cases hs
  | false =>
    obtain ⟨e1, e2⟩ := aheadT_total (hl.good _ (List.getElem_mem hk)) hr h2 h3
    exact same_hit hk (by unfold sameT; rw [decide_eq_true ⟨e1, e2⟩])

set_option maxHeartbeats 4000000 in
set_option maxRecDepth 100000 in
theorem vatFind (v : Value) (l : List Rate) (c : ByteArray) (d : Day) (w : World) (hv : Rd rateE w v l) :
    Calls Try.prog 22 #[v, .string c, .agg #[.int .i64 d.y, .int .i64 d.m, .int .i64 d.d]] w fun e w' => e = .returned (.tuple #[.int .i64 (findT l c d).1, .bool (findT l c d).2]) ∧ Below w.heap.size w w' := by
  obtain ⟨p, cap, rfl, h1, h2, h3, h4⟩ := hv.form
  clear h3 h4
  unfold maxLen at h2
  have hb1 := below_alloc w (.cells #[.int .i64 d.y, .int .i64 d.m, .int .i64 d.d] 23)
  have kd := Blk.new w #[.int .i64 d.y, .int .i64 d.m, .int .i64 d.d] 23
  have hvW := hv.ext hb1
  clear hv
  go_enter Try.func22, Try.ntmps22
  go_wp2_with fail
  generalize hW : w.alloc (.cells #[.int .i64 d.y, .int .i64 d.m, .int .i64 d.d] 23) = W at *
  clear hW
  with_reducible refine (vatRight _ l _ hvW).mono ?_
  rintro e w1 ⟨rfl, b1⟩
  have bx := hb1.trans (b1.mono hb1.size)
  have k1 := kd.ext b1
  have hv1 := hvW.ext b1
  clear hb1 b1 kd hvW
  cases hr : rightT l with
  | false =>
    have Hf := Lib.hid (find_none (c := c) (d := d) (.inl hr))
    clear hr
    go_wp2_with fail
    go_ret2
    exact ⟨by rw [Hf.out]; rfl, bx⟩
  | true =>
    have Hr := Lib.hid hr
    clear hr
    have x0 := k1.cell 0 _ rfl
    have x1 := k1.cell 1 _ rfl
    have x2 := k1.cell 2 _ rfl
    go_wp2_with fail
    with_reducible refine (dateRight d _).mono ?_
    rintro e w2 ⟨rfl, b2⟩
    have bx2 := bx.trans (b2.mono bx.size)
    have k2 := k1.ext b2
    have hv2 := hv1.ext b2
    clear bx b2 k1 hv1 x0 x1 x2
    cases hd : rightD d with
    | false =>
      have Hf := Lib.hid (find_none (l := l) (c := c) (.inr hd))
      clear hd
      go_wp2_with fail
      go_ret2
      exact ⟨by rw [Hf.out]; rfl, bx2⟩
    | true =>
      have Hf := Lib.hid (find_some (c := c) Hr.out hd)
      have Hd := Lib.hid hd
      clear hd
      go_wp2_with fail
      go_loopw [8, 9, 22] (fun bp is i wr => ∃ (k : Nat) (s : Int × Bool), k ≤ l.length ∧ i = .int .i64 k ∧ bp = .int .i64 s.1 ∧ is = .bool s.2 ∧ Hid (findT l c d = lastT c d s (l.drop k)) ∧ Below w2.heap.size w2 wr) (fun _ _ i _ => l.length - (intOf i).toNat)
      case atStart => exact ⟨0, (0, false), by omega, rfl, rfl, rfl, by show _ = _; rw [Hf.out]; rfl, Below.refl _ _⟩
      case round =>
        obtain ⟨k, s, hk, rfl, rfl, rfl, hl, hb⟩ := hrel
        by_cases hlt : k < l.length
        · obtain ⟨b, off, rfl⟩ := Rd.blk hv2 (by omega)
          obtain ⟨c0, c1, c2, c3, c4⟩ := rate5 (hv2.ext hb) hlt
          have hi : (k : Int) < (l.length : Int) := by omega
          have hi0 : (0 : Int) ≤ (k : Int) := by omega
          have hhit := Lib.hid (fun h => hl.out.trans (lastT_hit (s := s) hlt h))
          have hmiss := Lib.hid (fun h => hl.out.trans (lastT_miss (s := s) hlt h))
          have hbz := bx2.trans (hb.mono bx2.size)
          have kr := k2.ext hb
          have hbW := hb
          clear hl
          generalize l[k] = x at *
          have ha := below_alloc wr (.cells #[.string x.cat, .int .i64 x.day.y, .int .i64 x.day.m, .int .i64 x.day.d, .int .i64 x.bp] 25)
          have kx := Blk.new wr #[.string x.cat, .int .i64 x.day.y, .int .i64 x.day.m, .int .i64 x.day.d, .int .i64 x.bp] 25
          have ka := kr.ext ha
          have hbA := hbW.trans (ha.mono hbW.size)
          cases he : eqS x.cat c with
          | false =>
            have he2 : (x.cat.toList == c.toList) = false := he
            have Hq := Lib.hid (hmiss.out (hitT_cat he))
            clear he hhit hmiss kx ka
            go_wp2_with fail
            go_roundw
            case rel => exact ⟨k + 1, s, by omega, by go_num, rfl, rfl, Hq.out, hbA⟩
            case measure => simp [intOf]; omega
          | true =>
            have he2 : (x.cat.toList == c.toList) = true := he
            have Hh := Lib.hid (hitT_is (d := d) he)
            have x0 := ka.cell 0 _ rfl
            have x1 := ka.cell 1 _ rfl
            have x2 := ka.cell 2 _ rfl
            clear he
            go_wp2_with fail
            generalize hW : wr.alloc (.cells #[.string x.cat, .int .i64 x.day.y, .int .i64 x.day.m, .int .i64 x.day.d, .int .i64 x.bp] 25) = W at *
            clear hW
            with_reducible refine (dateBefore d x.day _).mono ?_
            rintro e w3 ⟨rfl, b3⟩
            have x4 := (kx.ext b3).cell 4 _ rfl
            have hb3 := hbA.trans (b3.mono hbA.size)
            clear kx ka ha x0 x1 x2 b3 hbA
            cases hbf : beforeD d x.day with
            | true =>
              have Hq := Lib.hid (hmiss.out (by rw [Hh.out, hbf]; rfl))
              clear hbf hhit hmiss
              go_wp2_with fail
              go_roundw
              case rel => exact ⟨k + 1, s, by omega, by go_num, rfl, rfl, Hq.out, hb3⟩
              case measure => simp [intOf]; omega
            | false =>
              have Hq := Lib.hid (hhit.out (by rw [Hh.out, hbf]; rfl))
              clear hbf hhit hmiss
              go_wp2_with fail
              go_roundw
              case rel => exact ⟨k + 1, (x.bp, true), by omega, by go_num, rfl, rfl, Hq.out, hb3⟩
              case measure => simp [intOf]; omega
        · have hi : ¬ (k : Int) < (l.length : Int) := by omega
          have Hq : Hid (findT l c d = s) := by show _ = _; rw [hl.out, lastT_end (by omega)]
          clear hl
          go_wp2_with fail
          go_ret2
          exact ⟨by rw [Hq.out]; rfl, bx2.trans (hb.mono bx2.size)⟩

set_option maxHeartbeats 4000000 in
set_option maxRecDepth 100000 in
theorem refFind (v : Value) (l : List Rate) (c : ByteArray) (d : Day) (w : World) (hv : Rd rateE w v l) :
    Calls Try.prog 23 #[v, .string c, .agg #[.int .i64 d.y, .int .i64 d.m, .int .i64 d.d]] w fun e w' => e = .returned (.tuple #[.int .i64 (findT l c d).1, .bool (findT l c d).2]) ∧ Below w.heap.size w w' := by
  obtain ⟨p, cap, rfl, h1, h2, h3, h4⟩ := hv.form
  clear h3 h4
  unfold maxLen at h2
  have hb1 := below_alloc w (.cells #[.int .i64 d.y, .int .i64 d.m, .int .i64 d.d] 23)
  have kd := Blk.new w #[.int .i64 d.y, .int .i64 d.m, .int .i64 d.d] 23
  have hvW := hv.ext hb1
  clear hv
  go_enter Try.func23, Try.ntmps23
  go_wp2_with fail
  generalize hW : w.alloc (.cells #[.int .i64 d.y, .int .i64 d.m, .int .i64 d.d] 23) = W at *
  clear hW
  with_reducible refine (refTable _ l _ hvW).mono ?_
  rintro e w1 ⟨rfl, b1⟩
  have bx := hb1.trans (b1.mono hb1.size)
  have k1 := kd.ext b1
  have hv1 := hvW.ext b1
  clear hb1 b1 kd hvW
  cases hr : rightT l with
  | false =>
    have Hf := Lib.hid (find_none (c := c) (d := d) (.inl hr))
    clear hr
    go_wp2_with fail
    go_ret2
    exact ⟨by rw [Hf.out]; rfl, bx⟩
  | true =>
    have Hr := Lib.hid hr
    clear hr
    have x0 := k1.cell 0 _ rfl
    have x1 := k1.cell 1 _ rfl
    have x2 := k1.cell 2 _ rfl
    go_wp2_with fail
    with_reducible refine (refRightD d _).mono ?_
    rintro e w2 ⟨rfl, b2⟩
    have bx2 := bx.trans (b2.mono bx.size)
    have k2 := k1.ext b2
    have hv2 := hv1.ext b2
    clear bx b2 k1 hv1 x0 x1 x2
    cases hd : rightD d with
    | false =>
      have Hf := Lib.hid (find_none (l := l) (c := c) (.inr hd))
      clear hd
      go_wp2_with fail
      go_ret2
      exact ⟨by rw [Hf.out]; rfl, bx2⟩
    | true =>
      have Hf := Lib.hid (find_some (c := c) Hr.out hd)
      have Hd := Lib.hid hd
      have Hg := Lib.hid ((rightV_iff l).1 Hr.out).good
      clear hd
      have hdd := fun w => refDays d w
      generalize hdd0 : daysD d = dd at hdd
      have Hdd := Lib.hid hdd0
      have Hdc := Lib.hid hdd
      clear hdd0 hdd
      go_wp2_with fail
      go_loopw [8, 9, 10] (fun bp is i wr => ∃ (k : Nat) (s : Int × Bool), k ≤ l.length ∧ i = .int .i64 k ∧ bp = .int .i64 s.1 ∧ is = .bool s.2 ∧ Hid (findT l c d = lastT c d s (l.drop k)) ∧ Below w2.heap.size w2 wr) (fun _ _ i _ => l.length - (intOf i).toNat)
      case atStart => exact ⟨0, (0, false), by omega, rfl, rfl, rfl, by show _ = _; rw [Hf.out]; rfl, Below.refl _ _⟩
      case round =>
        obtain ⟨k, s, hk, rfl, rfl, rfl, hl, hb⟩ := hrel
        by_cases hlt : k < l.length
        · obtain ⟨b, off, rfl⟩ := Rd.blk hv2 (by omega)
          have hvr := hv2.ext hb
          obtain ⟨c0, c1, c2, c3, c4⟩ := rate5 hvr hlt
          have hi : (k : Int) < (l.length : Int) := by omega
          have hi0 : (0 : Int) ≤ (k : Int) := by omega
          have hhit := Lib.hid (fun h => hl.out.trans (lastT_hit (s := s) hlt h))
          have hmiss := Lib.hid (fun h => hl.out.trans (lastT_miss (s := s) hlt h))
          have hrx := (rowT_ok (Hg.out l[k] (List.getElem_mem hlt))).2.1
          have kr := k2.ext hb
          have hbl : b < wr.heap.size := World.block_lt_of_cell? wr _ c0
          clear hl hvr
          generalize l[k] = x at *
          have Hrx := Lib.hid hrx
          clear hrx
          have hdx := fun w => refDays x.day w
          generalize hdx0 : daysD x.day = dx at hdx
          have Hdx := Lib.hid hdx0
          clear hdx0
          obtain ⟨W, hW⟩ : ∃ W, W = wr := ⟨_, rfl⟩
          subst hW
          cases he : eqS x.cat c with
          | false =>
            have he2 : (x.cat.toList == c.toList) = false := he
            have Hq := Lib.hid (hmiss.out (hitT_cat he))
            clear he hhit hmiss hdx
            go_wp2_with fail
            have hxkr0 : ∀ z : After W, z.1.cell? ⟨w.heap.size, 0, none⟩ = some (.int .i64 d.y) := fun z => (kr.ext z.2).cell 0 _ rfl
            have hxkr1 : ∀ z : After W, z.1.cell? ⟨w.heap.size, 1, none⟩ = some (.int .i64 d.m) := fun z => (kr.ext z.2).cell 1 _ rfl
            have hxkr2 : ∀ z : After W, z.1.cell? ⟨w.heap.size, 2, none⟩ = some (.int .i64 d.d) := fun z => (kr.ext z.2).cell 2 _ rfl
            have hyc0 : ∀ z : After W, z.1.cell? ⟨b, off + k * 5, none⟩ = some (.string x.cat) := fun z => (z.2.cell (p := ⟨b, off + k * 5, none⟩) hbl).trans c0
            have hyc1 : ∀ z : After W, z.1.cell? ⟨b, off + k * 5 + 1, none⟩ = some (.int .i64 x.day.y) := fun z => (z.2.cell (p := ⟨b, off + k * 5 + 1, none⟩) hbl).trans c1
            have hyc2 : ∀ z : After W, z.1.cell? ⟨b, off + k * 5 + 2, none⟩ = some (.int .i64 x.day.m) := fun z => (z.2.cell (p := ⟨b, off + k * 5 + 2, none⟩) hbl).trans c2
            have hyc3 : ∀ z : After W, z.1.cell? ⟨b, off + k * 5 + 3, none⟩ = some (.int .i64 x.day.d) := fun z => (z.2.cell (p := ⟨b, off + k * 5 + 3, none⟩) hbl).trans c3
            have hyc4 : ∀ z : After W, z.1.cell? ⟨b, off + k * 5 + 4, none⟩ = some (.int .i64 x.bp) := fun z => (z.2.cell (p := ⟨b, off + k * 5 + 4, none⟩) hbl).trans c4
            refine wp_region_after (by kernel_rfl) (by kernel_rfl) ?_
            repeat (go_big_quiet_step (fail))
            refine wpQuiet_nil ?_
            rintro w7 ⟨⟨w7x, c7⟩, hw7⟩
            change w7 = w7x at hw7
            subst hw7
            clear hxkr0 hxkr1 hxkr2 hyc0 hyc1 hyc2 hyc3 hyc4
            have hb7 := hb.trans (c7.mono hb.size)
            go_wp2_with fail
            go_roundw
            case rel => exact ⟨k + 1, s, by omega, by go_num, rfl, rfl, Hq.out, hb7⟩
            case measure => simp [intOf]; omega
          | true =>
            have he2 : (x.cat.toList == c.toList) = true := he
            have Hh := hitT_days he Hd.out Hrx.out
            rw [Hdx.out, Hdd.out] at Hh
            have HH := Lib.hid Hh
            have hdd := Hdc.out
            clear he Hh
            cases hbf : decide (dx ≤ dd) with
            | false =>
              have Hq := Lib.hid (hmiss.out (by rw [HH.out, hbf]))
              clear hhit hmiss
              go_wp2_with fail
              have hxkr0 : ∀ z : After W, z.1.cell? ⟨w.heap.size, 0, none⟩ = some (.int .i64 d.y) := fun z => (kr.ext z.2).cell 0 _ rfl
              have hxkr1 : ∀ z : After W, z.1.cell? ⟨w.heap.size, 1, none⟩ = some (.int .i64 d.m) := fun z => (kr.ext z.2).cell 1 _ rfl
              have hxkr2 : ∀ z : After W, z.1.cell? ⟨w.heap.size, 2, none⟩ = some (.int .i64 d.d) := fun z => (kr.ext z.2).cell 2 _ rfl
              have hyc0 : ∀ z : After W, z.1.cell? ⟨b, off + k * 5, none⟩ = some (.string x.cat) := fun z => (z.2.cell (p := ⟨b, off + k * 5, none⟩) hbl).trans c0
              have hyc1 : ∀ z : After W, z.1.cell? ⟨b, off + k * 5 + 1, none⟩ = some (.int .i64 x.day.y) := fun z => (z.2.cell (p := ⟨b, off + k * 5 + 1, none⟩) hbl).trans c1
              have hyc2 : ∀ z : After W, z.1.cell? ⟨b, off + k * 5 + 2, none⟩ = some (.int .i64 x.day.m) := fun z => (z.2.cell (p := ⟨b, off + k * 5 + 2, none⟩) hbl).trans c2
              have hyc3 : ∀ z : After W, z.1.cell? ⟨b, off + k * 5 + 3, none⟩ = some (.int .i64 x.day.d) := fun z => (z.2.cell (p := ⟨b, off + k * 5 + 3, none⟩) hbl).trans c3
              have hyc4 : ∀ z : After W, z.1.cell? ⟨b, off + k * 5 + 4, none⟩ = some (.int .i64 x.bp) := fun z => (z.2.cell (p := ⟨b, off + k * 5 + 4, none⟩) hbl).trans c4
              have hcl0 : ∀ z : After W, Calls Try.prog 33 #[.agg #[.int .i64 x.day.y, .int .i64 x.day.m, .int .i64 x.day.d]] z.1 fun e w' => e = .returned (.int .i64 dx) ∧ ∃ y : After W, w' = y.1 := fun z => z.call (hdx _)
              have hcl1 : ∀ z : After W, Calls Try.prog 33 #[.agg #[.int .i64 d.y, .int .i64 d.m, .int .i64 d.d]] z.1 fun e w' => e = .returned (.int .i64 dd) ∧ ∃ y : After W, w' = y.1 := fun z => z.call (hdd _)
              refine wp_region_after (by kernel_rfl) (by kernel_rfl) ?_
              repeat (go_big_quiet_step (first | with_reducible exact hcl0 _ | with_reducible exact hcl1 _))
              refine wpQuiet_nil ?_
              rintro w7 ⟨⟨w7x, c7⟩, hw7⟩
              change w7 = w7x at hw7
              subst hw7
              clear hxkr0 hxkr1 hxkr2 hyc0 hyc1 hyc2 hyc3 hyc4 hcl0 hcl1
              have hb7 := hb.trans (c7.mono hb.size)
              have z4 := (c7.cell (p := ⟨b, off + k * 5 + 4, none⟩) hbl).trans c4
              clear hdx hdd c0 c1 c2 c3 c4
              go_wp2_with fail
              go_roundw
              case rel => exact ⟨k + 1, s, by omega, by go_num, rfl, rfl, Hq.out, hb7⟩
              case measure => simp [intOf]; omega
            | true =>
              have Hq := Lib.hid (hhit.out (by rw [HH.out, hbf]))
              clear hhit hmiss
              go_wp2_with fail
              have hxkr0 : ∀ z : After W, z.1.cell? ⟨w.heap.size, 0, none⟩ = some (.int .i64 d.y) := fun z => (kr.ext z.2).cell 0 _ rfl
              have hxkr1 : ∀ z : After W, z.1.cell? ⟨w.heap.size, 1, none⟩ = some (.int .i64 d.m) := fun z => (kr.ext z.2).cell 1 _ rfl
              have hxkr2 : ∀ z : After W, z.1.cell? ⟨w.heap.size, 2, none⟩ = some (.int .i64 d.d) := fun z => (kr.ext z.2).cell 2 _ rfl
              have hyc0 : ∀ z : After W, z.1.cell? ⟨b, off + k * 5, none⟩ = some (.string x.cat) := fun z => (z.2.cell (p := ⟨b, off + k * 5, none⟩) hbl).trans c0
              have hyc1 : ∀ z : After W, z.1.cell? ⟨b, off + k * 5 + 1, none⟩ = some (.int .i64 x.day.y) := fun z => (z.2.cell (p := ⟨b, off + k * 5 + 1, none⟩) hbl).trans c1
              have hyc2 : ∀ z : After W, z.1.cell? ⟨b, off + k * 5 + 2, none⟩ = some (.int .i64 x.day.m) := fun z => (z.2.cell (p := ⟨b, off + k * 5 + 2, none⟩) hbl).trans c2
              have hyc3 : ∀ z : After W, z.1.cell? ⟨b, off + k * 5 + 3, none⟩ = some (.int .i64 x.day.d) := fun z => (z.2.cell (p := ⟨b, off + k * 5 + 3, none⟩) hbl).trans c3
              have hyc4 : ∀ z : After W, z.1.cell? ⟨b, off + k * 5 + 4, none⟩ = some (.int .i64 x.bp) := fun z => (z.2.cell (p := ⟨b, off + k * 5 + 4, none⟩) hbl).trans c4
              have hcl0 : ∀ z : After W, Calls Try.prog 33 #[.agg #[.int .i64 x.day.y, .int .i64 x.day.m, .int .i64 x.day.d]] z.1 fun e w' => e = .returned (.int .i64 dx) ∧ ∃ y : After W, w' = y.1 := fun z => z.call (hdx _)
              have hcl1 : ∀ z : After W, Calls Try.prog 33 #[.agg #[.int .i64 d.y, .int .i64 d.m, .int .i64 d.d]] z.1 fun e w' => e = .returned (.int .i64 dd) ∧ ∃ y : After W, w' = y.1 := fun z => z.call (hdd _)
              refine wp_region_after (by kernel_rfl) (by kernel_rfl) ?_
              repeat (go_big_quiet_step (first | with_reducible exact hcl0 _ | with_reducible exact hcl1 _))
              refine wpQuiet_nil ?_
              rintro w7 ⟨⟨w7x, c7⟩, hw7⟩
              change w7 = w7x at hw7
              subst hw7
              clear hxkr0 hxkr1 hxkr2 hyc0 hyc1 hyc2 hyc3 hyc4 hcl0 hcl1
              have hb7 := hb.trans (c7.mono hb.size)
              have z4 := (c7.cell (p := ⟨b, off + k * 5 + 4, none⟩) hbl).trans c4
              clear hdx hdd c0 c1 c2 c3 c4
              go_wp2_with fail
              go_roundw
              case rel => exact ⟨k + 1, (x.bp, true), by omega, by go_num, rfl, rfl, Hq.out, hb7⟩
              case measure => simp [intOf]; omega
        · have hi : ¬ (k : Int) < (l.length : Int) := by omega
          have Hq : Hid (findT l c d = s) := by show _ = _; rw [hl.out, lastT_end (by omega)]
          clear hl
          go_wp2_with fail
          go_ret2
          exact ⟨by rw [Hq.out]; rfl, bx2.trans (hb.mono bx2.size)⟩
end Go.Proofs.Ytpobhlnlnplbdaa
