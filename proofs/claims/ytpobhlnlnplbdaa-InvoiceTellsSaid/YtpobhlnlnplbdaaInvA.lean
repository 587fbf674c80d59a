/- Walks: invoice.line, put. -/
import Derived.Test.YtpobhlnlnplbdaaInvR
import Derived.Test.YtpobhlnlnplbdaaVatC
import Derived.Test.YtpobhlnlnplbdaaInsPart
import Derived.Test.YtpobhlnlnplbdaaMoneyMul2
namespace Go.Proofs.Ytpobhlnlnplbdaa
open Go Go.RowKit BigFrame

def LineR (r : Except Int (Int × Int)) (e : Ending) : Prop :=
  match r with
  | .ok b => e = .returned (.tuple #[.int .i64 b.1, .int .i64 b.2, .int .i64 0])
  | .error n => ∃ a, e = .returned (.tuple #[.int .i64 a, .int .i64 0, .int .i64 n]) ∧ n ≠ 0
theorem line_text {T : List Rate} {d : Day} {x : Ln} (h : 64 < x.text.size) : lineV T d x = .error 2 := by unfold lineV; rw [if_pos h]
theorem line_name {T : List Rate} {d : Day} {x : Ln} (h : ¬ 64 < x.text.size) (h2 : nameB x.cat = false) : lineV T d x = .error 8 := by unfold lineV; rw [if_neg h, if_pos h2]
theorem line_count {T : List Rate} {d : Day} {x : Ln} (h : ¬ 64 < x.text.size) (h2 : nameB x.cat = true) (h3 : x.count < 1 ∨ 1048576 < x.count) : lineV T d x = .error 1 := by unfold lineV; rw [if_neg h, if_neg (by rw [h2]; simp), if_pos h3]
theorem line_rate {T : List Rate} {d : Day} {x : Ln} (h : ¬ 64 < x.text.size) (h2 : nameB x.cat = true) (h3 : ¬ (x.count < 1 ∨ 1048576 < x.count)) (h4 : (findT T x.cat d).2 = false) : lineV T d x = .error 10 := by unfold lineV; rw [if_neg h, if_neg (by rw [h2]; simp), if_neg h3, if_pos h4]
theorem line_yes {T : List Rate} {d : Day} {x : Ln} (h : ¬ 64 < x.text.size) (h2 : nameB x.cat = true) (h3 : ¬ (x.count < 1 ∨ 1048576 < x.count)) (h4 : (findT T x.cat d).2 = true) (h5 : Mon.fits (x.count * x.price)) : lineV T d x = .ok ((findT T x.cat d).1, x.count * x.price) := by unfold lineV; rw [if_neg h, if_neg (by rw [h2]; simp), if_neg h3, if_neg (by rw [h4]; simp), if_pos h5]
theorem line_over {T : List Rate} {d : Day} {x : Ln} (h : ¬ 64 < x.text.size) (h2 : nameB x.cat = true) (h3 : ¬ (x.count < 1 ∨ 1048576 < x.count)) (h4 : (findT T x.cat d).2 = true) (h5 : ¬ Mon.fits (x.count * x.price)) : lineV T d x = .error 7 := by unfold lineV; rw [if_neg h, if_neg (by rw [h2]; simp), if_neg h3, if_neg (by rw [h4]; simp), if_neg h5]

set_option maxHeartbeats 2000000 in
set_option maxRecDepth 100000 in
theorem invLine (vt : Value) (T : List Rate) (d : Day) (x : Ln) (w : World) (ht : Rd rateE w vt T) (hc : Mon.fits x.count) (hp : Mon.fits x.price) :
    Calls Try.prog 55 #[vt, .agg #[.int .i64 d.y, .int .i64 d.m, .int .i64 d.d], .agg #[.string x.text, .string x.cat, .int .i64 x.count, .int .i64 x.price]] w fun e w' => LineR (lineV T d x) e ∧ Below w.heap.size w w' := by
  have hb1 := below_alloc w (.cells #[.int .i64 d.y, .int .i64 d.m, .int .i64 d.d] 23)
  have kd0 := Blk.new w #[.int .i64 d.y, .int .i64 d.m, .int .i64 d.d] 23
  have hb2 := below_alloc (w.alloc (.cells #[.int .i64 d.y, .int .i64 d.m, .int .i64 d.d] 23)) (.cells #[.string x.text, .string x.cat, .int .i64 x.count, .int .i64 x.price] 60)
  have kx := Blk.new (w.alloc (.cells #[.int .i64 d.y, .int .i64 d.m, .int .i64 d.d] 23)) #[.string x.text, .string x.cat, .int .i64 x.count, .int .i64 x.price] 60
  have kd := kd0.ext hb2
  have hbb := hb1.trans (hb2.mono hb1.size)
  have htW := ht.ext hbb
  have hs2 : (w.alloc (.cells #[.int .i64 d.y, .int .i64 d.m, .int .i64 d.d] 23)).heap.size = w.heap.size + 1 := by simp
  rw [hs2] at kx
  have x0 := kx.cell 0 _ rfl
  have x1 := kx.cell 1 _ rfl
  have hmul := fun w => moneyMul x.count x.price w hc hp
  have Hmul := Lib.hid hmul
  clear hb1 hb2 kd0 hs2 ht hmul hc hp
  by_cases h64 : 64 < x.text.size
  · have Hv := Lib.hid (line_text (T := T) (d := d) h64)
    have h64' : (64 : Int) < (x.text.size : Int) := by omega
    go_enter Try.func55, Try.ntmps55
    go_wp2_with fail
    go_ret3
    exact ⟨by rw [Hv.out]; exact ⟨_, rfl, by decide⟩, hbb⟩
  · have h64' : ¬ (64 : Int) < (x.text.size : Int) := by omega
    go_enter Try.func55, Try.ntmps55
    go_wp2_with fail
    generalize hW : (w.alloc (.cells #[.int .i64 d.y, .int .i64 d.m, .int .i64 d.d] 23)).alloc (.cells #[.string x.text, .string x.cat, .int .i64 x.count, .int .i64 x.price] 60) = W at *
    clear hW
    with_reducible refine (signName x.cat _).mono ?_
    rintro e w1 ⟨rfl, b1⟩
    have bx := hbb.trans (b1.mono hbb.size)
    have k1 := kx.ext b1
    have kd1 := kd.ext b1
    have ht1 := htW.ext b1
    clear kx kd htW b1 hbb x0 x1
    cases hn : nameB x.cat with
    | false =>
      have Hv := Lib.hid (line_name (T := T) (d := d) h64 hn)
      clear hn
      go_wp2_with fail
      go_ret3
      exact ⟨by rw [Hv.out]; exact ⟨_, rfl, by decide⟩, bx⟩
    | true =>
      have x2 := k1.cell 2 _ rfl
      by_cases hcnt : x.count < 1 ∨ 1048576 < x.count
      · have Hv := Lib.hid (line_count (T := T) (d := d) h64 hn hcnt)
        clear hn
        rcases hcnt with hq | hq
        · go_wp2_with fail
          go_ret3
          exact ⟨by rw [Hv.out]; exact ⟨_, rfl, by decide⟩, bx⟩
        · have hq1 : ¬ x.count < 1 := by omega
          go_wp2_with fail
          go_ret3
          exact ⟨by rw [Hv.out]; exact ⟨_, rfl, by decide⟩, bx⟩
      · have q1 : ¬ x.count < 1 := by omega
        have q2 : ¬ 1048576 < x.count := by omega
        have x1 := k1.cell 1 _ rfl
        have d0 := kd1.cell 0 _ rfl
        have d1 := kd1.cell 1 _ rfl
        have d2 := kd1.cell 2 _ rfl
        have Hn := Lib.hid hn
        clear hn
        go_wp2_with fail
        with_reducible refine (vatFind vt T x.cat d _ ht1).mono ?_
        rintro e w2 ⟨rfl, b2⟩
        have bx2 := bx.trans (b2.mono bx.size)
        have k2 := k1.ext b2
        have y2 := k2.cell 2 _ rfl
        have y3 := k2.cell 3 _ rfl
        clear k1 kd1 bx x1 x2 d0 d1 d2 b2
        cases hf : (findT T x.cat d).2 with
        | false =>
          have Hv := Lib.hid (line_rate h64 Hn.out hcnt hf)
          clear hf
          go_wp2_with fail
          go_ret3
          exact ⟨by rw [Hv.out]; exact ⟨_, rfl, by decide⟩, bx2⟩
        | true =>
          go_wp2_with fail
          with_reducible refine (Hmul.out _).mono ?_
          rintro e w' ⟨rfl, rfl⟩
          by_cases hz : Mon.fits (x.count * x.price)
          · have Hv := Lib.hid (line_yes h64 Hn.out hcnt hf hz)
            rw [Mon.told_ok hz]
            clear hf
            generalize (findT T x.cat d).1 = bp at *
            generalize x.count * x.price = z at *
            go_wp2_with fail
            go_ret3
            exact ⟨by rw [Hv.out]; rfl, bx2⟩
          · have Hv := Lib.hid (line_over h64 Hn.out hcnt hf hz)
            rw [Mon.told_no hz]
            clear hf
            generalize (findT T x.cat d).1 = bp at *
            go_wp2_with fail
            go_ret3
            exact ⟨by rw [Hv.out]; exact ⟨_, rfl, by decide⟩, bx2⟩

def PutR (w' : World) (B : Nat) (r : Except Int (List Part)) (e : Ending) : Prop :=
  ∃ v' qs, e = .returned (.tuple #[v', .int .i64 (resE r)]) ∧ OwnR partE w' B 64 v' qs ∧ ∀ x, r = .ok x → qs = x
theorem putP_at {ps : List Part} {c : ByteArray} {bp n : Int} {k : Nat} {q : Part} (hk : cntP ps c = k) (hq : (withP ps c bp)[k]? = some q) :
    putP ps c bp n = if Mon.fits (q.net + n) then .ok ((withP ps c bp).set k ⟨q.cat, q.bp, q.net + n, q.tax⟩) else .error 7 := by
  unfold putP; rw [hk, hq]
theorem part4 {w : World} {b off n c : Nat} {l : List Part} (h : Rd partE w (.slice (some ⟨b, off, none⟩) n c) l) {k : Nat} (hk : k < l.length) :
    w.cell? ⟨b, off + k * 4, none⟩ = some (.string l[k].cat) ∧ w.cell? ⟨b, off + k * 4 + 1, none⟩ = some (.int .i64 l[k].bp) ∧ w.cell? ⟨b, off + k * 4 + 2, none⟩ = some (.int .i64 l[k].net) ∧ w.cell? ⟨b, off + k * 4 + 3, none⟩ = some (.int .i64 l[k].tax) :=
  ⟨h.at_ hk 0 (by decide), h.at_ hk 1 (by decide), h.at_ hk 2 (by decide), h.at_ hk 3 (by decide)⟩

set_option maxHeartbeats 4000000 in
set_option maxRecDepth 100000 in
theorem invPut (B : Nat) (v : Value) (ps : List Part) (c : ByteArray) (bp n : Int) (w : World) (own : OwnR partE w B 64 v ps) (hB : B ≤ w.heap.size) (hg : GoodP ps) (hn : Mon.fits n) (hl : ps.length ≤ 1000) :
    Calls Try.prog 56 #[v, .string c, .int .i64 bp, .int .i64 n] w fun e w' => PutR w' B (putP ps c bp n) e ∧ Below B w w' := by
  have hv := own.rd
  have Hown := Lib.hid own
  have Hg := Lib.hid hg
  clear own hg
  obtain ⟨p, cap, rfl, h1, h2, h3, h4⟩ := hv.form
  clear h3 h4
  unfold maxLen at h2
  go_enter Try.func56, Try.ntmps56
  go_wp2_with fail
  go_loop [10] (fun i => ∃ k : Nat, k ≤ ps.length ∧ i = .int .i64 k ∧ Hid (∀ j (h : j < ps.length), j < k → ltS ps[j].cat c = true)) (fun i => ps.length - (intOf i).toNat)
  case atStart => exact ⟨0, by omega, rfl, fun j h hj => by omega⟩
  case round =>
    obtain ⟨k, hk, rfl, hall⟩ := hrel
    have hk0 : (0 : Int) ≤ (k : Int) := by omega
    by_cases hgo : ∃ h : k < ps.length, ltS ps[k].cat c = true
    · obtain ⟨hlt, hgo⟩ := hgo
      obtain ⟨b, off, rfl⟩ := Rd.blk hv (by omega)
      obtain ⟨c0, _⟩ := part4 hv hlt
      have hi : (k : Int) < (ps.length : Int) := by omega
      have hall' : Hid (∀ j (h : j < ps.length), j < k + 1 → ltS ps[j].cat c = true) := fun j h hj => by
        by_cases e : j = k
        · subst e; exact hgo
        · exact hall.out j h (by omega)
      generalize ps[k] = s at c0 hgo
      have hgb : Op.bytesLess s.cat.toList c.toList = true := hgo
      go_wp2_with fail
      go_round
      case rel => exact ⟨k + 1, by omega, by go_num, hall'⟩
      case measure => simp [intOf]; omega
    · have hf : cntP ps c = k := cntP_is hk hall.out (fun h => by cases hx : ltS ps[k].cat c with | false => rfl | true => exact absurd ⟨h, hx⟩ hgo)
      have Hf := Lib.hid hf
      have hcase : (¬ (k : Int) < (ps.length : Int) ∧ k = ps.length ∧ hasP ps c = false) ∨ ((k : Int) < (ps.length : Int) ∧ ∃ h : k < ps.length, ltS ps[k].cat c = false ∧ eqS ps[k].cat c = hasP ps c) := by
        by_cases h : k < ps.length
        · exact .inr ⟨by omega, h, by cases hx : ltS ps[k].cat c with | false => rfl | true => exact absurd ⟨h, hx⟩ hgo, (hasP_at hf h).symm⟩
        · exact .inl ⟨by omega, by omega, hasP_end hf (by omega)⟩
      have hpe := fun q h => putP_at (bp := bp) (n := n) (q := q) hf h
      have hwl := withP_lt ps c bp
      have hwn := fun h => withP_no (bp := bp) hf h
      have hwy := fun h => withP_yes (bp := bp) (ps := ps) (c := c) h
      rw [hf] at hwl
      have Hpe := Lib.hid hpe
      have Hwl := Lib.hid hwl
      have Hwn := Lib.hid hwn
      have Hwy := Lib.hid hwy
      have hbp0 := GoodP.fit Hg.out
      have Hbp0 := Lib.hid hbp0
      clear hf hall hgo hpe hwl hwn hwy hbp0
      rcases hcase with ⟨hi, hke, hh⟩ | ⟨hi, hlt, hge, hh⟩
      · have hkb : ((k : Int) == (ps.length : Int)) = true := by simp; omega
        have hkb2 : (k == ps.length) = true := by simp; omega
        have HH := Lib.hid hh
        have Hke := Lib.hid hke
        clear hh hke
        go_wp2_with fail
        have hke := Hke.out
        have hsz := hB
        have b0 : Below B w (w.alloc (.cells #[.string c, .int .i64 bp, .int .i64 0, .int .i64 0] 64)) := (below_alloc w _).mono hB
        have own0 := Hown.out.ext (below_alloc w (.cells #[.string c, .int .i64 bp, .int .i64 0, .int .i64 0] 64))
        have hne : (Value.slice p ps.length cap).ownBlock ≠ some w.heap.size := fun e => by have := (Hown.out.lt _ e).2; omega
        have hvb : (w.alloc (.cells #[.string c, .int .i64 bp, .int .i64 0, .int .i64 0] 64)).heap[w.heap.size]? = some (.cells (partE.enc ⟨c, bp, 0, 0⟩).toArray 64 (0, 0)) := Blk.new _ _ _
        have hkl : k ≤ ps.length := by omega
        try clear hke
        have hb1 : (ps.length + 1) * 40 ≤ 140737488355328 := by omega
        with_reducible refine (insPart B w.heap.size k (.slice p ps.length cap) ps ⟨c, bp, 0, 0⟩ _ own0 hvb hne hkl hb1 (Nat.le_trans hB b0.size)).mono ?_
        rintro e w1 ⟨v1, rfl, own1, g1, b1'⟩
        have b1 := b0.trans b1'
        rw [← Hwn.out HH.out] at own1
        clear own0 hne hvb g1 b1' b0
        obtain ⟨qs, hqe⟩ : ∃ z, z = withP ps c bp := ⟨_, rfl⟩
        rw [← hqe] at own1
        have hkq : k < qs.length := by rw [hqe]; exact Hwl.out
        have hql : qs.length ≤ 1001 := by have := withP_len ps c bp; rw [hqe]; omega
        have Hqe := Lib.hid hqe
        clear hqe
        obtain ⟨g, cp, rfl, e1, e2, e3, e4⟩ := own1.head (by omega)
        obtain ⟨nq, hnq⟩ : ∃ z, z = qs.length := ⟨_, rfl⟩
        rw [← hnq] at own1 hkq hql e3 ⊢
        have hple := hnq.symm
        have hkq' : k < qs.length := by omega
        unfold maxLen at e4
        have hkn : (k : Int) < (nq : Int) := by omega
        have hc2 := own1.cellAt (by omega) k (by omega) 2 (by decide)
        have hf2 := own1.frozenAt (by omega) (k * 4 + 2)
        have hmm : ∀ y ∈ qs, Mon.fits y.net := fun y hy => by
          rw [Hqe.out] at hy
          rcases withP_mem hy with h | h
          · exact Hbp0.out _ h
          · rw [h]; exact fits0
        have hfn := hmm (qs[k]'(by omega)) (List.getElem_mem _)
        clear hmm
        obtain ⟨q, hq⟩ : ∃ z, z = qs[k]'(by omega) := ⟨_, rfl⟩
        rw [← hq] at hc2 hfn
        have hqq : qs[k]? = some q := by rw [hq]; exact List.getElem?_eq_getElem _
        have hpe2 := Hpe.out q (by rw [← Hqe.out]; exact hqq)
        rw [← Hqe.out] at hpe2
        have Hq := Lib.hid hq
        have Hpe2 := Lib.hid hpe2
        clear hq hpe2 hqq
        simp only [partE, List.getElem?_cons_zero, List.getElem?_cons_succ] at hc2
        have hcall := fun w => moneyAdd q.net n w hfn hn
        clear hfn
        have Hple := Lib.hid hple
        try clear hnq
        clear hple
        go_wp2_with fail
        with_reducible refine (hcall _).mono ?_
        rintro e w' ⟨rfl, rfl⟩
        have Hown1 := Lib.hid own1
        clear hcall
        by_cases hz : Mon.fits (q.net + n)
        · rw [Mon.told_ok hz]
          obtain ⟨own2, gr2⟩ := own1.stored Hple.out.symm k (by rw [Hple.out]; omega) 2 (by decide) (.int .i64 (q.net + n)) rfl ⟨q.cat, q.bp, q.net + n, q.tax⟩ (by rw [← Hq.out]; rfl)
          have hr := Hpe2.out
          rw [if_pos hz] at hr
          have Hr := Lib.hid hr
          have Own2 := Lib.hid own2
          clear hr own2 own1 hz
          generalize q.net + n = z at *
          go_wp2_with fail
          go_ret2
          exact ⟨⟨_, _, by rw [Hr.out]; rfl, Own2.out, fun x hx => by rw [Hr.out] at hx; cases hx; rfl⟩, b1.trans (below_grown gr2 (by have := b1.size; omega) (fun k h => by cases h; exact e1))⟩
        · rw [Mon.told_no hz]
          obtain ⟨own2, gr2⟩ := own1.stored Hple.out.symm k (by rw [Hple.out]; omega) 2 (by decide) (.int .i64 0) rfl ⟨q.cat, q.bp, 0, q.tax⟩ (by rw [← Hq.out]; rfl)
          have hr := Hpe2.out
          rw [if_neg hz] at hr
          have Hr := Lib.hid hr
          have Own2 := Lib.hid own2
          clear hr own2 own1 hz
          go_wp2_with fail
          go_ret2
          exact ⟨⟨_, _, by rw [Hr.out]; rfl, Own2.out, fun x hx => by rw [Hr.out] at hx; cases hx⟩, b1.trans (below_grown gr2 (by have := b1.size; omega) (fun k h => by cases h; exact e1))⟩
      · obtain ⟨b, off, rfl⟩ := Rd.blk hv (by omega)
        obtain ⟨c0, _⟩ := part4 hv hlt
        have hkb : ((k : Int) == (ps.length : Int)) = false := by simp; omega
        have hkb2 : (k == ps.length) = false := by simp; omega
        obtain ⟨s, hs⟩ : ∃ s, ps[k] = s := ⟨_, rfl⟩
        rw [hs] at c0 hge hh
        clear hs
        have hgb : Op.bytesLess s.cat.toList c.toList = false := hge
        clear hge
        cases he : eqS s.cat c with
        | false =>
          rw [he] at hh
          have HH := Lib.hid hh.symm
          have he2 : (s.cat.toList == c.toList) = false := he
          have he3 : (s.cat.toList != c.toList) = true := by unfold bne; rw [he2]; rfl
          clear he hh
          go_wp2_with fail
          have hsz := hB
          have b0 : Below B w (w.alloc (.cells #[.string c, .int .i64 bp, .int .i64 0, .int .i64 0] 64)) := (below_alloc w _).mono hB
          have own0 := Hown.out.ext (below_alloc w (.cells #[.string c, .int .i64 bp, .int .i64 0, .int .i64 0] 64))
          have hne : (Value.slice (some ⟨b, off, none⟩) ps.length cap).ownBlock ≠ some w.heap.size := fun e => by have := (Hown.out.lt _ e).2; omega
          have hvb : (w.alloc (.cells #[.string c, .int .i64 bp, .int .i64 0, .int .i64 0] 64)).heap[w.heap.size]? = some (.cells (partE.enc ⟨c, bp, 0, 0⟩).toArray 64 (0, 0)) := Blk.new _ _ _
          have hkl : k ≤ ps.length := by omega
          try clear hke
          have hb1 : (ps.length + 1) * 40 ≤ 140737488355328 := by omega
          with_reducible refine (insPart B w.heap.size k (.slice (some ⟨b, off, none⟩) ps.length cap) ps ⟨c, bp, 0, 0⟩ _ own0 hvb hne hkl hb1 (Nat.le_trans hB b0.size)).mono ?_
          rintro e w1 ⟨v1, rfl, own1, g1, b1'⟩
          have b1 := b0.trans b1'
          rw [← Hwn.out HH.out] at own1
          clear own0 hne hvb g1 b1' b0
          obtain ⟨qs, hqe⟩ : ∃ z, z = withP ps c bp := ⟨_, rfl⟩
          rw [← hqe] at own1
          have hkq : k < qs.length := by rw [hqe]; exact Hwl.out
          have hql : qs.length ≤ 1001 := by have := withP_len ps c bp; rw [hqe]; omega
          have Hqe := Lib.hid hqe
          clear hqe
          obtain ⟨g, cp, rfl, e1, e2, e3, e4⟩ := own1.head (by omega)
          obtain ⟨nq, hnq⟩ : ∃ z, z = qs.length := ⟨_, rfl⟩
          rw [← hnq] at own1 hkq hql e3 ⊢
          have hple := hnq.symm
          have hkq' : k < qs.length := by omega
          unfold maxLen at e4
          have hkn : (k : Int) < (nq : Int) := by omega
          have hc2 := own1.cellAt (by omega) k (by omega) 2 (by decide)
          have hf2 := own1.frozenAt (by omega) (k * 4 + 2)
          have hmm : ∀ y ∈ qs, Mon.fits y.net := fun y hy => by
            rw [Hqe.out] at hy
            rcases withP_mem hy with h | h
            · exact Hbp0.out _ h
            · rw [h]; exact fits0
          have hfn := hmm (qs[k]'(by omega)) (List.getElem_mem _)
          clear hmm
          obtain ⟨q, hq⟩ : ∃ z, z = qs[k]'(by omega) := ⟨_, rfl⟩
          rw [← hq] at hc2 hfn
          have hqq : qs[k]? = some q := by rw [hq]; exact List.getElem?_eq_getElem _
          have hpe2 := Hpe.out q (by rw [← Hqe.out]; exact hqq)
          rw [← Hqe.out] at hpe2
          have Hq := Lib.hid hq
          have Hpe2 := Lib.hid hpe2
          clear hq hpe2 hqq
          simp only [partE, List.getElem?_cons_zero, List.getElem?_cons_succ] at hc2
          have hcall := fun w => moneyAdd q.net n w hfn hn
          clear hfn
          have Hple := Lib.hid hple
          try clear hnq
          clear hple
          go_wp2_with fail
          with_reducible refine (hcall _).mono ?_
          rintro e w' ⟨rfl, rfl⟩
          have Hown1 := Lib.hid own1
          clear hcall
          by_cases hz : Mon.fits (q.net + n)
          · rw [Mon.told_ok hz]
            obtain ⟨own2, gr2⟩ := own1.stored Hple.out.symm k (by rw [Hple.out]; omega) 2 (by decide) (.int .i64 (q.net + n)) rfl ⟨q.cat, q.bp, q.net + n, q.tax⟩ (by rw [← Hq.out]; rfl)
            have hr := Hpe2.out
            rw [if_pos hz] at hr
            have Hr := Lib.hid hr
            have Own2 := Lib.hid own2
            clear hr own2 own1 hz
            generalize q.net + n = z at *
            go_wp2_with fail
            go_ret2
            exact ⟨⟨_, _, by rw [Hr.out]; rfl, Own2.out, fun x hx => by rw [Hr.out] at hx; cases hx; rfl⟩, b1.trans (below_grown gr2 (by have := b1.size; omega) (fun k h => by cases h; exact e1))⟩
          · rw [Mon.told_no hz]
            obtain ⟨own2, gr2⟩ := own1.stored Hple.out.symm k (by rw [Hple.out]; omega) 2 (by decide) (.int .i64 0) rfl ⟨q.cat, q.bp, 0, q.tax⟩ (by rw [← Hq.out]; rfl)
            have hr := Hpe2.out
            rw [if_neg hz] at hr
            have Hr := Lib.hid hr
            have Own2 := Lib.hid own2
            clear hr own2 own1 hz
            go_wp2_with fail
            go_ret2
            exact ⟨⟨_, _, by rw [Hr.out]; rfl, Own2.out, fun x hx => by rw [Hr.out] at hx; cases hx⟩, b1.trans (below_grown gr2 (by have := b1.size; omega) (fun k h => by cases h; exact e1))⟩
        | true =>
          rw [he] at hh
          have HH := Lib.hid hh.symm
          have he2 : (s.cat.toList == c.toList) = true := he
          have he3 : (s.cat.toList != c.toList) = false := by unfold bne; rw [he2]; rfl
          clear he hh
          have own1 := Hown.out
          have b1 := Below.refl B w
          have hqs : ps = withP ps c bp := (Hwy.out HH.out).symm
          have hql : ps.length ≤ 1001 := by omega
          obtain ⟨qs, hqe⟩ : ∃ z, z = withP ps c bp := ⟨_, rfl⟩
          rw [hqs, ← hqe] at own1
          have hkq : k < qs.length := by rw [hqe]; exact Hwl.out
          have hple : qs.length = ps.length := by rw [hqe, ← hqs]
          have Hqe := Lib.hid hqe
          clear hqs hqe
          obtain ⟨g, cp, hsh, e1, e2, e3, e4⟩ := own1.head (by omega)
          rw [hple] at hsh e3
          simp only [Value.slice.injEq, Option.some.injEq, Addr.mk.injEq, and_true, true_and] at hsh
          obtain ⟨⟨rfl, rfl⟩, rfl⟩ := hsh
          simp only [Nat.zero_add] at c0
          rw [hple] at own1
          unfold maxLen at e4
          have hkn : (k : Int) < (ps.length : Int) := by omega
          have hc2 := own1.cellAt (by omega) k (by omega) 2 (by decide)
          have hf2 := own1.frozenAt (by omega) (k * 4 + 2)
          have hmm : ∀ y ∈ qs, Mon.fits y.net := fun y hy => by
            rw [Hqe.out] at hy
            rcases withP_mem hy with h | h
            · exact Hbp0.out _ h
            · rw [h]; exact fits0
          have hfn := hmm (qs[k]'(by omega)) (List.getElem_mem _)
          clear hmm
          obtain ⟨q, hq⟩ : ∃ z, z = qs[k]'(by omega) := ⟨_, rfl⟩
          rw [← hq] at hc2 hfn
          have hqq : qs[k]? = some q := by rw [hq]; exact List.getElem?_eq_getElem _
          have hpe2 := Hpe.out q (by rw [← Hqe.out]; exact hqq)
          rw [← Hqe.out] at hpe2
          have Hq := Lib.hid hq
          have Hpe2 := Lib.hid hpe2
          clear hq hpe2 hqq
          simp only [partE, List.getElem?_cons_zero, List.getElem?_cons_succ] at hc2
          have hcall := fun w => moneyAdd q.net n w hfn hn
          clear hfn
          have Hple := Lib.hid hple
          try clear hnq
          clear hple
          go_wp2_with fail
          with_reducible refine (hcall _).mono ?_
          rintro e w' ⟨rfl, rfl⟩
          have Hown1 := Lib.hid own1
          clear hcall
          by_cases hz : Mon.fits (q.net + n)
          · rw [Mon.told_ok hz]
            obtain ⟨own2, gr2⟩ := own1.stored Hple.out.symm k (by rw [Hple.out]; omega) 2 (by decide) (.int .i64 (q.net + n)) rfl ⟨q.cat, q.bp, q.net + n, q.tax⟩ (by rw [← Hq.out]; rfl)
            have hr := Hpe2.out
            rw [if_pos hz] at hr
            have Hr := Lib.hid hr
            have Own2 := Lib.hid own2
            clear hr own2 own1 hz
            generalize q.net + n = z at *
            go_wp2_with fail
            go_ret2
            exact ⟨⟨_, _, by rw [Hr.out]; rfl, Own2.out, fun x hx => by rw [Hr.out] at hx; cases hx; rfl⟩, b1.trans (below_grown gr2 (by have := b1.size; omega) (fun k h => by cases h; exact e1))⟩
          · rw [Mon.told_no hz]
            obtain ⟨own2, gr2⟩ := own1.stored Hple.out.symm k (by rw [Hple.out]; omega) 2 (by decide) (.int .i64 0) rfl ⟨q.cat, q.bp, 0, q.tax⟩ (by rw [← Hq.out]; rfl)
            have hr := Hpe2.out
            rw [if_neg hz] at hr
            have Hr := Lib.hid hr
            have Own2 := Lib.hid own2
            clear hr own2 own1 hz
            go_wp2_with fail
            go_ret2
            exact ⟨⟨_, _, by rw [Hr.out]; rfl, Own2.out, fun x hx => by rw [Hr.out] at hx; cases hx⟩, b1.trans (below_grown gr2 (by have := b1.size; omega) (fun k h => by cases h; exact e1))⟩
end Go.Proofs.Ytpobhlnlnplbdaa
