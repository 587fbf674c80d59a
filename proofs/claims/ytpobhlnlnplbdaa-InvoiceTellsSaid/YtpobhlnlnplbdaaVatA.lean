/- Walks: vat.Row, ahead, Right; the document's Row, before, Table; '==' of days and rows. -/
import Derived.Test.YtpobhlnlnplbdaaVatTab
import Derived.Test.YtpobhlnlnplbdaaVatE
import Derived.Test.YtpobhlnlnplbdaaDateW
import Derived.Test.YtpobhlnlnplbdaaSign
namespace Go.Proofs.Ytpobhlnlnplbdaa
open Go Go.RowKit BigFrame
attribute [local go_sem] After.same

theorem day_eqb (x y : Day) : (x.y == y.y && (x.m == y.m && x.d == y.d)) = decide (x = y) := by
  rw [Bool.eq_iff_iff, decide_eq_true_iff]
  cases x; cases y; simp
theorem eqin_day (x y : Day) (n : Nat) (w : World) : (Op.equalIn (n + 2) 23 (.agg #[.int .i64 x.y, .int .i64 x.m, .int .i64 x.d]) (.agg #[.int .i64 y.y, .int .i64 y.m, .int .i64 y.d])).run Try.prog w = .ok (decide (x = y)) w := by
  have u3 := Try.underlying3
  have a3 := Try.isAgg3
  have z3 := Try.sizeOf3
  have hS : Try.prog.underlying 23 = some (.struct (Try.prog.fieldsOf 23)) := by kernel_rfl
  have hp : Try.prog.stoodInHeld 23 = false := by kernel_rfl
  rw [← day_eqb]
  rw [run_equalIn_agg w (n + 1) 23 _ _ hS hp]
  simp only [Program.fieldsOf, Try.underlying23]
  go_simp
  by_cases h1 : x.y = y.y <;> by_cases h2 : x.m = y.m <;> by_cases h3 : x.d = y.d <;> simp [h1, h2, h3]
theorem neq_day (x y : Day) (w : World) : (binOp .neq 23 (.agg #[.int .i64 x.y, .int .i64 x.m, .int .i64 x.d]) (.agg #[.int .i64 y.y, .int .i64 y.m, .int .i64 y.d])).run Try.prog w = .ok (.bool (!decide (x = y))) w := by
  rw [run_neq_struct, eqin_day x y 9998]; rfl
theorem eql_day (x y : Day) (w : World) : (binOp .eql 23 (.agg #[.int .i64 x.y, .int .i64 x.m, .int .i64 x.d]) (.agg #[.int .i64 y.y, .int .i64 y.m, .int .i64 y.d])).run Try.prog w = .ok (.bool (decide (x = y))) w := by
  rw [run_eql_struct, eqin_day x y 9998]; rfl
theorem rate_eqb (x y : Rate) : (eqS x.cat y.cat && (decide (x.day = y.day) && x.bp == y.bp)) = decide (x = y) := by
  rw [Bool.eq_iff_iff, decide_eq_true_iff]
  cases x; cases y; simp [eqS_iff]
theorem eqin_rate (x y : Rate) (w : World) : (Op.equalIn 10000 25 (.agg #[.string x.cat, .int .i64 x.day.y, .int .i64 x.day.m, .int .i64 x.day.d, .int .i64 x.bp]) (.agg #[.string y.cat, .int .i64 y.day.y, .int .i64 y.day.m, .int .i64 y.day.d, .int .i64 y.bp])).run Try.prog w = .ok (decide (x = y)) w := by
  have u3 := Try.underlying3
  have a3 := Try.isAgg3
  have z3 := Try.sizeOf3
  have u9 := Try.underlying9
  have a9 := Try.isAgg9
  have z9 := Try.sizeOf9
  have a2 := Try.isAgg23
  have z2 := Try.sizeOf23
  have hS : Try.prog.underlying 25 = some (.struct (Try.prog.fieldsOf 25)) := by kernel_rfl
  have hp : Try.prog.stoodInHeld 25 = false := by kernel_rfl
  rw [← rate_eqb, ← day_eqb]
  rw [show (10000 : Nat) = 9999 + 1 from rfl, run_equalIn_agg w 9999 25 _ _ hS hp]
  simp only [Program.fieldsOf, Try.underlying25]
  unfold eqS
  go_simp
  generalize x.cat.toList = a
  generalize y.cat.toList = b
  by_cases h1 : a = b <;> by_cases h2 : x.day.y = y.day.y <;> by_cases h3 : x.day.m = y.day.m <;> by_cases h4 : x.day.d = y.day.d <;> by_cases h5 : x.bp = y.bp <;> simp [h1, h2, h3, h4, h5]
theorem neq_Rate (x y : Rate) (w : World) : (binOp .neq 25 (.agg #[.string x.cat, .int .i64 x.day.y, .int .i64 x.day.m, .int .i64 x.day.d, .int .i64 x.bp]) (.agg #[.string y.cat, .int .i64 y.day.y, .int .i64 y.day.m, .int .i64 y.day.d, .int .i64 y.bp])).run Try.prog w = .ok (.bool (!decide (x = y))) w := by
  rw [run_neq_struct, eqin_rate]; rfl

theorem rowT_name {x : Rate} (h : nameB x.cat = false) : rowT x = 8 := by unfold rowT; rw [if_pos h]
theorem rowT_day {x : Rate} (h : nameB x.cat = true) (h2 : rightD x.day = false) : rowT x = 9 := by unfold rowT; rw [if_neg (by rw [h]; simp), if_pos h2]
theorem rowT_bp {x : Rate} (h : nameB x.cat = true) (h2 : rightD x.day = true) (h3 : x.bp < 0 ∨ 100000 < x.bp) : rowT x = 10 := by unfold rowT; rw [if_neg (by rw [h]; simp), if_neg (by rw [h2]; simp), if_pos h3]
theorem rowT_yes {x : Rate} (h : nameB x.cat = true) (h2 : rightD x.day = true) (h3 : ¬ (x.bp < 0 ∨ 100000 < x.bp)) : rowT x = 0 := by unfold rowT; rw [if_neg (by rw [h]; simp), if_neg (by rw [h2]; simp), if_neg h3]

set_option maxHeartbeats 1000000 in
set_option maxRecDepth 100000 in
theorem vatRow (x : Rate) (w : World) :
    Calls Try.prog 24 #[.agg #[.string x.cat, .int .i64 x.day.y, .int .i64 x.day.m, .int .i64 x.day.d, .int .i64 x.bp]] w fun e w' => e = .returned (.int .i64 (rowT x)) ∧ Below w.heap.size w w' := by
  have hb1 := below_alloc w (.cells #[.string x.cat, .int .i64 x.day.y, .int .i64 x.day.m, .int .i64 x.day.d, .int .i64 x.bp] 25)
  have kx := Blk.new w #[.string x.cat, .int .i64 x.day.y, .int .i64 x.day.m, .int .i64 x.day.d, .int .i64 x.bp] 25
  have x0 := kx.cell 0 _ rfl
  go_enter Try.func24, Try.ntmps24
  go_wp2_with fail
  generalize hW : w.alloc (.cells #[.string x.cat, .int .i64 x.day.y, .int .i64 x.day.m, .int .i64 x.day.d, .int .i64 x.bp] 25) = W at *
  clear hW
  with_reducible refine (signName x.cat _).mono ?_
  rintro e w1 ⟨rfl, b1⟩
  have bx := hb1.trans (b1.mono hb1.size)
  have k1 := kx.ext b1
  clear kx b1 hb1 x0
  cases hn : nameB x.cat with
  | false =>
    have Hr := Lib.hid (rowT_name hn)
    clear hn
    go_wp2_with fail
    go_ret
    exact ⟨ret_int Hr.out.symm, bx⟩
  | true =>
    have Hn := Lib.hid hn
    clear hn
    have x1 := k1.cell 1 _ rfl
    have x2 := k1.cell 2 _ rfl
    have x3 := k1.cell 3 _ rfl
    go_wp2_with fail
    with_reducible refine (dateRight x.day _).mono ?_
    rintro e w2 ⟨rfl, b2⟩
    have bx2 := bx.trans (b2.mono bx.size)
    have k2 := k1.ext b2
    clear bx b2 k1 x1 x2 x3
    cases hr : rightD x.day with
    | false =>
      have Hr := Lib.hid (rowT_day Hn.out hr)
      clear hr
      go_wp2_with fail
      go_ret
      exact ⟨ret_int Hr.out.symm, bx2⟩
    | true =>
      have x4 := k2.cell 4 _ rfl
      by_cases h1 : x.bp < 0
      · have Hr := Lib.hid (rowT_bp Hn.out hr (.inl h1))
        clear hr
        go_wp2_with fail
        go_ret
        exact ⟨ret_int Hr.out.symm, bx2⟩
      · by_cases h2 : 100000 < x.bp
        · have Hr := Lib.hid (rowT_bp Hn.out hr (.inr h2))
          clear hr
          go_wp2_with fail
          go_ret
          exact ⟨ret_int Hr.out.symm, bx2⟩
        · have Hr := Lib.hid (rowT_yes Hn.out hr (fun h => h.elim h1 h2))
          clear hr
          go_wp2_with fail
          go_ret
          exact ⟨ret_int Hr.out.symm, bx2⟩

set_option maxHeartbeats 1000000 in
set_option maxRecDepth 100000 in
theorem refRow (x : Rate) (w : World) :
    Calls Try.prog 25 #[.agg #[.string x.cat, .int .i64 x.day.y, .int .i64 x.day.m, .int .i64 x.day.d, .int .i64 x.bp]] w fun e w' => e = .returned (.int .i64 (rowT x)) ∧ Below w.heap.size w w' := by
  have hb1 := below_alloc w (.cells #[.string x.cat, .int .i64 x.day.y, .int .i64 x.day.m, .int .i64 x.day.d, .int .i64 x.bp] 25)
  have kx := Blk.new w #[.string x.cat, .int .i64 x.day.y, .int .i64 x.day.m, .int .i64 x.day.d, .int .i64 x.bp] 25
  have x0 := kx.cell 0 _ rfl
  go_enter Try.func25, Try.ntmps25
  go_wp2_with fail
  generalize hW : w.alloc (.cells #[.string x.cat, .int .i64 x.day.y, .int .i64 x.day.m, .int .i64 x.day.d, .int .i64 x.bp] 25) = W at *
  clear hW
  with_reducible refine (refName x.cat _).mono ?_
  rintro e w1 ⟨rfl, b1⟩
  have bx := hb1.trans (b1.mono hb1.size)
  have k1 := kx.ext b1
  clear kx b1 hb1 x0
  cases hn : nameB x.cat with
  | false =>
    have Hr := Lib.hid (rowT_name hn)
    clear hn
    go_wp2_with fail
    go_ret
    exact ⟨ret_int Hr.out.symm, bx⟩
  | true =>
    have Hn := Lib.hid hn
    clear hn
    have x1 := k1.cell 1 _ rfl
    have x2 := k1.cell 2 _ rfl
    have x3 := k1.cell 3 _ rfl
    go_wp2_with fail
    with_reducible refine (refRightD x.day _).mono ?_
    rintro e w2 ⟨rfl, b2⟩
    have bx2 := bx.trans (b2.mono bx.size)
    have k2 := k1.ext b2
    clear bx b2 k1 x1 x2 x3
    cases hr : rightD x.day with
    | false =>
      have Hr := Lib.hid (rowT_day Hn.out hr)
      clear hr
      go_wp2_with fail
      go_ret
      exact ⟨ret_int Hr.out.symm, bx2⟩
    | true =>
      have x4 := k2.cell 4 _ rfl
      by_cases h1 : x.bp < 0
      · have Hr := Lib.hid (rowT_bp Hn.out hr (.inl h1))
        clear hr
        go_wp2_with fail
        go_ret
        exact ⟨ret_int Hr.out.symm, bx2⟩
      · by_cases h2 : 100000 < x.bp
        · have Hr := Lib.hid (rowT_bp Hn.out hr (.inr h2))
          clear hr
          go_wp2_with fail
          go_ret
          exact ⟨ret_int Hr.out.symm, bx2⟩
        · have Hr := Lib.hid (rowT_yes Hn.out hr (fun h => h.elim h1 h2))
          clear hr
          go_wp2_with fail
          go_ret
          exact ⟨ret_int Hr.out.symm, bx2⟩

set_option maxHeartbeats 1000000 in
set_option maxRecDepth 100000 in
theorem dateBefore (x y : Day) (w : World) :
    Calls Try.prog 50 #[.agg #[.int .i64 x.y, .int .i64 x.m, .int .i64 x.d], .agg #[.int .i64 y.y, .int .i64 y.m, .int .i64 y.d]] w fun e w' => e = .returned (.bool (beforeD x y)) ∧ Below w.heap.size w w' := by
  have hb1 := below_alloc w (.cells #[.int .i64 x.y, .int .i64 x.m, .int .i64 x.d] 23)
  have kx0 := Blk.new w #[.int .i64 x.y, .int .i64 x.m, .int .i64 x.d] 23
  have hb2 := below_alloc (w.alloc (.cells #[.int .i64 x.y, .int .i64 x.m, .int .i64 x.d] 23)) (.cells #[.int .i64 y.y, .int .i64 y.m, .int .i64 y.d] 23)
  have ky := Blk.new (w.alloc (.cells #[.int .i64 x.y, .int .i64 x.m, .int .i64 x.d] 23)) #[.int .i64 y.y, .int .i64 y.m, .int .i64 y.d] 23
  have kx := kx0.ext hb2
  have hbb := hb1.trans (hb2.mono hb1.size)
  have hs2 : (w.alloc (.cells #[.int .i64 x.y, .int .i64 x.m, .int .i64 x.d] 23)).heap.size = w.heap.size + 1 := by simp
  rw [hs2] at ky
  clear hb1 hb2 kx0 hs2
  go_enter Try.func50, Try.ntmps50
  go_wp2_with fail
  generalize hW : (w.alloc (.cells #[.int .i64 x.y, .int .i64 x.m, .int .i64 x.d] 23)).alloc (.cells #[.int .i64 y.y, .int .i64 y.m, .int .i64 y.d] 23) = W at *
  clear hW
  cases hx : rightD x with
  | false =>
    have Hq : Hid (beforeD x y = false) := by show _ = _; unfold beforeD; rw [hx]; rfl
    have Hx := Lib.hid hx
    clear hx
    have hxkx0 : ∀ z : After W, z.1.cell? ⟨w.heap.size, 0, none⟩ = some (.int .i64 x.y) := fun z => (kx.ext z.2).cell 0 _ rfl
    have hxkx1 : ∀ z : After W, z.1.cell? ⟨w.heap.size, 1, none⟩ = some (.int .i64 x.m) := fun z => (kx.ext z.2).cell 1 _ rfl
    have hxkx2 : ∀ z : After W, z.1.cell? ⟨w.heap.size, 2, none⟩ = some (.int .i64 x.d) := fun z => (kx.ext z.2).cell 2 _ rfl
    have hxky0 : ∀ z : After W, z.1.cell? ⟨w.heap.size + 1, 0, none⟩ = some (.int .i64 y.y) := fun z => (ky.ext z.2).cell 0 _ rfl
    have hxky1 : ∀ z : After W, z.1.cell? ⟨w.heap.size + 1, 1, none⟩ = some (.int .i64 y.m) := fun z => (ky.ext z.2).cell 1 _ rfl
    have hxky2 : ∀ z : After W, z.1.cell? ⟨w.heap.size + 1, 2, none⟩ = some (.int .i64 y.d) := fun z => (ky.ext z.2).cell 2 _ rfl
    have hcl0 : ∀ z : After W, Calls Try.prog 49 #[.agg #[.int .i64 x.y, .int .i64 x.m, .int .i64 x.d]] z.1 fun e w' => e = .returned (.bool false) ∧ ∃ y : After W, w' = y.1 := fun z => z.call ((dateRight x _).mono fun e w' h => ⟨by rw [h.1, Hx.out], h.2⟩)
    refine wp_region_after (by kernel_rfl) (by kernel_rfl) ?_
    repeat (go_big_quiet_step (first | with_reducible exact hcl0 _))
    refine wpQuiet_nil ?_
    rintro w7 ⟨⟨w7x, c7⟩, hw7⟩
    change w7 = w7x at hw7
    subst hw7
    clear hxkx0 hxkx1 hxkx2 hxky0 hxky1 hxky2 hcl0
    go_wp2_with fail
    go_ret
    exact ⟨ret_bool Hq.out.symm, hbb.trans (c7.mono hbb.size)⟩
  | true =>
    cases hy : rightD y with
    | false =>
      have Hq : Hid (beforeD x y = false) := by show _ = _; unfold beforeD; rw [hy]; simp
      have Hx := Lib.hid hx
      have Hy := Lib.hid hy
      clear hx hy
      have hxkx0 : ∀ z : After W, z.1.cell? ⟨w.heap.size, 0, none⟩ = some (.int .i64 x.y) := fun z => (kx.ext z.2).cell 0 _ rfl
      have hxkx1 : ∀ z : After W, z.1.cell? ⟨w.heap.size, 1, none⟩ = some (.int .i64 x.m) := fun z => (kx.ext z.2).cell 1 _ rfl
      have hxkx2 : ∀ z : After W, z.1.cell? ⟨w.heap.size, 2, none⟩ = some (.int .i64 x.d) := fun z => (kx.ext z.2).cell 2 _ rfl
      have hxky0 : ∀ z : After W, z.1.cell? ⟨w.heap.size + 1, 0, none⟩ = some (.int .i64 y.y) := fun z => (ky.ext z.2).cell 0 _ rfl
      have hxky1 : ∀ z : After W, z.1.cell? ⟨w.heap.size + 1, 1, none⟩ = some (.int .i64 y.m) := fun z => (ky.ext z.2).cell 1 _ rfl
      have hxky2 : ∀ z : After W, z.1.cell? ⟨w.heap.size + 1, 2, none⟩ = some (.int .i64 y.d) := fun z => (ky.ext z.2).cell 2 _ rfl
      have hcl0 : ∀ z : After W, Calls Try.prog 49 #[.agg #[.int .i64 x.y, .int .i64 x.m, .int .i64 x.d]] z.1 fun e w' => e = .returned (.bool true) ∧ ∃ y : After W, w' = y.1 := fun z => z.call ((dateRight x _).mono fun e w' h => ⟨by rw [h.1, Hx.out], h.2⟩)
      have hcl1 : ∀ z : After W, Calls Try.prog 49 #[.agg #[.int .i64 y.y, .int .i64 y.m, .int .i64 y.d]] z.1 fun e w' => e = .returned (.bool false) ∧ ∃ y : After W, w' = y.1 := fun z => z.call ((dateRight y _).mono fun e w' h => ⟨by rw [h.1, Hy.out], h.2⟩)
      refine wp_region_after (by kernel_rfl) (by kernel_rfl) ?_
      repeat (go_big_quiet_step (first | with_reducible exact hcl0 _ | with_reducible exact hcl1 _))
      refine wpQuiet_nil ?_
      rintro w7 ⟨⟨w7x, c7⟩, hw7⟩
      change w7 = w7x at hw7
      subst hw7
      clear hxkx0 hxkx1 hxkx2 hxky0 hxky1 hxky2 hcl0 hcl1
      go_wp2_with fail
      go_ret
      exact ⟨ret_bool Hq.out.symm, hbb.trans (c7.mono hbb.size)⟩
    | true =>
      have Hq := Lib.hid (beforeD_iff hx hy)
      have Hx := Lib.hid hx
      have Hy := Lib.hid hy
      clear hx hy
      have hdx := fun w => dateDays x w
      have hdy := fun w => dateDays y w
      generalize daysD x = dx at *
      generalize daysD y = dy at *
      have hxkx0 : ∀ z : After W, z.1.cell? ⟨w.heap.size, 0, none⟩ = some (.int .i64 x.y) := fun z => (kx.ext z.2).cell 0 _ rfl
      have hxkx1 : ∀ z : After W, z.1.cell? ⟨w.heap.size, 1, none⟩ = some (.int .i64 x.m) := fun z => (kx.ext z.2).cell 1 _ rfl
      have hxkx2 : ∀ z : After W, z.1.cell? ⟨w.heap.size, 2, none⟩ = some (.int .i64 x.d) := fun z => (kx.ext z.2).cell 2 _ rfl
      have hxky0 : ∀ z : After W, z.1.cell? ⟨w.heap.size + 1, 0, none⟩ = some (.int .i64 y.y) := fun z => (ky.ext z.2).cell 0 _ rfl
      have hxky1 : ∀ z : After W, z.1.cell? ⟨w.heap.size + 1, 1, none⟩ = some (.int .i64 y.m) := fun z => (ky.ext z.2).cell 1 _ rfl
      have hxky2 : ∀ z : After W, z.1.cell? ⟨w.heap.size + 1, 2, none⟩ = some (.int .i64 y.d) := fun z => (ky.ext z.2).cell 2 _ rfl
      have hcl0 : ∀ z : After W, Calls Try.prog 49 #[.agg #[.int .i64 x.y, .int .i64 x.m, .int .i64 x.d]] z.1 fun e w' => e = .returned (.bool true) ∧ ∃ y : After W, w' = y.1 := fun z => z.call ((dateRight x _).mono fun e w' h => ⟨by rw [h.1, Hx.out], h.2⟩)
      have hcl1 : ∀ z : After W, Calls Try.prog 49 #[.agg #[.int .i64 y.y, .int .i64 y.m, .int .i64 y.d]] z.1 fun e w' => e = .returned (.bool true) ∧ ∃ y : After W, w' = y.1 := fun z => z.call ((dateRight y _).mono fun e w' h => ⟨by rw [h.1, Hy.out], h.2⟩)
      have hcl2 : ∀ z : After W, Calls Try.prog 68 #[.agg #[.int .i64 x.y, .int .i64 x.m, .int .i64 x.d]] z.1 fun e w' => e = .returned (.int .i64 dx) ∧ ∃ y : After W, w' = y.1 := fun z => z.call (hdx _)
      have hcl3 : ∀ z : After W, Calls Try.prog 68 #[.agg #[.int .i64 y.y, .int .i64 y.m, .int .i64 y.d]] z.1 fun e w' => e = .returned (.int .i64 dy) ∧ ∃ y : After W, w' = y.1 := fun z => z.call (hdy _)
      refine wp_region_after (by kernel_rfl) (by kernel_rfl) ?_
      repeat (go_big_quiet_step (first | with_reducible exact hcl0 _ | with_reducible exact hcl1 _ | with_reducible exact hcl2 _ | with_reducible exact hcl3 _))
      refine wpQuiet_nil ?_
      rintro w7 ⟨⟨w7x, c7⟩, hw7⟩
      change w7 = w7x at hw7
      subst hw7
      clear hxkx0 hxkx1 hxkx2 hxky0 hxky1 hxky2 hcl0 hcl1 hcl2 hcl3
      clear hdx hdy
      go_wp2_with fail
      go_ret
      exact ⟨ret_bool Hq.out.symm, hbb.trans (c7.mono hbb.size)⟩
set_option maxHeartbeats 1000000 in
set_option maxRecDepth 100000 in
theorem vatAhead (x y : Rate) (w : World) :
    Calls Try.prog 47 #[.agg #[.string x.cat, .int .i64 x.day.y, .int .i64 x.day.m, .int .i64 x.day.d, .int .i64 x.bp], .agg #[.string y.cat, .int .i64 y.day.y, .int .i64 y.day.m, .int .i64 y.day.d, .int .i64 y.bp]] w fun e w' => e = .returned (.bool (aheadT x y)) ∧ Below w.heap.size w w' := by
  have hb1 := below_alloc w (.cells #[.string x.cat, .int .i64 x.day.y, .int .i64 x.day.m, .int .i64 x.day.d, .int .i64 x.bp] 25)
  have kx0 := Blk.new w #[.string x.cat, .int .i64 x.day.y, .int .i64 x.day.m, .int .i64 x.day.d, .int .i64 x.bp] 25
  have hb2 := below_alloc (w.alloc (.cells #[.string x.cat, .int .i64 x.day.y, .int .i64 x.day.m, .int .i64 x.day.d, .int .i64 x.bp] 25)) (.cells #[.string y.cat, .int .i64 y.day.y, .int .i64 y.day.m, .int .i64 y.day.d, .int .i64 y.bp] 25)
  have ky := Blk.new (w.alloc (.cells #[.string x.cat, .int .i64 x.day.y, .int .i64 x.day.m, .int .i64 x.day.d, .int .i64 x.bp] 25)) #[.string y.cat, .int .i64 y.day.y, .int .i64 y.day.m, .int .i64 y.day.d, .int .i64 y.bp] 25
  have kx := kx0.ext hb2
  have hbb := hb1.trans (hb2.mono hb1.size)
  have hs2 : (w.alloc (.cells #[.string x.cat, .int .i64 x.day.y, .int .i64 x.day.m, .int .i64 x.day.d, .int .i64 x.bp] 25)).heap.size = w.heap.size + 1 := by simp
  rw [hs2] at ky
  clear hb1 hb2 kx0 hs2
  have x0 := kx.cell 0 _ rfl
  have y0 := ky.cell 0 _ rfl
  have x1 := kx.cell 1 _ rfl
  have y1 := ky.cell 1 _ rfl
  have x2 := kx.cell 2 _ rfl
  have y2 := ky.cell 2 _ rfl
  have x3 := kx.cell 3 _ rfl
  have y3 := ky.cell 3 _ rfl
  have x4 := kx.cell 4 _ rfl
  have y4 := ky.cell 4 _ rfl
  cases hl : ltS x.cat y.cat with
  | true =>
    have Hq : Hid (aheadT x y = true) := by show _ = _; unfold aheadT; rw [hl]; rfl
    have hl2 : Op.bytesLess x.cat.toList y.cat.toList = true := hl
    clear hl
    go_enter Try.func47, Try.ntmps47
    go_wp2_with fail
    go_ret
    exact ⟨ret_bool Hq.out.symm, hbb⟩
  | false =>
    have hl2 : Op.bytesLess x.cat.toList y.cat.toList = false := hl
    cases he : eqS x.cat y.cat with
    | false =>
      have Hq : Hid (aheadT x y = false) := by show _ = _; unfold aheadT; rw [hl, he]; rfl
      have he2 : (x.cat.toList == y.cat.toList) = false := he
      clear hl he
      go_enter Try.func47, Try.ntmps47
      go_wp2_with fail
      go_ret
      exact ⟨ret_bool Hq.out.symm, hbb⟩
    | true =>
      have Hq : Hid (aheadT x y = beforeD x.day y.day) := by show _ = _; unfold aheadT; rw [hl, he]; simp
      have he2 : (x.cat.toList == y.cat.toList) = true := he
      clear hl he
      go_enter Try.func47, Try.ntmps47
      go_wp2_with fail
      with_reducible refine (dateBefore x.day y.day _).mono ?_
      rintro e w1 ⟨rfl, b1⟩
      generalize beforeD x.day y.day = z at *
      go_wp2_with fail
      go_ret
      exact ⟨ret_bool Hq.out.symm, hbb.trans (b1.mono hbb.size)⟩

set_option maxHeartbeats 1000000 in
set_option maxRecDepth 100000 in
theorem refBefore (x y : Rate) (w : World) (rx : rightD x.day = true) (ry : rightD y.day = true) :
    Calls Try.prog 53 #[.agg #[.string x.cat, .int .i64 x.day.y, .int .i64 x.day.m, .int .i64 x.day.d, .int .i64 x.bp], .agg #[.string y.cat, .int .i64 y.day.y, .int .i64 y.day.m, .int .i64 y.day.d, .int .i64 y.bp]] w fun e w' => e = .returned (.bool (aheadT x y)) ∧ Below w.heap.size w w' := by
  have hb1 := below_alloc w (.cells #[.string x.cat, .int .i64 x.day.y, .int .i64 x.day.m, .int .i64 x.day.d, .int .i64 x.bp] 25)
  have kx0 := Blk.new w #[.string x.cat, .int .i64 x.day.y, .int .i64 x.day.m, .int .i64 x.day.d, .int .i64 x.bp] 25
  have hb2 := below_alloc (w.alloc (.cells #[.string x.cat, .int .i64 x.day.y, .int .i64 x.day.m, .int .i64 x.day.d, .int .i64 x.bp] 25)) (.cells #[.string y.cat, .int .i64 y.day.y, .int .i64 y.day.m, .int .i64 y.day.d, .int .i64 y.bp] 25)
  have ky := Blk.new (w.alloc (.cells #[.string x.cat, .int .i64 x.day.y, .int .i64 x.day.m, .int .i64 x.day.d, .int .i64 x.bp] 25)) #[.string y.cat, .int .i64 y.day.y, .int .i64 y.day.m, .int .i64 y.day.d, .int .i64 y.bp] 25
  have kx := kx0.ext hb2
  have hbb := hb1.trans (hb2.mono hb1.size)
  have hs2 : (w.alloc (.cells #[.string x.cat, .int .i64 x.day.y, .int .i64 x.day.m, .int .i64 x.day.d, .int .i64 x.bp] 25)).heap.size = w.heap.size + 1 := by simp
  rw [hs2] at ky
  clear hb1 hb2 kx0 hs2
  have x0 := kx.cell 0 _ rfl
  have y0 := ky.cell 0 _ rfl
  have x1 := kx.cell 1 _ rfl
  have y1 := ky.cell 1 _ rfl
  have x2 := kx.cell 2 _ rfl
  have y2 := ky.cell 2 _ rfl
  have x3 := kx.cell 3 _ rfl
  have y3 := ky.cell 3 _ rfl
  have x4 := kx.cell 4 _ rfl
  have y4 := ky.cell 4 _ rfl
  have Hrx := Lib.hid rx
  have Hry := Lib.hid ry
  clear rx ry
  cases he : eqS x.cat y.cat with
  | false =>
    have he2 : (x.cat.toList == y.cat.toList) = false := he
    have he3 : (x.cat.toList != y.cat.toList) = true := by unfold bne; rw [he2]; rfl
    have Hq : Hid (aheadT x y = ltS x.cat y.cat) := by show _ = _; unfold aheadT; rw [he]; simp
    clear he
    unfold ltS at Hq
    go_enter Try.func53, Try.ntmps53
    go_wp2_with fail
    go_ret
    exact ⟨ret_bool Hq.out.symm, hbb⟩
  | true =>
    have he2 : (x.cat.toList == y.cat.toList) = true := he
    have he3 : (x.cat.toList != y.cat.toList) = false := by unfold bne; rw [he2]; rfl
    have Hq : Hid (aheadT x y = decide (daysD x.day < daysD y.day)) := by
      show _ = _; unfold aheadT; rw [he, (eqS_iff _ _).1 he, ltS_irrefl, beforeD_iff Hrx.out Hry.out]; simp
    clear he Hrx Hry
    have hdx := fun w => refDays x.day w
    have hdy := fun w => refDays y.day w
    generalize daysD x.day = dx at *
    generalize daysD y.day = dy at *
    go_enter Try.func53, Try.ntmps53
    go_wp2_with fail
    generalize hW : (w.alloc (.cells #[.string x.cat, .int .i64 x.day.y, .int .i64 x.day.m, .int .i64 x.day.d, .int .i64 x.bp] 25)).alloc (.cells #[.string y.cat, .int .i64 y.day.y, .int .i64 y.day.m, .int .i64 y.day.d, .int .i64 y.bp] 25) = W at *
    clear hW x0 x1 x2 x3 x4 y0 y1 y2 y3 y4
    have hxkx0 : ∀ z : After W, z.1.cell? ⟨w.heap.size, 0, none⟩ = some (.string x.cat) := fun z => (kx.ext z.2).cell 0 _ rfl
    have hxkx1 : ∀ z : After W, z.1.cell? ⟨w.heap.size, 1, none⟩ = some (.int .i64 x.day.y) := fun z => (kx.ext z.2).cell 1 _ rfl
    have hxkx2 : ∀ z : After W, z.1.cell? ⟨w.heap.size, 2, none⟩ = some (.int .i64 x.day.m) := fun z => (kx.ext z.2).cell 2 _ rfl
    have hxkx3 : ∀ z : After W, z.1.cell? ⟨w.heap.size, 3, none⟩ = some (.int .i64 x.day.d) := fun z => (kx.ext z.2).cell 3 _ rfl
    have hxkx4 : ∀ z : After W, z.1.cell? ⟨w.heap.size, 4, none⟩ = some (.int .i64 x.bp) := fun z => (kx.ext z.2).cell 4 _ rfl
    have hxky0 : ∀ z : After W, z.1.cell? ⟨w.heap.size + 1, 0, none⟩ = some (.string y.cat) := fun z => (ky.ext z.2).cell 0 _ rfl
    have hxky1 : ∀ z : After W, z.1.cell? ⟨w.heap.size + 1, 1, none⟩ = some (.int .i64 y.day.y) := fun z => (ky.ext z.2).cell 1 _ rfl
    have hxky2 : ∀ z : After W, z.1.cell? ⟨w.heap.size + 1, 2, none⟩ = some (.int .i64 y.day.m) := fun z => (ky.ext z.2).cell 2 _ rfl
    have hxky3 : ∀ z : After W, z.1.cell? ⟨w.heap.size + 1, 3, none⟩ = some (.int .i64 y.day.d) := fun z => (ky.ext z.2).cell 3 _ rfl
    have hxky4 : ∀ z : After W, z.1.cell? ⟨w.heap.size + 1, 4, none⟩ = some (.int .i64 y.bp) := fun z => (ky.ext z.2).cell 4 _ rfl
    have hcl0 : ∀ z : After W, Calls Try.prog 33 #[.agg #[.int .i64 x.day.y, .int .i64 x.day.m, .int .i64 x.day.d]] z.1 fun e w' => e = .returned (.int .i64 dx) ∧ ∃ y : After W, w' = y.1 := fun z => z.call (hdx _)
    have hcl1 : ∀ z : After W, Calls Try.prog 33 #[.agg #[.int .i64 y.day.y, .int .i64 y.day.m, .int .i64 y.day.d]] z.1 fun e w' => e = .returned (.int .i64 dy) ∧ ∃ y : After W, w' = y.1 := fun z => z.call (hdy _)
    refine wp_region_after (by kernel_rfl) (by kernel_rfl) ?_
    repeat (go_big_quiet_step (first | with_reducible exact hcl0 _ | with_reducible exact hcl1 _))
    refine wpQuiet_nil ?_
    rintro w7 ⟨⟨w7x, c7⟩, hw7⟩
    change w7 = w7x at hw7
    subst hw7
    clear hxkx0 hxkx1 hxkx2 hxkx3 hxkx4 hxky0 hxky1 hxky2 hxky3 hxky4 hcl0 hcl1
    clear hdx hdy
    go_wp2_with fail
    go_ret
    exact ⟨ret_bool Hq.out.symm, hbb.trans (c7.mono hbb.size)⟩
theorem chainT_step {p : Option Rate} {l : List Rate} {k : Nat} (h : k < l.length) : chainT p (l.drop k) = ((rowT l[k] == 0 && afterT p l[k]) && chainT (some l[k]) (l.drop (k + 1))) := by
  rw [List.drop_eq_getElem_cons h, chainT]
theorem chainT_end {p : Option Rate} {l : List Rate} {k : Nat} (h : l.length ≤ k) : chainT p (l.drop k) = true := by rw [List.drop_of_length_le h]; rfl
theorem rightT_no {l : List Rate} {p : Option Rate} {k : Nat} (hch : chainT none l = chainT p (l.drop k)) (hk : k < l.length) (h : (rowT l[k] == 0) = false ∨ afterT p l[k] = false) : rightT l = false := by
  unfold rightT; rw [hch, chainT_step hk]; rcases h with h | h <;> rw [h] <;> simp
theorem rightT_next {l : List Rate} {p : Option Rate} {k : Nat} (hch : chainT none l = chainT p (l.drop k)) (hk : k < l.length) (h : rowT l[k] = 0) (h2 : afterT p l[k] = true) : chainT none l = chainT (some l[k]) (l.drop (k + 1)) := by
  rw [hch, chainT_step hk, h, h2]; rfl
theorem rightT_end {l : List Rate} {p : Option Rate} {k : Nat} (hch : chainT none l = chainT p (l.drop k)) (hk : l.length ≤ k) (h8 : l.length ≤ 24) : rightT l = true := by
  unfold rightT; rw [hch, chainT_end hk]; simpa using h8
theorem rightT_long {l : List Rate} (h : 24 < l.length) : rightT l = false := by
  unfold rightT; rw [decide_eq_false (by omega)]; rfl
theorem rightT_len {l : List Rate} (h : rightT l = true) : l.length ≤ 24 := by
  unfold rightT at h; rw [Bool.and_eq_true, decide_eq_true_iff] at h; exact h.1

set_option maxHeartbeats 8000000 in
set_option maxRecDepth 100000 in
theorem vatRight (v : Value) (l : List Rate) (w : World) (hv : Rd rateE w v l) :
    Calls Try.prog 17 #[v] w fun e w' => e = .returned (.bool (rightT l)) ∧ Below w.heap.size w w' := by
  obtain ⟨p, cap, rfl, h1, h2, h3, h4⟩ := hv.form
  clear h3 h4
  unfold maxLen at h2
  by_cases h8 : 24 < l.length
  · have h8' : (24 : Int) < (l.length : Int) := by omega
    go_enter Try.func17, Try.ntmps17
    go_wp2_with fail
    go_ret
    exact ⟨ret_bool (rightT_long h8).symm, Below.refl _ _⟩
  · have h8' : ¬ (24 : Int) < (l.length : Int) := by omega
    go_enter Try.func17, Try.ntmps17
    go_wp2_with fail
    go_loopw [10] (fun i wr => ∃ (k : Nat) (p : Option Rate), k ≤ l.length ∧ i = .int .i64 k ∧ Hid (chainT none l = chainT p (l.drop k)) ∧ ((k = 0 ∧ p = none) ∨ ∃ (j : Nat) (h : j < l.length), k = j + 1 ∧ p = some l[j] ∧ Hid (rowT l[j] = 0)) ∧ Below w.heap.size w wr) (fun i _ => l.length - (intOf i).toNat)
    case atStart => exact ⟨0, none, by omega, rfl, rfl, .inl ⟨rfl, rfl⟩, Below.refl _ _⟩
    case round =>
      obtain ⟨k, q, hk, rfl, hch, hpr, hb⟩ := hrel
      by_cases hlt : k < l.length
      · obtain ⟨b, off, rfl⟩ := Rd.blk hv (by omega)
        have hvr := hv.ext hb
        obtain ⟨c0, c1, c2, c3, c4⟩ := rate5 hvr hlt
        have hi : (k : Int) < (l.length : Int) := by omega
        have hi0 : (0 : Int) ≤ (k : Int) := by omega
        have hno := Lib.hid (fun h => rightT_no hch.out hlt h)
        have hnx := Lib.hid (fun h h2 => rightT_next hch.out hlt h h2)
        have hbb : b < wr.heap.size := World.block_lt_of_cell? wr _ c0
        rcases hpr with ⟨rfl, rfl⟩ | ⟨j, hjl, rfl, rfl, hrj⟩
        · simp only [Nat.zero_mul, Nat.add_zero] at c0 c1 c2 c3 c4
          obtain ⟨x, hx⟩ : ∃ x, l[0] = x := ⟨_, rfl⟩
          rw [hx] at c0 c1 c2 c3 c4
          have Hx := Lib.hid hx
          clear hx hv hvr
          have hb1 := below_alloc wr (.cells #[.string x.cat, .int .i64 x.day.y, .int .i64 x.day.m, .int .i64 x.day.d, .int .i64 x.bp] 25)
          have kx := Blk.new wr #[.string x.cat, .int .i64 x.day.y, .int .i64 x.day.m, .int .i64 x.day.d, .int .i64 x.bp] 25
          have x0 := kx.cell 0 _ rfl
          have x1 := kx.cell 1 _ rfl
          have x2 := kx.cell 2 _ rfl
          have x3 := kx.cell 3 _ rfl
          have x4 := kx.cell 4 _ rfl
          go_wp2_with fail
          generalize hW : wr.alloc (.cells #[.string x.cat, .int .i64 x.day.y, .int .i64 x.day.m, .int .i64 x.day.d, .int .i64 x.bp] 25) = W at *
          have hxl : wr.heap.size < W.heap.size := kx.lt
          have hbl : b < W.heap.size := by have := hb1.size; omega
          have hbe := hb.trans (hb1.mono hb.size)
          clear hW hb1 hb
          clear x0 x1 x2 x3 x4
          by_cases hr : rowT x = 0
          rotate_left
          · have Hq : Hid (rightT l = false) := hno.out (.inl (by rw [Hx.out]; simpa using hr))
            obtain ⟨n, hn⟩ : ∃ n, n = rowT x := ⟨_, rfl⟩
            have Hr : Hid (rowT x = n) := hn.symm
            have n1 : (n == 0) = false := by rw [hn]; simpa using hr
            have n2 : (n != 0) = true := by rw [hn]; simpa using hr
            clear hr hn
            have hxkx0 : ∀ z : After W, z.1.cell? ⟨wr.heap.size, 0, none⟩ = some (.string x.cat) := fun z => (kx.ext z.2).cell 0 _ rfl
            have hxkx1 : ∀ z : After W, z.1.cell? ⟨wr.heap.size, 1, none⟩ = some (.int .i64 x.day.y) := fun z => (kx.ext z.2).cell 1 _ rfl
            have hxkx2 : ∀ z : After W, z.1.cell? ⟨wr.heap.size, 2, none⟩ = some (.int .i64 x.day.m) := fun z => (kx.ext z.2).cell 2 _ rfl
            have hxkx3 : ∀ z : After W, z.1.cell? ⟨wr.heap.size, 3, none⟩ = some (.int .i64 x.day.d) := fun z => (kx.ext z.2).cell 3 _ rfl
            have hxkx4 : ∀ z : After W, z.1.cell? ⟨wr.heap.size, 4, none⟩ = some (.int .i64 x.bp) := fun z => (kx.ext z.2).cell 4 _ rfl
            have hcl0 : ∀ z : After W, Calls Try.prog 24 #[.agg #[.string x.cat, .int .i64 x.day.y, .int .i64 x.day.m, .int .i64 x.day.d, .int .i64 x.bp]] z.1 fun e w' => e = .returned (.int .i64 n) ∧ ∃ y : After W, w' = y.1 := fun z => z.call ((vatRow x _).mono fun e w' h => ⟨by rw [h.1, Hr.out], h.2⟩)
            refine wp_region_after (by kernel_rfl) (by kernel_rfl) ?_
            repeat (go_big_quiet_step (first | with_reducible exact hcl0 _))
            refine wpQuiet_nil ?_
            rintro w7 ⟨⟨w7x, c7⟩, hw7⟩
            change w7 = w7x at hw7
            subst hw7
            clear hxkx0 hxkx1 hxkx2 hxkx3 hxkx4 hcl0
            go_wp2_with fail
            go_ret
            exact ⟨ret_bool Hq.out.symm, hbe.trans (c7.mono hbe.size)⟩
          · have Hq := hnx.out (by rw [Hx.out]; exact hr) rfl
            have Hr := Lib.hid hr
            have Hq2 := Lib.hid Hq
            clear hr Hq
            have hxkx0 : ∀ z : After W, z.1.cell? ⟨wr.heap.size, 0, none⟩ = some (.string x.cat) := fun z => (kx.ext z.2).cell 0 _ rfl
            have hxkx1 : ∀ z : After W, z.1.cell? ⟨wr.heap.size, 1, none⟩ = some (.int .i64 x.day.y) := fun z => (kx.ext z.2).cell 1 _ rfl
            have hxkx2 : ∀ z : After W, z.1.cell? ⟨wr.heap.size, 2, none⟩ = some (.int .i64 x.day.m) := fun z => (kx.ext z.2).cell 2 _ rfl
            have hxkx3 : ∀ z : After W, z.1.cell? ⟨wr.heap.size, 3, none⟩ = some (.int .i64 x.day.d) := fun z => (kx.ext z.2).cell 3 _ rfl
            have hxkx4 : ∀ z : After W, z.1.cell? ⟨wr.heap.size, 4, none⟩ = some (.int .i64 x.bp) := fun z => (kx.ext z.2).cell 4 _ rfl
            have hcl0 : ∀ z : After W, Calls Try.prog 24 #[.agg #[.string x.cat, .int .i64 x.day.y, .int .i64 x.day.m, .int .i64 x.day.d, .int .i64 x.bp]] z.1 fun e w' => e = .returned (.int .i64 0) ∧ ∃ y : After W, w' = y.1 := fun z => z.call ((vatRow x _).mono fun e w' h => ⟨by rw [h.1, Hr.out], h.2⟩)
            refine wp_region_after (by kernel_rfl) (by kernel_rfl) ?_
            repeat (go_big_quiet_step (first | with_reducible exact hcl0 _))
            refine wpQuiet_nil ?_
            rintro w7 ⟨⟨w7x, c7⟩, hw7⟩
            change w7 = w7x at hw7
            subst hw7
            clear hxkx0 hxkx1 hxkx2 hxkx3 hxkx4 hcl0
            have hb7 := hbe.trans (c7.mono hbe.size)
            go_wp2_with fail
            go_roundw
            case rel => exact ⟨0 + 1, some l[0], by omega, by go_num, Hq2.out, .inr ⟨0, hlt, rfl, rfl, by show _ = _; rw [Hx.out]; exact Hr.out⟩, hb7⟩
            case measure => simp [intOf]; omega
        · obtain ⟨e0, e1, e2, e3, e4⟩ := rate5 hvr hjl
          have hw : IntKind.i64.wrap ((j : Int) + 1 - 1) = (j : Int) := by rw [IntKind.wrap_i64]; omega
          have hj0 : (0 : Int) ≤ (j : Int) := by omega
          have hjl2 : (j : Int) < (l.length : Int) := by omega
          have hry := (rowT_ok hrj.out).2.1
          obtain ⟨x, hx⟩ : ∃ x, l[j + 1] = x := ⟨_, rfl⟩
          obtain ⟨y, hy⟩ : ∃ y, l[j] = y := ⟨_, rfl⟩
          rw [hx] at c0 c1 c2 c3 c4
          rw [hy] at e0 e1 e2 e3 e4 hry
          have Hx := Lib.hid hx
          have Hy := Lib.hid hy
          have Hry := Lib.hid hry
          clear hx hy hv hvr hry hrj
          have hb1 := below_alloc wr (.cells #[.string x.cat, .int .i64 x.day.y, .int .i64 x.day.m, .int .i64 x.day.d, .int .i64 x.bp] 25)
          have kx := Blk.new wr #[.string x.cat, .int .i64 x.day.y, .int .i64 x.day.m, .int .i64 x.day.d, .int .i64 x.bp] 25
          have x0 := kx.cell 0 _ rfl
          have x1 := kx.cell 1 _ rfl
          have x2 := kx.cell 2 _ rfl
          have x3 := kx.cell 3 _ rfl
          have x4 := kx.cell 4 _ rfl
          have y0 : (wr.alloc (.cells #[.string x.cat, .int .i64 x.day.y, .int .i64 x.day.m, .int .i64 x.day.d, .int .i64 x.bp] 25)).cell? ⟨b, off + j * 5, none⟩ = some (.string y.cat) := by rw [hb1.cell (p := ⟨b, off + j * 5, none⟩) hbb]; exact e0
          have y1 : (wr.alloc (.cells #[.string x.cat, .int .i64 x.day.y, .int .i64 x.day.m, .int .i64 x.day.d, .int .i64 x.bp] 25)).cell? ⟨b, off + j * 5 + 1, none⟩ = some (.int .i64 y.day.y) := by rw [hb1.cell (p := ⟨b, off + j * 5 + 1, none⟩) hbb]; exact e1
          have y2 : (wr.alloc (.cells #[.string x.cat, .int .i64 x.day.y, .int .i64 x.day.m, .int .i64 x.day.d, .int .i64 x.bp] 25)).cell? ⟨b, off + j * 5 + 2, none⟩ = some (.int .i64 y.day.m) := by rw [hb1.cell (p := ⟨b, off + j * 5 + 2, none⟩) hbb]; exact e2
          have y3 : (wr.alloc (.cells #[.string x.cat, .int .i64 x.day.y, .int .i64 x.day.m, .int .i64 x.day.d, .int .i64 x.bp] 25)).cell? ⟨b, off + j * 5 + 3, none⟩ = some (.int .i64 y.day.d) := by rw [hb1.cell (p := ⟨b, off + j * 5 + 3, none⟩) hbb]; exact e3
          have y4 : (wr.alloc (.cells #[.string x.cat, .int .i64 x.day.y, .int .i64 x.day.m, .int .i64 x.day.d, .int .i64 x.bp] 25)).cell? ⟨b, off + j * 5 + 4, none⟩ = some (.int .i64 y.bp) := by rw [hb1.cell (p := ⟨b, off + j * 5 + 4, none⟩) hbb]; exact e4
          go_wp2_with fail
          generalize hW : wr.alloc (.cells #[.string x.cat, .int .i64 x.day.y, .int .i64 x.day.m, .int .i64 x.day.d, .int .i64 x.bp] 25) = W at *
          have hxl : wr.heap.size < W.heap.size := kx.lt
          have hbl : b < W.heap.size := by have := hb1.size; omega
          have hbe := hb.trans (hb1.mono hb.size)
          clear hW hb1 hb
          clear x0 x1 x2 x3 x4
          by_cases hr : rowT x = 0
          rotate_left
          · have Hq : Hid (rightT l = false) := hno.out (.inl (by (first | rw [Hx.out, Hy.out] | rw [Hx.out]); simpa using hr))
            obtain ⟨n, hn⟩ : ∃ n, n = rowT x := ⟨_, rfl⟩
            have Hr : Hid (rowT x = n) := hn.symm
            have n1 : (n == 0) = false := by rw [hn]; simpa using hr
            have n2 : (n != 0) = true := by rw [hn]; simpa using hr
            clear hr hn
            have hxkx0 : ∀ z : After W, z.1.cell? ⟨wr.heap.size, 0, none⟩ = some (.string x.cat) := fun z => (kx.ext z.2).cell 0 _ rfl
            have hxkx1 : ∀ z : After W, z.1.cell? ⟨wr.heap.size, 1, none⟩ = some (.int .i64 x.day.y) := fun z => (kx.ext z.2).cell 1 _ rfl
            have hxkx2 : ∀ z : After W, z.1.cell? ⟨wr.heap.size, 2, none⟩ = some (.int .i64 x.day.m) := fun z => (kx.ext z.2).cell 2 _ rfl
            have hxkx3 : ∀ z : After W, z.1.cell? ⟨wr.heap.size, 3, none⟩ = some (.int .i64 x.day.d) := fun z => (kx.ext z.2).cell 3 _ rfl
            have hxkx4 : ∀ z : After W, z.1.cell? ⟨wr.heap.size, 4, none⟩ = some (.int .i64 x.bp) := fun z => (kx.ext z.2).cell 4 _ rfl
            have hyy0 : ∀ z : After W, z.1.cell? ⟨b, off + j * 5, none⟩ = some (.string y.cat) := fun z => (z.2.cell (p := ⟨b, off + j * 5, none⟩) hbl).trans y0
            have hyy1 : ∀ z : After W, z.1.cell? ⟨b, off + j * 5 + 1, none⟩ = some (.int .i64 y.day.y) := fun z => (z.2.cell (p := ⟨b, off + j * 5 + 1, none⟩) hbl).trans y1
            have hyy2 : ∀ z : After W, z.1.cell? ⟨b, off + j * 5 + 2, none⟩ = some (.int .i64 y.day.m) := fun z => (z.2.cell (p := ⟨b, off + j * 5 + 2, none⟩) hbl).trans y2
            have hyy3 : ∀ z : After W, z.1.cell? ⟨b, off + j * 5 + 3, none⟩ = some (.int .i64 y.day.d) := fun z => (z.2.cell (p := ⟨b, off + j * 5 + 3, none⟩) hbl).trans y3
            have hyy4 : ∀ z : After W, z.1.cell? ⟨b, off + j * 5 + 4, none⟩ = some (.int .i64 y.bp) := fun z => (z.2.cell (p := ⟨b, off + j * 5 + 4, none⟩) hbl).trans y4
            have hcl0 : ∀ z : After W, Calls Try.prog 24 #[.agg #[.string x.cat, .int .i64 x.day.y, .int .i64 x.day.m, .int .i64 x.day.d, .int .i64 x.bp]] z.1 fun e w' => e = .returned (.int .i64 n) ∧ ∃ y : After W, w' = y.1 := fun z => z.call ((vatRow x _).mono fun e w' h => ⟨by rw [h.1, Hr.out], h.2⟩)
            refine wp_region_after (by kernel_rfl) (by kernel_rfl) ?_
            repeat (go_big_quiet_step (first | with_reducible exact hcl0 _))
            refine wpQuiet_nil ?_
            rintro w7 ⟨⟨w7x, c7⟩, hw7⟩
            change w7 = w7x at hw7
            subst hw7
            clear hxkx0 hxkx1 hxkx2 hxkx3 hxkx4 hyy0 hyy1 hyy2 hyy3 hyy4 hcl0
            go_wp2_with fail
            go_ret
            exact ⟨ret_bool Hq.out.symm, hbe.trans (c7.mono hbe.size)⟩
          · cases ha : aheadT y x with
            | false =>
              have Hq : Hid (rightT l = false) := hno.out (.inr (by show aheadT _ _ = _; (first | rw [Hx.out, Hy.out] | rw [Hx.out]); exact ha))
              have Hr := Lib.hid hr
              have Ha := Lib.hid ha
              have hrx := (rowT_ok hr).2.1
              have Hrx := Lib.hid hrx
              clear hr ha hrx
              have hxkx0 : ∀ z : After W, z.1.cell? ⟨wr.heap.size, 0, none⟩ = some (.string x.cat) := fun z => (kx.ext z.2).cell 0 _ rfl
              have hxkx1 : ∀ z : After W, z.1.cell? ⟨wr.heap.size, 1, none⟩ = some (.int .i64 x.day.y) := fun z => (kx.ext z.2).cell 1 _ rfl
              have hxkx2 : ∀ z : After W, z.1.cell? ⟨wr.heap.size, 2, none⟩ = some (.int .i64 x.day.m) := fun z => (kx.ext z.2).cell 2 _ rfl
              have hxkx3 : ∀ z : After W, z.1.cell? ⟨wr.heap.size, 3, none⟩ = some (.int .i64 x.day.d) := fun z => (kx.ext z.2).cell 3 _ rfl
              have hxkx4 : ∀ z : After W, z.1.cell? ⟨wr.heap.size, 4, none⟩ = some (.int .i64 x.bp) := fun z => (kx.ext z.2).cell 4 _ rfl
              have hyy0 : ∀ z : After W, z.1.cell? ⟨b, off + j * 5, none⟩ = some (.string y.cat) := fun z => (z.2.cell (p := ⟨b, off + j * 5, none⟩) hbl).trans y0
              have hyy1 : ∀ z : After W, z.1.cell? ⟨b, off + j * 5 + 1, none⟩ = some (.int .i64 y.day.y) := fun z => (z.2.cell (p := ⟨b, off + j * 5 + 1, none⟩) hbl).trans y1
              have hyy2 : ∀ z : After W, z.1.cell? ⟨b, off + j * 5 + 2, none⟩ = some (.int .i64 y.day.m) := fun z => (z.2.cell (p := ⟨b, off + j * 5 + 2, none⟩) hbl).trans y2
              have hyy3 : ∀ z : After W, z.1.cell? ⟨b, off + j * 5 + 3, none⟩ = some (.int .i64 y.day.d) := fun z => (z.2.cell (p := ⟨b, off + j * 5 + 3, none⟩) hbl).trans y3
              have hyy4 : ∀ z : After W, z.1.cell? ⟨b, off + j * 5 + 4, none⟩ = some (.int .i64 y.bp) := fun z => (z.2.cell (p := ⟨b, off + j * 5 + 4, none⟩) hbl).trans y4
              have hcl0 : ∀ z : After W, Calls Try.prog 24 #[.agg #[.string x.cat, .int .i64 x.day.y, .int .i64 x.day.m, .int .i64 x.day.d, .int .i64 x.bp]] z.1 fun e w' => e = .returned (.int .i64 0) ∧ ∃ y : After W, w' = y.1 := fun z => z.call ((vatRow x _).mono fun e w' h => ⟨by rw [h.1, Hr.out], h.2⟩)
              have hcl1 : ∀ z : After W, Calls Try.prog 47 #[.agg #[.string y.cat, .int .i64 y.day.y, .int .i64 y.day.m, .int .i64 y.day.d, .int .i64 y.bp], .agg #[.string x.cat, .int .i64 x.day.y, .int .i64 x.day.m, .int .i64 x.day.d, .int .i64 x.bp]] z.1 fun e w' => e = .returned (.bool false) ∧ ∃ y : After W, w' = y.1 := fun z => z.call ((vatAhead y x _).mono fun e w' h => ⟨by rw [h.1, Ha.out], h.2⟩)
              refine wp_region_after (by kernel_rfl) (by kernel_rfl) ?_
              repeat (go_big_quiet_step (first | with_reducible exact hcl0 _ | with_reducible exact hcl1 _))
              refine wpQuiet_nil ?_
              rintro w7 ⟨⟨w7x, c7⟩, hw7⟩
              change w7 = w7x at hw7
              subst hw7
              clear hxkx0 hxkx1 hxkx2 hxkx3 hxkx4 hyy0 hyy1 hyy2 hyy3 hyy4 hcl0 hcl1
              go_wp2_with fail
              go_ret
              exact ⟨ret_bool Hq.out.symm, hbe.trans (c7.mono hbe.size)⟩
            | true =>
              have Hq := hnx.out (by (first | rw [Hx.out, Hy.out] | rw [Hx.out]); exact hr) (by show aheadT _ _ = _; (first | rw [Hx.out, Hy.out] | rw [Hx.out]); exact ha)
              have Hr := Lib.hid hr
              have Ha := Lib.hid ha
              have hrx := (rowT_ok hr).2.1
              have Hrx := Lib.hid hrx
              have Hq2 := Lib.hid Hq
              clear hr ha hrx Hq
              have hxkx0 : ∀ z : After W, z.1.cell? ⟨wr.heap.size, 0, none⟩ = some (.string x.cat) := fun z => (kx.ext z.2).cell 0 _ rfl
              have hxkx1 : ∀ z : After W, z.1.cell? ⟨wr.heap.size, 1, none⟩ = some (.int .i64 x.day.y) := fun z => (kx.ext z.2).cell 1 _ rfl
              have hxkx2 : ∀ z : After W, z.1.cell? ⟨wr.heap.size, 2, none⟩ = some (.int .i64 x.day.m) := fun z => (kx.ext z.2).cell 2 _ rfl
              have hxkx3 : ∀ z : After W, z.1.cell? ⟨wr.heap.size, 3, none⟩ = some (.int .i64 x.day.d) := fun z => (kx.ext z.2).cell 3 _ rfl
              have hxkx4 : ∀ z : After W, z.1.cell? ⟨wr.heap.size, 4, none⟩ = some (.int .i64 x.bp) := fun z => (kx.ext z.2).cell 4 _ rfl
              have hyy0 : ∀ z : After W, z.1.cell? ⟨b, off + j * 5, none⟩ = some (.string y.cat) := fun z => (z.2.cell (p := ⟨b, off + j * 5, none⟩) hbl).trans y0
              have hyy1 : ∀ z : After W, z.1.cell? ⟨b, off + j * 5 + 1, none⟩ = some (.int .i64 y.day.y) := fun z => (z.2.cell (p := ⟨b, off + j * 5 + 1, none⟩) hbl).trans y1
              have hyy2 : ∀ z : After W, z.1.cell? ⟨b, off + j * 5 + 2, none⟩ = some (.int .i64 y.day.m) := fun z => (z.2.cell (p := ⟨b, off + j * 5 + 2, none⟩) hbl).trans y2
              have hyy3 : ∀ z : After W, z.1.cell? ⟨b, off + j * 5 + 3, none⟩ = some (.int .i64 y.day.d) := fun z => (z.2.cell (p := ⟨b, off + j * 5 + 3, none⟩) hbl).trans y3
              have hyy4 : ∀ z : After W, z.1.cell? ⟨b, off + j * 5 + 4, none⟩ = some (.int .i64 y.bp) := fun z => (z.2.cell (p := ⟨b, off + j * 5 + 4, none⟩) hbl).trans y4
              have hcl0 : ∀ z : After W, Calls Try.prog 24 #[.agg #[.string x.cat, .int .i64 x.day.y, .int .i64 x.day.m, .int .i64 x.day.d, .int .i64 x.bp]] z.1 fun e w' => e = .returned (.int .i64 0) ∧ ∃ y : After W, w' = y.1 := fun z => z.call ((vatRow x _).mono fun e w' h => ⟨by rw [h.1, Hr.out], h.2⟩)
              have hcl1 : ∀ z : After W, Calls Try.prog 47 #[.agg #[.string y.cat, .int .i64 y.day.y, .int .i64 y.day.m, .int .i64 y.day.d, .int .i64 y.bp], .agg #[.string x.cat, .int .i64 x.day.y, .int .i64 x.day.m, .int .i64 x.day.d, .int .i64 x.bp]] z.1 fun e w' => e = .returned (.bool true) ∧ ∃ y : After W, w' = y.1 := fun z => z.call ((vatAhead y x _).mono fun e w' h => ⟨by rw [h.1, Ha.out], h.2⟩)
              refine wp_region_after (by kernel_rfl) (by kernel_rfl) ?_
              repeat (go_big_quiet_step (first | with_reducible exact hcl0 _ | with_reducible exact hcl1 _))
              refine wpQuiet_nil ?_
              rintro w7 ⟨⟨w7x, c7⟩, hw7⟩
              change w7 = w7x at hw7
              subst hw7
              clear hxkx0 hxkx1 hxkx2 hxkx3 hxkx4 hyy0 hyy1 hyy2 hyy3 hyy4 hcl0 hcl1
              have hb7 := hbe.trans (c7.mono hbe.size)
              go_wp2_with fail
              go_roundw
              case rel => exact ⟨j + 1 + 1, some l[j + 1], by omega, by go_num, Hq2.out, .inr ⟨j + 1, hlt, rfl, rfl, by show _ = _; (first | rw [Hx.out, Hy.out] | rw [Hx.out]); exact Hr.out⟩, hb7⟩
              case measure => simp [intOf]; omega
      · have Hq := Lib.hid (rightT_end hch.out (by omega) (by omega))
        have hi : ¬ (k : Int) < (l.length : Int) := by omega
        go_wp2_with fail
        go_ret
        exact ⟨ret_bool Hq.out.symm, hb⟩
set_option maxHeartbeats 8000000 in
set_option maxRecDepth 100000 in
theorem refTable (v : Value) (l : List Rate) (w : World) (hv : Rd rateE w v l) :
    Calls Try.prog 26 #[v] w fun e w' => e = .returned (.bool (rightT l)) ∧ Below w.heap.size w w' := by
  obtain ⟨p, cap, rfl, h1, h2, h3, h4⟩ := hv.form
  clear h3 h4
  unfold maxLen at h2
  by_cases h8 : 24 < l.length
  · have h8' : (24 : Int) < (l.length : Int) := by omega
    go_enter Try.func26, Try.ntmps26
    go_wp2_with fail
    go_ret
    exact ⟨ret_bool (rightT_long h8).symm, Below.refl _ _⟩
  · have h8' : ¬ (24 : Int) < (l.length : Int) := by omega
    go_enter Try.func26, Try.ntmps26
    go_wp2_with fail
    go_loopw [3] (fun i wr => ∃ (k : Nat) (p : Option Rate), k ≤ l.length ∧ i = .int .i64 k ∧ Hid (chainT none l = chainT p (l.drop k)) ∧ ((k = 0 ∧ p = none) ∨ ∃ (j : Nat) (h : j < l.length), k = j + 1 ∧ p = some l[j] ∧ Hid (rowT l[j] = 0)) ∧ Below w.heap.size w wr) (fun i _ => l.length - (intOf i).toNat)
    case atStart => exact ⟨0, none, by omega, rfl, rfl, .inl ⟨rfl, rfl⟩, Below.refl _ _⟩
    case round =>
      obtain ⟨k, q, hk, rfl, hch, hpr, hb⟩ := hrel
      by_cases hlt : k < l.length
      · obtain ⟨b, off, rfl⟩ := Rd.blk hv (by omega)
        have hvr := hv.ext hb
        obtain ⟨c0, c1, c2, c3, c4⟩ := rate5 hvr hlt
        have hi : (k : Int) < (l.length : Int) := by omega
        have hi0 : (0 : Int) ≤ (k : Int) := by omega
        have hno := Lib.hid (fun h => rightT_no hch.out hlt h)
        have hnx := Lib.hid (fun h h2 => rightT_next hch.out hlt h h2)
        have hbb : b < wr.heap.size := World.block_lt_of_cell? wr _ c0
        rcases hpr with ⟨rfl, rfl⟩ | ⟨j, hjl, rfl, rfl, hrj⟩
        · simp only [Nat.zero_mul, Nat.add_zero] at c0 c1 c2 c3 c4
          obtain ⟨x, hx⟩ : ∃ x, l[0] = x := ⟨_, rfl⟩
          rw [hx] at c0 c1 c2 c3 c4
          have Hx := Lib.hid hx
          clear hx hv hvr
          go_wp2_with fail
          obtain ⟨W, hW⟩ : ∃ W, W = wr := ⟨_, rfl⟩
          subst hW
          have hbe := hb
          have hbl := hbb
          clear hb
          skip
          by_cases hr : rowT x = 0
          rotate_left
          · have Hq : Hid (rightT l = false) := hno.out (.inl (by rw [Hx.out]; simpa using hr))
            obtain ⟨n, hn⟩ : ∃ n, n = rowT x := ⟨_, rfl⟩
            have Hr : Hid (rowT x = n) := hn.symm
            have n1 : (n == 0) = false := by rw [hn]; simpa using hr
            have n2 : (n != 0) = true := by rw [hn]; simpa using hr
            clear hr hn
            have hyc0 : ∀ z : After W, z.1.cell? ⟨b, off, none⟩ = some (.string x.cat) := fun z => (z.2.cell (p := ⟨b, off, none⟩) hbl).trans c0
            have hyc1 : ∀ z : After W, z.1.cell? ⟨b, off + 1, none⟩ = some (.int .i64 x.day.y) := fun z => (z.2.cell (p := ⟨b, off + 1, none⟩) hbl).trans c1
            have hyc2 : ∀ z : After W, z.1.cell? ⟨b, off + 2, none⟩ = some (.int .i64 x.day.m) := fun z => (z.2.cell (p := ⟨b, off + 2, none⟩) hbl).trans c2
            have hyc3 : ∀ z : After W, z.1.cell? ⟨b, off + 3, none⟩ = some (.int .i64 x.day.d) := fun z => (z.2.cell (p := ⟨b, off + 3, none⟩) hbl).trans c3
            have hyc4 : ∀ z : After W, z.1.cell? ⟨b, off + 4, none⟩ = some (.int .i64 x.bp) := fun z => (z.2.cell (p := ⟨b, off + 4, none⟩) hbl).trans c4
            have hcl0 : ∀ z : After W, Calls Try.prog 25 #[.agg #[.string x.cat, .int .i64 x.day.y, .int .i64 x.day.m, .int .i64 x.day.d, .int .i64 x.bp]] z.1 fun e w' => e = .returned (.int .i64 n) ∧ ∃ y : After W, w' = y.1 := fun z => z.call ((refRow x _).mono fun e w' h => ⟨by rw [h.1, Hr.out], h.2⟩)
            refine wp_region_after (by kernel_rfl) (by kernel_rfl) ?_
            repeat (go_big_quiet_step (first | with_reducible exact hcl0 _))
            refine wpQuiet_nil ?_
            rintro w7 ⟨⟨w7x, c7⟩, hw7⟩
            change w7 = w7x at hw7
            subst hw7
            clear hyc0 hyc1 hyc2 hyc3 hyc4 hcl0
            go_wp2_with fail
            go_ret
            exact ⟨ret_bool Hq.out.symm, hbe.trans (c7.mono hbe.size)⟩
          · have Hq := hnx.out (by rw [Hx.out]; exact hr) rfl
            have Hr := Lib.hid hr
            have Hq2 := Lib.hid Hq
            clear hr Hq
            have hyc0 : ∀ z : After W, z.1.cell? ⟨b, off, none⟩ = some (.string x.cat) := fun z => (z.2.cell (p := ⟨b, off, none⟩) hbl).trans c0
            have hyc1 : ∀ z : After W, z.1.cell? ⟨b, off + 1, none⟩ = some (.int .i64 x.day.y) := fun z => (z.2.cell (p := ⟨b, off + 1, none⟩) hbl).trans c1
            have hyc2 : ∀ z : After W, z.1.cell? ⟨b, off + 2, none⟩ = some (.int .i64 x.day.m) := fun z => (z.2.cell (p := ⟨b, off + 2, none⟩) hbl).trans c2
            have hyc3 : ∀ z : After W, z.1.cell? ⟨b, off + 3, none⟩ = some (.int .i64 x.day.d) := fun z => (z.2.cell (p := ⟨b, off + 3, none⟩) hbl).trans c3
            have hyc4 : ∀ z : After W, z.1.cell? ⟨b, off + 4, none⟩ = some (.int .i64 x.bp) := fun z => (z.2.cell (p := ⟨b, off + 4, none⟩) hbl).trans c4
            have hcl0 : ∀ z : After W, Calls Try.prog 25 #[.agg #[.string x.cat, .int .i64 x.day.y, .int .i64 x.day.m, .int .i64 x.day.d, .int .i64 x.bp]] z.1 fun e w' => e = .returned (.int .i64 0) ∧ ∃ y : After W, w' = y.1 := fun z => z.call ((refRow x _).mono fun e w' h => ⟨by rw [h.1, Hr.out], h.2⟩)
            refine wp_region_after (by kernel_rfl) (by kernel_rfl) ?_
            repeat (go_big_quiet_step (first | with_reducible exact hcl0 _))
            refine wpQuiet_nil ?_
            rintro w7 ⟨⟨w7x, c7⟩, hw7⟩
            change w7 = w7x at hw7
            subst hw7
            clear hyc0 hyc1 hyc2 hyc3 hyc4 hcl0
            have hb7 := hbe.trans (c7.mono hbe.size)
            go_wp2_with fail
            go_roundw
            case rel => exact ⟨0 + 1, some l[0], by omega, by go_num, Hq2.out, .inr ⟨0, hlt, rfl, rfl, by show _ = _; rw [Hx.out]; exact Hr.out⟩, hb7⟩
            case measure => simp [intOf]; omega
        · obtain ⟨e0, e1, e2, e3, e4⟩ := rate5 hvr hjl
          have hw : IntKind.i64.wrap ((j : Int) + 1 - 1) = (j : Int) := by rw [IntKind.wrap_i64]; omega
          have hj0 : (0 : Int) ≤ (j : Int) := by omega
          have hjl2 : (j : Int) < (l.length : Int) := by omega
          have hry := (rowT_ok hrj.out).2.1
          obtain ⟨x, hx⟩ : ∃ x, l[j + 1] = x := ⟨_, rfl⟩
          obtain ⟨y, hy⟩ : ∃ y, l[j] = y := ⟨_, rfl⟩
          rw [hx] at c0 c1 c2 c3 c4
          rw [hy] at e0 e1 e2 e3 e4 hry
          have Hx := Lib.hid hx
          have Hy := Lib.hid hy
          have Hry := Lib.hid hry
          clear hx hy hv hvr hry hrj
          go_wp2_with fail
          obtain ⟨W, hW⟩ : ∃ W, W = wr := ⟨_, rfl⟩
          subst hW
          have hbe := hb
          have hbl := hbb
          clear hb
          have y0 := e0
          have y1 := e1
          have y2 := e2
          have y3 := e3
          have y4 := e4
          skip
          by_cases hr : rowT x = 0
          rotate_left
          · have Hq : Hid (rightT l = false) := hno.out (.inl (by (first | rw [Hx.out, Hy.out] | rw [Hx.out]); simpa using hr))
            obtain ⟨n, hn⟩ : ∃ n, n = rowT x := ⟨_, rfl⟩
            have Hr : Hid (rowT x = n) := hn.symm
            have n1 : (n == 0) = false := by rw [hn]; simpa using hr
            have n2 : (n != 0) = true := by rw [hn]; simpa using hr
            clear hr hn
            have hyc0 : ∀ z : After W, z.1.cell? ⟨b, off + (j + 1) * 5, none⟩ = some (.string x.cat) := fun z => (z.2.cell (p := ⟨b, off + (j + 1) * 5, none⟩) hbl).trans c0
            have hyc1 : ∀ z : After W, z.1.cell? ⟨b, off + (j + 1) * 5 + 1, none⟩ = some (.int .i64 x.day.y) := fun z => (z.2.cell (p := ⟨b, off + (j + 1) * 5 + 1, none⟩) hbl).trans c1
            have hyc2 : ∀ z : After W, z.1.cell? ⟨b, off + (j + 1) * 5 + 2, none⟩ = some (.int .i64 x.day.m) := fun z => (z.2.cell (p := ⟨b, off + (j + 1) * 5 + 2, none⟩) hbl).trans c2
            have hyc3 : ∀ z : After W, z.1.cell? ⟨b, off + (j + 1) * 5 + 3, none⟩ = some (.int .i64 x.day.d) := fun z => (z.2.cell (p := ⟨b, off + (j + 1) * 5 + 3, none⟩) hbl).trans c3
            have hyc4 : ∀ z : After W, z.1.cell? ⟨b, off + (j + 1) * 5 + 4, none⟩ = some (.int .i64 x.bp) := fun z => (z.2.cell (p := ⟨b, off + (j + 1) * 5 + 4, none⟩) hbl).trans c4
            have hyy0 : ∀ z : After W, z.1.cell? ⟨b, off + j * 5, none⟩ = some (.string y.cat) := fun z => (z.2.cell (p := ⟨b, off + j * 5, none⟩) hbl).trans y0
            have hyy1 : ∀ z : After W, z.1.cell? ⟨b, off + j * 5 + 1, none⟩ = some (.int .i64 y.day.y) := fun z => (z.2.cell (p := ⟨b, off + j * 5 + 1, none⟩) hbl).trans y1
            have hyy2 : ∀ z : After W, z.1.cell? ⟨b, off + j * 5 + 2, none⟩ = some (.int .i64 y.day.m) := fun z => (z.2.cell (p := ⟨b, off + j * 5 + 2, none⟩) hbl).trans y2
            have hyy3 : ∀ z : After W, z.1.cell? ⟨b, off + j * 5 + 3, none⟩ = some (.int .i64 y.day.d) := fun z => (z.2.cell (p := ⟨b, off + j * 5 + 3, none⟩) hbl).trans y3
            have hyy4 : ∀ z : After W, z.1.cell? ⟨b, off + j * 5 + 4, none⟩ = some (.int .i64 y.bp) := fun z => (z.2.cell (p := ⟨b, off + j * 5 + 4, none⟩) hbl).trans y4
            have hcl0 : ∀ z : After W, Calls Try.prog 25 #[.agg #[.string x.cat, .int .i64 x.day.y, .int .i64 x.day.m, .int .i64 x.day.d, .int .i64 x.bp]] z.1 fun e w' => e = .returned (.int .i64 n) ∧ ∃ y : After W, w' = y.1 := fun z => z.call ((refRow x _).mono fun e w' h => ⟨by rw [h.1, Hr.out], h.2⟩)
            refine wp_region_after (by kernel_rfl) (by kernel_rfl) ?_
            repeat (go_big_quiet_step (first | with_reducible exact hcl0 _))
            refine wpQuiet_nil ?_
            rintro w7 ⟨⟨w7x, c7⟩, hw7⟩
            change w7 = w7x at hw7
            subst hw7
            clear hyc0 hyc1 hyc2 hyc3 hyc4 hyy0 hyy1 hyy2 hyy3 hyy4 hcl0
            go_wp2_with fail
            go_ret
            exact ⟨ret_bool Hq.out.symm, hbe.trans (c7.mono hbe.size)⟩
          · cases ha : aheadT y x with
            | false =>
              have Hq : Hid (rightT l = false) := hno.out (.inr (by show aheadT _ _ = _; (first | rw [Hx.out, Hy.out] | rw [Hx.out]); exact ha))
              have Hr := Lib.hid hr
              have Ha := Lib.hid ha
              have hrx := (rowT_ok hr).2.1
              have Hrx := Lib.hid hrx
              clear hr ha hrx
              have hyc0 : ∀ z : After W, z.1.cell? ⟨b, off + (j + 1) * 5, none⟩ = some (.string x.cat) := fun z => (z.2.cell (p := ⟨b, off + (j + 1) * 5, none⟩) hbl).trans c0
              have hyc1 : ∀ z : After W, z.1.cell? ⟨b, off + (j + 1) * 5 + 1, none⟩ = some (.int .i64 x.day.y) := fun z => (z.2.cell (p := ⟨b, off + (j + 1) * 5 + 1, none⟩) hbl).trans c1
              have hyc2 : ∀ z : After W, z.1.cell? ⟨b, off + (j + 1) * 5 + 2, none⟩ = some (.int .i64 x.day.m) := fun z => (z.2.cell (p := ⟨b, off + (j + 1) * 5 + 2, none⟩) hbl).trans c2
              have hyc3 : ∀ z : After W, z.1.cell? ⟨b, off + (j + 1) * 5 + 3, none⟩ = some (.int .i64 x.day.d) := fun z => (z.2.cell (p := ⟨b, off + (j + 1) * 5 + 3, none⟩) hbl).trans c3
              have hyc4 : ∀ z : After W, z.1.cell? ⟨b, off + (j + 1) * 5 + 4, none⟩ = some (.int .i64 x.bp) := fun z => (z.2.cell (p := ⟨b, off + (j + 1) * 5 + 4, none⟩) hbl).trans c4
              have hyy0 : ∀ z : After W, z.1.cell? ⟨b, off + j * 5, none⟩ = some (.string y.cat) := fun z => (z.2.cell (p := ⟨b, off + j * 5, none⟩) hbl).trans y0
              have hyy1 : ∀ z : After W, z.1.cell? ⟨b, off + j * 5 + 1, none⟩ = some (.int .i64 y.day.y) := fun z => (z.2.cell (p := ⟨b, off + j * 5 + 1, none⟩) hbl).trans y1
              have hyy2 : ∀ z : After W, z.1.cell? ⟨b, off + j * 5 + 2, none⟩ = some (.int .i64 y.day.m) := fun z => (z.2.cell (p := ⟨b, off + j * 5 + 2, none⟩) hbl).trans y2
              have hyy3 : ∀ z : After W, z.1.cell? ⟨b, off + j * 5 + 3, none⟩ = some (.int .i64 y.day.d) := fun z => (z.2.cell (p := ⟨b, off + j * 5 + 3, none⟩) hbl).trans y3
              have hyy4 : ∀ z : After W, z.1.cell? ⟨b, off + j * 5 + 4, none⟩ = some (.int .i64 y.bp) := fun z => (z.2.cell (p := ⟨b, off + j * 5 + 4, none⟩) hbl).trans y4
              have hcl0 : ∀ z : After W, Calls Try.prog 25 #[.agg #[.string x.cat, .int .i64 x.day.y, .int .i64 x.day.m, .int .i64 x.day.d, .int .i64 x.bp]] z.1 fun e w' => e = .returned (.int .i64 0) ∧ ∃ y : After W, w' = y.1 := fun z => z.call ((refRow x _).mono fun e w' h => ⟨by rw [h.1, Hr.out], h.2⟩)
              have hcl1 : ∀ z : After W, Calls Try.prog 53 #[.agg #[.string y.cat, .int .i64 y.day.y, .int .i64 y.day.m, .int .i64 y.day.d, .int .i64 y.bp], .agg #[.string x.cat, .int .i64 x.day.y, .int .i64 x.day.m, .int .i64 x.day.d, .int .i64 x.bp]] z.1 fun e w' => e = .returned (.bool false) ∧ ∃ y : After W, w' = y.1 := fun z => z.call ((refBefore y x _ Hry.out Hrx.out).mono fun e w' h => ⟨by rw [h.1, Ha.out], h.2⟩)
              refine wp_region_after (by kernel_rfl) (by kernel_rfl) ?_
              repeat (go_big_quiet_step (first | with_reducible exact hcl0 _ | with_reducible exact hcl1 _))
              refine wpQuiet_nil ?_
              rintro w7 ⟨⟨w7x, c7⟩, hw7⟩
              change w7 = w7x at hw7
              subst hw7
              clear hyc0 hyc1 hyc2 hyc3 hyc4 hyy0 hyy1 hyy2 hyy3 hyy4 hcl0 hcl1
              go_wp2_with fail
              go_ret
              exact ⟨ret_bool Hq.out.symm, hbe.trans (c7.mono hbe.size)⟩
            | true =>
              have Hq := hnx.out (by (first | rw [Hx.out, Hy.out] | rw [Hx.out]); exact hr) (by show aheadT _ _ = _; (first | rw [Hx.out, Hy.out] | rw [Hx.out]); exact ha)
              have Hr := Lib.hid hr
              have Ha := Lib.hid ha
              have hrx := (rowT_ok hr).2.1
              have Hrx := Lib.hid hrx
              have Hq2 := Lib.hid Hq
              clear hr ha hrx Hq
              have hyc0 : ∀ z : After W, z.1.cell? ⟨b, off + (j + 1) * 5, none⟩ = some (.string x.cat) := fun z => (z.2.cell (p := ⟨b, off + (j + 1) * 5, none⟩) hbl).trans c0
              have hyc1 : ∀ z : After W, z.1.cell? ⟨b, off + (j + 1) * 5 + 1, none⟩ = some (.int .i64 x.day.y) := fun z => (z.2.cell (p := ⟨b, off + (j + 1) * 5 + 1, none⟩) hbl).trans c1
              have hyc2 : ∀ z : After W, z.1.cell? ⟨b, off + (j + 1) * 5 + 2, none⟩ = some (.int .i64 x.day.m) := fun z => (z.2.cell (p := ⟨b, off + (j + 1) * 5 + 2, none⟩) hbl).trans c2
              have hyc3 : ∀ z : After W, z.1.cell? ⟨b, off + (j + 1) * 5 + 3, none⟩ = some (.int .i64 x.day.d) := fun z => (z.2.cell (p := ⟨b, off + (j + 1) * 5 + 3, none⟩) hbl).trans c3
              have hyc4 : ∀ z : After W, z.1.cell? ⟨b, off + (j + 1) * 5 + 4, none⟩ = some (.int .i64 x.bp) := fun z => (z.2.cell (p := ⟨b, off + (j + 1) * 5 + 4, none⟩) hbl).trans c4
              have hyy0 : ∀ z : After W, z.1.cell? ⟨b, off + j * 5, none⟩ = some (.string y.cat) := fun z => (z.2.cell (p := ⟨b, off + j * 5, none⟩) hbl).trans y0
              have hyy1 : ∀ z : After W, z.1.cell? ⟨b, off + j * 5 + 1, none⟩ = some (.int .i64 y.day.y) := fun z => (z.2.cell (p := ⟨b, off + j * 5 + 1, none⟩) hbl).trans y1
              have hyy2 : ∀ z : After W, z.1.cell? ⟨b, off + j * 5 + 2, none⟩ = some (.int .i64 y.day.m) := fun z => (z.2.cell (p := ⟨b, off + j * 5 + 2, none⟩) hbl).trans y2
              have hyy3 : ∀ z : After W, z.1.cell? ⟨b, off + j * 5 + 3, none⟩ = some (.int .i64 y.day.d) := fun z => (z.2.cell (p := ⟨b, off + j * 5 + 3, none⟩) hbl).trans y3
              have hyy4 : ∀ z : After W, z.1.cell? ⟨b, off + j * 5 + 4, none⟩ = some (.int .i64 y.bp) := fun z => (z.2.cell (p := ⟨b, off + j * 5 + 4, none⟩) hbl).trans y4
              have hcl0 : ∀ z : After W, Calls Try.prog 25 #[.agg #[.string x.cat, .int .i64 x.day.y, .int .i64 x.day.m, .int .i64 x.day.d, .int .i64 x.bp]] z.1 fun e w' => e = .returned (.int .i64 0) ∧ ∃ y : After W, w' = y.1 := fun z => z.call ((refRow x _).mono fun e w' h => ⟨by rw [h.1, Hr.out], h.2⟩)
              have hcl1 : ∀ z : After W, Calls Try.prog 53 #[.agg #[.string y.cat, .int .i64 y.day.y, .int .i64 y.day.m, .int .i64 y.day.d, .int .i64 y.bp], .agg #[.string x.cat, .int .i64 x.day.y, .int .i64 x.day.m, .int .i64 x.day.d, .int .i64 x.bp]] z.1 fun e w' => e = .returned (.bool true) ∧ ∃ y : After W, w' = y.1 := fun z => z.call ((refBefore y x _ Hry.out Hrx.out).mono fun e w' h => ⟨by rw [h.1, Ha.out], h.2⟩)
              refine wp_region_after (by kernel_rfl) (by kernel_rfl) ?_
              repeat (go_big_quiet_step (first | with_reducible exact hcl0 _ | with_reducible exact hcl1 _))
              refine wpQuiet_nil ?_
              rintro w7 ⟨⟨w7x, c7⟩, hw7⟩
              change w7 = w7x at hw7
              subst hw7
              clear hyc0 hyc1 hyc2 hyc3 hyc4 hyy0 hyy1 hyy2 hyy3 hyy4 hcl0 hcl1
              have hb7 := hbe.trans (c7.mono hbe.size)
              go_wp2_with fail
              go_roundw
              case rel => exact ⟨j + 1 + 1, some l[j + 1], by omega, by go_num, Hq2.out, .inr ⟨j + 1, hlt, rfl, rfl, by show _ = _; (first | rw [Hx.out, Hy.out] | rw [Hx.out]); exact Hr.out⟩, hb7⟩
              case measure => simp [intOf]; omega
      · have Hq := Lib.hid (rightT_end hch.out (by omega) (by omega))
        have hi : ¬ (k : Int) < (l.length : Int) := by omega
        go_wp2_with fail
        go_ret
        exact ⟨ret_bool Hq.out.symm, hb⟩
end Go.Proofs.Ytpobhlnlnplbdaa
