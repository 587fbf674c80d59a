/- The walk of VatTells. -/
import Derived.Test.YtpobhlnlnplbdaaVatRuns
import Derived.Test.YtpobhlnlnplbdaaBookRate
import Derived.Deep.RegionHeld3
namespace Go.Proofs.Ytpobhlnlnplbdaa
open Go Go.RowKit BigFrame
attribute [local go_sem] After.same

@[reducible] def mkV7 : Rate := ⟨⟨#[]⟩, ⟨0, 0, 0⟩, 7⟩
set_option maxHeartbeats 8000000 in
set_option maxRecDepth 100000 in
theorem vatTells_walk (v : Value) (l : List Rate) (r : Rate) (d : Day) (w : World) (hv : Rd rateE w v l) :
    Calls Try.prog 4 #[v, .agg #[.string r.cat, .int .i64 r.day.y, .int .i64 r.day.m, .int .i64 r.day.d, .int .i64 r.bp], .agg #[.int .i64 d.y, .int .i64 d.m, .int .i64 d.d]] w fun e w' => e = .returned (.bool true) ∧ Below w.heap.size w w' := by
  obtain ⟨w0, hw0⟩ : ∃ w0, w0 = w := ⟨_, rfl⟩
  rw [← hw0] at hv ⊢
  clear hw0
  have b_0 := Below.refl w0.heap.size w0
  have hl_0 := hv
  clear hv
  go_enter Try.func4, Try.ntmps4
  have c1 : Below w0.heap.size w0 (w0.alloc (.cells #[.string r.cat, .int .i64 r.day.y, .int .i64 r.day.m, .int .i64 r.day.d, .int .i64 r.bp] 25)) := below_alloc w0 _
  have kr0 := Blk.new w0 #[.string r.cat, .int .i64 r.day.y, .int .i64 r.day.m, .int .i64 r.day.d, .int .i64 r.bp] 25
  have c2 := below_alloc (w0.alloc (.cells #[.string r.cat, .int .i64 r.day.y, .int .i64 r.day.m, .int .i64 r.day.d, .int .i64 r.bp] 25)) (.cells #[.int .i64 d.y, .int .i64 d.m, .int .i64 d.d] 23)
  have kd_1 := Blk.new (w0.alloc (.cells #[.string r.cat, .int .i64 r.day.y, .int .i64 r.day.m, .int .i64 r.day.d, .int .i64 r.bp] 25)) #[.int .i64 d.y, .int .i64 d.m, .int .i64 d.d] 23
  have hs2 : (w0.alloc (.cells #[.string r.cat, .int .i64 r.day.y, .int .i64 r.day.m, .int .i64 r.day.d, .int .i64 r.bp] 25)).heap.size = w0.heap.size + 1 := by simp
  rw [hs2] at kd_1
  have kr_1 := kr0.ext c2
  have b_1 := c1.trans (c2.mono c1.size)
  have hl_1 := (hl_0.ext c1).ext c2
  clear c1 c2 kr0 hs2 b_0 hl_0
  go_wp2_with fail
  generalize hw1 : (w0.alloc (.cells #[.string r.cat, .int .i64 r.day.y, .int .i64 r.day.m, .int .i64 r.day.d, .int .i64 r.bp] 25)).alloc (.cells #[.int .i64 d.y, .int .i64 d.m, .int .i64 d.d] 23) = w1 at *
  clear hw1
  with_reducible refine (vatFew _ l _ hl_1).mono ?_
  rintro e w' ⟨⟨u, rfl, hp1⟩, rfl⟩
  have n1 : (l.take 40).length ≤ 40 := by simp; omega
  generalize l.take 40 = l1 at *
  clear hl_1
  obtain ⟨p1, cap1, rfl⟩ := hp1.shape
  skip
  have hl_1 := hp1
  clear hp1
  go_wp2_with fail
  refine (roomyRate _ l1 mkV7 _ hl_1 (by omega)).mono ?_
  rintro e w2 ⟨gF, rfl, ownF, c2⟩
  have b_2 := b_1.trans (c2.mono b_1.size)
  have kr_2 := kr_1.ext c2
  have kd_2 := kd_1.ext c2
  have hl_2 := hl_1.ext c2
  clear b_1 kr_1 kd_1 hl_1
  clear c2
  have hF_2 := ownF.rd
  have sF := run_sub_to tRate (P := Try.prog) hF_2 .i64 (l1.length : Int) l1.length rfl (by rw [roomyL_length]; omega)
  have rO_2 := hF_2.sub 0 l1.length (Nat.zero_le _) (by rw [roomyL_length]; omega)
  rw [show ((roomyL l1 mkV7).drop 0).take (l1.length - 0) = l1 from by simp [roomyL], show rateE.sz = 5 from rfl] at rO_2
  generalize subV (.slice (some ⟨gF, 0, none⟩) (l1.length + 80) (l1.length + 80)) 0 l1.length 5 = vF at *
  clear ownF
  have y0 := kr_2.cell 0 _ rfl
  have d0 := kd_2.cell 0 _ rfl
  have d1 := kd_2.cell 1 _ rfl
  have d2 := kd_2.cell 2 _ rfl
  go_wp2_with fail
  with_reducible refine (vatFind vF l1 r.cat d _ rO_2).mono ?_
  rintro e w3 ⟨rfl, c3⟩
  have b_3 := b_2.trans (c3.mono b_2.size)
  have kr_3 := kr_2.ext c3
  have kd_3 := kd_2.ext c3
  have hl_3 := hl_2.ext c3
  have hF_3 := hF_2.ext c3
  have rO_3 := rO_2.ext c3
  clear b_2 kr_2 kd_2 hl_2 hF_2 rO_2
  clear y0 d0 d1 d2 sF
  clear c3
  have y0 := kr_3.cell 0 _ rfl
  have d0 := kd_3.cell 0 _ rfl
  have d1 := kd_3.cell 1 _ rfl
  have d2 := kd_3.cell 2 _ rfl
  go_wp2_with fail
  with_reducible refine (refFind _ l1 r.cat d _ hl_3).mono ?_
  rintro e w4 ⟨rfl, c4⟩
  have b_4 := b_3.trans (c4.mono b_3.size)
  have kr_4 := kr_3.ext c4
  have kd_4 := kd_3.ext c4
  have hl_4 := hl_3.ext c4
  have hF_4 := hF_3.ext c4
  have rO_4 := rO_3.ext c4
  clear b_3 kr_3 kd_3 hl_3 hF_3 rO_3
  clear y0 d0 d1 d2
  generalize findT l1 r.cat d = F at *
  obtain ⟨F1, F2⟩ := F
  clear c4
  go_wp2_with fail
  have hA := fun z => vatRow r z
  have hB := fun z => refRow r z
  generalize rowT r = n at hA hB
  have hC := fun (z : World) (h : Rd rateE z vF l1) => vatRight vF l1 z h
  have hD := fun (z : World) (h : Rd rateE z (.slice p1 l1.length cap1) l1) => refTable _ l1 z h
  generalize rightT l1 = rt at hC hD
  have hxkr_40 : ∀ z : After w4, z.1.cell? ⟨w0.heap.size, 0, none⟩ = some (.string r.cat) := fun z => (kr_4.ext z.2).cell 0 _ rfl
  have hxkr_41 : ∀ z : After w4, z.1.cell? ⟨w0.heap.size, 1, none⟩ = some (.int .i64 r.day.y) := fun z => (kr_4.ext z.2).cell 1 _ rfl
  have hxkr_42 : ∀ z : After w4, z.1.cell? ⟨w0.heap.size, 2, none⟩ = some (.int .i64 r.day.m) := fun z => (kr_4.ext z.2).cell 2 _ rfl
  have hxkr_43 : ∀ z : After w4, z.1.cell? ⟨w0.heap.size, 3, none⟩ = some (.int .i64 r.day.d) := fun z => (kr_4.ext z.2).cell 3 _ rfl
  have hxkr_44 : ∀ z : After w4, z.1.cell? ⟨w0.heap.size, 4, none⟩ = some (.int .i64 r.bp) := fun z => (kr_4.ext z.2).cell 4 _ rfl
  have hcl0 : ∀ z : After w4, Calls Try.prog 24 #[.agg #[.string r.cat, .int .i64 r.day.y, .int .i64 r.day.m, .int .i64 r.day.d, .int .i64 r.bp]] z.1 fun e w' => e = .returned (.int .i64 n) ∧ ∃ y : After w4, w' = y.1 := fun z => z.call (hA _)
  have hcl1 : ∀ z : After w4, Calls Try.prog 25 #[.agg #[.string r.cat, .int .i64 r.day.y, .int .i64 r.day.m, .int .i64 r.day.d, .int .i64 r.bp]] z.1 fun e w' => e = .returned (.int .i64 n) ∧ ∃ y : After w4, w' = y.1 := fun z => z.call (hB _)
  have hcl2 : ∀ z : After w4, Calls Try.prog 17 #[vF] z.1 fun e w' => e = .returned (.bool rt) ∧ ∃ y : After w4, w' = y.1 := fun z => z.call (hC _ (rO_4.ext z.2))
  have hcl3 : ∀ z : After w4, Calls Try.prog 26 #[.slice p1 l1.length cap1] z.1 fun e w' => e = .returned (.bool rt) ∧ ∃ y : After w4, w' = y.1 := fun z => z.call (hD _ (hl_4.ext z.2))
  have hcl4 : ∀ z : After w4, Calls Try.prog 27 #[.slice (some ⟨gF, 0, none⟩) (l1.length + 80) (l1.length + 80), .slice p1 l1.length cap1, .agg #[.string ⟨#[]⟩, .int .i64 0, .int .i64 0, .int .i64 0, .int .i64 7]] z.1 fun e w' => e = .returned (.bool true) ∧ ∃ y : After w4, w' = y.1 := fun z => z.call ((intactRate _ _ (roomyL l1 mkV7) l1 mkV7 _ (hF_4.ext z.2) (hl_4.ext z.2) (by omega)).mono fun e w' h => ⟨by rw [h.1, decide_eq_true rfl], h.2⟩)
  have hcl5 : ∀ z : After w4, Calls Try.prog 3 #[] z.1 fun e w' => e = .returned (.bool true) ∧ ∃ y : After w4, w' = y.1 := fun z => z.call (vatRuns_walk _)
  refine wp_region_after (by kernel_rfl) (by kernel_rfl) ?_
  repeat (go_big_quiet_step (first | with_reducible exact hcl0 _ | with_reducible exact hcl1 _ | with_reducible exact hcl2 _ | with_reducible exact hcl3 _ | with_reducible exact hcl4 _ | with_reducible exact hcl5 _))
  refine wpQuiet_nil ?_
  rintro w7 ⟨⟨w7x, c7⟩, hw7⟩
  change w7 = w7x at hw7
  subst hw7
  clear hxkr_40 hxkr_41 hxkr_42 hxkr_43 hxkr_44 hcl0 hcl1 hcl2 hcl3 hcl4 hcl5
  clear hA hB hC hD
  go_wp2_with fail
  go_ret
  exact ⟨rfl, b_4.trans (c7.mono b_4.size)⟩
end Go.Proofs.Ytpobhlnlnplbdaa
