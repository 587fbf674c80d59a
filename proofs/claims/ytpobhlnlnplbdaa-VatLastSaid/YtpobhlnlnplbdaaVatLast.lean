/- The walk of VatLast. -/
import Derived.Test.YtpobhlnlnplbdaaVatRuns
import Derived.Deep.RegionHeld3
import Derived.Deep.RegionWith
namespace Go.Proofs.Ytpobhlnlnplbdaa
open Go Go.RowKit BigFrame
attribute [local go_sem] After.same

set_option maxHeartbeats 8000000 in
set_option maxRecDepth 100000 in
theorem vatLast_walk (v : Value) (l : List Rate) (c : ByteArray) (d : Day) (w : World) (hv : Rd rateE w v l) :
    Calls Try.prog 8 #[v, .string c, .agg #[.int .i64 d.y, .int .i64 d.m, .int .i64 d.d]] w fun e w' => e = .returned (.bool true) ∧ Below w.heap.size w w' := by
  obtain ⟨w0, hw0⟩ : ∃ w0, w0 = w := ⟨_, rfl⟩
  rw [← hw0] at hv ⊢
  clear hw0
  have b_0 := Below.refl w0.heap.size w0
  have hl_0 := hv
  clear hv
  go_enter Try.func8, Try.ntmps8
  have c1 : Below w0.heap.size w0 (w0.alloc (.cells #[.int .i64 d.y, .int .i64 d.m, .int .i64 d.d] 23)) := below_alloc w0 _
  have b_1 := b_0.trans (c1.mono b_0.size)
  have hl_1 := hl_0.ext c1
  clear b_0 hl_0
  have kd_1 : Blk (w0.alloc (.cells #[.int .i64 d.y, .int .i64 d.m, .int .i64 d.d] 23)) w0.heap.size #[.int .i64 d.y, .int .i64 d.m, .int .i64 d.d] 23 := Blk.new _ _ _
  clear c1
  go_wp2_with fail
  generalize hw1 : w0.alloc (.cells #[.int .i64 d.y, .int .i64 d.m, .int .i64 d.d] 23) = w1 at *
  clear hw1
  with_reducible refine (vatTable _ l _ hl_1).mono ?_
  rintro e w2 ⟨⟨vt, rfl, ownT⟩, c2⟩
  clear hl_1
  have b_2 := b_1.trans (c2.mono b_1.size)
  have kd_2 := kd_1.ext c2
  clear b_1 kd_1
  clear c2
  have rT_2 := ownT.rd
  have hT := tabT_right l
  generalize tabT l = T at *
  have hrT := (rightV_iff T).2 hT
  have HrT := Lib.hid hrT
  have HT := Lib.hid hT
  have hT24 := hT.few
  clear ownT hrT hT
  obtain ⟨pt, ct, rfl⟩ := rT_2.shape
  have d0 := kd_2.cell 0 _ rfl
  have d1 := kd_2.cell 1 _ rfl
  have d2 := kd_2.cell 2 _ rfl
  go_wp2_with fail
  with_reducible refine (vatFind _ T c d _ rT_2).mono ?_
  rintro e w3 ⟨rfl, c3⟩
  have b_3 := b_2.trans (c3.mono b_2.size)
  have kd_3 := kd_2.ext c3
  have rT_3 := rT_2.ext c3
  clear b_2 kd_2 rT_2
  clear d0 d1 d2
  clear c3
  have BB := Lib.hid b_3
  have RT3 := Lib.hid rT_3
  have KD := Lib.hid kd_3
  clear b_3 rT_3 kd_3
  cases hd : rightD d with
  | false =>
    rw [find_none (.inr hd)]
    have Hd := Lib.hid hd
    clear hd
    go_wp2_with fail
    go_loopw [10, 11] (fun z i wr => ∃ k : Nat, k ≤ T.length ∧ z = .int .i64 (-1) ∧ i = .int .i64 k ∧ Below w3.heap.size w3 wr) (fun _ i _ => T.length - (intOf i).toNat)
    case atStart => exact ⟨0, by omega, rfl, rfl, Below.refl _ _⟩
    case round =>
      obtain ⟨k, hk, rfl, rfl, hb⟩ := hrel
      by_cases hlt : k < T.length
      · skip
        obtain ⟨b, off, rfl⟩ := Rd.blk RT3.out (by omega)
        have hvr := RT3.out.ext hb
        obtain ⟨c0, c1, c2, c3, c4⟩ := rate5 hvr hlt
        have kd := KD.out.ext hb
        have hi : (k : Int) < (T.length : Int) := by omega
        have hi0 : (0 : Int) ≤ (k : Int) := by omega
        have hbl : b < wr.heap.size := World.block_lt_of_cell? wr _ c0
        clear hvr
        generalize T[k] = x at *
        obtain ⟨W, hW⟩ : ∃ W, W = wr := ⟨_, rfl⟩
        subst hW
        cases he : eqS x.cat c with
        | false =>
          have he2 : (x.cat.toList == c.toList) = false := he
          clear he
          go_wp2_with fail
          have hxkd0 : ∀ z : After W, z.1.cell? ⟨w0.heap.size, 0, none⟩ = some (.int .i64 d.y) := fun z => (kd.ext z.2).cell 0 _ rfl
          have hxkd1 : ∀ z : After W, z.1.cell? ⟨w0.heap.size, 1, none⟩ = some (.int .i64 d.m) := fun z => (kd.ext z.2).cell 1 _ rfl
          have hxkd2 : ∀ z : After W, z.1.cell? ⟨w0.heap.size, 2, none⟩ = some (.int .i64 d.d) := fun z => (kd.ext z.2).cell 2 _ rfl
          have hyc0 : ∀ z : After W, z.1.cell? ⟨b, off + k * 5, none⟩ = some (.string x.cat) := fun z => (z.2.cell (p := ⟨b, off + k * 5, none⟩) hbl).trans c0
          have hyc1 : ∀ z : After W, z.1.cell? ⟨b, off + k * 5 + 1, none⟩ = some (.int .i64 x.day.y) := fun z => (z.2.cell (p := ⟨b, off + k * 5 + 1, none⟩) hbl).trans c1
          have hyc2 : ∀ z : After W, z.1.cell? ⟨b, off + k * 5 + 2, none⟩ = some (.int .i64 x.day.m) := fun z => (z.2.cell (p := ⟨b, off + k * 5 + 2, none⟩) hbl).trans c2
          have hyc3 : ∀ z : After W, z.1.cell? ⟨b, off + k * 5 + 3, none⟩ = some (.int .i64 x.day.d) := fun z => (z.2.cell (p := ⟨b, off + k * 5 + 3, none⟩) hbl).trans c3
          have hyc4 : ∀ z : After W, z.1.cell? ⟨b, off + k * 5 + 4, none⟩ = some (.int .i64 x.bp) := fun z => (z.2.cell (p := ⟨b, off + k * 5 + 4, none⟩) hbl).trans c4
          refine wp_region_after (by kernel_rfl) (by kernel_rfl) ?_
          repeat (go_big_quiet_step (fail))
          refine wpQuiet_nil ?_
          rintro w7 ⟨⟨w7x, c7⟩, hw7⟩
          change w7 = w7x at hw7
          subst hw7
          clear hxkd0 hxkd1 hxkd2 hyc0 hyc1 hyc2 hyc3 hyc4
          have hb7 := hb.trans (c7.mono hb.size)
          go_wp2_with fail
          go_roundw
          case rel => exact ⟨k + 1, by omega, rfl, by go_num, hb7⟩
          case measure => simp [intOf]; omega
        | true =>
          have he2 : (x.cat.toList == c.toList) = true := he
          clear he
          go_wp2_with fail
          have hxkd0 : ∀ z : After W, z.1.cell? ⟨w0.heap.size, 0, none⟩ = some (.int .i64 d.y) := fun z => (kd.ext z.2).cell 0 _ rfl
          have hxkd1 : ∀ z : After W, z.1.cell? ⟨w0.heap.size, 1, none⟩ = some (.int .i64 d.m) := fun z => (kd.ext z.2).cell 1 _ rfl
          have hxkd2 : ∀ z : After W, z.1.cell? ⟨w0.heap.size, 2, none⟩ = some (.int .i64 d.d) := fun z => (kd.ext z.2).cell 2 _ rfl
          have hyc0 : ∀ z : After W, z.1.cell? ⟨b, off + k * 5, none⟩ = some (.string x.cat) := fun z => (z.2.cell (p := ⟨b, off + k * 5, none⟩) hbl).trans c0
          have hyc1 : ∀ z : After W, z.1.cell? ⟨b, off + k * 5 + 1, none⟩ = some (.int .i64 x.day.y) := fun z => (z.2.cell (p := ⟨b, off + k * 5 + 1, none⟩) hbl).trans c1
          have hyc2 : ∀ z : After W, z.1.cell? ⟨b, off + k * 5 + 2, none⟩ = some (.int .i64 x.day.m) := fun z => (z.2.cell (p := ⟨b, off + k * 5 + 2, none⟩) hbl).trans c2
          have hyc3 : ∀ z : After W, z.1.cell? ⟨b, off + k * 5 + 3, none⟩ = some (.int .i64 x.day.d) := fun z => (z.2.cell (p := ⟨b, off + k * 5 + 3, none⟩) hbl).trans c3
          have hyc4 : ∀ z : After W, z.1.cell? ⟨b, off + k * 5 + 4, none⟩ = some (.int .i64 x.bp) := fun z => (z.2.cell (p := ⟨b, off + k * 5 + 4, none⟩) hbl).trans c4
          have hcl0 : ∀ z : After W, Calls Try.prog 32 #[.agg #[.int .i64 d.y, .int .i64 d.m, .int .i64 d.d]] z.1 fun e w' => e = .returned (.bool false) ∧ ∃ y : After W, w' = y.1 := fun z => z.call ((refRightD d _).mono fun e w' h => ⟨by rw [h.1, Hd.out], h.2⟩)
          refine wp_region_after (by kernel_rfl) (by kernel_rfl) ?_
          repeat (go_big_quiet_step (first | with_reducible exact hcl0 _))
          refine wpQuiet_nil ?_
          rintro w7 ⟨⟨w7x, c7⟩, hw7⟩
          change w7 = w7x at hw7
          subst hw7
          clear hxkd0 hxkd1 hxkd2 hyc0 hyc1 hyc2 hyc3 hyc4 hcl0
          have hb7 := hb.trans (c7.mono hb.size)
          go_wp2_with fail
          go_roundw
          case rel => exact ⟨k + 1, by omega, rfl, by go_num, hb7⟩
          case measure => simp [intOf]; omega
      · have hi : ¬ (k : Int) < (T.length : Int) := by omega
        go_wp2_with fail
        with_reducible refine (vatRuns_walk _).mono ?_
        rintro e w9 ⟨rfl, c9⟩
        go_wp2_with fail
        go_ret
        exact ⟨rfl, BB.out.trans ((hb.trans (c9.mono hb.size)).mono BB.out.size)⟩
  | true =>
    rw [find_some HrT.out hd]
    have Hd := Lib.hid hd
    clear hd
    obtain ⟨F, hF⟩ : ∃ F, F = lastT c d (0, false) T := ⟨_, rfl⟩
    rw [← hF]
    have HF := Lib.hid hF
    clear hF
    have hdd := fun w => refDays d w
    generalize hdd0 : daysD d = dd at hdd
    have Hdd := Lib.hid hdd0
    have Hdc := Lib.hid hdd
    clear hdd0 hdd
    go_wp2_with fail
    go_loopw [10, 11] (fun z i wr => ∃ k : Nat, k ≤ T.length ∧ i = .int .i64 k ∧ ((z = .int .i64 (-1) ∧ Hid (lastT c d (0, false) (T.take k) = (0, false))) ∨ ∃ (j : Nat) (h : j < T.length), j < k ∧ z = .int .i64 j ∧ Hid (lastT c d (0, false) (T.take k) = (T[j].bp, true)) ∧ Hid (hitT c d T[j] = true)) ∧ Below w3.heap.size w3 wr) (fun _ i _ => T.length - (intOf i).toNat)
    case atStart => exact ⟨0, by omega, rfl, .inl ⟨rfl, rfl⟩, Below.refl _ _⟩
    case round =>
      obtain ⟨k, hk, rfl, hz, hb⟩ := hrel
      by_cases hlt : k < T.length
      · skip
        obtain ⟨b, off, rfl⟩ := Rd.blk RT3.out (by omega)
        have hvr := RT3.out.ext hb
        obtain ⟨c0, c1, c2, c3, c4⟩ := rate5 hvr hlt
        have kd := KD.out.ext hb
        have hi : (k : Int) < (T.length : Int) := by omega
        have hi0 : (0 : Int) ≤ (k : Int) := by omega
        have hbl : b < wr.heap.size := World.block_lt_of_cell? wr _ c0
        have hrx := (rowT_ok (HT.out.good T[k] (List.getElem_mem hlt))).2.1
        have hyes : Hid (hitT c d T[k] = true → lastT c d (0, false) (T.take (k + 1)) = (T[k].bp, true)) := fun h => by rw [lastT_take hlt, if_pos h]
        have hno : Hid (hitT c d T[k] = false → lastT c d (0, false) (T.take (k + 1)) = lastT c d (0, false) (T.take k)) := fun h => by rw [lastT_take hlt, if_neg (by rw [h]; simp)]
        have hlat : Hid (∀ (j : Nat) (h : j < T.length), j < k → hitT c d T[j] = true → hitT c d T[k] = true → daysD T[j].day < daysD T[k].day) := fun j h hj a1 a2 => hit_later HT.out h hlt hj a1 a2
        obtain ⟨x, hx⟩ : ∃ x, T[k] = x := ⟨_, rfl⟩
        have Hx := Lib.hid hx
        rw [hx] at c0 c1 c2 c3 c4 hrx hyes hno hlat
        clear hx
        have Hrx := Lib.hid hrx
        clear hrx
        have hdx := fun w => refDays x.day w
        generalize hdx0 : daysD x.day = dx at hdx hlat
        have Hdx := Lib.hid hdx0
        clear hdx0
        obtain ⟨W, hW⟩ : ∃ W, W = wr := ⟨_, rfl⟩
        subst hW
        rcases hz with hz | ⟨j, hjl, hjk, rfl, hq, hh⟩
        · skip
          obtain ⟨rfl, hq⟩ := hz
          clear hvr hlat
          cases he : eqS x.cat c with
          | false =>
            have he2 : (x.cat.toList == c.toList) = false := he
            have Hs : Hid (lastT c d (0, false) (T.take (k + 1)) = (0, false)) := (hno.out (hitT_cat he)).trans hq.out
            clear he hyes hno
            go_wp2_with fail
            have hxkd0 : ∀ z : After W, z.1.cell? ⟨w0.heap.size, 0, none⟩ = some (.int .i64 d.y) := fun z => (kd.ext z.2).cell 0 _ rfl
            have hxkd1 : ∀ z : After W, z.1.cell? ⟨w0.heap.size, 1, none⟩ = some (.int .i64 d.m) := fun z => (kd.ext z.2).cell 1 _ rfl
            have hxkd2 : ∀ z : After W, z.1.cell? ⟨w0.heap.size, 2, none⟩ = some (.int .i64 d.d) := fun z => (kd.ext z.2).cell 2 _ rfl
            have hyc0 : ∀ z : After W, z.1.cell? ⟨b, off + k * 5, none⟩ = some (.string x.cat) := fun z => (z.2.cell (p := ⟨b, off + k * 5, none⟩) hbl).trans c0
            have hyc1 : ∀ z : After W, z.1.cell? ⟨b, off + k * 5 + 1, none⟩ = some (.int .i64 x.day.y) := fun z => (z.2.cell (p := ⟨b, off + k * 5 + 1, none⟩) hbl).trans c1
            have hyc2 : ∀ z : After W, z.1.cell? ⟨b, off + k * 5 + 2, none⟩ = some (.int .i64 x.day.m) := fun z => (z.2.cell (p := ⟨b, off + k * 5 + 2, none⟩) hbl).trans c2
            have hyc3 : ∀ z : After W, z.1.cell? ⟨b, off + k * 5 + 3, none⟩ = some (.int .i64 x.day.d) := fun z => (z.2.cell (p := ⟨b, off + k * 5 + 3, none⟩) hbl).trans c3
            have hyc4 : ∀ z : After W, z.1.cell? ⟨b, off + k * 5 + 4, none⟩ = some (.int .i64 x.bp) := fun z => (z.2.cell (p := ⟨b, off + k * 5 + 4, none⟩) hbl).trans c4
            refine wp_region_after (by kernel_rfl) (by kernel_rfl) ?_
            repeat (go_big_quiet_step (fail))
            refine wpQuiet_nil ?_
            rintro w7 ⟨⟨w7x, c7⟩, hw7⟩
            change w7 = w7x at hw7
            subst hw7
            clear hxkd0 hxkd1 hxkd2 hyc0 hyc1 hyc2 hyc3 hyc4
            have hb7 := hb.trans (c7.mono hb.size)
            go_wp2_with fail
            go_roundw
            case rel => exact ⟨k + 1, by omega, by go_num, .inl ⟨rfl, Hs⟩, hb7⟩
            case measure => simp [intOf]; omega
          | true =>
            have he2 : (x.cat.toList == c.toList) = true := he
            have hh2 := hitT_days he Hd.out Hrx.out
            rw [Hdx.out, Hdd.out] at hh2
            have HH := Lib.hid hh2
            have hdd := Hdc.out
            clear he hh2
            cases hbf : decide (dx ≤ dd) with
            | false =>
              have Hs : Hid (lastT c d (0, false) (T.take (k + 1)) = (0, false)) := (hno.out (by rw [HH.out, hbf])).trans hq.out
              clear hyes hno
              go_wp2_with fail
              have hxkd0 : ∀ z : After W, z.1.cell? ⟨w0.heap.size, 0, none⟩ = some (.int .i64 d.y) := fun z => (kd.ext z.2).cell 0 _ rfl
              have hxkd1 : ∀ z : After W, z.1.cell? ⟨w0.heap.size, 1, none⟩ = some (.int .i64 d.m) := fun z => (kd.ext z.2).cell 1 _ rfl
              have hxkd2 : ∀ z : After W, z.1.cell? ⟨w0.heap.size, 2, none⟩ = some (.int .i64 d.d) := fun z => (kd.ext z.2).cell 2 _ rfl
              have hyc0 : ∀ z : After W, z.1.cell? ⟨b, off + k * 5, none⟩ = some (.string x.cat) := fun z => (z.2.cell (p := ⟨b, off + k * 5, none⟩) hbl).trans c0
              have hyc1 : ∀ z : After W, z.1.cell? ⟨b, off + k * 5 + 1, none⟩ = some (.int .i64 x.day.y) := fun z => (z.2.cell (p := ⟨b, off + k * 5 + 1, none⟩) hbl).trans c1
              have hyc2 : ∀ z : After W, z.1.cell? ⟨b, off + k * 5 + 2, none⟩ = some (.int .i64 x.day.m) := fun z => (z.2.cell (p := ⟨b, off + k * 5 + 2, none⟩) hbl).trans c2
              have hyc3 : ∀ z : After W, z.1.cell? ⟨b, off + k * 5 + 3, none⟩ = some (.int .i64 x.day.d) := fun z => (z.2.cell (p := ⟨b, off + k * 5 + 3, none⟩) hbl).trans c3
              have hyc4 : ∀ z : After W, z.1.cell? ⟨b, off + k * 5 + 4, none⟩ = some (.int .i64 x.bp) := fun z => (z.2.cell (p := ⟨b, off + k * 5 + 4, none⟩) hbl).trans c4
              have hcl0 : ∀ z : After W, Calls Try.prog 32 #[.agg #[.int .i64 d.y, .int .i64 d.m, .int .i64 d.d]] z.1 fun e w' => e = .returned (.bool true) ∧ ∃ y : After W, w' = y.1 := fun z => z.call ((refRightD d _).mono fun e w' h => ⟨by rw [h.1, Hd.out], h.2⟩)
              have hcl1 : ∀ z : After W, Calls Try.prog 33 #[.agg #[.int .i64 d.y, .int .i64 d.m, .int .i64 d.d]] z.1 fun e w' => e = .returned (.int .i64 dd) ∧ ∃ y : After W, w' = y.1 := fun z => z.call (hdd _)
              have hcl2 : ∀ z : After W, Calls Try.prog 33 #[.agg #[.int .i64 x.day.y, .int .i64 x.day.m, .int .i64 x.day.d]] z.1 fun e w' => e = .returned (.int .i64 dx) ∧ ∃ y : After W, w' = y.1 := fun z => z.call (hdx _)
              refine wp_region_after (by kernel_rfl) (by kernel_rfl) ?_
              repeat (go_big_quiet_step (first | with_reducible exact hcl0 _ | with_reducible exact hcl1 _ | with_reducible exact hcl2 _))
              refine wpQuiet_nil ?_
              rintro w7 ⟨⟨w7x, c7⟩, hw7⟩
              change w7 = w7x at hw7
              subst hw7
              clear hxkd0 hxkd1 hxkd2 hyc0 hyc1 hyc2 hyc3 hyc4 hcl0 hcl1 hcl2
              have hb7 := hb.trans (c7.mono hb.size)
              go_wp2_with fail
              go_roundw
              case rel => exact ⟨k + 1, by omega, by go_num, .inl ⟨rfl, Hs⟩, hb7⟩
              case measure => simp [intOf]; omega
            | true =>
              have hht : hitT c d x = true := by rw [HH.out, hbf]
              have Hs : Hid (lastT c d (0, false) (T.take (k + 1)) = (T[k].bp, true)) := by show _ = _; rw [Hx.out]; exact hyes.out hht
              have Hht : Hid (hitT c d T[k] = true) := by show _ = _; rw [Hx.out]; exact hht
              clear hyes hno hht
              go_wp2_with fail
              have hxkd0 : ∀ z : After W, z.1.cell? ⟨w0.heap.size, 0, none⟩ = some (.int .i64 d.y) := fun z => (kd.ext z.2).cell 0 _ rfl
              have hxkd1 : ∀ z : After W, z.1.cell? ⟨w0.heap.size, 1, none⟩ = some (.int .i64 d.m) := fun z => (kd.ext z.2).cell 1 _ rfl
              have hxkd2 : ∀ z : After W, z.1.cell? ⟨w0.heap.size, 2, none⟩ = some (.int .i64 d.d) := fun z => (kd.ext z.2).cell 2 _ rfl
              have hyc0 : ∀ z : After W, z.1.cell? ⟨b, off + k * 5, none⟩ = some (.string x.cat) := fun z => (z.2.cell (p := ⟨b, off + k * 5, none⟩) hbl).trans c0
              have hyc1 : ∀ z : After W, z.1.cell? ⟨b, off + k * 5 + 1, none⟩ = some (.int .i64 x.day.y) := fun z => (z.2.cell (p := ⟨b, off + k * 5 + 1, none⟩) hbl).trans c1
              have hyc2 : ∀ z : After W, z.1.cell? ⟨b, off + k * 5 + 2, none⟩ = some (.int .i64 x.day.m) := fun z => (z.2.cell (p := ⟨b, off + k * 5 + 2, none⟩) hbl).trans c2
              have hyc3 : ∀ z : After W, z.1.cell? ⟨b, off + k * 5 + 3, none⟩ = some (.int .i64 x.day.d) := fun z => (z.2.cell (p := ⟨b, off + k * 5 + 3, none⟩) hbl).trans c3
              have hyc4 : ∀ z : After W, z.1.cell? ⟨b, off + k * 5 + 4, none⟩ = some (.int .i64 x.bp) := fun z => (z.2.cell (p := ⟨b, off + k * 5 + 4, none⟩) hbl).trans c4
              have hcl0 : ∀ z : After W, Calls Try.prog 32 #[.agg #[.int .i64 d.y, .int .i64 d.m, .int .i64 d.d]] z.1 fun e w' => e = .returned (.bool true) ∧ ∃ y : After W, w' = y.1 := fun z => z.call ((refRightD d _).mono fun e w' h => ⟨by rw [h.1, Hd.out], h.2⟩)
              have hcl1 : ∀ z : After W, Calls Try.prog 33 #[.agg #[.int .i64 d.y, .int .i64 d.m, .int .i64 d.d]] z.1 fun e w' => e = .returned (.int .i64 dd) ∧ ∃ y : After W, w' = y.1 := fun z => z.call (hdd _)
              have hcl2 : ∀ z : After W, Calls Try.prog 33 #[.agg #[.int .i64 x.day.y, .int .i64 x.day.m, .int .i64 x.day.d]] z.1 fun e w' => e = .returned (.int .i64 dx) ∧ ∃ y : After W, w' = y.1 := fun z => z.call (hdx _)
              refine wp_region_after (by kernel_rfl) (by kernel_rfl) ?_
              repeat (go_big_quiet_step (first | with_reducible exact hcl0 _ | with_reducible exact hcl1 _ | with_reducible exact hcl2 _))
              refine wpQuiet_nil ?_
              rintro w7 ⟨⟨w7x, c7⟩, hw7⟩
              change w7 = w7x at hw7
              subst hw7
              clear hxkd0 hxkd1 hxkd2 hyc0 hyc1 hyc2 hyc3 hyc4 hcl0 hcl1 hcl2
              have hb7 := hb.trans (c7.mono hb.size)
              go_wp2_with fail
              go_roundw
              case rel => exact ⟨k + 1, by omega, by go_num, .inr ⟨k, hlt, by omega, rfl, Hs, Hht⟩, hb7⟩
              case measure => simp [intOf]; omega
        · skip
          obtain ⟨e0, e1, e2, e3, e4⟩ := rate5 hvr hjl
          have hj0 : (0 : Int) ≤ (j : Int) := by omega
          have hjn : decide ((j : Int) < 0) = false := by simp
          have hjl2 : (j : Int) < (T.length : Int) := by omega
          have hry := (rowT_ok (HT.out.good T[j] (List.getElem_mem hjl))).2.1
          have hlat2 : Hid (hitT c d x = true → daysD T[j].day < dx) := fun h => hlat.out j hjl hjk hh.out h
          obtain ⟨y, hy⟩ : ∃ y, T[j] = y := ⟨_, rfl⟩
          have Hy := Lib.hid hy
          rw [hy] at e0 e1 e2 e3 e4 hry hlat2
          clear hy
          have hdy := fun w => refDays y.day w
          generalize hdy0 : daysD y.day = dy at hdy hlat2
          clear hdy0 hry
          clear hvr hlat
          cases he : eqS x.cat c with
          | false =>
            have he2 : (x.cat.toList == c.toList) = false := he
            have Hs : Hid (lastT c d (0, false) (T.take (k + 1)) = (T[j].bp, true)) := (hno.out (hitT_cat he)).trans hq.out
            clear he hyes hno
            clear hlat2
            go_wp2_with fail
            have hxkd0 : ∀ z : After W, z.1.cell? ⟨w0.heap.size, 0, none⟩ = some (.int .i64 d.y) := fun z => (kd.ext z.2).cell 0 _ rfl
            have hxkd1 : ∀ z : After W, z.1.cell? ⟨w0.heap.size, 1, none⟩ = some (.int .i64 d.m) := fun z => (kd.ext z.2).cell 1 _ rfl
            have hxkd2 : ∀ z : After W, z.1.cell? ⟨w0.heap.size, 2, none⟩ = some (.int .i64 d.d) := fun z => (kd.ext z.2).cell 2 _ rfl
            have hyc0 : ∀ z : After W, z.1.cell? ⟨b, off + k * 5, none⟩ = some (.string x.cat) := fun z => (z.2.cell (p := ⟨b, off + k * 5, none⟩) hbl).trans c0
            have hyc1 : ∀ z : After W, z.1.cell? ⟨b, off + k * 5 + 1, none⟩ = some (.int .i64 x.day.y) := fun z => (z.2.cell (p := ⟨b, off + k * 5 + 1, none⟩) hbl).trans c1
            have hyc2 : ∀ z : After W, z.1.cell? ⟨b, off + k * 5 + 2, none⟩ = some (.int .i64 x.day.m) := fun z => (z.2.cell (p := ⟨b, off + k * 5 + 2, none⟩) hbl).trans c2
            have hyc3 : ∀ z : After W, z.1.cell? ⟨b, off + k * 5 + 3, none⟩ = some (.int .i64 x.day.d) := fun z => (z.2.cell (p := ⟨b, off + k * 5 + 3, none⟩) hbl).trans c3
            have hyc4 : ∀ z : After W, z.1.cell? ⟨b, off + k * 5 + 4, none⟩ = some (.int .i64 x.bp) := fun z => (z.2.cell (p := ⟨b, off + k * 5 + 4, none⟩) hbl).trans c4
            have hye0 : ∀ z : After W, z.1.cell? ⟨b, off + j * 5, none⟩ = some (.string y.cat) := fun z => (z.2.cell (p := ⟨b, off + j * 5, none⟩) hbl).trans e0
            have hye1 : ∀ z : After W, z.1.cell? ⟨b, off + j * 5 + 1, none⟩ = some (.int .i64 y.day.y) := fun z => (z.2.cell (p := ⟨b, off + j * 5 + 1, none⟩) hbl).trans e1
            have hye2 : ∀ z : After W, z.1.cell? ⟨b, off + j * 5 + 2, none⟩ = some (.int .i64 y.day.m) := fun z => (z.2.cell (p := ⟨b, off + j * 5 + 2, none⟩) hbl).trans e2
            have hye3 : ∀ z : After W, z.1.cell? ⟨b, off + j * 5 + 3, none⟩ = some (.int .i64 y.day.d) := fun z => (z.2.cell (p := ⟨b, off + j * 5 + 3, none⟩) hbl).trans e3
            have hye4 : ∀ z : After W, z.1.cell? ⟨b, off + j * 5 + 4, none⟩ = some (.int .i64 y.bp) := fun z => (z.2.cell (p := ⟨b, off + j * 5 + 4, none⟩) hbl).trans e4
            refine wp_region_after (by kernel_rfl) (by kernel_rfl) ?_
            repeat (go_big_quiet_step (fail))
            refine wpQuiet_nil ?_
            rintro w7 ⟨⟨w7x, c7⟩, hw7⟩
            change w7 = w7x at hw7
            subst hw7
            clear hxkd0 hxkd1 hxkd2 hyc0 hyc1 hyc2 hyc3 hyc4 hye0 hye1 hye2 hye3 hye4
            have hb7 := hb.trans (c7.mono hb.size)
            go_wp2_with fail
            go_roundw
            case rel => exact ⟨k + 1, by omega, by go_num, .inr ⟨j, hjl, by omega, rfl, Hs, hh⟩, hb7⟩
            case measure => simp [intOf]; omega
          | true =>
            have he2 : (x.cat.toList == c.toList) = true := he
            have hh2 := hitT_days he Hd.out Hrx.out
            rw [Hdx.out, Hdd.out] at hh2
            have HH := Lib.hid hh2
            have hdd := Hdc.out
            clear he hh2
            cases hbf : decide (dx ≤ dd) with
            | false =>
              have Hs : Hid (lastT c d (0, false) (T.take (k + 1)) = (T[j].bp, true)) := (hno.out (by rw [HH.out, hbf])).trans hq.out
              clear hyes hno
              clear hlat2
              go_wp2_with fail
              have hxkd0 : ∀ z : After W, z.1.cell? ⟨w0.heap.size, 0, none⟩ = some (.int .i64 d.y) := fun z => (kd.ext z.2).cell 0 _ rfl
              have hxkd1 : ∀ z : After W, z.1.cell? ⟨w0.heap.size, 1, none⟩ = some (.int .i64 d.m) := fun z => (kd.ext z.2).cell 1 _ rfl
              have hxkd2 : ∀ z : After W, z.1.cell? ⟨w0.heap.size, 2, none⟩ = some (.int .i64 d.d) := fun z => (kd.ext z.2).cell 2 _ rfl
              have hyc0 : ∀ z : After W, z.1.cell? ⟨b, off + k * 5, none⟩ = some (.string x.cat) := fun z => (z.2.cell (p := ⟨b, off + k * 5, none⟩) hbl).trans c0
              have hyc1 : ∀ z : After W, z.1.cell? ⟨b, off + k * 5 + 1, none⟩ = some (.int .i64 x.day.y) := fun z => (z.2.cell (p := ⟨b, off + k * 5 + 1, none⟩) hbl).trans c1
              have hyc2 : ∀ z : After W, z.1.cell? ⟨b, off + k * 5 + 2, none⟩ = some (.int .i64 x.day.m) := fun z => (z.2.cell (p := ⟨b, off + k * 5 + 2, none⟩) hbl).trans c2
              have hyc3 : ∀ z : After W, z.1.cell? ⟨b, off + k * 5 + 3, none⟩ = some (.int .i64 x.day.d) := fun z => (z.2.cell (p := ⟨b, off + k * 5 + 3, none⟩) hbl).trans c3
              have hyc4 : ∀ z : After W, z.1.cell? ⟨b, off + k * 5 + 4, none⟩ = some (.int .i64 x.bp) := fun z => (z.2.cell (p := ⟨b, off + k * 5 + 4, none⟩) hbl).trans c4
              have hye0 : ∀ z : After W, z.1.cell? ⟨b, off + j * 5, none⟩ = some (.string y.cat) := fun z => (z.2.cell (p := ⟨b, off + j * 5, none⟩) hbl).trans e0
              have hye1 : ∀ z : After W, z.1.cell? ⟨b, off + j * 5 + 1, none⟩ = some (.int .i64 y.day.y) := fun z => (z.2.cell (p := ⟨b, off + j * 5 + 1, none⟩) hbl).trans e1
              have hye2 : ∀ z : After W, z.1.cell? ⟨b, off + j * 5 + 2, none⟩ = some (.int .i64 y.day.m) := fun z => (z.2.cell (p := ⟨b, off + j * 5 + 2, none⟩) hbl).trans e2
              have hye3 : ∀ z : After W, z.1.cell? ⟨b, off + j * 5 + 3, none⟩ = some (.int .i64 y.day.d) := fun z => (z.2.cell (p := ⟨b, off + j * 5 + 3, none⟩) hbl).trans e3
              have hye4 : ∀ z : After W, z.1.cell? ⟨b, off + j * 5 + 4, none⟩ = some (.int .i64 y.bp) := fun z => (z.2.cell (p := ⟨b, off + j * 5 + 4, none⟩) hbl).trans e4
              have hcl0 : ∀ z : After W, Calls Try.prog 32 #[.agg #[.int .i64 d.y, .int .i64 d.m, .int .i64 d.d]] z.1 fun e w' => e = .returned (.bool true) ∧ ∃ y : After W, w' = y.1 := fun z => z.call ((refRightD d _).mono fun e w' h => ⟨by rw [h.1, Hd.out], h.2⟩)
              have hcl1 : ∀ z : After W, Calls Try.prog 33 #[.agg #[.int .i64 d.y, .int .i64 d.m, .int .i64 d.d]] z.1 fun e w' => e = .returned (.int .i64 dd) ∧ ∃ y : After W, w' = y.1 := fun z => z.call (hdd _)
              have hcl2 : ∀ z : After W, Calls Try.prog 33 #[.agg #[.int .i64 x.day.y, .int .i64 x.day.m, .int .i64 x.day.d]] z.1 fun e w' => e = .returned (.int .i64 dx) ∧ ∃ y : After W, w' = y.1 := fun z => z.call (hdx _)
              refine wp_region_after (by kernel_rfl) (by kernel_rfl) ?_
              repeat (go_big_quiet_step (first | with_reducible exact hcl0 _ | with_reducible exact hcl1 _ | with_reducible exact hcl2 _))
              refine wpQuiet_nil ?_
              rintro w7 ⟨⟨w7x, c7⟩, hw7⟩
              change w7 = w7x at hw7
              subst hw7
              clear hxkd0 hxkd1 hxkd2 hyc0 hyc1 hyc2 hyc3 hyc4 hye0 hye1 hye2 hye3 hye4 hcl0 hcl1 hcl2
              have hb7 := hb.trans (c7.mono hb.size)
              go_wp2_with fail
              go_roundw
              case rel => exact ⟨k + 1, by omega, by go_num, .inr ⟨j, hjl, by omega, rfl, Hs, hh⟩, hb7⟩
              case measure => simp [intOf]; omega
            | true =>
              have hht : hitT c d x = true := by rw [HH.out, hbf]
              have Hs : Hid (lastT c d (0, false) (T.take (k + 1)) = (T[k].bp, true)) := by show _ = _; rw [Hx.out]; exact hyes.out hht
              have Hht : Hid (hitT c d T[k] = true) := by show _ = _; rw [Hx.out]; exact hht
              have hlt3 : decide (dy < dx) = true := decide_eq_true (hlat2.out hht)
              clear hlat2
              clear hyes hno hht
              go_wp2_with fail
              have hxkd0 : ∀ z : After W, z.1.cell? ⟨w0.heap.size, 0, none⟩ = some (.int .i64 d.y) := fun z => (kd.ext z.2).cell 0 _ rfl
              have hxkd1 : ∀ z : After W, z.1.cell? ⟨w0.heap.size, 1, none⟩ = some (.int .i64 d.m) := fun z => (kd.ext z.2).cell 1 _ rfl
              have hxkd2 : ∀ z : After W, z.1.cell? ⟨w0.heap.size, 2, none⟩ = some (.int .i64 d.d) := fun z => (kd.ext z.2).cell 2 _ rfl
              have hyc0 : ∀ z : After W, z.1.cell? ⟨b, off + k * 5, none⟩ = some (.string x.cat) := fun z => (z.2.cell (p := ⟨b, off + k * 5, none⟩) hbl).trans c0
              have hyc1 : ∀ z : After W, z.1.cell? ⟨b, off + k * 5 + 1, none⟩ = some (.int .i64 x.day.y) := fun z => (z.2.cell (p := ⟨b, off + k * 5 + 1, none⟩) hbl).trans c1
              have hyc2 : ∀ z : After W, z.1.cell? ⟨b, off + k * 5 + 2, none⟩ = some (.int .i64 x.day.m) := fun z => (z.2.cell (p := ⟨b, off + k * 5 + 2, none⟩) hbl).trans c2
              have hyc3 : ∀ z : After W, z.1.cell? ⟨b, off + k * 5 + 3, none⟩ = some (.int .i64 x.day.d) := fun z => (z.2.cell (p := ⟨b, off + k * 5 + 3, none⟩) hbl).trans c3
              have hyc4 : ∀ z : After W, z.1.cell? ⟨b, off + k * 5 + 4, none⟩ = some (.int .i64 x.bp) := fun z => (z.2.cell (p := ⟨b, off + k * 5 + 4, none⟩) hbl).trans c4
              have hye0 : ∀ z : After W, z.1.cell? ⟨b, off + j * 5, none⟩ = some (.string y.cat) := fun z => (z.2.cell (p := ⟨b, off + j * 5, none⟩) hbl).trans e0
              have hye1 : ∀ z : After W, z.1.cell? ⟨b, off + j * 5 + 1, none⟩ = some (.int .i64 y.day.y) := fun z => (z.2.cell (p := ⟨b, off + j * 5 + 1, none⟩) hbl).trans e1
              have hye2 : ∀ z : After W, z.1.cell? ⟨b, off + j * 5 + 2, none⟩ = some (.int .i64 y.day.m) := fun z => (z.2.cell (p := ⟨b, off + j * 5 + 2, none⟩) hbl).trans e2
              have hye3 : ∀ z : After W, z.1.cell? ⟨b, off + j * 5 + 3, none⟩ = some (.int .i64 y.day.d) := fun z => (z.2.cell (p := ⟨b, off + j * 5 + 3, none⟩) hbl).trans e3
              have hye4 : ∀ z : After W, z.1.cell? ⟨b, off + j * 5 + 4, none⟩ = some (.int .i64 y.bp) := fun z => (z.2.cell (p := ⟨b, off + j * 5 + 4, none⟩) hbl).trans e4
              have hcl0 : ∀ z : After W, Calls Try.prog 32 #[.agg #[.int .i64 d.y, .int .i64 d.m, .int .i64 d.d]] z.1 fun e w' => e = .returned (.bool true) ∧ ∃ y : After W, w' = y.1 := fun z => z.call ((refRightD d _).mono fun e w' h => ⟨by rw [h.1, Hd.out], h.2⟩)
              have hcl1 : ∀ z : After W, Calls Try.prog 33 #[.agg #[.int .i64 d.y, .int .i64 d.m, .int .i64 d.d]] z.1 fun e w' => e = .returned (.int .i64 dd) ∧ ∃ y : After W, w' = y.1 := fun z => z.call (hdd _)
              have hcl2 : ∀ z : After W, Calls Try.prog 33 #[.agg #[.int .i64 x.day.y, .int .i64 x.day.m, .int .i64 x.day.d]] z.1 fun e w' => e = .returned (.int .i64 dx) ∧ ∃ y : After W, w' = y.1 := fun z => z.call (hdx _)
              have hcl3 : ∀ z : After W, Calls Try.prog 33 #[.agg #[.int .i64 y.day.y, .int .i64 y.day.m, .int .i64 y.day.d]] z.1 fun e w' => e = .returned (.int .i64 dy) ∧ ∃ y : After W, w' = y.1 := fun z => z.call (hdy _)
              refine wp_region_after (by kernel_rfl) (by kernel_rfl) ?_
              repeat (go_big_quiet_step (first | with_reducible exact hcl0 _ | with_reducible exact hcl1 _ | with_reducible exact hcl2 _ | with_reducible exact hcl3 _))
              refine wpQuiet_nil ?_
              rintro w7 ⟨⟨w7x, c7⟩, hw7⟩
              change w7 = w7x at hw7
              subst hw7
              clear hxkd0 hxkd1 hxkd2 hyc0 hyc1 hyc2 hyc3 hyc4 hye0 hye1 hye2 hye3 hye4 hcl0 hcl1 hcl2 hcl3
              have hb7 := hb.trans (c7.mono hb.size)
              go_wp2_with fail
              go_roundw
              case rel => exact ⟨k + 1, by omega, by go_num, .inr ⟨k, hlt, by omega, rfl, Hs, Hht⟩, hb7⟩
              case measure => simp [intOf]; omega
      · have hi : ¬ (k : Int) < (T.length : Int) := by omega
        have hk2 : T.take k = T := List.take_of_length_le (by omega)
        rw [hk2] at hz
        clear hk2
        rcases hz with ⟨rfl, hq⟩ | ⟨j, hjl, hjk, rfl, hq, hh⟩
        · have hF : F = (0, false) := HF.out.trans hq.out
          subst hF
          go_wp2_with fail
          with_reducible refine (vatRuns_walk _).mono ?_
          rintro e w9 ⟨rfl, c9⟩
          go_wp2_with fail
          go_ret
          exact ⟨rfl, BB.out.trans ((hb.trans (c9.mono hb.size)).mono BB.out.size)⟩
        · obtain ⟨b, off, rfl⟩ := Rd.blk RT3.out (by omega)
          obtain ⟨e0, e1, e2, e3, e4⟩ := rate5 (RT3.out.ext hb) hjl
          have hj0 : (0 : Int) ≤ (j : Int) := by omega
          have hjl2 : (j : Int) < (T.length : Int) := by omega
          have hF := HF.out.trans hq.out
          generalize T[j].bp = z at *
          subst hF
          clear e0 e1 e2 e3
          go_wp2_with fail
          with_reducible refine (vatRuns_walk _).mono ?_
          rintro e w9 ⟨rfl, c9⟩
          go_wp2_with fail
          go_ret
          exact ⟨rfl, BB.out.trans ((hb.trans (c9.mono hb.size)).mono BB.out.size)⟩
end Go.Proofs.Ytpobhlnlnplbdaa
