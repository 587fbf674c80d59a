/- The walk of VatPuts. -/
import Derived.Test.YtpobhlnlnplbdaaVatRuns
import Derived.Test.YtpobhlnlnplbdaaBookRate
import Derived.Deep.RegionHeld3
namespace Go.Proofs.Ytpobhlnlnplbdaa
open Go Go.RowKit BigFrame
attribute [local go_sem] After.same

@[reducible] def mkV8 : Rate := ⟨⟨#[]⟩, ⟨0, 0, 0⟩, 8⟩
/-- a row with another rate -/
def withBp (x : Rate) (n : Int) : Rate := ⟨x.cat, x.day, n⟩
set_option maxHeartbeats 8000000 in
set_option maxRecDepth 100000 in
theorem vatPuts_walk (v : Value) (l : List Rate) (r : Rate) (w : World) (hv : Rd rateE w v l) :
    Calls Try.prog 5 #[v, .agg #[.string r.cat, .int .i64 r.day.y, .int .i64 r.day.m, .int .i64 r.day.d, .int .i64 r.bp]] w fun e w' => e = .returned (.bool true) ∧ Below w.heap.size w w' := by
  obtain ⟨w0, hw0⟩ : ∃ w0, w0 = w := ⟨_, rfl⟩
  rw [← hw0] at hv ⊢
  clear hw0
  have b_0 := Below.refl w0.heap.size w0
  have hl_0 := hv
  clear hv
  go_enter Try.func5, Try.ntmps5
  obtain ⟨mA, hmA⟩ : ∃ m, resL (putT (l.take 40) r) = m := ⟨_, rfl⟩
  have HmA := Lib.hid hmA
  clear hmA
  have c1 : Below w0.heap.size w0 (w0.alloc (.cells #[.string r.cat, .int .i64 r.day.y, .int .i64 r.day.m, .int .i64 r.day.d, .int .i64 r.bp] 25)) := below_alloc w0 _
  have b_1 := b_0.trans (c1.mono b_0.size)
  have hl_1 := hl_0.ext c1
  clear b_0 hl_0
  have kr_1 : Blk (w0.alloc (.cells #[.string r.cat, .int .i64 r.day.y, .int .i64 r.day.m, .int .i64 r.day.d, .int .i64 r.bp] 25)) w0.heap.size #[.string r.cat, .int .i64 r.day.y, .int .i64 r.day.m, .int .i64 r.day.d, .int .i64 r.bp] 25 := Blk.new _ _ _
  clear c1
  go_wp2_with fail
  generalize hw1 : w0.alloc (.cells #[.string r.cat, .int .i64 r.day.y, .int .i64 r.day.m, .int .i64 r.day.d, .int .i64 r.bp] 25) = w1 at *
  clear hw1
  with_reducible refine (vatFew _ l _ hl_1).mono ?_
  rintro e w' ⟨⟨u, rfl, hp1⟩, rfl⟩
  have n1 : (l.take 40).length ≤ 40 := by simp; omega
  generalize l.take 40 = l1 at *
  clear hl_1
  obtain ⟨p1, cap1, rfl⟩ := hp1.shape
  have hl_1 := hp1
  clear hp1
  go_wp2_with fail
  refine (roomyRate _ l1 mkV8 _ hl_1 (by omega)).mono ?_
  rintro e w2 ⟨gF, rfl, ownF, c2⟩
  have b_2 := b_1.trans (c2.mono b_1.size)
  have hl_2 := hl_1.ext c2
  have kr_2 := kr_1.ext c2
  clear b_1 hl_1 kr_1
  clear c2
  have hF_2 := ownF.rd
  have sF := run_sub_to tRate (P := Try.prog) hF_2 .i64 (l1.length : Int) l1.length rfl (by rw [roomyL_length]; omega)
  have rO_2 := hF_2.sub 0 l1.length (Nat.zero_le _) (by rw [roomyL_length]; omega)
  rw [show ((roomyL l1 mkV8).drop 0).take (l1.length - 0) = l1 from by simp [roomyL], show rateE.sz = 5 from rfl] at rO_2
  generalize subV (.slice (some ⟨gF, 0, none⟩) (l1.length + 80) (l1.length + 80)) 0 l1.length 5 = vF at *
  clear ownF
  have HF := Lib.hid hF_2
  have HL := Lib.hid hl_2
  have f_2 := Below.refl w2.heap.size w2
  have BB := Lib.hid b_2
  have y0 := kr_2.cell 0 _ rfl
  have y1 := kr_2.cell 1 _ rfl
  have y2 := kr_2.cell 2 _ rfl
  have y3 := kr_2.cell 3 _ rfl
  have y4 := kr_2.cell 4 _ rfl
  have hci : (0 : Int) ≤ (l1.length : Int) := by omega
  have hcl : (l1.length : Int) ≤ ((l1.length + 80 : Nat) : Int) := by omega
  go_wp2_with fail
  have Hkr := Lib.hid kr_2
  clear kr_2 b_2
  go_region_held3 (fun w' => w'.cell? ⟨w0.heap.size, 0, none⟩ = some (.string r.cat) ∧ w'.cell? ⟨w0.heap.size, 1, none⟩ = some (.int .i64 r.day.y) ∧ w'.cell? ⟨w0.heap.size, 2, none⟩ = some (.int .i64 r.day.m) ∧ w'.cell? ⟨w0.heap.size, 3, none⟩ = some (.int .i64 r.day.d) ∧ w'.cell? ⟨w0.heap.size, 4, none⟩ = some (.int .i64 r.bp))
    (first | go_keep)
    (first | (go_at_call 19; (with_reducible refine (vatPut vF l1 r _ rO_2.drew).mono ?_); (rintro e w3 ⟨hT, c3⟩); (obtain ⟨va, rfl, ownA⟩ := hT.uni); clear hT; (replace c3 : Below w2.heap.size w2 w3 := (below_drew _ _).trans c3); (have kk := Hkr.out.ext c3); (have t0 := kk.cell 0 _ rfl); (have t1 := kk.cell 1 _ rfl); (have t2 := kk.cell 2 _ rfl); (have t3 := kk.cell 3 _ rfl); (have t4 := kk.cell 4 _ rfl); clear kk))
  rw [HmA.out] at ownA
  have hl_3 := hl_2.ext c3
  have sA := fun k h => ownA.lt k h
  have SA := Lib.hid sA
  have ownA3 : OwnR rateE w3 w2.heap.size 25 va mA := ownA
  clear ownA sA y0 y1 y2 y3 y4 rO_2 hF_2 hl_2 f_2
  have k3 := Hkr.out.ext c3
  clear t0 t1 t2 t3 t4
  have y0 := k3.cell 0 _ rfl
  have y1 := k3.cell 1 _ rfl
  have y2 := k3.cell 2 _ rfl
  have y3 := k3.cell 3 _ rfl
  have y4 := k3.cell 4 _ rfl
  go_wp2_with fail
  with_reducible refine (refPut _ l1 r _ hl_3).mono ?_
  rintro e w4 ⟨hT, c4⟩
  obtain ⟨vu, rfl, ownU⟩ := hT.uni
  rw [HmA.out] at ownU
  have ownA4 := ownA3.ext c4
  have rU := ownU.rd
  have c34 := c3.trans (c4.mono c3.size)
  clear hT ownU ownA3 hl_3 c3 c4 k3 y0 y1 y2 y3 y4
  generalize resE (putT l1 r) = eA at *
  have rA := ownA4.rd
  go_wp2_with fail
  refine (sameRate _ _ _ _ _ rA rU).mono ?_
  rintro e w5 ⟨rfl, n5, hw5⟩
  have c5 : Below w4.heap.size w4 w5 := by rw [hw5]; exact below_drawn _ _ _
  rw [decide_eq_true rfl]
  have ownA5 := ownA4.ext c5
  have c45 := c34.trans (c5.mono c34.size)
  clear hw5 c5 c34 ownA4 rA rU
  obtain ⟨pA, cA, rfl⟩ := ownA5.rd.shape
  go_wp2_with fail
  go_loopw [10] (fun i wr => ∃ (k : Nat) (ys : List Rate), k ≤ mA.length ∧ i = .int .i64 k ∧ OwnR rateE wr w2.heap.size 25 (.slice pA mA.length cA) ys ∧ ys.length = mA.length ∧ w5.grownBy wr (Value.slice pA mA.length cA).ownBlock) (fun i _ => mA.length - (intOf i).toNat)
  case atStart => exact ⟨0, mA, by omega, rfl, ownA5, rfl, grown_below (Below.refl _ _)⟩
  case round =>
    obtain ⟨k, ys, hk, rfl, ownY, hyl, hgr⟩ := hrel
    clear ownA5
    have Hgr := Lib.hid hgr
    have Hyl := Lib.hid hyl
    clear hgr hyl
    by_cases hlt : k < mA.length
    · have hkl : (k : Int) < (mA.length : Int) := by omega
      obtain ⟨gB, cB, hsh, e1, e2, e3, e4⟩ := ownY.head (by rw [Hyl.out]; omega)
      rw [Hyl.out] at hsh
      simp only [Value.slice.injEq, true_and] at hsh
      obtain ⟨rfl, rfl⟩ := hsh
      rw [Hyl.out] at e3
      unfold maxLen at e4
      have d4 := ownY.cellAt Hyl.out.symm k (by rw [Hyl.out]; exact hlt) 4 (by decide)
      have f4 := ownY.frozenAt Hyl.out.symm (k * 5 + 4)
      obtain ⟨own2, gr2⟩ := ownY.stored Hyl.out.symm k (by rw [Hyl.out]; exact hlt) 4 (by decide) (.int .i64 (-1)) rfl (withBp (ys[k]'(by rw [Hyl.out]; exact hlt)) (-1)) rfl
      generalize ys[k]'_ = old at d4 own2
      simp only [rateE, List.getElem?_cons_zero, List.getElem?_cons_succ] at d4
      have hki0 : (0 : Int) ≤ (k : Int) := by omega
      go_wp2_with fail
      go_roundw
      case rel => exact ⟨k + 1, ys.set k (withBp old (-1)), by omega, by go_num, own2, by rw [List.length_set]; exact Hyl.out, grown_tr Hgr.out gr2⟩
      case measure => first | (simp [intOf]; done) | (simp [intOf]; omega)
    · have hkl : ¬ (k : Int) < (mA.length : Int) := by omega
      have dE : Below w2.heap.size w5 wr := below_grown Hgr.out c45.size (fun k h => by have := (SA.out k h).1; exact this)
      have f_E := c45.trans dE
      have b_E := BB.out.trans (f_E.mono BB.out.size)
      clear ownY
      go_wp2_with fail
      refine (intactRate _ _ (roomyL l1 mkV8) l1 mkV8 _ (HF.out.ext f_E) (HL.out.ext f_E) (by omega)).mono ?_
      rintro e w8 ⟨rfl, c8⟩
      rw [decide_eq_true rfl]
      have b_F := b_E.trans (c8.mono b_E.size)
      go_wp2_with fail
      with_reducible refine (vatRuns_walk _).mono ?_
      rintro e w7 ⟨rfl, c7⟩
      go_wp2_with fail
      go_ret
      exact ⟨rfl, b_F.trans (c7.mono b_F.size)⟩
end Go.Proofs.Ytpobhlnlnplbdaa
