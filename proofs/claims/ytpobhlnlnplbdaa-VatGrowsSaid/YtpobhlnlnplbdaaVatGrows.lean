/- The walk of VatGrows. -/
import Derived.Test.YtpobhlnlnplbdaaVatRuns
import Derived.Deep.RegionHeld3
namespace Go.Proofs.Ytpobhlnlnplbdaa
open Go Go.RowKit BigFrame
attribute [local go_sem] After.same

set_option maxHeartbeats 8000000 in
set_option maxRecDepth 100000 in
theorem vatGrows_walk (v : Value) (l : List Rate) (r : Rate) (c : ByteArray) (d : Day) (w : World) (hv : Rd rateE w v l) :
    Calls Try.prog 6 #[v, .agg #[.string r.cat, .int .i64 r.day.y, .int .i64 r.day.m, .int .i64 r.day.d, .int .i64 r.bp], .string c, .agg #[.int .i64 d.y, .int .i64 d.m, .int .i64 d.d]] w fun e w' => e = .returned (.bool true) ∧ Below w.heap.size w w' := by
  obtain ⟨w0, hw0⟩ : ∃ w0, w0 = w := ⟨_, rfl⟩
  rw [← hw0] at hv ⊢
  clear hw0
  have b_0 := Below.refl w0.heap.size w0
  have hl_0 := hv
  clear hv
  go_enter Try.func6, Try.ntmps6
  have c1 : Below w0.heap.size w0 (w0.alloc (.cells #[.string r.cat, .int .i64 r.day.y, .int .i64 r.day.m, .int .i64 r.day.d, .int .i64 r.bp] 25)) := below_alloc w0 _
  have kr0 := Blk.new w0 #[.string r.cat, .int .i64 r.day.y, .int .i64 r.day.m, .int .i64 r.day.d, .int .i64 r.bp] 25
  have c2 := below_alloc (w0.alloc (.cells #[.string r.cat, .int .i64 r.day.y, .int .i64 r.day.m, .int .i64 r.day.d, .int .i64 r.bp] 25)) (.cells #[.int .i64 d.y, .int .i64 d.m, .int .i64 d.d] 23)
  have kd_1 := Blk.new (w0.alloc (.cells #[.string r.cat, .int .i64 r.day.y, .int .i64 r.day.m, .int .i64 r.day.d, .int .i64 r.bp] 25)) #[.int .i64 d.y, .int .i64 d.m, .int .i64 d.d] 23
  have hs2 : (w0.alloc (.cells #[.string r.cat, .int .i64 r.day.y, .int .i64 r.day.m, .int .i64 r.day.d, .int .i64 r.bp] 25)).heap.size = w0.heap.size + 1 := by simp
  rw [hs2] at kd_1
  have kr_1 := kr0.ext c2
  have b_1 := c1.trans (c2.mono c1.size)
  have hl_1 := (hl_0.ext c1).ext c2
  clear c1 c2 kr0 hs2 b_0 hl_0
  go_wp2_with fail
  generalize hw1 : (w0.alloc (.cells #[.string r.cat, .int .i64 r.day.y, .int .i64 r.day.m, .int .i64 r.day.d, .int .i64 r.bp] 25)).alloc (.cells #[.int .i64 d.y, .int .i64 d.m, .int .i64 d.d] 23) = w1 at *
  clear hw1
  with_reducible refine (vatTable _ l _ hl_1).mono ?_
  rintro e w2 ⟨⟨vt, rfl, ownT⟩, c2⟩
  clear hl_1
  have b_2 := b_1.trans (c2.mono b_1.size)
  have kr_2 := kr_1.ext c2
  have kd_2 := kd_1.ext c2
  clear b_1 kr_1 kd_1
  clear c2
  have rT_2 := ownT.rd
  have hT := tabT_right l
  generalize tabT l = T at *
  have hrT := (rightV_iff T).2 hT
  have HrT := Lib.hid hrT
  have HT := Lib.hid hT
  have hT24 := hT.few
  clear ownT hrT hT
  obtain ⟨pt, ct, rfl⟩ := rT_2.shape
  go_wp2_with fail
  with_reducible refine (vatRight _ T _ rT_2).mono ?_
  rintro e w3 ⟨rfl, c3⟩
  have b_3 := b_2.trans (c3.mono b_2.size)
  have kr_3 := kr_2.ext c3
  have kd_3 := kd_2.ext c3
  have rT_3 := rT_2.ext c3
  clear b_2 kr_2 kd_2 rT_2
  rw [HrT.out]
  clear c3
  have y0 := kr_3.cell 0 _ rfl
  have y1 := kr_3.cell 1 _ rfl
  have y2 := kr_3.cell 2 _ rfl
  have y3 := kr_3.cell 3 _ rfl
  have y4 := kr_3.cell 4 _ rfl
  go_wp2_with fail
  with_reducible refine (vatPut _ T r _ rT_3).mono ?_
  rintro e w4 ⟨hQ, c4⟩
  have b_4 := b_3.trans (c4.mono b_3.size)
  have kr_4 := kr_3.ext c4
  have kd_4 := kd_3.ext c4
  have rT_4 := rT_3.ext c4
  clear b_3 kr_3 kd_3 rT_3
  clear y0 y1 y2 y3 y4
  clear c4
  rcases put_cases r HT.out with ⟨n, hn, hne⟩ | ⟨q1, q2, q3⟩
  · rw [hn] at hQ
    obtain rfl := hQ
    have n1 : (n == 0) = false := by simpa using hne
    have n2 : (n != 0) = true := by simpa using hne
    clear hn hne
    go_wp2_with fail
    with_reducible refine (vatRuns_walk _).mono ?_
    rintro e w9 ⟨rfl, c9⟩
    go_wp2_with fail
    go_ret
    exact ⟨rfl, b_4.trans (c9.mono b_4.size)⟩
  · obtain ⟨p1, p2, p3, p4⟩ := put_ok HT.out q1 q2 q3
    rw [p1] at hQ
    have hown := find_own HT.out q1 q2 q3
    have hoth := fun h => find_other (c := c) (d := d) HT.out q1 q2 q3 h
    clear p1 p4
    generalize T.take (cntT T r) ++ r :: T.drop (cntT T r) = M at *
    obtain ⟨vm, rfl, ownM⟩ := hQ
    have rM_4 := ownM.rd
    obtain ⟨pm, cm, rfl⟩ := rM_4.shapeN p3
    have hrM := (rightV_iff M).2 p2
    have HrM := Lib.hid hrM
    have Hown := Lib.hid hown
    have Hoth := Lib.hid hoth
    clear hown hoth hrM p2 p3 q1 q2 ownM
    have y0 := kr_4.cell 0 _ rfl
    have y1 := kr_4.cell 1 _ rfl
    have y2 := kr_4.cell 2 _ rfl
    have y3 := kr_4.cell 3 _ rfl
    have y4 := kr_4.cell 4 _ rfl
    go_wp2_with fail
    with_reducible refine (vatFind _ M r.cat r.day _ rM_4).mono ?_
    rintro e w5 ⟨rfl, c5⟩
    have b_5 := b_4.trans (c5.mono b_4.size)
    have kr_5 := kr_4.ext c5
    have kd_5 := kd_4.ext c5
    have rT_5 := rT_4.ext c5
    have rM_5 := rM_4.ext c5
    clear b_4 kr_4 kd_4 rT_4 rM_4
    rw [Hown.out]
    clear y0 y1 y2 y3 y4
    clear c5
    have d0 := kd_5.cell 0 _ rfl
    have d1 := kd_5.cell 1 _ rfl
    have d2 := kd_5.cell 2 _ rfl
    go_wp2_with fail
    with_reducible refine (vatFind _ T c d _ rT_5).mono ?_
    rintro e w6 ⟨rfl, c6⟩
    have b_6 := b_5.trans (c6.mono b_5.size)
    have kr_6 := kr_5.ext c6
    have kd_6 := kd_5.ext c6
    have rT_6 := rT_5.ext c6
    have rM_6 := rM_5.ext c6
    clear b_5 kr_5 kd_5 rT_5 rM_5
    clear d0 d1 d2
    clear c6
    have d0 := kd_6.cell 0 _ rfl
    have d1 := kd_6.cell 1 _ rfl
    have d2 := kd_6.cell 2 _ rfl
    go_wp2_with fail
    with_reducible refine (vatFind _ M c d _ rM_6).mono ?_
    rintro e w7 ⟨rfl, c7⟩
    have b_7 := b_6.trans (c7.mono b_6.size)
    have kr_7 := kr_6.ext c7
    have kd_7 := kd_6.ext c7
    have rT_7 := rT_6.ext c7
    have rM_7 := rM_6.ext c7
    clear b_6 kr_6 kd_6 rT_6 rM_6
    clear d0 d1 d2
    clear c7
    cases he : eqS c r.cat with
    | true =>
      have he2 : (c.toList == r.cat.toList) = true := he
      clear he
      generalize findT T c d = F at *
      generalize findT M c d = G at *
      go_wp2_with fail
      with_reducible refine (vatRight _ M _ rM_7).mono ?_
      rintro e w9 ⟨rfl, c9⟩
      have kr9 := kr_7.ext c9
      have y0 := kr9.cell 0 _ rfl
      have y4 := kr9.cell 4 _ rfl
      rw [HrM.out]
      have b9 := b_7.trans (c9.mono b_7.size)
      clear c9 kr9
      go_wp2_with fail
      with_reducible refine (vatRuns_walk _).mono ?_
      rintro e w10 ⟨rfl, c10⟩
      go_wp2_with fail
      go_ret
      exact ⟨rfl, b9.trans (c10.mono b9.size)⟩
    | false =>
      have he2 : (c.toList == r.cat.toList) = false := he
      have hne : c ≠ r.cat := fun e => by rw [(eqS_iff _ _).2 e] at he; cases he
      have ho := Hoth.out hne
      clear he hne
      rw [ho]
      clear ho
      generalize findT T c d = F at *
      go_wp2_with fail
      with_reducible refine (vatRight _ M _ rM_7).mono ?_
      rintro e w9 ⟨rfl, c9⟩
      have kr9 := kr_7.ext c9
      have y0 := kr9.cell 0 _ rfl
      have y4 := kr9.cell 4 _ rfl
      rw [HrM.out]
      have b9 := b_7.trans (c9.mono b_7.size)
      clear c9 kr9
      go_wp2_with fail
      with_reducible refine (vatRuns_walk _).mono ?_
      rintro e w10 ⟨rfl, c10⟩
      go_wp2_with fail
      go_ret
      exact ⟨rfl, b9.trans (c10.mono b9.size)⟩
end Go.Proofs.Ytpobhlnlnplbdaa
