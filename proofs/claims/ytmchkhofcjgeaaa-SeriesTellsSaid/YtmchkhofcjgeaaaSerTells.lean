/- The walk of SeriesTells. -/
import Derived.Test.YtmchkhofcjgeaaaSerRuns
import Derived.Test.YtmchkhofcjgeaaaSerD
import Derived.Test.YtmchkhofcjgeaaaBookSrs
namespace Go.Proofs.Ytmchkhofcjgeaaa
open Go Go.RowKit

@[reducible] def mkR : Srs := ⟨⟨#[]⟩, -5, 0, false⟩
theorem eql_Srs (x y : Srs) (w : World) : (binOp .eql 66 (.agg #[.string x.name, .int .i64 x.next, .int .i64 x.limit, .bool x.shut]) (.agg #[.string y.name, .int .i64 y.next, .int .i64 y.limit, .bool y.shut])).run Try.prog w = .ok (.bool (decide (x = y))) w := by
  rw [run_eql_struct, eqin_srs]; rfl
def firstR (n : ByteArray) : List Srs → Srs × Bool
  | [] => (srs0, false)
  | x :: l => if isNm n x = true then (x, true) else firstR n l
theorem firstR_is {n : ByteArray} {l : List Srs} {i : Nat} (h : i < l.length) (h1 : isNm n l[i] = true) (h2 : ∀ j (h' : j < l.length), j < i → isNm n l[j] = false) : firstR n l = (l[i], true) := by
  induction l generalizing i with
  | nil => simp at h
  | cons x l ih =>
    cases i with
    | zero => exact if_pos h1
    | succ i =>
      have h0 := h2 0 (by simp) (by omega)
      rw [firstR, if_neg (by simp only [List.getElem_cons_zero] at h0; rw [h0]; simp)]
      exact ih (by simpa using h) h1 (fun j h' hj => h2 (j + 1) (by simp; omega) (by omega))
theorem firstR_no {n : ByteArray} {l : List Srs} (h : ∀ x ∈ l, isNm n x = false) : firstR n l = (srs0, false) := by
  induction l with
  | nil => rfl
  | cons x l ih => rw [firstR, if_neg (by rw [h x (by simp)]; simp)]; exact ih (fun y hy => h y (by simp [hy]))
theorem lookR_first (l : List Srs) (n : ByteArray) : lookR l n = firstR n l := by
  have hx : ∀ a : ByteArray, a ≠ n → ∀ s : Srs, s.name = a → isNm n s = false := fun a ha s hs => by unfold isNm; cases he : eqS s.name n with | false => rfl | true => exact absurd (hs ▸ (eqS_iff _ _).1 he) ha
  rcases placeR_spec l n with ⟨h1, h2⟩ | ⟨j, hj, h1, h2, h3⟩
  · rw [lookR_gone (by omega), firstR_no (fun x hx' => hx _ (h2 x hx') x rfl)]
  · rw [lookR_at hj h1, firstR_is hj (by unfold isNm; rw [h2]; exact eqS_refl _) (fun i h' hi => hx _ (h3 i h' hi) _ rfl)]
theorem lookR_drop {l : List Srs} {n : ByteArray} {j : Nat} (h : j < l.length) : lookR (l.drop j) n = if isNm n l[j] = true then (l[j], true) else lookR (l.drop (j + 1)) n := by
  rw [lookR_first, lookR_first, List.drop_eq_getElem_cons h, firstR]

set_option maxHeartbeats 1000000 in
theorem srsFew (v : Value) (l : List Srs) (w : World) (hv : Rd srsE w v l) :
    Calls Try.prog 31 #[v] w fun e w' => (∃ u, e = .returned u ∧ Rd srsE w u (l.take 20)) ∧ w' = w := by
  obtain ⟨p, cap, rfl⟩ := hv.shape
  by_cases h : 20 < l.length
  · have hs := run_sub_to tSrs (P := Try.prog) hv .i64 20 20 rfl (by omega)
    have hr := hv.sub 0 20 (by omega) (by omega)
    have hi : (20 : Int) < (l.length : Int) := by omega
    rw [show srsE.sz = 4 from rfl] at hr
    generalize subV (.slice p l.length cap) 0 20 _ = u at *
    clear hv
    go_enter Try.func31, Try.ntmps31
    go_wp2_with fail
    go_ret
    exact ⟨⟨_, rfl, by simpa using hr⟩, rfl⟩
  · have hi : ¬ (20 : Int) < (l.length : Int) := by omega
    have Hv := Lib.hid hv
    clear hv
    go_enter Try.func31, Try.ntmps31
    go_wp2_with fail
    go_ret
    exact ⟨⟨_, rfl, by rw [List.take_of_length_le (by omega)]; exact Hv.out⟩, rfl⟩

set_option maxHeartbeats 8000000 in
set_option maxRecDepth 100000 in
theorem seriesTells_walk (v : Value) (l : List Srs) (id : ByteArray) (lim : Int) (w : World) (hv : Rd srsE w v l) :
    Calls Try.prog 9 #[v, .string id, .int .i64 lim] w fun e w' => e = .returned (.bool true) ∧ Below w.heap.size w w' := by
  go_enter Try.func9, Try.ntmps9
  go_wp2_with fail
  with_reducible refine (srsFew _ l _ hv).mono ?_
  rintro e w' ⟨⟨u, rfl, hp1⟩, rfl⟩
  have n1 : (l.take 20).length ≤ 20 := by simp; omega
  generalize l.take 20 = l1 at *
  clear hv
  obtain ⟨p1, cap1, rfl⟩ := hp1.shape
  have HL := Lib.hid hp1
  obtain ⟨mA, hmA⟩ : ∃ m, resL (openR l1 id lim) = m := ⟨_, rfl⟩
  obtain ⟨mC, hmC⟩ : ∃ m, resNL (takeR l1 id) = m := ⟨_, rfl⟩
  have HmA := Lib.hid hmA
  have HmC := Lib.hid hmC
  clear hmA hmC
  have b_0 := Below.refl w'.heap.size w'
  have hl_0 := hp1
  clear hp1
  obtain ⟨w0, hw0⟩ : ∃ w0, w0 = w' := ⟨_, rfl⟩
  subst hw0
  have c1 : Below w0.heap.size w0 (w0.alloc (.cells #[.string ⟨#[]⟩, .int .i64 (-5), .int .i64 0, .bool false] 66)) := below_alloc w0 _
  have b_1 := b_0.trans (c1.mono b_0.size)
  have hl_1 := hl_0.ext c1
  clear b_0 hl_0
  have k7_1 : Blk (w0.alloc (.cells #[.string ⟨#[]⟩, .int .i64 (-5), .int .i64 0, .bool false] 66)) w0.heap.size #[.string ⟨#[]⟩, .int .i64 (-5), .int .i64 0, .bool false] 66 := Blk.new _ _ _
  clear c1
  go_wp2_with fail
  generalize hw1 : w0.alloc (.cells #[.string ⟨#[]⟩, .int .i64 (-5), .int .i64 0, .bool false] 66) = w1 at *
  clear hw1
  have K7 := Lib.hid k7_1
  have r_1 := Below.refl w1.heap.size w1
  clear k7_1
  with_reducible refine (roomySrs _ l1 mkR _ hl_1 (by omega)).mono ?_
  rintro e w2 ⟨gF, rfl, ownF, c2⟩
  have b_2 := b_1.trans (c2.mono b_1.size)
  have r_2 := r_1.trans (c2.mono r_1.size)
  have hl_2 := hl_1.ext c2
  clear b_1 r_1 hl_1
  clear c2
  have f_2 := Below.refl w2.heap.size w2
  have SR := r_2.size
  have hF := ownF.rd
  have HF := Lib.hid hF
  have sF := run_sub_to tSrs (P := Try.prog) hF .i64 (l1.length : Int) l1.length rfl (by rw [roomyL_length]; omega)
  have rO_2 := hF.sub 0 l1.length (Nat.zero_le _) (by rw [roomyL_length]; omega)
  rw [show ((roomyL l1 mkR).drop 0).take (l1.length - 0) = l1 from by simp [roomyL], show srsE.sz = 4 from rfl] at rO_2
  generalize subV (.slice (some ⟨gF, 0, none⟩) (l1.length + 80) (l1.length + 80)) 0 l1.length 4 = vF at *
  have HO := Lib.hid rO_2
  clear hF ownF
  go_wp2_with fail
  with_reducible refine (srsOpen vF l1 id lim _ rO_2).mono ?_
  rintro e w3 ⟨hT, c3⟩
  have b_3 := b_2.trans (c3.mono b_2.size)
  have r_3 := r_2.trans (c3.mono r_2.size)
  have f_3 := f_2.trans (c3.mono f_2.size)
  have hl_3 := hl_2.ext c3
  have rO_3 := rO_2.ext c3
  clear b_2 r_2 f_2 hl_2 rO_2
  obtain ⟨va, rfl, ownA⟩ := hT.uni
  rw [HmA.out] at ownA
  have HA := Lib.hid ownA
  have rA_3 := ownA.rd
  clear hT ownA sF
  clear c3
  have sA0 := f_3.size
  have p_3 := Below.refl w3.heap.size w3
  go_wp2_with fail
  with_reducible refine (srsShut vF l1 id _ rO_3).mono ?_
  rintro e w4 ⟨hT, c4⟩
  have b_4 := b_3.trans (c4.mono b_3.size)
  have r_4 := r_3.trans (c4.mono r_3.size)
  have f_4 := f_3.trans (c4.mono f_3.size)
  have p_4 := p_3.trans (c4.mono p_3.size)
  have hl_4 := hl_3.ext c4
  have rO_4 := rO_3.ext c4
  have rA_4 := rA_3.ext c4
  clear b_3 r_3 f_3 p_3 hl_3 rO_3 rA_3
  obtain ⟨vb, rfl, ownB⟩ := hT.uni
  have rB_4 := ownB.rd
  clear hT ownB
  clear c4
  have sB := p_4.size
  go_wp2_with fail
  with_reducible refine (srsTake vF l1 id _ rO_4).mono ?_
  rintro e w5 ⟨hT, c5⟩
  have b_5 := b_4.trans (c5.mono b_4.size)
  have r_5 := r_4.trans (c5.mono r_4.size)
  have f_5 := f_4.trans (c5.mono f_4.size)
  have p_5 := p_4.trans (c5.mono p_4.size)
  have hl_5 := hl_4.ext c5
  have rO_5 := rO_4.ext c5
  have rA_5 := rA_4.ext c5
  have rB_5 := rB_4.ext c5
  clear b_4 r_4 f_4 p_4 hl_4 rO_4 rA_4 rB_4
  obtain ⟨vc, rfl, ownC⟩ := hT.uni
  rw [HmC.out] at ownC
  have HC := Lib.hid ownC
  have rC_5 := ownC.rd
  clear hT ownC
  clear c5
  have q_5 := Below.refl w5.heap.size w5
  go_wp2_with fail
  with_reducible refine (srsRefOpen _ l1 id lim _ hl_5).mono ?_
  rintro e w6 ⟨hT, c6⟩
  have b_6 := b_5.trans (c6.mono b_5.size)
  have r_6 := r_5.trans (c6.mono r_5.size)
  have f_6 := f_5.trans (c6.mono f_5.size)
  have p_6 := p_5.trans (c6.mono p_5.size)
  have q_6 := q_5.trans (c6.mono q_5.size)
  have hl_6 := hl_5.ext c6
  have rO_6 := rO_5.ext c6
  have rA_6 := rA_5.ext c6
  have rB_6 := rB_5.ext c6
  have rC_6 := rC_5.ext c6
  clear b_5 r_5 f_5 p_5 q_5 hl_5 rO_5 rA_5 rB_5 rC_5
  obtain ⟨vu, rfl, ownU⟩ := hT.uni
  rw [HmA.out] at ownU
  have rU_6 := ownU.rd
  clear hT ownU
  clear c6
  go_wp2_with fail
  with_reducible refine (srsRefShut _ l1 id _ hl_6).mono ?_
  rintro e w7 ⟨hT, c7⟩
  have b_7 := b_6.trans (c7.mono b_6.size)
  have r_7 := r_6.trans (c7.mono r_6.size)
  have f_7 := f_6.trans (c7.mono f_6.size)
  have p_7 := p_6.trans (c7.mono p_6.size)
  have q_7 := q_6.trans (c7.mono q_6.size)
  have hl_7 := hl_6.ext c7
  have rO_7 := rO_6.ext c7
  have rA_7 := rA_6.ext c7
  have rB_7 := rB_6.ext c7
  have rC_7 := rC_6.ext c7
  have rU_7 := rU_6.ext c7
  clear b_6 r_6 f_6 p_6 q_6 hl_6 rO_6 rA_6 rB_6 rC_6 rU_6
  obtain ⟨vv, rfl, ownV⟩ := hT.uni
  have rV_7 := ownV.rd
  clear hT ownV
  clear c7
  go_wp2_with fail
  with_reducible refine (srsRefTake _ l1 id _ hl_7).mono ?_
  rintro e w8 ⟨hT, c8⟩
  have b_8 := b_7.trans (c8.mono b_7.size)
  have r_8 := r_7.trans (c8.mono r_7.size)
  have f_8 := f_7.trans (c8.mono f_7.size)
  have p_8 := p_7.trans (c8.mono p_7.size)
  have q_8 := q_7.trans (c8.mono q_7.size)
  have hl_8 := hl_7.ext c8
  have rO_8 := rO_7.ext c8
  have rA_8 := rA_7.ext c8
  have rB_8 := rB_7.ext c8
  have rC_8 := rC_7.ext c8
  have rU_8 := rU_7.ext c8
  have rV_8 := rV_7.ext c8
  clear b_7 r_7 f_7 p_7 q_7 hl_7 rO_7 rA_7 rB_7 rC_7 rU_7 rV_7
  obtain ⟨vw, rfl, ownW⟩ := hT.uni
  rw [HmC.out] at ownW
  have rW_8 := ownW.rd
  clear hT ownW
  clear c8
  go_wp2_with fail
  refine (sameSrs _ _ _ _ _ rA_8 rU_8).mono ?_
  rintro e w9 ⟨rfl, n9, hw9⟩
  have c9 : Below w8.heap.size w8 w9 := by rw [hw9]; exact below_drawn _ _ _
  clear hw9
  have b_9 := b_8.trans (c9.mono b_8.size)
  have r_9 := r_8.trans (c9.mono r_8.size)
  have f_9 := f_8.trans (c9.mono f_8.size)
  have p_9 := p_8.trans (c9.mono p_8.size)
  have q_9 := q_8.trans (c9.mono q_8.size)
  have hl_9 := hl_8.ext c9
  have rO_9 := rO_8.ext c9
  have rA_9 := rA_8.ext c9
  have rB_9 := rB_8.ext c9
  have rC_9 := rC_8.ext c9
  have rU_9 := rU_8.ext c9
  have rV_9 := rV_8.ext c9
  have rW_9 := rW_8.ext c9
  clear b_8 r_8 f_8 p_8 q_8 hl_8 rO_8 rA_8 rB_8 rC_8 rU_8 rV_8 rW_8
  rw [decide_eq_true rfl]
  clear c9
  clear rA_9 rU_9
  go_wp2_with fail
  refine (sameSrs _ _ _ _ _ rB_9 rV_9).mono ?_
  rintro e w10 ⟨rfl, n10, hw10⟩
  have c10 : Below w9.heap.size w9 w10 := by rw [hw10]; exact below_drawn _ _ _
  clear hw10
  have b_10 := b_9.trans (c10.mono b_9.size)
  have r_10 := r_9.trans (c10.mono r_9.size)
  have f_10 := f_9.trans (c10.mono f_9.size)
  have p_10 := p_9.trans (c10.mono p_9.size)
  have q_10 := q_9.trans (c10.mono q_9.size)
  have hl_10 := hl_9.ext c10
  have rO_10 := rO_9.ext c10
  have rB_10 := rB_9.ext c10
  have rC_10 := rC_9.ext c10
  have rV_10 := rV_9.ext c10
  have rW_10 := rW_9.ext c10
  clear b_9 r_9 f_9 p_9 q_9 hl_9 rO_9 rB_9 rC_9 rV_9 rW_9
  rw [decide_eq_true rfl]
  clear c10
  clear rB_10 rV_10
  go_wp2_with fail
  refine (sameSrs _ _ _ _ _ rC_10 rW_10).mono ?_
  rintro e w11 ⟨rfl, n11, hw11⟩
  have c11 : Below w10.heap.size w10 w11 := by rw [hw11]; exact below_drawn _ _ _
  clear hw11
  have b_11 := b_10.trans (c11.mono b_10.size)
  have r_11 := r_10.trans (c11.mono r_10.size)
  have f_11 := f_10.trans (c11.mono f_10.size)
  have p_11 := p_10.trans (c11.mono p_10.size)
  have q_11 := q_10.trans (c11.mono q_10.size)
  have hl_11 := hl_10.ext c11
  have rO_11 := rO_10.ext c11
  have rC_11 := rC_10.ext c11
  have rW_11 := rW_10.ext c11
  clear b_10 r_10 f_10 p_10 q_10 hl_10 rO_10 rC_10 rW_10
  rw [decide_eq_true rfl]
  clear c11
  clear rC_11 rW_11
  go_wp2_with fail
  with_reducible refine (srsRight _ l1 _ rO_11).mono ?_
  rintro e w12 ⟨rfl, c12⟩
  have b_12 := b_11.trans (c12.mono b_11.size)
  have r_12 := r_11.trans (c12.mono r_11.size)
  have f_12 := f_11.trans (c12.mono f_11.size)
  have p_12 := p_11.trans (c12.mono p_11.size)
  have q_12 := q_11.trans (c12.mono q_11.size)
  have hl_12 := hl_11.ext c12
  have rO_12 := rO_11.ext c12
  clear b_11 r_11 f_11 p_11 q_11 hl_11 rO_11
  clear c12
  go_wp2_with fail
  with_reducible refine (srsRefRight _ l1 _ hl_12).mono ?_
  rintro e w13 ⟨rfl, c13⟩
  have b_13 := b_12.trans (c13.mono b_12.size)
  have r_13 := r_12.trans (c13.mono r_12.size)
  have f_13 := f_12.trans (c13.mono f_12.size)
  have p_13 := p_12.trans (c13.mono p_12.size)
  have q_13 := q_12.trans (c13.mono q_12.size)
  have hl_13 := hl_12.ext c13
  have rO_13 := rO_12.ext c13
  clear b_12 r_12 f_12 p_12 q_12 hl_12 rO_12
  generalize rightR l1 = rgt at *
  generalize resE (openR l1 id lim) = eA at *
  generalize resE (shutR l1 id) = eB at *
  generalize resNE (takeR l1 id) = eC at *
  generalize resNN (takeR l1 id) = nC at *
  clear c13
  have zb := b_13.size
  have zf := f_13.size
  have zp := p_13.size
  have zq := q_13.size
  have zr := r_13.size
  clear rO_13 hl_13
  have c14 : Below w13.heap.size w13 (w13.alloc (.cells #[.string ⟨#[]⟩, .int .i64 0, .int .i64 0, .bool false] 66)) := below_alloc w13 _
  have b_14 := b_13.trans (c14.mono b_13.size)
  have r_14 := r_13.trans (c14.mono r_13.size)
  have f_14 := f_13.trans (c14.mono f_13.size)
  have p_14 := p_13.trans (c14.mono p_13.size)
  have q_14 := q_13.trans (c14.mono q_13.size)
  clear b_13 r_13 f_13 p_13 q_13
  have k24_14 : Blk (w13.alloc (.cells #[.string ⟨#[]⟩, .int .i64 0, .int .i64 0, .bool false] 66)) w13.heap.size #[.string ⟨#[]⟩, .int .i64 0, .int .i64 0, .bool false] 66 := Blk.new _ _ _
  clear c14
  go_wp2_with fail
  generalize hw14 : w13.alloc (.cells #[.string ⟨#[]⟩, .int .i64 0, .int .i64 0, .bool false] 66) = w14 at *
  clear hw14
  go_loopw [25, 26] (fun is i wr => ∃ k : Nat, k ≤ l1.length ∧ i = .int .i64 ((k : Int) - 1) ∧ is = .bool (lookR (l1.drop k) id).2 ∧ Blk wr w13.heap.size #[.string (lookR (l1.drop k) id).1.name, .int .i64 (lookR (l1.drop k) id).1.next, .int .i64 (lookR (l1.drop k) id).1.limit, .bool (lookR (l1.drop k) id).1.shut] 66 ∧ Below w13.heap.size w14 wr) (fun _ i _ => (intOf i + 1).toNat)
  case atStart => exact ⟨l1.length, Nat.le_refl _, rfl, by rw [List.drop_length]; rfl, by rw [List.drop_length]; exact k24_14, Below.refl _ _⟩
  case round =>
    obtain ⟨k, hk, rfl, rfl, k24, hd⟩ := hrel
    have b_9 := b_14.trans (hd.mono zb)
    have f_9 := f_14.trans (hd.mono zf)
    have p_9 := p_14.trans (hd.mono zp)
    have q_9 := q_14.trans (hd.mono zq)
    have r_9 := r_14.trans (hd.mono zr)
    clear k24_14
    rcases Nat.eq_zero_or_pos k with rfl | hkp
    rotate_left
    · obtain ⟨j, rfl⟩ : ∃ j, k = j + 1 := ⟨k - 1, by omega⟩
      have hj : j < l1.length := by omega
      have hjl : (j : Int) < (l1.length : Int) := by omega
      have hj0 : (0 : Int) ≤ (j : Int) := by omega
      rw [show ((j + 1 : Nat) : Int) - 1 = (j : Int) from by omega]
      have hlr := HL.out.ext b_9
      obtain ⟨b, off, rfl⟩ := Rd.blk hlr (by omega)
      obtain ⟨c0, c1, c2, c3⟩ := srs4 hlr hj
      have hst := lookR_drop (n := id) hj
      obtain ⟨⟨m0, m1, m2, m3⟩, f0, f1, f2, f3⟩ := srs_cells k24
      have hset := fun x y z u => srs_set k24 x y z u
      have Hset := Lib.hid hset
      have Hst := Lib.hid hst
      have Hd := Lib.hid hd
      have Hk := Lib.hid k24
      clear hset hst hd k24 hlr
      cases hq : isNm id l1[j] with
      | true =>
        have hs2 : lookR (l1.drop j) id = (l1[j], true) := by rw [Hst.out, if_pos hq]
        have Hs2 := Lib.hid hs2
        clear hs2
        unfold isNm eqS at hq
        generalize l1[j] = s at *
        go_wp2_with fail
        go_roundw
        case rel =>
          refine ⟨j, by omega, by go_num, by rw [Hs2.out], ?_, ?_⟩
          · rw [Hs2.out]; exact Hset.out _ _ _ _
          · exact (((Hd.out.setCell (p := ⟨w13.heap.size, 0, none⟩) (Nat.le_refl _) _).setCell (p := ⟨w13.heap.size, 1, none⟩) (Nat.le_refl _) _).setCell (p := ⟨w13.heap.size, 2, none⟩) (Nat.le_refl _) _).setCell (p := ⟨w13.heap.size, 3, none⟩) (Nat.le_refl _) _
        case measure => first | (simp [intOf]; done) | (simp [intOf]; omega)
      | false =>
        have hs2 : lookR (l1.drop j) id = lookR (l1.drop (j + 1)) id := by rw [Hst.out, if_neg (by rw [hq]; simp)]
        have Hs2 := Lib.hid hs2
        clear hs2
        unfold isNm eqS at hq
        generalize l1[j] = s at *
        go_wp2_with fail
        go_roundw
        case rel => exact ⟨j, by omega, by go_num, by rw [Hs2.out], by rw [Hs2.out]; exact Hk.out, Hd.out⟩
        case measure => first | (simp [intOf]; done) | (simp [intOf]; omega)
    · rw [show (((0 : Nat) : Int)) - 1 = -1 from rfl]
      rw [List.drop_zero] at k24 ⊢
      skip
      have k24_9 := k24
      have rO_9 := HO.out.ext f_9
      clear k24 hd hk
      skip
      go_wp2_with fail
      with_reducible refine (srsFind vF l1 id _ rO_9).mono ?_
      rintro e v9 ⟨rfl, c9⟩
      generalize lookR l1 id = want at *
      have b_A := b_9.trans (c9.mono b_9.size)
      have f_A := f_9.trans (c9.mono f_9.size)
      have p_A := p_9.trans (c9.mono p_9.size)
      have q_A := q_9.trans (c9.mono q_9.size)
      have r_A := r_9.trans (c9.mono r_9.size)
      have k24_A := k24_9.ext c9
      have ca := below_alloc v9 (.cells #[.string want.1.name, .int .i64 want.1.next, .int .i64 want.1.limit, .bool want.1.shut] 66)
      have b_B := b_A.trans (ca.mono b_A.size)
      have f_B := f_A.trans (ca.mono f_A.size)
      have p_B := p_A.trans (ca.mono p_A.size)
      have q_B := q_A.trans (ca.mono q_A.size)
      have r_B := r_A.trans (ca.mono r_A.size)
      have k24_B := k24_A.ext ca
      have k27_B := Blk.new v9 #[.string want.1.name, .int .i64 want.1.next, .int .i64 want.1.limit, .bool want.1.shut] 66
      clear k24_9 k24_A c9
      have L24 := k24_B.lt
      have sA9 := p_A.size
      have sC9 := q_A.size
      have S7 := K7.out.lt
      have SA := fun k h => HA.out.lt k h
      have SC := fun k h => HC.out.lt k h
      clear b_9 b_A
      clear f_9 f_A
      clear p_9 p_A
      clear q_9 q_A
      clear r_9 r_A
      obtain ⟨pA, cA, rfl⟩ := HA.out.rd.shape
      obtain ⟨pC, cC, rfl⟩ := HC.out.rd.shape
      go_wp2_with fail
      generalize hwB : v9.alloc (.cells #[.string want.1.name, .int .i64 want.1.next, .int .i64 want.1.limit, .bool want.1.shut] 66) = wB at *
      clear hwB ca
      have oA := HA.out.ext p_B
      have oC := HC.out.ext q_B
      have k7_B := K7.out.ext r_B
      have N27 : v9.heap.size = v9.heap.size := rfl
      have SF0 := f_B.size
      have SP0 := p_B.size
      have SQ0 := q_B.size
      go_loopw [29] (fun i wr => ∃ (k : Nat) (ys : List Srs), k ≤ mA.length ∧ i = .int .i64 k ∧ OwnR srsE wr w2.heap.size 66 (.slice pA mA.length cA) ys ∧ ys.length = mA.length ∧ wB.grownBy wr (Value.slice pA mA.length cA).ownBlock) (fun i _ => mA.length - (intOf i).toNat)
      case atStart => exact ⟨0, mA, by omega, rfl, oA, rfl, grown_below (Below.refl _ _)⟩
      case round =>
        obtain ⟨k, ys, hk, rfl, ownY, hyl, hgr⟩ := hrel
        have n7 := k7_B.grown hgr (fun e => by have := SA _ e; omega)
        by_cases hlt : k < mA.length
        · have hkl : (k : Int) < (mA.length : Int) := by omega
          have Hyl := Lib.hid hyl
          clear hyl
          obtain ⟨gB, cB, hsh, e1, e2, e3, e4⟩ := ownY.head (by rw [Hyl.out]; omega)
          rw [Hyl.out] at hsh
          simp only [Value.slice.injEq, true_and] at hsh
          obtain ⟨rfl, rfl⟩ := hsh
          rw [Hyl.out] at e3
          unfold maxLen at e4
          have d0 := ownY.cellAt Hyl.out.symm k (by rw [Hyl.out]; exact hlt) 0 (by decide)
          have f0 := ownY.frozenAt Hyl.out.symm (k * 4)
          have m0 := n7.cell 0 _ rfl
          have d1 := ownY.cellAt Hyl.out.symm k (by rw [Hyl.out]; exact hlt) 1 (by decide)
          have f1 := ownY.frozenAt Hyl.out.symm (k * 4 + 1)
          have m1 := n7.cell 1 _ rfl
          have d2 := ownY.cellAt Hyl.out.symm k (by rw [Hyl.out]; exact hlt) 2 (by decide)
          have f2 := ownY.frozenAt Hyl.out.symm (k * 4 + 2)
          have m2 := n7.cell 2 _ rfl
          have d3 := ownY.cellAt Hyl.out.symm k (by rw [Hyl.out]; exact hlt) 3 (by decide)
          have f3 := ownY.frozenAt Hyl.out.symm (k * 4 + 3)
          have m3 := n7.cell 3 _ rfl
          obtain ⟨own2, gr2⟩ := ownY.put Hyl.out.symm k (by rw [Hyl.out]; exact hlt) mkR
          generalize ys[k]'_ = old at d0 d1 d2 d3
          simp only [srsE, List.getElem?_cons_zero, List.getElem?_cons_succ, Nat.add_zero] at d0 d1 d2 d3
          have hki0 : (0 : Int) ≤ (k : Int) := by omega
          have hne : ¬ w0.heap.size = gB := by omega
          have Hgr := Lib.hid hgr
          clear hgr
          go_wp2_with fail
          go_roundw
          case rel => exact ⟨k + 1, ys.set k mkR, by omega, by go_num, own2, by rw [List.length_set]; exact Hyl.out, grown_tr Hgr.out gr2⟩
          case measure => first | (simp [intOf]; done) | (simp [intOf]; omega)
        · have hkl : ¬ (k : Int) < (mA.length : Int) := by omega
          have k24_D := k24_B.grown hgr (fun e => by have := SA _ e; omega)
          have k27_D := k27_B.grown hgr (fun e => by have := SA _ e; omega)
          have k7_D := n7
          have oC_D := oC.grown hgr (by
            rcases hcb : (Value.slice pC mC.length cC).ownBlock with _ | gc
            · exact .inl rfl
            · refine .inr (fun e => ?_)
              have h1 := SC _ hcb
              have h2 := SA _ e.symm
              omega)
          have dD : Below w2.heap.size wB wr := below_grown hgr (by have := f_B.size; omega) (fun k h => (SA k h).1)
          have zb1 : w0.heap.size ≤ w2.heap.size := by omega
          have f_D := f_B.trans dD
          have b_D := b_B.trans (dD.mono zb1)
          have q_D : wB.heap.size ≤ wr.heap.size := hgr.size
          clear k24_B k27_B k7_B n7 oC oA
          obtain ⟨wD, hwD⟩ : ∃ wD, wD = wr := ⟨_, rfl⟩
          subst hwD
          go_wp2_with fail
          go_loopw [30] (fun i wr => ∃ (k : Nat) (ys : List Srs), k ≤ mC.length ∧ i = .int .i64 k ∧ OwnR srsE wr w4.heap.size 66 (.slice pC mC.length cC) ys ∧ ys.length = mC.length ∧ wD.grownBy wr (Value.slice pC mC.length cC).ownBlock) (fun i _ => mC.length - (intOf i).toNat)
          case atStart => exact ⟨0, mC, by omega, rfl, oC_D, rfl, grown_below (Below.refl _ _)⟩
          case round =>
            obtain ⟨k, ys, hk, rfl, ownY, hyl, hgr⟩ := hrel
            have n7 := k7_D.grown hgr (fun e => by have := SC _ e; omega)
            by_cases hlt : k < mC.length
            · have hkl : (k : Int) < (mC.length : Int) := by omega
              have Hyl := Lib.hid hyl
              clear hyl
              obtain ⟨gB, cB, hsh, e1, e2, e3, e4⟩ := ownY.head (by rw [Hyl.out]; omega)
              rw [Hyl.out] at hsh
              simp only [Value.slice.injEq, true_and] at hsh
              obtain ⟨rfl, rfl⟩ := hsh
              rw [Hyl.out] at e3
              unfold maxLen at e4
              have d0 := ownY.cellAt Hyl.out.symm k (by rw [Hyl.out]; exact hlt) 0 (by decide)
              have f0 := ownY.frozenAt Hyl.out.symm (k * 4)
              have m0 := n7.cell 0 _ rfl
              have d1 := ownY.cellAt Hyl.out.symm k (by rw [Hyl.out]; exact hlt) 1 (by decide)
              have f1 := ownY.frozenAt Hyl.out.symm (k * 4 + 1)
              have m1 := n7.cell 1 _ rfl
              have d2 := ownY.cellAt Hyl.out.symm k (by rw [Hyl.out]; exact hlt) 2 (by decide)
              have f2 := ownY.frozenAt Hyl.out.symm (k * 4 + 2)
              have m2 := n7.cell 2 _ rfl
              have d3 := ownY.cellAt Hyl.out.symm k (by rw [Hyl.out]; exact hlt) 3 (by decide)
              have f3 := ownY.frozenAt Hyl.out.symm (k * 4 + 3)
              have m3 := n7.cell 3 _ rfl
              obtain ⟨own2, gr2⟩ := ownY.put Hyl.out.symm k (by rw [Hyl.out]; exact hlt) mkR
              generalize ys[k]'_ = old at d0 d1 d2 d3
              simp only [srsE, List.getElem?_cons_zero, List.getElem?_cons_succ, Nat.add_zero] at d0 d1 d2 d3
              have hki0 : (0 : Int) ≤ (k : Int) := by omega
              have hne : ¬ w0.heap.size = gB := by omega
              have Hgr := Lib.hid hgr
              clear hgr
              go_wp2_with fail
              go_roundw
              case rel => exact ⟨k + 1, ys.set k mkR, by omega, by go_num, own2, by rw [List.length_set]; exact Hyl.out, grown_tr Hgr.out gr2⟩
              case measure => first | (simp [intOf]; done) | (simp [intOf]; omega)
            · have hkl : ¬ (k : Int) < (mC.length : Int) := by omega
              have k7_E := n7
              have k24_E := k24_D.grown hgr (fun e => by have := SC _ e; omega)
              have k27_E := k27_D.grown hgr (fun e => by have := SC _ e; omega)
              have dE : Below w2.heap.size wD wr := below_grown hgr (by have := f_D.size; omega) (fun k h => by have := SC k h; omega)
              have f_E := f_D.trans dE
              have b_E := b_D.trans (dE.mono zb1)
              clear k7_D k24_D k27_D n7
              obtain ⟨⟨x0, x1, x2, x3⟩, _⟩ := srs_cells k27_E
              obtain ⟨⟨y0, y1, y2, y3⟩, _⟩ := srs_cells k24_E
              obtain ⟨⟨t0, t1, t2, t3⟩, _⟩ := srs_cells k7_E
              have heq := eql_Srs want.1 want.1
              rw [decide_eq_true rfl] at heq
              go_wp2_with fail
              refine (intactSrs _ _ (roomyL l1 mkR) l1 mkR _ (HF.out.ext f_E) (HL.out.ext b_E) (by omega)).mono ?_
              rintro e w8 ⟨rfl, c8⟩
              rw [decide_eq_true rfl]
              have b_F := b_E.trans (c8.mono b_E.size)
              go_wp2_with fail
              with_reducible refine (seriesRuns_walk _).mono ?_
              rintro e w7 ⟨rfl, c7⟩
              go_wp2_with fail
              go_ret
              exact ⟨rfl, b_F.trans (c7.mono b_F.size)⟩
end Go.Proofs.Ytmchkhofcjgeaaa
