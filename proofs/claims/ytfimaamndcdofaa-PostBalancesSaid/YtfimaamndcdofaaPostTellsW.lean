/- The walk of PostTells. -/
import Derived.Test.YtfimaamndcdofaaPostRuns
import Derived.Test.YtfimaamndcdofaaEntRef
import Derived.Test.YtfimaamndcdofaaEnterRef
namespace Go.Proofs.Ytfimaamndcdofaa
open Go Go.RowKit

def resL {α : Type} (r : Except Int (List α)) : List α := match r with | .ok l => l | .error _ => []
def resE {α : Type} (r : Except Int (List α)) : Int := match r with | .ok _ => 0 | .error n => n
theorem TellsL.uni {α : Type} {E : Enc α} {w' : World} {B : Nat} {t : TypeId} {r : Except Int (List α)} {e : Ending} (h : TellsL E w' B t r e) :
    ∃ v, e = .returned (.tuple #[v, .int .i64 (resE r)]) ∧ OwnR E w' B t v (resL r) := by
  cases r with
  | ok l => exact h
  | error n => exact ⟨_, h, OwnR.nil _ _ _⟩
theorem putB_length {acc m : List Bal} {x : Bal} (h : putB acc x = .ok m) : m.length ≤ acc.length + 1 := by
  unfold putB at h
  simp only at h
  split at h
  · cases h; rw [List.length_set]; exact withB_length _ _
  · cases h
theorem enterTo_length {acc l m : List Bal} (h : enterTo acc l = .ok m) : m.length ≤ acc.length + l.length := by
  induction l generalizing acc with
  | nil => simp only [enterTo, Except.ok.injEq] at h; subst h; simp
  | cons x l ih =>
    unfold enterTo at h
    cases hp : putB acc x with
    | error n => rw [hp] at h; cases h
    | ok m' =>
      rw [hp] at h
      have h1 := ih h
      have h2 := putB_length hp
      simp only [List.length_cons]; omega
theorem enter_length (book l : List Bal) : (resL (enter book l)).length ≤ book.length + l.length := by
  unfold enter
  split
  · cases h : enterTo book l with
    | ok m => exact enterTo_length h
    | error n => simp [resL]
  · simp [resL]

def sM : ByteArray := { data := #[109] }
def sN : ByteArray := { data := #[110] }

set_option maxHeartbeats 8000000 in
set_option maxRecDepth 100000 in
theorem postTells_walk (net tax gross : Int) (vp vb vl : Value) (ps : List Part) (book l : List Bal) (w : World) (hp : Rd partE w vp ps) (hb : Rd balE w vb book) (hl : Rd balE w vl l)
    (hfp : ∀ p ∈ ps, Mon.fits p.net ∧ Mon.fits p.tax) (hsp : ∀ p ∈ ps, p.cat.size ≤ 140737488355328) (hfb : ∀ y ∈ book, Mon.fits y.2) (hfl : ∀ y ∈ l, Mon.fits y.2) :
    Calls Try.prog 4 #[.agg #[.int .i64 net, .int .i64 tax, .int .i64 gross, vp], vb, vl] w fun e w' => e = .returned (.bool true) ∧ Below w.heap.size w w' := by
  obtain ⟨book1, hbook1⟩ : ∃ m, m = book.take 60 := ⟨_, rfl⟩
  obtain ⟨l1, hl1⟩ : ∃ m, m = l.take 60 := ⟨_, rfl⟩
  have nb1 : book1.length ≤ 60 := by rw [hbook1, List.length_take]; omega
  have nl1 : l1.length ≤ 60 := by rw [hl1, List.length_take]; omega
  have Fb : Hid (∀ y ∈ book1, Mon.fits y.2) := fun y hy => hfb y (by rw [hbook1] at hy; exact List.mem_of_mem_take hy)
  have Fl : Hid (∀ y ∈ l1, Mon.fits y.2) := fun y hy => hfl y (by rw [hl1] at hy; exact List.mem_of_mem_take hy)
  have Hb1 := Lib.hid hbook1
  have Hl1 := Lib.hid hl1
  have hcase : ∃ (vp1 : Value) (ps1 : List Part), Rd partE w vp1 ps1 ∧ ps1.length ≤ 40 ∧ Hid (∀ p ∈ ps1, Mon.fits p.net ∧ Mon.fits p.tax) ∧ Hid (∀ p ∈ ps1, p.cat.size ≤ 140737488355328) ∧ ((40 < ps.length ∧ ∀ w', (Instr.slice 28 vp none (some (.int .i64 40)) none).run Try.prog w' = .ok vp1 w') ∨ (¬ 40 < ps.length ∧ vp1 = vp)) := by
    by_cases h : 40 < ps.length
    · have hsub := hp.sub 0 40 (by omega) (by omega)
      refine ⟨_, _, hsub, by simp; omega, fun x hx => hfp x ?_, fun x hx => hsp x ?_, .inl ⟨h, fun w' => run_sub_to tPart hp .i64 40 40 rfl (by omega) w'⟩⟩
      · exact List.mem_of_mem_drop (List.mem_of_mem_take hx)
      · exact List.mem_of_mem_drop (List.mem_of_mem_take hx)
    · exact ⟨vp, ps, hp, by omega, hfp, hsp, .inr ⟨h, rfl⟩⟩
  obtain ⟨vp1, ps1, hp1, np1, Fp, Sp, hcase⟩ := hcase
  obtain ⟨pp, capp, rfl⟩ := hp.shape
  clear hp hfp hsp hfb hfl hbook1 hl1

  rcases hcase with ⟨h, hs⟩ | ⟨h, hs⟩
  all_goals
    first
    | subst hs
    | (obtain ⟨p1, cap1, rfl⟩ := hp1.shape)
    have b0 := below_alloc w (.cells #[.int .i64 net, .int .i64 tax, .int .i64 gross, .slice pp ps.length capp] 30)
    have hk0 := Blk.new w #[.int .i64 net, .int .i64 tax, .int .i64 gross, .slice pp ps.length capp] 30
    go_enter Try.func4, Try.ntmps4
    generalize hw0 : w.alloc (.cells #[.int .i64 net, .int .i64 tax, .int .i64 gross, .slice pp ps.length capp] 30) = w0 at b0 hk0
    have m3 := hk0.cell 3 _ rfl
    have f3 := hk0.frozen 3
    have hb0 := hb.ext b0
    have hl0 := hl.ext b0
    go_wp2_with fail
    clear hw0
    with_reducible refine (fewCalls _ book _ hb0).mono ?_
    rintro e w' ⟨⟨vb1, rfl, hb1⟩, rfl⟩
    rw [← Hb1.out] at hb1
    have HB1 := Lib.hid hb1
    clear hb0 hb1
    go_wp2_with fail
    with_reducible refine (fewCalls _ l _ hl0).mono ?_
    rintro e w' ⟨⟨vl1, rfl, hl1⟩, rfl⟩
    rw [← Hl1.out] at hl1
    have HL1 := Lib.hid hl1
    clear hl0 hl1
    first
    | (have hq : (40 : Int) < (ps.length : Int) := by omega)
    | (have hq : ¬ (40 : Int) < (ps.length : Int) := by omega)
    go_wp2_with fail
    clear m3 f3 hq
    first
    | (have hk3 : Blk (w0.setCell ⟨w.heap.size, 3, none⟩ (.slice p1 ps1.length cap1)) w.heap.size #[.int .i64 net, .int .i64 tax, .int .i64 gross, .slice p1 ps1.length cap1] 30 := hk0.set 3 _
       have b_3 := b0.setCell (p := ⟨w.heap.size, 3, none⟩) (Nat.le_refl _) (.slice p1 ps1.length cap1)
       generalize w0.setCell ⟨w.heap.size, 3, none⟩ (.slice p1 ps1.length cap1) = w3 at hk3 b_3 ⊢
       clear hk0 b0 hs
       generalize Value.slice p1 ps1.length cap1 = vq at hk3 hp1 ⊢)
    | (have hk3 := hk0
       have b_3 := b0
       clear hk0 b0
       generalize w0 = w3 at hk3 b_3 ⊢
       generalize Value.slice pp ps.length capp = vq at hk3 hp1 ⊢)
    with_reducible refine (toCalls _ _ _).mono ?_
    rintro e w4 ⟨rfl, c4⟩
    have b_4 := b_3.trans (c4.mono b_3.size)
    clear b_3
    have hk4 := hk3.ext c4
    clear hk3 c4
    go_wp2_with fail
    refine (roomyBal _ book1 (sM, 3) _ (HB1.out _ (hb.ext b_4)) (by omega)).mono ?_
    rintro e w5 ⟨gF, rfl, ownF, c5⟩
    have b_5 := b_4.trans (c5.mono b_4.size)
    have hk5 := hk4.ext c5
    clear hk4 c5
    go_wp2_with fail
    with_reducible refine (toCalls _ _ _).mono ?_
    rintro e w6 ⟨rfl, c6⟩
    have b_6 := b_5.trans (c6.mono b_5.size)
    have f_6 := (Below.refl w5.heap.size w5).trans (c6.mono (Below.refl w5.heap.size w5).size)
    have hk6 := hk5.ext c6
    clear hk5 c6
    go_wp2_with fail
    refine (roomyBal _ l1 (sN, 4) _ (HL1.out _ (hl.ext b_6)) (by omega)).mono ?_
    rintro e w7 ⟨gM, rfl, ownM, c7⟩
    have b_7 := b_6.trans (c7.mono b_6.size)
    have f_7 := f_6.trans (c7.mono f_6.size)
    have hk7 := hk6.ext c7
    clear hk6 c7
    have t0 := hk7.cell 0 _ rfl
    have t1 := hk7.cell 1 _ rfl
    have t2 := hk7.cell 2 _ rfl
    have t3 := hk7.cell 3 _ rfl
    go_wp2_with fail
    with_reducible refine (postEntries net tax gross _ ps1 _ (hp1.ext b_7) Fp.out Sp.out (by omega)).mono ?_
    rintro e w8 ⟨hT, c8⟩
    have b_8 := b_7.trans (c8.mono b_7.size)
    have f_8 := f_7.trans (c8.mono f_7.size)
    have m_8 := (Below.refl w7.heap.size w7).trans (c8.mono (Below.refl w7.heap.size w7).size)
    obtain ⟨va, rfl, ownA⟩ := hT.uni
    have rdA := ownA.rd
    have hk8 := hk7.ext c8
    clear hk7 c8 t0 t1 t2 t3 hT ownA
    have t0 := hk8.cell 0 _ rfl
    have t1 := hk8.cell 1 _ rfl
    have t2 := hk8.cell 2 _ rfl
    have t3 := hk8.cell 3 _ rfl
    go_wp2_with fail
    with_reducible refine (refEntries net tax gross _ ps1 _ (hp1.ext b_8) Fp.out Sp.out (by omega)).mono ?_
    rintro e w9 ⟨hT, c9⟩
    have b_9 := b_8.trans (c9.mono b_8.size)
    have f_9 := f_8.trans (c9.mono f_8.size)
    have m_9 := m_8.trans (c9.mono m_8.size)
    have p_9 := (Below.refl w8.heap.size w8).trans (c9.mono (Below.refl w8.heap.size w8).size)
    obtain ⟨vu, rfl, ownU⟩ := hT.uni
    have rdU := ownU.rd
    clear hk8 c9 t0 t1 t2 t3 hT ownU
    have rF := (ownF.rd).ext f_9
    have rM := (ownM.rd).ext m_9
    have sF := run_sub_to tBal (P := Try.prog) rF .i64 (book1.length : Int) book1.length rfl (by rw [roomyL_length]; omega)
    have sM' := run_sub_to tBal (P := Try.prog) rM .i64 (l1.length : Int) l1.length rfl (by rw [roomyL_length]; omega)
    have hF := rF.sub 0 book1.length (Nat.zero_le _) (by rw [roomyL_length]; omega)
    have hM := rM.sub 0 l1.length (Nat.zero_le _) (by rw [roomyL_length]; omega)
    rw [show ((roomyL book1 ((sM, 3) : Bal)).drop 0).take (book1.length - 0) = book1 from by simp [roomyL]] at hF
    rw [show ((roomyL l1 ((sN, 4) : Bal)).drop 0).take (l1.length - 0) = l1 from by simp [roomyL]] at hM
    rw [show balE.sz = 2 from rfl] at hF hM
    generalize subV (.slice (some ⟨gF, 0, none⟩) (book1.length + 80) (book1.length + 80)) 0 book1.length 2 = vF at *
    generalize subV (.slice (some ⟨gM, 0, none⟩) (l1.length + 80) (l1.length + 80)) 0 l1.length 2 = vM at *
    clear rF rM
    obtain ⟨pb1, cb1, rfl⟩ := (HB1.out _ (hb.ext b_9)).shape
    obtain ⟨pl1, cl1, rfl⟩ := (HL1.out _ (hl.ext b_9)).shape
    go_wp2_with fail
    go_region_held3 (fun _ => True) (exact trivial) (first | (go_at_call 9; (with_reducible refine (postEnter vF vM book1 l1 _ hF.drew hM.drew Fb.out Fl.out (by omega)).mono ?_); (rintro e w10 ⟨hT, c10⟩); (obtain ⟨vbn, rfl, ownB⟩ := hT.uni); clear hT))
    replace c10 := (below_drew w9.heap.size w9).trans c10
    clear sF sM' hF hM
    have b_10 := b_9.trans (c10.mono b_9.size)
    have f_10 := f_9.trans (c10.mono f_9.size)
    have m_10 := m_9.trans (c10.mono m_9.size)
    have p_10 := p_9.trans (c10.mono p_9.size)
    have q_10 := (Below.refl w9.heap.size w9).trans (c10.mono (Below.refl w9.heap.size w9).size)
    have hB9 : w9.heap.size ≤ w10.heap.size := c10.size
    have ownB : OwnR balE w10 w9.heap.size 33 vbn (resL (enter book1 l1)) := ownB
    clear c10
    go_wp2_with fail
    with_reducible refine (refEnter _ _ book1 l1 _ (HB1.out _ (hb.ext b_10)) (HL1.out _ (hl.ext b_10)) Fb.out Fl.out (by omega)).mono ?_
    rintro e w11 ⟨hT, c11⟩
    have b_11 := b_10.trans (c11.mono b_10.size)
    have f_11 := f_10.trans (c11.mono f_10.size)
    have m_11 := m_10.trans (c11.mono m_10.size)
    have p_11 := p_10.trans (c11.mono p_10.size)
    have q_11 := q_10.trans (c11.mono q_10.size)
    have r_11 := (Below.refl w10.heap.size w10).trans (c11.mono (Below.refl w10.heap.size w10).size)
    obtain ⟨vw, rfl, ownW⟩ := hT.uni
    have rdW := ownW.rd
    clear c11 hT ownW
    go_wp2_with fail
    refine (sameBal _ _ _ _ _ (rdA.ext p_11) (rdU.ext q_11)).mono ?_
    rintro e w12 ⟨rfl, n12, hw12⟩
    rw [decide_eq_true rfl]
    have c12 : Below w11.heap.size w11 w12 := by rw [hw12]; exact below_drawn _ _ _
    clear hw12
    have b_12 := b_11.trans (c12.mono b_11.size)
    have f_12 := f_11.trans (c12.mono f_11.size)
    have m_12 := m_11.trans (c12.mono m_11.size)
    have p_12 := p_11.trans (c12.mono p_11.size)
    have q_12 := q_11.trans (c12.mono q_11.size)
    have r_12 := r_11.trans (c12.mono r_11.size)
    have s_12 := (Below.refl w11.heap.size w11).trans (c12.mono (Below.refl w11.heap.size w11).size)
    clear c12
    go_wp2_with fail
    refine (sameBal _ _ _ _ _ (ownB.rd.ext r_12) (rdW.ext s_12)).mono ?_
    rintro e w13 ⟨rfl, n13, hw13⟩
    rw [decide_eq_true rfl]
    have c13 : Below w12.heap.size w12 w13 := by rw [hw13]; exact below_drawn _ _ _
    clear hw13
    have b_13 := b_12.trans (c13.mono b_12.size)
    have f_13 := f_12.trans (c13.mono f_12.size)
    have m_13 := m_12.trans (c13.mono m_12.size)
    have r_13 := r_12.trans (c13.mono r_12.size)
    have s_13 := s_12.trans (c13.mono s_12.size)
    clear c13
    go_wp2_with fail
    with_reducible refine (postRight _ book1 _ (HB1.out _ (hb.ext b_13))).mono ?_
    rintro e w14 ⟨rfl, n14, hw14⟩
    have c14 : Below w13.heap.size w13 w14 := by rw [hw14]; exact below_drawn _ _ _
    clear hw14
    have b_14 := b_13.trans (c14.mono b_13.size)
    have f_14 := f_13.trans (c14.mono f_13.size)
    have m_14 := m_13.trans (c14.mono m_13.size)
    have r_14 := r_13.trans (c14.mono r_13.size)
    clear c14
    go_wp2_with fail
    with_reducible refine (bookRight _ book1 _ (HB1.out _ (hb.ext b_14))).mono ?_
    rintro e w15 ⟨rfl, n15, hw15⟩
    have c15 : Below w14.heap.size w14 w15 := by rw [hw15]; exact below_drawn _ _ _
    clear hw15
    have b_15 := b_14.trans (c15.mono b_14.size)
    have f_15 := f_14.trans (c15.mono f_14.size)
    have m_15 := m_14.trans (c15.mono m_14.size)
    have r_15 := r_14.trans (c15.mono r_14.size)
    clear c15
    go_wp2_with fail
    with_reducible refine (postBalanced _ l1 _ (HL1.out _ (hl.ext b_15)) Fl.out (by omega)).mono ?_
    rintro e w16 ⟨rfl, c16⟩
    have b_16 := b_15.trans (c16.mono b_15.size)
    have f_16 := f_15.trans (c16.mono f_15.size)
    have m_16 := m_15.trans (c16.mono m_15.size)
    have r_16 := r_15.trans (c16.mono r_15.size)
    clear c16
    go_wp2_with fail
    with_reducible refine (refBalanced _ l1 _ (HL1.out _ (hl.ext b_16)) Fl.out (by omega)).mono ?_
    rintro e w17 ⟨rfl, c17⟩
    have b_17 := b_16.trans (c17.mono b_16.size)
    have f_17 := f_16.trans (c17.mono f_16.size)
    have m_17 := m_16.trans (c17.mono m_16.size)
    have r_17 := r_16.trans (c17.mono r_16.size)
    clear c17
    generalize decide ((amts l1).sum = 0) = bal at *
    generalize rightB book1 = rgt at *
    go_wp2_with fail
    have ownB17 := ownB.ext r_17
    have hlenB := enter_length book1 l1
    generalize resL (enter book1 l1) = mB at *
    obtain ⟨pB, cB, rfl⟩ := ownB.rd.shape
    have hB17 : w9.heap.size ≤ w17.heap.size := Nat.le_trans hB9 r_17.size
    clear ownB
    go_loopw [17] (fun i wr => ∃ (k : Nat) (ys : List Bal), k ≤ mB.length ∧ i = .int .i64 k ∧ OwnR balE wr w9.heap.size 33 (.slice pB mB.length cB) ys ∧ ys.length = mB.length ∧ Below w9.heap.size w17 wr) (fun i _ => mB.length - (intOf i).toNat)
    case atStart => exact ⟨0, mB, by omega, rfl, ownB17, rfl, Below.refl _ _⟩
    case round =>
      obtain ⟨k, ys, hk, rfl, ownY, hyl, hbl⟩ := hrel
      by_cases hlt : k < mB.length
      · have hkl : (k : Int) < (mB.length : Int) := by omega
        have Hyl := Lib.hid hyl
        clear hyl
        go_wp2_with fail
        with_reducible refine (toCalls _ _ _).mono ?_
        rintro e w18 ⟨rfl, c18⟩
        have own18 := ownY.ext c18
        have hb18 := hbl.trans (c18.mono (Nat.le_trans hB17 hbl.size))
        clear ownY c18
        obtain ⟨gB, cB', hsh, e1, e2, e3, e4⟩ := own18.head (by rw [Hyl.out]; omega)
        rw [Hyl.out] at hsh
        simp only [Value.slice.injEq, true_and] at hsh
        obtain ⟨rfl, rfl⟩ := hsh
        have d0 := own18.cellAt Hyl.out.symm k (by rw [Hyl.out]; exact hlt) 0 (by decide)
        have d1 := own18.cellAt Hyl.out.symm k (by rw [Hyl.out]; exact hlt) 1 (by decide)
        have f0 := own18.frozenAt Hyl.out.symm (k * 2)
        have f1 := own18.frozenAt Hyl.out.symm (k * 2 + 1)
        obtain ⟨own19, gr19⟩ := own18.put Hyl.out.symm k (by rw [Hyl.out]; exact hlt) ({ data := #[115, 112, 111, 105, 108, 116] }, -1)
        generalize ys[k]'_ = old at d0 d1
        simp only [balE, List.getElem?_cons_zero, List.getElem?_cons_succ, Nat.add_zero] at d0 d1
        go_wp2_with fail
        go_roundw
        case rel => exact ⟨k + 1, ys.set k ({ data := #[115, 112, 111, 105, 108, 116] }, -1), by omega, by go_num, own19, by rw [List.length_set]; exact Hyl.out, (hb18.setCell (p := ⟨gB, _, none⟩) e1 _).setCell (p := ⟨gB, _, none⟩) e1 _⟩
        case measure => simp [intOf]; omega
      · have hkl : ¬ (k : Int) < (mB.length : Int) := by omega
        have b_18 := b_17.trans (hbl.mono b_9.size)
        have f_18 := f_17.trans (hbl.mono f_9.size)
        have m_18 := m_17.trans (hbl.mono m_9.size)
        clear ownY ownB17
        go_wp2_with fail
        with_reducible refine (toCalls _ _ _).mono ?_
        rintro e w19 ⟨rfl, c19⟩
        have b_19 := b_18.trans (c19.mono b_18.size)
        have f_19 := f_18.trans (c19.mono f_18.size)
        have m_19 := m_18.trans (c19.mono m_18.size)
        clear c19
        go_wp2_with fail
        refine (intactBal _ _ (roomyL book1 (sM, 3)) book1 (sM, 3) _ (ownF.rd.ext f_19) (HB1.out _ (hb.ext b_19)) (by omega)).mono ?_
        rintro e w20 ⟨rfl, c20⟩
        rw [decide_eq_true rfl]
        have b_20 := b_19.trans (c20.mono b_19.size)
        have m_20 := m_19.trans (c20.mono m_19.size)
        clear c20
        go_wp2_with fail
        with_reducible refine (toCalls _ _ _).mono ?_
        rintro e w21 ⟨rfl, c21⟩
        have b_21 := b_20.trans (c21.mono b_20.size)
        have m_21 := m_20.trans (c21.mono m_20.size)
        clear c21
        go_wp2_with fail
        refine (intactBal _ _ (roomyL l1 (sN, 4)) l1 (sN, 4) _ (ownM.rd.ext m_21) (HL1.out _ (hl.ext b_21)) (by omega)).mono ?_
        rintro e w22 ⟨rfl, c22⟩
        rw [decide_eq_true rfl]
        have b_22 := b_21.trans (c22.mono b_21.size)
        clear c22
        go_wp2_with fail
        with_reducible refine (postRuns_walk _).mono ?_
        rintro e w23 ⟨rfl, c23⟩
        go_wp2_with fail
        go_ret
        exact ⟨rfl, b_22.trans (c23.mono b_22.size)⟩
end Go.Proofs.Ytfimaamndcdofaa
