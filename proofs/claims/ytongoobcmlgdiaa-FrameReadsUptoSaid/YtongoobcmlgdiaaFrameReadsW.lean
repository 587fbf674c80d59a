/- The walk of FrameReads: any bytes asked for a frame anywhere, and gone through. -/
import Derived.Test.YtongoobcmlgdiaaFrameLists
import Derived.Test.YtongoobcmlgdiaaFrmLaws
namespace Go.Proofs.Ytongoobcmlgdiaa
open Go Go.RowKit

theorem xor255_u8 (x : UInt8) : bits .xor .u8 (x.toNat : Int) 255 = ((x ^^^ 255).toNat : Int) := by
  have h : (255 : Int) = (((255 : UInt8).toNat : Nat) : Int) := rfl
  rw [h, u8_xor_nat _ _ x.toNat_lt (255 : UInt8).toNat_lt, UInt8.toNat_xor]
attribute [local go_sem] xor255_u8

theorem OwnParts.shape {w : World} {B : Nat} {v : Value} {ls : List (List UInt8)} (h : OwnParts w B v ls) : ∃ p cap, v = .slice p ls.length cap ∧ ls.length ≤ cap ∧ cap ≤ maxLen := by
  obtain ⟨vs, h1, _⟩ := h
  obtain ⟨p, cap, h, h2, h3, _⟩ := h1.cells.form
  exact ⟨p, cap, h, h2, h3⟩

theorem OwnParts.get {w : World} {B : Nat} {p : Option Addr} {n cap : Nat} {ls : List (List UInt8)} (h : OwnParts w B (.slice p n cap) ls) (k : Nat) (hk : k < ls.length) :
    ∃ b x, p = some ⟨b, 0, none⟩ ∧ w.cell? ⟨b, k, none⟩ = some x ∧ OwnB w B 5 x ls[k] ∧
      ∀ (g cap' j : Nat) (y : UInt8), x = .slice (some ⟨g, 0, none⟩) ls[k].length cap' → OwnParts (w.setCell ⟨g, j, none⟩ (.int .u8 (y.toNat : Int))) B (.slice p n cap) (ls.set k (ls[k].set j y)) := by
  obtain ⟨vs, ho, hr⟩ := h
  have hkv : k < vs.length := by rw [hr.len]; exact hk
  rcases ho.head with ⟨h1, h2⟩ | ⟨b, c, h1, h2, h3, h4, h5⟩
  · omega
  · simp only [Value.slice.injEq] at h1
    obtain ⟨rfl, rfl, rfl⟩ := h1
    have hown := hr.own k vs[k] ls[k] (by simp) (by simp)
    refine ⟨b, vs[k], rfl, ho.cellAt k hkv, hown, fun g cap' j y hx => ?_⟩
    rw [hx] at hown
    obtain ⟨s1, s2⟩ := hown.stored rfl j y
    have hne : ∀ (q : Nat) (u : Value), vs[q]? = some u → q ≠ k → u.ownBlock = none ∨ u.ownBlock ≠ some g := by
      intro q u hu hqk
      cases hub : u.ownBlock with
      | none => exact .inl rfl
      | some m =>
        right
        intro e
        rw [e] at hub
        have hxk : (vs[k]).ownBlock = some g := by rw [hx]; rfl
        rcases Nat.lt_or_gt_of_ne hqk with h | h
        · have := hr.apart q k u vs[k] hu (by simp) h g g hub hxk; omega
        · have := hr.apart k q vs[k] u (by simp) hu h g g hxk hub; omega
    refine ⟨vs, ?_, ⟨by rw [List.length_set]; exact hr.len, fun q u l hu hl => ?_, hr.apart⟩⟩
    · have hnt := Own.ne_type ho hown (by decide)
      have := Own.grown ho s2 hnt
      rw [List.length_set]; exact this
    · by_cases hqk : q = k
      · subst hqk
        rw [List.getElem?_set_self hk] at hl
        rw [List.getElem?_eq_getElem hkv] at hu
        simp at hl hu
        subst hl; subst hu
        rw [hx]; unfold OwnB; unfold OwnB at s1; rw [List.length_set] at s1 ⊢; exact s1
      · rw [List.getElem?_set_ne (fun e => hqk e.symm)] at hl
        exact Own.grown (hr.own q u l hu hl) s2 (hne q u hu hqk)

theorem all_step {b : List UInt8} {a : Nat} (h : Frm.err (b.drop a) = 0) (ha : a ≤ b.length) : (Frm.all (b.drop a)).1 = Frm.pay (b.drop a) :: (Frm.all (b.drop (a + 8 + Frm.len (b.drop a)))).1 ∧ (Frm.all (b.drop a)).2 = 8 + Frm.len (b.drop a) + (Frm.all (b.drop (a + 8 + Frm.len (b.drop a)))).2 ∧ a + 8 + Frm.len (b.drop a) ≤ b.length := by
  obtain ⟨_, _, h3, _⟩ := Frm.err_ok h
  rw [List.length_drop] at h3
  rw [Frm.all_ok h, List.drop_drop, show a + (Frm.len (b.drop a) + 8) = a + 8 + Frm.len (b.drop a) from by omega]
  exact ⟨rfl, by omega, by omega⟩

set_option maxHeartbeats 2000000 in
theorem frameReads_walk (v : Value) (b : List UInt8) (at' : Int) (w : World) (hv : Bytes w v b) (hb : b.length ≤ 1048576) (_h1 : -9223372036854775808 ≤ at') (_h2 : at' ≤ 9223372036854775807) :
    Calls Try.prog 11 #[v, .int .i64 at'] w fun e w' => e = .returned (.bool true) ∧ Below w.heap.size w w' := by
  obtain ⟨p0, c0, rfl⟩ := hv.shape
  go_enter Try.func11, Try.ntmps11
  go_wp2_with fail
  with_reducible refine (roomyBytes _ b 0 0 rfl _ hv (by omega)).mono ?_
  rintro e w1 ⟨g, rfl, own, b1⟩
  have hs := run_sub_to tBytes (P := Try.prog) (Own.cells own) .i64 (b.length : Int) b.length rfl (by rw [roomy_length]; omega)
  have hsub := own.bytes.sub 0 b.length (by omega) (by rw [roomy_length]; omega)
  have e0 : ((roomy b 0).drop 0).take (b.length - 0) = b := by simp [roomy]
  rw [e0] at hsub
  generalize subV _ 0 b.length 1 = vo at *
  obtain ⟨r, rap, rfl⟩ := hsub.shape
  clear e0
  go_wp2_with fail
  with_reducible refine (frameNext _ b at' _ hsub (by omega)).mono ?_
  rintro e w2 ⟨rp, rfl, ownp, b2⟩
  have b02 := b1.trans (b2.mono b1.size)
  go_wp2_with fail
  with_reducible refine (refNext _ b at' _ (hv.ext b02) (by omega)).mono ?_
  rintro e w3 ⟨rq, rfl, ownq, b3⟩
  have b13 := b2.trans (b3.mono b2.size)
  go_wp2_with fail
  with_reducible refine (sameBytes _ _ _ _ _ (ownp.ext b3).bytes ownq.bytes).mono ?_
  rintro e w4 ⟨rfl, n4, h4⟩
  replace h4 : Below w1.heap.size w1 w4 := by rw [h4]; exact b13.trans (below_drawn _ _ _)
  rw [decide_eq_true rfl]
  clear ownp ownq b2 b3 b02 b13 hs
  go_wp2_with fail
  with_reducible refine (frameScan _ b _ (hsub.ext h4) (by omega)).mono ?_
  rintro e w5 ⟨rl, rfl, ownl, b5⟩
  have b15 := h4.trans (b5.mono h4.size)
  have hv5 := hv.ext (b1.trans (b15.mono b1.size))
  have hsz : w1.heap.size ≤ w4.heap.size := h4.size
  obtain ⟨pl, cl, rfl, hl1, hl2⟩ := ownl.shape
  unfold maxLen at hl2
  clear hsub h4 b5
  generalize hLL : (Frm.all b).1 = L at *
  generalize hEE : (Frm.all b).2 = E at *
  have HL := Lib.hid hLL
  have HE := Lib.hid hEE
  clear hLL hEE
  go_wp2_with fail
  go_loopw [15, 16] (fun n i wr => ∃ k nk : Nat, i = .int .i64 k ∧ n = .int .i64 nk ∧ nk ≤ b.length ∧ k ≤ L.length ∧ k ≤ nk ∧ Hid (L.drop k = (Frm.all (b.drop nk)).1 ∧ E = nk + (Frm.all (b.drop nk)).2) ∧ Below w5.heap.size w5 wr) (fun n _ _ => b.length - (intOf n).toNat)
  case atStart => exact ⟨0, 0, rfl, rfl, by omega, by omega, by omega, by show _ ∧ _; simp [HL.out, HE.out], Below.refl _ _⟩
  case round =>
    obtain ⟨k, nk, rfl, rfl, hnk, hk, hkn, hinv, hbr⟩ := hrel
    by_cases hbad : Frm.err (b.drop nk) = 0
    · obtain ⟨e1, e2, e3⟩ := next_ok hnk hbad
      obtain ⟨s1, s2, s3⟩ := all_step hbad hnk
      have hd1 := hinv.out.1
      have hd2 := hinv.out.2
      rw [s1] at hd1
      rw [s2] at hd2
      have hkl : k < L.length := by
        rcases Nat.lt_or_ge k L.length with h | h
        · exact h
        · rw [List.drop_of_length_le h] at hd1; cases hd1
      have hLk : L[k] = Frm.pay (b.drop nk) ∧ L.drop (k + 1) = (Frm.all (b.drop (nk + 8 + Frm.len (b.drop nk)))).1 := by
        rw [List.drop_eq_getElem_cons hkl] at hd1
        exact ⟨(List.cons.inj hd1).1, (List.cons.inj hd1).2⟩
      obtain ⟨bl, xk, rfl, hcell, hown, _⟩ := (ownl.ext hbr).get k hkl
      have hinv' : Hid (L.drop (k + 1) = (Frm.all (b.drop (nk + 8 + Frm.len (b.drop nk)))).1 ∧ E = (nk + 8 + Frm.len (b.drop nk)) + (Frm.all (b.drop (nk + 8 + Frm.len (b.drop nk)))).2) := ⟨hLk.2, by omega⟩
      have hLk1 := Lib.hid hLk.1
      clear hd1 hd2 s1 s2 hLk hinv
      go_wp2_with fail
      with_reducible refine (refNext _ b nk _ (hv5.ext hbr) (by omega)).mono ?_
      rintro e w6 ⟨x, rfl, ownx, b6⟩
      rw [e1, e2]
      rw [e3] at ownx
      have hown6 := hown.ext b6
      rw [hLk1.out] at hown6
      have hcell6 := (b6.cell (p := ⟨bl, k, none⟩) (World.block_lt_of_cell? _ _ hcell)).trans hcell
      have hge : ¬ (L.length : Int) ≤ (k : Int) := by omega
      clear e1 e2 e3 hcell hown
      generalize Frm.len (b.drop nk) = ln at *
      generalize Frm.pay (b.drop nk) = py at *
      obtain ⟨px, cx, rfl⟩ := hown6.bytes.shape
      go_wp2_with fail
      with_reducible refine (sameBytes _ _ _ _ _ hown6.bytes ownx.bytes).mono ?_
      rintro e w7 ⟨rfl, n7, hw7⟩
      replace hw7 : Below w5.heap.size w5 w7 := by rw [hw7]; exact hbr.trans ((b6.mono hbr.size).trans (below_drawn _ _ _))
      rw [decide_eq_true rfl]
      go_wp2_with fail
      go_roundw
      case rel => exact ⟨k + 1, nk + 8 + ln, by go_num, by first | rfl | (congr 1; omega), by omega, by omega, by omega, hinv', hw7⟩
      case measure => simp [intOf]; omega
    · have hz := Frm.all_bad hbad
      obtain ⟨q, hq, hq0⟩ : ∃ q : Nat, Frm.err (b.drop nk) = q ∧ q ≠ 0 := ⟨_, rfl, hbad⟩
      obtain ⟨e1, e2, e3⟩ := next_bad hnk hq0 hq
      have hd := hinv.out
      rw [hz] at hd
      have hkL : k = L.length := by
        have := congrArg List.length hd.1
        rw [List.length_drop] at this
        simp at this; omega
      have hqi : ((q : Int) != 0) = true := by simp; omega
      have hne1 : ((k : Int) != (L.length : Int)) = false := by simp; omega
      have hne2 : ((E : Int) != (nk : Int)) = false := by have := hd.2; simp at this ⊢; omega
      have ownr := ownl.ext hbr
      clear hz hq hbad hd hkL hinv e3
      go_wp2_with fail
      with_reducible refine (refNext _ b nk _ (hv5.ext hbr) (by omega)).mono ?_
      rintro e w6 ⟨x, rfl, _, b6⟩
      rw [e1, e2]
      have ownr6 := ownr.ext b6
      have b16 : Below w1.heap.size w1 w6 := b15.trans ((hbr.trans (b6.mono hbr.size)).mono b15.size)
      clear e1 e2 ownr ownl hbr hv5 b15
      go_wp2_with fail
      go_loopw [20] (fun i wr => ∃ k : Nat, i = .int .i64 k ∧ k ≤ L.length ∧ (∃ ls', ls'.length = L.length ∧ OwnParts wr w4.heap.size (.slice pl L.length cl) ls') ∧ Below w1.heap.size w1 wr) (fun i _ => L.length - (intOf i).toNat)
      case atStart => exact ⟨0, rfl, by omega, ⟨L, rfl, ownr6⟩, b16⟩
      case round =>
        obtain ⟨m, rfl, hm, ⟨ls', hls, ownm⟩, hbm⟩ := hrel
        clear ownr6 b16
        by_cases hml : m < L.length
        · go_wp2_with fail
          go_loopw [21] (fun j wr => ∃ t : Nat, j = .int .i64 t ∧ (∃ ls2, ls2.length = L.length ∧ (∀ h : m < ls2.length, t ≤ ls2[m].length) ∧ OwnParts wr w4.heap.size (.slice pl L.length cl) ls2 ∧ ∀ h : m < ls2.length, ls2[m].length ≤ 9223372036854775807 ∧ ls2[m].length = (ls'[m]'(by omega)).length) ∧ Below w1.heap.size w1 wr) (fun j _ => (ls'[m]'(by omega)).length - (intOf j).toNat)
          case atStart =>
            refine ⟨0, rfl, ⟨ls', hls, fun h => by omega, ownm, fun h => ⟨?_, rfl⟩⟩, hbm⟩
            obtain ⟨_, x, _, _, hx, _⟩ := ownm.get m (by omega)
            have := Cells.le hx.bytes
            unfold maxLen at this; omega
          case round =>
            obtain ⟨t, rfl, ⟨ls2, hl2', htl, own2, hll⟩, hb2⟩ := hrel
            obtain ⟨bl, x, rfl, hcell, hx, hst⟩ := own2.get m (by omega)
            have htl' := htl (by omega)
            obtain ⟨hll1, hll2⟩ := hll (by omega)
            by_cases htt : t < ls2[m].length
            · obtain ⟨gx, cx, rfl, hg1, hg2, hg3, hg4⟩ := hx.head (by omega)
              have hc2 := hx.cellAt rfl t htt
              have hf2 := hx.frozenAt rfl t
              have hst' := hst gx cx t (ls2[m][t] ^^^ 255) rfl
              have hx255 : (ls2[m][t] ^^^ 255).toNat = ls2[m][t].toNat ^^^ 255 := UInt8.toNat_xor _ _
              rw [hx255] at hst'
              clear hx255
              generalize ls2[m][t] = xt at *
              generalize hlm : ls2[m].length = lm at *
              unfold maxLen at hg4
              have Hlm := Lib.hid hlm
              have Hll := Lib.hid hll2
              clear hlm hll2 hst htl hll own2 hx
              go_wp2
              have hset : ∀ (y : UInt8) (h : m < (ls2.set m (ls2[m].set t y)).length), (ls2.set m (ls2[m].set t y))[m].length = lm := fun y h => by rw [List.getElem_set_self, List.length_set, Hlm.out]
              go_roundw
              case rel => exact ⟨t + 1, by go_num, ⟨_, by rw [List.length_set]; exact hl2', fun h => by rw [hset]; omega, hst', fun h => ⟨by rw [hset]; exact hll1, by rw [hset, Hll.out]⟩⟩, hb2.setCell (p := ⟨gx, t, none⟩) (Nat.le_trans hsz hg1) _⟩
              case measure => have := Hll.out; simp [intOf]; omega
            · obtain ⟨px, cx, rfl⟩ := hx.bytes.shape
              clear hst htl hx
              go_wp2
              go_roundw
              case rel => exact ⟨m + 1, by go_num, by omega, ⟨ls2, hl2', own2⟩, hb2⟩
              case measure => simp [intOf]; omega
        · have hfin := b1.trans (hbm.mono b1.size)
          go_wp2_with fail
          with_reducible refine (intactBytes _ _ _ b 0 0 rfl _ (own.ext hbm).bytes (hv.ext hfin) (by omega)).mono ?_
          rintro e w9 ⟨rfl, n9, rfl⟩
          rw [decide_eq_true rfl]
          replace hfin := hfin.trans (below_drawn w.heap.size _ n9)
          go_wp2_with fail
          with_reducible refine (frameRuns _).mono ?_
          rintro e w10 ⟨rfl, b10⟩
          replace hfin := hfin.trans (b10.mono hfin.size)
          go_wp2_with fail
          go_ret
          exact ⟨rfl, hfin⟩

end Go.Proofs.Ytongoobcmlgdiaa
