/- The walks of layer 1's laws, continued: sealed bytes. -/
import Derived.Test.YtongoobcmlgdiaaSumLaws
namespace Go.Proofs.Ytongoobcmlgdiaa
open Go Go.RowKit

set_option maxHeartbeats 1000000 in
theorem sumSeals_walk (v : Value) (p : List UInt8) (u : Value) (b : List UInt8) (w : World) (hv : Bytes w v p) (hp : p.length ≤ 140737488351232) (hu : Bytes w u b) (hb : b.length ≤ 140737488351232) :
    Calls Try.prog 6 #[v, u] w fun e w' => e = .returned (.bool true) ∧ Below w.heap.size w w' := by
  obtain ⟨p0, cap0, rfl⟩ := hv.shape
  obtain ⟨q0, dap0, rfl⟩ := hu.shape
  go_enter Try.func6, Try.ntmps6
  go_wp2_with fail
  with_reducible refine (roomyBytes _ p 17 17 rfl _ hv (by omega)).mono ?_
  rintro e w1 ⟨g, rfl, own, b1⟩
  have hs := run_sub_to tBytes (P := Try.prog) (Own.cells own) .i64 (p.length : Int) p.length rfl (by rw [roomy_length]; omega)
  have hsub := own.bytes.sub 0 p.length (by omega) (by rw [roomy_length]; omega)
  have e0 : ((roomy p 17).drop 0).take (p.length - 0) = p := by simp [roomy]
  rw [e0] at hsub
  generalize subV _ 0 p.length 1 = vo at *
  obtain ⟨r, rap, rfl⟩ := hsub.shape
  clear e0
  go_wp2_with fail
  with_reducible refine (sumSeal _ p _ hsub (by omega)).mono ?_
  rintro e w2 ⟨s, rfl, owns, b2⟩
  clear hs hsub
  go_wp2_with fail
  have b02 := b1.trans (b2.mono b1.size)
  with_reducible refine (sumOpen _ b _ (hu.ext b02) (by omega)).mono ?_
  rintro e w3 ⟨x, rfl, ownx, b3⟩
  have b03 := b02.trans (b3.mono b02.size)
  go_wp2_with fail
  with_reducible refine (refOpen _ b _ (hu.ext b03) (by omega)).mono ?_
  rintro e w4 ⟨y, rfl, owny, b4⟩
  have b04 := b03.trans (b4.mono b03.size)
  go_wp2_with fail
  with_reducible refine (refSeal _ p _ (hv.ext b04) (by omega)).mono ?_
  rintro e w5 ⟨z, rfl, ownz, b5⟩
  have b05 := b04.trans (b5.mono b04.size)
  have owns5 := ((owns.ext b3).ext b4).ext b5
  have ownx5 := (ownx.ext b4).ext b5
  have owny5 := owny.ext b5
  clear owns ownx owny
  go_wp2_with fail
  with_reducible refine (sameBytes _ _ _ _ _ owns5.bytes ownz.bytes).mono ?_
  rintro e w5' ⟨rfl, n, rfl⟩
  rw [decide_eq_true rfl]
  go_wp2_with fail
  with_reducible refine (sameBytes _ _ _ _ _ (ownx5.bytes.drewN _) (owny5.bytes.drewN _)).mono ?_
  rintro e w5' ⟨rfl, n', hw6⟩
  rw [decide_eq_true rfl]
  have b6 : Below w5.heap.size w5 w5' := by subst hw6; rw [World.drewN_drewN]; exact below_drawn _ _ _
  have owns6 := owns5.ext b6
  have b06 := b05.trans (b6.mono b05.size)
  have hsz : w1.heap.size ≤ w5'.heap.size := by have := b2.size; have := b3.size; have := b4.size; have := b5.size; have := b6.size; omega
  have b16 : Below w1.heap.size w1 w5' := b2.trans ((b3.trans ((b4.trans ((b5.trans (b6.mono b5.size)).mono b4.size)).mono b3.size)).mono b2.size)
  clear hw6 owns5 ownx5 owny5 ownz b02 b03 b04 b05 b2 b3 b4 b5 b6
  go_wp2_with fail
  with_reducible refine (sumOpen _ (Crc.seal' p) _ owns6.bytes (by rw [Crc.seal_length]; omega)).mono ?_
  rintro e w7 ⟨a, rfl, owna, b7⟩
  rw [Crc.opens_seal]
  rw [Crc.open_seal] at owna
  have b07 := b06.trans (b7.mono b06.size)
  go_wp2_with fail
  with_reducible refine (sameBytes _ _ _ _ _ owna.bytes (hv.ext b07)).mono ?_
  rintro e w7' ⟨rfl, n2, hw8⟩
  rw [decide_eq_true rfl]
  have b8 : Below w7.heap.size w7 w7' := by subst hw8; exact below_drawn _ _ _
  replace owna := owna.ext b8
  replace b7 : Below w5'.heap.size w5' w7' := b7.trans (b8.mono b7.size)
  clear hw8 b8 b07 b06
  go_wp2_with fail
  go_loopw [14] (fun i wr => ∃ k : Nat, k ≤ p.length ∧ i = .int .i64 k ∧ (∃ l', l'.length = p.length ∧ OwnB wr w5'.heap.size 5 a l') ∧ Below w5'.heap.size w5' wr) (fun i _ => p.length - (intOf i).toNat)
  case atStart => exact ⟨0, by omega, rfl, ⟨p, rfl, owna⟩, b7⟩
  case round =>
    obtain ⟨k, hk, rfl, ⟨l', hl', ownr⟩, hbr⟩ := hrel
    clear owna b7
    by_cases hlt : k < p.length
    · obtain ⟨ga, ca, rfl, hg1, hg2, hc1, hc2⟩ := ownr.head (by omega)
      rw [hl'] at ownr ⊢
      have hcell := ownr.cellAt (by omega) k (by omega)
      have hfz := ownr.frozenAt (by omega) k
      generalize l'[k]'_ = xk at hcell
      obtain ⟨own', hg'⟩ := ownr.stored (by omega) k (255 - xk)
      unfold maxLen at hc2
      go_wp2
      go_roundw
      case rel => exact ⟨k + 1, by omega, by go_num, ⟨l'.set k (255 - xk), by rw [List.length_set]; exact hl', own'⟩, hbr.setCell hg1 _⟩
      case measure => simp [intOf]; omega
    · have hka : k = p.length := by omega
      subst hka
      replace owns6 := owns6.ext hbr
      have bw1 : Below w1.heap.size w1 wr := b16.trans (hbr.mono hsz)
      replace hbr : Below w.heap.size w wr := b1.trans ((b16.trans (hbr.mono hsz)).mono b1.size)
      have hla : ∃ qa ca, a = .slice qa l'.length ca := ownr.bytes.shape
      obtain ⟨qa, ca, rfl⟩ := hla
      rw [hl'] at ownr ⊢
      have hls : (Crc.seal' p).length = p.length + 4 := Crc.seal_length p
      generalize Crc.seal' p = sl at *
      obtain ⟨gs, cs, rfl, hg1, hg2, hc1, hc2⟩ := owns6.head (by omega)
      rw [hls] at owns6 hc1 ⊢
      unfold maxLen at hc2
      clear b16 hsz ownr hl' hk hlt
      go_wp2
      go_loopw [15] (fun i wx => ∃ k : Nat, k ≤ p.length + 4 ∧ i = .int .i64 k ∧ (∃ l', l'.length = p.length + 4 ∧ OwnB wx w1.heap.size 5 (.slice (some ⟨gs, 0, none⟩) (p.length + 4) cs) l') ∧ Below w1.heap.size wr wx) (fun i _ => p.length + 4 - (intOf i).toNat)
      case atStart => exact ⟨0, by omega, rfl, ⟨sl, hls, owns6⟩, Below.refl _ _⟩
      case round =>
        obtain ⟨k, hk, rfl, ⟨l', hl', ownr⟩, hbx⟩ := hrel
        clear owns6
        by_cases hlt : k < p.length + 4
        · have hcell := ownr.cellAt (by omega) k (by omega)
          have hfz := ownr.frozenAt (by omega) k
          generalize l'[k]'_ = xk at hcell
          obtain ⟨own', hg'⟩ := ownr.stored (by omega) k (255 - xk)
          go_wp2
          go_roundw
          case rel => exact ⟨k + 1, by omega, by go_num, ⟨l'.set k (255 - xk), by rw [List.length_set]; exact hl', own'⟩, hbx.setCell hg1 _⟩
          case measure => simp [intOf]; omega
        · have hfin : Below w.heap.size w _ := hbr.trans (hbx.mono b1.size)
          have hown := own.ext (bw1.trans hbx)
          go_wp2_with fail
          with_reducible refine (intactBytes _ _ _ p 17 17 rfl _ hown.bytes (hv.ext hfin) (by omega)).mono ?_
          rintro e w9 ⟨rfl, n9, rfl⟩
          rw [decide_eq_true rfl]
          replace hfin := hfin.trans (below_drawn w.heap.size wr n9)
          go_wp2_with fail
          with_reducible refine (sumRuns _).mono ?_
          rintro e w10 ⟨rfl, b10⟩
          replace hfin := hfin.trans (b10.mono hfin.size)
          go_wp2_with fail
          go_ret
          exact ⟨rfl, hfin⟩

end Go.Proofs.Ytongoobcmlgdiaa
