/- Walks of package impostbook at bytes: Same, Roomy, Intact, Within. -/
import Derived.Test.YtklopbjlpffnbaaDskB
import Derived.Laws.CopyOwn
namespace Go.Proofs.Ytklopbjlpffnbaa
open Go Go.RowKit

theorem take_eq_succ {l m : List UInt8} {k : Nat} (h : l.take k = m.take k) (hl : k < l.length) (hm : k < m.length) (he : l[k] = m[k]) : l.take (k + 1) = m.take (k + 1) := by
  rw [List.take_succ_eq_append_getElem hl, List.take_succ_eq_append_getElem hm, h, he]

set_option maxHeartbeats 400000 in
theorem sameBytes (v u : Value) (l m : List UInt8) (w : World) (hv : Bytes w v l) (hu : Bytes w u m) :
    Calls Try.prog 10 #[v, u] w fun e w' => e = .returned (.bool (decide (l = m))) ∧ ∃ n, w' = w.drewN n := by
  obtain ⟨p, cap, rfl, h1, h2, h3, h4⟩ := hv.form
  obtain ⟨q, dap, rfl, g1, g2, g3, g4⟩ := hu.form
  clear hv hu h3 g3
  unfold maxLen at h2 g2
  by_cases hlen : l.length = m.length
  · go_enter Try.func10, Try.ntmps10
    have Hl := Lib.hid hlen
    have hb : ((l.length : Int) != (m.length : Int)) = false := by simp [hlen]
    clear hlen
    go_wp2
    go_loopw [5] (fun i wr => ∃ k : Nat, k ≤ l.length ∧ i = .int .i64 k ∧ Hid (l.take k = m.take k) ∧ ∃ n, wr = w.drewN n) (fun i _ => l.length - (intOf i).toNat)
    case atStart => exact ⟨0, by omega, rfl, rfl, 0, rfl⟩
    case round =>
      obtain ⟨k, hk, rfl, ht, n, rfl⟩ := hrel
      by_cases hlt : k < l.length
      · have hlt' : k < m.length := by have := Hl.out; omega
        obtain ⟨b, off, rfl, hc⟩ := h4 (by omega)
        obtain ⟨b', off', rfl, hc'⟩ := g4 (by omega)
        replace hc := hc k hlt
        replace hc' := hc' k hlt'
        clear h4 g4
        have hi1 : (k : Int) < (l.length : Int) := by omega
        have hi2 : (k : Int) < (m.length : Int) := by omega
        go_wp2
        go_quiet (fail)
        go_wp2
        · go_ret
          have hne : ((l[k].toNat : Int) != (m[k].toNat : Int)) = true := by assumption
          refine ⟨?_, _, World.drewN_drewN _ _ _⟩
          rw [decide_eq_false (fun h => by subst h; simp at hne)]; rfl
        · go_roundw
          case rel =>
            have hne : ((l[k].toNat : Int) != (m[k].toNat : Int)) = false := by assumption
            exact ⟨k + 1, by omega, by go_num, take_eq_succ ht hlt hlt' (by simp at hne; exact UInt8.toNat_inj.1 (by omega)), _, by first | rfl | exact World.drewN_drewN _ _ _⟩
          case measure => simp [intOf]; omega
      · go_wp2
        go_ret
        refine ⟨?_, n, rfl⟩
        have e : l.take k = m.take k := ht
        rw [List.take_of_length_le (by omega), List.take_of_length_le (by have := Hl.out; omega)] at e
        rw [decide_eq_true e]; rfl
  · go_enter Try.func10, Try.ntmps10
    have hb : ((l.length : Int) != (m.length : Int)) = true := by simp; omega
    go_wp2
    go_ret
    exact ⟨by rw [decide_eq_false (fun h => hlen (by rw [h]))]; rfl, 0, rfl⟩

def fill (L : List Value) (m z : Value) (n k : Nat) : List Value := L ++ (List.replicate (k - L.length) m ++ List.replicate (n - k) z)
theorem fill_set (L : List Value) (m z : Value) (n k : Nat) (h1 : L.length ≤ k) (h2 : k < n) : (fill L m z n k).set k m = fill L m z n (k + 1) := by
  have e1 : k + 1 - L.length = (k - L.length) + 1 := by omega
  have e2 : n - k = (n - (k + 1)) + 1 := by omega
  unfold fill
  rw [List.set_append_right _ _ h1, List.set_append_right _ _ (by simp), e1, e2, List.replicate_succ' (n := k - L.length) (a := m), List.replicate_succ (n := n - (k + 1)) (a := z)]
  simp
theorem fill_length (L : List Value) (m z : Value) (n k : Nat) (h1 : L.length ≤ k) (h2 : k ≤ n) : (fill L m z n k).length = n := by simp [fill]; omega

/-- what Roomy answers: the list, and eighty marks behind it -/
def roomy (l : List UInt8) (x : UInt8) : List UInt8 := l ++ List.replicate 80 x
theorem roomy_length (l : List UInt8) (x : UInt8) : (roomy l x).length = l.length + 80 := by simp [roomy]

set_option maxHeartbeats 400000 in
theorem roomyBytes (v : Value) (l : List UInt8) (x : UInt8) (X : Int) (hX : X = (x.toNat : Int)) (w : World) (hv : Bytes w v l) (hl : l.length ≤ 140737488355328) :
    Calls Try.prog 21 #[v, .int .u8 X] w fun e w' => ∃ g, e = .returned (.slice (some ⟨g, 0, none⟩) (l.length + 80) (l.length + 80)) ∧
      OwnB w' w.heap.size 5 (.slice (some ⟨g, 0, none⟩) (l.length + 80) (l.length + 80)) (roomy l x) ∧ Below w.heap.size w w' := by
  obtain ⟨p, cap, rfl⟩ := hv.shape
  subst hX
  go_enter Try.func21, Try.ntmps21
  go_wp2_with (first
    | (at_make; refine wpList_mkFull tBytes rfl rfl w.heap.size (l.length + 80) (.int .u8 0) (by kernel_rfl) rfl rfl rfl rfl (by simp) (by simp) (by omega) (by unfold maxLen; omega) (Nat.le_refl _) ?_; intro g w1 own1 hg g1 b1)
    | (refine wpList_cp tBytes rfl rfl own1 rfl (Cells.ext hv b1) rfl (by omega) ?_; intro w2 own2 g2 b2; clear own1))
  have e0 : l.map byteV ++ (List.replicate (l.length + 80) (.int .u8 0 : Value)).drop l.length = fill (l.map byteV) (byteV x) (.int .u8 0) (l.length + 80) l.length := by
    unfold fill; simp
  rw [e0] at own2
  have b0 := b1.trans (b2.mono (Nat.le_refl _))
  clear b1 b2 g1 g2 hv e0
  have hs : w.heap.size ≤ w2.heap.size := b0.size
  go_loopw [6] (fun i wr => ∃ k : Nat, l.length ≤ k ∧ k ≤ l.length + 80 ∧ i = .int .i64 k ∧ Own wr w.heap.size 5 1 (.slice (some ⟨g, 0, none⟩) (l.length + 80) (l.length + 80)) (l.length + 80) (fill (l.map byteV) (byteV x) (.int .u8 0) (l.length + 80) k) ∧ Below w.heap.size w wr) (fun i _ => l.length + 80 - (intOf i).toNat)
  case atStart => exact ⟨l.length, by omega, by omega, rfl, own2, b0⟩
  case round =>
    obtain ⟨k, hk, hk2, rfl, own, hb⟩ := hrel
    clear own2 b0 hs
    by_cases hlt : k < l.length + 80
    · have hc := own.cellAt k (by rw [fill_length _ _ _ _ _ (by simp; omega) (by omega)]; exact hlt)
      have hf := own.frozenAt k
      obtain ⟨own', hg'⟩ := own.stored k (byteV x) rfl
      rw [fill_set _ _ _ _ _ (by simp; omega) hlt] at own'
      generalize (fill (l.map byteV) (byteV x) (.int .u8 0) (l.length + 80) k)[k]'_ = old at hc
      go_wp2
      go_roundw
      case rel => exact ⟨k + 1, by omega, by omega, by go_num, own', hb.setCell hg _⟩
      case measure => simp [intOf]; omega
    · have : k = l.length + 80 := by omega
      subst this
      go_wp2
      go_ret
      refine ⟨g, rfl, ?_, hb⟩
      have e1 : fill (l.map byteV) (byteV x) (.int .u8 0) (l.length + 80) (l.length + 80) = (roomy l x).map byteV := by
        unfold fill roomy; simp
      rw [e1] at own
      unfold OwnB; rw [roomy_length]; exact own

theorem roomy_of {lf lw : List UInt8} {x : UInt8} (hlen : lf.length = lw.length + 80) (h1 : lf.take lw.length = lw) (h2 : ∀ i (h : i < lf.length), lw.length ≤ i → lf[i] = x) : lf = roomy lw x := by
  have e : lf = lf.take lw.length ++ lf.drop lw.length := (List.take_append_drop _ _).symm
  rw [e, h1]; unfold roomy
  congr 1
  apply List.ext_getElem (by simp; omega)
  intro i a b
  simp only [List.getElem_drop, List.getElem_replicate]
  exact h2 _ _ (by omega)

set_option maxHeartbeats 400000 in
theorem intactBytes (v u : Value) (lf lw : List UInt8) (x : UInt8) (X : Int) (hX : X = (x.toNat : Int)) (w : World) (hv : Bytes w v lf) (hu : Bytes w u lw) (hl : lw.length ≤ 140737488355328) :
    Calls Try.prog 22 #[v, u, .int .u8 X] w fun e w' => e = .returned (.bool (decide (lf = roomy lw x))) ∧ ∃ n, w' = w.drewN n := by
  subst hX
  by_cases hlen : lf.length = lw.length + 80
  · have hs := run_sub_to tBytes (P := Try.prog) hv .i64 (lw.length : Int) lw.length rfl (by omega)
    have hsub := hv.sub 0 lw.length (by omega) (by omega)
    have e0 : (lf.drop 0).take (lw.length - 0) = lf.take lw.length := by simp
    rw [e0] at hsub
    obtain ⟨p, cap, rfl, h1, h2, h3, h4⟩ := hv.form
    obtain ⟨q, dap, rfl⟩ := hu.shape
    unfold maxLen at h2
    clear h3 e0
    generalize subV (.slice p lf.length cap) 0 lw.length 1 = vs at *
    obtain ⟨r, sap, rfl⟩ := hsub.shapeN (n := lw.length) (by simp; omega)
    have Hl := Lib.hid hlen
    have hb : ((lf.length : Int) != (lw.length : Int) + 80) = false := by simp; omega
    clear hlen
    by_cases hsame : lf.take lw.length = lw
    · have Hs := Lib.hid hsame
      clear hsame
      go_enter Try.func22, Try.ntmps22
      go_wp2_with (go_at_call 10; with_reducible refine (sameBytes _ _ _ _ _ hsub hu).mono ?_; (rintro e w' ⟨rfl, n0, rfl⟩; rw [decide_eq_true Hs.out]))
      go_loopw [7] (fun i wr => ∃ k : Nat, lw.length ≤ k ∧ k ≤ lf.length ∧ i = .int .i64 k ∧ Hid (∀ i (h : i < lf.length), lw.length ≤ i → i < k → lf[i] = x) ∧ ∃ n, wr = w.drewN n) (fun i _ => lf.length - (intOf i).toNat)
      case atStart => exact ⟨lw.length, by omega, by have := Hl.out; omega, rfl, fun i h a b => by omega, _, rfl⟩
      case round =>
        obtain ⟨k, hk, hk2, rfl, hall, n, rfl⟩ := hrel
        by_cases hlt : k < lf.length
        · obtain ⟨b, off, rfl, hc⟩ := h4 (by omega)
          replace hc := hc k hlt
          clear h4
          go_wp2
          · go_ret
            have hne : ((lf[k].toNat : Int) != (x.toNat : Int)) = true := by assumption
            refine ⟨?_, n, rfl⟩
            rw [decide_eq_false (fun h => ?_)]
            · rfl
            · have : lf[k] = x := by simp only [h]; unfold roomy; rw [List.getElem_append_right (by omega)]; exact List.getElem_replicate _
              rw [this] at hne; simp at hne
          · go_roundw
            case rel =>
              have hne : ((lf[k].toNat : Int) != (x.toNat : Int)) = false := by assumption
              refine ⟨k + 1, by omega, by omega, by go_num, fun i h a b => ?_, n, rfl⟩
              by_cases hik : i = k
              · subst hik; simp at hne; exact UInt8.toNat_inj.1 (by omega)
              · exact hall i h a (by omega)
            case measure => simp [intOf]; omega
        · go_wp2
          go_ret
          refine ⟨?_, n, rfl⟩
          rw [decide_eq_true (roomy_of Hl.out Hs.out (fun i h a => hall i h a (by omega)))]; rfl
    · go_enter Try.func22, Try.ntmps22
      go_wp2_with (go_at_call 10; with_reducible refine (sameBytes _ _ _ _ _ hsub hu).mono ?_; (rintro e w' ⟨rfl, n0, rfl⟩; rw [decide_eq_false hsame]))
      go_ret
      refine ⟨?_, _, rfl⟩
      rw [decide_eq_false (fun h => hsame (by rw [h]; unfold roomy; simp))]; rfl
  · obtain ⟨p, cap, rfl⟩ := hv.shape
    obtain ⟨q, dap, rfl⟩ := hu.shape
    go_enter Try.func22, Try.ntmps22
    have hb : ((lf.length : Int) != (lw.length : Int) + 80) = true := by simp; omega
    go_wp2
    go_ret
    exact ⟨by rw [decide_eq_false (fun h => hlen (by rw [h, roomy_length]))]; rfl, 0, rfl⟩

/-- a number brought into lo .. hi -/
def within (n lo hi : Int) : Int := lo + n % (hi - lo + 1)
theorem within_bounds (n lo hi : Int) (h : lo ≤ hi) : lo ≤ within n lo hi ∧ within n lo hi ≤ hi := by
  unfold within
  have h1 := Int.emod_nonneg n (show hi - lo + 1 ≠ 0 by omega)
  have h2 := Int.emod_lt_of_pos n (show 0 < hi - lo + 1 by omega)
  omega

theorem tmod_mod (n d : Int) (hd : 0 < d) : -d < n.tmod d ∧ n.tmod d < d ∧ (0 ≤ n.tmod d → n % d = n.tmod d) ∧ (n.tmod d < 0 → n % d = n.tmod d + d) := by
  rcases Int.lt_or_le n 0 with hn | hn
  · have e : n.tmod d = -((-n).tmod d) := by rw [Int.neg_tmod]; omega
    have e2 : (-n).tmod d = (-n) % d := Int.tmod_eq_emod_of_nonneg (by omega)
    have h1 := Int.emod_nonneg (-n) (show d ≠ 0 by omega)
    have h2 := Int.emod_lt_of_pos (-n) hd
    have h3 := Int.emod_nonneg n (show d ≠ 0 by omega)
    have h4 := Int.emod_lt_of_pos n hd
    have h5 := Int.emod_add_mul_ediv n d
    have h6 := Int.emod_add_mul_ediv (-n) d
    generalize n.tmod d = t at *
    generalize (-n) % d = s at *
    generalize n % d = r at *
    have h7 : d * (n / d + -n / d) = - (r + s) := by rw [Int.mul_add]; omega
    generalize n / d + -n / d = q at h7
    have h8 : q = 0 ∨ q = -1 := by
      rcases Int.lt_trichotomy q 0 with h | h | h
      · by_cases hq : q = -1
        · exact .inr hq
        · have : d * q ≤ d * (-2) := Int.mul_le_mul_of_nonneg_left (by omega) (by omega)
          omega
      · exact .inl h
      · have : d * 1 ≤ d * q := Int.mul_le_mul_of_nonneg_left (by omega) (by omega)
        omega
    rcases h8 with rfl | rfl <;> omega
  · have e2 : n.tmod d = n % d := Int.tmod_eq_emod_of_nonneg hn
    have h3 := Int.emod_nonneg n (show d ≠ 0 by omega)
    have h4 := Int.emod_lt_of_pos n hd
    omega

set_option maxHeartbeats 400000 in
theorem withinCalls (n lo hi : Int) (w : World) (h0 : 0 ≤ lo) (h1 : lo ≤ hi) (h2 : hi ≤ 4611686018427387904) :
    Calls Try.prog 18 #[.int .i64 n, .int .i64 lo, .int .i64 hi] w fun e w' => e = .returned (.int .i64 (within n lo hi)) ∧ w = w' := by
  obtain ⟨t1, t2, t3, t4⟩ := tmod_mod n (hi - lo + 1) (by omega)
  go_enter Try.func18, Try.ntmps18
  go_wp2
  · go_ret
    exact ⟨ret_int (by unfold within; rw [t4 (by assumption)]; omega), rfl⟩
  · go_ret
    exact ⟨ret_int (by unfold within; rw [t3 (by assumption)]), rfl⟩

end Go.Proofs.Ytklopbjlpffnbaa
