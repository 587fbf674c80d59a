/- Walks of package impostref1's sums: On, Open, Seal give what Crc says. -/
import Derived.Test.YtongoobcmlgdiaaSum
namespace Go.Proofs.Ytongoobcmlgdiaa
open Go Go.RowKit

set_option maxHeartbeats 400000 in
theorem refOn (c : BitVec 32) (v : Value) (l : List UInt8) (w : World) (hb : Bytes w v l) :
   Calls Try.prog 20 #[.int .u32 (c.toNat : Int), v] w fun e w' => e = .returned (.int .u32 ((Crc.on c l).toNat : Int)) ∧ w = w' := by
  obtain ⟨p, cap, rfl, h1, h2, h3, h4⟩ := hb.form
  unfold maxLen at h2
  clear hb
  go_enter Try.func20, Try.ntmps20
  go_wp2
  go_loop [5, 6] (fun s i => ∃ k : Nat, k ≤ l.length ∧ i = .int .i64 k ∧ s = .int .u32 ((Crc.fold (Crc.inv c) (l.take k)).toNat : Int)) (fun _ i => l.length - (intOf i).toNat)
  case atStart => exact ⟨0, by omega, rfl, rfl⟩
  case round =>
    obtain ⟨k, hk, rfl, rfl⟩ := hrel
    by_cases hlt : k < l.length
    · obtain ⟨b, off, rfl, hc⟩ := h4 (by omega)
      replace hc := hc k hlt
      clear h3 h4
      have hsn := Lib.hid (Crc.fold_snoc (Crc.inv c) l k hlt)
      go_wp2
      generalize Crc.fold (Crc.inv c) (List.take k l) = s0 at *
      generalize l[k] = x at *
      go_loop [5, 7] (fun s j => ∃ m : Nat, m ≤ 8 ∧ j = .int .i64 m ∧ s = .int .u32 ((Crc.steps m (Crc.mix s0 x)).toNat : Int)) (fun _ j => 8 - (intOf j).toNat)
      case atStart => exact ⟨0, by omega, rfl, rfl⟩
      case round =>
        obtain ⟨m, hm, rfl, rfl⟩ := hrel
        by_cases hlm : m < 8
        · generalize hs : Crc.steps m (Crc.mix s0 x) = t
          have Hs := Lib.hid hs
          clear hs
          by_cases hb : (((Crc.low t).toNat : Int) == 1) = true
          · go_wp2
            go_round
            case rel => exact ⟨m + 1, by omega, by go_num, by simp [Crc.steps, Hs.out, Crc.step]; simp at hb; rw [if_pos (by omega)]⟩
            case measure => simp [intOf]; omega
          · have hb' : (((Crc.low t).toNat : Int) == 1) = false := by simpa using hb
            clear hb
            go_wp2
            go_round
            case rel => exact ⟨m + 1, by omega, by go_num, by simp [Crc.steps, Hs.out, Crc.step]; simp at hb'; rw [if_neg (by omega)]⟩
            case measure => simp [intOf]; omega
        · have : m = 8 := by omega
          subst this
          go_wp2
          go_round
          case rel => exact ⟨k + 1, by omega, by go_num, by rw [hsn.out]; rfl⟩
          case measure => simp [intOf]; omega
    · go_wp2
      go_ret
      exact ⟨by rw [List.take_of_length_le (by omega)]; rfl, rfl⟩

theorem refOn0 (v : Value) (l : List UInt8) (w : World) (hb : Bytes w v l) :
   Calls Try.prog 20 #[.int .u32 0, v] w fun e w' => e = .returned (.int .u32 ((Crc.on 0#32 l).toNat : Int)) ∧ w = w' := refOn 0#32 v l w hb

set_option maxHeartbeats 400000 in
theorem refSeal (v : Value) (l : List UInt8) (w : World) (hb : Bytes w v l) (hl : l.length ≤ 140737488355320) :
   Calls Try.prog 24 #[v] w fun e w' => ∃ r, e = .returned r ∧ OwnB w' w.heap.size 5 r (Crc.seal' l) ∧ Below w.heap.size w w' := by
  obtain ⟨p, cap, rfl⟩ := hb.shape
  go_enter Try.func24, Try.ntmps24
  go_wp2_with fail
  with_reducible refine (refOn0 _ l _ hb).mono ?_
  rintro e w1 ⟨rfl, rfl⟩
  generalize hc : Crc.on 0#32 l = c
  have Hc := Lib.hid hc
  clear hc
  go_wp2_with (first
    | (at_builtin; refine wpList_app tBytes rfl rfl (Own.lit w #[] _ 0 w.heap.size rfl (by simp) (Nat.zero_le _) (Nat.le_refl _)) rfl (Cells.ext hb (below_alloc w _)) rfl (by omega) (by simp) ?_; intro v3 w3 own3 g3 b3)
    | (at_builtin; refine wpList_app tBytes rfl rfl (Own.ext own3 (below_alloc _ _)) rfl (Own.cells (Own.lit _ _ _ 4 0 rfl (by simp [Value.oneCell']) (by unfold maxLen; omega) (Nat.zero_le _))) rfl (by omega) (by have := b3.size; simp at this ⊢; omega) ?_; intro v4 w4 own4 g4 b4; clear own3))
  go_ret
  refine ⟨_, rfl, ?_, ?_⟩
  · simp only [List.nil_append, Nat.zero_add, le4_cells] at own4
    have := OwnB.snoc own4
    unfold Crc.seal'; rw [Hc.out]; exact this
  · exact (below_alloc w _).trans (b3.trans (((Below.refl _ _).alloc (by have := b3.size; simp at this; omega) _).trans b4))

set_option maxHeartbeats 400000 in
theorem refOpen (v : Value) (l : List UInt8) (w : World) (hb : Bytes w v l) (hl : l.length ≤ 140737488355320) :
   Calls Try.prog 23 #[v] w fun e w' => ∃ r, e = .returned (.tuple #[r, .bool (Crc.opens l)]) ∧ OwnB w' w.heap.size 5 r (Crc.open' l) ∧ Below w.heap.size w w' := by
  by_cases h4 : l.length < 4
  · obtain ⟨p, cap, rfl, h1, h2, h3, h5⟩ := hb.form
    unfold maxLen at h2
    clear h3 h5
    go_enter Try.func23, Try.ntmps23
    go_wp2
    go_ret2
    have e1 : Crc.opens l = false := by unfold Crc.opens; simp; omega
    refine ⟨_, by rw [e1]; rfl, ?_, Below.refl _ _⟩
    unfold Crc.open'; rw [e1]; exact OwnB.nil _ _ _
  · have ht := run_sub_to tBytes (P := Try.prog) hb .i64 ((l.length : Int) - 4) (l.length - 4) (by omega) (by omega)
    have hbt := hb.sub 0 (l.length - 4) (by omega) (by omega)
    have hx : ∃ x0 x1 x2 x3, Crc.tail l = [x0, x1, x2, x3] := four_of (Crc.tail l) (by unfold Crc.tail; simp; omega)
    obtain ⟨x0, x1, x2, x3, hx⟩ := hx
    have hbf := hb.sub (l.length - 4) l.length (by omega) (by omega)
    have e1 : (l.drop (l.length - 4)).take (l.length - (l.length - 4)) = Crc.tail l := by unfold Crc.tail; rw [List.take_of_length_le (by simp)]
    have e2 : (l.drop 0).take (l.length - 4 - 0) = Crc.cut l := rfl
    rw [e1, hx] at hbf; rw [e2] at hbt
    obtain ⟨p, cap, rfl, h1, h2, h3, h5⟩ := hb.form
    obtain ⟨b, off, rfl, hc⟩ := h5 (by omega)
    have gx : ∀ (i : Nat) (x : UInt8), (Crc.tail l)[i]? = some x → w.cell? ⟨b, off + (l.length - 4 + i), none⟩ = some (.int .u8 (x.toNat : Int)) := by
      intro i x hi
      unfold Crc.tail at hi
      rw [List.getElem?_drop] at hi
      obtain ⟨h, rfl⟩ := List.getElem?_eq_some_iff.1 hi
      exact hc _ h
    rw [hx] at gx
    have c0 := gx 0 x0 rfl
    have c1 := gx 1 x1 rfl
    have c2 := gx 2 x2 rfl
    have c3 := gx 3 x3 rfl
    obtain ⟨n, hn⟩ : ∃ n, l.length = n + 4 := ⟨l.length - 4, by omega⟩
    have Hx := Lib.hid hx
    have en : l.length - 4 = n := by omega
    have ei : (l.length : Int) - 4 = n := by omega
    unfold maxLen at h2
    rw [ei] at ht
    rw [en] at ht hbt
    rw [en] at c0 c1 c2 c3
    rw [Nat.add_zero] at c0
    rw [hn] at h1
    generalize subV (.slice (some ⟨b, off, none⟩) l.length cap) 0 n 1 = vt at *
    obtain ⟨pt, capt, rfl⟩ := hbt.shapeN (n := n) (by unfold Crc.cut; simp; omega)
    rw [hn] at ht hb ⊢
    have Hn := Lib.hid hn
    clear hx e1 e2 gx hc h3 h5 hbf en ei hn h4
    have hw0 : (n : Int) + 4 - 4 = n := by omega
    have s1 : IntKind.i64.wrap ((n : Int) + 1) = (n : Int) + 1 := by rw [IntKind.wrap_i64]; omega
    have s2 : IntKind.i64.wrap ((n : Int) + 2) = (n : Int) + 2 := by rw [IntKind.wrap_i64]; omega
    have s3 : IntKind.i64.wrap ((n : Int) + 3) = (n : Int) + 3 := by rw [IntKind.wrap_i64]; omega
    have n1 : 0 ≤ (n : Int) + 1 := by omega
    have n2 : 0 ≤ (n : Int) + 2 := by omega
    have n3 : 0 ≤ (n : Int) + 3 := by omega
    have m1 : ((n : Int) + 1).toNat = n + 1 := by omega
    have m2 : ((n : Int) + 2).toNat = n + 2 := by omega
    have m3 : ((n : Int) + 3).toNat = n + 3 := by omega
    have hi1 : (n : Int) + 1 < (n : Int) + 4 := by omega
    have hi2 : (n : Int) + 2 < (n : Int) + 4 := by omega
    have hi3 : (n : Int) + 3 < (n : Int) + 4 := by omega
    have hi4 : (n : Int) < (n : Int) + 4 := by omega
    go_enter Try.func23, Try.ntmps23
    go_wp2
    go_quiet (fail)
    clear s1 s2 s3 n1 n2 n3 m1 m2 m3 hi1 hi2 hi3 hi4
    go_wp2_with fail
    with_reducible refine (refOn0 _ (Crc.cut l) _ (hbt.drewN _)).mono ?_
    rintro e w1 ⟨rfl, rfl⟩
    have e1 : Crc.opens l = decide (Crc.on 0#32 (Crc.cut l) = Crc.num4 x0 x1 x2 x3) := by
      unfold Crc.opens; rw [Hx.out, decide_eq_true (by have := Hn.out; omega : 4 ≤ l.length)]; rfl
    have E1 := Lib.hid e1
    have hln : (Crc.cut l).length = n := by have := Hn.out; unfold Crc.cut; simp; omega
    have Hln := Lib.hid hln
    have hbt' : Cells w 1 (.slice pt n capt) n ((Crc.cut l).map byteV) := by have := hbt; unfold Bytes at this; rw [hln] at this; exact this
    clear e1 hln
    go_wp2_with (at_builtin; refine wpList_app tBytes rfl rfl (Own.lit (w.drewN _) #[] _ 0 w.heap.size rfl (by simp) (Nat.zero_le _) (Nat.le_refl _)) rfl (Cells.ext (hbt'.drewN _) (below_alloc (w.drewN _) _)) rfl (by have := Hn.out; omega) (by simp) ?_; intro v2 w2 own2 g2 b2)
    · go_ret2
      have hne : ((Crc.on 0#32 (Crc.cut l)).toNat : Int) ≠ ((Crc.num4 x0 x1 x2 x3).toNat : Int) := by
        have h : (((Crc.on 0#32 (Crc.cut l)).toNat : Int) != ((Crc.num4 x0 x1 x2 x3).toNat : Int)) = true := by assumption
        simpa using h
      have e2 : Crc.opens l = false := by rw [E1.out]; simp; intro h; rw [h] at hne; exact hne rfl
      refine ⟨_, by rw [e2]; rfl, ?_, below_drawn _ _ _⟩
      unfold Crc.open'; rw [e2]; exact OwnB.nil _ _ _
    · go_ret2
      have hne : ((Crc.on 0#32 (Crc.cut l)).toNat : Int) = ((Crc.num4 x0 x1 x2 x3).toNat : Int) := by
        have h : (((Crc.on 0#32 (Crc.cut l)).toNat : Int) != ((Crc.num4 x0 x1 x2 x3).toNat : Int)) = false := by assumption
        simpa using h
      have e2 : Crc.opens l = true := by rw [E1.out]; simp; exact BitVec.eq_of_toNat_eq (by omega)
      refine ⟨_, by rw [e2]; rfl, ?_, (below_drawn _ w _).trans ((below_alloc (w.drewN _) _).trans b2)⟩
      unfold Crc.open'; rw [e2]
      simpa [OwnB, Hln.out] using own2

end Go.Proofs.Ytongoobcmlgdiaa
