/- SumRuns: chapter 1's runs, walked by the contracts of package sum. -/
import Derived.Test.YtongoobcmlgdiaaBook
import Derived.Test.YtongoobcmlgdiaaRefOne
import Derived.Lib.SlBytesConst
namespace Go.Proofs.Ytongoobcmlgdiaa
open Go Go.RowKit

theorem partsNil (w : World) : Parts w (.slice none 0 0) [] := ⟨[], Cells.nil w 1, rfl, fun i v l h => by simp at h⟩
theorem sumOfNil (w : World) : Calls Try.prog 15 #[.slice none 0 0] w fun e w' => e = .returned (.int .u32 0) ∧ w = w' := sumOf _ [] w (partsNil w)
theorem sumOnNil (w : World) : Calls Try.prog 16 #[.int .u32 0, .slice none 0 0] w fun e w' => e = .returned (.int .u32 0) ∧ w = w' := sumOn 0#32 _ [] w (Bytes.nil w)
theorem runs1 : Crc.seal' [97, 98] = [97, 98, 90, 147, 236, 49] := by decide +kernel
theorem runs3 : Crc.opens [1, 2, 3] = false := by decide +kernel
theorem runs4 : Crc.opens [96, 98, 90, 147, 236, 49] = false := by decide +kernel
theorem runs5 : Crc.opens [97, 98, 90, 147, 236, 49] = true := by decide +kernel
theorem runs6 : Crc.open' [97, 98, 90, 147, 236, 49] = [97, 98] := by decide +kernel
theorem runs7 : Crc.parts 0#32 [[49, 50], [], [51, 52, 53]] = Crc.on 0#32 [49, 50, 51, 52, 53] := Crc.parts_flat _ _
theorem runs2 : Crc.seal' [] = [0, 0, 0, 0] := by decide +kernel

set_option maxHeartbeats 1000000 in
theorem sumRuns (w : World) : Calls Try.prog 3 #[] w fun e w' => e = .returned (.bool true) ∧ Below w.heap.size w w' := by
  have kc := fun (w : World) (C : Array Value) (n c : Nat) => Lib.run_convert_bytes_const (P := Try.prog) w 22 5 C n c Try.underlying22 Try.underlying5
  have kc2 : ∀ (w : World) (X : Obj) (C : Array Value) (n c : Nat), (convert 22 22 (.slice (some ⟨w.heap.size + 1, 0, none⟩) n c)).run Try.prog ((w.alloc X).alloc (.cells C 5)) = .ok (.slice (some ⟨w.heap.size + 1, 0, none⟩) n c) ((w.alloc X).alloc (.cells C 5 (C.size, C.size + 1))) :=
    fun w X C n c => by have := kc (w.alloc X) C n c; simpa using this
  go_enter Try.func3, Try.ntmps3
  go_wp2_with fail
  with_reducible refine (sumSeal _ [97, 98] _ ?_ (by decide)).mono ?_
  · exact litBytes _ [97, 98] _ _
  rintro e w1 ⟨r1, rfl, own1, b1⟩
  rw [runs1] at own1
  replace b1 := (below_alloc w _).trans (b1.mono (by simp))
  obtain ⟨p1, c1, rfl⟩ := own1.bytes.shape
  go_wp2_with fail
  with_reducible refine (sumOfNil _).mono ?_
  rintro e w1' ⟨rfl, rfl⟩
  go_wp2_with fail
  with_reducible refine (sumOnNil _).mono ?_
  rintro e w1' ⟨rfl, rfl⟩
  go_wp2_with fail
  with_reducible refine (sumSeal _ [] _ (Bytes.nil _) (by decide)).mono ?_
  rintro e w2 ⟨r2, rfl, own2, b2⟩
  rw [runs2] at own2
  go_wp2_with fail
  with_reducible refine (sameBytes _ _ [0, 0, 0, 0] [0, 0, 0, 0] _ (own2.bytes.ext (below_alloc _ _)) ?_).mono ?_
  · exact litBytes _ [0, 0, 0, 0] _ _
  rintro e w3 ⟨rfl, n, hw3⟩
  have b3 : Below w2.heap.size w2 w3 := by subst hw3; exact (below_alloc _ _).trans (below_drawn _ _ _)
  clear hw3
  have b13 := b1.trans ((b2.trans (b3.mono b2.size)).mono b1.size)
  have own1' := own1.ext (b2.trans (b3.mono b2.size))
  clear own2 b1 b2 b3 own1
  have hsz := b13.size
  generalize hdec : decide (([0, 0, 0, 0] : List UInt8) = [0, 0, 0, 0]) = q
  have hq : q = true := by rw [← hdec]; rfl
  subst hq
  clear hdec
  go_wp2_with (at_builtin; refine wpList_app tBytes rfl rfl (Own.lit _ #[] _ 0 _ rfl (by simp) (Nat.zero_le _) (Nat.le_refl _)) rfl (Cells.ext own1'.bytes (below_alloc _ _)) rfl (by simp) (by simp) ?_; intro v4 w4 own4 g4 b4; clear g4; replace own4 := OwnB.of (l := [97, 98, 90, 147, 236, 49]) own4 rfl rfl; obtain ⟨g, cap, rfl, hg, hg2, hc1, hc2⟩ := own4.head (by decide); have hcell := own4.cellAt rfl 0 (by decide); have hfz := own4.frozenAt rfl 0)
  have hx : (bits .xor .u8 97 1) = (((96 : UInt8).toNat : Nat) : Int) := by decide
  rw [hx]
  replace b4 := (below_alloc _ _).trans b4
  obtain ⟨own5, _⟩ := own4.stored rfl 0 96
  have b5 := b4.setCell (p := ⟨g, 0, none⟩) hg (.int .u8 (((96 : UInt8).toNat : Nat) : Int))
  have hs5 : (w4.setCell ⟨g, 0, none⟩ (.int .u8 (((96 : UInt8).toNat : Nat) : Int))).heap.size = w4.heap.size := by simp [World.setCell]
  rw [← hs5]
  clear hcell hfz own4 b4 hx hs5
  generalize w4.setCell ⟨g, 0, none⟩ _ = w5 at *
  have own1'' := own1'.ext b5
  replace b5 := b13.trans (b5.mono hsz)
  clear b13 own1' hsz
  have e5 : ([97, 98, 90, 147, 236, 49] : List UInt8).set 0 96 = [96, 98, 90, 147, 236, 49] := rfl
  rw [e5] at own5
  clear hg hg2 hc1 hc2 e5
  with_reducible refine (sumOpen _ [1, 2, 3] _ ?_ (by decide)).mono ?_
  · exact litBytes _ [1, 2, 3] _ _
  rintro e w6 ⟨r6, rfl, _, b6⟩
  replace b6 := (below_alloc _ _).trans (b6.mono (by simp))
  have own6 := own5.ext b6
  have own16 := own1''.ext b6
  replace b6 := b5.trans (b6.mono b5.size)
  rw [runs3]
  clear own5 own1'' b5
  go_wp2_with fail
  with_reducible refine (sumOpen _ [96, 98, 90, 147, 236, 49] _ ?_ (by decide)).mono ?_
  · exact own6.bytes
  rintro e w7 ⟨r7, rfl, _, b7⟩
  have own17 := own16.ext b7
  replace b7 := b6.trans (b7.mono b6.size)
  rw [runs4]
  clear own6 own16 b6
  go_wp2_with fail
  with_reducible refine (sumOpen _ [97, 98, 90, 147, 236, 49] _ ?_ (by decide)).mono ?_
  · exact own17.bytes
  rintro e w8 ⟨r8, rfl, own8, b8⟩
  replace b8 := b7.trans (b8.mono b7.size)
  rw [runs5]
  rw [runs6] at own8
  clear own17 b7
  go_wp2_with fail
  have hr : Below w8.heap.size w8 ((w8.alloc (.cells #[.int .u8 49, .int .u8 50] 5 (2, 3))).alloc (.cells #[.int .u8 51, .int .u8 52, .int .u8 53] 5 (3, 4))) := (below_alloc _ _).alloc (by simp) _
  have hb1 : Bytes ((w8.alloc (.cells #[.int .u8 49, .int .u8 50] 5 (2, 3))).alloc (.cells #[.int .u8 51, .int .u8 52, .int .u8 53] 5 (3, 4))) (.slice (some ⟨w8.heap.size, 0, none⟩) 2 2) [49, 50] := (litBytes w8 [49, 50] 5 (2, 3)).ext (below_alloc _ _)
  have hb2 : Bytes ((w8.alloc (.cells #[.int .u8 49, .int .u8 50] 5 (2, 3))).alloc (.cells #[.int .u8 51, .int .u8 52, .int .u8 53] 5 (3, 4))) (.slice (some ⟨w8.heap.size + 1, 0, none⟩) 3 3) [51, 52, 53] := by
    have := litBytes (w8.alloc (.cells #[.int .u8 49, .int .u8 50] 5 (2, 3))) [51, 52, 53] 5 (3, 4)
    rw [show (w8.alloc (.cells #[.int .u8 49, .int .u8 50] 5 (2, 3))).heap.size = w8.heap.size + 1 from by simp] at this
    exact this
  have hp := parts_lit (ls := [[49, 50], [], [51, 52, 53]]) (vs := [_, .slice none 0 0, _]) ⟨hb1, Bytes.nil _, hb2, trivial⟩ 22 (B := w8.heap.size + 1 + 1) (n := 3) (by simp) rfl (by unfold maxLen; decide)
  with_reducible refine (sumOf _ [[49, 50], [], [51, 52, 53]] _ ?_).mono ?_
  · exact hp
  rintro e w9 ⟨rfl, hw9⟩
  have b9 : Below w8.heap.size w8 w9 := by subst hw9; exact hr.trans ((Below.refl _ _).alloc (by simp; omega) _)
  clear hw9 hp hb1 hb2 hr
  replace own8 := own8.ext b9
  replace b9 := b8.trans (b9.mono b8.size)
  clear b8
  go_wp2_with fail
  with_reducible refine (sumOf1 _ [49, 50, 51, 52, 53] _ ?_ _ ?_ _).mono ?_
  · exact litBytes _ [49, 50, 51, 52, 53] _ _
  · simp
  rintro e w10 ⟨rfl, b10⟩
  replace b10 := (below_alloc w9 _).trans (b10.mono (by simp))
  replace own8 := own8.ext b10
  replace b10 := b9.trans (b10.mono b9.size)
  have hstr := run_bytes_string (P := Try.prog) Try.underlying22 Try.underlying5 Try.underlying9 own8.bytes
  rw [runs7]
  clear b9 kc kc2
  go_wp2_with fail
  go_ret
  exact ⟨rfl, b10⟩

end Go.Proofs.Ytongoobcmlgdiaa
