/- The walks of impostlaw16.torn and DiskRuns. -/
import Derived.Test.YtklopbjlpffnbaaDskL
namespace Go.Proofs.Ytklopbjlpffnbaa
open Go Go.RowKit BigFrame Go.PlainAid
attribute [local go_sem] After.same
abbrev noX : Nat → Prop := fun _ => False
def oneX (b : Nat) : Nat → Prop := fun k => k = b
theorem DwS.one {w0 w : World} {g : Nat} {d : Dk} (h : DwS w0 noX g d w) (o : Obj) : DwS w0 (oneX w.heap.size) g d (w.alloc o) := (h.alloc o).mono fun _ hk => .inr hk
theorem DwS.bareX {w0 w : World} {X : Nat → Prop} {g : Nat} {d : Dk} (h : DwS w0 X g d w) : DwS w0 noX g d w := h.mono fun _ h => h.elim
theorem one_own {A : Prop} {w0 : World} {b n c : Nat} : A → ∀ k, (Value.slice (some ⟨b, 0, none⟩) n c).ownBlock = some k → k < w0.heap.size ∨ oneX b k := fun _ k h => .inr (by cases h; rfl)
theorem nil_own {A : Prop} {w0 : World} {X : Nat → Prop} {n c : Nat} : A → ∀ k, (Value.slice none n c).ownBlock = some k → k < w0.heap.size ∨ X k := fun _ k h => by simp [Value.ownBlock] at h
def fA (l : List UInt8) (k : Nat) : Fil := ⟨⟨#[97]⟩, l, k⟩
def tornR (n : Int) : List UInt8 := (tornD n (fA [1, 2, 3, 4, 5] 3)).data
def dA (l : List UInt8) (k : Nat) : Dk := ⟨[fA l k], false, -1⟩
theorem ta1 : appendD dk0 ⟨#[97]⟩ [1, 2, 3] = (0, dA [1, 2, 3] 0) := by kernel_rfl
theorem ta2 : syncD (dA [1, 2, 3] 0) ⟨#[97]⟩ = (0, dA [1, 2, 3] 3) := by kernel_rfl
theorem ta3 : appendD (dA [1, 2, 3] 3) ⟨#[97]⟩ [4, 5] = (0, dA [1, 2, 3, 4, 5] 3) := by kernel_rfl
theorem tornD_name (n : Int) (f : Fil) : (tornD n f).name = f.name := rfl
theorem tornD_kept (n : Int) (f : Fil) : (tornD n f).kept = (tornD n f).data.length := rfl
theorem ta4 (n : Int) : crashD (dA [1, 2, 3, 4, 5] 3) [n] = dA (tornR n) (tornR n).length := rfl
theorem flipLast_length (l : List UInt8) : (flipLast l).length = l.length := by unfold flipLast; split <;> simp
theorem tornB_le (P u k : Nat) (l : List UInt8) : (tornB P u k l).length ≤ l.length := by
  unfold tornB; split
  · rw [flipLast_length, List.length_take]; omega
  · rw [List.length_take]; omega
theorem tornR_le (n : Int) : (tornR n).length ≤ 5 := by
  unfold tornR
  rw [tornD_eq (f := fA [1, 2, 3, 4, 5] 3) (u := 2) rfl]
  exact tornB_le _ _ _ _
theorem readA (l : List UInt8) (k : Nat) : readD (dA l k) ⟨#[97]⟩ = some l := by
  have h : idxD (dA l k).fs ⟨#[97]⟩ = 0 := by
    show (if hasN ⟨#[97]⟩ (fA l k) = true then ((0 : Nat) : Int) else _) = 0
    exact if_pos (eqS_refl _)
  unfold readD; rw [h]; rfl
theorem okA (n : Int) : okD (dA (tornR n) (tornR n).length) = true := by
  have h := tornR_le n
  refine okD_of ⟨by simp [dA], ?_, ?_, by simp [dA], by simp [dA]⟩ (by simp [dA])
  · simp only [dA, totD, List.map_cons, List.map_nil, List.sum_cons, List.sum_nil, fA]; omega
  · intro f hf; simp only [dA, List.mem_cons, List.not_mem_nil, or_false] at hf; subst hf; exact Nat.le_refl _
set_option maxHeartbeats 2000000 in
theorem lawTorn (n : Int) (hn : n ≤ 9223372036854775807) (w : World) :
    Calls Try.prog 11 #[.int .i64 n] w fun e w' => (∃ r, e = .returned r ∧ OwnB w' w.heap.size 5 r (tornR n)) ∧ Below w.heap.size w w' := by
  obtain ⟨w0, hw0⟩ : ∃ w0, w0 = w := ⟨_, rfl⟩
  rw [← hw0]
  clear hw0
  go_enter Try.func11, Try.ntmps11
  go_wp2_with fail
  refine (lNew w0 w0 (Nat.le_refl _) noX (fun _ h => h.elim)).mono ?_
  rintro e w1 ⟨rfl, d1, c1⟩
  have b1 := c1
  have x1 := d1.one (.cells #[.int .u8 1, .int .u8 2, .int .u8 3] 5)
  have l1 : Bytes (w1.alloc (.cells #[.int .u8 1, .int .u8 2, .int .u8 3] 5)) (.slice (some ⟨w1.heap.size, 0, none⟩) 3 3) [1, 2, 3] := litBytes w1 [1, 2, 3] 5 (0, 0)
  have a1 := below_alloc w1 (.cells #[.int .u8 1, .int .u8 2, .int .u8 3] 5)
  go_wp2_with fail
  refine (lAppend x1 (by kernel_rfl) ta1 (by decide) l1 one_own).mono ?_
  rintro e w2 ⟨rfl, y2, c2⟩
  have b2 := (b1.trans (a1.mono b1.size)).trans (c2.gx x1.size)
  have d2 := y2.bareX
  clear x1 l1 a1 d1 y2 c2 b1
  go_wp2_with fail
  refine (lSync d2 (by kernel_rfl) ta2).mono ?_
  rintro e w3 ⟨rfl, d3, c3⟩
  have b3 := b2.trans (c3.gx d2.size)
  clear d2 c3 b2
  have x3 := d3.one (.cells #[.int .u8 4, .int .u8 5] 5)
  have l3 : Bytes (w3.alloc (.cells #[.int .u8 4, .int .u8 5] 5)) (.slice (some ⟨w3.heap.size, 0, none⟩) 2 2) [4, 5] := litBytes w3 [4, 5] 5 (0, 0)
  have a3 := below_alloc w3 (.cells #[.int .u8 4, .int .u8 5] 5)
  go_wp2_with fail
  refine (lAppend x3 (by kernel_rfl) ta3 (by decide) l3 one_own).mono ?_
  rintro e w4 ⟨rfl, y4, c4⟩
  have b4 := (b3.trans (a3.mono b3.size)).trans (c4.gx x3.size)
  have d4 := y4.bareX
  clear x3 l3 a3 d3 y4 c4 b3
  have x4 := d4.one (.cells #[.int .i64 n] 3)
  have l4 : Rd intsE (w4.alloc (.cells #[.int .i64 n] 3)) (.slice (some ⟨w4.heap.size, 0, none⟩) 1 1) [n] := (OwnR.litAt intsE w4 #[.int .i64 n] 3 [n] 1 0 w4.heap.size rfl rfl rfl (by unfold maxLen; omega) (Nat.zero_le _)).rd
  have a4 := below_alloc w4 (.cells #[.int .i64 n] 3)
  go_wp2_with fail
  refine (lCrash x4 (by kernel_rfl) (ta4 n) l4 one_own (fun x hx => by simp only [List.mem_cons, List.not_mem_nil, or_false] at hx; subst hx; exact hn)).mono ?_
  rintro e w5 ⟨rfl, y5, c5⟩
  have b5 := (b4.trans (a4.mono b4.size)).trans (c5.gx x4.size)
  clear x4 l4 a4 d4 c5 b4
  have hrd := lRead y5 (okA n) ⟨#[97]⟩ (readA (tornR n) (tornR n).length)
  go_wp2_with fail
  refine hrd.mono ?_
  rintro e w6 ⟨⟨r, rfl, own⟩, c6⟩
  have b6 := b5.trans (c6.mono b5.size)
  have own2 := own.base b5.size
  go_wp2_with fail
  go_ret
  exact ⟨⟨_, rfl, own2⟩, b6⟩
def dR1 : Dk := ⟨[⟨⟨#[97]⟩, [1], 0⟩], false, -1⟩
def dR2 : Dk := ⟨[⟨⟨#[97]⟩, [1], 0⟩], false, 1⟩
def dR3 : Dk := ⟨[⟨⟨#[97]⟩, [1], 0⟩, ⟨⟨#[98]⟩, [1], 0⟩], false, 0⟩
def dR4 : Dk := ⟨[⟨⟨#[97]⟩, [1], 0⟩, ⟨⟨#[98]⟩, [1], 0⟩], true, 0⟩
theorem tr1 : appendD dk0 ⟨#[97]⟩ [1] = (0, dR1) := by kernel_rfl
theorem tr2 : renameD dR1 ⟨#[97]⟩ ⟨#[97, 32, 98]⟩ = (19, dR1) := by kernel_rfl
theorem tr3 : cutD dR1 ⟨#[97]⟩ 99 = (1, dR1) := by kernel_rfl
theorem tr4 : syncD dR1 ⟨#[113]⟩ = (11, dR1) := by kernel_rfl
theorem tr5 : armD dR1 1 = dR2 := by kernel_rfl
theorem tr6 : appendD dR2 ⟨#[98]⟩ [1] = (0, dR3) := by kernel_rfl
theorem tr7 : syncD dR3 ⟨#[98]⟩ = (18, dR4) := by kernel_rfl
theorem tr8 : appendD dR4 ⟨#[98]⟩ [2] = (18, dR4) := by kernel_rfl
theorem tq1 : tornR 1 = [1, 2, 3, 4] := by kernel_rfl
theorem tq4 : tornR 4 = [1, 2, 3, 251] := by kernel_rfl
theorem tq5 : tornR 5 = [1, 2, 3, 4, 250] := by kernel_rfl
set_option maxHeartbeats 4000000 in
theorem diskRuns_walk (w : World) : Calls Try.prog 3 #[] w fun e w' => e = .returned (.bool true) ∧ Below w.heap.size w w' := by
  obtain ⟨w0, hw0⟩ : ∃ w0, w0 = w := ⟨_, rfl⟩
  rw [← hw0]
  clear hw0
  go_enter Try.func3, Try.ntmps3
  go_wp2_with fail
  refine (lNew w0 w0 (Nat.le_refl _) noX (fun _ h => h.elim)).mono ?_
  rintro e w1 ⟨rfl, d1, b1⟩
  have ht1 := lawTorn 1 (by decide) w1
  rw [tq1] at ht1
  go_wp2_with fail
  refine ht1.mono ?_
  rintro e w2 ⟨⟨r1, rfl, own1⟩, c2⟩
  have a2 := below_alloc w2 (.cells #[.int .u8 1, .int .u8 2, .int .u8 3, .int .u8 4] 5)
  have l2 : Bytes (w2.alloc (.cells #[.int .u8 1, .int .u8 2, .int .u8 3, .int .u8 4] 5)) (.slice (some ⟨w2.heap.size, 0, none⟩) 4 4) [1, 2, 3, 4] := litBytes w2 [1, 2, 3, 4] 5 (0, 0)
  have hsm := sameBytes _ _ _ _ _ (own1.bytes.ext a2) l2
  rw [decide_eq_true rfl] at hsm
  have cc : Below w1.heap.size w1 (w2.alloc (.cells #[.int .u8 1, .int .u8 2, .int .u8 3, .int .u8 4] 5)) := c2.trans (a2.mono c2.size)
  clear ht1 own1 c2 a2 l2
  go_wp2_with fail
  refine hsm.mono ?_
  rintro e w3 ⟨rfl, nn, hw⟩
  have cd : Below w1.heap.size w1 w3 := by rw [hw]; exact cc.trans (below_drawn _ _ _)
  have b3 := b1.trans (cd.mono b1.size)
  have d3 := d1.ext cd
  clear hsm hw cc cd b1 d1
  have ht4 := lawTorn 4 (by decide) w3
  rw [tq4] at ht4
  go_wp2_with fail
  refine ht4.mono ?_
  rintro e w4 ⟨⟨r4, rfl, own4⟩, c4⟩
  have a4 := below_alloc w4 (.cells #[.int .u8 1, .int .u8 2, .int .u8 3, .int .u8 251] 5)
  have l4 : Bytes (w4.alloc (.cells #[.int .u8 1, .int .u8 2, .int .u8 3, .int .u8 251] 5)) (.slice (some ⟨w4.heap.size, 0, none⟩) 4 4) [1, 2, 3, 251] := litBytes w4 [1, 2, 3, 251] 5 (0, 0)
  have hsm := sameBytes _ _ _ _ _ (own4.bytes.ext a4) l4
  rw [decide_eq_true rfl] at hsm
  have cc : Below w3.heap.size w3 (w4.alloc (.cells #[.int .u8 1, .int .u8 2, .int .u8 3, .int .u8 251] 5)) := c4.trans (a4.mono c4.size)
  clear ht4 own4 c4 a4 l4
  go_wp2_with fail
  refine hsm.mono ?_
  rintro e w5 ⟨rfl, nn, hw⟩
  have cd : Below w3.heap.size w3 w5 := by rw [hw]; exact cc.trans (below_drawn _ _ _)
  have b5 := b3.trans (cd.mono b3.size)
  have d5 := d3.ext cd
  clear hsm hw cc cd b3 d3
  have ht5 := lawTorn 5 (by decide) w5
  rw [tq5] at ht5
  go_wp2_with fail
  refine ht5.mono ?_
  rintro e w6 ⟨⟨r5, rfl, own5⟩, c6⟩
  have a6 := below_alloc w6 (.cells #[.int .u8 1, .int .u8 2, .int .u8 3, .int .u8 4, .int .u8 250] 5)
  have l6 : Bytes (w6.alloc (.cells #[.int .u8 1, .int .u8 2, .int .u8 3, .int .u8 4, .int .u8 250] 5)) (.slice (some ⟨w6.heap.size, 0, none⟩) 5 5) [1, 2, 3, 4, 250] := litBytes w6 [1, 2, 3, 4, 250] 5 (0, 0)
  have hsm := sameBytes _ _ _ _ _ (own5.bytes.ext a6) l6
  rw [decide_eq_true rfl] at hsm
  have cc : Below w5.heap.size w5 (w6.alloc (.cells #[.int .u8 1, .int .u8 2, .int .u8 3, .int .u8 4, .int .u8 250] 5)) := c6.trans (a6.mono c6.size)
  clear ht5 own5 c6 a6 l6
  go_wp2_with fail
  refine hsm.mono ?_
  rintro e w7 ⟨rfl, nn, hw⟩
  have cd : Below w5.heap.size w5 w7 := by rw [hw]; exact cc.trans (below_drawn _ _ _)
  have b7 := b5.trans (cd.mono b5.size)
  have d7 := d5.ext cd
  clear hsm hw cc cd b5 d5
  have x7 := d7.one (.cells #[.int .u8 1] 5)
  have l7 : Bytes (w7.alloc (.cells #[.int .u8 1] 5)) (.slice (some ⟨w7.heap.size, 0, none⟩) 1 1) [1] := litBytes w7 [1] 5 (0, 0)
  have a7 := below_alloc w7 (.cells #[.int .u8 1] 5)
  go_wp2_with fail
  refine (lAppend x7 (by kernel_rfl) tr1 (by decide) l7 one_own).mono ?_
  rintro e w8 ⟨rfl, y8, c8⟩
  have b8 := (b7.trans (a7.mono b7.size)).trans (c8.gx x7.size)
  have d8 := y8.bareX
  clear x7 l7 a7 d7 y8 c8 b7
  go_wp2_with fail
  refine (lRename d8 (by kernel_rfl) tr2 (by decide)).mono ?_
  rintro e w9 ⟨rfl, d9, c9⟩
  have b9 := b8.trans (c9.gx d8.size)
  clear d8 c9 b8
  go_wp2_with fail
  refine (lCut d9 (by kernel_rfl) tr3).mono ?_
  rintro e w10 ⟨rfl, d10, c10⟩
  have b10 := b9.trans (c10.gx d9.size)
  clear d9 c10 b9
  go_wp2_with fail
  refine (lSync d10 (by kernel_rfl) tr4).mono ?_
  rintro e w11 ⟨rfl, d11, c11⟩
  have b11 := b10.trans (c11.gx d10.size)
  clear d10 c11 b10
  have harm := lArm d11 1
  rw [tr5] at harm
  go_wp2_with fail
  refine (harm).mono ?_
  rintro e w12 ⟨rfl, d12, c12⟩
  have b12 := b11.trans (c12.gx d11.size)
  clear d11 c12 b11
  clear harm
  have x12 := d12.one (.cells #[.int .u8 1] 5)
  have l12 : Bytes (w12.alloc (.cells #[.int .u8 1] 5)) (.slice (some ⟨w12.heap.size, 0, none⟩) 1 1) [1] := litBytes w12 [1] 5 (0, 0)
  have a12 := below_alloc w12 (.cells #[.int .u8 1] 5)
  go_wp2_with fail
  refine (lAppend x12 (by kernel_rfl) tr6 (by decide) l12 one_own).mono ?_
  rintro e w13 ⟨rfl, y13, c13⟩
  have b13 := (b12.trans (a12.mono b12.size)).trans (c13.gx x12.size)
  have d13 := y13.bareX
  clear x12 l12 a12 d12 y13 c13 b12
  go_wp2_with fail
  refine (lSync d13 (by kernel_rfl) tr7).mono ?_
  rintro e w14 ⟨rfl, d14, c14⟩
  have b14 := b13.trans (c14.gx d13.size)
  clear d13 c14 b13
  go_wp2_with fail
  refine (lOff d14 (b := true) rfl).mono ?_
  rintro e w' ⟨rfl, rfl⟩
  have x14 := d14.one (.cells #[.int .u8 2] 5)
  have l14 : Bytes (w14.alloc (.cells #[.int .u8 2] 5)) (.slice (some ⟨w14.heap.size, 0, none⟩) 1 1) [2] := litBytes w14 [2] 5 (0, 0)
  have a14 := below_alloc w14 (.cells #[.int .u8 2] 5)
  go_wp2_with fail
  refine (lAppend x14 (by kernel_rfl) tr8 (by decide) l14 one_own).mono ?_
  rintro e w15 ⟨rfl, y15, c15⟩
  have b15 := (b14.trans (a14.mono b14.size)).trans (c15.gx x14.size)
  have d15 := y15.bareX
  clear x14 l14 a14 d14 y15 c15 b14
  go_wp2_with fail
  go_ret
  exact ⟨rfl, b15⟩
end Go.Proofs.Ytklopbjlpffnbaa
