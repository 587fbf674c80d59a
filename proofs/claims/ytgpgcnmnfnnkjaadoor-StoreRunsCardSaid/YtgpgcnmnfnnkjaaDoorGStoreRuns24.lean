/- Walks of package wal: entries. Walks of package wal: a segment in memory; done, voted, shorter, began, grown. Walks of package wal: a segment's shorter, began. -/
import Derived.Test.YtgpgcnmnfnnkjaaDoorGStoreRuns23
import Derived.Test.YtgpgcnmnfnnkjaaDoorGStoreRuns3
import Derived.Test.YtgpgcnmnfnnkjaaDoorGStoreRuns2
import Derived.Test.YtgpgcnmnfnnkjaaDoorGStoreRuns12
set_option linter.unusedVariables false
set_option linter.unusedSimpArgs false
section
namespace Go.Proofs.YtgpgcnmnfnnkjaaDoor
open Go Go.RowKit Go.PlainAid
theorem etysB_snoc (l : List Ety) (x : Ety) : etysB (l ++ [x]) = etysB l ++ etyB x := by unfold etysB; rw [List.flatMap_append]; simp
theorem one_le (p : List UInt8) : (Frm.one p).length ≤ p.length + 8 := by
 unfold Frm.one
 split
 · simp
 · simp [Frm.head, Crc.le4]
theorem etyB_le (x : Ety) : (etyB x).length ≤ x.data.size + 48 := by
 unfold etyB
 have h1 := one_le (numsB [2, x.term, x.members] ++ textB (bytesOf x.data))
 have h2 := numsB_le [2, x.term, x.members]
 have h3 : (textB (bytesOf x.data)).length ≤ 10 + x.data.size := by
  unfold textB; rw [List.length_append]; have := numB_le ((bytesOf x.data).length : Int); have h4 : (bytesOf x.data).length = x.data.size := by simp [bytesOf]
  omega
 rw [List.length_append] at h1
 simp only [List.length_cons, List.length_nil] at h2
 omega
theorem etysB_le {l : List Ety} (h : ∀ x ∈ l, x.data.size ≤ 100000) : (etysB l).length ≤ 100048 * l.length := by
 induction l with
 | nil => simp [etysB]
 | cons x r ih =>
  have h1 := etyB_le x
  have h2 := h x (by simp)
  have h3 := ih (fun y hy => h y (by simp [hy]))
  show (etyB x ++ etysB r).length ≤ _
  rw [List.length_append, List.length_cons]; omega
def EtyIn (x : Ety) : Prop := In64 x.term ∧ In64 x.members ∧ x.data.size ≤ 100000
def EntsB (w : World) (v : Value) (l : List UInt8) (e : Ending) (w' : World) : Prop := ∃ r, e = .returned r ∧ Bytes w' r l ∧ (∀ k, r.ownBlock = some k → v.ownBlock = some k ∨ w.heap.size ≤ k) ∧ Below w.heap.size w w'

set_option maxRecDepth 8000 in
set_option maxHeartbeats 4000000 in
theorem walEntries (v u : Value) (b : List UInt8) (l : List Ety) (w : World) (hv : Bytes w v b) (hu : Rd etyE w u l) (hb : b.length ≤ 1000000000) (hl : l.length ≤ 1000) (hin : ∀ x ∈ l, EtyIn x) :
 Calls Tryd.prog 58 #[v, u] w (EntsB w v (b ++ etysB l)) := by
 obtain ⟨p, cap, rfl⟩ := hu.shape
 go_enter Tryd.func58, Tryd.ntmps58
 go_wp2
 go_loopw [0, 9] (fun o i wr => ∃ k : Nat, k ≤ l.length ∧ i = .int .i64 k ∧ Bytes wr o (b ++ etysB (l.take k)) ∧ (∀ j, o.ownBlock = some j → v.ownBlock = some j ∨ w.heap.size ≤ j) ∧ Below w.heap.size w wr) (fun _ i _ => l.length - (intOf i).toNat)
 case atStart => exact ⟨0, by omega, rfl, by simpa [etysB] using hv, fun j hj => .inl hj, Below.refl _ _⟩
 case round =>
  obtain ⟨k, hk, rfl, ho, hloc, hbw⟩ := hrel
  by_cases hlt : k < l.length
  · have hur := hu.ext hbw
    obtain ⟨bb, off, rfl⟩ := Rd.blk hur (by omega)
    obtain ⟨c0, c1, c2⟩ := ety3 hur hlt
    obtain ⟨i1, i2, i3⟩ := hin l[k] (List.getElem_mem hlt)
    have hel := etysB_le (l := l.take k) (fun x hx => (hin x (List.mem_of_mem_take hx)).2.2)
    rw [List.length_take, Nat.min_eq_left hk] at hel
    have hol : (b ++ etysB (l.take k)).length ≤ 1200000000 := by rw [List.length_append]; omega
    have hst : b ++ etysB (l.take (k + 1)) = (b ++ etysB (l.take k)) ++ etyB l[k] := by rw [List.take_succ_eq_append_getElem hlt, etysB_snoc, List.append_assoc]
    have Hst := Lib.hid hst
    have hi : (k : Int) < (l.length : Int) := by omega
    have hi0 : (0 : Int) ≤ (k : Int) := by omega
    have hsz := hbw.size
    clear hst hel
    generalize l[k] = x at *
    generalize b ++ etysB (l.take k) = O at *
    obtain ⟨po, co, rfl⟩ := ho.shape
    have ca := below_alloc wr (.cells #[.int .i64 x.term, .int .i64 x.members, .string x.data] 36)
    have kx := Blk.new wr #[.int .i64 x.term, .int .i64 x.members, .string x.data] 36
    have hoW := ho.ext ca
    go_wp2_with fail
    generalize wr.alloc (.cells #[.int .i64 x.term, .int .i64 x.members, .string x.data] 36) = W at *
    have bD := below_drew W.heap.size W
    refine wp_region_F (n := 11) (S := fun w' : World => w'.cell? ⟨wr.heap.size, 0, none⟩ = some (.int .i64 x.term) ∧ (w'.cell? ⟨wr.heap.size, 1, none⟩ = some (.int .i64 x.members) ∧ w'.cell? ⟨wr.heap.size, 2, none⟩ = some (.string x.data))) (by kernel_rfl) ?_
    have hHeld : (fun w' : World => w'.cell? ⟨wr.heap.size, 0, none⟩ = some (.int .i64 x.term) ∧ (w'.cell? ⟨wr.heap.size, 1, none⟩ = some (.int .i64 x.members) ∧ w'.cell? ⟨wr.heap.size, 2, none⟩ = some (.string x.data))) W.drew := ⟨kx.cell 0 _ rfl, kx.cell 1 _ rfl, kx.cell 2 _ rfl⟩
    clear c0 c1 c2
    refine wpAnyF_tk 0 _ _ _ (v := ?_) rfl (by kernel_rfl) (fun _ _ _ h => h) ?_ hHeld ?_
    rotate_left
    · intro w hSw
      try dsimp only at hSw
      obtain ⟨_, _, _⟩ := hSw
      dsimp only [bare]
      go_simp <;> with_reducible rfl
    try simp only [bare, Act.put, lyA, lyZ, lyS]
    refine wpAnyF_tk 1 _ _ _ (v := ?_) rfl (by kernel_rfl) (fun _ _ _ h => h) ?_ hHeld ?_
    rotate_left
    · intro w hSw
      try dsimp only at hSw
      obtain ⟨_, _, _⟩ := hSw
      dsimp only [bare]
      go_simp <;> with_reducible rfl
    try simp only [bare, Act.put, lyA, lyZ, lyS]
    refine wpAnyF_tk 2 _ _ _ (v := ?_) rfl (by kernel_rfl) (fun _ _ _ h => h) ?_ hHeld ?_
    rotate_left
    · intro w hSw
      try dsimp only at hSw
      obtain ⟨_, _, _⟩ := hSw
      dsimp only [bare]
      go_simp <;> with_reducible rfl
    try simp only [bare, Act.put, lyA, lyZ, lyS]
    refine wpAnyF_tk 3 _ _ _ (v := ?_) rfl (by kernel_rfl) (fun _ _ _ h => h) ?_ hHeld ?_
    rotate_left
    · intro w hSw
      try dsimp only at hSw
      obtain ⟨_, _, _⟩ := hSw
      dsimp only [bare]
      go_simp <;> with_reducible rfl
    try simp only [bare, Act.put, lyA, lyZ, lyS]
    refine wpAnyF_tk 4 _ _ _ (v := ?_) rfl (by kernel_rfl) (fun _ _ _ h => h) ?_ hHeld ?_
    rotate_left
    · intro w hSw
      try dsimp only at hSw
      obtain ⟨_, _, _⟩ := hSw
      dsimp only [bare]
      go_simp <;> with_reducible rfl
    try simp only [bare, Act.put, lyA, lyZ, lyS]
    refine wpAnyF_tk 7 _ _ _ (v := ?_) rfl (by kernel_rfl) (fun _ _ _ h => h) ?_ hHeld ?_
    rotate_left
    · intro w hSw
      try dsimp only at hSw
      obtain ⟨_, _, _⟩ := hSw
      dsimp only [bare]
      go_simp <;> with_reducible rfl
    try simp only [bare, Act.put, lyA, lyZ, lyS]
    refine wpAnyF_tk 8 _ _ _ (v := ?_) rfl (by kernel_rfl) (fun _ _ _ h => h) ?_ hHeld ?_
    rotate_left
    · intro w hSw
      try dsimp only at hSw
      obtain ⟨_, _, _⟩ := hSw
      dsimp only [bare]
      go_simp <;> with_reducible rfl
    try simp only [bare, Act.put, lyA, lyZ, lyS]
    refine wpAnyF_one 5 (some 18) (Op.buildSlice 41 3 #[(0, Operand.const (Value.int IntKind.i64 2)), (1, Operand.tmp 15), (2, Operand.tmp 17)]) 41 rfl (by kernel_rfl) (fun K hK => ?_)
    dsimp only [bare]; go_simp
    obtain ⟨w8, hw8⟩ : ∃ z, z = (W.alloc (.cells #[.int .i64 2, .int .i64 x.term, .int .i64 x.members] 3)).drew := ⟨_, rfl⟩
    have bE : Below W.heap.size W w8 := by rw [hw8]; exact (below_alloc W _).drew
    have lit : Rd intsE w8 (.slice (some ⟨W.heap.size, 0, none⟩) 3 3) [2, x.term, x.members] := by rw [hw8]; exact ((OwnR.litAt intsE W #[.int .i64 2, .int .i64 x.term, .int .i64 x.members] 3 [2, x.term, x.members] 3 0 W.heap.size rfl rfl rfl (by unfold maxLen; omega) (Nat.zero_le _)).drew).rd
    rw [← hw8]
    clear hw8
    have k8 := kx.ext bE
    refine hK _ _ ⟨k8.cell 0 _ rfl, k8.cell 1 _ rfl, k8.cell 2 _ rfl⟩ (fun hHeld => ?_)
    clear hK K
    try simp only [bare, Act.put, lyA, lyZ, lyS]
    refine wpAnyF_one 6 (some 19) (Op.call { callee := Callee.value (Operand.func 56), args := #[Operand.tmp 18], argTypes := #[41] }) 64 rfl (by kernel_rfl) (fun K hK => ?_)
    dsimp only [bare]; go_simp
    refine (walNums _ [2, x.term, x.members] w8 lit (by simp) (fun y hy => by simp only [List.mem_cons, List.not_mem_nil, or_false] at hy; rcases hy with rfl | rfl | rfl; exact ⟨by decide, by decide⟩; exact i1; exact i2)).mono ?_
    rintro e w9 ⟨r9, rfl, own9, b9⟩
    dsimp only
    have k9 := k8.ext b9
    have bF := bE.trans (b9.mono bE.size)
    have n9 := numsB_le [2, x.term, x.members]
    refine hK _ _ ⟨k9.cell 0 _ rfl, k9.cell 1 _ rfl, k9.cell 2 _ rfl⟩ (fun hHeld => ?_)
    clear hK K
    try simp only [bare, Act.put, lyA, lyZ, lyS]
    refine wpAnyF_one 9 (some 22) (Op.call { callee := Callee.value (Operand.func 81), args := #[Operand.tmp 19, Operand.tmp 21], argTypes := #[64, 9] }) 64 rfl (by kernel_rfl) (fun K hK => ?_)
    dsimp only [bare]; go_simp
    refine (packText r9 _ x.data w9 own9.bytes (by simp only [List.length_cons, List.length_nil] at n9; omega)).mono ?_
    rintro e w10 ⟨r10, rfl, own10, b10⟩
    dsimp only
    have k10 := k9.ext b10
    have bG := bF.trans (b10.mono bF.size)
    have n10 : (numsB [2, x.term, x.members] ++ textB x.data.data.toList).length ≤ 10000000 := by
     have h3 : (textB x.data.data.toList).length ≤ 10 + x.data.size := by
      unfold textB; rw [List.length_append]; have := numB_le (x.data.data.toList.length : Int); have h4 : x.data.data.toList.length = x.data.size := by simp
      omega
     rw [List.length_append]
     simp only [List.length_cons, List.length_nil] at n9
     omega
    refine hK _ _ ⟨k10.cell 0 _ rfl, k10.cell 1 _ rfl, k10.cell 2 _ rfl⟩ (fun hHeld => ?_)
    clear hK K
    try simp only [bare, Act.put, lyA, lyZ, lyS]
    refine wpAnyF_one 10 (some 23) (Op.call { callee := Callee.value (Operand.func 55), args := #[Operand.tmp 13, Operand.tmp 22], argTypes := #[64, 64] }) 64 rfl (by kernel_rfl) (fun K hK => ?_)
    dsimp only [bare]; go_simp
    refine (walRecord _ r10 O _ w10 (hoW.ext bG) own10.bytes (by omega) (by omega)).mono ?_
    rintro e w11 ⟨r11, rfl, own11, b11⟩
    dsimp only
    have k11 := k10.ext b11
    have bH := bG.trans (b11.mono bG.size)
    refine hK _ _ ⟨k11.cell 0 _ rfl, k11.cell 1 _ rfl, k11.cell 2 _ rfl⟩ (fun hHeld => ?_)
    clear hK K
    try simp only [bare, Act.put, lyA, lyZ, lyS]
    refine wpAnyF_end (some 0) (Op.assign (Operand.tmp 23)) 64 rfl (by kernel_rfl) (by kernel_rfl) (fun K hK => ?_)
    dsimp only [bare]; go_simp
    refine hK _ _ ?_
    clear hK K
    try simp only [bare, Act.put, lyA, lyZ, lyS]
    have hall := hbw.trans ((ca.trans (bH.mono ca.size)).mono hsz)
    have h10 := bG.size
    have h11 := ca.size
    go_wp2_with fail
    go_roundw
    case rel => exact ⟨k + 1, by omega, by go_num, by rw [Hst.out]; exact own11.bytes, fun j hj => .inr (by have := (own11.lt j hj).1; omega), hall⟩
    case measure => simp [intOf]; omega
  · have hke : k = l.length := by omega
    have hi : ¬ (k : Int) < (l.length : Int) := by omega
    have Hk := Lib.hid hke
    clear hke
    obtain ⟨po, co, rfl⟩ := ho.shape
    generalize hO : b ++ etysB (l.take k) = O at *
    go_wp2
    go_ret
    rw [Hk.out, List.take_of_length_le (Nat.le_refl _)] at hO
    rw [hO]
    exact ⟨_, rfl, ho, hloc, hbw⟩
end Go.Proofs.YtgpgcnmnfnnkjaaDoor
end

section
namespace Go.Proofs.YtgpgcnmnfnnkjaaDoor
open Go Go.RowKit Go.PlainAid
attribute [local go_sem] After.same

@[reducible] def segA (s : Sg) (v : Value) : Array Value := #[.int .i64 s.h.term, .int .i64 s.h.vote, .int .i64 s.h.base, .int .i64 s.h.bterm, .int .i64 s.h.members, .string s.h.snap, v, .bool s.begun, .bool s.whole, .int .i64 (s.size : Int)]
/-- a segment in memory, at block g; its log is of the call's own, from block B on -/
structure SegV (w : World) (B g : Nat) (v : Value) (s : Sg) : Prop where
 blk : Blk w g (segA s v) 63
 log : OwnR etyE w B 36 v s.h.log
 off : v.ownBlock ≠ some g
 low : B ≤ g
 few : s.h.log.length ≤ 200
def SegAt (w : World) (B g : Nat) (s : Sg) : Prop := ∃ v, SegV w B g v s
section
variable {w w' : World} {B g : Nat} {v : Value} {s : Sg}
theorem SegV.chg {G : Nat → Prop} (h : SegV w B g v s) (hc : Chg G w w') (hg : ¬ G g) (hv : ∀ k, v.ownBlock = some k → ¬ G k) : SegV w' B g v s :=
 ⟨hc.blk h.blk hg, hc.ownR h.log hv, h.off, h.low, h.few⟩
theorem SegV.ext (h : SegV w B g v s) (hb : Below w.heap.size w w') : SegV w' B g v s := h.chg (G := fun _ => False) (.of_below hb) id fun _ _ => id
theorem SegV.c0 (h : SegV w B g v s) : w.cell? ⟨g, 0, none⟩ = some (.int .i64 s.h.term) := h.blk.cell 0 _ rfl
theorem SegV.c1 (h : SegV w B g v s) : w.cell? ⟨g, 1, none⟩ = some (.int .i64 s.h.vote) := h.blk.cell 1 _ rfl
theorem SegV.c2 (h : SegV w B g v s) : w.cell? ⟨g, 2, none⟩ = some (.int .i64 s.h.base) := h.blk.cell 2 _ rfl
theorem SegV.c3 (h : SegV w B g v s) : w.cell? ⟨g, 3, none⟩ = some (.int .i64 s.h.bterm) := h.blk.cell 3 _ rfl
theorem SegV.c4 (h : SegV w B g v s) : w.cell? ⟨g, 4, none⟩ = some (.int .i64 s.h.members) := h.blk.cell 4 _ rfl
theorem SegV.c5 (h : SegV w B g v s) : w.cell? ⟨g, 5, none⟩ = some (.string s.h.snap) := h.blk.cell 5 _ rfl
theorem SegV.c6 (h : SegV w B g v s) : w.cell? ⟨g, 6, none⟩ = some v := h.blk.cell 6 _ rfl
theorem SegV.c7 (h : SegV w B g v s) : w.cell? ⟨g, 7, none⟩ = some (.bool s.begun) := h.blk.cell 7 _ rfl
theorem SegV.c8 (h : SegV w B g v s) : w.cell? ⟨g, 8, none⟩ = some (.bool s.whole) := h.blk.cell 8 _ rfl
theorem SegV.c9 (h : SegV w B g v s) : w.cell? ⟨g, 9, none⟩ = some (.int .i64 (s.size : Int)) := h.blk.cell 9 _ rfl
theorem SegV.lt (h : SegV w B g v s) : B ≤ g ∧ g < w.heap.size := ⟨h.low, h.blk.lt⟩
/-- a cell of it is set that is not the log's -/
theorem SegV.set {u : Value} {i : Nat} {s' : Sg} (h : SegV w B g v s) (hs : (segA s v).setIfInBounds i u = segA s' v) (hl : s'.h.log = s.h.log) : SegV (w.setCell ⟨g, i, none⟩ u) B g v s' :=
 ⟨hs ▸ h.blk.set i u, hl ▸ (chg_cell g i u w).ownR h.log fun k hk e => h.off (by rw [hk, e]), h.off, h.low, by rw [hl]; exact h.few⟩
theorem SegV.below (h : SegV w B g v s) (i : Nat) (u : Value) : Below B w (w.setCell ⟨g, i, none⟩ u) := (Below.refl B w).setCell (p := ⟨g, i, none⟩) h.low u
theorem SegAt.ext (h : SegAt w B g s) (hb : Below w.heap.size w w') : SegAt w' B g s := by obtain ⟨v, h⟩ := h; exact ⟨v, h.ext hb⟩
end
theorem own_len (p : Option Addr) (n m c : Nat) : (Value.slice p n c).ownBlock = (Value.slice p m c).ownBlock := by cases p <;> rfl
theorem cutE {w : World} {B : Nat} {e : TypeId} {n : Nat} {v : Value} {l : List Ety} (h : OwnR etyE w B e v l) (hn : n ≤ l.length) : ∃ p c, v = .slice p l.length c ∧ subV v 0 n 3 = .slice p n c ∧ OwnR etyE w B e (.slice p n c) (l.take n) := by
 have hl : (l.take n).length = n := by rw [List.length_take]; omega
 rcases Own.head h with ⟨rfl, h0⟩ | ⟨g, cap, rfl, _⟩
 · have hz : l = [] := List.length_eq_zero_iff.1 h0
   subst hz
   have : n = 0 := by simpa using hn
   subst this
   exact ⟨none, 0, rfl, rfl, OwnR.nil _ _ _⟩
 · refine ⟨some ⟨g, 0, none⟩, cap, rfl, ?_, ?_⟩
   · show Value.slice (subP _ _ _ _) _ _ = _
     have e1 : subP (some ⟨g, 0, none⟩) cap 0 3 = some ⟨g, 0, none⟩ := by
      unfold subP; split
      · rfl
      · simp [addr_add]
     rw [e1]; rfl
   · have h1 := Own.cut h n hn
     exact OwnR.of h1 hl.symm (etyE.all_take l n)

theorem segDone {w : World} {B g : Nat} {v : Value} {s : Sg} (h : SegV w B g v s) :
 Calls Tryd.prog 74 #[.pointer (some ⟨g, 0, none⟩)] w fun e w' => e = .returned (.bool (doneS s).isSome) ∧ SegAt w' B g ((doneS s).getD s) ∧ Below B w w' := by
 have c1 := h.c7
 have c2 := h.c8
 have f2 := h.blk.frozen 8
 have hy := Lib.hid (h.set (i := 8) (u := .bool true) (s' := { s with whole := true }) rfl rfl)
 have hb := Lib.hid (h.below 8 (.bool true))
 by_cases hc : s.begun = true ∧ s.whole = false
 · have hd : doneS s = some { s with whole := true } := if_pos hc
   rw [hd]
   rw [hc.1] at c1
   rw [hc.2] at c2
   clear hd hc
   go_enter Tryd.func74, Tryd.ntmps74
   go_wp2
   go_ret
   exact ⟨rfl, ⟨v, hy.out⟩, hb.out⟩
 · have hd : doneS s = none := if_neg hc
   rw [hd]
   clear hd
   have Hc := Lib.hid hc
   clear hc
   cases hb1 : s.begun <;> cases hw1 : s.whole
   all_goals
    rw [hb1] at c1
    rw [hw1] at c2
   case true.false => exact absurd ⟨hb1, hw1⟩ Hc.out
   all_goals
    clear hb1 hw1
    go_enter Tryd.func74, Tryd.ntmps74
    go_wp2
    go_ret
    exact ⟨rfl, ⟨v, h⟩, Below.refl _ _⟩

set_option maxRecDepth 4000 in
set_option maxHeartbeats 2000000 in
theorem segVoted {w : World} {B g : Nat} {v : Value} {s : Sg} (h : SegV w B g v s) (t x : Int) :
 Calls Tryd.prog 75 #[.pointer (some ⟨g, 0, none⟩), .int .i64 t, .int .i64 x] w fun e w' => e = .returned (.bool (votedS s t x).isSome) ∧ SegAt w' B g ((votedS s t x).getD s) ∧ Below B w w' := by
 have c0 := h.c0
 have c1 := h.c1
 have c8 := h.c8
 have f0 := h.blk.frozen 0
 have f1 := h.blk.frozen 1
 have h1 := h.set (i := 0) (u := .int .i64 t) (s' := { s with h := { s.h with term := t } }) rfl rfl
 have h2 := h1.set (i := 1) (u := .int .i64 x) (s' := { s with h := { s.h with term := t, vote := x } }) rfl rfl
 have hy := Lib.hid (And.intro h2 ((h.below 0 (.int .i64 t)).trans (h1.below 1 (.int .i64 x))))
 have hd : votedS s t x = if s.whole = true ∧ s.h.term ≤ t ∧ ¬ (t = s.h.term ∧ s.h.vote ≠ -1) ∧ t ≤ 1099511627776 ∧ -1 ≤ x ∧ x < 7 then some { s with h := { s.h with term := t, vote := x } } else none := rfl
 have Hd := Lib.hid hd
 clear h1 h2 hd
 rcases (Bool.eq_false_or_eq_true s.whole).symm with hw | hw
 · skip
   rw [hw] at c8
   have e : votedS s t x = none := by rw [Hd.out, hw]; exact if_neg (fun h => by simp at h)
   rw [e]
   clear e
   go_enter Tryd.func75, Tryd.ntmps75
   go_wp2
   go_ret
   exact ⟨rfl, ⟨v, h⟩, Below.refl _ _⟩
 · skip
   rw [hw] at c8
   have q1 : (t == s.h.term) = decide (t = s.h.term) := rfl
   have q2 : (s.h.vote != -1) = decide (s.h.vote ≠ -1) := by simp [bne, BEq.beq]
   have Hq := Lib.hid (And.intro q1 q2)
   clear q1 q2
   by_cases hc : s.h.term ≤ t ∧ ¬ (t = s.h.term ∧ s.h.vote ≠ -1) ∧ t ≤ 1099511627776 ∧ -1 ≤ x ∧ x < 7
   · have e : votedS s t x = some { s with h := { s.h with term := t, vote := x } } := Hd.out.trans (if_pos ⟨hw, hc⟩)
     rw [e]
     clear e hw
     obtain ⟨k1, k2, k3, k4, k5⟩ := hc
     have k2' : t = s.h.term → s.h.vote = -1 := fun e => Decidable.not_not.1 (fun hn => k2 ⟨e, hn⟩)
     have K2 := Lib.hid k2'
     clear k2 k2'
     by_cases g1 : (t == s.h.term) = true
     · have g2 : (s.h.vote != -1) = false := by rw [Hq.out.2]; exact decide_eq_false (fun hn => hn (K2.out (by simpa using g1)))
       go_enter Tryd.func75, Tryd.ntmps75
       go_wp2
       go_ret
       exact ⟨rfl, ⟨v, hy.out.1⟩, hy.out.2⟩
     · have g1' : (t == s.h.term) = false := by simpa using g1
       clear g1
       go_enter Tryd.func75, Tryd.ntmps75
       go_wp2
       go_ret
       exact ⟨rfl, ⟨v, hy.out.1⟩, hy.out.2⟩
   · have e : votedS s t x = none := Hd.out.trans (if_neg (fun h => hc h.2))
     rw [e]
     clear e
     have Hc := Lib.hid hc
     clear hc
     cases g1 : (t == s.h.term) <;> cases g2 : (s.h.vote != -1)
     all_goals
      go_enter Tryd.func75, Tryd.ntmps75
      go_wp2
     all_goals
      first
      | (go_ret; exact ⟨rfl, ⟨v, h⟩, Below.refl _ _⟩)
      | (exfalso
         have a1 := Hq.out.1
         have a2 := Hq.out.2
         rw [g1] at a1
         rw [g2] at a2
         have b1 := of_decide_eq_true (p := True) rfl
         refine Hc.out ⟨by omega, ?_, by omega, by omega, by omega⟩
         rintro ⟨z1, z2⟩
         first | exact of_decide_eq_false a1.symm z1 | exact of_decide_eq_false a2.symm z2)
end Go.Proofs.YtgpgcnmnfnnkjaaDoor
end

section
namespace Go.Proofs.YtgpgcnmnfnnkjaaDoor
open Go Go.RowKit Go.PlainAid
attribute [local go_sem] After.same

set_option maxRecDepth 4000 in
set_option maxHeartbeats 2000000 in
theorem segShorter {w : World} {B g : Nat} {v : Value} {s : Sg} (h : SegV w B g v s) (hbase : s.whole = true → 0 ≤ s.h.base) (n : Int) (hn : In64 n) :
 Calls Tryd.prog 76 #[.pointer (some ⟨g, 0, none⟩), .int .i64 n] w fun e w' => e = .returned (.bool (shorterS s n).isSome) ∧ SegAt w' B g ((shorterS s n).getD s) ∧ Below B w w' := by
 obtain ⟨n1, n2⟩ := hn
 have c8 := h.c8
 have c2 := h.c2
 have hd : shorterS s n = if s.whole = true ∧ s.h.base ≤ n ∧ n - s.h.base ≤ s.h.log.length then some { s with h := { s.h with log := s.h.log.take (n - s.h.base).toNat } } else none := rfl
 have Hd := Lib.hid hd
 clear hd
 have hfew := h.few
 rcases (Bool.eq_false_or_eq_true s.whole).symm with hw | hw
 · skip
   rw [hw] at c8
   have e : shorterS s n = none := Hd.out.trans (if_neg (fun h => by rw [hw] at h; simp at h))
   rw [e]
   clear e
   go_enter Tryd.func76, Tryd.ntmps76
   go_wp2
   go_quiet (fail)
   go_wp2
   go_ret
   exact ⟨rfl, ⟨v, h.ext (below_drawn _ _ _)⟩, below_drawn _ _ _⟩
 · skip
   rw [hw] at c8
   have hb0 := hbase hw
   obtain ⟨p0, c0, rfl⟩ := h.log.rd.shape
   have c6 := h.c6
   have hwr : s.h.base ≤ n → IntKind.i64.wrap (n - s.h.base) = n - s.h.base := fun h => by rw [IntKind.wrap_i64]; omega
   by_cases hc : s.h.base ≤ n ∧ n - s.h.base ≤ s.h.log.length
   · have e : shorterS s n = some { s with h := { s.h with log := s.h.log.take (n - s.h.base).toNat } } := Hd.out.trans (if_pos ⟨hw, hc⟩)
     rw [e]
     clear e
     obtain ⟨m, hm⟩ : ∃ m : Nat, n - s.h.base = (m : Int) := ⟨(n - s.h.base).toNat, by omega⟩
     have hmt : (n - s.h.base).toNat = m := by omega
     rw [hmt]
     have hml : m ≤ s.h.log.length := by omega
     obtain ⟨p, c, hv, hsub, hown⟩ := cutE h.log hml
     simp only [Value.slice.injEq, true_and] at hv
     obtain ⟨rfl, rfl⟩ := hv
     have hsl := run_sub_to tEty (P := Tryd.prog) h.log.rd .i64 (n - s.h.base) m hm hml
     rw [hsub] at hsl
     have hml2 : (s.h.log.take m).length = m := by rw [List.length_take]; omega
     have hend : ∀ k, SegV ((w.drewN k).setCell ⟨g, 6, none⟩ (.slice p0 m c0)) B g (.slice p0 m c0) { s with h := { s.h with log := s.h.log.take m } } := fun k =>
      ⟨(h.ext (below_drawn _ _ _)).blk.set 6 (.slice p0 m c0), (chg_cell g 6 _ (w.drewN k)).ownR hown (fun j hj e => h.off (by subst e; exact (own_len _ _ _ _).trans hj)), (fun e => h.off ((own_len _ _ _ _).trans e)), h.low, by show (s.h.log.take m).length ≤ 200; omega⟩
     have hbel : ∀ k, Below B w ((w.drewN k).setCell ⟨g, 6, none⟩ (.slice p0 m c0)) := fun k => (below_drawn B w k).setCell (p := ⟨g, 6, none⟩) h.low _
     have Hend := Lib.hid (And.intro hend hbel)
     have f6 := h.blk.frozen 6
     have hc1 := hc.1
     have hwr1 := hwr hc.1
     have hc2 := hc.2
     have Hm := Lib.hid hm
     clear hm hwr hw hc hmt hend hbel hown hsub
     go_enter Tryd.func76, Tryd.ntmps76
     go_wp2
     go_quiet (fail)
     go_wp2_with fail
     refine wp_region_F (n := 17) (S := fun w' => w'.cell? ⟨g, 6, none⟩ = some (.slice p0 s.h.log.length c0) ∧ w'.cell? ⟨g, 2, none⟩ = some (.int .i64 s.h.base)) (by kernel_rfl) ?_
     have hHeld : (fun w' : World => w'.cell? ⟨g, 6, none⟩ = some (.slice p0 s.h.log.length c0) ∧ w'.cell? ⟨g, 2, none⟩ = some (.int .i64 s.h.base)) (w.drewN nq).drew := ⟨c6, c2⟩
     refine wpAnyF_tk 0 _ _ _ (v := ?_) rfl (by kernel_rfl) (fun _ _ _ h => h) ?_ hHeld ?_
     rotate_left
     · intro w hSw
       try dsimp only at hSw
       obtain ⟨_, _⟩ := hSw
       dsimp only [bare]
       go_simp <;> with_reducible rfl
     try simp only [bare, Act.put, lyA, lyZ, lyS]
     refine wpAnyF_tk 1 _ _ _ (v := ?_) rfl (by kernel_rfl) (fun _ _ _ h => h) ?_ hHeld ?_
     rotate_left
     · intro w hSw
       try dsimp only at hSw
       obtain ⟨_, _⟩ := hSw
       dsimp only [bare]
       go_simp <;> with_reducible rfl
     try simp only [bare, Act.put, lyA, lyZ, lyS]
     refine wpAnyF_tk 2 _ _ _ (v := ?_) rfl (by kernel_rfl) (fun _ _ _ h => h) ?_ hHeld ?_
     rotate_left
     · intro w hSw
       try dsimp only at hSw
       obtain ⟨_, _⟩ := hSw
       dsimp only [bare]
       go_simp <;> with_reducible rfl
     try simp only [bare, Act.put, lyA, lyZ, lyS]
     refine wpAnyF_tk 3 _ _ _ (v := ?_) rfl (by kernel_rfl) (fun _ _ _ h => h) ?_ hHeld ?_
     rotate_left
     · intro w hSw
       try dsimp only at hSw
       obtain ⟨_, _⟩ := hSw
       dsimp only [bare]
       go_simp <;> with_reducible rfl
     try simp only [bare, Act.put, lyA, lyZ, lyS]
     refine wpAnyF_tk 4 _ _ _ (v := ?_) rfl (by kernel_rfl) (fun _ _ _ h => h) ?_ hHeld ?_
     rotate_left
     · intro w hSw
       try dsimp only at hSw
       obtain ⟨_, _⟩ := hSw
       dsimp only [bare]
       go_simp <;> with_reducible rfl
     try simp only [bare, Act.put, lyA, lyZ, lyS]
     refine wpAnyF_tk 5 _ _ _ (v := ?_) rfl (by kernel_rfl) (fun _ _ _ h => h) ?_ hHeld ?_
     rotate_left
     · intro w hSw
       try dsimp only at hSw
       obtain ⟨_, _⟩ := hSw
       dsimp only [bare]
       go_simp <;> with_reducible rfl
     try simp only [bare, Act.put, lyA, lyZ, lyS]
     refine wpAnyF_tk 6 _ _ _ (v := ?_) rfl (by kernel_rfl) (fun _ _ _ h => h) ?_ hHeld ?_
     rotate_left
     · intro w hSw
       try dsimp only at hSw
       obtain ⟨_, _⟩ := hSw
       dsimp only [bare]
       go_simp <;> with_reducible rfl
     try simp only [bare, Act.put, lyA, lyZ, lyS]
     refine wpAnyF_tk 7 _ _ _ (v := ?_) rfl (by kernel_rfl) (fun _ _ _ h => h) ?_ hHeld ?_
     rotate_left
     · intro w hSw
       try dsimp only at hSw
       obtain ⟨_, _⟩ := hSw
       dsimp only [bare]
       go_simp <;> with_reducible rfl
     try simp only [bare, Act.put, lyA, lyZ, lyS]
     refine wpAnyF_tk 8 _ _ _ (v := ?_) rfl (by kernel_rfl) (fun _ _ _ h => h) ?_ hHeld ?_
     rotate_left
     · intro w hSw
       try dsimp only at hSw
       obtain ⟨_, _⟩ := hSw
       dsimp only [bare]
       go_simp <;> with_reducible rfl
     try simp only [bare, Act.put, lyA, lyZ, lyS]
     refine wpAnyF_tk 9 _ _ _ (v := ?_) rfl (by kernel_rfl) (fun _ _ _ h => h) ?_ hHeld ?_
     rotate_left
     · intro w hSw
       try dsimp only at hSw
       obtain ⟨_, _⟩ := hSw
       dsimp only [bare]
       go_simp <;> with_reducible rfl
     try simp only [bare, Act.put, lyA, lyZ, lyS]
     refine wpAnyF_tk 10 _ _ _ (v := ?_) rfl (by kernel_rfl) (fun _ _ _ h => h) ?_ hHeld ?_
     rotate_left
     · intro w hSw
       try dsimp only at hSw
       obtain ⟨_, _⟩ := hSw
       dsimp only [bare]
       go_simp <;> with_reducible rfl
     try simp only [bare, Act.put, lyA, lyZ, lyS]
     refine wpAnyF_tk 11 _ _ _ (v := ?_) rfl (by kernel_rfl) (fun _ _ _ h => h) ?_ hHeld ?_
     rotate_left
     · intro w hSw
       try dsimp only at hSw
       obtain ⟨_, _⟩ := hSw
       dsimp only [bare]
       go_simp <;> with_reducible rfl
     try simp only [bare, Act.put, lyA, lyZ, lyS]
     refine wpAnyF_tk 12 _ _ _ (v := ?_) rfl (by kernel_rfl) (fun _ _ _ h => h) ?_ hHeld ?_
     rotate_left
     · intro w hSw
       try dsimp only at hSw
       obtain ⟨_, _⟩ := hSw
       dsimp only [bare]
       go_simp <;> with_reducible rfl
     try simp only [bare, Act.put, lyA, lyZ, lyS]
     refine wpAnyF_tk 13 _ _ _ (v := ?_) rfl (by kernel_rfl) (fun _ _ _ h => h) ?_ hHeld ?_
     rotate_left
     · intro w hSw
       try dsimp only at hSw
       obtain ⟨_, _⟩ := hSw
       dsimp only [bare]
       go_simp <;> with_reducible rfl
     try simp only [bare, Act.put, lyA, lyZ, lyS]
     refine wpAnyF_tk 14 _ _ _ (v := ?_) rfl (by kernel_rfl) (fun _ _ _ h => h) ?_ hHeld ?_
     rotate_left
     · intro w hSw
       try dsimp only at hSw
       obtain ⟨_, _⟩ := hSw
       dsimp only [bare]
       go_simp <;> with_reducible rfl
     try simp only [bare, Act.put, lyA, lyZ, lyS]
     refine wpAnyF_tk 15 _ _ _ (v := ?_) rfl (by kernel_rfl) (fun _ _ _ h => h) ?_ hHeld ?_
     rotate_left
     · intro w hSw
       try dsimp only at hSw
       obtain ⟨_, _⟩ := hSw
       dsimp only [bare]
       go_simp <;> with_reducible rfl
     try simp only [bare, Act.put, lyA, lyZ, lyS]
     refine wpAnyF_tk 16 _ _ _ (v := ?_) rfl (by kernel_rfl) (fun _ _ _ h => h) ?_ hHeld ?_
     rotate_left
     · intro w hSw
       try dsimp only at hSw
       obtain ⟨_, _⟩ := hSw
       dsimp only [bare]
       go_simp <;> with_reducible rfl
     try simp only [bare, Act.put, lyA, lyZ, lyS]
     refine wpAnyF_end (none) (Op.store 28 (Operand.tmp 51) (Operand.tmp 48)) 0 rfl (by kernel_rfl) (by kernel_rfl) (fun K hK => ?_)
     dsimp only [bare]; go_simp
     refine hK _ _ ?_
     clear hK K
     try simp only [bare, Act.put, lyA, lyZ, lyS]
     go_wp2_with fail
     go_ret
     exact ⟨rfl, ⟨_, Hend.out.1 (nq + 1)⟩, Hend.out.2 (nq + 1)⟩
   · have e : shorterS s n = none := Hd.out.trans (if_neg (fun h => hc h.2))
     rw [e]
     clear e
     have hc' : n < s.h.base ∨ (s.h.base ≤ n ∧ (s.h.log.length : Int) < n - s.h.base) := by omega
     clear hc
     rcases hc' with hc | ⟨hc, hc2⟩
     all_goals
      try have hwr1 := hwr hc
      clear hwr hw
      go_enter Tryd.func76, Tryd.ntmps76
      go_wp2
      go_quiet (fail)
      go_wp2
      go_ret
      exact ⟨rfl, ⟨_, h.ext (below_drawn _ _ _)⟩, below_drawn _ _ _⟩
end Go.Proofs.YtgpgcnmnfnnkjaaDoor
end
