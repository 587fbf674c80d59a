/- The walk of (*impostref16.Disk).make. -/
import Derived.Test.YtgpgcnmnfnnkjaaGreatDoorGWalOpens16
import Derived.Test.YtgpgcnmnfnnkjaaGreatDoorGWalOpens2
import Derived.Deep.CutBlock
set_option linter.unusedVariables false
set_option linter.unusedSimpArgs false
section
namespace Go.Proofs.YtgpgcnmnfnnkjaaGreatDoor
open Go Go.RowKit BigFrame Go.PlainAid
attribute [local go_sem] After.same
def RefX (w : World) (F : Nat → Prop) (g : Nat) (l o : Value) (ys : List Ent) : Prop := ∃ v, RefV w F g v l o ys
theorem Apart.none {s : ByteArray} {v : Value} : Apart (Ent.v ⟨s, none, 0, [], 0⟩) v := fun k h => by simp [Ent.v, Value.ownBlock] at h
set_option maxHeartbeats 4000000 in
theorem refMake {F : Nat → Prop} {g : Nat} {v l o : Value} {ys : List Ent} {w : World} (hd : RefV w F g v l o ys) (hlen : ys.length ≤ 1000000) (s : ByteArray) :
 Calls Tryz.prog 60 #[.pointer (some ⟨g, 0, none⟩), .string s] w fun e w' => e = .returned (.int .i64 (posD (ys.map Ent.fil) s)) ∧ RefX w' (FF F w w') g l o (insE ys ⟨s, none, 0, [], 0⟩) ∧ Chg F w w' := by
 have rv := hd.fil.row.rd
 obtain ⟨p, cap, rfl, q1, q2, q3, q4⟩ := rv.form
 clear q3 q4
 unfold maxLen at q2
 have c0 := hd.blk.cell 0 _ rfl
 have Hd := Lib.hid hd
 clear hd
 go_enter Tryz.func60, Tryz.ntmps60
 go_upto_block 0 with (fail)
 go_cut [5] from 5 (fun q wi => ∃ k : Nat, k ≤ ys.length ∧ q = .int .i64 k ∧ Hid (posD (ys.map Ent.fil) s = k) ∧ wi = w)
 case first =>
  go_wp2_with fail
  go_loopw [5] (fun q wi => ∃ k : Nat, k ≤ ys.length ∧ q = .int .i64 k ∧ Hid (∀ i (h : i < (ys.map Ent.fil).length), i < k → ltS (ys.map Ent.fil)[i].name s = true) ∧ wi = w) (fun q _ => ys.length - (intOf q).toNat)
  case atStart => exact ⟨0, by omega, rfl, fun i h hi => absurd hi (Nat.not_lt_zero _), rfl⟩
  case round =>
   obtain ⟨j, hj, rfl, hlo, rfl⟩ := hrel
   have hj0 : (0 : Int) ≤ (j : Int) := by omega
   by_cases hjl : j < ys.length
   · have hji : (j : Int) < (ys.length : Int) := by omega
     obtain ⟨gb, go, rfl⟩ := Rd.blk rv (by omega)
     obtain ⟨e0, _⟩ := ent3 rv hjl
     have hfl : j < (ys.map Ent.fil).length := by simpa using hjl
     have hfg : (ys.map Ent.fil)[j].name = ys[j].name := by rw [fil_get]; rfl
     cases hlt2 : ltS ys[j].name s with
     | true =>
      have hl3 : Op.bytesLess (ys[j]).name.toList s.toList = true := hlt2
      have Hlo := Lib.hid (fun i (h : i < (ys.map Ent.fil).length) (hi : i < j + 1) => show ltS (ys.map Ent.fil)[i].name s = true from by
       rcases Nat.lt_or_ge i j with h1 | h1
       · exact hlo.out i h h1
       · have e : i = j := by omega
         subst e; rw [hfg]; exact hlt2)
      clear hlt2 hfg hfl
      go_wp2_with fail
      go_roundw
      case rel => exact ⟨j + 1, by omega, by go_num, Hlo, by trivial⟩
      case measure => simp [intOf]; omega
     | false =>
      have hl3 : Op.bytesLess (ys[j]).name.toList s.toList = false := hlt2
      have Hp := Lib.hid (posD_at (k := j) (by omega) hlo.out (fun h => by rw [hfg]; exact hlt2))
      clear hlt2 hfg hfl
      go_wp2_with fail
      go_meet
      exact ⟨j, hj, rfl, Hp, rfl⟩
   · have hji : ¬ (j : Int) < (ys.length : Int) := by omega
     have Hp := Lib.hid (posD_at (k := j) (by simp; omega) hlo.out (fun h => absurd (by simpa using h) hjl))
     go_wp2_with fail
     go_meet
     exact ⟨j, hj, rfl, Hp, rfl⟩
 case rest =>
  obtain ⟨k, hk, rfl, Hp, hw⟩ := hcut
  obtain rfl : wc = w := hw
  obtain ⟨w, hw⟩ : ∃ z, z = wc := ⟨_, rfl⟩
  subst hw
  have hd := Hd.out
  have hA := run_sub_to tRef (P := Tryz.prog) hd.fil.row.rd .i64 (k : Int) k rfl hk
  have hB := run_sub_from tRef (P := Tryz.prog) hd.fil.row.rd .i64 (k : Int) k rfl hk
  have rA := hd.fil.row.rd.sub 0 k (by omega) hk
  have rB := hd.fil.row.rd.sub k ys.length hk (Nat.le_refl _)
  rw [show (ys.drop 0).take (k - 0) = ys.take k from by simp, show entE.sz = 3 from rfl] at rA
  rw [show (ys.drop k).take (ys.length - k) = ys.drop k from List.take_of_length_le (by simp), show entE.sz = 3 from rfl] at rB
  generalize subV (.slice p ys.length cap) 0 k 3 = vA at *
  generalize subV (.slice p ys.length cap) k ys.length 3 = vB at *
  have htl : (ys.take k).length ≤ 1000000 := by rw [List.length_take]; omega
  have hdl : (ys.drop k).length ≤ 1000000 := by rw [List.length_drop]; omega
  have hc1 : Hid ((([] : List Ent).length + (ys.take k).length) * 48 ≤ 140737488355328) := by show _ ≤ _; simp only [List.length_nil]; omega
  have hc2 : Hid ((([] ++ ys.take k).length + [(⟨s, none, 0, [], 0⟩ : Ent)].length) * 48 ≤ 140737488355328) := by show _ ≤ _; simp only [List.nil_append, List.length_singleton]; omega
  have hc3 : Hid ((([] ++ ys.take k ++ [(⟨s, none, 0, [], 0⟩ : Ent)]).length + (ys.drop k).length) * 48 ≤ 140737488355328) := by show _ ≤ _; simp only [List.nil_append, List.length_append, List.length_singleton]; omega
  have hz : Datas w F g (.slice p ys.length cap) (ys.take k ++ (⟨s, none, 0, [], 0⟩ : Ent) :: ys.drop k) := hd.datas.ins k (OwnB.nil _ _ _) (fun _ _ => Apart.none) Apart.none.symm (fun k h => by simp [Ent.v, Value.ownBlock] at h) (by simp [Ent.v, Value.ownBlock])
  have hgl := hd.lt g hd.inG
  have bD := below_drew w.heap.size w
  clear htl hdl rv
  go_wp2_with fail
  refine wp_region_F (n := 22) (S := fun w' => w'.cell? ⟨g, 0, none⟩ = some (.slice p ys.length cap)) (by kernel_rfl) ?_
  have hHeld : (fun w' : World => w'.cell? ⟨g, 0, none⟩ = some (.slice p ys.length cap)) w.drew := c0
  refine wpAnyF_tk 0 _ _ _ (v := ?_) rfl (by kernel_rfl) (fun _ _ _ h => h) ?_ hHeld ?_
  rotate_left
  · intro w hSw
    try dsimp only at hSw
    dsimp only [bare]
    go_simp <;> with_reducible rfl
  try simp only [bare, Act.put, lyA, lyZ, lyS]
  refine wpAnyF_tk 2 _ _ _ (v := ?_) rfl (by kernel_rfl) (fun _ _ _ h => h) ?_ hHeld ?_
  rotate_left
  · intro w hSw
    try dsimp only at hSw
    dsimp only [bare]
    go_simp <;> with_reducible rfl
  try simp only [bare, Act.put, lyA, lyZ, lyS]
  refine wpAnyF_tk 3 _ _ _ (v := ?_) rfl (by kernel_rfl) (fun _ _ _ h => h) ?_ hHeld ?_
  rotate_left
  · intro w hSw
    try dsimp only at hSw
    dsimp only [bare]
    go_simp <;> with_reducible rfl
  try simp only [bare, Act.put, lyA, lyZ, lyS]
  refine wpAnyF_tk 4 _ _ _ (v := ?_) rfl (by kernel_rfl) (fun _ _ _ h => h) ?_ hHeld ?_
  rotate_left
  · intro w hSw
    try dsimp only at hSw
    dsimp only [bare]
    go_simp <;> with_reducible rfl
  try simp only [bare, Act.put, lyA, lyZ, lyS]
  refine wpAnyF_tk 5 _ _ _ (v := ?_) rfl (by kernel_rfl) (fun _ _ _ h => h) ?_ hHeld ?_
  rotate_left
  · intro w hSw
    try dsimp only at hSw
    dsimp only [bare]
    go_simp <;> with_reducible rfl
  try simp only [bare, Act.put, lyA, lyZ, lyS]
  refine wpAnyF_tk 6 _ _ _ (v := ?_) rfl (by kernel_rfl) (fun _ _ _ h => h) ?_ hHeld ?_
  rotate_left
  · intro w hSw
    try dsimp only at hSw
    dsimp only [bare]
    go_simp <;> with_reducible rfl
  try simp only [bare, Act.put, lyA, lyZ, lyS]
  refine wpAnyF_tk 7 _ _ _ (v := ?_) rfl (by kernel_rfl) (fun _ _ _ h => h) ?_ hHeld ?_
  rotate_left
  · intro w hSw
    try dsimp only at hSw
    dsimp only [bare]
    go_simp <;> with_reducible rfl
  try simp only [bare, Act.put, lyA, lyZ, lyS]
  refine wpAnyF_tk 9 _ _ _ (v := ?_) rfl (by kernel_rfl) (fun _ _ _ h => h) ?_ hHeld ?_
  rotate_left
  · intro w hSw
    try dsimp only at hSw
    dsimp only [bare]
    go_simp <;> with_reducible rfl
  try simp only [bare, Act.put, lyA, lyZ, lyS]
  refine wpAnyF_tk 10 _ _ _ (v := ?_) rfl (by kernel_rfl) (fun _ _ _ h => h) ?_ hHeld ?_
  rotate_left
  · intro w hSw
    try dsimp only at hSw
    dsimp only [bare]
    go_simp <;> with_reducible rfl
  try simp only [bare, Act.put, lyA, lyZ, lyS]
  refine wpAnyF_tk 13 _ _ _ (v := ?_) rfl (by kernel_rfl) (fun _ _ _ h => h) ?_ hHeld ?_
  rotate_left
  · intro w hSw
    try dsimp only at hSw
    dsimp only [bare]
    go_simp <;> with_reducible rfl
  try simp only [bare, Act.put, lyA, lyZ, lyS]
  refine wpAnyF_tk 14 _ _ _ (v := ?_) rfl (by kernel_rfl) (fun _ _ _ h => h) ?_ hHeld ?_
  rotate_left
  · intro w hSw
    try dsimp only at hSw
    dsimp only [bare]
    go_simp <;> with_reducible rfl
  try simp only [bare, Act.put, lyA, lyZ, lyS]
  refine wpAnyF_tk 15 _ _ _ (v := ?_) rfl (by kernel_rfl) (fun _ _ _ h => h) ?_ hHeld ?_
  rotate_left
  · intro w hSw
    try dsimp only at hSw
    dsimp only [bare]
    go_simp <;> with_reducible rfl
  try simp only [bare, Act.put, lyA, lyZ, lyS]
  refine wpAnyF_tk 16 _ _ _ (v := ?_) rfl (by kernel_rfl) (fun _ _ _ h => h) ?_ hHeld ?_
  rotate_left
  · intro w hSw
    try dsimp only at hSw
    dsimp only [bare]
    go_simp <;> with_reducible rfl
  try simp only [bare, Act.put, lyA, lyZ, lyS]
  refine wpAnyF_tk 17 _ _ _ (v := ?_) rfl (by kernel_rfl) (fun _ _ _ h => h) ?_ hHeld ?_
  rotate_left
  · intro w hSw
    try dsimp only at hSw
    dsimp only [bare]
    go_simp <;> with_reducible rfl
  try simp only [bare, Act.put, lyA, lyZ, lyS]
  refine wpAnyF_tk 18 _ _ _ (v := ?_) rfl (by kernel_rfl) (fun _ _ _ h => h) ?_ hHeld ?_
  rotate_left
  · intro w hSw
    try dsimp only at hSw
    dsimp only [bare]
    go_simp <;> with_reducible rfl
  try simp only [bare, Act.put, lyA, lyZ, lyS]
  refine wpAnyF_two 1 11 (some 28) (Op.buildSlice 75 0 #[]) 75 (some 38) (Op.buildSlice 75 1 #[(0, Operand.tmp 37)]) 75 rfl rfl (by kernel_rfl) (fun K hK => ?_) (fun K hK => ?_)
  · have ownE := OwnR.litAt entE w.drew #[] 87 [] 0 w.heap.size w.drew.heap.size rfl rfl rfl (Nat.zero_le _) bD.size
    have bE := bD.trans ((below_alloc w.drew (.cells #[] 87)).mono bD.size)
    dsimp only [bare]; go_simp
    refine hK _ _ ((hd.ext bE).blk.cell 0 _ rfl) (fun hHeld => ?_)
    clear hK K
    try simp only [bare, Act.put, lyA, lyZ, lyS]
    refine wpAnyF_two 8 11 (some 35) (Op.call { callee := Callee.builtin Builtin.append, args := #[Operand.tmp 28, Operand.tmp 34], argTypes := #[75, 75] }) 75 (some 38) (Op.buildSlice 75 1 #[(0, Operand.tmp 37)]) 75 rfl rfl (by kernel_rfl) (fun K hK => ?_) (fun K hK => ?_)
    · refine step_appR (E := entE) (s := .tmp 28) (y := .tmp 34) (B := w.heap.size) (l := []) (m := ys.take k) tRef rfl rfl ownE (by simp [Act.eval, Act.put]) (rA.ext bE) (by simp [Act.eval, Act.put]) hc1.out bE.size ?_
      intro v8 w8 own8 g8 b8
      have bF := bE.trans b8
      refine hK _ _ ((hd.ext bF).blk.cell 0 _ rfl) (fun hHeld => ?_)
      clear hK K
      try simp only [bare, Act.put, lyA, lyZ, lyS]
      refine wpAnyF_one 11 (some 38) (Op.buildSlice 75 1 #[(0, Operand.tmp 37)]) 75 rfl (by kernel_rfl) (fun K hK => ?_)
      have ownL := OwnR.litAt entE w8 #[.string s, .slice none 0 0, .int .i64 0] 87 [(⟨s, none, 0, [], 0⟩ : Ent)] 1 w.heap.size w8.heap.size rfl rfl rfl (by unfold maxLen; omega) bF.size
      have bG := bF.trans ((below_alloc w8 (.cells #[.string s, .slice none 0 0, .int .i64 0] 87)).mono bF.size)
      have own9 := own8.ext (below_alloc w8 (.cells #[.string s, .slice none 0 0, .int .i64 0] 87))
      dsimp only [bare]; go_simp
      refine hK _ _ ((hd.ext bG).blk.cell 0 _ rfl) (fun hHeld => ?_)
      clear hK K
      try simp only [bare, Act.put, lyA, lyZ, lyS]
      refine wpAnyF_one 12 (some 39) (Op.call { callee := Callee.builtin Builtin.append, args := #[Operand.tmp 35, Operand.tmp 38], argTypes := #[75, 75] }) 75 rfl (by kernel_rfl) (fun K hK => ?_)
      refine step_appR (E := entE) (s := .tmp 35) (y := .tmp 38) (B := w.heap.size) (l := [] ++ ys.take k) (m := [(⟨s, none, 0, [], 0⟩ : Ent)]) tRef rfl rfl own9 (by simp [Act.eval, Act.put]) ownL.rd (by simp [Act.eval, Act.put]) hc2.out bG.size ?_
      intro v9 w9 own10 g9 b9
      have bH := bG.trans b9
      refine hK _ _ ((hd.ext bH).blk.cell 0 _ rfl) (fun hHeld => ?_)
      clear hK K
      try simp only [bare, Act.put, lyA, lyZ, lyS]
      refine wpAnyF_one 19 (some 46) (Op.call { callee := Callee.builtin Builtin.append, args := #[Operand.tmp 39, Operand.tmp 45], argTypes := #[75, 75] }) 75 rfl (by kernel_rfl) (fun K hK => ?_)
      refine step_appR (E := entE) (s := .tmp 39) (y := .tmp 45) (B := w.heap.size) (l := [] ++ ys.take k ++ [(⟨s, none, 0, [], 0⟩ : Ent)]) (m := ys.drop k) tRef rfl rfl own10 (by simp [Act.eval, Act.put]) (rB.ext bH) (by simp [Act.eval, Act.put]) hc3.out bH.size ?_
      intro v10 w10 own11 g10 b10
      have bI := bH.trans b10
      refine hK _ _ ((hd.ext bI).blk.cell 0 _ rfl) (fun hHeld => ?_)
      clear hK K
      try simp only [bare, Act.put, lyA, lyZ, lyS]
      have fz := (hd.ext bI).blk.frozen 0
      have own12 : OwnR entE w10 w.heap.size 87 v10 (ys.take k ++ (⟨s, none, 0, [], 0⟩ : Ent) :: ys.drop k) := by have h := own11; rw [List.nil_append, List.append_assoc] at h; exact h
      have hres := hd.putRow (grown_below bI) (Own.base own12 (Nat.zero_le _)) (.inr (fun n hn => (OwnR.lt own12 n hn).1)) hz
      have hend : RefX (w10.setCell ⟨g, 0, none⟩ v10) (FF F w (w10.setCell ⟨g, 0, none⟩ v10)) g l o (insE ys (⟨s, none, 0, [], 0⟩ : Ent)) := by
       have e : insE ys (⟨s, none, 0, [], 0⟩ : Ent) = ys.take k ++ (⟨s, none, 0, [], 0⟩ : Ent) :: ys.drop k := by unfold insE; rw [show ((⟨s, none, 0, [], 0⟩ : Ent)).name = s from rfl, Hp.out]
       rw [e]; exact ⟨v10, hres.1⟩
      have hchg := hres.2
      have r12 := own12.rd
      clear hres own11 own12
      generalize ys.take k ++ (⟨s, none, 0, [], 0⟩ : Ent) :: ys.drop k = L at *
      obtain ⟨p9, c9, rfl⟩ := r12.shape
      have Hend := Lib.hid hend
      have Hchg := Lib.hid hchg
      clear hend hchg r12
      refine wpAnyF_tk 20 _ _ _ (v := ?_) rfl (by kernel_rfl) (fun _ _ _ h => h) ?_ hHeld ?_
      rotate_left
      · intro w hSw
        try dsimp only at hSw
        dsimp only [bare]
        go_simp <;> with_reducible rfl
      try simp only [bare, Act.put, lyA, lyZ, lyS]
      refine wpAnyF_tk 21 _ _ _ (v := ?_) rfl (by kernel_rfl) (fun _ _ _ h => h) ?_ hHeld ?_
      rotate_left
      · intro w hSw
        try dsimp only at hSw
        dsimp only [bare]
        go_simp <;> with_reducible rfl
      try simp only [bare, Act.put, lyA, lyZ, lyS]
      refine wpAnyF_end (none) (Op.store 75 (Operand.tmp 48) (Operand.tmp 46)) 0 rfl (by kernel_rfl) (by kernel_rfl) (fun K hK => ?_)
      dsimp only [bare]; go_simp
      refine hK _ _ ?_
      clear hK K
      try simp only [bare, Act.put, lyA, lyZ, lyS]
      go_wp2_with fail
      go_ret
      exact ⟨ret_int (by rw [Hp.out]), Hend.out, Hchg.out⟩
    · have ownL := OwnR.litAt entE (w.drew.alloc (.cells #[] 87)) #[.string s, .slice none 0 0, .int .i64 0] 87 [(⟨s, none, 0, [], 0⟩ : Ent)] 1 w.heap.size (w.drew.alloc (.cells #[] 87)).heap.size rfl rfl rfl (by unfold maxLen; omega) bE.size
      have bF := bE.trans ((below_alloc (w.drew.alloc (.cells #[] 87)) (.cells #[.string s, .slice none 0 0, .int .i64 0] 87)).mono bE.size)
      have ownE2 := ownE.ext (below_alloc (w.drew.alloc (.cells #[] 87)) (.cells #[.string s, .slice none 0 0, .int .i64 0] 87))
      dsimp only [bare]; go_simp
      refine hK _ _ ((hd.ext bF).blk.cell 0 _ rfl) (fun hHeld => ?_)
      clear hK K
      try simp only [bare, Act.put, lyA, lyZ, lyS]
      refine wpAnyF_one 8 (some 35) (Op.call { callee := Callee.builtin Builtin.append, args := #[Operand.tmp 28, Operand.tmp 34], argTypes := #[75, 75] }) 75 rfl (by kernel_rfl) (fun K hK => ?_)
      refine step_appR (E := entE) (s := .tmp 28) (y := .tmp 34) (B := w.heap.size) (l := []) (m := ys.take k) tRef rfl rfl ownE2 (by simp [Act.eval, Act.put]) (rA.ext bF) (by simp [Act.eval, Act.put]) hc1.out bF.size ?_
      intro v8 w8 own8 g8 b8
      have bG := bF.trans b8
      have own9 := own8
      have rL := ownL.rd.grown g8 (.inr (by simp [Value.ownBlock]))
      refine hK _ _ ((hd.ext bG).blk.cell 0 _ rfl) (fun hHeld => ?_)
      clear hK K
      try simp only [bare, Act.put, lyA, lyZ, lyS]
      refine wpAnyF_one 12 (some 39) (Op.call { callee := Callee.builtin Builtin.append, args := #[Operand.tmp 35, Operand.tmp 38], argTypes := #[75, 75] }) 75 rfl (by kernel_rfl) (fun K hK => ?_)
      refine step_appR (E := entE) (s := .tmp 35) (y := .tmp 38) (B := w.heap.size) (l := [] ++ ys.take k) (m := [(⟨s, none, 0, [], 0⟩ : Ent)]) tRef rfl rfl own9 (by simp [Act.eval, Act.put]) rL (by simp [Act.eval, Act.put]) hc2.out bG.size ?_
      intro v9 w9 own10 g9 b9
      have bH := bG.trans b9
      refine hK _ _ ((hd.ext bH).blk.cell 0 _ rfl) (fun hHeld => ?_)
      clear hK K
      try simp only [bare, Act.put, lyA, lyZ, lyS]
      refine wpAnyF_one 19 (some 46) (Op.call { callee := Callee.builtin Builtin.append, args := #[Operand.tmp 39, Operand.tmp 45], argTypes := #[75, 75] }) 75 rfl (by kernel_rfl) (fun K hK => ?_)
      refine step_appR (E := entE) (s := .tmp 39) (y := .tmp 45) (B := w.heap.size) (l := [] ++ ys.take k ++ [(⟨s, none, 0, [], 0⟩ : Ent)]) (m := ys.drop k) tRef rfl rfl own10 (by simp [Act.eval, Act.put]) (rB.ext bH) (by simp [Act.eval, Act.put]) hc3.out bH.size ?_
      intro v10 w10 own11 g10 b10
      have bI := bH.trans b10
      refine hK _ _ ((hd.ext bI).blk.cell 0 _ rfl) (fun hHeld => ?_)
      clear hK K
      try simp only [bare, Act.put, lyA, lyZ, lyS]
      have fz := (hd.ext bI).blk.frozen 0
      have own12 : OwnR entE w10 w.heap.size 87 v10 (ys.take k ++ (⟨s, none, 0, [], 0⟩ : Ent) :: ys.drop k) := by have h := own11; rw [List.nil_append, List.append_assoc] at h; exact h
      have hres := hd.putRow (grown_below bI) (Own.base own12 (Nat.zero_le _)) (.inr (fun n hn => (OwnR.lt own12 n hn).1)) hz
      have hend : RefX (w10.setCell ⟨g, 0, none⟩ v10) (FF F w (w10.setCell ⟨g, 0, none⟩ v10)) g l o (insE ys (⟨s, none, 0, [], 0⟩ : Ent)) := by
       have e : insE ys (⟨s, none, 0, [], 0⟩ : Ent) = ys.take k ++ (⟨s, none, 0, [], 0⟩ : Ent) :: ys.drop k := by unfold insE; rw [show ((⟨s, none, 0, [], 0⟩ : Ent)).name = s from rfl, Hp.out]
       rw [e]; exact ⟨v10, hres.1⟩
      have hchg := hres.2
      have r12 := own12.rd
      clear hres own11 own12
      generalize ys.take k ++ (⟨s, none, 0, [], 0⟩ : Ent) :: ys.drop k = L at *
      obtain ⟨p9, c9, rfl⟩ := r12.shape
      have Hend := Lib.hid hend
      have Hchg := Lib.hid hchg
      clear hend hchg r12
      refine wpAnyF_tk 20 _ _ _ (v := ?_) rfl (by kernel_rfl) (fun _ _ _ h => h) ?_ hHeld ?_
      rotate_left
      · intro w hSw
        try dsimp only at hSw
        dsimp only [bare]
        go_simp <;> with_reducible rfl
      try simp only [bare, Act.put, lyA, lyZ, lyS]
      refine wpAnyF_tk 21 _ _ _ (v := ?_) rfl (by kernel_rfl) (fun _ _ _ h => h) ?_ hHeld ?_
      rotate_left
      · intro w hSw
        try dsimp only at hSw
        dsimp only [bare]
        go_simp <;> with_reducible rfl
      try simp only [bare, Act.put, lyA, lyZ, lyS]
      refine wpAnyF_end (none) (Op.store 75 (Operand.tmp 48) (Operand.tmp 46)) 0 rfl (by kernel_rfl) (by kernel_rfl) (fun K hK => ?_)
      dsimp only [bare]; go_simp
      refine hK _ _ ?_
      clear hK K
      try simp only [bare, Act.put, lyA, lyZ, lyS]
      go_wp2_with fail
      go_ret
      exact ⟨ret_int (by rw [Hp.out]), Hend.out, Hchg.out⟩
  · have ownL := OwnR.litAt entE w.drew #[.string s, .slice none 0 0, .int .i64 0] 87 [(⟨s, none, 0, [], 0⟩ : Ent)] 1 w.heap.size w.drew.heap.size rfl rfl rfl (by unfold maxLen; omega) bD.size
    have bE := bD.trans ((below_alloc w.drew (.cells #[.string s, .slice none 0 0, .int .i64 0] 87)).mono bD.size)
    dsimp only [bare]; go_simp
    refine hK _ _ ((hd.ext bE).blk.cell 0 _ rfl) (fun hHeld => ?_)
    clear hK K
    try simp only [bare, Act.put, lyA, lyZ, lyS]
    refine wpAnyF_one 1 (some 28) (Op.buildSlice 75 0 #[]) 75 rfl (by kernel_rfl) (fun K hK => ?_)
    have ownE := OwnR.litAt entE (w.drew.alloc (.cells #[.string s, .slice none 0 0, .int .i64 0] 87)) #[] 87 [] 0 w.heap.size (w.drew.alloc (.cells #[.string s, .slice none 0 0, .int .i64 0] 87)).heap.size rfl rfl rfl (Nat.zero_le _) bE.size
    have bF := bE.trans ((below_alloc (w.drew.alloc (.cells #[.string s, .slice none 0 0, .int .i64 0] 87)) (.cells #[] 87)).mono bE.size)
    have rL1 := (ownL.ext (below_alloc (w.drew.alloc (.cells #[.string s, .slice none 0 0, .int .i64 0] 87)) (.cells #[] 87))).rd
    dsimp only [bare]; go_simp
    refine hK _ _ ((hd.ext bF).blk.cell 0 _ rfl) (fun hHeld => ?_)
    clear hK K
    try simp only [bare, Act.put, lyA, lyZ, lyS]
    refine wpAnyF_one 8 (some 35) (Op.call { callee := Callee.builtin Builtin.append, args := #[Operand.tmp 28, Operand.tmp 34], argTypes := #[75, 75] }) 75 rfl (by kernel_rfl) (fun K hK => ?_)
    refine step_appR (E := entE) (s := .tmp 28) (y := .tmp 34) (B := w.heap.size) (l := []) (m := ys.take k) tRef rfl rfl ownE (by simp [Act.eval, Act.put]) (rA.ext bF) (by simp [Act.eval, Act.put]) hc1.out bF.size ?_
    intro v8 w8 own8 g8 b8
    have bG := bF.trans b8
    have own9 := own8
    have rL := rL1.grown g8 (.inr (by simp [Value.ownBlock]))
    refine hK _ _ ((hd.ext bG).blk.cell 0 _ rfl) (fun hHeld => ?_)
    clear hK K
    try simp only [bare, Act.put, lyA, lyZ, lyS]
    refine wpAnyF_one 12 (some 39) (Op.call { callee := Callee.builtin Builtin.append, args := #[Operand.tmp 35, Operand.tmp 38], argTypes := #[75, 75] }) 75 rfl (by kernel_rfl) (fun K hK => ?_)
    refine step_appR (E := entE) (s := .tmp 35) (y := .tmp 38) (B := w.heap.size) (l := [] ++ ys.take k) (m := [(⟨s, none, 0, [], 0⟩ : Ent)]) tRef rfl rfl own9 (by simp [Act.eval, Act.put]) rL (by simp [Act.eval, Act.put]) hc2.out bG.size ?_
    intro v9 w9 own10 g9 b9
    have bH := bG.trans b9
    refine hK _ _ ((hd.ext bH).blk.cell 0 _ rfl) (fun hHeld => ?_)
    clear hK K
    try simp only [bare, Act.put, lyA, lyZ, lyS]
    refine wpAnyF_one 19 (some 46) (Op.call { callee := Callee.builtin Builtin.append, args := #[Operand.tmp 39, Operand.tmp 45], argTypes := #[75, 75] }) 75 rfl (by kernel_rfl) (fun K hK => ?_)
    refine step_appR (E := entE) (s := .tmp 39) (y := .tmp 45) (B := w.heap.size) (l := [] ++ ys.take k ++ [(⟨s, none, 0, [], 0⟩ : Ent)]) (m := ys.drop k) tRef rfl rfl own10 (by simp [Act.eval, Act.put]) (rB.ext bH) (by simp [Act.eval, Act.put]) hc3.out bH.size ?_
    intro v10 w10 own11 g10 b10
    have bI := bH.trans b10
    refine hK _ _ ((hd.ext bI).blk.cell 0 _ rfl) (fun hHeld => ?_)
    clear hK K
    try simp only [bare, Act.put, lyA, lyZ, lyS]
    have fz := (hd.ext bI).blk.frozen 0
    have own12 : OwnR entE w10 w.heap.size 87 v10 (ys.take k ++ (⟨s, none, 0, [], 0⟩ : Ent) :: ys.drop k) := by have h := own11; rw [List.nil_append, List.append_assoc] at h; exact h
    have hres := hd.putRow (grown_below bI) (Own.base own12 (Nat.zero_le _)) (.inr (fun n hn => (OwnR.lt own12 n hn).1)) hz
    have hend : RefX (w10.setCell ⟨g, 0, none⟩ v10) (FF F w (w10.setCell ⟨g, 0, none⟩ v10)) g l o (insE ys (⟨s, none, 0, [], 0⟩ : Ent)) := by
     have e : insE ys (⟨s, none, 0, [], 0⟩ : Ent) = ys.take k ++ (⟨s, none, 0, [], 0⟩ : Ent) :: ys.drop k := by unfold insE; rw [show ((⟨s, none, 0, [], 0⟩ : Ent)).name = s from rfl, Hp.out]
     rw [e]; exact ⟨v10, hres.1⟩
    have hchg := hres.2
    have r12 := own12.rd
    clear hres own11 own12
    generalize ys.take k ++ (⟨s, none, 0, [], 0⟩ : Ent) :: ys.drop k = L at *
    obtain ⟨p9, c9, rfl⟩ := r12.shape
    have Hend := Lib.hid hend
    have Hchg := Lib.hid hchg
    clear hend hchg r12
    refine wpAnyF_tk 20 _ _ _ (v := ?_) rfl (by kernel_rfl) (fun _ _ _ h => h) ?_ hHeld ?_
    rotate_left
    · intro w hSw
      try dsimp only at hSw
      dsimp only [bare]
      go_simp <;> with_reducible rfl
    try simp only [bare, Act.put, lyA, lyZ, lyS]
    refine wpAnyF_tk 21 _ _ _ (v := ?_) rfl (by kernel_rfl) (fun _ _ _ h => h) ?_ hHeld ?_
    rotate_left
    · intro w hSw
      try dsimp only at hSw
      dsimp only [bare]
      go_simp <;> with_reducible rfl
    try simp only [bare, Act.put, lyA, lyZ, lyS]
    refine wpAnyF_end (none) (Op.store 75 (Operand.tmp 48) (Operand.tmp 46)) 0 rfl (by kernel_rfl) (by kernel_rfl) (fun K hK => ?_)
    dsimp only [bare]; go_simp
    refine hK _ _ ?_
    clear hK K
    try simp only [bare, Act.put, lyA, lyZ, lyS]
    go_wp2_with fail
    go_ret
    exact ⟨ret_int (by rw [Hp.out]), Hend.out, Hchg.out⟩
end Go.Proofs.YtgpgcnmnfnnkjaaGreatDoor
end
