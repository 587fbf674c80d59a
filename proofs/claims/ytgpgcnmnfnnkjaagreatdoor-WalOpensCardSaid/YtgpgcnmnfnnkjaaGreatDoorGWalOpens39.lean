/- Walks of package wal: a Wal's anew. -/
import Derived.Test.YtgpgcnmnfnnkjaaGreatDoorGWalOpens37
set_option linter.unusedVariables false
set_option linter.unusedSimpArgs false
section
namespace Go.Proofs.YtgpgcnmnfnnkjaaGreatDoor
open Go Go.RowKit Go.PlainAid BigFrame
attribute [local go_sem] After.same

set_option maxRecDepth 8000 in
set_option maxHeartbeats 8000000 in
theorem walAnew {w0 w : World} {X : Nat → Prop} {g gw : Nat} {d : Dk} {v : Value} {ws : Wl} (hd : DwS w0 X g d w) (ok : okD d = true) (hw : WalV w X g gw v ws) (h : Hrd) (u : Value) (hu : Rd etyE w u h.log) (htab : ∀ w', Below w.heap.size w w' → TabW w') :
 Calls Tryz.prog 71 #[.pointer (some ⟨gw, 0, none⟩), hrdA h u] w fun e w' => e = .returned (.bool (anewW d ws h)) ∧ Below w.heap.size w w' := by
 obtain ⟨p, cap, rfl⟩ := hu.shape
 obtain ⟨q, caq, rfl⟩ := hw.log.shape
 have hnum := hw.num
 have ca := below_alloc w (.cells #[.int .i64 h.term, .int .i64 h.vote, .int .i64 h.base, .int .i64 h.bterm, .int .i64 h.members, .string h.snap, .slice p h.log.length cap] 24)
 have kA := Blk.new w #[.int .i64 h.term, .int .i64 h.vote, .int .i64 h.base, .int .i64 h.bterm, .int .i64 h.members, .string h.snap, .slice p h.log.length cap] 24
 have hd1 := hd.ext ca
 have hw1 := hw.ext ca
 have han : anewW d ws h = (decide (ws.n = 0) || decide (8192 < (fileW d ws.n).length) || decide (h.base ≠ ws.h.base) || decide (h.bterm ≠ ws.h.bterm) || decide (h.members ≠ ws.h.members) || decide (h.term < ws.h.term) || (decide (h.term = ws.h.term) && decide (ws.h.vote ≠ -1) && decide (h.vote ≠ ws.h.vote))) := rfl
 have Han := Lib.hid han
 have hfw : fileW d ws.n = (readD d (nameW ws.n)).getD [] := rfl
 have Hfw := Lib.hid hfw
 clear han hfw
 generalize anewW d ws h = R at *
 generalize fileW d ws.n = FB at *
 go_enter Tryz.func71, Tryz.ntmps71
 go_wp2_with fail
 generalize w.alloc (.cells #[.int .i64 h.term, .int .i64 h.vote, .int .i64 h.base, .int .i64 h.bterm, .int .i64 h.members, .string h.snap, .slice p h.log.length cap] 24) = W at *
 refine wp_region_F (n := 14) (S := fun w' : World => w'.cell? ⟨gw, 0, none⟩ = some (.pointer (some ⟨g, 0, none⟩)) ∧ w'.cell? ⟨gw, 1, none⟩ = some (.int .i64 (ws.n : Int))) (by kernel_rfl) ?_
 have hHeld : (fun w' : World => w'.cell? ⟨gw, 0, none⟩ = some (.pointer (some ⟨g, 0, none⟩)) ∧ w'.cell? ⟨gw, 1, none⟩ = some (.int .i64 (ws.n : Int))) W.drew := ⟨hw1.c0, hw1.c1⟩
 refine wpAnyF_tk 0 _ _ _ (v := ?_) rfl (by kernel_rfl) (fun _ _ _ h => h) ?_ hHeld ?_
 rotate_left
 · intro w hSw
   try dsimp only at hSw
   obtain ⟨_, _⟩ := hSw
   dsimp only [bare]
   go_simp <;> with_reducible rfl
 try simp only [bare, Act.put, lyA, lyZ, lyS]
 refine wpAnyF_tk 1 _ _ _ (v := ?_) rfl (by kernel_rfl) (fun _ _ _ h => h) ?_ hHeld ?_
 rotate_left
 · intro w hSw
   try dsimp only at hSw
   obtain ⟨_, _⟩ := hSw
   dsimp only [bare]
   go_simp <;> with_reducible rfl
 try simp only [bare, Act.put, lyA, lyZ, lyS]
 refine wpAnyF_tk 2 _ _ _ (v := ?_) rfl (by kernel_rfl) (fun _ _ _ h => h) ?_ hHeld ?_
 rotate_left
 · intro w hSw
   try dsimp only at hSw
   obtain ⟨_, _⟩ := hSw
   dsimp only [bare]
   go_simp <;> with_reducible rfl
 try simp only [bare, Act.put, lyA, lyZ, lyS]
 refine wpAnyF_tk 3 _ _ _ (v := ?_) rfl (by kernel_rfl) (fun _ _ _ h => h) ?_ hHeld ?_
 rotate_left
 · intro w hSw
   try dsimp only at hSw
   obtain ⟨_, _⟩ := hSw
   dsimp only [bare]
   go_simp <;> with_reducible rfl
 try simp only [bare, Act.put, lyA, lyZ, lyS]
 refine wpAnyF_tk 4 _ _ _ (v := ?_) rfl (by kernel_rfl) (fun _ _ _ h => h) ?_ hHeld ?_
 rotate_left
 · intro w hSw
   try dsimp only at hSw
   obtain ⟨_, _⟩ := hSw
   dsimp only [bare]
   go_simp <;> with_reducible rfl
 try simp only [bare, Act.put, lyA, lyZ, lyS]
 refine wpAnyF_tk 5 _ _ _ (v := ?_) rfl (by kernel_rfl) (fun _ _ _ h => h) ?_ hHeld ?_
 rotate_left
 · intro w hSw
   try dsimp only at hSw
   obtain ⟨_, _⟩ := hSw
   dsimp only [bare]
   go_simp <;> with_reducible rfl
 try simp only [bare, Act.put, lyA, lyZ, lyS]
 refine wpAnyF_tk 6 _ _ _ (v := ?_) rfl (by kernel_rfl) (fun _ _ _ h => h) ?_ hHeld ?_
 rotate_left
 · intro w hSw
   try dsimp only at hSw
   obtain ⟨_, _⟩ := hSw
   dsimp only [bare]
   go_simp <;> with_reducible rfl
 try simp only [bare, Act.put, lyA, lyZ, lyS]
 refine wpAnyF_tk 7 _ _ _ (v := ?_) rfl (by kernel_rfl) (fun _ _ _ h => h) ?_ hHeld ?_
 rotate_left
 · intro w hSw
   try dsimp only at hSw
   obtain ⟨_, _⟩ := hSw
   dsimp only [bare]
   go_simp <;> with_reducible rfl
 try simp only [bare, Act.put, lyA, lyZ, lyS]
 refine wpAnyF_one 8 (some 17) (Op.call { callee := Callee.value (Operand.func 63), args := #[Operand.tmp 16], argTypes := #[3] }) 9 rfl (by kernel_rfl) (fun K hK => ?_)
 dsimp only [bare]; go_simp
 refine (walNamed ws.n _ rfl (by omega) W.drew (htab _ (ca.drew))).mono ?_
 rintro e w2 ⟨rfl, b2⟩
 dsimp only
 have bE : Below W.heap.size W w2 := (below_drew _ _).trans b2
 have hd2 := hd1.ext bE
 have hw2 := hw1.ext bE
 refine hK _ _ ⟨hw2.c0, hw2.c1⟩ (fun hHeld => ?_)
 clear hK K
 try simp only [bare, Act.put, lyA, lyZ, lyS]
 refine wpAnyF_one 9 (some 18) (Op.call { callee := Callee.value (Operand.func 62), args := #[Operand.tmp 12, Operand.tmp 17], argTypes := #[40, 9] }) 37 rfl (by kernel_rfl) (fun K hK => ?_)
 dsimp only [bare]; go_simp
 refine (lRead hd2 ok (nameW ws.n) rfl).mono ?_
 rintro e w3 ⟨⟨r, rfl, own3⟩, b3⟩
 dsimp only
 have bF := bE.trans (b3.mono bE.size)
 have hw3 := hw2.ext b3
 refine hK _ _ ⟨hw3.c0, hw3.c1⟩ (fun hHeld => ?_)
 clear hK K
 try simp only [bare, Act.put, lyA, lyZ, lyS]
 refine wpAnyF_tk 10 _ _ _ (v := ?_) rfl (by kernel_rfl) (fun _ _ _ h => h) ?_ hHeld ?_
 rotate_left
 · intro w hSw
   try dsimp only at hSw
   obtain ⟨_, _⟩ := hSw
   dsimp only [bare]
   go_simp <;> with_reducible rfl
 try simp only [bare, Act.put, lyA, lyZ, lyS]
 refine wpAnyF_tk 11 _ _ _ (v := ?_) rfl (by kernel_rfl) (fun _ _ _ h => h) ?_ hHeld ?_
 rotate_left
 · intro w hSw
   try dsimp only at hSw
   obtain ⟨_, _⟩ := hSw
   dsimp only [bare]
   go_simp <;> with_reducible rfl
 try simp only [bare, Act.put, lyA, lyZ, lyS]
 refine wpAnyF_tk 12 _ _ _ (v := ?_) rfl (by kernel_rfl) (fun _ _ _ h => h) ?_ hHeld ?_
 rotate_left
 · intro w hSw
   try dsimp only at hSw
   obtain ⟨_, _⟩ := hSw
   dsimp only [bare]
   go_simp <;> with_reducible rfl
 try simp only [bare, Act.put, lyA, lyZ, lyS]
 refine wpAnyF_tk 13 _ _ _ (v := ?_) rfl (by kernel_rfl) (fun _ _ _ h => h) ?_ hHeld ?_
 rotate_left
 · intro w hSw
   try dsimp only at hSw
   obtain ⟨_, _⟩ := hSw
   dsimp only [bare]
   go_simp <;> with_reducible rfl
 try simp only [bare, Act.put, lyA, lyZ, lyS]
 refine wpAnyF_end (some 6) (Op.assign (Operand.tmp 20)) 4 rfl (by kernel_rfl) (by kernel_rfl) (fun K hK => ?_)
 dsimp only [bare]; go_simp
 refine hK _ _ ?_
 clear hK K
 try simp only [bare, Act.put, lyA, lyZ, lyS]
 have hs3 := bF.size
 have b03 : Below w.heap.size w w3 := ca.trans (bF.mono ca.size)
 have kA3 := kA.ext bF
 have hA3 := kA3.lt
 have hg3 := hw3.blk.lt
 have b04 : Below w.heap.size w (w3.alloc (.cells #[.int .i64 ws.h.term, .int .i64 ws.h.vote, .int .i64 ws.h.base, .int .i64 ws.h.bterm, .int .i64 ws.h.members, .string ws.h.snap, .slice q ws.h.log.length caq] 24)) := b03.trans ((below_alloc _ _).mono b03.size)
 have a0 := kA3.cell 0 _ rfl
 have a1 := kA3.cell 1 _ rfl
 have a2 := kA3.cell 2 _ rfl
 have a3 := kA3.cell 3 _ rfl
 have a4 := kA3.cell 4 _ rfl
 have a5 := kA3.cell 5 _ rfl
 have c0 := hw3.c0
 have c1 := hw3.c1
 have c2 := hw3.c2
 have c3 := hw3.c3
 have c4 := hw3.c4
 have c5 := hw3.c5
 have c6 := hw3.c6
 have c7 := hw3.c7
 have c8 := hw3.c8
 have c9 := hw3.c9
 have hd0 := hw3.c0
 obtain ⟨pr, cr, rfl⟩ := own3.bytes.shape
 have Hl := Lib.hid (congrArg List.length Hfw.out)
 rw [← Hfw.out] at own3
 rw [← Hl.out]
 clear hd hd1 hw hw1 hu kA kA3 ca hd2 hw2 hw3 own3 htab
 by_cases q0 : ws.n = 0
 · have r0 : ((ws.n : Int) == 0) = true := by simp; first | omega | exact q0
   have Hr := Lib.hid (show R = true from Han.out.trans (by simp [q0]))
   clear q0
   clear Han Hfw Hl
   go_wp2_with fail
   go_ret
   exact ⟨ret_bool Hr.out.symm, b04⟩
 · have r0 : ((ws.n : Int) == 0) = false := by simp; first | omega | exact q0
   by_cases q1 : 8192 < FB.length
   · have r1 : (8192 : Int) < (FB.length : Int) := by omega
     have Hr := Lib.hid (show R = true from Han.out.trans (by simp [q0, q1]))
     clear q0 q1
     clear Han Hfw Hl
     go_wp2_with fail
     go_ret
     exact ⟨ret_bool Hr.out.symm, b04⟩
   · have r1 : ¬ (8192 : Int) < (FB.length : Int) := by omega
     by_cases q2 : h.base ≠ ws.h.base
     · have r2 : (h.base != ws.h.base) = true := by simpa using q2
       have Hr := Lib.hid (show R = true from Han.out.trans (by simp [q0, q1, q2]))
       clear q0 q1 q2
       clear Han Hfw Hl
       go_wp2_with fail
       go_ret
       exact ⟨ret_bool Hr.out.symm, b04⟩
     · have r2 : (h.base != ws.h.base) = false := by simpa using q2
       by_cases q3 : h.bterm ≠ ws.h.bterm
       · have r3 : (h.bterm != ws.h.bterm) = true := by simpa using q3
         have Hr := Lib.hid (show R = true from Han.out.trans (by simp [q0, q1, q2, q3]))
         clear q0 q1 q2 q3
         clear Han Hfw Hl
         go_wp2_with fail
         go_ret
         exact ⟨ret_bool Hr.out.symm, b04⟩
       · have r3 : (h.bterm != ws.h.bterm) = false := by simpa using q3
         by_cases q4 : h.members ≠ ws.h.members
         · have r4 : (h.members != ws.h.members) = true := by simpa using q4
           have Hr := Lib.hid (show R = true from Han.out.trans (by simp [q0, q1, q2, q3, q4]))
           clear q0 q1 q2 q3 q4
           clear Han Hfw Hl
           go_wp2_with fail
           go_ret
           exact ⟨ret_bool Hr.out.symm, b04⟩
         · have r4 : (h.members != ws.h.members) = false := by simpa using q4
           by_cases q5 : h.term < ws.h.term
           · have Hr := Lib.hid (show R = true from Han.out.trans (by simp [q0, q1, q2, q3, q4, q5]))
             clear q0 q1 q2 q3 q4
             clear Han Hfw Hl
             go_wp2_with fail
             go_ret
             exact ⟨ret_bool Hr.out.symm, b04⟩
           · by_cases q6 : h.term = ws.h.term
             · have r6 : (h.term == ws.h.term) = true := by simpa using q6
               by_cases q7 : ws.h.vote = -1
               · have r7 : (ws.h.vote != -1) = false := by simpa using q7
                 have Hr := Lib.hid (show R = false from Han.out.trans (by simp [q0, q1, q2, q3, q4, q6, q7]))
                 clear q0 q1 q2 q3 q4 q6 q7
                 clear Han Hfw Hl
                 go_wp2_with fail
                 go_ret
                 exact ⟨ret_bool Hr.out.symm, b04⟩
               · have r7 : (ws.h.vote != -1) = true := by simpa using q7
                 by_cases q8 : h.vote = ws.h.vote
                 · have r8 : (h.vote != ws.h.vote) = false := by simpa using q8
                   have Hr := Lib.hid (show R = false from Han.out.trans (by simp [q0, q1, q2, q3, q4, q6, q8]))
                   clear q0 q1 q2 q3 q4 q6 q7 q8
                   clear Han Hfw Hl
                   go_wp2_with fail
                   go_ret
                   exact ⟨ret_bool Hr.out.symm, b04⟩
                 · have r8 : (h.vote != ws.h.vote) = true := by simpa using q8
                   have Hr := Lib.hid (show R = true from Han.out.trans (by simp [q0, q1, q2, q3, q4, q6, q7, q8]))
                   clear q0 q1 q2 q3 q4 q6 q7 q8
                   clear Han Hfw Hl
                   go_wp2_with fail
                   go_ret
                   exact ⟨ret_bool Hr.out.symm, b04⟩
             · have r6 : (h.term == ws.h.term) = false := by simpa using q6
               have Hr := Lib.hid (show R = false from Han.out.trans (by simp [q0, q1, q2, q3, q4, q5, q6]))
               clear q0 q1 q2 q3 q4 q6
               clear Han Hfw Hl
               go_wp2_with fail
               go_ret
               exact ⟨ret_bool Hr.out.symm, b04⟩
end Go.Proofs.YtgpgcnmnfnnkjaaGreatDoor
end
