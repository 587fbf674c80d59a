/- Walks of package store: bytes, read. -/
import Derived.Test.YtgpgcnmnfnnkjaaDoorGStoreRuns30
import Derived.Test.YtgpgcnmnfnnkjaaDoorGStoreRuns33
import Derived.Test.YtgpgcnmnfnnkjaaDoorGStoreRuns13
set_option linter.unusedVariables false
set_option linter.unusedSimpArgs false
section
namespace Go.Proofs.YtgpgcnmnfnnkjaaDoor
open Go Go.RowKit Go.PlainAid BigFrame
set_option maxRecDepth 8000 in
set_option maxHeartbeats 4000000 in
theorem stoBytes (h : Hrd) (u : Value) (w : World) (hu : Rd etyE w u h.log) (hiba : In64 h.base) (hibt : In64 h.bterm) (hime : In64 h.members) (hs : h.snap.size ≤ 1000000000) :
 Calls Tryd.prog 84 #[hrdA h u] w fun e w' => ∃ r, e = .returned r ∧ OwnB w' w.heap.size 5 r (snapB h) ∧ Below w.heap.size w w' := by
 obtain ⟨pu, cu, rfl⟩ := hu.shape
 have ca := below_alloc w (.cells #[.int .i64 h.term, .int .i64 h.vote, .int .i64 h.base, .int .i64 h.bterm, .int .i64 h.members, .string h.snap, .slice pu h.log.length cu] 30)
 have ka := Blk.new w #[.int .i64 h.term, .int .i64 h.vote, .int .i64 h.base, .int .i64 h.bterm, .int .i64 h.members, .string h.snap, .slice pu h.log.length cu] 30
 have hb3 := numB_le h.base
 have hb4 := numB_le h.bterm
 have hb5 := numB_le h.members
 go_enter Tryd.func84, Tryd.ntmps84
 go_wp2_with fail
 obtain ⟨wa, hwa⟩ : ∃ wa, wa = w.alloc (.cells #[.int .i64 h.term, .int .i64 h.vote, .int .i64 h.base, .int .i64 h.bterm, .int .i64 h.members, .string h.snap, .slice pu h.log.length cu] 30) := ⟨_, rfl⟩
 rw [← hwa] at ca ka ⊢
 have hsz : wa.heap.size = w.heap.size + 1 := by rw [hwa]; simp
 clear hwa
 refine wp_region_F (n := 9) (S := fun w' : World => w'.cell? ⟨w.heap.size, 2, none⟩ = some (.int .i64 h.base) ∧ w'.cell? ⟨w.heap.size, 3, none⟩ = some (.int .i64 h.bterm) ∧ w'.cell? ⟨w.heap.size, 4, none⟩ = some (.int .i64 h.members)) (by kernel_rfl) ?_
 have k0 := ka.drew
 have z0 : Below w.heap.size w wa.drew := ca.trans ((below_drew _ _))
 have hHeld : (fun w' : World => w'.cell? ⟨w.heap.size, 2, none⟩ = some (.int .i64 h.base) ∧ w'.cell? ⟨w.heap.size, 3, none⟩ = some (.int .i64 h.bterm) ∧ w'.cell? ⟨w.heap.size, 4, none⟩ = some (.int .i64 h.members)) wa.drew := ⟨k0.cell 2 _ rfl, k0.cell 3 _ rfl, k0.cell 4 _ rfl⟩
 refine wpAnyF_tk 0 _ _ _ (v := ?_) rfl (by kernel_rfl) (fun _ _ _ h => h) ?_ hHeld ?_
 rotate_left
 · intro w hSw
   try dsimp only at hSw
   obtain ⟨_, _, _⟩ := hSw
   dsimp only [bare]
   go_simp <;> with_reducible rfl
 try simp only [bare, Act.put, lyA, lyZ, lyS]
 refine wpAnyF_tk 1 _ _ _ (v := ?_) rfl (by kernel_rfl) (fun _ _ _ h => h) ?_ hHeld ?_
 rotate_left
 · intro w hSw
   try dsimp only at hSw
   obtain ⟨_, _, _⟩ := hSw
   dsimp only [bare]
   go_simp <;> with_reducible rfl
 try simp only [bare, Act.put, lyA, lyZ, lyS]
 refine wpAnyF_tk 3 _ _ _ (v := ?_) rfl (by kernel_rfl) (fun _ _ _ h => h) ?_ hHeld ?_
 rotate_left
 · intro w hSw
   try dsimp only at hSw
   obtain ⟨_, _, _⟩ := hSw
   dsimp only [bare]
   go_simp <;> with_reducible rfl
 try simp only [bare, Act.put, lyA, lyZ, lyS]
 refine wpAnyF_tk 4 _ _ _ (v := ?_) rfl (by kernel_rfl) (fun _ _ _ h => h) ?_ hHeld ?_
 rotate_left
 · intro w hSw
   try dsimp only at hSw
   obtain ⟨_, _, _⟩ := hSw
   dsimp only [bare]
   go_simp <;> with_reducible rfl
 try simp only [bare, Act.put, lyA, lyZ, lyS]
 refine wpAnyF_tk 6 _ _ _ (v := ?_) rfl (by kernel_rfl) (fun _ _ _ h => h) ?_ hHeld ?_
 rotate_left
 · intro w hSw
   try dsimp only at hSw
   obtain ⟨_, _, _⟩ := hSw
   dsimp only [bare]
   go_simp <;> with_reducible rfl
 try simp only [bare, Act.put, lyA, lyZ, lyS]
 refine wpAnyF_tk 7 _ _ _ (v := ?_) rfl (by kernel_rfl) (fun _ _ _ h => h) ?_ hHeld ?_
 rotate_left
 · intro w hSw
   try dsimp only at hSw
   obtain ⟨_, _, _⟩ := hSw
   dsimp only [bare]
   go_simp <;> with_reducible rfl
 try simp only [bare, Act.put, lyA, lyZ, lyS]
 refine wpAnyF_one 2 (some 6) (Op.call { callee := Callee.value (Operand.func 79), args := #[Operand.const (Value.slice none 0 0), Operand.tmp 5], argTypes := #[64, 3] }) 64 rfl (by kernel_rfl) (fun K hK => ?_)
 dsimp only [bare]; go_simp
 refine (packNum (.slice none 0 0) [] h.base wa.drew (Bytes.nil _) (by simp only [List.length_append, List.length_nil]; omega) hiba.1 hiba.2).mono ?_
 rintro e w1 ⟨q1, rfl, own1, b1⟩
 dsimp only
 have k1 := k0.ext b1
 have z1 := z0.trans (b1.mono z0.size)
 refine hK _ _ ⟨k1.cell 2 _ rfl, k1.cell 3 _ rfl, k1.cell 4 _ rfl⟩ (fun hHeld => ?_)
 clear hK K
 try simp only [bare, Act.put, lyA, lyZ, lyS]
 refine wpAnyF_one 5 (some 9) (Op.call { callee := Callee.value (Operand.func 79), args := #[Operand.tmp 6, Operand.tmp 8], argTypes := #[64, 3] }) 64 rfl (by kernel_rfl) (fun K hK => ?_)
 dsimp only [bare]; go_simp
 refine (packNum _ _ h.bterm w1 own1.bytes (by simp only [List.length_append, List.length_nil]; omega) hibt.1 hibt.2).mono ?_
 rintro e w2 ⟨q2, rfl, own2, b2⟩
 dsimp only
 have k2 := k1.ext b2
 have z2 := z1.trans (b2.mono z1.size)
 refine hK _ _ ⟨k2.cell 2 _ rfl, k2.cell 3 _ rfl, k2.cell 4 _ rfl⟩ (fun hHeld => ?_)
 clear hK K
 try simp only [bare, Act.put, lyA, lyZ, lyS]
 refine wpAnyF_one 8 (some 12) (Op.call { callee := Callee.value (Operand.func 79), args := #[Operand.tmp 9, Operand.tmp 11], argTypes := #[64, 3] }) 64 rfl (by kernel_rfl) (fun K hK => ?_)
 dsimp only [bare]; go_simp
 refine (packNum _ _ h.members w2 own2.bytes (by simp only [List.length_append, List.length_nil]; omega) hime.1 hime.2).mono ?_
 rintro e w3 ⟨q3, rfl, own3, b3⟩
 dsimp only
 have k3 := k2.ext b3
 have z3 := z2.trans (b3.mono z2.size)
 refine hK _ _ ⟨k3.cell 2 _ rfl, k3.cell 3 _ rfl, k3.cell 4 _ rfl⟩ (fun hHeld => ?_)
 clear hK K
 try simp only [bare, Act.put, lyA, lyZ, lyS]
 refine wpAnyF_end (some 3) (Op.assign (Operand.tmp 12)) 64 rfl (by kernel_rfl) (by kernel_rfl) (fun K hK => ?_)
 dsimp only [bare]; go_simp
 refine hK _ _ ?_
 clear hK K
 try simp only [bare, Act.put, lyA, lyZ, lyS]
 have y5 := k3.cell 5 _ rfl
 go_wp2_with fail
 refine (packText _ _ h.snap w3 own3.bytes (by simp only [List.length_append]; simp only [List.length_nil]; omega)).mono ?_
 rintro e w4 ⟨q4, rfl, own4, b4⟩
 have htl : (textB h.snap.data.toList).length ≤ h.snap.size + 10 := by
  have := numB_le (h.snap.data.toList.length : Int)
  unfold textB; rw [List.length_append]; simp at *; omega
 go_wp2_with fail
 refine (framePut (.slice none 0 0) q4 [] _ w4 (Bytes.nil _) own4.bytes (by simp) (by simp only [List.length_append, List.length_nil]; omega)).mono ?_
 rintro e w5 ⟨q5, rfl, own5, b5⟩
 go_wp2_with fail
 go_ret
 have z4 := z3.trans (b4.mono z3.size)
 have e : Frm.put [] ([] ++ numB h.base ++ numB h.bterm ++ numB h.members ++ textB h.snap.data.toList) = snapB h := by
  unfold snapB payP Frm.put bytesOf
  simp [numsB]
 rw [e] at own5
 exact ⟨_, rfl, own5.base z4.size, z4.trans (b5.mono z4.size)⟩
/-- a Reader, and a block beside it -/
structure RdK (w0 w : World) (H gr : Nat) (vr : Value) (r : Rdr) (cs : Array Value) (t : TypeId) : Prop where
 rd : RdrAt w gr vr r
 kb : Blk w H cs t
 bel : Below w0.heap.size w0 w
 low : w0.heap.size ≤ gr
 ne : H ≠ gr
theorem RdK.step {w0 w w' : World} {H gr : Nat} {vr : Value} {r r' : Rdr} {cs : Array Value} {t : TypeId} (k : RdK w0 w H gr vr r cs t) (hr : RdrAt w' gr vr r') (hc : Chg (fun k => k = gr) w w') : RdK w0 w' H gr vr r' cs t :=
 ⟨hr, hc.blk k.kb k.ne, k.bel.trans (hc.below (fun j hj => by rw [hj]; exact k.low) k.bel.size), k.low, k.ne⟩
def ReadI (w : World) (o : Option (List UInt8)) (e : Ending) (w' : World) : Prop :=
 (match o with
 | some s => e = .returned (.tuple #[.string (ofBytes s), .bool true])
 | none => e = .returned (.tuple #[.string ⟨#[]⟩, .bool false])) ∧ Below w.heap.size w w'
theorem parseP_if (p : List UInt8) (h : Hrd) {N1 N2 N3 : Int × Rdr} {S : List UInt8 × Rdr} {E : Int} (h1 : rNum (rd0 p) = N1) (h2 : rNum N1.2 = N2) (h3 : rNum N2.2 = N3) (h4 : rText 65536 N3.2 = S) (h5 : (rEnd S.2).1 = E) :
 parseP p h = if E = 0 ∧ N1.1 = h.base ∧ N2.1 = h.bterm ∧ N3.1 = h.members ∧ S.1 ≠ [] then some S.1 else none := by
 subst h1; subst h2; subst h3; subst h4; subst h5; rfl
set_option maxRecDepth 8000 in
set_option maxHeartbeats 8000000 in
theorem stoRead (v : Value) (b : List UInt8) (h : Hrd) (u : Value) (w : World) (hv : Bytes w v b) (hb : b.length ≤ 35184372088000) (hu : Rd etyE w u h.log) :
 Calls Tryd.prog 40 #[v, hrdA h u] w (ReadI w (readP b h)) := by
 obtain ⟨p0, c0, rfl⟩ := hv.shape
 obtain ⟨pu, cu, rfl⟩ := hu.shape
 have ca := below_alloc w (.cells #[.int .i64 h.term, .int .i64 h.vote, .int .i64 h.base, .int .i64 h.bterm, .int .i64 h.members, .string h.snap, .slice pu h.log.length cu] 30)
 have ka := Blk.new w #[.int .i64 h.term, .int .i64 h.vote, .int .i64 h.base, .int .i64 h.bterm, .int .i64 h.members, .string h.snap, .slice pu h.log.length cu] 30
 have hcall := frameNext (.slice p0 b.length c0) b 0 _ (hv.ext ca) (by omega)
 have hrp : readP b h = if Frm.errAt b 0 = 0 ∧ Frm.toAt b 0 = b.length then parseP (Frm.payAt b 0) h else none := rfl
 have hpl : Frm.errAt b 0 = 0 → (Frm.payAt b 0).length ≤ 131072 := fun he => by
  obtain ⟨n, _, _, _, q⟩ := frm_in (a := 0) (Nat.zero_le _) he
  exact q
 have Hrp := Lib.hid hrp
 have Hpl := Lib.hid hpl
 clear hrp hpl
 generalize readP b h = RP at *
 generalize Frm.errAt b 0 = E at *
 generalize Frm.toAt b 0 = T at *
 generalize Frm.payAt b 0 = P at *
 go_enter Tryd.func40, Tryd.ntmps40
 go_wp2_with fail
 refine hcall.mono ?_
 rintro e w1 ⟨r, rfl, own1, b1⟩
 clear hcall
 have k1 := ka.ext b1
 have z1 : Below w.heap.size w w1 := ca.trans (b1.mono (by simp))
 have hs1 := b1.size
 by_cases hE : E = 0
 · have hEi : ((E : Int) != 0) = false := by simp [hE]
   by_cases hT : T = (b.length : Int)
   · have hTi : (T != (b.length : Int)) = false := by simp [hT]
     have Hr1 := Lib.hid (Hrp.out.trans (if_pos ⟨hE, hT⟩))
     have hP := Hpl.out hE
     clear Hrp Hpl hT hE
     go_wp2_with fail
     refine (packRead r P w1 own1.bytes (by omega)).mono ?_
     rintro e w2 ⟨gr, vr, rfl, rd2, hgr, _, b2⟩
     have k2 : RdK w w2 w.heap.size gr vr (rd0 P) #[.int .i64 h.term, .int .i64 h.vote, .int .i64 h.base, .int .i64 h.bterm, .int .i64 h.members, .string h.snap, .slice pu h.log.length cu] 30 := ⟨rd2, k1.ext b2, z1.trans (b2.mono z1.size), by simp at hs1; omega, by simp at hs1; omega⟩
     have hpi := fun N1 N2 N3 S E a1 a2 a3 a4 a5 => Hr1.out.trans (parseP_if P h (N1 := N1) (N2 := N2) (N3 := N3) (S := S) (E := E) a1 a2 a3 a4 a5)
     have Hpi := Lib.hid hpi
     clear hpi Hr1 own1 k1 z1 hs1 b1 b2 rd2 ka ca hgr
     go_wp2_with fail
     refine (rdrNum gr vr _ w2 k2.rd).mono ?_
     rintro e w3 ⟨rfl, rd3, c3⟩
     have k3 := k2.step rd3 c3
     obtain ⟨N1, hN1⟩ : ∃ N1, rNum (rd0 P) = N1 := ⟨_, rfl⟩
     rw [hN1] at k3 ⊢
     clear rd3 c3 k2
     have HN1 := Lib.hid hN1
     clear hN1
     go_wp2_with fail
     refine (rdrNum gr vr _ w3 k3.rd).mono ?_
     rintro e w4 ⟨rfl, rd4, c4⟩
     have k4 := k3.step rd4 c4
     obtain ⟨N2, hN2⟩ : ∃ N2, rNum N1.2 = N2 := ⟨_, rfl⟩
     rw [hN2] at k4 ⊢
     clear rd4 c4 k3
     have HN2 := Lib.hid hN2
     clear hN2
     go_wp2_with fail
     refine (rdrNum gr vr _ w4 k4.rd).mono ?_
     rintro e w5 ⟨rfl, rd5, c5⟩
     have k5 := k4.step rd5 c5
     obtain ⟨N3, hN3⟩ : ∃ N3, rNum N2.2 = N3 := ⟨_, rfl⟩
     rw [hN3] at k5 ⊢
     clear rd5 c5 k4
     have HN3 := Lib.hid hN3
     clear hN3
     go_wp2_with fail
     refine (rdrText gr vr _ 65536 w5 k5.rd).mono ?_
     rintro e w6 ⟨rfl, rd6, c6⟩
     have k6 := k5.step rd6 c6
     obtain ⟨S, hS⟩ : ∃ S, rText 65536 N3.2 = S := ⟨_, rfl⟩
     rw [hS] at k6 ⊢
     clear rd6 c6 k5
     have HS := Lib.hid hS
     clear hS
     go_wp2_with fail
     refine (rdrEnd gr vr _ w6 k6.rd).mono ?_
     rintro e w7 ⟨rfl, rd7, c7⟩
     have k7 := k6.step rd7 c7
     obtain ⟨E5, hE5⟩ : ∃ E5, (rEnd S.2).1 = E5 := ⟨_, rfl⟩
     rw [hE5]
     clear rd7 c7 k6
     have Hfin := Lib.hid (Hpi.out _ _ _ _ _ HN1.out HN2.out HN3.out HS.out hE5)
     clear Hpi HN1 HN2 HN3 HS hE5
     obtain ⟨n1, m1⟩ := N1
     obtain ⟨n2, m2⟩ := N2
     obtain ⟨n3, m3⟩ := N3
     obtain ⟨s, m4⟩ := S
     dsimp only at *
     have y2 := k7.kb.cell 2 _ rfl
     have y3 := k7.kb.cell 3 _ rfl
     have y4 := k7.kb.cell 4 _ rfl
     have bel := k7.bel
     clear k7
     by_cases g1 : E5 = 0
     case neg =>
      have t1 : (E5 == 0) = false := by simpa using g1
      have Hz := Lib.hid (Hfin.out.trans (if_neg (fun q => g1 q.1)))
      clear g1 Hfin
      go_wp2_with fail
      refine bodyPost_ret (v := .tuple #[.string ⟨#[]⟩, .bool false]) (by simp [results, Tryd.results40, go_sem]) rfl ?_
      rw [Hz.out]; exact ⟨rfl, bel⟩
     have t1 : (E5 == 0) = true := by simpa using g1
     by_cases g2 : n1 = h.base
     case neg =>
      have t2 : (n1 == h.base) = false := by simpa using g2
      have Hz := Lib.hid (Hfin.out.trans (if_neg (fun q => g2 q.2.1)))
      clear g1 g2 Hfin
      go_wp2_with fail
      refine bodyPost_ret (v := .tuple #[.string ⟨#[]⟩, .bool false]) (by simp [results, Tryd.results40, go_sem]) rfl ?_
      rw [Hz.out]; exact ⟨rfl, bel⟩
     have t2 : (n1 == h.base) = true := by simpa using g2
     by_cases g3 : n2 = h.bterm
     case neg =>
      have t3 : (n2 == h.bterm) = false := by simpa using g3
      have Hz := Lib.hid (Hfin.out.trans (if_neg (fun q => g3 q.2.2.1)))
      clear g1 g2 g3 Hfin
      go_wp2_with fail
      refine bodyPost_ret (v := .tuple #[.string ⟨#[]⟩, .bool false]) (by simp [results, Tryd.results40, go_sem]) rfl ?_
      rw [Hz.out]; exact ⟨rfl, bel⟩
     have t3 : (n2 == h.bterm) = true := by simpa using g3
     by_cases g4 : n3 = h.members
     case neg =>
      have t4 : (n3 == h.members) = false := by simpa using g4
      have Hz := Lib.hid (Hfin.out.trans (if_neg (fun q => g4 q.2.2.2.1)))
      clear g1 g2 g3 g4 Hfin
      go_wp2_with fail
      refine bodyPost_ret (v := .tuple #[.string ⟨#[]⟩, .bool false]) (by simp [results, Tryd.results40, go_sem]) rfl ?_
      rw [Hz.out]; exact ⟨rfl, bel⟩
     have t4 : (n3 == h.members) = true := by simpa using g4
     by_cases g5 : s = []
     · have Hz := Lib.hid (Hfin.out.trans (if_neg (fun q => q.2.2.2.2 g5)))
       subst g5
       clear g1 g2 g3 g4 Hfin
       go_wp2_with fail
       refine bodyPost_ret (v := .tuple #[.string ⟨#[]⟩, .bool false]) (by simp [results, Tryd.results40, go_sem]) rfl ?_
       rw [Hz.out]; exact ⟨rfl, bel⟩
     · have Hz := Lib.hid (Hfin.out.trans (if_pos ⟨g1, g2, g3, g4, g5⟩))
       have t5 : s.isEmpty = false := by cases s; exact absurd rfl g5; rfl
       clear g1 g2 g3 g4 g5 Hfin
       go_wp2_with fail
       refine bodyPost_ret (v := .tuple #[.string ⟨s.toArray⟩, .bool true]) (by simp [results, Tryd.results40, go_sem]) rfl ?_
       rw [Hz.out]; exact ⟨rfl, bel⟩
   · have hTi : (T != (b.length : Int)) = true := by simpa using hT
     have Hz := Lib.hid (Hrp.out.trans (if_neg (fun q => hT q.2)))
     clear Hrp Hpl hT
     go_wp2_with fail
     refine bodyPost_ret (v := .tuple #[.string ⟨#[]⟩, .bool false]) (by simp [results, Tryd.results40, go_sem]) rfl ?_
     rw [Hz.out]; exact ⟨rfl, z1⟩
 · have hEi : ((E : Int) != 0) = true := by simp; omega
   have Hz := Lib.hid (Hrp.out.trans (if_neg (fun q => hE q.1)))
   clear Hrp Hpl hE
   go_wp2_with fail
   refine bodyPost_ret (v := .tuple #[.string ⟨#[]⟩, .bool false]) (by simp [results, Tryd.results40, go_sem]) rfl ?_
   rw [Hz.out]; exact ⟨rfl, z1⟩
end Go.Proofs.YtgpgcnmnfnnkjaaDoor
end
