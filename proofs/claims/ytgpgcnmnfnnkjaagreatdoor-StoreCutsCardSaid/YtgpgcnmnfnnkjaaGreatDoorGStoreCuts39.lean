/- What a node might have next (impostlaw19.next). -/
import Derived.Test.YtgpgcnmnfnnkjaaGreatDoorGStoreCuts25
import Derived.Test.YtgpgcnmnfnnkjaaGreatDoorGStoreCuts10
import Derived.Test.YtgpgcnmnfnnkjaaGreatDoorGStoreCuts20
import Derived.Test.YtgpgcnmnfnnkjaaGreatDoorGStoreCuts2
import Derived.Lib.MinMax
set_option linter.unusedVariables false
set_option linter.unusedSimpArgs false
section
namespace Go.Proofs.YtgpgcnmnfnnkjaaGreatDoor
open Go Go.RowKit Go.PlainAid BigFrame
attribute [local go_sem] After.same
def stepN (x : AskL) : Bool := decide (0 < x.n) && decide (x.n < 1000)
def nextT (h : Hrd) (x : AskL) : Hrd := if stepN x then ⟨max h.term 1, h.vote, h.base + x.n, max h.bterm 1, x.h.members, (⟨#[115]⟩ : ByteArray) ++ x.h.snap, []⟩ else { h with log := h.log ++ x.h.log }
def nextS (h : Hrd) (x : AskL) : Hrd := if rightH (nextT h x) = true ∧ smallH (nextT h x) = true then nextT h x else h
theorem emptyN (w : World) (e : TypeId) (B H : Nat) (hH : w.heap.size = H) (hB : B ≤ w.heap.size) : OwnR etyE (w.alloc (.cells #[] e)) B e (.slice (some ⟨H, 0, none⟩) 0 0) [] :=
 OwnR.litAt etyE w #[] e [] 0 B H hH rfl rfl (by decide) hB
theorem ary7 (z0 z1 z2 z3 z4 z5 z6 a0 a1 a2 a3 a4 a5 a6 : Value) : (((((((#[z0, z1, z2, z3, z4, z5, z6] : Array Value).setIfInBounds 0 a0).setIfInBounds 1 a1).setIfInBounds 2 a2).setIfInBounds 3 a3).setIfInBounds 4 a4).setIfInBounds 5 a5).setIfInBounds 6 a6 = #[a0, a1, a2, a3, a4, a5, a6] := by kernel_rfl
theorem bly7 {W : World} {c : Nat} {z0 z1 z2 z3 z4 z5 z6 : Value} {T : TypeId} (k : Blk W c #[z0, z1, z2, z3, z4, z5, z6] T) (a0 a1 a2 a3 a4 a5 a6 : Value) :
 Blk (((((((W.setCell ⟨c, 0, none⟩ a0).setCell ⟨c, 1, none⟩ a1).setCell ⟨c, 2, none⟩ a2).setCell ⟨c, 3, none⟩ a3).setCell ⟨c, 4, none⟩ a4).setCell ⟨c, 5, none⟩ a5).setCell ⟨c, 6, none⟩ a6) c #[a0, a1, a2, a3, a4, a5, a6] T ∧ Chg (fun k => k = c) W (((((((W.setCell ⟨c, 0, none⟩ a0).setCell ⟨c, 1, none⟩ a1).setCell ⟨c, 2, none⟩ a2).setCell ⟨c, 3, none⟩ a3).setCell ⟨c, 4, none⟩ a4).setCell ⟨c, 5, none⟩ a5).setCell ⟨c, 6, none⟩ a6) :=
 ⟨ary7 z0 z1 z2 z3 z4 z5 z6 a0 a1 a2 a3 a4 a5 a6 ▸ (((((((k.set 0 a0).set 1 a1).set 2 a2).set 3 a3).set 4 a4).set 5 a5).set 6 a6), (((((((Chg.refl (fun k => k = c) W).setCell (p := ⟨c, 0, none⟩) rfl a0).setCell (p := ⟨c, 1, none⟩) rfl a1).setCell (p := ⟨c, 2, none⟩) rfl a2).setCell (p := ⟨c, 3, none⟩) rfl a3).setCell (p := ⟨c, 4, none⟩) rfl a4).setCell (p := ⟨c, 5, none⟩) rfl a5).setCell (p := ⟨c, 6, none⟩) rfl a6⟩
theorem ret_valN {a b : Bool} (h : a = b) : Value.bool a = .bool b := by rw [h]
set_option maxRecDepth 8000 in
set_option maxHeartbeats 16000000 in
theorem lawNextS {w : World} (h : Hrd) (x : AskL) (u : Value) (hu : Rd etyE w u h.log) (hx : AskLOk w x) (hl : h.log.length ≤ 200) (hs : h.snap.size ≤ 140737488355328) (hd : ∀ y ∈ h.log, y.data.size ≤ 281474976710656) (hb : 0 ≤ h.base ∧ h.base ≤ 1099511627776) :
 Calls Tryz.prog 32 #[hrdA h u, .agg (aslA x)] w fun e w' => ∃ v', e = .returned (hrdA (nextS h x) v') ∧ Rd etyE w' v' (nextS h x).log ∧ ((v' = u ∧ nextS h x = h) ∨ ∀ k, v'.ownBlock = some k → w.heap.size ≤ k ∧ k < w'.heap.size) ∧ Below w.heap.size w w' := by
 obtain ⟨p, cap, rfl⟩ := hu.shape
 have hmax := hu.le
 unfold maxLen at hmax
 obtain ⟨s, hs0⟩ : ∃ s, s = w.heap.size := ⟨_, rfl⟩
 obtain ⟨c1, hc1⟩ : ∃ c, c = s + 1 := ⟨_, rfl⟩
 obtain ⟨c2, hc2⟩ : ∃ c, c = s + 1 + 1 := ⟨_, rfl⟩
 obtain ⟨c3, hc3⟩ : ∃ c, c = s + 1 + 1 + 1 := ⟨_, rfl⟩
 have b0 := below_alloc w (.cells #[.int .i64 h.term, .int .i64 h.vote, .int .i64 h.base, .int .i64 h.bterm, .int .i64 h.members, .string h.snap, .slice p h.log.length cap] 24)
 have b1 := b0.trans ((below_alloc (w.alloc (.cells #[.int .i64 h.term, .int .i64 h.vote, .int .i64 h.base, .int .i64 h.bterm, .int .i64 h.members, .string h.snap, .slice p h.log.length cap] 24)) (.cells #[.int .i64 x.kind, .int .i64 x.n, .int .i64 x.h.term, .int .i64 x.h.vote, .int .i64 x.h.base, .int .i64 x.h.bterm, .int .i64 x.h.members, .string x.h.snap, .slice x.hp x.h.log.length x.hc, .slice x.pp x.picks.length x.pc] 57)).mono (by simp))
 have b2 := b1.trans ((below_alloc ((w.alloc (.cells #[.int .i64 h.term, .int .i64 h.vote, .int .i64 h.base, .int .i64 h.bterm, .int .i64 h.members, .string h.snap, .slice p h.log.length cap] 24)).alloc (.cells #[.int .i64 x.kind, .int .i64 x.n, .int .i64 x.h.term, .int .i64 x.h.vote, .int .i64 x.h.base, .int .i64 x.h.bterm, .int .i64 x.h.members, .string x.h.snap, .slice x.hp x.h.log.length x.hc, .slice x.pp x.picks.length x.pc] 57)) (.cells #[.int .i64 0, .int .i64 0, .int .i64 0, .int .i64 0, .int .i64 0, .string ⟨#[]⟩, .slice none 0 0] 24)).mono (by simp <;> omega))
 have b3 := b2.trans ((below_alloc (((w.alloc (.cells #[.int .i64 h.term, .int .i64 h.vote, .int .i64 h.base, .int .i64 h.bterm, .int .i64 h.members, .string h.snap, .slice p h.log.length cap] 24)).alloc (.cells #[.int .i64 x.kind, .int .i64 x.n, .int .i64 x.h.term, .int .i64 x.h.vote, .int .i64 x.h.base, .int .i64 x.h.bterm, .int .i64 x.h.members, .string x.h.snap, .slice x.hp x.h.log.length x.hc, .slice x.pp x.picks.length x.pc] 57)).alloc (.cells #[.int .i64 0, .int .i64 0, .int .i64 0, .int .i64 0, .int .i64 0, .string ⟨#[]⟩, .slice none 0 0] 24)) (.cells #[.int .i64 h.term, .int .i64 h.vote, .int .i64 h.base, .int .i64 h.bterm, .int .i64 h.members, .string h.snap, .slice p h.log.length cap] 24)).mono (by simp <;> omega))
 have kH := (((Blk.new w #[.int .i64 h.term, .int .i64 h.vote, .int .i64 h.base, .int .i64 h.bterm, .int .i64 h.members, .string h.snap, .slice p h.log.length cap] 24).ext (below_alloc (w.alloc (.cells #[.int .i64 h.term, .int .i64 h.vote, .int .i64 h.base, .int .i64 h.bterm, .int .i64 h.members, .string h.snap, .slice p h.log.length cap] 24)) (.cells #[.int .i64 x.kind, .int .i64 x.n, .int .i64 x.h.term, .int .i64 x.h.vote, .int .i64 x.h.base, .int .i64 x.h.bterm, .int .i64 x.h.members, .string x.h.snap, .slice x.hp x.h.log.length x.hc, .slice x.pp x.picks.length x.pc] 57))).ext (below_alloc _ (.cells #[.int .i64 0, .int .i64 0, .int .i64 0, .int .i64 0, .int .i64 0, .string ⟨#[]⟩, .slice none 0 0] 24))).ext (below_alloc _ (.cells #[.int .i64 h.term, .int .i64 h.vote, .int .i64 h.base, .int .i64 h.bterm, .int .i64 h.members, .string h.snap, .slice p h.log.length cap] 24))
 have kA := ((Blk.new (w.alloc (.cells #[.int .i64 h.term, .int .i64 h.vote, .int .i64 h.base, .int .i64 h.bterm, .int .i64 h.members, .string h.snap, .slice p h.log.length cap] 24)) #[.int .i64 x.kind, .int .i64 x.n, .int .i64 x.h.term, .int .i64 x.h.vote, .int .i64 x.h.base, .int .i64 x.h.bterm, .int .i64 x.h.members, .string x.h.snap, .slice x.hp x.h.log.length x.hc, .slice x.pp x.picks.length x.pc] 57).ext (below_alloc _ (.cells #[.int .i64 0, .int .i64 0, .int .i64 0, .int .i64 0, .int .i64 0, .string ⟨#[]⟩, .slice none 0 0] 24))).ext (below_alloc _ (.cells #[.int .i64 h.term, .int .i64 h.vote, .int .i64 h.base, .int .i64 h.bterm, .int .i64 h.members, .string h.snap, .slice p h.log.length cap] 24))
 have kZ := (Blk.new ((w.alloc (.cells #[.int .i64 h.term, .int .i64 h.vote, .int .i64 h.base, .int .i64 h.bterm, .int .i64 h.members, .string h.snap, .slice p h.log.length cap] 24)).alloc (.cells #[.int .i64 x.kind, .int .i64 x.n, .int .i64 x.h.term, .int .i64 x.h.vote, .int .i64 x.h.base, .int .i64 x.h.bterm, .int .i64 x.h.members, .string x.h.snap, .slice x.hp x.h.log.length x.hc, .slice x.pp x.picks.length x.pc] 57)) #[.int .i64 0, .int .i64 0, .int .i64 0, .int .i64 0, .int .i64 0, .string ⟨#[]⟩, .slice none 0 0] 24).ext (below_alloc _ (.cells #[.int .i64 h.term, .int .i64 h.vote, .int .i64 h.base, .int .i64 h.bterm, .int .i64 h.members, .string h.snap, .slice p h.log.length cap] 24))
 have kG := Blk.new (((w.alloc (.cells #[.int .i64 h.term, .int .i64 h.vote, .int .i64 h.base, .int .i64 h.bterm, .int .i64 h.members, .string h.snap, .slice p h.log.length cap] 24)).alloc (.cells #[.int .i64 x.kind, .int .i64 x.n, .int .i64 x.h.term, .int .i64 x.h.vote, .int .i64 x.h.base, .int .i64 x.h.bterm, .int .i64 x.h.members, .string x.h.snap, .slice x.hp x.h.log.length x.hc, .slice x.pp x.picks.length x.pc] 57)).alloc (.cells #[.int .i64 0, .int .i64 0, .int .i64 0, .int .i64 0, .int .i64 0, .string ⟨#[]⟩, .slice none 0 0] 24)) #[.int .i64 h.term, .int .i64 h.vote, .int .i64 h.base, .int .i64 h.bterm, .int .i64 h.members, .string h.snap, .slice p h.log.length cap] 24
 have e1 : (w.alloc (.cells #[.int .i64 h.term, .int .i64 h.vote, .int .i64 h.base, .int .i64 h.bterm, .int .i64 h.members, .string h.snap, .slice p h.log.length cap] 24)).heap.size = c1 := by rw [hc1, hs0]; simp
 have e2 : ((w.alloc (.cells #[.int .i64 h.term, .int .i64 h.vote, .int .i64 h.base, .int .i64 h.bterm, .int .i64 h.members, .string h.snap, .slice p h.log.length cap] 24)).alloc (.cells #[.int .i64 x.kind, .int .i64 x.n, .int .i64 x.h.term, .int .i64 x.h.vote, .int .i64 x.h.base, .int .i64 x.h.bterm, .int .i64 x.h.members, .string x.h.snap, .slice x.hp x.h.log.length x.hc, .slice x.pp x.picks.length x.pc] 57)).heap.size = c2 := by rw [hc2, hs0]; simp
 have e3 : (((w.alloc (.cells #[.int .i64 h.term, .int .i64 h.vote, .int .i64 h.base, .int .i64 h.bterm, .int .i64 h.members, .string h.snap, .slice p h.log.length cap] 24)).alloc (.cells #[.int .i64 x.kind, .int .i64 x.n, .int .i64 x.h.term, .int .i64 x.h.vote, .int .i64 x.h.base, .int .i64 x.h.bterm, .int .i64 x.h.members, .string x.h.snap, .slice x.hp x.h.log.length x.hc, .slice x.pp x.picks.length x.pc] 57)).alloc (.cells #[.int .i64 0, .int .i64 0, .int .i64 0, .int .i64 0, .int .i64 0, .string ⟨#[]⟩, .slice none 0 0] 24)).heap.size = c3 := by rw [hc3, hs0]; simp
 have e4 : ((((w.alloc (.cells #[.int .i64 h.term, .int .i64 h.vote, .int .i64 h.base, .int .i64 h.bterm, .int .i64 h.members, .string h.snap, .slice p h.log.length cap] 24)).alloc (.cells #[.int .i64 x.kind, .int .i64 x.n, .int .i64 x.h.term, .int .i64 x.h.vote, .int .i64 x.h.base, .int .i64 x.h.bterm, .int .i64 x.h.members, .string x.h.snap, .slice x.hp x.h.log.length x.hc, .slice x.pp x.picks.length x.pc] 57)).alloc (.cells #[.int .i64 0, .int .i64 0, .int .i64 0, .int .i64 0, .int .i64 0, .string ⟨#[]⟩, .slice none 0 0] 24)).alloc (.cells #[.int .i64 h.term, .int .i64 h.vote, .int .i64 h.base, .int .i64 h.bterm, .int .i64 h.members, .string h.snap, .slice p h.log.length cap] 24)).heap.size = s + 4 := by rw [hs0]; simp
 rw [← hs0] at kH
 rw [e1] at kA
 rw [e2] at kZ
 rw [e3] at kG
 clear b0 b1 b2 e1 e2 e3
 have HnG : Hid (nextT h x = if stepN x then ⟨max h.term 1, h.vote, h.base + x.n, max h.bterm 1, x.h.members, (⟨#[115]⟩ : ByteArray) ++ x.h.snap, []⟩ else { h with log := h.log ++ x.h.log }) := rfl
 have Hnx : Hid (nextS h x = if rightH (nextT h x) = true ∧ smallH (nextT h x) = true then nextT h x else h) := rfl
 have Hx := Lib.hid hx
 have Hs := Lib.hid hs
 have Hd := Lib.hid hd
 have Hb := Lib.hid hb
 clear hx hs hd hb
 go_enter Tryz.func32, Tryz.ntmps32
 go_upto_region 2 with (fail)
 rw [← hs0, ← hc3, ← hc2, ← hc1]
 generalize hW1 : ((((w.alloc (.cells #[.int .i64 h.term, .int .i64 h.vote, .int .i64 h.base, .int .i64 h.bterm, .int .i64 h.members, .string h.snap, .slice p h.log.length cap] 24)).alloc (.cells #[.int .i64 x.kind, .int .i64 x.n, .int .i64 x.h.term, .int .i64 x.h.vote, .int .i64 x.h.base, .int .i64 x.h.bterm, .int .i64 x.h.members, .string x.h.snap, .slice x.hp x.h.log.length x.hc, .slice x.pp x.picks.length x.pc] 57)).alloc (.cells #[.int .i64 0, .int .i64 0, .int .i64 0, .int .i64 0, .int .i64 0, .string ⟨#[]⟩, .slice none 0 0] 24)).alloc (.cells #[.int .i64 h.term, .int .i64 h.vote, .int .i64 h.base, .int .i64 h.bterm, .int .i64 h.members, .string h.snap, .slice p h.log.length cap] 24)) = W1 at *
 clear hW1
 have HN := Lib.hid (And.intro hs0 (And.intro hc1 (And.intro hc2 (And.intro hc3 e4))))
 have hcs : c3 ≠ s ∧ c3 ≠ c1 ∧ c3 ≠ c2 ∧ w.heap.size ≤ c3 ∧ w.heap.size ≤ W1.heap.size := by omega
 clear hs0 hc1 hc2 hc3 e4
 have yA1 := kA.cell 1 _ rfl
 go_cut [14] from 7 (fun q wi => q = .bool (stepN x) ∧ wi = W1)
 case first =>
  have hst : stepN x = (decide (0 < x.n) && decide (x.n < 1000)) := rfl
  by_cases d1 : 0 < x.n
  · by_cases d2 : x.n < 1000
    · have hr := Lib.hid (show true = stepN x by rw [hst, decide_eq_true d1, decide_eq_true d2]; rfl)
      clear hst
      go_wp2_with fail
      go_meet
      exact ⟨ret_valN hr.out, rfl⟩
    · have hr := Lib.hid (show false = stepN x by rw [hst, decide_eq_false d2, Bool.and_false])
      clear hst
      go_wp2_with fail
      go_meet
      exact ⟨ret_valN hr.out, rfl⟩
  · have hr := Lib.hid (show false = stepN x by rw [hst, decide_eq_false d1]; rfl)
    clear hst
    go_wp2_with fail
    go_meet
    exact ⟨ret_valN hr.out, rfl⟩
 case rest =>
 obtain ⟨rfl, hwc⟩ := hcut
 obtain ⟨W0, hW0⟩ : ∃ z, z = wc := ⟨_, rfl⟩
 rw [hwc]
 clear hW0 W0 hwc
 go_upto_if 14 with (fail)
 go_cut [] from 14 (fun wi => ∃ (g : Hrd) (pv : Option Addr) (cv : Nat), Hid (nextT h x = g) ∧ Blk wi s #[.int .i64 h.term, .int .i64 h.vote, .int .i64 h.base, .int .i64 h.bterm, .int .i64 h.members, .string h.snap, .slice p h.log.length cap] 24 ∧ Blk wi c2 #[.int .i64 0, .int .i64 0, .int .i64 0, .int .i64 0, .int .i64 0, .string ⟨#[]⟩, .slice none 0 0] 24 ∧ Blk wi c3 #[.int .i64 g.term, .int .i64 g.vote, .int .i64 g.base, .int .i64 g.bterm, .int .i64 g.members, .string g.snap, .slice pv g.log.length cv] 24 ∧ OwnR etyE wi W1.heap.size 73 (.slice pv g.log.length cv) g.log ∧ Below w.heap.size w wi)
 case first =>
  cases hst : stepN x with
  | true =>
   have hG := HnG.out
   rw [hst, if_pos rfl] at hG
   have HG := Lib.hid hG
   have hst2 : decide (0 < x.n) && decide (x.n < 1000) := hst
   rw [Bool.and_eq_true, decide_eq_true_iff, decide_eq_true_iff] at hst2
   have hwr : IntKind.i64.wrap (h.base + x.n) = h.base + x.n := by
    have := Hb.out; rw [IntKind.wrap_i64]; omega
   have hsn := Hx.out.snap
   have hcat : ¬ (9223372036854775807 : Int) < 1 + (x.h.snap.size : Int) := by omega
   have hcatN : ¬ 9223372036854775807 < 1 + x.h.snap.size := by omega
   clear hG HnG hst hst2 yA1
   go_upto_region 3 with (fail)
   refine wp_region_F (n := 12) (S := fun w' : World => w'.cell? ⟨s, 2, none⟩ = some (.int .i64 h.base) ∧ w'.cell? ⟨c1, 1, none⟩ = some (.int .i64 x.n) ∧ w'.cell? ⟨c1, 7, none⟩ = some (.string x.h.snap)) (by kernel_rfl) ?_
   have hHeld : (fun w' : World => w'.cell? ⟨s, 2, none⟩ = some (.int .i64 h.base) ∧ w'.cell? ⟨c1, 1, none⟩ = some (.int .i64 x.n) ∧ w'.cell? ⟨c1, 7, none⟩ = some (.string x.h.snap)) W1.drew := ⟨kH.cell 2 _ rfl, kA.cell 1 _ rfl, kA.cell 7 _ rfl⟩
   refine wpAnyF_tk 0 _ _ _ (v := ?_) rfl (by kernel_rfl) (fun _ _ _ h => h) ?_ hHeld ?_
   rotate_left
   · intro w hSw
     try dsimp only at hSw
     obtain ⟨_, _, _⟩ := hSw
     dsimp only [bare]
     go_simp <;> with_reducible rfl
   try simp only [bare, Act.put, lyA, lyZ, lyS]
   refine wpAnyF_tk 1 _ _ _ (v := ?_) rfl (by kernel_rfl) (fun _ _ _ h => h) ?_ hHeld ?_
   rotate_left
   · intro w hSw
     try dsimp only at hSw
     obtain ⟨_, _, _⟩ := hSw
     dsimp only [bare]
     go_simp <;> with_reducible rfl
   try simp only [bare, Act.put, lyA, lyZ, lyS]
   refine wpAnyF_tk 2 _ _ _ (v := ?_) rfl (by kernel_rfl) (fun _ _ _ h => h) ?_ hHeld ?_
   rotate_left
   · intro w hSw
     try dsimp only at hSw
     obtain ⟨_, _, _⟩ := hSw
     dsimp only [bare]
     go_simp <;> with_reducible rfl
   try simp only [bare, Act.put, lyA, lyZ, lyS]
   refine wpAnyF_tk 3 _ _ _ (v := ?_) rfl (by kernel_rfl) (fun _ _ _ h => h) ?_ hHeld ?_
   rotate_left
   · intro w hSw
     try dsimp only at hSw
     obtain ⟨_, _, _⟩ := hSw
     dsimp only [bare]
     go_simp <;> with_reducible rfl
   try simp only [bare, Act.put, lyA, lyZ, lyS]
   refine wpAnyF_tk 4 _ _ _ (v := ?_) rfl (by kernel_rfl) (fun _ _ _ h => h) ?_ hHeld ?_
   rotate_left
   · intro w hSw
     try dsimp only at hSw
     obtain ⟨_, _, _⟩ := hSw
     dsimp only [bare]
     go_simp <;> with_reducible rfl
   try simp only [bare, Act.put, lyA, lyZ, lyS]
   refine wpAnyF_tk 5 _ _ _ (v := ?_) rfl (by kernel_rfl) (fun _ _ _ h => h) ?_ hHeld ?_
   rotate_left
   · intro w hSw
     try dsimp only at hSw
     obtain ⟨_, _, _⟩ := hSw
     dsimp only [bare]
     go_simp <;> with_reducible rfl
   try simp only [bare, Act.put, lyA, lyZ, lyS]
   refine wpAnyF_tk 6 _ _ _ (v := ?_) rfl (by kernel_rfl) (fun _ _ _ h => h) ?_ hHeld ?_
   rotate_left
   · intro w hSw
     try dsimp only at hSw
     obtain ⟨_, _, _⟩ := hSw
     dsimp only [bare]
     go_simp <;> with_reducible rfl
   try simp only [bare, Act.put, lyA, lyZ, lyS]
   refine wpAnyF_tk 7 _ _ _ (v := ?_) rfl (by kernel_rfl) (fun _ _ _ h => h) ?_ hHeld ?_
   rotate_left
   · intro w hSw
     try dsimp only at hSw
     obtain ⟨_, _, _⟩ := hSw
     dsimp only [bare]
     go_simp <;> with_reducible rfl
   try simp only [bare, Act.put, lyA, lyZ, lyS]
   refine wpAnyF_tk 8 _ _ _ (v := ?_) rfl (by kernel_rfl) (fun _ _ _ h => h) ?_ hHeld ?_
   rotate_left
   · intro w hSw
     try dsimp only at hSw
     obtain ⟨_, _, _⟩ := hSw
     dsimp only [bare]
     go_simp <;> with_reducible rfl
   try simp only [bare, Act.put, lyA, lyZ, lyS]
   refine wpAnyF_tk 9 _ _ _ (v := ?_) rfl (by kernel_rfl) (fun _ _ _ h => h) ?_ hHeld ?_
   rotate_left
   · intro w hSw
     try dsimp only at hSw
     obtain ⟨_, _, _⟩ := hSw
     dsimp only [bare]
     go_simp <;> with_reducible rfl
   try simp only [bare, Act.put, lyA, lyZ, lyS]
   obtain ⟨Wd, hWd⟩ : ∃ z, z = W1.drew := ⟨_, rfl⟩
   have bE : Below W1.heap.size W1 Wd := by rw [hWd]; exact below_drew _ _
   rw [← hWd]
   clear hWd
   have kGd := kG.ext bE
   have gg2 := kGd.cell 2 _ rfl
   have gf2 := kGd.frozen 2
   refine wpAnyF_one 10 (none) (Op.store 3 (Operand.tmp 24) (Operand.tmp 19)) 0 rfl (by kernel_rfl) (fun K hK => ?_)
   dsimp only [bare]; go_simp
   have ch := chg_cell c3 2 (.int .i64 (h.base + x.n)) Wd
   have nH := ch.blk (kH.ext bE) (fun e => hcs.1 e.symm)
   have nA := ch.blk (kA.ext bE) (fun e => hcs.2.1 e.symm)
   have nZ := ch.blk (kZ.ext bE) (fun e => hcs.2.2.1 e.symm)
   have nG := kGd.set 2 (.int .i64 (h.base + x.n))
   have nb : Below w.heap.size w (Wd.setCell ⟨c3, 2, none⟩ (.int .i64 (h.base + x.n))) := (b3.trans (bE.mono b3.size)).setCell (p := ⟨c3, 2, none⟩) hcs.2.2.2.1 _
   have y5 := nG.cell 5 _ rfl
   have f5 := nG.frozen 5
   refine hK _ _ ⟨nH.cell 2 _ rfl, nA.cell 1 _ rfl, nA.cell 7 _ rfl⟩ (fun hHeld => ?_)
   clear hK K
   try simp only [bare, Act.put, lyA, lyZ, lyS]
   refine wpAnyF_tk 11 _ _ _ (v := ?_) rfl (by kernel_rfl) (fun _ _ _ h => h) ?_ hHeld ?_
   rotate_left
   · intro w hSw
     try dsimp only at hSw
     obtain ⟨_, _, _⟩ := hSw
     dsimp only [bare]
     go_simp <;> with_reducible rfl
   try simp only [bare, Act.put, lyA, lyZ, lyS]
   refine wpAnyF_end (none) (Op.store 9 (Operand.tmp 25) (Operand.tmp 23)) 0 rfl (by kernel_rfl) (by kernel_rfl) (fun K hK => ?_)
   dsimp only [bare]; go_simp
   refine hK _ _ ?_
   clear hK K
   try simp only [bare, Act.put, lyA, lyZ, lyS]
   have ch2 := chg_cell c3 5 (.string ((⟨#[115]⟩ : ByteArray) ++ x.h.snap)) (Wd.setCell ⟨c3, 2, none⟩ (.int .i64 (h.base + x.n)))
   have mH := ch2.blk nH (fun e => hcs.1 e.symm)
   have mA := ch2.blk nA (fun e => hcs.2.1 e.symm)
   have mZ := ch2.blk nZ (fun e => hcs.2.2.1 e.symm)
   have mG : Blk ((Wd.setCell ⟨c3, 2, none⟩ (.int .i64 (h.base + x.n))).setCell ⟨c3, 5, none⟩ (.string ((⟨#[115]⟩ : ByteArray) ++ x.h.snap))) c3 #[.int .i64 h.term, .int .i64 h.vote, .int .i64 (h.base + x.n), .int .i64 h.bterm, .int .i64 h.members, .string ((⟨#[115]⟩ : ByteArray) ++ x.h.snap), .slice p h.log.length cap] 24 := nG.set 5 (.string ((⟨#[115]⟩ : ByteArray) ++ x.h.snap))
   have mb : Below w.heap.size w ((Wd.setCell ⟨c3, 2, none⟩ (.int .i64 (h.base + x.n))).setCell ⟨c3, 5, none⟩ (.string ((⟨#[115]⟩ : ByteArray) ++ x.h.snap))) := nb.setCell (p := ⟨c3, 5, none⟩) hcs.2.2.2.1 _
   clear nH nA nZ nG nb ch ch2 y5 f5 hHeld kGd bE gg2 gf2
   generalize (Wd.setCell ⟨c3, 2, none⟩ (.int .i64 (h.base + x.n))).setCell ⟨c3, 5, none⟩ (.string ((⟨#[115]⟩ : ByteArray) ++ x.h.snap)) = W2 at *
   clear kH kA kZ kG hwr hcat hcatN hsn
   have u3 := mH.cell 3 _ rfl
   have u0 := mH.cell 0 _ rfl
   have a6 := mA.cell 6 _ rfl
   have g3 := mG.cell 3 _ rfl
   have g0 := mG.cell 0 _ rfl
   have g4 := mG.cell 4 _ rfl
   have g6 := mG.cell 6 _ rfl
   have f3 := mG.frozen 3
   have f0 := mG.frozen 0
   have f4 := mG.frozen 4
   have f6 := mG.frozen 6
   go_wp2_with fail
   go_meet
   have cc := ((((Chg.refl (fun k => k = c3) W2).setCell (p := ⟨c3, 3, none⟩) rfl (.int .i64 (max h.bterm 1))).setCell (p := ⟨c3, 0, none⟩) rfl (.int .i64 (max h.term 1))).setCell (p := ⟨c3, 4, none⟩) rfl (.int .i64 x.h.members)).setCell (p := ⟨c3, 6, none⟩) rfl (.slice none 0 0)
   have kk : Blk ((((W2.setCell ⟨c3, 3, none⟩ (.int .i64 (max h.bterm 1))).setCell ⟨c3, 0, none⟩ (.int .i64 (max h.term 1))).setCell ⟨c3, 4, none⟩ (.int .i64 x.h.members)).setCell ⟨c3, 6, none⟩ (.slice none 0 0)) c3 #[.int .i64 (max h.term 1), .int .i64 h.vote, .int .i64 (h.base + x.n), .int .i64 (max h.bterm 1), .int .i64 x.h.members, .string ((⟨#[115]⟩ : ByteArray) ++ x.h.snap), .slice none 0 0] 24 := (((mG.set 3 (.int .i64 (max h.bterm 1))).set 0 (.int .i64 (max h.term 1))).set 4 (.int .i64 x.h.members)).set 6 (.slice none 0 0)
   exact ⟨⟨max h.term 1, h.vote, h.base + x.n, max h.bterm 1, x.h.members, (⟨#[115]⟩ : ByteArray) ++ x.h.snap, []⟩, none, 0, HG, cc.blk mH (fun e => hcs.1 e.symm), cc.blk mZ (fun e => hcs.2.2.1 e.symm), kk, OwnR.nil _ _ _, mb.trans (cc.below (B := w.heap.size) (fun k hk => by rw [hk]; exact hcs.2.2.2.1) mb.size)⟩
  | false =>
   have hG := HnG.out
   rw [hst, if_neg (by decide)] at hG
   have HG := Lib.hid hG
   clear hG HnG hst yA1
   go_upto_region 8 with (fail)
   refine wp_region_F (n := 9) (S := fun w' : World => w'.cell? ⟨s, 6, none⟩ = some (.slice p h.log.length cap) ∧ w'.cell? ⟨c1, 8, none⟩ = some (.slice x.hp x.h.log.length x.hc)) (by kernel_rfl) ?_
   have hHeld : (fun w' : World => w'.cell? ⟨s, 6, none⟩ = some (.slice p h.log.length cap) ∧ w'.cell? ⟨c1, 8, none⟩ = some (.slice x.hp x.h.log.length x.hc)) W1.drew := ⟨kH.cell 6 _ rfl, kA.cell 8 _ rfl⟩
   refine wpAnyF_tk 1 _ _ _ (v := ?_) rfl (by kernel_rfl) (fun _ _ _ h => h) ?_ hHeld ?_
   rotate_left
   · intro w hSw
     try dsimp only at hSw
     obtain ⟨_, _⟩ := hSw
     dsimp only [bare]
     go_simp <;> with_reducible rfl
   try simp only [bare, Act.put, lyA, lyZ, lyS]
   refine wpAnyF_tk 2 _ _ _ (v := ?_) rfl (by kernel_rfl) (fun _ _ _ h => h) ?_ hHeld ?_
   rotate_left
   · intro w hSw
     try dsimp only at hSw
     obtain ⟨_, _⟩ := hSw
     dsimp only [bare]
     go_simp <;> with_reducible rfl
   try simp only [bare, Act.put, lyA, lyZ, lyS]
   refine wpAnyF_tk 4 _ _ _ (v := ?_) rfl (by kernel_rfl) (fun _ _ _ h => h) ?_ hHeld ?_
   rotate_left
   · intro w hSw
     try dsimp only at hSw
     obtain ⟨_, _⟩ := hSw
     dsimp only [bare]
     go_simp <;> with_reducible rfl
   try simp only [bare, Act.put, lyA, lyZ, lyS]
   refine wpAnyF_tk 5 _ _ _ (v := ?_) rfl (by kernel_rfl) (fun _ _ _ h => h) ?_ hHeld ?_
   rotate_left
   · intro w hSw
     try dsimp only at hSw
     obtain ⟨_, _⟩ := hSw
     dsimp only [bare]
     go_simp <;> with_reducible rfl
   try simp only [bare, Act.put, lyA, lyZ, lyS]
   refine wpAnyF_tk 6 _ _ _ (v := ?_) rfl (by kernel_rfl) (fun _ _ _ h => h) ?_ hHeld ?_
   rotate_left
   · intro w hSw
     try dsimp only at hSw
     obtain ⟨_, _⟩ := hSw
     dsimp only [bare]
     go_simp <;> with_reducible rfl
   try simp only [bare, Act.put, lyA, lyZ, lyS]
   refine wpAnyF_one 0 (some 39) (Op.buildSlice 22 0 #[]) 22 rfl (by kernel_rfl) (fun K hK => ?_)
   obtain ⟨Wd, hWd⟩ : ∃ z, z = W1.drew := ⟨_, rfl⟩
   have bE : Below W1.heap.size W1 Wd := by rw [hWd]; exact below_drew _ _
   rw [← hWd]
   clear hWd
   dsimp only [bare]; go_simp
   have ca := below_alloc Wd (.cells #[] 73)
   have own0 := emptyN Wd 73 W1.heap.size Wd.heap.size rfl bE.size
   have bF := bE.trans (ca.mono bE.size)
   have nH := kH.ext bF
   have nA := kA.ext bF
   refine hK _ _ ⟨nH.cell 6 _ rfl, nA.cell 8 _ rfl⟩ (fun hHeld => ?_)
   clear hK K
   generalize Wd.alloc (.cells #[] 73) = We at *
   generalize Wd.heap.size = HE at *
   try simp only [bare, Act.put, lyA, lyZ, lyS]
   refine wpAnyF_one 3 (some 42) (Op.call { callee := Callee.builtin Builtin.append, args := #[Operand.tmp 39, Operand.tmp 41], argTypes := #[22, 22] }) 22 rfl (by kernel_rfl) (fun K hK => ?_)
   have hxl := Hx.out.log.ext (b3.trans (bF.mono b3.size))
   refine step_appX (E := etyE) (s := .tmp 39) (y := .tmp 41) (B := W1.heap.size) (l := []) (m := h.log) tEty rfl rfl own0 (by simp [Act.eval, Act.put]) ((hu.ext b3).ext bF) (by simp [Act.eval, Act.put]) (by simp [maxLen]; omega) (by simp; omega) bF.size ?_
   intro v5 w5 own5 g5 b5
   rw [List.nil_append] at own5
   obtain ⟨p5, q5, rfl⟩ := own5.rd.shape
   have b5W : Below W1.heap.size W1 w5 := bF.trans b5
   have iH := kH.ext b5W
   have iA := kA.ext b5W
   refine hK _ _ ⟨iH.cell 6 _ rfl, iA.cell 8 _ rfl⟩ (fun hHeld => ?_)
   clear hK K
   try simp only [bare, Act.put, lyA, lyZ, lyS]
   refine wpAnyF_one 7 (some 46) (Op.call { callee := Callee.builtin Builtin.append, args := #[Operand.tmp 42, Operand.tmp 45], argTypes := #[22, 22] }) 22 rfl (by kernel_rfl) (fun K hK => ?_)
   have hxl := Hx.out.log.ext (b3.trans (b5W.mono b3.size))
   refine step_appX (E := etyE) (s := .tmp 42) (y := .tmp 45) (B := W1.heap.size) (l := h.log) (m := x.h.log) tEty rfl rfl own5 (by simp [Act.eval, Act.put]) hxl (by simp [Act.eval, Act.put, AskL.vh]) (by have := Hx.out.few; simp [maxLen]; omega) (by have := Hx.out.few; simp; omega) b5W.size ?_
   intro v6 w6 own6 g6 b6
   obtain ⟨L, hL⟩ : ∃ L, L = h.log ++ x.h.log := ⟨_, rfl⟩
   rw [← hL] at own6
   have HL := Lib.hid hL
   clear hL
   obtain ⟨p6, q6, rfl⟩ := own6.rd.shape
   have b6W : Below W1.heap.size W1 w6 := b5W.trans b6
   have jH := kH.ext b6W
   have jA := kA.ext b6W
   have jZ := kZ.ext b6W
   have jG := kG.ext b6W
   refine hK _ _ ⟨jH.cell 6 _ rfl, jA.cell 8 _ rfl⟩ (fun hHeld => ?_)
   clear hK K
   try simp only [bare, Act.put, lyA, lyZ, lyS]
   refine wpAnyF_tk 8 _ _ _ (v := ?_) rfl (by kernel_rfl) (fun _ _ _ h => h) ?_ hHeld ?_
   rotate_left
   · intro w hSw
     try dsimp only at hSw
     obtain ⟨_, _⟩ := hSw
     dsimp only [bare]
     go_simp <;> with_reducible rfl
   try simp only [bare, Act.put, lyA, lyZ, lyS]
   have f9 := jG.frozen 6
   have y9 := jG.cell 6 _ rfl
   refine wpAnyF_end (none) (Op.store 22 (Operand.tmp 47) (Operand.tmp 46)) 0 rfl (by kernel_rfl) (by kernel_rfl) (fun K hK => ?_)
   dsimp only [bare]; go_simp
   refine hK _ _ ?_
   clear hK K
   try simp only [bare, Act.put, lyA, lyZ, lyS]
   go_wp2_with fail
   go_meet
   have hne : ∀ k, (Value.slice p6 L.length q6).ownBlock = some k → k ≠ c3 := fun k hk e => by have := (own6.lt k hk).1; have := kG.lt; omega
   have cc := chg_cell c3 6 (.slice p6 L.length q6) w6
   have kk : Blk (w6.setCell ⟨c3, 6, none⟩ (.slice p6 L.length q6)) c3 #[.int .i64 h.term, .int .i64 h.vote, .int .i64 h.base, .int .i64 h.bterm, .int .i64 h.members, .string h.snap, .slice p6 L.length q6] 24 := jG.set 6 (.slice p6 L.length q6)
   have bb : Below w.heap.size w w6 := b3.trans (b6W.mono b3.size)
   exact ⟨{ h with log := L }, p6, q6, Lib.hid (by rw [HG.out, HL.out]), cc.blk jH (fun e => hcs.1 e.symm), cc.blk jZ (fun e => hcs.2.2.1 e.symm), kk, cc.ownR own6 (fun k hk e => hne k hk e), bb.trans (cc.below (B := w.heap.size) (fun k hk => by rw [hk]; exact hcs.2.2.2.1) bb.size)⟩
 case rest =>
 obtain ⟨g, pv, cv, HG, mH, mZ, mG, own, bW⟩ := hcut
 obtain ⟨W6, hW6⟩ : ∃ z, z = wc := ⟨_, rfl⟩
 subst hW6
 clear kH kA kZ kG yA1
 have hgs : g.snap.size ≤ 281474976710656 ∧ ∀ y ∈ g.log, y.data.size ≤ 281474976710656 := by
  have e := HG.out.symm.trans HnG.out
  cases hst : stepN x with
  | true =>
   rw [hst, if_pos rfl] at e
   rw [e]
   refine ⟨?_, fun y hy => by cases hy⟩
   have := Hx.out.snap
   show ((⟨#[115]⟩ : ByteArray) ++ x.h.snap).size ≤ _
   rw [ByteArray.size_append]
   have : (⟨#[115]⟩ : ByteArray).size = 1 := rfl
   omega
  | false =>
   rw [hst, if_neg (by decide)] at e
   rw [e]
   refine ⟨Nat.le_trans Hs.out (by decide), fun y hy => ?_⟩
   rcases List.mem_append.1 hy with hy | hy
   · exact Hd.out y hy
   · exact Nat.le_trans (Hx.out.data y hy) (by decide)
 have hR := refRight g (.slice pv g.log.length cv) W6 own.rd
 have hS := fun (w7 : World) (b7 : Below W6.heap.size W6 w7) => refSmall g (.slice pv g.log.length cv) w7 (own.rd.ext b7) hgs.1 hgs.2
 clear hgs HnG
 have HR := Lib.hid hR
 have HS := Lib.hid hS
 have HnX := Lib.hid (Hnx.out.trans (by rw [HG.out]) : nextS h x = if rightH g = true ∧ smallH g = true then g else h)
 clear hR hS Hnx
 have yG0 := mG.cell 0 _ rfl
 have yG1 := mG.cell 1 _ rfl
 have yG2 := mG.cell 2 _ rfl
 have yG3 := mG.cell 3 _ rfl
 have yG4 := mG.cell 4 _ rfl
 have yG5 := mG.cell 5 _ rfl
 have yG6 := mG.cell 6 _ rfl
 go_wp2_with fail
 refine HR.out.mono ?_
 rintro e w7 ⟨rfl, b7⟩
 have kH7 := mH.ext b7
 have kZ7 := mZ.ext b7
 have kG7 := mG.ext b7
 have own7 := own.ext b7
 have b07 := bW.trans (b7.mono bW.size)
 clear yG0 yG1 yG2 yG3 yG4 yG5 yG6 HR
 cases hr : rightH g with
 | false =>
  have hres : nextS h x = h := HnX.out.trans (if_neg (fun q => by rw [hr] at q; exact absurd q.1 (by decide)))
  have Hres := Lib.hid hres
  clear hr hres HS HnX kG7 mH mZ mG own own7
  have u0 := kH7.cell 0 _ rfl
  have v0 := kZ7.frozen 0
  have zq0 := kZ7.cell 0 _ rfl
  have u1 := kH7.cell 1 _ rfl
  have v1 := kZ7.frozen 1
  have zq1 := kZ7.cell 1 _ rfl
  have u2 := kH7.cell 2 _ rfl
  have v2 := kZ7.frozen 2
  have zq2 := kZ7.cell 2 _ rfl
  have u3 := kH7.cell 3 _ rfl
  have v3 := kZ7.frozen 3
  have zq3 := kZ7.cell 3 _ rfl
  have u4 := kH7.cell 4 _ rfl
  have v4 := kZ7.frozen 4
  have zq4 := kZ7.cell 4 _ rfl
  have u5 := kH7.cell 5 _ rfl
  have v5 := kZ7.frozen 5
  have zq5 := kZ7.cell 5 _ rfl
  have u6 := kH7.cell 6 _ rfl
  have v6 := kZ7.frozen 6
  have zq6 := kZ7.cell 6 _ rfl
  go_wp2_with fail
  obtain ⟨kR, cR⟩ := bly7 kZ7 (.int .i64 h.term) (.int .i64 h.vote) (.int .i64 h.base) (.int .i64 h.bterm) (.int .i64 h.members) (.string h.snap) (.slice p h.log.length cap)
  have r0 := kR.cell 0 _ rfl
  have r1 := kR.cell 1 _ rfl
  have r2 := kR.cell 2 _ rfl
  have r3 := kR.cell 3 _ rfl
  have r4 := kR.cell 4 _ rfl
  have r5 := kR.cell 5 _ rfl
  have r6 := kR.cell 6 _ rfl
  refine bodyPost_ret (v := hrdA h (.slice p h.log.length cap)) (by simp [results, Tryz.results32, go_sem, r0, r1, r2, r3, r4, r5, r6]) rfl ?_
  have bF := b07.trans (cR.below (B := w.heap.size) (fun k hk => by rw [hk]; have := HN.out; omega) b07.size)
  exact ⟨_, by rw [Hres.out], by rw [Hres.out]; exact hu.ext bF, .inl ⟨rfl, Hres.out⟩, bF⟩
 | true =>
  have hS7 := HS.out w7 b7
  have HS7 := Lib.hid hS7
  have yG0 := kG7.cell 0 _ rfl
  have yG1 := kG7.cell 1 _ rfl
  have yG2 := kG7.cell 2 _ rfl
  have yG3 := kG7.cell 3 _ rfl
  have yG4 := kG7.cell 4 _ rfl
  have yG5 := kG7.cell 5 _ rfl
  have yG6 := kG7.cell 6 _ rfl
  clear hS7 HS
  go_wp2_with fail
  refine HS7.out.mono ?_
  rintro e w8 ⟨rfl, b8⟩
  have kH8 := kH7.ext b8
  have kZ8 := kZ7.ext b8
  have kG8 := kG7.ext b8
  have own8 := own7.ext b8
  have b08 := b07.trans (b8.mono b07.size)
  clear yG0 yG1 yG2 yG3 yG4 yG5 yG6 HS7 kH7 kZ7 kG7 own7 b07 mH mZ mG own
  cases hsm : smallH g with
  | false =>
   have hres : nextS h x = h := HnX.out.trans (if_neg (fun q => by rw [hsm] at q; exact absurd q.2 (by decide)))
   have Hres := Lib.hid hres
   clear hr hsm hres HnX kG8 own8
   have u0 := kH8.cell 0 _ rfl
   have v0 := kZ8.frozen 0
   have zq0 := kZ8.cell 0 _ rfl
   have u1 := kH8.cell 1 _ rfl
   have v1 := kZ8.frozen 1
   have zq1 := kZ8.cell 1 _ rfl
   have u2 := kH8.cell 2 _ rfl
   have v2 := kZ8.frozen 2
   have zq2 := kZ8.cell 2 _ rfl
   have u3 := kH8.cell 3 _ rfl
   have v3 := kZ8.frozen 3
   have zq3 := kZ8.cell 3 _ rfl
   have u4 := kH8.cell 4 _ rfl
   have v4 := kZ8.frozen 4
   have zq4 := kZ8.cell 4 _ rfl
   have u5 := kH8.cell 5 _ rfl
   have v5 := kZ8.frozen 5
   have zq5 := kZ8.cell 5 _ rfl
   have u6 := kH8.cell 6 _ rfl
   have v6 := kZ8.frozen 6
   have zq6 := kZ8.cell 6 _ rfl
   go_wp2_with fail
   obtain ⟨kR, cR⟩ := bly7 kZ8 (.int .i64 h.term) (.int .i64 h.vote) (.int .i64 h.base) (.int .i64 h.bterm) (.int .i64 h.members) (.string h.snap) (.slice p h.log.length cap)
   have r0 := kR.cell 0 _ rfl
   have r1 := kR.cell 1 _ rfl
   have r2 := kR.cell 2 _ rfl
   have r3 := kR.cell 3 _ rfl
   have r4 := kR.cell 4 _ rfl
   have r5 := kR.cell 5 _ rfl
   have r6 := kR.cell 6 _ rfl
   refine bodyPost_ret (v := hrdA h (.slice p h.log.length cap)) (by simp [results, Tryz.results32, go_sem, r0, r1, r2, r3, r4, r5, r6]) rfl ?_
   have bF := b08.trans (cR.below (B := w.heap.size) (fun k hk => by rw [hk]; have := HN.out; omega) b08.size)
   exact ⟨_, by rw [Hres.out], by rw [Hres.out]; exact hu.ext bF, .inl ⟨rfl, Hres.out⟩, bF⟩
  | true =>
   have hres : nextS h x = g := HnX.out.trans (if_pos ⟨hr, hsm⟩)
   have Hres := Lib.hid hres
   clear hr hsm hres HnX kH8
   have u0 := kG8.cell 0 _ rfl
   have v0 := kZ8.frozen 0
   have zq0 := kZ8.cell 0 _ rfl
   have u1 := kG8.cell 1 _ rfl
   have v1 := kZ8.frozen 1
   have zq1 := kZ8.cell 1 _ rfl
   have u2 := kG8.cell 2 _ rfl
   have v2 := kZ8.frozen 2
   have zq2 := kZ8.cell 2 _ rfl
   have u3 := kG8.cell 3 _ rfl
   have v3 := kZ8.frozen 3
   have zq3 := kZ8.cell 3 _ rfl
   have u4 := kG8.cell 4 _ rfl
   have v4 := kZ8.frozen 4
   have zq4 := kZ8.cell 4 _ rfl
   have u5 := kG8.cell 5 _ rfl
   have v5 := kZ8.frozen 5
   have zq5 := kZ8.cell 5 _ rfl
   have u6 := kG8.cell 6 _ rfl
   have v6 := kZ8.frozen 6
   have zq6 := kZ8.cell 6 _ rfl
   go_wp2_with fail
   obtain ⟨kR, cR⟩ := bly7 kZ8 (.int .i64 g.term) (.int .i64 g.vote) (.int .i64 g.base) (.int .i64 g.bterm) (.int .i64 g.members) (.string g.snap) (.slice pv g.log.length cv)
   have r0 := kR.cell 0 _ rfl
   have r1 := kR.cell 1 _ rfl
   have r2 := kR.cell 2 _ rfl
   have r3 := kR.cell 3 _ rfl
   have r4 := kR.cell 4 _ rfl
   have r5 := kR.cell 5 _ rfl
   have r6 := kR.cell 6 _ rfl
   refine bodyPost_ret (v := hrdA g (.slice pv g.log.length cv)) (by simp [results, Tryz.results32, go_sem, r0, r1, r2, r3, r4, r5, r6]) rfl ?_
   have bF := b08.trans (cR.below (B := w.heap.size) (fun k hk => by rw [hk]; have := HN.out; omega) b08.size)
   have ownF := cR.ownR own8 (fun k hk e => by have := (own8.lt k hk).1; have := HN.out; omega)
   exact ⟨_, by rw [Hres.out], by rw [Hres.out]; exact ownF.rd, .inr (fun k hk => by have := own8.lt k hk; have := cR.size; have := hcs; exact ⟨by omega, by omega⟩), bF⟩
end Go.Proofs.YtgpgcnmnfnnkjaaGreatDoor
end
