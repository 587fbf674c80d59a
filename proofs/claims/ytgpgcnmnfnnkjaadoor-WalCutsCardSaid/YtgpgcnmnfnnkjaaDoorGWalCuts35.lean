/- What a node might have next (impostlaw18.next). -/
import Derived.Test.YtgpgcnmnfnnkjaaDoorGWalCuts33
import Derived.Test.YtgpgcnmnfnnkjaaDoorGWalCuts16
import Derived.Test.YtgpgcnmnfnnkjaaDoorGWalCuts34
import Derived.Test.YtgpgcnmnfnnkjaaDoorGWalCuts6
set_option linter.unusedVariables false
set_option linter.unusedSimpArgs false
section
namespace Go.Proofs.YtgpgcnmnfnnkjaaDoor
open Go Go.RowKit Go.PlainAid BigFrame
attribute [local go_sem] After.same
/-- a call as it lies -/
structure AskL where
  kind : Int
  n : Int
  h : Hrd
  hp : Option Addr
  hc : Nat
  pp : Option Addr
  pc : Nat
  picks : List Int
def AskL.vh (x : AskL) : Value := .slice x.hp x.h.log.length x.hc
def AskL.vp (x : AskL) : Value := .slice x.pp x.picks.length x.pc
@[reducible] def aslA (x : AskL) : Array Value := #[.int .i64 x.kind, .int .i64 x.n, .int .i64 x.h.term, .int .i64 x.h.vote, .int .i64 x.h.base, .int .i64 x.h.bterm, .int .i64 x.h.members, .string x.h.snap, .slice x.hp x.h.log.length x.hc, .slice x.pp x.picks.length x.pc]
/-- what is asked of an argument -/
structure AskLOk (w : World) (x : AskL) : Prop where
  log : Rd etyE w x.vh x.h.log
  picks : Rd intsE w x.vp x.picks
  hi : ∀ z ∈ x.picks, z ≤ 9223372036854775807
  few : x.h.log.length * 32 ≤ 140737488355328
  snap : x.h.snap.size ≤ 140737488355328
  data : ∀ y ∈ x.h.log, y.data.size ≤ 140737488355328
  n64 : -9223372036854775808 ≤ x.n ∧ x.n ≤ 9223372036854775807
theorem AskLOk.ext {w w' : World} {x : AskL} (h : AskLOk w x) (hb : Below w.heap.size w w') : AskLOk w' x := ⟨h.log.ext hb, h.picks.ext hb, h.hi, h.few, h.snap, h.data, h.n64⟩
def newer (h : Hrd) (x : AskL) : Bool := decide (h.term < x.h.term) && decide (x.h.term ≤ 1099511627776)
def keepN (h : Hrd) (x : AskL) : Nat := (within x.n 0 (h.log.length : Int)).toNat
def nextG (h : Hrd) (x : AskL) : Hrd := { h with term := if newer h x then x.h.term else h.term, vote := if newer h x then x.h.vote else h.vote, log := h.log.take (keepN h x) ++ x.h.log }
def nextL (h : Hrd) (x : AskL) : Hrd := if rightH (nextG h x) = true ∧ smallH (nextG h x) = true then nextG h x else h
theorem keepN_le (h : Hrd) (x : AskL) : keepN h x ≤ h.log.length := by
  have := within_bounds x.n 0 (h.log.length : Int) (by omega)
  unfold keepN; omega
theorem keepN_eq (h : Hrd) (x : AskL) : within x.n 0 (h.log.length : Int) = (keepN h x : Int) := by
  have := within_bounds x.n 0 (h.log.length : Int) (by omega)
  unfold keepN; omega
theorem emptyE (w : World) (e : TypeId) (B H : Nat) (hH : w.heap.size = H) (hB : B ≤ w.heap.size) : OwnR etyE (w.alloc (.cells #[] e)) B e (.slice (some ⟨H, 0, none⟩) 0 0) [] :=
  OwnR.litAt etyE w #[] e [] 0 B H hH rfl rfl (by decide) hB
theorem arr7 (z0 z1 z2 z3 z4 z5 z6 a0 a1 a2 a3 a4 a5 a6 : Value) : (((((((#[z0, z1, z2, z3, z4, z5, z6] : Array Value).setIfInBounds 0 a0).setIfInBounds 1 a1).setIfInBounds 2 a2).setIfInBounds 3 a3).setIfInBounds 4 a4).setIfInBounds 5 a5).setIfInBounds 6 a6 = #[a0, a1, a2, a3, a4, a5, a6] := by kernel_rfl
/-- seven cells set -/
theorem blk7 {W : World} {c : Nat} {z0 z1 z2 z3 z4 z5 z6 : Value} {T : TypeId} (k : Blk W c #[z0, z1, z2, z3, z4, z5, z6] T) (a0 a1 a2 a3 a4 a5 a6 : Value) :
    Blk (((((((W.setCell ⟨c, 0, none⟩ a0).setCell ⟨c, 1, none⟩ a1).setCell ⟨c, 2, none⟩ a2).setCell ⟨c, 3, none⟩ a3).setCell ⟨c, 4, none⟩ a4).setCell ⟨c, 5, none⟩ a5).setCell ⟨c, 6, none⟩ a6) c #[a0, a1, a2, a3, a4, a5, a6] T ∧ Chg (fun k => k = c) W (((((((W.setCell ⟨c, 0, none⟩ a0).setCell ⟨c, 1, none⟩ a1).setCell ⟨c, 2, none⟩ a2).setCell ⟨c, 3, none⟩ a3).setCell ⟨c, 4, none⟩ a4).setCell ⟨c, 5, none⟩ a5).setCell ⟨c, 6, none⟩ a6) :=
  ⟨arr7 z0 z1 z2 z3 z4 z5 z6 a0 a1 a2 a3 a4 a5 a6 ▸ (((((((k.set 0 a0).set 1 a1).set 2 a2).set 3 a3).set 4 a4).set 5 a5).set 6 a6), (((((((Chg.refl (fun k => k = c) W).setCell (p := ⟨c, 0, none⟩) rfl a0).setCell (p := ⟨c, 1, none⟩) rfl a1).setCell (p := ⟨c, 2, none⟩) rfl a2).setCell (p := ⟨c, 3, none⟩) rfl a3).setCell (p := ⟨c, 4, none⟩) rfl a4).setCell (p := ⟨c, 5, none⟩) rfl a5).setCell (p := ⟨c, 6, none⟩) rfl a6⟩
set_option maxRecDepth 8000 in
set_option maxHeartbeats 16000000 in
theorem lawNext {w : World} (h : Hrd) (x : AskL) (u : Value) (hu : Rd etyE w u h.log) (hx : AskLOk w x) (hl : h.log.length ≤ 200) (hs : h.snap.size ≤ 281474976710656) (hd : ∀ y ∈ h.log, y.data.size ≤ 281474976710656) :
    Calls Tryd.prog 14 #[hrdA h u, .agg (aslA x)] w fun e w' => ∃ v', e = .returned (hrdA (nextL h x) v') ∧ Rd etyE w' v' (nextL h x).log ∧ ((v' = u ∧ nextL h x = h) ∨ ∀ k, v'.ownBlock = some k → w.heap.size ≤ k ∧ k < w'.heap.size) ∧ Below w.heap.size w w' := by
  obtain ⟨p, cap, rfl⟩ := hu.shape
  have hmax := hu.le
  unfold maxLen at hmax
  obtain ⟨s, hs0⟩ : ∃ s, s = w.heap.size := ⟨_, rfl⟩
  obtain ⟨c1, hc1⟩ : ∃ c, c = s + 1 := ⟨_, rfl⟩
  obtain ⟨c2, hc2⟩ : ∃ c, c = s + 1 + 1 := ⟨_, rfl⟩
  obtain ⟨c3, hc3⟩ : ∃ c, c = s + 1 + 1 + 1 := ⟨_, rfl⟩
  have b0 := below_alloc w (.cells #[.int .i64 h.term, .int .i64 h.vote, .int .i64 h.base, .int .i64 h.bterm, .int .i64 h.members, .string h.snap, .slice p h.log.length cap] 30)
  have b1 := b0.trans ((below_alloc (w.alloc (.cells #[.int .i64 h.term, .int .i64 h.vote, .int .i64 h.base, .int .i64 h.bterm, .int .i64 h.members, .string h.snap, .slice p h.log.length cap] 30)) (.cells #[.int .i64 x.kind, .int .i64 x.n, .int .i64 x.h.term, .int .i64 x.h.vote, .int .i64 x.h.base, .int .i64 x.h.bterm, .int .i64 x.h.members, .string x.h.snap, .slice x.hp x.h.log.length x.hc, .slice x.pp x.picks.length x.pc] 43)).mono (by simp))
  have b2 := b1.trans ((below_alloc ((w.alloc (.cells #[.int .i64 h.term, .int .i64 h.vote, .int .i64 h.base, .int .i64 h.bterm, .int .i64 h.members, .string h.snap, .slice p h.log.length cap] 30)).alloc (.cells #[.int .i64 x.kind, .int .i64 x.n, .int .i64 x.h.term, .int .i64 x.h.vote, .int .i64 x.h.base, .int .i64 x.h.bterm, .int .i64 x.h.members, .string x.h.snap, .slice x.hp x.h.log.length x.hc, .slice x.pp x.picks.length x.pc] 43)) (.cells #[.int .i64 0, .int .i64 0, .int .i64 0, .int .i64 0, .int .i64 0, .string ⟨#[]⟩, .slice none 0 0] 30)).mono (by simp <;> omega))
  have b3 := b2.trans ((below_alloc (((w.alloc (.cells #[.int .i64 h.term, .int .i64 h.vote, .int .i64 h.base, .int .i64 h.bterm, .int .i64 h.members, .string h.snap, .slice p h.log.length cap] 30)).alloc (.cells #[.int .i64 x.kind, .int .i64 x.n, .int .i64 x.h.term, .int .i64 x.h.vote, .int .i64 x.h.base, .int .i64 x.h.bterm, .int .i64 x.h.members, .string x.h.snap, .slice x.hp x.h.log.length x.hc, .slice x.pp x.picks.length x.pc] 43)).alloc (.cells #[.int .i64 0, .int .i64 0, .int .i64 0, .int .i64 0, .int .i64 0, .string ⟨#[]⟩, .slice none 0 0] 30)) (.cells #[.int .i64 h.term, .int .i64 h.vote, .int .i64 h.base, .int .i64 h.bterm, .int .i64 h.members, .string h.snap, .slice p h.log.length cap] 30)).mono (by simp <;> omega))
  have kH := (((Blk.new w #[.int .i64 h.term, .int .i64 h.vote, .int .i64 h.base, .int .i64 h.bterm, .int .i64 h.members, .string h.snap, .slice p h.log.length cap] 30).ext (below_alloc (w.alloc (.cells #[.int .i64 h.term, .int .i64 h.vote, .int .i64 h.base, .int .i64 h.bterm, .int .i64 h.members, .string h.snap, .slice p h.log.length cap] 30)) (.cells #[.int .i64 x.kind, .int .i64 x.n, .int .i64 x.h.term, .int .i64 x.h.vote, .int .i64 x.h.base, .int .i64 x.h.bterm, .int .i64 x.h.members, .string x.h.snap, .slice x.hp x.h.log.length x.hc, .slice x.pp x.picks.length x.pc] 43))).ext (below_alloc _ (.cells #[.int .i64 0, .int .i64 0, .int .i64 0, .int .i64 0, .int .i64 0, .string ⟨#[]⟩, .slice none 0 0] 30))).ext (below_alloc _ (.cells #[.int .i64 h.term, .int .i64 h.vote, .int .i64 h.base, .int .i64 h.bterm, .int .i64 h.members, .string h.snap, .slice p h.log.length cap] 30))
  have kA := ((Blk.new (w.alloc (.cells #[.int .i64 h.term, .int .i64 h.vote, .int .i64 h.base, .int .i64 h.bterm, .int .i64 h.members, .string h.snap, .slice p h.log.length cap] 30)) #[.int .i64 x.kind, .int .i64 x.n, .int .i64 x.h.term, .int .i64 x.h.vote, .int .i64 x.h.base, .int .i64 x.h.bterm, .int .i64 x.h.members, .string x.h.snap, .slice x.hp x.h.log.length x.hc, .slice x.pp x.picks.length x.pc] 43).ext (below_alloc _ (.cells #[.int .i64 0, .int .i64 0, .int .i64 0, .int .i64 0, .int .i64 0, .string ⟨#[]⟩, .slice none 0 0] 30))).ext (below_alloc _ (.cells #[.int .i64 h.term, .int .i64 h.vote, .int .i64 h.base, .int .i64 h.bterm, .int .i64 h.members, .string h.snap, .slice p h.log.length cap] 30))
  have kZ := (Blk.new ((w.alloc (.cells #[.int .i64 h.term, .int .i64 h.vote, .int .i64 h.base, .int .i64 h.bterm, .int .i64 h.members, .string h.snap, .slice p h.log.length cap] 30)).alloc (.cells #[.int .i64 x.kind, .int .i64 x.n, .int .i64 x.h.term, .int .i64 x.h.vote, .int .i64 x.h.base, .int .i64 x.h.bterm, .int .i64 x.h.members, .string x.h.snap, .slice x.hp x.h.log.length x.hc, .slice x.pp x.picks.length x.pc] 43)) #[.int .i64 0, .int .i64 0, .int .i64 0, .int .i64 0, .int .i64 0, .string ⟨#[]⟩, .slice none 0 0] 30).ext (below_alloc _ (.cells #[.int .i64 h.term, .int .i64 h.vote, .int .i64 h.base, .int .i64 h.bterm, .int .i64 h.members, .string h.snap, .slice p h.log.length cap] 30))
  have kG := Blk.new (((w.alloc (.cells #[.int .i64 h.term, .int .i64 h.vote, .int .i64 h.base, .int .i64 h.bterm, .int .i64 h.members, .string h.snap, .slice p h.log.length cap] 30)).alloc (.cells #[.int .i64 x.kind, .int .i64 x.n, .int .i64 x.h.term, .int .i64 x.h.vote, .int .i64 x.h.base, .int .i64 x.h.bterm, .int .i64 x.h.members, .string x.h.snap, .slice x.hp x.h.log.length x.hc, .slice x.pp x.picks.length x.pc] 43)).alloc (.cells #[.int .i64 0, .int .i64 0, .int .i64 0, .int .i64 0, .int .i64 0, .string ⟨#[]⟩, .slice none 0 0] 30)) #[.int .i64 h.term, .int .i64 h.vote, .int .i64 h.base, .int .i64 h.bterm, .int .i64 h.members, .string h.snap, .slice p h.log.length cap] 30
  have e1 : (w.alloc (.cells #[.int .i64 h.term, .int .i64 h.vote, .int .i64 h.base, .int .i64 h.bterm, .int .i64 h.members, .string h.snap, .slice p h.log.length cap] 30)).heap.size = c1 := by rw [hc1, hs0]; simp
  have e2 : ((w.alloc (.cells #[.int .i64 h.term, .int .i64 h.vote, .int .i64 h.base, .int .i64 h.bterm, .int .i64 h.members, .string h.snap, .slice p h.log.length cap] 30)).alloc (.cells #[.int .i64 x.kind, .int .i64 x.n, .int .i64 x.h.term, .int .i64 x.h.vote, .int .i64 x.h.base, .int .i64 x.h.bterm, .int .i64 x.h.members, .string x.h.snap, .slice x.hp x.h.log.length x.hc, .slice x.pp x.picks.length x.pc] 43)).heap.size = c2 := by rw [hc2, hs0]; simp
  have e3 : (((w.alloc (.cells #[.int .i64 h.term, .int .i64 h.vote, .int .i64 h.base, .int .i64 h.bterm, .int .i64 h.members, .string h.snap, .slice p h.log.length cap] 30)).alloc (.cells #[.int .i64 x.kind, .int .i64 x.n, .int .i64 x.h.term, .int .i64 x.h.vote, .int .i64 x.h.base, .int .i64 x.h.bterm, .int .i64 x.h.members, .string x.h.snap, .slice x.hp x.h.log.length x.hc, .slice x.pp x.picks.length x.pc] 43)).alloc (.cells #[.int .i64 0, .int .i64 0, .int .i64 0, .int .i64 0, .int .i64 0, .string ⟨#[]⟩, .slice none 0 0] 30)).heap.size = c3 := by rw [hc3, hs0]; simp
  have e4 : ((((w.alloc (.cells #[.int .i64 h.term, .int .i64 h.vote, .int .i64 h.base, .int .i64 h.bterm, .int .i64 h.members, .string h.snap, .slice p h.log.length cap] 30)).alloc (.cells #[.int .i64 x.kind, .int .i64 x.n, .int .i64 x.h.term, .int .i64 x.h.vote, .int .i64 x.h.base, .int .i64 x.h.bterm, .int .i64 x.h.members, .string x.h.snap, .slice x.hp x.h.log.length x.hc, .slice x.pp x.picks.length x.pc] 43)).alloc (.cells #[.int .i64 0, .int .i64 0, .int .i64 0, .int .i64 0, .int .i64 0, .string ⟨#[]⟩, .slice none 0 0] 30)).alloc (.cells #[.int .i64 h.term, .int .i64 h.vote, .int .i64 h.base, .int .i64 h.bterm, .int .i64 h.members, .string h.snap, .slice p h.log.length cap] 30)).heap.size = s + 4 := by rw [hs0]; simp
  rw [← hs0] at kH
  rw [e1] at kA
  rw [e2] at kZ
  rw [e3] at kG
  have huW := hu.ext b3
  have hxW := hx.ext b3
  clear b0 b1 b2 e1 e2 e3
  have hkN := keepN_le h x
  have hkE := keepN_eq h x
  have HnG : Hid (nextG h x = { h with term := if newer h x then x.h.term else h.term, vote := if newer h x then x.h.vote else h.vote, log := h.log.take (keepN h x) ++ x.h.log }) := rfl
  have Hnx : Hid (nextL h x = if rightH (nextG h x) = true ∧ smallH (nextG h x) = true then nextG h x else h) := rfl
  have HkE := Lib.hid hkE
  have Hx := Lib.hid hx
  have Hs := Lib.hid hs
  have Hd := Lib.hid hd
  clear hkE hx hs hd
  generalize keepN h x = kN at *
  cases hnw : newer h x
  case' false =>
    have d24 : (decide (h.term < x.h.term) && decide (x.h.term ≤ 1099511627776)) = false := hnw
  case' true =>
    have d24 : (decide (h.term < x.h.term) && decide (x.h.term ≤ 1099511627776)) = true := hnw
    rw [Bool.and_eq_true, decide_eq_true_iff, decide_eq_true_iff] at d24
    obtain ⟨d1, d2⟩ := d24
  all_goals
    rw [hnw] at HnG
    clear hnw
    go_enter Tryd.func14, Tryd.ntmps14
    go_upto_region 2 with (fail)
    rw [← hs0, ← hc3, ← hc2, ← hc1]
    generalize hW1 : ((((w.alloc (.cells #[.int .i64 h.term, .int .i64 h.vote, .int .i64 h.base, .int .i64 h.bterm, .int .i64 h.members, .string h.snap, .slice p h.log.length cap] 30)).alloc (.cells #[.int .i64 x.kind, .int .i64 x.n, .int .i64 x.h.term, .int .i64 x.h.vote, .int .i64 x.h.base, .int .i64 x.h.bterm, .int .i64 x.h.members, .string x.h.snap, .slice x.hp x.h.log.length x.hc, .slice x.pp x.picks.length x.pc] 43)).alloc (.cells #[.int .i64 0, .int .i64 0, .int .i64 0, .int .i64 0, .int .i64 0, .string ⟨#[]⟩, .slice none 0 0] 30)).alloc (.cells #[.int .i64 h.term, .int .i64 h.vote, .int .i64 h.base, .int .i64 h.bterm, .int .i64 h.members, .string h.snap, .slice p h.log.length cap] 30)) = W1 at *
    clear hW1
    have HN := Lib.hid (And.intro hs0 (And.intro hc1 (And.intro hc2 (And.intro hc3 e4))))
    clear hs0 hc1 hc2 hc3 e4
    have y6H := kH.cell 6 _ rfl
    have hls := kH.lt
    go_upto_region 3 with (first
      | (at_builtin; refine wpList_appX (E := etyE) (B := W1.heap.size) tEty rfl rfl (emptyE W1 36 W1.heap.size W1.heap.size rfl (Nat.le_refl _)) (by rfl) (huW.ext (below_alloc W1 _)) (by rfl) (by simp [maxLen]; omega) (by simp; omega) (by simp) ?_; intro v2 w2 own2 g2 c2;
         rw [List.nil_append] at own2; obtain ⟨p2, q2, rfl⟩ := own2.rd.shape; have c2' := (below_alloc W1 (.cells #[] 36)).trans c2; have kG2 := kG.ext c2'; have f6 := kG2.frozen 6; have y6 := kG2.cell 6 _ rfl; clear c2)
      | fail)
    have hne : ∀ k, (Value.slice p2 h.log.length q2).ownBlock = some k → k ≠ c3 := fun k hk e => by have := (own2.lt k hk).1; have := HN.out; omega
    have ch := chg_cell c3 6 (.slice p2 h.log.length q2) w2
    have hcs : c3 ≠ s ∧ c3 ≠ c1 ∧ c3 ≠ c2 ∧ w.heap.size ≤ c3 ∧ w.heap.size ≤ W1.heap.size := by have := HN.out; omega
    have bW : Below w.heap.size w (w2.setCell ⟨c3, 6, none⟩ (.slice p2 h.log.length q2)) := (b3.trans (c2'.mono hcs.2.2.2.2)).setCell (p := ⟨c3, 6, none⟩) hcs.2.2.2.1 _
    have mH := ch.blk (kH.ext c2') (fun e => hcs.1 e.symm)
    have mA := ch.blk (kA.ext c2') (fun e => hcs.2.1 e.symm)
    have mZ := ch.blk (kZ.ext c2') (fun e => hcs.2.2.1 e.symm)
    have mG : Blk (w2.setCell ⟨c3, 6, none⟩ (.slice p2 h.log.length q2)) c3 #[.int .i64 h.term, .int .i64 h.vote, .int .i64 h.base, .int .i64 h.bterm, .int .i64 h.members, .string h.snap, .slice p2 h.log.length q2] 30 := kG2.set 6 (.slice p2 h.log.length q2)
    have own := ch.ownR own2 (fun k hk e => hne k hk e)
    have hs12 : W1.heap.size ≤ (w2.setCell ⟨c3, 6, none⟩ (.slice p2 h.log.length q2)).heap.size := by have := c2'.size; simp; exact this
    clear own2 kG2 f6 y6 g2 c2' ch hls y6H kH kA kZ kG huW hxW b3
    generalize w2.setCell ⟨c3, 6, none⟩ (.slice p2 h.log.length q2) = W2 at *
    have yH0 := mH.cell 0 _ rfl
    have yA2 := mA.cell 2 _ rfl
    have yA3 := mA.cell 3 _ rfl
  · skip
    have f0 := mG.frozen 0
    have f1 := mG.frozen 1
    go_upto_region 4 with (fail)
    refine wp_region_F (n := 9) (S := fun w' : World => w'.cell? ⟨c1, 2, none⟩ = some (.int .i64 x.h.term) ∧ w'.cell? ⟨c1, 3, none⟩ = some (.int .i64 x.h.vote)) (by kernel_rfl) ?_
    have hHeld : (fun w' : World => w'.cell? ⟨c1, 2, none⟩ = some (.int .i64 x.h.term) ∧ w'.cell? ⟨c1, 3, none⟩ = some (.int .i64 x.h.vote)) W2.drew := ⟨yA2, yA3⟩
    have yG0 := mG.cell 0 _ rfl
    have yG1 := mG.cell 1 _ rfl
    refine wpAnyF_tk 0 (some 25) (Op.fieldAddr 43 (Operand.tmp 3) 2) 0 (v := ?_) rfl (by kernel_rfl) (fun _ _ _ h => h) ?_ hHeld ?_
    rotate_left
    · intro w hSw
      try dsimp only at hSw
      obtain ⟨_, _⟩ := hSw
      dsimp only [bare]
      go_simp <;> with_reducible rfl
    try simp only [bare, Act.put, List.setIfInBounds_toArray, List.set_cons_zero, List.set_cons_succ]
    refine wpAnyF_tk 1 (some 26) (Op.fieldAddr 30 (Operand.tmp 25) 0) 0 (v := ?_) rfl (by kernel_rfl) (fun _ _ _ h => h) ?_ hHeld ?_
    rotate_left
    · intro w hSw
      try dsimp only at hSw
      obtain ⟨_, _⟩ := hSw
      dsimp only [bare]
      go_simp <;> with_reducible rfl
    try simp only [bare, Act.put, List.setIfInBounds_toArray, List.set_cons_zero, List.set_cons_succ]
    refine wpAnyF_tk 2 (some 27) (Op.load 3 (Operand.tmp 26)) 3 (v := ?_) rfl (by kernel_rfl) (fun _ _ _ h => h) ?_ hHeld ?_
    rotate_left
    · intro w hSw
      try dsimp only at hSw
      obtain ⟨_, _⟩ := hSw
      dsimp only [bare]
      go_simp <;> with_reducible rfl
    try simp only [bare, Act.put, List.setIfInBounds_toArray, List.set_cons_zero, List.set_cons_succ]
    refine wpAnyF_tk 3 (some 28) (Op.fieldAddr 43 (Operand.tmp 3) 2) 0 (v := ?_) rfl (by kernel_rfl) (fun _ _ _ h => h) ?_ hHeld ?_
    rotate_left
    · intro w hSw
      try dsimp only at hSw
      obtain ⟨_, _⟩ := hSw
      dsimp only [bare]
      go_simp <;> with_reducible rfl
    try simp only [bare, Act.put, List.setIfInBounds_toArray, List.set_cons_zero, List.set_cons_succ]
    refine wpAnyF_tk 4 (some 29) (Op.fieldAddr 30 (Operand.tmp 28) 1) 0 (v := ?_) rfl (by kernel_rfl) (fun _ _ _ h => h) ?_ hHeld ?_
    rotate_left
    · intro w hSw
      try dsimp only at hSw
      obtain ⟨_, _⟩ := hSw
      dsimp only [bare]
      go_simp <;> with_reducible rfl
    try simp only [bare, Act.put, List.setIfInBounds_toArray, List.set_cons_zero, List.set_cons_succ]
    refine wpAnyF_tk 5 (some 30) (Op.load 3 (Operand.tmp 29)) 3 (v := ?_) rfl (by kernel_rfl) (fun _ _ _ h => h) ?_ hHeld ?_
    rotate_left
    · intro w hSw
      try dsimp only at hSw
      obtain ⟨_, _⟩ := hSw
      dsimp only [bare]
      go_simp <;> with_reducible rfl
    try simp only [bare, Act.put, List.setIfInBounds_toArray, List.set_cons_zero, List.set_cons_succ]
    refine wpAnyF_tk 6 (some 31) (Op.fieldAddr 30 (Operand.tmp 5) 0) 0 (v := ?_) rfl (by kernel_rfl) (fun _ _ _ h => h) ?_ hHeld ?_
    rotate_left
    · intro w hSw
      try dsimp only at hSw
      obtain ⟨_, _⟩ := hSw
      dsimp only [bare]
      go_simp <;> with_reducible rfl
    try simp only [bare, Act.put, List.setIfInBounds_toArray, List.set_cons_zero, List.set_cons_succ]
    obtain ⟨Wd, hWd⟩ : ∃ z, z = W2.drew := ⟨_, rfl⟩
    have bE : Below W2.heap.size W2 Wd := by rw [hWd]; exact below_drew _ _
    rw [← hWd]
    clear hWd
    have nG := mG.ext bE
    have d0 := nG.cell 0 _ rfl
    have e0 := nG.frozen 0
    refine wpAnyF_one 7 (none) (Op.store 3 (Operand.tmp 31) (Operand.tmp 27)) 0 rfl (by kernel_rfl) (fun K hK => ?_)
    dsimp only [bare]; go_simp
    have ch := chg_cell c3 0 (.int .i64 x.h.term) Wd
    have hAk := ch.blk (mA.ext bE) (fun e => hcs.2.1 e.symm)
    have hGk : Blk (Wd.setCell ⟨c3, 0, none⟩ (.int .i64 x.h.term)) c3 #[.int .i64 x.h.term, .int .i64 h.vote, .int .i64 h.base, .int .i64 h.bterm, .int .i64 h.members, .string h.snap, .slice p2 h.log.length q2] 30 := nG.set 0 (.int .i64 x.h.term)
    have d1 := hGk.cell 1 _ rfl
    have e1 := hGk.frozen 1
    refine hK _ _ ⟨hAk.cell 2 _ rfl, hAk.cell 3 _ rfl⟩ (fun hHeld => ?_)
    clear hK K
    try simp only [bare, Act.put, List.setIfInBounds_toArray, List.set_cons_zero, List.set_cons_succ]
    refine wpAnyF_tk 8 (some 32) (Op.fieldAddr 30 (Operand.tmp 5) 1) 0 (v := ?_) rfl (by kernel_rfl) (fun _ _ _ h => h) ?_ hHeld ?_
    rotate_left
    · intro w hSw
      try dsimp only at hSw
      obtain ⟨_, _⟩ := hSw
      dsimp only [bare]
      go_simp <;> with_reducible rfl
    try simp only [bare, Act.put, List.setIfInBounds_toArray, List.set_cons_zero, List.set_cons_succ]
    refine wpAnyF_end (none) (Op.store 3 (Operand.tmp 32) (Operand.tmp 30)) 0 rfl (by kernel_rfl) (by kernel_rfl) (fun K hK => ?_)
    dsimp only [bare]; go_simp
    refine hK _ _ ?_
    clear hK K
    try simp only [bare, Act.put, List.setIfInBounds_toArray, List.set_cons_zero, List.set_cons_succ]
    have ch2 := chg_cell c3 1 (.int .i64 x.h.vote) (Wd.setCell ⟨c3, 0, none⟩ (.int .i64 x.h.term))
    have bW' : Below w.heap.size w ((Wd.setCell ⟨c3, 0, none⟩ (.int .i64 x.h.term)).setCell ⟨c3, 1, none⟩ (.int .i64 x.h.vote)) := ((bW.trans (bE.mono bW.size)).setCell (p := ⟨c3, 0, none⟩) hcs.2.2.2.1 _).setCell (p := ⟨c3, 1, none⟩) hcs.2.2.2.1 _
    have kH := ch2.blk (ch.blk (mH.ext bE) (fun e => hcs.1 e.symm)) (fun e => hcs.1 e.symm)
    have kZ := ch2.blk (ch.blk (mZ.ext bE) (fun e => hcs.2.2.1 e.symm)) (fun e => hcs.2.2.1 e.symm)
    have kA := ch2.blk hAk (fun e => hcs.2.1 e.symm)
    have kG : Blk ((Wd.setCell ⟨c3, 0, none⟩ (.int .i64 x.h.term)).setCell ⟨c3, 1, none⟩ (.int .i64 x.h.vote)) c3 #[.int .i64 x.h.term, .int .i64 x.h.vote, .int .i64 h.base, .int .i64 h.bterm, .int .i64 h.members, .string h.snap, .slice p2 h.log.length q2] 30 := hGk.set 1 (.int .i64 x.h.vote)
    have hsz' : W1.heap.size ≤ ((Wd.setCell ⟨c3, 0, none⟩ (.int .i64 x.h.term)).setCell ⟨c3, 1, none⟩ (.int .i64 x.h.vote)).heap.size := by have := bE.size; simp; omega
    have own' := ch2.ownR (ch.ownR (own.ext bE) (fun k hk e => hne k hk e)) (fun k hk e => hne k hk e)
    clear mH mZ mA mG own bW hs12 ch ch2 nG hAk hGk d0 d1 e0 e1 f0 f1 yG0 yG1 yA2 yA3 yH0 hHeld bE
    generalize (Wd.setCell ⟨c3, 0, none⟩ (.int .i64 x.h.term)).setCell ⟨c3, 1, none⟩ (.int .i64 x.h.vote) = W3 at *
    have mH := kH
    have mZ := kZ
    have mA := kA
    have mG := kG
    have own := own'
    have bW := bW'
    have hs12 := hsz'
    clear kH kZ kA kG own' bW' hsz'
    have yA1 := mA.cell 1 _ rfl
    have yA8 := mA.cell 8 _ rfl
    have yG6 := mG.cell 6 _ rfl
    go_upto_region 6 with (first | (go_at_call 18; refine (withinCalls x.n 0 (h.log.length : Int) _ (by decide) (by omega) (by omega)).mono ?_; rintro e w' ⟨rfl, rfl⟩; rw [HkE.out]) | fail)
    obtain ⟨pc, cc, hv, hsub, hown⟩ := cutE own hkN
    simp only [Value.slice.injEq, true_and] at hv
    obtain ⟨rfl, rfl⟩ := hv
    have hsl := run_sub_to tEty (P := Tryd.prog) own.rd .i64 (kN : Int) kN rfl hkN
    rw [hsub] at hsl
    clear hsub
    refine wp_region_F (n := 9) (S := fun w' : World => w'.cell? ⟨c3, 6, none⟩ = some (.slice p2 h.log.length q2) ∧ w'.cell? ⟨c1, 8, none⟩ = some (.slice x.hp x.h.log.length x.hc)) (by kernel_rfl) ?_
    have hHeld : (fun w' : World => w'.cell? ⟨c3, 6, none⟩ = some (.slice p2 h.log.length q2) ∧ w'.cell? ⟨c1, 8, none⟩ = some (.slice x.hp x.h.log.length x.hc)) W3.drew := ⟨yG6, yA8⟩
    refine wpAnyF_tk 0 (some 39) (Op.fieldAddr 30 (Operand.tmp 5) 6) 0 (v := ?_) rfl (by kernel_rfl) (fun _ _ _ h => h) ?_ hHeld ?_
    rotate_left
    · intro w hSw
      try dsimp only at hSw
      obtain ⟨_, _⟩ := hSw
      dsimp only [bare]
      go_simp <;> with_reducible rfl
    try simp only [bare, Act.put, List.setIfInBounds_toArray, List.set_cons_zero, List.set_cons_succ]
    refine wpAnyF_tk 1 (some 40) (Op.load 28 (Operand.tmp 39)) 28 (v := ?_) rfl (by kernel_rfl) (fun _ _ _ h => h) ?_ hHeld ?_
    rotate_left
    · intro w hSw
      try dsimp only at hSw
      obtain ⟨_, _⟩ := hSw
      dsimp only [bare]
      go_simp <;> with_reducible rfl
    try simp only [bare, Act.put, List.setIfInBounds_toArray, List.set_cons_zero, List.set_cons_succ]
    refine wpAnyF_tk 2 (some 41) (Op.move (Operand.tmp 6)) 3 (v := ?_) rfl (by kernel_rfl) (fun _ _ _ h => h) ?_ hHeld ?_
    rotate_left
    · intro w hSw
      try dsimp only at hSw
      obtain ⟨_, _⟩ := hSw
      dsimp only [bare]
      go_simp <;> with_reducible rfl
    try simp only [bare, Act.put, List.setIfInBounds_toArray, List.set_cons_zero, List.set_cons_succ]
    refine wpAnyF_tk 3 (some 42) (Op.slice 28 (Operand.tmp 40) none (some (Operand.tmp 41)) none) 28 (v := ?_) rfl (by kernel_rfl) (fun _ _ _ h => h) ?_ hHeld ?_
    rotate_left
    · intro w hSw
      try dsimp only at hSw
      obtain ⟨_, _⟩ := hSw
      dsimp only [bare]
      go_simp <;> with_reducible rfl
    try simp only [bare, Act.put, List.setIfInBounds_toArray, List.set_cons_zero, List.set_cons_succ]
    refine wpAnyF_tk 4 (some 43) (Op.fieldAddr 43 (Operand.tmp 3) 2) 0 (v := ?_) rfl (by kernel_rfl) (fun _ _ _ h => h) ?_ hHeld ?_
    rotate_left
    · intro w hSw
      try dsimp only at hSw
      obtain ⟨_, _⟩ := hSw
      dsimp only [bare]
      go_simp <;> with_reducible rfl
    try simp only [bare, Act.put, List.setIfInBounds_toArray, List.set_cons_zero, List.set_cons_succ]
    refine wpAnyF_tk 5 (some 44) (Op.fieldAddr 30 (Operand.tmp 43) 6) 0 (v := ?_) rfl (by kernel_rfl) (fun _ _ _ h => h) ?_ hHeld ?_
    rotate_left
    · intro w hSw
      try dsimp only at hSw
      obtain ⟨_, _⟩ := hSw
      dsimp only [bare]
      go_simp <;> with_reducible rfl
    try simp only [bare, Act.put, List.setIfInBounds_toArray, List.set_cons_zero, List.set_cons_succ]
    refine wpAnyF_tk 6 (some 45) (Op.load 28 (Operand.tmp 44)) 28 (v := ?_) rfl (by kernel_rfl) (fun _ _ _ h => h) ?_ hHeld ?_
    rotate_left
    · intro w hSw
      try dsimp only at hSw
      obtain ⟨_, _⟩ := hSw
      dsimp only [bare]
      go_simp <;> with_reducible rfl
    try simp only [bare, Act.put, List.setIfInBounds_toArray, List.set_cons_zero, List.set_cons_succ]
    refine wpAnyF_one 7 (some 46) (Op.call { callee := Callee.builtin Builtin.append, args := #[Operand.tmp 42, Operand.tmp 45], argTypes := #[28, 28] }) 28 rfl (by kernel_rfl) (fun K hK => ?_)
    obtain ⟨Wd, hWd⟩ : ∃ z, z = W3.drew := ⟨_, rfl⟩
    have bE : Below W3.heap.size W3 Wd := by rw [hWd]; exact below_drew _ _
    have hxl := Hx.out.log.ext (bW.trans (bE.mono bW.size))
    have hownd := hown.ext bE
    rw [← hWd]
    clear hWd
    refine step_appX (E := etyE) (s := .tmp 42) (y := .tmp 45) (B := W1.heap.size) (l := h.log.take kN) (m := x.h.log) tEty rfl rfl hownd (by simp [Act.eval, Act.put]) hxl (by simp [Act.eval, Act.put, AskL.vh]) (by have := Hx.out.few; simp [maxLen]; omega) (by have := Hx.out.few; simp; omega) (by have := bE.size; omega) ?_
    intro v6 w6 own6 g6 b6
    obtain ⟨L, hL⟩ : ∃ L, L = h.log.take kN ++ x.h.log := ⟨_, rfl⟩
    rw [← hL] at own6
    have HL := Lib.hid hL
    clear hL
    obtain ⟨p6, q6, rfl⟩ := own6.rd.shape
    have hob : ∀ k, (Value.slice p2 kN q2).ownBlock = some k → W1.heap.size ≤ k := fun k hk => (hownd.lt k hk).1
    have hob3 : ∀ c, c < W1.heap.size → (Value.slice p2 kN q2).ownBlock ≠ some c := fun c hc e => by have := hob c e; omega
    have hlN : s < W1.heap.size ∧ c1 < W1.heap.size ∧ c2 < W1.heap.size ∧ c3 < W1.heap.size := by have := HN.out; omega
    have nG := (mG.ext bE).grown g6 (hob3 _ hlN.2.2.2)
    have nA := (mA.ext bE).grown g6 (hob3 _ hlN.2.1)
    have nH := (mH.ext bE).grown g6 (hob3 _ hlN.1)
    have nZ := (mZ.ext bE).grown g6 (hob3 _ hlN.2.2.1)
    refine hK _ _ ⟨nG.cell 6 _ rfl, nA.cell 8 _ rfl⟩ (fun hHeld => ?_)
    clear hK K
    try simp only [bare, Act.put, List.setIfInBounds_toArray, List.set_cons_zero, List.set_cons_succ]
    refine wpAnyF_tk 8 (some 47) (Op.fieldAddr 30 (Operand.tmp 5) 6) 0 (v := ?_) rfl (by kernel_rfl) (fun _ _ _ h => h) ?_ hHeld ?_
    rotate_left
    · intro w hSw
      try dsimp only at hSw
      obtain ⟨_, _⟩ := hSw
      dsimp only [bare]
      go_simp <;> with_reducible rfl
    try simp only [bare, Act.put, List.setIfInBounds_toArray, List.set_cons_zero, List.set_cons_succ]
    have f9 := nG.frozen 6
    refine wpAnyF_end (none) (Op.store 28 (Operand.tmp 47) (Operand.tmp 46)) 0 rfl (by kernel_rfl) (by kernel_rfl) (fun K hK => ?_)
    dsimp only [bare]; go_simp
    refine hK _ _ ?_
    clear hK K
    try simp only [bare, Act.put, List.setIfInBounds_toArray, List.set_cons_zero, List.set_cons_succ]
    have hne : ∀ k, (Value.slice p6 L.length q6).ownBlock = some k → k ≠ c3 := fun k hk e => by have := (own6.lt k hk).1; omega
    have ch := chg_cell c3 6 (.slice p6 L.length q6) w6
    have b6W : Below w.heap.size w (w6.setCell ⟨c3, 6, none⟩ (.slice p6 L.length q6)) := ((bW.trans (bE.mono bW.size)).trans (b6.mono hcs.2.2.2.2)).setCell (p := ⟨c3, 6, none⟩) hcs.2.2.2.1 _
    have kH := ch.blk nH (fun e => hcs.1 e.symm)
    have kZ := ch.blk nZ (fun e => hcs.2.2.1 e.symm)
    have kG : Blk (w6.setCell ⟨c3, 6, none⟩ (.slice p6 L.length q6)) c3 #[.int .i64 x.h.term, .int .i64 x.h.vote, .int .i64 h.base, .int .i64 h.bterm, .int .i64 h.members, .string h.snap, .slice p6 L.length q6] 30 := nG.set 6 (.slice p6 L.length q6)
    have ownW := ch.ownR own6 (fun k hk e => hne k hk e)
    clear own6 nG nA nH nZ g6 b6 ch f9 hHeld mH mA mZ mG own hown hownd hxl bE bW yA1 yA8 yG6 hsl hob hob3
    generalize w6.setCell ⟨c3, 6, none⟩ (.slice p6 L.length q6) = W6 at *
    have hG : nextG h x = (⟨x.h.term, x.h.vote, h.base, h.bterm, h.members, h.snap, L⟩ : Hrd) := by rw [HnG.out, HL.out]; rfl
    have HG := Lib.hid hG
    have hR := refRight (⟨x.h.term, x.h.vote, h.base, h.bterm, h.members, h.snap, L⟩ : Hrd) (.slice p6 L.length q6) W6 ownW.rd
    have hdL : ∀ y ∈ L, y.data.size ≤ 281474976710656 := fun y hy => by
      rw [HL.out] at hy
      rcases List.mem_append.1 hy with hy | hy
      · exact Hd.out y (List.mem_of_mem_take hy)
      · exact Nat.le_trans (Hx.out.data y hy) (by decide)
    have hS := fun (w7 : World) (b7 : Below W6.heap.size W6 w7) => refSmall (⟨x.h.term, x.h.vote, h.base, h.bterm, h.members, h.snap, L⟩ : Hrd) (.slice p6 L.length q6) w7 (ownW.rd.ext b7) Hs.out hdL
    have yG0 := kG.cell 0 _ rfl
    have yG1 := kG.cell 1 _ rfl
    have yG2 := kG.cell 2 _ rfl
    have yG3 := kG.cell 3 _ rfl
    have yG4 := kG.cell 4 _ rfl
    have yG5 := kG.cell 5 _ rfl
    have yG6 := kG.cell 6 _ rfl
    clear hG hdL
    cases hr : rightH (⟨x.h.term, x.h.vote, h.base, h.bterm, h.members, h.snap, L⟩ : Hrd) with
    | false =>
      have hres : nextL h x = h := by
        rw [Hnx.out, if_neg]
        rintro ⟨e, _⟩
        rw [HG.out, hr] at e
        cases e
      rw [hr] at hR
      clear hr
      go_upto_region 8 with (first | (go_at_call 35; refine hR.mono ?_; rintro e w7 ⟨rfl, b7⟩) | fail)
      have kH7 := kH.ext b7
      have kZ7 := kZ.ext b7
      have b0 := b6W.trans (b7.mono b6W.size)
      clear kH kZ kG yG0 yG1 yG2 yG3 yG4 yG5 yG6 hR hS ownW
      have u0 := kH7.cell 0 _ rfl
      have v0 := kZ7.frozen 0
      have zq0 := kZ7.cell 0 _ rfl
      have u1 := kH7.cell 1 _ rfl
      have v1 := kZ7.frozen 1
      have zq1 := kZ7.cell 1 _ rfl
      have u2 := kH7.cell 2 _ rfl
      have v2 := kZ7.frozen 2
      have zq2 := kZ7.cell 2 _ rfl
      have u3 := kH7.cell 3 _ rfl
      have v3 := kZ7.frozen 3
      have zq3 := kZ7.cell 3 _ rfl
      have u4 := kH7.cell 4 _ rfl
      have v4 := kZ7.frozen 4
      have zq4 := kZ7.cell 4 _ rfl
      have u5 := kH7.cell 5 _ rfl
      have v5 := kZ7.frozen 5
      have zq5 := kZ7.cell 5 _ rfl
      have u6 := kH7.cell 6 _ rfl
      have v6 := kZ7.frozen 6
      have zq6 := kZ7.cell 6 _ rfl
      go_wp2
      obtain ⟨kR, cR⟩ := blk7 kZ7 (.int .i64 h.term) (.int .i64 h.vote) (.int .i64 h.base) (.int .i64 h.bterm) (.int .i64 h.members) (.string h.snap) (.slice p h.log.length cap)
      have r0 := kR.cell 0 _ rfl
      have r1 := kR.cell 1 _ rfl
      have r2 := kR.cell 2 _ rfl
      have r3 := kR.cell 3 _ rfl
      have r4 := kR.cell 4 _ rfl
      have r5 := kR.cell 5 _ rfl
      have r6 := kR.cell 6 _ rfl
      refine bodyPost_ret (v := hrdA h (.slice p h.log.length cap)) (by simp [results, Tryd.results14, go_sem, r0, r1, r2, r3, r4, r5, r6]) rfl ?_
      have bF := b0.trans (cR.below (B := w.heap.size) (fun k hk => by rw [hk]; have := HN.out; omega) b0.size)
      exact ⟨_, by rw [hres], by rw [hres]; exact hu.ext bF, .inl ⟨rfl, hres⟩, bF⟩| true =>
      rw [hr] at hR
      cases hsm : smallH (⟨x.h.term, x.h.vote, h.base, h.bterm, h.members, h.snap, L⟩ : Hrd) with
      | false =>
        have hres : nextL h x = h := by
          rw [Hnx.out, if_neg]
          rintro ⟨_, e⟩
          rw [HG.out, hsm] at e
          cases e
        clear hr
        go_upto_region 8 with (first | (go_at_call 35; refine hR.mono ?_; rintro e w7 ⟨rfl, b7⟩; have kG7 := kG.ext b7; have x0 := kG7.cell 0 _ rfl; have x1 := kG7.cell 1 _ rfl; have x2 := kG7.cell 2 _ rfl; have x3 := kG7.cell 3 _ rfl; have x4 := kG7.cell 4 _ rfl; have x5 := kG7.cell 5 _ rfl; have x6 := kG7.cell 6 _ rfl) | (go_at_call 36; refine (hS w7 b7).mono ?_; rw [hsm]; rintro e w8 ⟨rfl, b8⟩; have b7 := b7.trans (b8.mono b7.size)) | fail)
        have kH7 := kH.ext b7
        have kZ7 := kZ.ext b7
        have b0 := b6W.trans (b7.mono b6W.size)
        clear kH kZ kG yG0 yG1 yG2 yG3 yG4 yG5 yG6 hR hS ownW
        have u0 := kH7.cell 0 _ rfl
        have v0 := kZ7.frozen 0
        have zq0 := kZ7.cell 0 _ rfl
        have u1 := kH7.cell 1 _ rfl
        have v1 := kZ7.frozen 1
        have zq1 := kZ7.cell 1 _ rfl
        have u2 := kH7.cell 2 _ rfl
        have v2 := kZ7.frozen 2
        have zq2 := kZ7.cell 2 _ rfl
        have u3 := kH7.cell 3 _ rfl
        have v3 := kZ7.frozen 3
        have zq3 := kZ7.cell 3 _ rfl
        have u4 := kH7.cell 4 _ rfl
        have v4 := kZ7.frozen 4
        have zq4 := kZ7.cell 4 _ rfl
        have u5 := kH7.cell 5 _ rfl
        have v5 := kZ7.frozen 5
        have zq5 := kZ7.cell 5 _ rfl
        have u6 := kH7.cell 6 _ rfl
        have v6 := kZ7.frozen 6
        have zq6 := kZ7.cell 6 _ rfl
        go_wp2
        obtain ⟨kR, cR⟩ := blk7 kZ7 (.int .i64 h.term) (.int .i64 h.vote) (.int .i64 h.base) (.int .i64 h.bterm) (.int .i64 h.members) (.string h.snap) (.slice p h.log.length cap)
        have r0 := kR.cell 0 _ rfl
        have r1 := kR.cell 1 _ rfl
        have r2 := kR.cell 2 _ rfl
        have r3 := kR.cell 3 _ rfl
        have r4 := kR.cell 4 _ rfl
        have r5 := kR.cell 5 _ rfl
        have r6 := kR.cell 6 _ rfl
        refine bodyPost_ret (v := hrdA h (.slice p h.log.length cap)) (by simp [results, Tryd.results14, go_sem, r0, r1, r2, r3, r4, r5, r6]) rfl ?_
        have bF := b0.trans (cR.below (B := w.heap.size) (fun k hk => by rw [hk]; have := HN.out; omega) b0.size)
        exact ⟨_, by rw [hres], by rw [hres]; exact hu.ext bF, .inl ⟨rfl, hres⟩, bF⟩  | true =>
        have hres : nextL h x = (⟨x.h.term, x.h.vote, h.base, h.bterm, h.members, h.snap, L⟩ : Hrd) := by rw [Hnx.out, if_pos ⟨by rw [HG.out]; exact hr, by rw [HG.out]; exact hsm⟩, HG.out]
        clear hr
        go_upto_region 9 with (first | (go_at_call 35; refine hR.mono ?_; rintro e w7 ⟨rfl, b7⟩; have kG7 := kG.ext b7; have x0 := kG7.cell 0 _ rfl; have x1 := kG7.cell 1 _ rfl; have x2 := kG7.cell 2 _ rfl; have x3 := kG7.cell 3 _ rfl; have x4 := kG7.cell 4 _ rfl; have x5 := kG7.cell 5 _ rfl; have x6 := kG7.cell 6 _ rfl) | (go_at_call 36; refine (hS w7 b7).mono ?_; rw [hsm]; rintro e w8 ⟨rfl, b8⟩; have b7 := b7.trans (b8.mono b7.size)) | fail)
        have kG8 := kG.ext b7
        have kZ7 := kZ.ext b7
        have b0 := b6W.trans (b7.mono b6W.size)
        have own8 := ownW.ext b7
        clear kH kZ kG yG0 yG1 yG2 yG3 yG4 yG5 yG6 hR hS ownW x0 x1 x2 x3 x4 x5 x6 kG7
        have u0 := kG8.cell 0 _ rfl
        have v0 := kZ7.frozen 0
        have zq0 := kZ7.cell 0 _ rfl
        have u1 := kG8.cell 1 _ rfl
        have v1 := kZ7.frozen 1
        have zq1 := kZ7.cell 1 _ rfl
        have u2 := kG8.cell 2 _ rfl
        have v2 := kZ7.frozen 2
        have zq2 := kZ7.cell 2 _ rfl
        have u3 := kG8.cell 3 _ rfl
        have v3 := kZ7.frozen 3
        have zq3 := kZ7.cell 3 _ rfl
        have u4 := kG8.cell 4 _ rfl
        have v4 := kZ7.frozen 4
        have zq4 := kZ7.cell 4 _ rfl
        have u5 := kG8.cell 5 _ rfl
        have v5 := kZ7.frozen 5
        have zq5 := kZ7.cell 5 _ rfl
        have u6 := kG8.cell 6 _ rfl
        have v6 := kZ7.frozen 6
        have zq6 := kZ7.cell 6 _ rfl
        go_wp2
        obtain ⟨kR, cR⟩ := blk7 kZ7 (.int .i64 x.h.term) (.int .i64 x.h.vote) (.int .i64 h.base) (.int .i64 h.bterm) (.int .i64 h.members) (.string h.snap) (.slice p6 L.length q6)
        have r0 := kR.cell 0 _ rfl
        have r1 := kR.cell 1 _ rfl
        have r2 := kR.cell 2 _ rfl
        have r3 := kR.cell 3 _ rfl
        have r4 := kR.cell 4 _ rfl
        have r5 := kR.cell 5 _ rfl
        have r6 := kR.cell 6 _ rfl
        refine bodyPost_ret (v := hrdA (⟨x.h.term, x.h.vote, h.base, h.bterm, h.members, h.snap, L⟩ : Hrd) (.slice p6 L.length q6)) (by simp [results, Tryd.results14, go_sem, r0, r1, r2, r3, r4, r5, r6]) rfl ?_
        have bF := b0.trans (cR.below (B := w.heap.size) (fun k hk => by rw [hk]; have := HN.out; omega) b0.size)
        have ownF := cR.ownR own8 (fun k hk e => by have := (own8.lt k hk).1; rw [e] at this; omega)
        exact ⟨_, by rw [hres], by rw [hres]; exact ownF.rd, .inr (fun k hk => by have := own8.lt k hk; have := cR.size; exact ⟨by omega, by omega⟩), bF⟩
  · skip
    have Hd24 := Lib.hid d24
    clear d24
    by_cases d1 : h.term < x.h.term
    · have d2 : ¬ x.h.term ≤ 1099511627776 := fun d2 => by have := Hd24.out; rw [decide_eq_true d1, decide_eq_true d2] at this; cases this
      clear Hd24
      have yA1 := mA.cell 1 _ rfl
      have yA8 := mA.cell 8 _ rfl
      have yG6 := mG.cell 6 _ rfl
      go_upto_region 6 with (first | (go_at_call 18; refine (withinCalls x.n 0 (h.log.length : Int) _ (by decide) (by omega) (by omega)).mono ?_; rintro e w' ⟨rfl, rfl⟩; rw [HkE.out]) | fail)
      obtain ⟨pc, cc, hv, hsub, hown⟩ := cutE own hkN
      simp only [Value.slice.injEq, true_and] at hv
      obtain ⟨rfl, rfl⟩ := hv
      have hsl := run_sub_to tEty (P := Tryd.prog) own.rd .i64 (kN : Int) kN rfl hkN
      rw [hsub] at hsl
      clear hsub
      refine wp_region_F (n := 9) (S := fun w' : World => w'.cell? ⟨c3, 6, none⟩ = some (.slice p2 h.log.length q2) ∧ w'.cell? ⟨c1, 8, none⟩ = some (.slice x.hp x.h.log.length x.hc)) (by kernel_rfl) ?_
      have hHeld : (fun w' : World => w'.cell? ⟨c3, 6, none⟩ = some (.slice p2 h.log.length q2) ∧ w'.cell? ⟨c1, 8, none⟩ = some (.slice x.hp x.h.log.length x.hc)) W2.drew := ⟨yG6, yA8⟩
      refine wpAnyF_tk 0 (some 39) (Op.fieldAddr 30 (Operand.tmp 5) 6) 0 (v := ?_) rfl (by kernel_rfl) (fun _ _ _ h => h) ?_ hHeld ?_
      rotate_left
      · intro w hSw
        try dsimp only at hSw
        obtain ⟨_, _⟩ := hSw
        dsimp only [bare]
        go_simp <;> with_reducible rfl
      try simp only [bare, Act.put, List.setIfInBounds_toArray, List.set_cons_zero, List.set_cons_succ]
      refine wpAnyF_tk 1 (some 40) (Op.load 28 (Operand.tmp 39)) 28 (v := ?_) rfl (by kernel_rfl) (fun _ _ _ h => h) ?_ hHeld ?_
      rotate_left
      · intro w hSw
        try dsimp only at hSw
        obtain ⟨_, _⟩ := hSw
        dsimp only [bare]
        go_simp <;> with_reducible rfl
      try simp only [bare, Act.put, List.setIfInBounds_toArray, List.set_cons_zero, List.set_cons_succ]
      refine wpAnyF_tk 2 (some 41) (Op.move (Operand.tmp 6)) 3 (v := ?_) rfl (by kernel_rfl) (fun _ _ _ h => h) ?_ hHeld ?_
      rotate_left
      · intro w hSw
        try dsimp only at hSw
        obtain ⟨_, _⟩ := hSw
        dsimp only [bare]
        go_simp <;> with_reducible rfl
      try simp only [bare, Act.put, List.setIfInBounds_toArray, List.set_cons_zero, List.set_cons_succ]
      refine wpAnyF_tk 3 (some 42) (Op.slice 28 (Operand.tmp 40) none (some (Operand.tmp 41)) none) 28 (v := ?_) rfl (by kernel_rfl) (fun _ _ _ h => h) ?_ hHeld ?_
      rotate_left
      · intro w hSw
        try dsimp only at hSw
        obtain ⟨_, _⟩ := hSw
        dsimp only [bare]
        go_simp <;> with_reducible rfl
      try simp only [bare, Act.put, List.setIfInBounds_toArray, List.set_cons_zero, List.set_cons_succ]
      refine wpAnyF_tk 4 (some 43) (Op.fieldAddr 43 (Operand.tmp 3) 2) 0 (v := ?_) rfl (by kernel_rfl) (fun _ _ _ h => h) ?_ hHeld ?_
      rotate_left
      · intro w hSw
        try dsimp only at hSw
        obtain ⟨_, _⟩ := hSw
        dsimp only [bare]
        go_simp <;> with_reducible rfl
      try simp only [bare, Act.put, List.setIfInBounds_toArray, List.set_cons_zero, List.set_cons_succ]
      refine wpAnyF_tk 5 (some 44) (Op.fieldAddr 30 (Operand.tmp 43) 6) 0 (v := ?_) rfl (by kernel_rfl) (fun _ _ _ h => h) ?_ hHeld ?_
      rotate_left
      · intro w hSw
        try dsimp only at hSw
        obtain ⟨_, _⟩ := hSw
        dsimp only [bare]
        go_simp <;> with_reducible rfl
      try simp only [bare, Act.put, List.setIfInBounds_toArray, List.set_cons_zero, List.set_cons_succ]
      refine wpAnyF_tk 6 (some 45) (Op.load 28 (Operand.tmp 44)) 28 (v := ?_) rfl (by kernel_rfl) (fun _ _ _ h => h) ?_ hHeld ?_
      rotate_left
      · intro w hSw
        try dsimp only at hSw
        obtain ⟨_, _⟩ := hSw
        dsimp only [bare]
        go_simp <;> with_reducible rfl
      try simp only [bare, Act.put, List.setIfInBounds_toArray, List.set_cons_zero, List.set_cons_succ]
      refine wpAnyF_one 7 (some 46) (Op.call { callee := Callee.builtin Builtin.append, args := #[Operand.tmp 42, Operand.tmp 45], argTypes := #[28, 28] }) 28 rfl (by kernel_rfl) (fun K hK => ?_)
      obtain ⟨Wd, hWd⟩ : ∃ z, z = W2.drew := ⟨_, rfl⟩
      have bE : Below W2.heap.size W2 Wd := by rw [hWd]; exact below_drew _ _
      have hxl := Hx.out.log.ext (bW.trans (bE.mono bW.size))
      have hownd := hown.ext bE
      rw [← hWd]
      clear hWd
      refine step_appX (E := etyE) (s := .tmp 42) (y := .tmp 45) (B := W1.heap.size) (l := h.log.take kN) (m := x.h.log) tEty rfl rfl hownd (by simp [Act.eval, Act.put]) hxl (by simp [Act.eval, Act.put, AskL.vh]) (by have := Hx.out.few; simp [maxLen]; omega) (by have := Hx.out.few; simp; omega) (by have := bE.size; omega) ?_
      intro v6 w6 own6 g6 b6
      obtain ⟨L, hL⟩ : ∃ L, L = h.log.take kN ++ x.h.log := ⟨_, rfl⟩
      rw [← hL] at own6
      have HL := Lib.hid hL
      clear hL
      obtain ⟨p6, q6, rfl⟩ := own6.rd.shape
      have hob : ∀ k, (Value.slice p2 kN q2).ownBlock = some k → W1.heap.size ≤ k := fun k hk => (hownd.lt k hk).1
      have hob3 : ∀ c, c < W1.heap.size → (Value.slice p2 kN q2).ownBlock ≠ some c := fun c hc e => by have := hob c e; omega
      have hlN : s < W1.heap.size ∧ c1 < W1.heap.size ∧ c2 < W1.heap.size ∧ c3 < W1.heap.size := by have := HN.out; omega
      have nG := (mG.ext bE).grown g6 (hob3 _ hlN.2.2.2)
      have nA := (mA.ext bE).grown g6 (hob3 _ hlN.2.1)
      have nH := (mH.ext bE).grown g6 (hob3 _ hlN.1)
      have nZ := (mZ.ext bE).grown g6 (hob3 _ hlN.2.2.1)
      refine hK _ _ ⟨nG.cell 6 _ rfl, nA.cell 8 _ rfl⟩ (fun hHeld => ?_)
      clear hK K
      try simp only [bare, Act.put, List.setIfInBounds_toArray, List.set_cons_zero, List.set_cons_succ]
      refine wpAnyF_tk 8 (some 47) (Op.fieldAddr 30 (Operand.tmp 5) 6) 0 (v := ?_) rfl (by kernel_rfl) (fun _ _ _ h => h) ?_ hHeld ?_
      rotate_left
      · intro w hSw
        try dsimp only at hSw
        obtain ⟨_, _⟩ := hSw
        dsimp only [bare]
        go_simp <;> with_reducible rfl
      try simp only [bare, Act.put, List.setIfInBounds_toArray, List.set_cons_zero, List.set_cons_succ]
      have f9 := nG.frozen 6
      refine wpAnyF_end (none) (Op.store 28 (Operand.tmp 47) (Operand.tmp 46)) 0 rfl (by kernel_rfl) (by kernel_rfl) (fun K hK => ?_)
      dsimp only [bare]; go_simp
      refine hK _ _ ?_
      clear hK K
      try simp only [bare, Act.put, List.setIfInBounds_toArray, List.set_cons_zero, List.set_cons_succ]
      have hne : ∀ k, (Value.slice p6 L.length q6).ownBlock = some k → k ≠ c3 := fun k hk e => by have := (own6.lt k hk).1; omega
      have ch := chg_cell c3 6 (.slice p6 L.length q6) w6
      have b6W : Below w.heap.size w (w6.setCell ⟨c3, 6, none⟩ (.slice p6 L.length q6)) := ((bW.trans (bE.mono bW.size)).trans (b6.mono hcs.2.2.2.2)).setCell (p := ⟨c3, 6, none⟩) hcs.2.2.2.1 _
      have kH := ch.blk nH (fun e => hcs.1 e.symm)
      have kZ := ch.blk nZ (fun e => hcs.2.2.1 e.symm)
      have kG : Blk (w6.setCell ⟨c3, 6, none⟩ (.slice p6 L.length q6)) c3 #[.int .i64 h.term, .int .i64 h.vote, .int .i64 h.base, .int .i64 h.bterm, .int .i64 h.members, .string h.snap, .slice p6 L.length q6] 30 := nG.set 6 (.slice p6 L.length q6)
      have ownW := ch.ownR own6 (fun k hk e => hne k hk e)
      clear own6 nG nA nH nZ g6 b6 ch f9 hHeld mH mA mZ mG own hown hownd hxl bE bW yA1 yA8 yG6 hsl hob hob3
      generalize w6.setCell ⟨c3, 6, none⟩ (.slice p6 L.length q6) = W6 at *
      have hG : nextG h x = (⟨h.term, h.vote, h.base, h.bterm, h.members, h.snap, L⟩ : Hrd) := by rw [HnG.out, HL.out]; rfl
      have HG := Lib.hid hG
      have hR := refRight (⟨h.term, h.vote, h.base, h.bterm, h.members, h.snap, L⟩ : Hrd) (.slice p6 L.length q6) W6 ownW.rd
      have hdL : ∀ y ∈ L, y.data.size ≤ 281474976710656 := fun y hy => by
        rw [HL.out] at hy
        rcases List.mem_append.1 hy with hy | hy
        · exact Hd.out y (List.mem_of_mem_take hy)
        · exact Nat.le_trans (Hx.out.data y hy) (by decide)
      have hS := fun (w7 : World) (b7 : Below W6.heap.size W6 w7) => refSmall (⟨h.term, h.vote, h.base, h.bterm, h.members, h.snap, L⟩ : Hrd) (.slice p6 L.length q6) w7 (ownW.rd.ext b7) Hs.out hdL
      have yG0 := kG.cell 0 _ rfl
      have yG1 := kG.cell 1 _ rfl
      have yG2 := kG.cell 2 _ rfl
      have yG3 := kG.cell 3 _ rfl
      have yG4 := kG.cell 4 _ rfl
      have yG5 := kG.cell 5 _ rfl
      have yG6 := kG.cell 6 _ rfl
      clear hG hdL
      cases hr : rightH (⟨h.term, h.vote, h.base, h.bterm, h.members, h.snap, L⟩ : Hrd) with
      | false =>
        have hres : nextL h x = h := by
          rw [Hnx.out, if_neg]
          rintro ⟨e, _⟩
          rw [HG.out, hr] at e
          cases e
        rw [hr] at hR
        clear hr
        go_upto_region 8 with (first | (go_at_call 35; refine hR.mono ?_; rintro e w7 ⟨rfl, b7⟩) | fail)
        have kH7 := kH.ext b7
        have kZ7 := kZ.ext b7
        have b0 := b6W.trans (b7.mono b6W.size)
        clear kH kZ kG yG0 yG1 yG2 yG3 yG4 yG5 yG6 hR hS ownW
        have u0 := kH7.cell 0 _ rfl
        have v0 := kZ7.frozen 0
        have zq0 := kZ7.cell 0 _ rfl
        have u1 := kH7.cell 1 _ rfl
        have v1 := kZ7.frozen 1
        have zq1 := kZ7.cell 1 _ rfl
        have u2 := kH7.cell 2 _ rfl
        have v2 := kZ7.frozen 2
        have zq2 := kZ7.cell 2 _ rfl
        have u3 := kH7.cell 3 _ rfl
        have v3 := kZ7.frozen 3
        have zq3 := kZ7.cell 3 _ rfl
        have u4 := kH7.cell 4 _ rfl
        have v4 := kZ7.frozen 4
        have zq4 := kZ7.cell 4 _ rfl
        have u5 := kH7.cell 5 _ rfl
        have v5 := kZ7.frozen 5
        have zq5 := kZ7.cell 5 _ rfl
        have u6 := kH7.cell 6 _ rfl
        have v6 := kZ7.frozen 6
        have zq6 := kZ7.cell 6 _ rfl
        go_wp2
        obtain ⟨kR, cR⟩ := blk7 kZ7 (.int .i64 h.term) (.int .i64 h.vote) (.int .i64 h.base) (.int .i64 h.bterm) (.int .i64 h.members) (.string h.snap) (.slice p h.log.length cap)
        have r0 := kR.cell 0 _ rfl
        have r1 := kR.cell 1 _ rfl
        have r2 := kR.cell 2 _ rfl
        have r3 := kR.cell 3 _ rfl
        have r4 := kR.cell 4 _ rfl
        have r5 := kR.cell 5 _ rfl
        have r6 := kR.cell 6 _ rfl
        refine bodyPost_ret (v := hrdA h (.slice p h.log.length cap)) (by simp [results, Tryd.results14, go_sem, r0, r1, r2, r3, r4, r5, r6]) rfl ?_
        have bF := b0.trans (cR.below (B := w.heap.size) (fun k hk => by rw [hk]; have := HN.out; omega) b0.size)
        exact ⟨_, by rw [hres], by rw [hres]; exact hu.ext bF, .inl ⟨rfl, hres⟩, bF⟩| true =>
        rw [hr] at hR
        cases hsm : smallH (⟨h.term, h.vote, h.base, h.bterm, h.members, h.snap, L⟩ : Hrd) with
        | false =>
          have hres : nextL h x = h := by
            rw [Hnx.out, if_neg]
            rintro ⟨_, e⟩
            rw [HG.out, hsm] at e
            cases e
          clear hr
          go_upto_region 8 with (first | (go_at_call 35; refine hR.mono ?_; rintro e w7 ⟨rfl, b7⟩; have kG7 := kG.ext b7; have x0 := kG7.cell 0 _ rfl; have x1 := kG7.cell 1 _ rfl; have x2 := kG7.cell 2 _ rfl; have x3 := kG7.cell 3 _ rfl; have x4 := kG7.cell 4 _ rfl; have x5 := kG7.cell 5 _ rfl; have x6 := kG7.cell 6 _ rfl) | (go_at_call 36; refine (hS w7 b7).mono ?_; rw [hsm]; rintro e w8 ⟨rfl, b8⟩; have b7 := b7.trans (b8.mono b7.size)) | fail)
          have kH7 := kH.ext b7
          have kZ7 := kZ.ext b7
          have b0 := b6W.trans (b7.mono b6W.size)
          clear kH kZ kG yG0 yG1 yG2 yG3 yG4 yG5 yG6 hR hS ownW
          have u0 := kH7.cell 0 _ rfl
          have v0 := kZ7.frozen 0
          have zq0 := kZ7.cell 0 _ rfl
          have u1 := kH7.cell 1 _ rfl
          have v1 := kZ7.frozen 1
          have zq1 := kZ7.cell 1 _ rfl
          have u2 := kH7.cell 2 _ rfl
          have v2 := kZ7.frozen 2
          have zq2 := kZ7.cell 2 _ rfl
          have u3 := kH7.cell 3 _ rfl
          have v3 := kZ7.frozen 3
          have zq3 := kZ7.cell 3 _ rfl
          have u4 := kH7.cell 4 _ rfl
          have v4 := kZ7.frozen 4
          have zq4 := kZ7.cell 4 _ rfl
          have u5 := kH7.cell 5 _ rfl
          have v5 := kZ7.frozen 5
          have zq5 := kZ7.cell 5 _ rfl
          have u6 := kH7.cell 6 _ rfl
          have v6 := kZ7.frozen 6
          have zq6 := kZ7.cell 6 _ rfl
          go_wp2
          obtain ⟨kR, cR⟩ := blk7 kZ7 (.int .i64 h.term) (.int .i64 h.vote) (.int .i64 h.base) (.int .i64 h.bterm) (.int .i64 h.members) (.string h.snap) (.slice p h.log.length cap)
          have r0 := kR.cell 0 _ rfl
          have r1 := kR.cell 1 _ rfl
          have r2 := kR.cell 2 _ rfl
          have r3 := kR.cell 3 _ rfl
          have r4 := kR.cell 4 _ rfl
          have r5 := kR.cell 5 _ rfl
          have r6 := kR.cell 6 _ rfl
          refine bodyPost_ret (v := hrdA h (.slice p h.log.length cap)) (by simp [results, Tryd.results14, go_sem, r0, r1, r2, r3, r4, r5, r6]) rfl ?_
          have bF := b0.trans (cR.below (B := w.heap.size) (fun k hk => by rw [hk]; have := HN.out; omega) b0.size)
          exact ⟨_, by rw [hres], by rw [hres]; exact hu.ext bF, .inl ⟨rfl, hres⟩, bF⟩  | true =>
          have hres : nextL h x = (⟨h.term, h.vote, h.base, h.bterm, h.members, h.snap, L⟩ : Hrd) := by rw [Hnx.out, if_pos ⟨by rw [HG.out]; exact hr, by rw [HG.out]; exact hsm⟩, HG.out]
          clear hr
          go_upto_region 9 with (first | (go_at_call 35; refine hR.mono ?_; rintro e w7 ⟨rfl, b7⟩; have kG7 := kG.ext b7; have x0 := kG7.cell 0 _ rfl; have x1 := kG7.cell 1 _ rfl; have x2 := kG7.cell 2 _ rfl; have x3 := kG7.cell 3 _ rfl; have x4 := kG7.cell 4 _ rfl; have x5 := kG7.cell 5 _ rfl; have x6 := kG7.cell 6 _ rfl) | (go_at_call 36; refine (hS w7 b7).mono ?_; rw [hsm]; rintro e w8 ⟨rfl, b8⟩; have b7 := b7.trans (b8.mono b7.size)) | fail)
          have kG8 := kG.ext b7
          have kZ7 := kZ.ext b7
          have b0 := b6W.trans (b7.mono b6W.size)
          have own8 := ownW.ext b7
          clear kH kZ kG yG0 yG1 yG2 yG3 yG4 yG5 yG6 hR hS ownW x0 x1 x2 x3 x4 x5 x6 kG7
          have u0 := kG8.cell 0 _ rfl
          have v0 := kZ7.frozen 0
          have zq0 := kZ7.cell 0 _ rfl
          have u1 := kG8.cell 1 _ rfl
          have v1 := kZ7.frozen 1
          have zq1 := kZ7.cell 1 _ rfl
          have u2 := kG8.cell 2 _ rfl
          have v2 := kZ7.frozen 2
          have zq2 := kZ7.cell 2 _ rfl
          have u3 := kG8.cell 3 _ rfl
          have v3 := kZ7.frozen 3
          have zq3 := kZ7.cell 3 _ rfl
          have u4 := kG8.cell 4 _ rfl
          have v4 := kZ7.frozen 4
          have zq4 := kZ7.cell 4 _ rfl
          have u5 := kG8.cell 5 _ rfl
          have v5 := kZ7.frozen 5
          have zq5 := kZ7.cell 5 _ rfl
          have u6 := kG8.cell 6 _ rfl
          have v6 := kZ7.frozen 6
          have zq6 := kZ7.cell 6 _ rfl
          go_wp2
          obtain ⟨kR, cR⟩ := blk7 kZ7 (.int .i64 h.term) (.int .i64 h.vote) (.int .i64 h.base) (.int .i64 h.bterm) (.int .i64 h.members) (.string h.snap) (.slice p6 L.length q6)
          have r0 := kR.cell 0 _ rfl
          have r1 := kR.cell 1 _ rfl
          have r2 := kR.cell 2 _ rfl
          have r3 := kR.cell 3 _ rfl
          have r4 := kR.cell 4 _ rfl
          have r5 := kR.cell 5 _ rfl
          have r6 := kR.cell 6 _ rfl
          refine bodyPost_ret (v := hrdA (⟨h.term, h.vote, h.base, h.bterm, h.members, h.snap, L⟩ : Hrd) (.slice p6 L.length q6)) (by simp [results, Tryd.results14, go_sem, r0, r1, r2, r3, r4, r5, r6]) rfl ?_
          have bF := b0.trans (cR.below (B := w.heap.size) (fun k hk => by rw [hk]; have := HN.out; omega) b0.size)
          have ownF := cR.ownR own8 (fun k hk e => by have := (own8.lt k hk).1; rw [e] at this; omega)
          exact ⟨_, by rw [hres], by rw [hres]; exact ownF.rd, .inr (fun k hk => by have := own8.lt k hk; have := cR.size; exact ⟨by omega, by omega⟩), bF⟩
    · clear Hd24
      have yA1 := mA.cell 1 _ rfl
      have yA8 := mA.cell 8 _ rfl
      have yG6 := mG.cell 6 _ rfl
      go_upto_region 6 with (first | (go_at_call 18; refine (withinCalls x.n 0 (h.log.length : Int) _ (by decide) (by omega) (by omega)).mono ?_; rintro e w' ⟨rfl, rfl⟩; rw [HkE.out]) | fail)
      obtain ⟨pc, cc, hv, hsub, hown⟩ := cutE own hkN
      simp only [Value.slice.injEq, true_and] at hv
      obtain ⟨rfl, rfl⟩ := hv
      have hsl := run_sub_to tEty (P := Tryd.prog) own.rd .i64 (kN : Int) kN rfl hkN
      rw [hsub] at hsl
      clear hsub
      refine wp_region_F (n := 9) (S := fun w' : World => w'.cell? ⟨c3, 6, none⟩ = some (.slice p2 h.log.length q2) ∧ w'.cell? ⟨c1, 8, none⟩ = some (.slice x.hp x.h.log.length x.hc)) (by kernel_rfl) ?_
      have hHeld : (fun w' : World => w'.cell? ⟨c3, 6, none⟩ = some (.slice p2 h.log.length q2) ∧ w'.cell? ⟨c1, 8, none⟩ = some (.slice x.hp x.h.log.length x.hc)) W2.drew := ⟨yG6, yA8⟩
      refine wpAnyF_tk 0 (some 39) (Op.fieldAddr 30 (Operand.tmp 5) 6) 0 (v := ?_) rfl (by kernel_rfl) (fun _ _ _ h => h) ?_ hHeld ?_
      rotate_left
      · intro w hSw
        try dsimp only at hSw
        obtain ⟨_, _⟩ := hSw
        dsimp only [bare]
        go_simp <;> with_reducible rfl
      try simp only [bare, Act.put, List.setIfInBounds_toArray, List.set_cons_zero, List.set_cons_succ]
      refine wpAnyF_tk 1 (some 40) (Op.load 28 (Operand.tmp 39)) 28 (v := ?_) rfl (by kernel_rfl) (fun _ _ _ h => h) ?_ hHeld ?_
      rotate_left
      · intro w hSw
        try dsimp only at hSw
        obtain ⟨_, _⟩ := hSw
        dsimp only [bare]
        go_simp <;> with_reducible rfl
      try simp only [bare, Act.put, List.setIfInBounds_toArray, List.set_cons_zero, List.set_cons_succ]
      refine wpAnyF_tk 2 (some 41) (Op.move (Operand.tmp 6)) 3 (v := ?_) rfl (by kernel_rfl) (fun _ _ _ h => h) ?_ hHeld ?_
      rotate_left
      · intro w hSw
        try dsimp only at hSw
        obtain ⟨_, _⟩ := hSw
        dsimp only [bare]
        go_simp <;> with_reducible rfl
      try simp only [bare, Act.put, List.setIfInBounds_toArray, List.set_cons_zero, List.set_cons_succ]
      refine wpAnyF_tk 3 (some 42) (Op.slice 28 (Operand.tmp 40) none (some (Operand.tmp 41)) none) 28 (v := ?_) rfl (by kernel_rfl) (fun _ _ _ h => h) ?_ hHeld ?_
      rotate_left
      · intro w hSw
        try dsimp only at hSw
        obtain ⟨_, _⟩ := hSw
        dsimp only [bare]
        go_simp <;> with_reducible rfl
      try simp only [bare, Act.put, List.setIfInBounds_toArray, List.set_cons_zero, List.set_cons_succ]
      refine wpAnyF_tk 4 (some 43) (Op.fieldAddr 43 (Operand.tmp 3) 2) 0 (v := ?_) rfl (by kernel_rfl) (fun _ _ _ h => h) ?_ hHeld ?_
      rotate_left
      · intro w hSw
        try dsimp only at hSw
        obtain ⟨_, _⟩ := hSw
        dsimp only [bare]
        go_simp <;> with_reducible rfl
      try simp only [bare, Act.put, List.setIfInBounds_toArray, List.set_cons_zero, List.set_cons_succ]
      refine wpAnyF_tk 5 (some 44) (Op.fieldAddr 30 (Operand.tmp 43) 6) 0 (v := ?_) rfl (by kernel_rfl) (fun _ _ _ h => h) ?_ hHeld ?_
      rotate_left
      · intro w hSw
        try dsimp only at hSw
        obtain ⟨_, _⟩ := hSw
        dsimp only [bare]
        go_simp <;> with_reducible rfl
      try simp only [bare, Act.put, List.setIfInBounds_toArray, List.set_cons_zero, List.set_cons_succ]
      refine wpAnyF_tk 6 (some 45) (Op.load 28 (Operand.tmp 44)) 28 (v := ?_) rfl (by kernel_rfl) (fun _ _ _ h => h) ?_ hHeld ?_
      rotate_left
      · intro w hSw
        try dsimp only at hSw
        obtain ⟨_, _⟩ := hSw
        dsimp only [bare]
        go_simp <;> with_reducible rfl
      try simp only [bare, Act.put, List.setIfInBounds_toArray, List.set_cons_zero, List.set_cons_succ]
      refine wpAnyF_one 7 (some 46) (Op.call { callee := Callee.builtin Builtin.append, args := #[Operand.tmp 42, Operand.tmp 45], argTypes := #[28, 28] }) 28 rfl (by kernel_rfl) (fun K hK => ?_)
      obtain ⟨Wd, hWd⟩ : ∃ z, z = W2.drew := ⟨_, rfl⟩
      have bE : Below W2.heap.size W2 Wd := by rw [hWd]; exact below_drew _ _
      have hxl := Hx.out.log.ext (bW.trans (bE.mono bW.size))
      have hownd := hown.ext bE
      rw [← hWd]
      clear hWd
      refine step_appX (E := etyE) (s := .tmp 42) (y := .tmp 45) (B := W1.heap.size) (l := h.log.take kN) (m := x.h.log) tEty rfl rfl hownd (by simp [Act.eval, Act.put]) hxl (by simp [Act.eval, Act.put, AskL.vh]) (by have := Hx.out.few; simp [maxLen]; omega) (by have := Hx.out.few; simp; omega) (by have := bE.size; omega) ?_
      intro v6 w6 own6 g6 b6
      obtain ⟨L, hL⟩ : ∃ L, L = h.log.take kN ++ x.h.log := ⟨_, rfl⟩
      rw [← hL] at own6
      have HL := Lib.hid hL
      clear hL
      obtain ⟨p6, q6, rfl⟩ := own6.rd.shape
      have hob : ∀ k, (Value.slice p2 kN q2).ownBlock = some k → W1.heap.size ≤ k := fun k hk => (hownd.lt k hk).1
      have hob3 : ∀ c, c < W1.heap.size → (Value.slice p2 kN q2).ownBlock ≠ some c := fun c hc e => by have := hob c e; omega
      have hlN : s < W1.heap.size ∧ c1 < W1.heap.size ∧ c2 < W1.heap.size ∧ c3 < W1.heap.size := by have := HN.out; omega
      have nG := (mG.ext bE).grown g6 (hob3 _ hlN.2.2.2)
      have nA := (mA.ext bE).grown g6 (hob3 _ hlN.2.1)
      have nH := (mH.ext bE).grown g6 (hob3 _ hlN.1)
      have nZ := (mZ.ext bE).grown g6 (hob3 _ hlN.2.2.1)
      refine hK _ _ ⟨nG.cell 6 _ rfl, nA.cell 8 _ rfl⟩ (fun hHeld => ?_)
      clear hK K
      try simp only [bare, Act.put, List.setIfInBounds_toArray, List.set_cons_zero, List.set_cons_succ]
      refine wpAnyF_tk 8 (some 47) (Op.fieldAddr 30 (Operand.tmp 5) 6) 0 (v := ?_) rfl (by kernel_rfl) (fun _ _ _ h => h) ?_ hHeld ?_
      rotate_left
      · intro w hSw
        try dsimp only at hSw
        obtain ⟨_, _⟩ := hSw
        dsimp only [bare]
        go_simp <;> with_reducible rfl
      try simp only [bare, Act.put, List.setIfInBounds_toArray, List.set_cons_zero, List.set_cons_succ]
      have f9 := nG.frozen 6
      refine wpAnyF_end (none) (Op.store 28 (Operand.tmp 47) (Operand.tmp 46)) 0 rfl (by kernel_rfl) (by kernel_rfl) (fun K hK => ?_)
      dsimp only [bare]; go_simp
      refine hK _ _ ?_
      clear hK K
      try simp only [bare, Act.put, List.setIfInBounds_toArray, List.set_cons_zero, List.set_cons_succ]
      have hne : ∀ k, (Value.slice p6 L.length q6).ownBlock = some k → k ≠ c3 := fun k hk e => by have := (own6.lt k hk).1; omega
      have ch := chg_cell c3 6 (.slice p6 L.length q6) w6
      have b6W : Below w.heap.size w (w6.setCell ⟨c3, 6, none⟩ (.slice p6 L.length q6)) := ((bW.trans (bE.mono bW.size)).trans (b6.mono hcs.2.2.2.2)).setCell (p := ⟨c3, 6, none⟩) hcs.2.2.2.1 _
      have kH := ch.blk nH (fun e => hcs.1 e.symm)
      have kZ := ch.blk nZ (fun e => hcs.2.2.1 e.symm)
      have kG : Blk (w6.setCell ⟨c3, 6, none⟩ (.slice p6 L.length q6)) c3 #[.int .i64 h.term, .int .i64 h.vote, .int .i64 h.base, .int .i64 h.bterm, .int .i64 h.members, .string h.snap, .slice p6 L.length q6] 30 := nG.set 6 (.slice p6 L.length q6)
      have ownW := ch.ownR own6 (fun k hk e => hne k hk e)
      clear own6 nG nA nH nZ g6 b6 ch f9 hHeld mH mA mZ mG own hown hownd hxl bE bW yA1 yA8 yG6 hsl hob hob3
      generalize w6.setCell ⟨c3, 6, none⟩ (.slice p6 L.length q6) = W6 at *
      have hG : nextG h x = (⟨h.term, h.vote, h.base, h.bterm, h.members, h.snap, L⟩ : Hrd) := by rw [HnG.out, HL.out]; rfl
      have HG := Lib.hid hG
      have hR := refRight (⟨h.term, h.vote, h.base, h.bterm, h.members, h.snap, L⟩ : Hrd) (.slice p6 L.length q6) W6 ownW.rd
      have hdL : ∀ y ∈ L, y.data.size ≤ 281474976710656 := fun y hy => by
        rw [HL.out] at hy
        rcases List.mem_append.1 hy with hy | hy
        · exact Hd.out y (List.mem_of_mem_take hy)
        · exact Nat.le_trans (Hx.out.data y hy) (by decide)
      have hS := fun (w7 : World) (b7 : Below W6.heap.size W6 w7) => refSmall (⟨h.term, h.vote, h.base, h.bterm, h.members, h.snap, L⟩ : Hrd) (.slice p6 L.length q6) w7 (ownW.rd.ext b7) Hs.out hdL
      have yG0 := kG.cell 0 _ rfl
      have yG1 := kG.cell 1 _ rfl
      have yG2 := kG.cell 2 _ rfl
      have yG3 := kG.cell 3 _ rfl
      have yG4 := kG.cell 4 _ rfl
      have yG5 := kG.cell 5 _ rfl
      have yG6 := kG.cell 6 _ rfl
      clear hG hdL
      cases hr : rightH (⟨h.term, h.vote, h.base, h.bterm, h.members, h.snap, L⟩ : Hrd) with
      | false =>
        have hres : nextL h x = h := by
          rw [Hnx.out, if_neg]
          rintro ⟨e, _⟩
          rw [HG.out, hr] at e
          cases e
        rw [hr] at hR
        clear hr
        go_upto_region 8 with (first | (go_at_call 35; refine hR.mono ?_; rintro e w7 ⟨rfl, b7⟩) | fail)
        have kH7 := kH.ext b7
        have kZ7 := kZ.ext b7
        have b0 := b6W.trans (b7.mono b6W.size)
        clear kH kZ kG yG0 yG1 yG2 yG3 yG4 yG5 yG6 hR hS ownW
        have u0 := kH7.cell 0 _ rfl
        have v0 := kZ7.frozen 0
        have zq0 := kZ7.cell 0 _ rfl
        have u1 := kH7.cell 1 _ rfl
        have v1 := kZ7.frozen 1
        have zq1 := kZ7.cell 1 _ rfl
        have u2 := kH7.cell 2 _ rfl
        have v2 := kZ7.frozen 2
        have zq2 := kZ7.cell 2 _ rfl
        have u3 := kH7.cell 3 _ rfl
        have v3 := kZ7.frozen 3
        have zq3 := kZ7.cell 3 _ rfl
        have u4 := kH7.cell 4 _ rfl
        have v4 := kZ7.frozen 4
        have zq4 := kZ7.cell 4 _ rfl
        have u5 := kH7.cell 5 _ rfl
        have v5 := kZ7.frozen 5
        have zq5 := kZ7.cell 5 _ rfl
        have u6 := kH7.cell 6 _ rfl
        have v6 := kZ7.frozen 6
        have zq6 := kZ7.cell 6 _ rfl
        go_wp2
        obtain ⟨kR, cR⟩ := blk7 kZ7 (.int .i64 h.term) (.int .i64 h.vote) (.int .i64 h.base) (.int .i64 h.bterm) (.int .i64 h.members) (.string h.snap) (.slice p h.log.length cap)
        have r0 := kR.cell 0 _ rfl
        have r1 := kR.cell 1 _ rfl
        have r2 := kR.cell 2 _ rfl
        have r3 := kR.cell 3 _ rfl
        have r4 := kR.cell 4 _ rfl
        have r5 := kR.cell 5 _ rfl
        have r6 := kR.cell 6 _ rfl
        refine bodyPost_ret (v := hrdA h (.slice p h.log.length cap)) (by simp [results, Tryd.results14, go_sem, r0, r1, r2, r3, r4, r5, r6]) rfl ?_
        have bF := b0.trans (cR.below (B := w.heap.size) (fun k hk => by rw [hk]; have := HN.out; omega) b0.size)
        exact ⟨_, by rw [hres], by rw [hres]; exact hu.ext bF, .inl ⟨rfl, hres⟩, bF⟩| true =>
        rw [hr] at hR
        cases hsm : smallH (⟨h.term, h.vote, h.base, h.bterm, h.members, h.snap, L⟩ : Hrd) with
        | false =>
          have hres : nextL h x = h := by
            rw [Hnx.out, if_neg]
            rintro ⟨_, e⟩
            rw [HG.out, hsm] at e
            cases e
          clear hr
          go_upto_region 8 with (first | (go_at_call 35; refine hR.mono ?_; rintro e w7 ⟨rfl, b7⟩; have kG7 := kG.ext b7; have x0 := kG7.cell 0 _ rfl; have x1 := kG7.cell 1 _ rfl; have x2 := kG7.cell 2 _ rfl; have x3 := kG7.cell 3 _ rfl; have x4 := kG7.cell 4 _ rfl; have x5 := kG7.cell 5 _ rfl; have x6 := kG7.cell 6 _ rfl) | (go_at_call 36; refine (hS w7 b7).mono ?_; rw [hsm]; rintro e w8 ⟨rfl, b8⟩; have b7 := b7.trans (b8.mono b7.size)) | fail)
          have kH7 := kH.ext b7
          have kZ7 := kZ.ext b7
          have b0 := b6W.trans (b7.mono b6W.size)
          clear kH kZ kG yG0 yG1 yG2 yG3 yG4 yG5 yG6 hR hS ownW
          have u0 := kH7.cell 0 _ rfl
          have v0 := kZ7.frozen 0
          have zq0 := kZ7.cell 0 _ rfl
          have u1 := kH7.cell 1 _ rfl
          have v1 := kZ7.frozen 1
          have zq1 := kZ7.cell 1 _ rfl
          have u2 := kH7.cell 2 _ rfl
          have v2 := kZ7.frozen 2
          have zq2 := kZ7.cell 2 _ rfl
          have u3 := kH7.cell 3 _ rfl
          have v3 := kZ7.frozen 3
          have zq3 := kZ7.cell 3 _ rfl
          have u4 := kH7.cell 4 _ rfl
          have v4 := kZ7.frozen 4
          have zq4 := kZ7.cell 4 _ rfl
          have u5 := kH7.cell 5 _ rfl
          have v5 := kZ7.frozen 5
          have zq5 := kZ7.cell 5 _ rfl
          have u6 := kH7.cell 6 _ rfl
          have v6 := kZ7.frozen 6
          have zq6 := kZ7.cell 6 _ rfl
          go_wp2
          obtain ⟨kR, cR⟩ := blk7 kZ7 (.int .i64 h.term) (.int .i64 h.vote) (.int .i64 h.base) (.int .i64 h.bterm) (.int .i64 h.members) (.string h.snap) (.slice p h.log.length cap)
          have r0 := kR.cell 0 _ rfl
          have r1 := kR.cell 1 _ rfl
          have r2 := kR.cell 2 _ rfl
          have r3 := kR.cell 3 _ rfl
          have r4 := kR.cell 4 _ rfl
          have r5 := kR.cell 5 _ rfl
          have r6 := kR.cell 6 _ rfl
          refine bodyPost_ret (v := hrdA h (.slice p h.log.length cap)) (by simp [results, Tryd.results14, go_sem, r0, r1, r2, r3, r4, r5, r6]) rfl ?_
          have bF := b0.trans (cR.below (B := w.heap.size) (fun k hk => by rw [hk]; have := HN.out; omega) b0.size)
          exact ⟨_, by rw [hres], by rw [hres]; exact hu.ext bF, .inl ⟨rfl, hres⟩, bF⟩  | true =>
          have hres : nextL h x = (⟨h.term, h.vote, h.base, h.bterm, h.members, h.snap, L⟩ : Hrd) := by rw [Hnx.out, if_pos ⟨by rw [HG.out]; exact hr, by rw [HG.out]; exact hsm⟩, HG.out]
          clear hr
          go_upto_region 9 with (first | (go_at_call 35; refine hR.mono ?_; rintro e w7 ⟨rfl, b7⟩; have kG7 := kG.ext b7; have x0 := kG7.cell 0 _ rfl; have x1 := kG7.cell 1 _ rfl; have x2 := kG7.cell 2 _ rfl; have x3 := kG7.cell 3 _ rfl; have x4 := kG7.cell 4 _ rfl; have x5 := kG7.cell 5 _ rfl; have x6 := kG7.cell 6 _ rfl) | (go_at_call 36; refine (hS w7 b7).mono ?_; rw [hsm]; rintro e w8 ⟨rfl, b8⟩; have b7 := b7.trans (b8.mono b7.size)) | fail)
          have kG8 := kG.ext b7
          have kZ7 := kZ.ext b7
          have b0 := b6W.trans (b7.mono b6W.size)
          have own8 := ownW.ext b7
          clear kH kZ kG yG0 yG1 yG2 yG3 yG4 yG5 yG6 hR hS ownW x0 x1 x2 x3 x4 x5 x6 kG7
          have u0 := kG8.cell 0 _ rfl
          have v0 := kZ7.frozen 0
          have zq0 := kZ7.cell 0 _ rfl
          have u1 := kG8.cell 1 _ rfl
          have v1 := kZ7.frozen 1
          have zq1 := kZ7.cell 1 _ rfl
          have u2 := kG8.cell 2 _ rfl
          have v2 := kZ7.frozen 2
          have zq2 := kZ7.cell 2 _ rfl
          have u3 := kG8.cell 3 _ rfl
          have v3 := kZ7.frozen 3
          have zq3 := kZ7.cell 3 _ rfl
          have u4 := kG8.cell 4 _ rfl
          have v4 := kZ7.frozen 4
          have zq4 := kZ7.cell 4 _ rfl
          have u5 := kG8.cell 5 _ rfl
          have v5 := kZ7.frozen 5
          have zq5 := kZ7.cell 5 _ rfl
          have u6 := kG8.cell 6 _ rfl
          have v6 := kZ7.frozen 6
          have zq6 := kZ7.cell 6 _ rfl
          go_wp2
          obtain ⟨kR, cR⟩ := blk7 kZ7 (.int .i64 h.term) (.int .i64 h.vote) (.int .i64 h.base) (.int .i64 h.bterm) (.int .i64 h.members) (.string h.snap) (.slice p6 L.length q6)
          have r0 := kR.cell 0 _ rfl
          have r1 := kR.cell 1 _ rfl
          have r2 := kR.cell 2 _ rfl
          have r3 := kR.cell 3 _ rfl
          have r4 := kR.cell 4 _ rfl
          have r5 := kR.cell 5 _ rfl
          have r6 := kR.cell 6 _ rfl
          refine bodyPost_ret (v := hrdA (⟨h.term, h.vote, h.base, h.bterm, h.members, h.snap, L⟩ : Hrd) (.slice p6 L.length q6)) (by simp [results, Tryd.results14, go_sem, r0, r1, r2, r3, r4, r5, r6]) rfl ?_
          have bF := b0.trans (cR.below (B := w.heap.size) (fun k hk => by rw [hk]; have := HN.out; omega) b0.size)
          have ownF := cR.ownR own8 (fun k hk e => by have := (own8.lt k hk).1; rw [e] at this; omega)
          exact ⟨_, by rw [hres], by rw [hres]; exact ownF.rd, .inr (fun k hk => by have := own8.lt k hk; have := cR.size; exact ⟨by omega, by omega⟩), bF⟩
end Go.Proofs.YtgpgcnmnfnnkjaaDoor
end
