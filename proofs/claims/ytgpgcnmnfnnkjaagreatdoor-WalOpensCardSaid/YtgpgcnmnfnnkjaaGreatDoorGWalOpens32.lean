/- Walks of the document's log: a Hard, a reader and a Hard that grows side by side; begun. -/
import Derived.Test.YtgpgcnmnfnnkjaaGreatDoorGWalOpens31
import Derived.Test.YtgpgcnmnfnnkjaaGreatDoorGWalOpens29
import Derived.Test.YtgpgcnmnfnnkjaaGreatDoorGWalOpens30
import Derived.Test.YtgpgcnmnfnnkjaaGreatDoorGWalOpens27
set_option linter.unusedVariables false
set_option linter.unusedSimpArgs false
section
namespace Go.Proofs.YtgpgcnmnfnnkjaaGreatDoor
open Go Go.RowKit Go.PlainAid BigFrame
@[reducible] def hrdC (h : Hrd) (v : Value) : Array Value := #[.int .i64 h.term, .int .i64 h.vote, .int .i64 h.base, .int .i64 h.bterm, .int .i64 h.members, .string h.snap, v]
structure HdV (w : World) (g : Nat) (v : Value) (h : Hrd) : Prop where
 blk : Blk w g (hrdC h v) 24
 log : Rd etyE w v h.log
 off : v.ownBlock ≠ some g
section
variable {w w' : World} {g : Nat} {v v' : Value} {h x : Hrd}
theorem HdV.chg {G : Nat → Prop} (k : HdV w g v h) (hc : Chg G w w') (hg : ¬ G g) (hv : ∀ k, v.ownBlock = some k → ¬ G k) : HdV w' g v h := ⟨hc.blk k.blk hg, hc.cells k.log hv, k.off⟩
theorem HdV.ext (k : HdV w g v h) (hb : Below w.heap.size w w') : HdV w' g v h := k.chg (G := fun _ => False) (.of_below hb) id fun _ _ => id
theorem HdV.c (k : HdV w g v h) : w.cell? ⟨g, 0, none⟩ = some (.int .i64 h.term) ∧ w.cell? ⟨g, 1, none⟩ = some (.int .i64 h.vote) ∧ w.cell? ⟨g, 2, none⟩ = some (.int .i64 h.base) ∧ w.cell? ⟨g, 3, none⟩ = some (.int .i64 h.bterm) ∧ w.cell? ⟨g, 4, none⟩ = some (.int .i64 h.members) ∧ w.cell? ⟨g, 5, none⟩ = some (.string h.snap) ∧ w.cell? ⟨g, 6, none⟩ = some v :=
 ⟨k.blk.cell 0 _ rfl, k.blk.cell 1 _ rfl, k.blk.cell 2 _ rfl, k.blk.cell 3 _ rfl, k.blk.cell 4 _ rfl, k.blk.cell 5 _ rfl, k.blk.cell 6 _ rfl⟩
theorem hrdC_fill : (((((((hrdC h v).setIfInBounds 0 (.int .i64 x.term)).setIfInBounds 1 (.int .i64 x.vote)).setIfInBounds 2 (.int .i64 x.base)).setIfInBounds 3 (.int .i64 x.bterm)).setIfInBounds 4 (.int .i64 x.members)).setIfInBounds 5 (.string x.snap)).setIfInBounds 6 v' = hrdC x v' := by kernel_rfl
theorem HdV.fill (k : HdV w g v h) (hl : Rd etyE w v' x.log) (ho : v'.ownBlock ≠ some g) : HdV (((((((w.setCell ⟨g, 0, none⟩ (.int .i64 x.term)).setCell ⟨g, 1, none⟩ (.int .i64 x.vote)).setCell ⟨g, 2, none⟩ (.int .i64 x.base)).setCell ⟨g, 3, none⟩ (.int .i64 x.bterm)).setCell ⟨g, 4, none⟩ (.int .i64 x.members)).setCell ⟨g, 5, none⟩ (.string x.snap)).setCell ⟨g, 6, none⟩ v') g v' x ∧ Chg (fun k => k = g) w (((((((w.setCell ⟨g, 0, none⟩ (.int .i64 x.term)).setCell ⟨g, 1, none⟩ (.int .i64 x.vote)).setCell ⟨g, 2, none⟩ (.int .i64 x.base)).setCell ⟨g, 3, none⟩ (.int .i64 x.bterm)).setCell ⟨g, 4, none⟩ (.int .i64 x.members)).setCell ⟨g, 5, none⟩ (.string x.snap)).setCell ⟨g, 6, none⟩ v') := by
 have hc : Chg (fun k => k = g) w (((((((w.setCell ⟨g, 0, none⟩ (.int .i64 x.term)).setCell ⟨g, 1, none⟩ (.int .i64 x.vote)).setCell ⟨g, 2, none⟩ (.int .i64 x.base)).setCell ⟨g, 3, none⟩ (.int .i64 x.bterm)).setCell ⟨g, 4, none⟩ (.int .i64 x.members)).setCell ⟨g, 5, none⟩ (.string x.snap)).setCell ⟨g, 6, none⟩ v') := (((((((Chg.refl (fun k => k = g) w).setCell (p := ⟨g, 0, none⟩) rfl (.int .i64 x.term)).setCell (p := ⟨g, 1, none⟩) rfl (.int .i64 x.vote)).setCell (p := ⟨g, 2, none⟩) rfl (.int .i64 x.base)).setCell (p := ⟨g, 3, none⟩) rfl (.int .i64 x.bterm)).setCell (p := ⟨g, 4, none⟩) rfl (.int .i64 x.members)).setCell (p := ⟨g, 5, none⟩) rfl (.string x.snap)).setCell (p := ⟨g, 6, none⟩) rfl v'
 refine ⟨⟨?_, hc.cells hl (fun k hk e => ho (by rw [hk, e])), ho⟩, hc⟩
 rw [← hrdC_fill (v := v) (h := h)]
 exact (((((((k.blk.set 0 (.int .i64 x.term)).set 1 (.int .i64 x.vote)).set 2 (.int .i64 x.base)).set 3 (.int .i64 x.bterm)).set 4 (.int .i64 x.members)).set 5 (.string x.snap)).set 6 v')
end
structure TkD (w0 w : World) (gr gg : Nat) (vr v2 : Value) (r : Rdr) (cs : Array Value) (l2 : List Ety) : Prop where
 rdr : RkAt w gr vr r
 blk : Blk w gg cs 24
 own : OwnR etyE w w0.heap.size 73 v2 l2
 n1 : gr ≠ gg
 n2 : vr.ownBlock ≠ some gg
 n3 : v2.ownBlock ≠ some gr
 n4 : v2.ownBlock ≠ some gg
 n5 : ∀ k, vr.ownBlock = some k → v2.ownBlock ≠ some k
 lr : w0.heap.size ≤ gr
 lg : w0.heap.size ≤ gg
 bel : Below w0.heap.size w0 w
section
variable {w0 w w' : World} {gr gg : Nat} {vr v2 : Value} {r r' : Rdr} {cs : Array Value} {l2 : List Ety}
theorem TkD.ext (h : TkD w0 w gr gg vr v2 r cs l2) (hb : Below w.heap.size w w') : TkD w0 w' gr gg vr v2 r cs l2 :=
 ⟨h.rdr.ext hb, h.blk.ext hb, h.own.ext hb, h.n1, h.n2, h.n3, h.n4, h.n5, h.lr, h.lg, h.bel.trans (hb.mono h.bel.size)⟩
theorem TkD.read (h : TkD w0 w gr gg vr v2 r cs l2) (hr : RkAt w' gr vr r') (hc : Chg (fun k => k = gr) w w') : TkD w0 w' gr gg vr v2 r' cs l2 :=
 ⟨hr, hc.blk h.blk h.n1.symm, hc.ownR h.own (fun k hk e => h.n3 (by rw [hk, e])), h.n1, h.n2, h.n3, h.n4, h.n5, h.lr, h.lg, h.bel.trans (hc.below (fun k hk => by rw [hk]; exact h.lr) h.bel.size)⟩
theorem TkD.set (h : TkD w0 w gr gg vr v2 r cs l2) (i : Nat) (u : Value) : TkD w0 (w.setCell ⟨gg, i, none⟩ u) gr gg vr v2 r (cs.setIfInBounds i u) l2 := by
 have hc := chg_cell gg i u w
 exact ⟨h.rdr.chg hc h.n1 (fun k hk e => h.n2 (by rw [hk, e])), h.blk.set i u, hc.ownR h.own (fun k hk e => h.n4 (by rw [hk, e])), h.n1, h.n2, h.n3, h.n4, h.n5, h.lr, h.lg, h.bel.setCell (p := ⟨gg, i, none⟩) h.lg u⟩
theorem TkD.other (h : TkD w0 w gr gg vr v2 r cs l2) {ge : Nat} (hc : Chg (fun k => k = ge) w w') (h1 : gr ≠ ge) (h2 : gg ≠ ge) (h3 : vr.ownBlock ≠ some ge) (h4 : v2.ownBlock ≠ some ge) (h5 : w0.heap.size ≤ ge) : TkD w0 w' gr gg vr v2 r cs l2 :=
 ⟨h.rdr.chg hc h1 (fun k hk e => h3 (by rw [hk, e])), hc.blk h.blk h2, hc.ownR h.own (fun k hk e => h4 (by rw [hk, e])), h.n1, h.n2, h.n3, h.n4, h.n5, h.lr, h.lg, h.bel.trans (hc.below (fun k hk => by rw [hk]; exact h5) h.bel.size)⟩
theorem TkD.log (h : TkD w0 w gr gg vr v2 r cs l2) {v3 : Value} {l3 : List Ety} (own : OwnR etyE w w0.heap.size 73 v3 l3) (n3 : v3.ownBlock ≠ some gr) (n4 : v3.ownBlock ≠ some gg) (n5 : ∀ k, vr.ownBlock = some k → v3.ownBlock ≠ some k) : TkD w0 w gr gg vr v3 r cs l3 :=
 ⟨h.rdr, h.blk, own, h.n1, h.n2, n3, n4, n5, h.lr, h.lg, h.bel⟩
theorem TkD.app (h : TkD w0 w gr gg vr v2 r cs l2) (hvr : ∀ k, vr.ownBlock = some k → k < w.heap.size) {v3 : Value} {l3 : List Ety} (hg : w.grownBy w' v2.ownBlock) (hb : Below w0.heap.size w w') (own : OwnR etyE w' w0.heap.size 73 v3 l3) (hw : v3.ownBlock = v2.ownBlock ∨ v3.ownBlock = some w.heap.size) : TkD w0 w' gr gg vr v3 r cs l3 := by
 have hc : Chg (fun k => v2.ownBlock = some k) w w' := .of_grown hg fun k hk => hk
 have h1 := h.rdr.blk.lt
 have h2 := h.blk.lt
 refine ⟨h.rdr.chg hc h.n3 (fun k hk e => h.n5 k hk e), hc.blk h.blk h.n4, own, h.n1, h.n2, ?_, ?_, fun k hk => ?_, h.lr, h.lg, h.bel.trans hb⟩
 · rcases hw with hw | hw
   · rw [hw]; exact h.n3
   · rw [hw]; intro e; cases e; omega
 · rcases hw with hw | hw
   · rw [hw]; exact h.n4
   · rw [hw]; intro e; cases e; omega
 · rcases hw with hw | hw
   · rw [hw]; exact h.n5 k hk
   · rw [hw]; intro e; cases e; have := hvr _ hk; omega
theorem TkD.num (h : TkD w0 w gr gg vr v2 r cs l2) :
 Calls Tryz.prog 87 #[.pointer (some ⟨gr, 0, none⟩)] w fun x w' => x = .returned (.int .i64 (rNum r).1) ∧ TkD w0 w' gr gg vr v2 (rNum r).2 cs l2 ∧ Chg (fun k => k = gr) w w' :=
 (rkRNum gr vr r w h.rdr).mono fun _ _ ⟨h1, h2, h3⟩ => ⟨h1, h.read h2 h3, h3⟩
theorem TkD.text (h : TkD w0 w gr gg vr v2 r cs l2) (most : Int) :
 Calls Tryz.prog 116 #[.pointer (some ⟨gr, 0, none⟩), .int .i64 most] w fun x w' => x = .returned (.string ⟨(rText most r).1.toArray⟩) ∧ TkD w0 w' gr gg vr v2 (rText most r).2 cs l2 ∧ Chg (fun k => k = gr) w w' :=
 (rkRText gr vr r most w h.rdr).mono fun _ _ ⟨h1, h2, h3⟩ => ⟨h1, h.read h2 h3, h3⟩
theorem TkD.fin (h : TkD w0 w gr gg vr v2 r cs l2) :
 Calls Tryz.prog 117 #[.pointer (some ⟨gr, 0, none⟩)] w fun x w' => x = .returned (.int .i64 (rEnd r).1) ∧ TkD w0 w' gr gg vr v2 (rEnd r).2 cs l2 ∧ Chg (fun k => k = gr) w w' :=
 (rkEnd gr vr r w h.rdr).mono fun _ _ ⟨h1, h2, h3⟩ => ⟨h1, h.read h2 h3, h3⟩
end
def sX : ByteArray := ⟨#[120]⟩
def withX (h : Hrd) : Hrd := { h with snap := if h.base = 0 then sNone else sX }
theorem right_x (h : Hrd) : rightH (withX h) = bareH h := by
 have e : bareH (withX h) = bareH h := rfl
 unfold rightH
 rw [e]
 unfold withX
 by_cases hb : h.base = 0
 · rw [if_pos hb, decide_eq_true hb]; simp [sNone, ByteArray.size]
 · rw [if_neg hb, decide_eq_false hb]; simp [sX, ByteArray.size]
def begR (p : List UInt8) : Option Hrd := match parseR p with
 | some (.beg g) => if bareH g then some g else none
 | _ => none
theorem begR_no {p : List UInt8} (h : parseR p = none) : begR p = none := by unfold begR; rw [h]
theorem begR_yes {p : List UInt8} {g : Hrd} (h : parseR p = some (.beg g)) : begR p = if bareH g then some g else none := by unfold begR; rw [h]
def BegsR (w : World) (B gh : Nat) (h : Hrd) (p : List UInt8) (e : Ending) (w' : World) : Prop :=
 e = .returned (.int .i64 (if (begR p).isSome then 1 else 0)) ∧ (∃ v, HdV w' gh v ((begR p).getD h) ∧ ∀ k, v.ownBlock = some k → B ≤ k) ∧ Below B w w'

set_option maxRecDepth 8000 in
set_option maxHeartbeats 4000000 in
theorem rkBegun {w : World} {B gh : Nat} {vh : Value} {h : Hrd} (hd : HdV w gh vh h) (hB0 : B ≤ gh) (hv0 : ∀ k, vh.ownBlock = some k → B ≤ k) (vp : Value) (p : List UInt8) (hp : Bytes w vp p) (hpl : p.length ≤ 35184372088000) (hk : (rNum (rd0 p)).1 = 1) :
 Calls Tryz.prog 88 #[.pointer (some ⟨gh, 0, none⟩), vp] w (BegsR w B gh h p) := by
 have hpk := parse_k hk
 have hgl := hd.blk.lt
 go_enter Tryz.func88, Tryz.ntmps88
 go_wp2_with fail
 refine (rkRead vp p w hp hpl).mono ?_
 rintro e w1 ⟨gr, vr, rfl, hr, hgr, hvr, b1⟩
 have grl := hr.blk.lt
 go_wp2_with fail
 refine (rkRNum gr vr (rd0 p) w1 hr).mono ?_
 rintro e w2 ⟨rfl, hr2, ch2⟩
 go_wp2_with fail
 refine (rkRNum gr vr _ w2 hr2).mono ?_
 rintro e w3 ⟨rfl, hr3, ch3⟩
 have ch23 := ch2.step ch3
 have b3 : Below w.heap.size w w3 := b1.trans (ch23.below (fun k hk => by rw [hk]; exact hgr) b1.size)
 have hs13 := ch23.size
 clear ch2 ch3 hr hr2
 generalize hq0 : rNum (rd0 p) = q0 at *
 obtain ⟨kd, r1⟩ := q0
 dsimp only at *
 generalize hq1 : rNum r1 = q1 at *
 obtain ⟨n1, r2⟩ := q1
 dsimp only at *
 have Q1 := Lib.hid hq1
 subst hk
 replace hpk : parseR p = recBeg r1 := hpk.trans (if_pos trivial)
 have Hpk := Lib.hid hpk
 clear hpk hq1 hq0
 have T3 : TkD w (w3.alloc (.cells #[.int .i64 n1, .int .i64 0, .int .i64 0, .int .i64 0, .int .i64 0, .string ⟨#[]⟩, .slice none 0 0] 24)) gr w3.heap.size vr (.slice none 0 0) r2 #[.int .i64 n1, .int .i64 0, .int .i64 0, .int .i64 0, .int .i64 0, .string ⟨#[]⟩, .slice none 0 0] [] :=
  ⟨hr3.ext (below_alloc _ _), Blk.new _ _ _, OwnR.nil _ _ _, by omega, (fun e => by have := (hvr _ e).2; omega), by simp [Value.ownBlock], by simp [Value.ownBlock], by simp [Value.ownBlock], hgr, b3.size, b3.trans ((below_alloc _ _).mono b3.size)⟩
 have hgg : w3.heap.size ≥ w.heap.size := b3.size
 go_wp2_with fail
 generalize w3.alloc (.cells #[.int .i64 n1, .int .i64 0, .int .i64 0, .int .i64 0, .int .i64 0, .string ⟨#[]⟩, .slice none 0 0] 24) = w4 at *
 generalize w3.heap.size = gg at *
 clear hr3 b3 hs13 ch23 hvr b1
 refine T3.num.mono ?_
 rintro e x1 ⟨rfl, S1, _⟩
 generalize hq2 : rNum r2 = q2 at *
 obtain ⟨n2, r3⟩ := q2
 dsimp only at *
 have Q2 := Lib.hid hq2
 have y1 := S1.blk.cell 1 _ rfl
 have z1 := S1.blk.frozen 1
 have U1 := S1.set 1 (.int .i64 n2)
 clear hq2
 go_wp2_with fail
 generalize x1.setCell ⟨gg, 1, none⟩ (.int .i64 n2) = w5 at *
 clear y1 z1 S1 T3
 refine U1.num.mono ?_
 rintro e x2 ⟨rfl, S2, _⟩
 generalize hq3 : rNum r3 = q3 at *
 obtain ⟨n3, r4⟩ := q3
 dsimp only at *
 have Q3 := Lib.hid hq3
 have y2 := S2.blk.cell 2 _ rfl
 have z2 := S2.blk.frozen 2
 have U2 := S2.set 2 (.int .i64 n3)
 clear hq3
 go_wp2_with fail
 generalize x2.setCell ⟨gg, 2, none⟩ (.int .i64 n3) = w6 at *
 clear y2 z2 S2 U1
 refine U2.num.mono ?_
 rintro e x3 ⟨rfl, S3, _⟩
 generalize hq4 : rNum r4 = q4 at *
 obtain ⟨n4, r5⟩ := q4
 dsimp only at *
 have Q4 := Lib.hid hq4
 have y3 := S3.blk.cell 3 _ rfl
 have z3 := S3.blk.frozen 3
 have U3 := S3.set 3 (.int .i64 n4)
 clear hq4
 go_wp2_with fail
 generalize x3.setCell ⟨gg, 3, none⟩ (.int .i64 n4) = w7 at *
 clear y3 z3 S3 U2
 refine U3.num.mono ?_
 rintro e x4 ⟨rfl, S4, _⟩
 generalize hq5 : rNum r5 = q5 at *
 obtain ⟨n5, r6⟩ := q5
 dsimp only at *
 have Q5 := Lib.hid hq5
 have y4 := S4.blk.cell 4 _ rfl
 have z4 := S4.blk.frozen 4
 have U4 := S4.set 4 (.int .i64 n5)
 clear hq5
 obtain ⟨gx, hgx⟩ : ∃ gx : Hrd, gx = (⟨n1, n2, n3, n4, n5, sNone, []⟩ : Hrd) := ⟨_, rfl⟩
 have hpar : (rEnd r6).1 = 0 → begR p = if bareH gx then some gx else none := fun he => by
  rw [hgx]
  refine begR_yes (Hpk.out.trans ?_)
  unfold recBeg
  rw [Q1.out]; dsimp only; rw [Q2.out]; dsimp only; rw [Q3.out]; dsimp only; rw [Q4.out]; dsimp only; rw [Q5.out]; exact ended_ok he
 have hpno : ¬ (rEnd r6).1 = 0 → begR p = none := fun he => begR_no (by
  rw [Hpk.out]; unfold recBeg
  rw [Q1.out]; dsimp only; rw [Q2.out]; dsimp only; rw [Q3.out]; dsimp only; rw [Q4.out]; dsimp only; rw [Q5.out]; exact ended_no he)
 have Hpar := Lib.hid hpar
 have Hpno := Lib.hid hpno
 have Hgx := Lib.hid hgx
 clear hpar hpno Hpk Q1 Q2 Q3 Q4 Q5 S4 U3 hgx
 replace U4 : TkD w (x4.setCell ⟨gg, 4, none⟩ (.int .i64 n5)) gr gg vr (.slice none 0 0) r6 #[.int .i64 n1, .int .i64 n2, .int .i64 n3, .int .i64 n4, .int .i64 n5, .string ⟨#[]⟩, .slice none 0 0] [] := U4
 have e2 := U4.blk.cell 2 _ rfl
 have e5 := U4.blk.cell 5 _ rfl
 have g5 := U4.blk.frozen 5
 have e0 := U4.blk.cell 0 _ rfl
 by_cases hz : n3 = 0
 · have hzi : (n3 != 0) = false := by simpa using hz
   have hwx : withX gx = ⟨n1, n2, n3, n4, n5, ⟨#[]⟩, []⟩ := by rw [Hgx.out]; unfold withX; rw [if_pos hz]; rfl
   have T5 := U4
   clear U4 hz
   go_wp2_with fail
   generalize x4.setCell ⟨gg, 4, none⟩ (.int .i64 n5) = w9 at *
   clear e0 e2 e5 g5 y4 z4
   have hgl2 := T5.bel.size
   have hright := fun (z : World) => refRight (withX gx) (.slice none 0 0) z (by rw [hwx]; exact Rd.nil _)
   rw [hwx] at hright
   have hrx : rightH ⟨n1, n2, n3, n4, n5, ⟨#[]⟩, []⟩ = bareH gx := by rw [← hwx]; exact right_x gx
   rw [hrx] at hright
   clear hrx hwx
   with_reducible refine T5.fin.mono ?_
   rintro e x5 ⟨rfl, S5, _⟩
   have c0 := S5.blk.cell 0 _ rfl
   have c1 := S5.blk.cell 1 _ rfl
   have c2 := S5.blk.cell 2 _ rfl
   have c3 := S5.blk.cell 3 _ rfl
   have c4 := S5.blk.cell 4 _ rfl
   have c5 := S5.blk.cell 5 _ rfl
   have c6 := S5.blk.cell 6 _ rfl
   clear T5
   by_cases hE : (rEnd r6).1 = 0
   · have hez : ((rEnd r6).1 != 0) = false := by simpa using hE
     have hbeg := Lib.hid (Hpar.out hE)
     go_wp2_with fail
     cases hB : bareH gx with
     | false =>
      rw [hB] at hright
      with_reducible refine (hright x5).mono ?_
      rintro e x6 ⟨rfl, b6⟩
      go_wp2_with fail
      go_ret
      have hbl := S5.bel.trans (b6.mono S5.bel.size)
      have hbn := hbeg.out
      rw [hB] at hbn
      unfold BegsR
      rw [hbn]
      exact ⟨rfl, ⟨_, hd.ext hbl, hv0⟩, hbl.mono (by omega)⟩
     | true =>
      rw [hB] at hright
      with_reducible refine (hright x5).mono ?_
      rintro e x6 ⟨rfl, b6⟩
      have S6 := S5.ext b6
      have d5 := S6.blk.cell 5 _ rfl
      have j5 := S6.blk.frozen 5
      have S7 : TkD w (x6.setCell ⟨gg, 5, none⟩ (.string ⟨#[]⟩)) gr gg vr (.slice none 0 0) (rEnd r6).2 #[.int .i64 n1, .int .i64 n2, .int .i64 n3, .int .i64 n4, .int .i64 n5, .string ⟨#[]⟩, .slice none 0 0] [] := S6.set 5 (.string ⟨#[]⟩)
      have hd7 := hd.ext S7.bel
      have q0 := S7.blk.cell 0 _ rfl
      have q1 := S7.blk.cell 1 _ rfl
      have q2 := S7.blk.cell 2 _ rfl
      have q3 := S7.blk.cell 3 _ rfl
      have q4 := S7.blk.cell 4 _ rfl
      have q5 := S7.blk.cell 5 _ rfl
      have q6 := S7.blk.cell 6 _ rfl
      have k0 := hd7.blk.cell 0 _ rfl
      have j0 := hd7.blk.frozen 0
      have k1 := hd7.blk.cell 1 _ rfl
      have j1 := hd7.blk.frozen 1
      have k2 := hd7.blk.cell 2 _ rfl
      have j2 := hd7.blk.frozen 2
      have k3 := hd7.blk.cell 3 _ rfl
      have j3 := hd7.blk.frozen 3
      have k4 := hd7.blk.cell 4 _ rfl
      have j4 := hd7.blk.frozen 4
      have k5 := hd7.blk.cell 5 _ rfl
      have jj5 := hd7.blk.frozen 5
      have k6 := hd7.blk.cell 6 _ rfl
      have j6 := hd7.blk.frozen 6
      have hfin := hd7.fill (x := gx) (v' := .slice none 0 0) (by rw [Hgx.out]; exact Rd.nil _) (by simp [Value.ownBlock])
      have hbl : Below B w _ := S7.bel.mono (show B ≤ w.heap.size by omega)
      have hbl2 := hbl.trans (hfin.2.below (fun k hk => by rw [hk]; exact hB0) (by have := S7.bel.size; omega))
      have hbn := hbeg.out
      rw [hB] at hbn
      have Hfin := Lib.hid (And.intro hfin.1 (And.intro hbl2 hbn))
      rw [Hgx.out] at Hfin
      dsimp only at Hfin
      clear S6 S7 S5 hd7 hfin hbl hbl2 hbn hd hbeg c0 c1 c2 c3 c4 c5 c6
      go_wp2_with fail
      go_ret
      obtain ⟨f1, f2, f3⟩ := Hfin.out
      unfold BegsR
      rw [f3]
      exact ⟨rfl, ⟨_, f1, by simp [Value.ownBlock]⟩, f2⟩
   · have hez : ((rEnd r6).1 != 0) = true := by simpa using hE
     have hbeg := Lib.hid (Hpno.out hE)
     go_wp2_with fail
     go_ret
     unfold BegsR
     rw [hbeg.out]
     exact ⟨rfl, ⟨_, hd.ext S5.bel, hv0⟩, S5.bel.mono (by omega)⟩
 · have hzi : (n3 != 0) = true := by simpa using hz
   have hwx : withX gx = ⟨n1, n2, n3, n4, n5, ⟨#[120]⟩, []⟩ := by rw [Hgx.out]; unfold withX; rw [if_neg hz]; rfl
   have T5 : TkD w ((x4.setCell ⟨gg, 4, none⟩ (.int .i64 n5)).setCell ⟨gg, 5, none⟩ (.string ⟨#[120]⟩)) gr gg vr (.slice none 0 0) r6 #[.int .i64 n1, .int .i64 n2, .int .i64 n3, .int .i64 n4, .int .i64 n5, .string ⟨#[120]⟩, .slice none 0 0] [] := U4.set 5 (.string ⟨#[120]⟩)
   clear U4 hz
   go_wp2_with fail
   generalize (x4.setCell ⟨gg, 4, none⟩ (.int .i64 n5)).setCell ⟨gg, 5, none⟩ (.string ⟨#[120]⟩) = w9 at *
   clear e0 e2 e5 g5 y4 z4
   have hgl2 := T5.bel.size
   have hright := fun (z : World) => refRight (withX gx) (.slice none 0 0) z (by rw [hwx]; exact Rd.nil _)
   rw [hwx] at hright
   have hrx : rightH ⟨n1, n2, n3, n4, n5, ⟨#[120]⟩, []⟩ = bareH gx := by rw [← hwx]; exact right_x gx
   rw [hrx] at hright
   clear hrx hwx
   with_reducible refine T5.fin.mono ?_
   rintro e x5 ⟨rfl, S5, _⟩
   have c0 := S5.blk.cell 0 _ rfl
   have c1 := S5.blk.cell 1 _ rfl
   have c2 := S5.blk.cell 2 _ rfl
   have c3 := S5.blk.cell 3 _ rfl
   have c4 := S5.blk.cell 4 _ rfl
   have c5 := S5.blk.cell 5 _ rfl
   have c6 := S5.blk.cell 6 _ rfl
   clear T5
   by_cases hE : (rEnd r6).1 = 0
   · have hez : ((rEnd r6).1 != 0) = false := by simpa using hE
     have hbeg := Lib.hid (Hpar.out hE)
     go_wp2_with fail
     cases hB : bareH gx with
     | false =>
      rw [hB] at hright
      with_reducible refine (hright x5).mono ?_
      rintro e x6 ⟨rfl, b6⟩
      go_wp2_with fail
      go_ret
      have hbl := S5.bel.trans (b6.mono S5.bel.size)
      have hbn := hbeg.out
      rw [hB] at hbn
      unfold BegsR
      rw [hbn]
      exact ⟨rfl, ⟨_, hd.ext hbl, hv0⟩, hbl.mono (by omega)⟩
     | true =>
      rw [hB] at hright
      with_reducible refine (hright x5).mono ?_
      rintro e x6 ⟨rfl, b6⟩
      have S6 := S5.ext b6
      have d5 := S6.blk.cell 5 _ rfl
      have j5 := S6.blk.frozen 5
      have S7 : TkD w (x6.setCell ⟨gg, 5, none⟩ (.string ⟨#[]⟩)) gr gg vr (.slice none 0 0) (rEnd r6).2 #[.int .i64 n1, .int .i64 n2, .int .i64 n3, .int .i64 n4, .int .i64 n5, .string ⟨#[]⟩, .slice none 0 0] [] := S6.set 5 (.string ⟨#[]⟩)
      have hd7 := hd.ext S7.bel
      have q0 := S7.blk.cell 0 _ rfl
      have q1 := S7.blk.cell 1 _ rfl
      have q2 := S7.blk.cell 2 _ rfl
      have q3 := S7.blk.cell 3 _ rfl
      have q4 := S7.blk.cell 4 _ rfl
      have q5 := S7.blk.cell 5 _ rfl
      have q6 := S7.blk.cell 6 _ rfl
      have k0 := hd7.blk.cell 0 _ rfl
      have j0 := hd7.blk.frozen 0
      have k1 := hd7.blk.cell 1 _ rfl
      have j1 := hd7.blk.frozen 1
      have k2 := hd7.blk.cell 2 _ rfl
      have j2 := hd7.blk.frozen 2
      have k3 := hd7.blk.cell 3 _ rfl
      have j3 := hd7.blk.frozen 3
      have k4 := hd7.blk.cell 4 _ rfl
      have j4 := hd7.blk.frozen 4
      have k5 := hd7.blk.cell 5 _ rfl
      have jj5 := hd7.blk.frozen 5
      have k6 := hd7.blk.cell 6 _ rfl
      have j6 := hd7.blk.frozen 6
      have hfin := hd7.fill (x := gx) (v' := .slice none 0 0) (by rw [Hgx.out]; exact Rd.nil _) (by simp [Value.ownBlock])
      have hbl : Below B w _ := S7.bel.mono (show B ≤ w.heap.size by omega)
      have hbl2 := hbl.trans (hfin.2.below (fun k hk => by rw [hk]; exact hB0) (by have := S7.bel.size; omega))
      have hbn := hbeg.out
      rw [hB] at hbn
      have Hfin := Lib.hid (And.intro hfin.1 (And.intro hbl2 hbn))
      rw [Hgx.out] at Hfin
      dsimp only at Hfin
      clear S6 S7 S5 hd7 hfin hbl hbl2 hbn hd hbeg c0 c1 c2 c3 c4 c5 c6
      go_wp2_with fail
      go_ret
      obtain ⟨f1, f2, f3⟩ := Hfin.out
      unfold BegsR
      rw [f3]
      exact ⟨rfl, ⟨_, f1, by simp [Value.ownBlock]⟩, f2⟩
   · have hez : ((rEnd r6).1 != 0) = true := by simpa using hE
     have hbeg := Lib.hid (Hpno.out hE)
     go_wp2_with fail
     go_ret
     unfold BegsR
     rw [hbeg.out]
     exact ⟨rfl, ⟨_, hd.ext S5.bel, hv0⟩, S5.bel.mono (by omega)⟩
end Go.Proofs.YtgpgcnmnfnnkjaaGreatDoor
end
