/- Walks of package wal: a segment and a reader side by side (for take). -/
import Derived.Test.YtgpgcnmnfnnkjaaDoorGStoreRuns24
import Derived.Test.YtgpgcnmnfnnkjaaDoorGStoreRuns25
import Derived.Test.YtgpgcnmnfnnkjaaDoorGStoreRuns26
set_option linter.unusedVariables false
set_option linter.unusedSimpArgs false
section
namespace Go.Proofs.YtgpgcnmnfnnkjaaDoor
open Go Go.RowKit Go.PlainAid
/-- a segment at g, a reader at gr: of the call's own, from B on -/
structure TkW (w0 w : World) (B g gr : Nat) (v vr : Value) (s : Sg) (r : Rdr) : Prop where
 seg : SegV w B g v s
 rdr : RdrAt w gr vr r
 low : B ≤ gr
 ng : g ≠ gr
 nv : v.ownBlock ≠ some gr
 bel : Below B w0 w
 start : B ≤ w0.heap.size
section
variable {w0 w w' : World} {B g gr : Nat} {v vr : Value} {s : Sg} {r : Rdr}
theorem TkW.ext (h : TkW w0 w B g gr v vr s r) (hb : Below w.heap.size w w') : TkW w0 w' B g gr v vr s r :=
 ⟨h.seg.ext hb, h.rdr.ext hb, h.low, h.ng, h.nv, h.bel.trans (hb.mono (Nat.le_trans h.start h.bel.size)), h.start⟩
theorem TkW.read (h : TkW w0 w B g gr v vr s r) {r' : Rdr} (hr : RdrAt w' gr vr r') (hc : Chg (fun k => k = gr) w w') : TkW w0 w' B g gr v vr s r' :=
 ⟨h.seg.chg hc h.ng (fun k hk e => h.nv (by rw [hk, e])), hr, h.low, h.ng, h.nv, h.bel.trans (hc.below (fun k hk => by rw [hk]; exact h.low) (Nat.le_trans h.start h.bel.size)), h.start⟩
theorem TkW.num (h : TkW w0 w B g gr v vr s r) :
 Calls Tryd.prog 61 #[.pointer (some ⟨gr, 0, none⟩)] w fun x w' => x = .returned (.int .i64 (rNum r).1) ∧ TkW w0 w' B g gr v vr s (rNum r).2 ∧ Chg (fun k => k = gr) w w' :=
 (rdrNum gr vr r w h.rdr).mono fun _ _ ⟨h1, h2, h3⟩ => ⟨h1, h.read h2 h3, h3⟩
theorem TkW.text (h : TkW w0 w B g gr v vr s r) (most : Int) :
 Calls Tryd.prog 62 #[.pointer (some ⟨gr, 0, none⟩), .int .i64 most] w fun x w' => x = .returned (.string ⟨(rText most r).1.toArray⟩) ∧ TkW w0 w' B g gr v vr s (rText most r).2 ∧ Chg (fun k => k = gr) w w' :=
 (rdrText gr vr r most w h.rdr).mono fun _ _ ⟨h1, h2, h3⟩ => ⟨h1, h.read h2 h3, h3⟩
theorem TkW.fin (h : TkW w0 w B g gr v vr s r) :
 Calls Tryd.prog 63 #[.pointer (some ⟨gr, 0, none⟩)] w fun x w' => x = .returned (.int .i64 (rEnd r).1) ∧ TkW w0 w' B g gr v vr s (rEnd r).2 ∧ Chg (fun k => k = gr) w w' :=
 (rdrEnd gr vr r w h.rdr).mono fun _ _ ⟨h1, h2, h3⟩ => ⟨h1, h.read h2 h3, h3⟩
end
/-- .. and a variable's block -/
structure TkH (w0 w : World) (B g gr : Nat) (v vr : Value) (s : Sg) (r : Rdr) (H : Nat) (cs : Array Value) (t : TypeId) : Prop where
 tk : TkW w0 w B g gr v vr s r
 blk : Blk w H cs t
 lowH : B ≤ H
 nH : g ≠ H ∧ gr ≠ H ∧ v.ownBlock ≠ some H ∧ vr.ownBlock ≠ some H
section
variable {w0 w w' : World} {B g gr H : Nat} {v vr : Value} {s : Sg} {r : Rdr} {cs : Array Value} {t : TypeId}
theorem TkW.alloc (h : TkW w0 w B g gr v vr s r) (hvr : ∀ k, vr.ownBlock = some k → k < w.heap.size) (cs : Array Value) (t : TypeId) : TkH w0 (w.alloc (.cells cs t)) B g gr v vr s r w.heap.size cs t := by
 have h1 := h.seg.blk.lt
 have h2 := h.rdr.blk.lt
 exact ⟨h.ext (below_alloc _ _), Blk.new _ _ _, Nat.le_trans h.start h.bel.size, by omega, by omega, fun e => by have := (h.seg.log.lt _ e).2; omega, fun e => by have := hvr _ e; omega⟩
theorem TkH.read (h : TkH w0 w B g gr v vr s r H cs t) {r' : Rdr} (hr : TkW w0 w' B g gr v vr s r') (hc : Chg (fun k => k = gr) w w') : TkH w0 w' B g gr v vr s r' H cs t :=
 ⟨hr, hc.blk h.blk (fun e => h.nH.2.1 e.symm), h.lowH, h.nH⟩
theorem TkH.num (h : TkH w0 w B g gr v vr s r H cs t) :
 Calls Tryd.prog 61 #[.pointer (some ⟨gr, 0, none⟩)] w fun x w' => x = .returned (.int .i64 (rNum r).1) ∧ TkH w0 w' B g gr v vr s (rNum r).2 H cs t := h.tk.num.mono fun _ _ ⟨h1, h2, h3⟩ => ⟨h1, h.read h2 h3⟩
theorem TkH.text (h : TkH w0 w B g gr v vr s r H cs t) (most : Int) :
 Calls Tryd.prog 62 #[.pointer (some ⟨gr, 0, none⟩), .int .i64 most] w fun x w' => x = .returned (.string ⟨(rText most r).1.toArray⟩) ∧ TkH w0 w' B g gr v vr s (rText most r).2 H cs t := (h.tk.text most).mono fun _ _ ⟨h1, h2, h3⟩ => ⟨h1, h.read h2 h3⟩
theorem TkH.fin (h : TkH w0 w B g gr v vr s r H cs t) :
 Calls Tryd.prog 63 #[.pointer (some ⟨gr, 0, none⟩)] w fun x w' => x = .returned (.int .i64 (rEnd r).1) ∧ TkH w0 w' B g gr v vr s (rEnd r).2 H cs t := h.tk.fin.mono fun _ _ ⟨h1, h2, h3⟩ => ⟨h1, h.read h2 h3⟩
theorem TkH.set (h : TkH w0 w B g gr v vr s r H cs t) (i : Nat) (u : Value) : TkH w0 (w.setCell ⟨H, i, none⟩ u) B g gr v vr s r H (cs.setIfInBounds i u) t := by
 have hc := chg_cell H i u w
 obtain ⟨n1, n2, n3, n4⟩ := h.nH
 exact ⟨⟨h.tk.seg.chg hc n1 (fun k hk e => n3 (by rw [hk, e])), h.tk.rdr.chg hc n2 (fun k hk e => n4 (by rw [hk, e])), h.tk.low, h.tk.ng, h.tk.nv, h.tk.bel.setCell (p := ⟨H, i, none⟩) h.lowH u, h.tk.start⟩, h.blk.set i u, h.lowH, h.nH⟩
end
theorem rNum_in (r : Rdr) : In64 (rNum r).1 := rNum_fits r
/-- what the parts of take answer, by what is read -/
theorem takeS_none {s : Sg} {p : List UInt8} (h : parseR p = none) : takeS s p = none := by unfold takeS; rw [h]; rfl
theorem takeS_some {s : Sg} {p : List UInt8} {x : Rec} (h : parseR p = some x) : takeS s p = stepS s x := by unfold takeS; rw [h]; rfl
theorem parse_kind {p : List UInt8} (h : (rNum (rd0 p)).2.err ≠ 0) : (rNum (rd0 p)).1 = 0 := by
 have : ∀ r : Rdr, (rNum r).2.err ≠ 0 → (rNum r).1 = 0 := fun r h => by
  unfold rNum at *
  split at h
  · split at h
    · exact absurd rfl h
    · split <;> rfl
  · split <;> first | rfl | contradiction
 exact this _ h
end Go.Proofs.YtgpgcnmnfnnkjaaDoor
end
