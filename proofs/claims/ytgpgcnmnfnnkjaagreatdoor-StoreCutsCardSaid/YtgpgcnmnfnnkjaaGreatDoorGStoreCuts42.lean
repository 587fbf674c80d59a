/- The loop's Hard in memory, and the store. Two Hards and a call in memory, beside a disk. -/
import Derived.Test.YtgpgcnmnfnnkjaaGreatDoorGStoreCuts41
import Derived.Test.YtgpgcnmnfnnkjaaGreatDoorGStoreCuts37
import Derived.Test.YtgpgcnmnfnnkjaaGreatDoorGStoreCuts40
import Derived.Test.YtgpgcnmnfnnkjaaGreatDoorGStoreCuts38
import Derived.Test.YtgpgcnmnfnnkjaaGreatDoorGStoreCuts2
set_option linter.unusedVariables false
set_option linter.unusedSimpArgs false
section
namespace Go.Proofs.YtgpgcnmnfnnkjaaGreatDoor
open Go Go.RowKit Go.PlainAid BigFrame
theorem intsQ_in {w : World} {v : Value} {l : List Int} (h : Rd intsE w v l) : l ≠ [] → ∀ k, v.ownBlock = some k → k < w.heap.size := fun hn => Cells.lt h (by rw [intsE.all_length]; have h2 := List.length_pos_iff.2 hn; show 0 < l.length * 1; omega)
theorem asq10 {w : World} {b off n c : Nat} {l : List AskL} (h : Rd aslE w (.slice (some ⟨b, off, none⟩) n c) l) {k : Nat} (hk : k < l.length) : w.cell? ⟨b, off + k * 10, none⟩ = some (.int .i64 l[k].kind) ∧ w.cell? ⟨b, off + k * 10 + 1, none⟩ = some (.int .i64 l[k].n) ∧ w.cell? ⟨b, off + k * 10 + 2, none⟩ = some (.int .i64 l[k].h.term) ∧ w.cell? ⟨b, off + k * 10 + 3, none⟩ = some (.int .i64 l[k].h.vote) ∧ w.cell? ⟨b, off + k * 10 + 4, none⟩ = some (.int .i64 l[k].h.base) ∧ w.cell? ⟨b, off + k * 10 + 5, none⟩ = some (.int .i64 l[k].h.bterm) ∧ w.cell? ⟨b, off + k * 10 + 6, none⟩ = some (.int .i64 l[k].h.members) ∧ w.cell? ⟨b, off + k * 10 + 7, none⟩ = some (.string l[k].h.snap) ∧ w.cell? ⟨b, off + k * 10 + 8, none⟩ = some (.slice l[k].hp l[k].h.log.length l[k].hc) ∧ w.cell? ⟨b, off + k * 10 + 9, none⟩ = some (.slice l[k].pp l[k].picks.length l[k].pc) :=
 ⟨h.at_ hk 0 (by decide), h.at_ hk 1 (by decide), h.at_ hk 2 (by decide), h.at_ hk 3 (by decide), h.at_ hk 4 (by decide), h.at_ hk 5 (by decide), h.at_ hk 6 (by decide), h.at_ hk 7 (by decide), h.at_ hk 8 (by decide), h.at_ hk 9 (by decide)⟩
structure KqV (w0 : World) (gD gH : Nat) (wr : World) (X : Nat → Prop) (d : Dk) (st : Sto) (g : Hrd) (gs gw : Nat) (v u : Value) : Prop where
 gw0 : w0.heap.size ≤ gw
 gs0 : w0.heap.size ≤ gs
 dd : DwS w0 X gD d wr
 sv : StoV wr X gD gs gw v st
 hb : Below w0.heap.size w0 wr
 kH : Blk wr gH #[.int .i64 g.term, .int .i64 g.vote, .int .i64 g.base, .int .i64 g.bterm, .int .i64 g.members, .string g.snap, u] 24
 inX : X gH
 hu : Rd etyE wr u g.log
 hux : ∀ k, u.ownBlock = some k → k < w0.heap.size ∨ X k
 hug : u.ownBlock ≠ some gw
 hus : u.ownBlock ≠ some gs
 ne : gH ≠ gw
 neS : gH ≠ gs
 gH0 : w0.heap.size ≤ gH
 huH : u.ownBlock ≠ some gH
 hvH : v.ownBlock ≠ some gH
section
variable {w0 wr w' : World} {gD gH : Nat} {X : Nat → Prop} {d d' : Dk} {g : Hrd} {st st' : Sto} {gs gw : Nat} {v u : Value}
theorem KqV.ext (k : KqV w0 gD gH wr X d st g gs gw v u) (hb : Below wr.heap.size wr w') : KqV w0 gD gH w' X d st g gs gw v u :=
 ⟨k.gw0, k.gs0, k.dd.ext hb, k.sv.ext hb, k.hb.trans (hb.mono k.hb.size), k.kH.ext hb, k.inX, k.hu.ext hb, k.hux, k.hug, k.hus, k.ne, k.neS, k.gH0, k.huH, k.hvH⟩
theorem KqV.stored (k : KqV w0 gD gH wr X d st g gs gw v u) {w3 : World} {g' : Hrd} {p : Option Addr} {c : Nat} (b3 : Below wr.heap.size wr w3) (rd : Rd etyE w3 (.slice p g'.log.length c) g'.log) (hor : ((.slice p g'.log.length c : Value) = u ∧ g' = g) ∨ ∀ j, (Value.slice p g'.log.length c).ownBlock = some j → wr.heap.size ≤ j ∧ j < w3.heap.size) :
 KqV w0 gD gH (((((((w3.setCell ⟨gH, 0, none⟩ (.int .i64 g'.term)).setCell ⟨gH, 1, none⟩ (.int .i64 g'.vote)).setCell ⟨gH, 2, none⟩ (.int .i64 g'.base)).setCell ⟨gH, 3, none⟩ (.int .i64 g'.bterm)).setCell ⟨gH, 4, none⟩ (.int .i64 g'.members)).setCell ⟨gH, 5, none⟩ (.string g'.snap)).setCell ⟨gH, 6, none⟩ (.slice p g'.log.length c)) (fun j => X j ∨ (wr.heap.size ≤ j ∧ j < w3.heap.size)) d st g' gs gw v (.slice p g'.log.length c) := by
 obtain ⟨kR, cR⟩ := bly7 (k.kH.ext b3) (.int .i64 g'.term) (.int .i64 g'.vote) (.int .i64 g'.base) (.int .i64 g'.bterm) (.int .i64 g'.members) (.string g'.snap) (.slice p g'.log.length c)
 have hl1 := k.kH.lt
 have hl2 := k.sv.wv.blk.lt
 have hl3 := k.sv.blk.lt
 have s3 := b3.size
 have hs0 := k.hb.size
 have hv1 : ∀ j, v.ownBlock = some j → ¬ j = gH := fun j hj e => k.hvH (by rw [hj, e])
 have hnu : (Value.slice p g'.log.length c).ownBlock ≠ some gH := by
  rcases hor with ⟨e, _⟩ | e
  · rw [e]; exact k.huH
  · intro q; have := e _ q; omega
 have sv3 := (k.sv.ext b3).mono (Y := fun j => X j ∨ (wr.heap.size ≤ j ∧ j < w3.heap.size)) fun j hj => .inl hj
 refine ⟨k.gw0, k.gs0, (k.dd.more b3 fun j hj => hj).chgX cR fun j hj => .inl (by rw [hj]; exact .inl k.inX), ⟨cR.blk sv3.blk (fun e => k.neS e.symm), sv3.wv.only2 cR (fun e => k.ne e.symm) hv1, sv3.inX, sv3.ne, sv3.off⟩, (k.hb.trans (b3.mono hs0)).trans (cR.below (B := w0.heap.size) (fun j hj => by rw [hj]; exact k.gH0) (k.hb.trans (b3.mono hs0)).size), kR, .inl k.inX, cR.cells rd fun j hj e => hnu (by rw [hj, e]), fun j hj => ?_, ?_, ?_, k.ne, k.neS, k.gH0, hnu, k.hvH⟩
 · rcases hor with ⟨e, _⟩ | e
   · rw [e] at hj; exact (k.hux j hj).imp id .inl
   · exact .inr (.inr (e j hj))
 · rcases hor with ⟨e, _⟩ | e
   · rw [e]; exact k.hug
   · intro q; have := e _ q; omega
 · rcases hor with ⟨e, _⟩ | e
   · rw [e]; exact k.hus
   · intro q; have := e _ q; omega
theorem KqV.saved (k : KqV w0 gD gH wr X d st g gs gw v u) {X' : Nat → Prop} {v' : Value} (h1 : ∀ k, X k → X' k) (d2 : DwS w0 X' gD d' w') (v2 : StoV w' X' gD gs gw v' st') (c : Chg (Gs w0 X gs gw) wr w') (ho : ∀ k, v'.ownBlock = some k → v.ownBlock = some k ∨ wr.heap.size ≤ k) :
 KqV w0 gD gH w' X' d' st' g gs gw v' u := by
 have hl1 := k.kH.lt
 refine ⟨k.gw0, k.gs0, d2, v2, k.hb.trans (c.gsB k.hb.size k.gw0 k.gs0), c.blk k.kH (fun e => ?_), h1 _ k.inX, c.cells k.hu (fun j hj e => ?_), fun j hj => (k.hux j hj).imp id (h1 j), k.hug, k.hus, k.ne, k.neS, k.gH0, k.huH, fun e => ?_⟩
 · rcases e with e | e | e
   · exact e.2 k.inX
   · exact k.ne e
   · exact k.neS e
 · rcases e with e | e | e
   · rcases k.hux j hj with q | q
     · have := e.1; omega
     · exact e.2 q
   · exact k.hug (by rw [hj, e])
   · exact k.hus (by rw [hj, e])
 · rcases ho _ e with q | q
   · exact k.hvH q
   · omega
theorem KqV.chg (k : KqV w0 gD gH wr X d st g gs gw v u) (d2 : DwS w0 X gD d' w') (c : Chg (Gx w0 X) wr w') : KqV w0 gD gH w' X d' st g gs gw v u := by
 refine ⟨k.gw0, k.gs0, d2, k.sv.keep c, k.hb.trans (c.gx k.hb.size), c.blk k.kH (fun e => e.2 k.inX), k.inX, c.cells k.hu (fun j hj e => ?_), k.hux, k.hug, k.hus, k.ne, k.neS, k.gH0, k.huH, k.hvH⟩
 rcases k.hux j hj with q | q
 · have := e.1; omega
 · exact e.2 q
theorem KqV.opened (k : KqV w0 gD gH wr X d st g gs gw v u) {X' : Nat → Prop} {gs' gw' : Nat} {v' : Value} (hg : wr.heap.size ≤ gw') (hgs : wr.heap.size ≤ gs') (h1 : ∀ k, X k → X' k) (d2 : DwS w0 X' gD d' w') (v2 : StoV w' X' gD gs' gw' v' st') (c : Chg (Gx w0 X) wr w') (ho : ∀ k, v'.ownBlock = some k → wr.heap.size ≤ k) :
 KqV w0 gD gH w' X' d' st' g gs' gw' v' u := by
 have hl1 := k.kH.lt
 have hs := k.hb.size
 have hul : ∀ q, wr.heap.size ≤ q → u.ownBlock ≠ some q := fun q hq e => by
  rcases k.hux _ e with z | z
  · omega
  · have := k.dd.2 _ z; omega
 refine ⟨by omega, by omega, d2, v2, k.hb.trans (c.gx k.hb.size), c.blk k.kH (fun e => e.2 k.inX), h1 _ k.inX, c.cells k.hu (fun j hj e => ?_), fun j hj => (k.hux j hj).imp id (h1 j), hul _ hg, hul _ hgs, by omega, by omega, k.gH0, k.huH, fun e => by have := ho _ e; omega⟩
 rcases k.hux j hj with q | q
 · have := e.1; omega
 · exact e.2 q
end
end Go.Proofs.YtgpgcnmnfnnkjaaGreatDoor
end

section
namespace Go.Proofs.YtgpgcnmnfnnkjaaGreatDoor
open Go Go.RowKit Go.PlainAid BigFrame
structure MemC (w0 : World) (gD bL gH gG : Nat) (wr : World) (X : Nat → Prop) (d : Dk) (l : AskL) (h g : Hrd) (uh ug : Value) : Prop where
 dd : DwS w0 X gD d wr
 hb : Below w0.heap.size w0 wr
 kL : Blk wr bL #[.int .i64 l.kind, .int .i64 l.n, .int .i64 l.h.term, .int .i64 l.h.vote, .int .i64 l.h.base, .int .i64 l.h.bterm, .int .i64 l.h.members, .string l.h.snap, .slice l.hp l.h.log.length l.hc, .slice l.pp l.picks.length l.pc] 57
 kH : Blk wr gH #[.int .i64 h.term, .int .i64 h.vote, .int .i64 h.base, .int .i64 h.bterm, .int .i64 h.members, .string h.snap, uh] 24
 kG : Blk wr gG #[.int .i64 g.term, .int .i64 g.vote, .int .i64 g.base, .int .i64 g.bterm, .int .i64 g.members, .string g.snap, ug] 24
 iL : X bL
 iH : X gH
 iG : X gG
 rh : Rd etyE wr uh h.log
 rg : Rd etyE wr ug g.log
 xh : ∀ k, uh.ownBlock = some k → k < w0.heap.size ∨ X k
 xg : ∀ k, ug.ownBlock = some k → k < w0.heap.size ∨ X k
theorem blk7c {w : World} {gH bL : Nat} {cs : Array Value} {T : TypeId} (g : Hrd) (u : Value) (k : Blk w bL cs T) (hne : bL ≠ gH) : Blk (((((((w.setCell ⟨gH, 0, none⟩ (.int .i64 g.term)).setCell ⟨gH, 1, none⟩ (.int .i64 g.vote)).setCell ⟨gH, 2, none⟩ (.int .i64 g.base)).setCell ⟨gH, 3, none⟩ (.int .i64 g.bterm)).setCell ⟨gH, 4, none⟩ (.int .i64 g.members)).setCell ⟨gH, 5, none⟩ (.string g.snap)).setCell ⟨gH, 6, none⟩ u) bL cs T :=
 ((((((Chg.refl (fun k => k = gH) w).setCell (p := ⟨gH, 0, none⟩) rfl (.int .i64 g.term)).setCell (p := ⟨gH, 1, none⟩) rfl (.int .i64 g.vote)).setCell (p := ⟨gH, 2, none⟩) rfl (.int .i64 g.base)).setCell (p := ⟨gH, 3, none⟩) rfl (.int .i64 g.bterm)).setCell (p := ⟨gH, 4, none⟩) rfl (.int .i64 g.members) |>.setCell (p := ⟨gH, 5, none⟩) rfl (.string g.snap) |>.setCell (p := ⟨gH, 6, none⟩) rfl u).blk k hne
theorem noGs {w0 : World} {X : Nat → Prop} {gs gw j : Nat} (hx : X j) (hn : j ≠ gs ∧ j ≠ gw) : ¬ Gs w0 X gs gw j := fun q => by
 rcases q with q | q | q
 · exact q.2 hx
 · exact hn.2 q
 · exact hn.1 q
section
variable {w0 wr w' : World} {gD bL gH gG : Nat} {X X' : Nat → Prop} {d d' : Dk} {l : AskL} {h g : Hrd} {uh ug : Value}
theorem MemC.ext (k : MemC w0 gD bL gH gG wr X d l h g uh ug) (hb : Below wr.heap.size wr w') : MemC w0 gD bL gH gG w' X d l h g uh ug :=
 ⟨k.dd.ext hb, k.hb.trans (hb.mono k.hb.size), k.kL.ext hb, k.kH.ext hb, k.kG.ext hb, k.iL, k.iH, k.iG, k.rh.ext hb, k.rg.ext hb, k.xh, k.xg⟩
theorem MemC.far (k : MemC w0 gD bL gH gG wr X d l h g uh ug) {v : Value} (hx : ∀ j, v.ownBlock = some j → j < w0.heap.size ∨ X j) : ∀ j, v.ownBlock = some j → ¬ Gx w0 X j := fun j hj q => (hx j hj).elim (fun e => by have := q.1; omega) q.2
theorem MemC.chg (k : MemC w0 gD bL gH gG wr X d l h g uh ug) (h1 : ∀ j, X j → X' j) (d2 : DwS w0 X' gD d' w') (c : Chg (Gx w0 X) wr w') : MemC w0 gD bL gH gG w' X' d' l h g uh ug :=
 ⟨d2, k.hb.trans (c.gx k.hb.size), c.blk k.kL (fun q => q.2 k.iL), c.blk k.kH (fun q => q.2 k.iH), c.blk k.kG (fun q => q.2 k.iG), h1 _ k.iL, h1 _ k.iH, h1 _ k.iG, c.cells k.rh (k.far k.xh), c.cells k.rg (k.far k.xg), fun j hj => (k.xh j hj).imp id (h1 j), fun j hj => (k.xg j hj).imp id (h1 j)⟩
theorem MemC.saved (k : MemC w0 gD bL gH gG wr X d l h g uh ug) {gs gw : Nat} (h1 : ∀ j, X j → X' j) (d2 : DwS w0 X' gD d' w') (c : Chg (Gs w0 X gs gw) wr w') (hgs : w0.heap.size ≤ gs) (hgw : w0.heap.size ≤ gw)
 (hn : ∀ j, j = bL ∨ j = gH ∨ j = gG ∨ uh.ownBlock = some j ∨ ug.ownBlock = some j → j ≠ gs ∧ j ≠ gw) : MemC w0 gD bL gH gG w' X' d' l h g uh ug := by
 have hno : ∀ j, (j < w0.heap.size ∨ X j) → j ≠ gs ∧ j ≠ gw → ¬ Gs w0 X gs gw j := fun j hx ⟨n1, n2⟩ q => by
  rcases q with q | q | q
  · rcases hx with e | e
    · have := q.1; omega
    · exact q.2 e
  · exact n2 q
  · exact n1 q
 exact ⟨d2, k.hb.trans (c.gsB k.hb.size hgw hgs), c.blk k.kL (hno _ (.inr k.iL) (hn _ (.inl rfl))), c.blk k.kH (hno _ (.inr k.iH) (hn _ (.inr (.inl rfl)))), c.blk k.kG (hno _ (.inr k.iG) (hn _ (.inr (.inr (.inl rfl))))), h1 _ k.iL, h1 _ k.iH, h1 _ k.iG, c.cells k.rh (fun j hj => hno j (k.xh j hj) (hn j (.inr (.inr (.inr (.inl hj)))))), c.cells k.rg (fun j hj => hno j (k.xg j hj) (hn j (.inr (.inr (.inr (.inr hj)))))), fun j hj => (k.xh j hj).imp id (h1 j), fun j hj => (k.xg j hj).imp id (h1 j)⟩
theorem MemC.lt (k : MemC w0 gD bL gH gG wr X d l h g uh ug) : ∀ j, j = bL ∨ j = gH ∨ j = gG ∨ uh.ownBlock = some j ∨ ug.ownBlock = some j → j < wr.heap.size := by
 rintro j (rfl | rfl | rfl | hj | hj)
 · exact k.kL.lt
 · exact k.kH.lt
 · exact k.kG.lt
 · exact (k.xh j hj).elim (fun e => Nat.lt_of_lt_of_le e k.hb.size) (k.dd.2 j)
 · exact (k.xg j hj).elim (fun e => Nat.lt_of_lt_of_le e k.hb.size) (k.dd.2 j)
end
end Go.Proofs.YtgpgcnmnfnnkjaaGreatDoor
end
