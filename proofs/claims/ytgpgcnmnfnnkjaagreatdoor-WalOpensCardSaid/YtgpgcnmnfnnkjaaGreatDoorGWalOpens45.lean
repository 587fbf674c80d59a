/- Both disks, and both logs, in one world. Walks of the document's log: anew. -/
import Derived.Test.YtgpgcnmnfnnkjaaGreatDoorGWalOpens36
import Derived.Test.YtgpgcnmnfnnkjaaGreatDoorGWalOpens40
import Derived.Test.YtgpgcnmnfnnkjaaGreatDoorGWalOpens38
set_option linter.unusedVariables false
set_option linter.unusedSimpArgs false
section
namespace Go.Proofs.YtgpgcnmnfnnkjaaGreatDoor
open Go Go.RowKit BigFrame Go.PlainAid
def TwoD (w0 : World) (X : Nat → Prop) (gD gR : Nat) (d dR : Dk) (w : World) : Prop := (∃ FD FR, DiskAt w FD gD d ∧ RefAt w FR gR dR ∧ (∀ k, FD k → Gx w0 X k) ∧ (∀ k, FR k → Gx w0 X k) ∧ (∀ k, FD k → ¬ FR k)) ∧ ∀ k, X k → k < w.heap.size
section
variable {w0 w w' : World} {X Y : Nat → Prop} {gD gR : Nat} {d dR d' : Dk}
theorem TwoD.size (h : TwoD w0 X gD gR d dR w) : w0.heap.size ≤ w.heap.size := by
 obtain ⟨⟨FD, FR, h1, h2, h3, h4, h5⟩, _⟩ := h
 have := (h3 gD h1.inG).1; have := h1.lt gD h1.inG; omega
theorem TwoD.more (h : TwoD w0 X gD gR d dR w) (hb : Below w.heap.size w w') (hy : ∀ k, Y k → X k ∨ (w.heap.size ≤ k ∧ k < w'.heap.size)) : TwoD w0 Y gD gR d dR w' := by
 obtain ⟨⟨FD, FR, h1, h2, h3, h4, h5⟩, h6⟩ := h
 refine ⟨⟨FD, FR, h1.ext hb, h2.ext hb, fun k hk => ⟨(h3 k hk).1, fun hY => ?_⟩, fun k hk => ⟨(h4 k hk).1, fun hY => ?_⟩, h5⟩, fun k hk => ?_⟩
 · rcases hy k hY with h | h
   · exact (h3 k hk).2 h
   · have := h1.lt k hk; omega
 · rcases hy k hY with h | h
   · exact (h4 k hk).2 h
   · have := h2.lt k hk; omega
 · rcases hy k hk with h | h
   · exact Nat.lt_of_lt_of_le (h6 k h) hb.size
   · exact h.2
theorem TwoD.ext (h : TwoD w0 X gD gR d dR w) (hb : Below w.heap.size w w') : TwoD w0 X gD gR d dR w' := h.more hb fun _ hk => .inl hk
theorem TwoD.mono (h : TwoD w0 X gD gR d dR w) (hy : ∀ k, Y k → X k) : TwoD w0 Y gD gR d dR w := h.more (Below.refl _ _) fun k hk => .inl (hy k hk)
theorem TwoD.prog (h : TwoD w0 X gD gR d dR w) : ∃ Y : Nat → Prop, (∀ k, X k → Y k) ∧ (∀ k, Y k → X k ∨ Gx w0 X k) ∧ DwS w0 Y gD d w ∧ ∀ (Y' G : Nat → Prop) (d' : Dk) (w' : World), (∀ k, Y k → Y' k) → (∀ k, Y' k → Y k ∨ w.heap.size ≤ k) → DwS w0 Y' gD d' w' → Chg G w w' → (∀ k, G k → Gx w0 Y k ∨ X k) →
 ∃ X' : Nat → Prop, (∀ k, X k → X' k) ∧ (∀ k, X' k → X k ∨ w.heap.size ≤ k) ∧ (∀ k, Y' k → X k ∨ w.heap.size ≤ k → X' k) ∧ TwoD w0 X' gD gR d' dR w' := by
 obtain ⟨⟨FD, FR, h1, h2, h3, h4, h5⟩, h6⟩ := h
 refine ⟨fun k => X k ∨ FR k, fun k hk => .inl hk, fun k hk => hk.imp id (h4 k), ⟨⟨FD, h1, fun k hk => ⟨(h3 k hk).1, fun hY => hY.elim (h3 k hk).2 (h5 k hk)⟩⟩, fun k hk => hk.elim (h6 k) (h2.lt k)⟩, ?_⟩
 intro Y' G d' w' hY hYr hd hc hG
 obtain ⟨⟨FD', g1, g3⟩, g6⟩ := hd
 refine ⟨fun k => Y' k ∧ ¬ FR k, fun k hk => ⟨hY k (.inl hk), fun hF => (h4 k hF).2 hk⟩, fun k hk => ?_, fun k hk hx => ⟨hk, fun hF => ?_⟩, ⟨FD', FR, g1, h2.chg hc (fun k hk hg => ?_), fun k hk => ⟨(g3 k hk).1, fun hx => (g3 k hk).2 hx.1⟩, fun k hk => ⟨(h4 k hk).1, fun hx => hx.2 hk⟩, fun k hk hF => (g3 k hk).2 (hY k (.inr hF))⟩, fun k hk => g6 k hk.1⟩
 · rcases hYr k hk.1 with (h | h) | h
   · exact .inl h
   · exact absurd h hk.2
   · exact .inr h
 · rcases hx with hx | hx
   · exact (h4 k hF).2 hx
   · have := h2.lt k hF; omega
 · rcases hG k hg with h | h
   · exact h.2 (.inr hk)
   · exact (h4 k hk).2 h
theorem TwoD.doc (h : TwoD w0 X gD gR d dR w) : ∃ Y : Nat → Prop, (∀ k, X k → Y k) ∧ (∀ k, Y k → X k ∨ Gx w0 X k) ∧ RfS w0 Y gR dR w ∧ ∀ (Y' G : Nat → Prop) (d' : Dk) (w' : World), (∀ k, Y k → Y' k) → (∀ k, Y' k → Y k ∨ w.heap.size ≤ k) → RfS w0 Y' gR d' w' → Chg G w w' → (∀ k, G k → Gx w0 Y k ∨ X k) →
 ∃ X' : Nat → Prop, (∀ k, X k → X' k) ∧ (∀ k, X' k → X k ∨ w.heap.size ≤ k) ∧ (∀ k, Y' k → X k ∨ w.heap.size ≤ k → X' k) ∧ TwoD w0 X' gD gR d d' w' := by
 obtain ⟨⟨FD, FR, h1, h2, h3, h4, h5⟩, h6⟩ := h
 refine ⟨fun k => X k ∨ FD k, fun k hk => .inl hk, fun k hk => hk.imp id (h3 k), ⟨⟨FR, h2, fun k hk => ⟨(h4 k hk).1, fun hY => hY.elim (h4 k hk).2 (fun hF => h5 k hF hk)⟩⟩, fun k hk => hk.elim (h6 k) (h1.lt k)⟩, ?_⟩
 intro Y' G d' w' hY hYr hd hc hG
 obtain ⟨⟨FR', g1, g3⟩, g6⟩ := hd
 refine ⟨fun k => Y' k ∧ ¬ FD k, fun k hk => ⟨hY k (.inl hk), fun hF => (h3 k hF).2 hk⟩, fun k hk => ?_, fun k hk hx => ⟨hk, fun hF => ?_⟩, ⟨FD, FR', h1.chg hc (fun k hk hg => ?_), g1, fun k hk => ⟨(h3 k hk).1, fun hx => hx.2 hk⟩, fun k hk => ⟨(g3 k hk).1, fun hx => (g3 k hk).2 hx.1⟩, fun k hk hF => (g3 k hF).2 (hY k (.inr hk))⟩, fun k hk => g6 k hk.1⟩
 · rcases hYr k hk.1 with (h | h) | h
   · exact .inl h
   · exact absurd h hk.2
   · exact .inr h
 · rcases hx with hx | hx
   · exact (h3 k hF).2 hx
   · have := h1.lt k hF; omega
 · rcases hG k hg with h | h
   · exact h.2 (.inr hk)
   · exact (h3 k hk).2 h
theorem TwoD.start {w1 w2 : World} (hd : DwS w0 X gD d w1) (hX : ∀ k, X k → k < w1.heap.size) (hr : RfS w1 (fun _ => False) gR dR w2) (hb : Below w1.heap.size w1 w2) : TwoD w0 X gD gR d dR w2 := by
 have hs := hd.size
 obtain ⟨⟨FD, h1, h3⟩, h6⟩ := hd
 obtain ⟨⟨FR, g1, g3⟩, g6⟩ := hr
 exact ⟨⟨FD, FR, h1.ext hb, g1, h3, fun k hk => ⟨Nat.le_trans hs (g3 k hk).1, fun hx => by have := hX k hx; have := (g3 k hk).1; omega⟩, fun k hk hF => by have := h1.lt k hk; have := (g3 k hF).1; omega⟩, fun k hk => Nat.lt_of_lt_of_le (h6 k hk) hb.size⟩
theorem WalV.only {g gw : Nat} {v : Value} {ws : Wl} {G : Nat → Prop} (h : WalV w X g gw v ws) (hc : Chg G w w') (h1 : ¬ G gw) (h2 : ∀ k, v.ownBlock = some k → ¬ G k) : WalV w' X g gw v ws :=
 (WalV.mono ((⟨h.blk, h.log, .inl rfl, fun k hk => .inr hk, h.off, h.few, h.num⟩ : WalV w (fun k => k = gw ∨ v.ownBlock = some k) g gw v ws).chg hc fun k hk => hk.elim (fun e => by rw [e]; exact h1) (h2 k)) (fun k hk => hk.elim (fun e => by rw [e]; exact h.inX) (h.lX k)))
theorem RwV.only {g gw : Nat} {v : Value} {ws : Wl} {G : Nat → Prop} (h : RwV w X g gw v ws) (hc : Chg G w w') (h1 : ¬ G gw) (h2 : ws.h.log ≠ [] → ∀ k, v.ownBlock = some k → ¬ G k) : RwV w' X g gw v ws :=
 ⟨hc.blk h.blk h1, h.log.chgE hc h2, h.inX, h.lX, h.off, h.few, h.num⟩
theorem WalV.same_set {g gw : Nat} {v : Value} {ws : Wl} (h : WalV w X g gw v ws) (h1 : Y gw) (h2 : ∀ k, v.ownBlock = some k → Y k) : WalV w Y g gw v ws := ⟨h.blk, h.log, h1, h2, h.off, h.few, h.num⟩
theorem RwV.same_set {g gw : Nat} {v : Value} {ws : Wl} (h : RwV w X g gw v ws) (h1 : Y gw) (h2 : ws.h.log ≠ [] → ∀ k, v.ownBlock = some k → Y k) : RwV w Y g gw v ws := ⟨h.blk, h.log, h1, h2, h.off, h.few, h.num⟩
end
end Go.Proofs.YtgpgcnmnfnnkjaaGreatDoor
end

section
namespace Go.Proofs.YtgpgcnmnfnnkjaaGreatDoor
open Go Go.RowKit Go.PlainAid BigFrame
def RkDid (w0 w : World) (X : Nat → Prop) (g gw : Nat) (v u : Value) (E : Int) (ws' : Wl) (d' : Dk) (e : Ending) (w' : World) : Prop :=
 e = .returned (.int .i64 E) ∧ RfS w0 X g d' w' ∧ (∃ v', RwV w' X g gw v' ws' ∧ (v' = v ∨ v' = u)) ∧ Chg (Gw w0 X gw) w w'
def anewR (d : Dk) (ws : Wl) (h : Hrd) : Int × Wl × Dk := if 99999999999999 ≤ ws.n then (14, ws, d) else keepR ws h (layW d ws.n h)
section
variable {w0 w w' : World} {X : Nat → Prop} {g gw : Nat} {v v' : Value} {ws : Wl} {d : Dk}
theorem RwV.c0 (h : RwV w X g gw v ws) : w.cell? ⟨gw, 0, none⟩ = some (.pointer (some ⟨g, 0, none⟩)) := h.blk.cell 0 _ rfl
theorem RwV.c8 (h : RwV w X g gw v ws) : w.cell? ⟨gw, 8, none⟩ = some (.int .i64 (ws.n : Int)) := h.blk.cell 8 _ rfl
theorem RwV.c9 (h : RwV w X g gw v ws) : w.cell? ⟨gw, 9, none⟩ = some (.bool ws.down) := h.blk.cell 9 _ rfl
theorem RwV.setD (h : RwV w X g gw v ws) : RwV (w.setCell ⟨gw, 9, none⟩ (.bool true)) X g gw v { ws with down := true } :=
 ⟨h.blk.set 9 (.bool true), h.log.chgE (chg_cell gw 9 _ w) (fun hne k hk e => h.off hne (by rw [hk, e])), h.inX, h.lX, h.off, h.few, h.num⟩
theorem RwV.setN (h : RwV w X g gw v ws) {n : Nat} {N : Int} (hN : N = (n : Int)) (hn : n ≤ 99999999999999) : RwV (w.setCell ⟨gw, 8, none⟩ (.int .i64 N)) X g gw v { ws with n := n } := by
 subst hN
 exact ⟨h.blk.set 8 (.int .i64 (n : Int)), h.log.chgE (chg_cell gw 8 _ w) (fun hne k hk e => h.off hne (by rw [hk, e])), h.inX, h.lX, h.off, h.few, hn⟩
theorem rwA_fill (g : Nat) (ws : Wl) (v v' : Value) (h : Hrd) : (((((((rwA g ws v).setIfInBounds 1 (.int .i64 h.term)).setIfInBounds 2 (.int .i64 h.vote)).setIfInBounds 3 (.int .i64 h.base)).setIfInBounds 4 (.int .i64 h.bterm)).setIfInBounds 5 (.int .i64 h.members)).setIfInBounds 6 (.string h.snap)).setIfInBounds 7 v' = rwA g ⟨ws.n, h, ws.down⟩ v' := by kernel_rfl
theorem RwV.fill (k : RwV w X g gw v ws) {h : Hrd} (hl : Rd etyE w v' h.log) (hx : h.log ≠ [] → ∀ k, v'.ownBlock = some k → X k) (ho : h.log ≠ [] → v'.ownBlock ≠ some gw) (hf : h.log.length ≤ 200) :
 RwV (((((((w.setCell ⟨gw, 1, none⟩ (.int .i64 h.term)).setCell ⟨gw, 2, none⟩ (.int .i64 h.vote)).setCell ⟨gw, 3, none⟩ (.int .i64 h.base)).setCell ⟨gw, 4, none⟩ (.int .i64 h.bterm)).setCell ⟨gw, 5, none⟩ (.int .i64 h.members)).setCell ⟨gw, 6, none⟩ (.string h.snap)).setCell ⟨gw, 7, none⟩ v') X g gw v' ⟨ws.n, h, ws.down⟩ ∧ Chg (fun k => k = gw) w (((((((w.setCell ⟨gw, 1, none⟩ (.int .i64 h.term)).setCell ⟨gw, 2, none⟩ (.int .i64 h.vote)).setCell ⟨gw, 3, none⟩ (.int .i64 h.base)).setCell ⟨gw, 4, none⟩ (.int .i64 h.bterm)).setCell ⟨gw, 5, none⟩ (.int .i64 h.members)).setCell ⟨gw, 6, none⟩ (.string h.snap)).setCell ⟨gw, 7, none⟩ v') := by
 have hc : Chg (fun k => k = gw) w (((((((w.setCell ⟨gw, 1, none⟩ (.int .i64 h.term)).setCell ⟨gw, 2, none⟩ (.int .i64 h.vote)).setCell ⟨gw, 3, none⟩ (.int .i64 h.base)).setCell ⟨gw, 4, none⟩ (.int .i64 h.bterm)).setCell ⟨gw, 5, none⟩ (.int .i64 h.members)).setCell ⟨gw, 6, none⟩ (.string h.snap)).setCell ⟨gw, 7, none⟩ v') := ((((((((Chg.refl (fun k => k = gw) w).setCell (p := ⟨gw, 1, none⟩) rfl (.int .i64 h.term)).setCell (p := ⟨gw, 2, none⟩) rfl (.int .i64 h.vote)).setCell (p := ⟨gw, 3, none⟩) rfl (.int .i64 h.base)).setCell (p := ⟨gw, 4, none⟩) rfl (.int .i64 h.bterm)).setCell (p := ⟨gw, 5, none⟩) rfl (.int .i64 h.members)).setCell (p := ⟨gw, 6, none⟩) rfl (.string h.snap)).setCell (p := ⟨gw, 7, none⟩) rfl v')
 refine ⟨⟨?_, hl.chgE hc (fun hne k hk e => ho hne (by rw [hk, e])), k.inX, hx, ho, hf, k.num⟩, hc⟩
 rw [← rwA_fill (v := v) (ws := ws)]
 exact (((((((k.blk.set 1 (.int .i64 h.term)).set 2 (.int .i64 h.vote)).set 3 (.int .i64 h.base)).set 4 (.int .i64 h.bterm)).set 5 (.int .i64 h.members)).set 6 (.string h.snap)).set 7 v')
theorem nameR_len (n : Nat) : (nameW n).size = 4 + (Lib.decDigits n).length := by rw [← bytes_size, nameW_bytes, List.length_append]; rfl
theorem RwV.keep2 {X2 : Nat → Prop} (h : RwV w X g gw v ws) (hX : ∀ k, X k → X2 k) (hc : Chg (Gx w0 X2) w w') : RwV w' X g gw v ws := h.chg hc fun k hk hG => hG.2 (hX k hk)
theorem RkDid.done {w2 : World} {d' : Dk} {X2 : Nat → Prop} {h : Hrd} {u : Value} (hd : RfS w0 X2 g d' w2) (hX : ∀ k, X k → X2 k) (hv : RwV w2 X g gw v ws) (hc : Chg (Gx w0 X) w w2) (hl : Rd etyE w2 u h.log) (hx : h.log ≠ [] → ∀ k, u.ownBlock = some k → X k) (ho : h.log ≠ [] → u.ownBlock ≠ some gw) (hf : h.log.length ≤ 200) {N : Int} (hN : N = ((ws.n + 1 : Nat) : Int)) (hn : ws.n + 1 ≤ 99999999999999) :
 RkDid w0 w X g gw v u 0 ⟨ws.n + 1, h, ws.down⟩ d' (.returned (.int .i64 0)) ((((((((w2.setCell ⟨gw, 8, none⟩ (.int .i64 N)).setCell ⟨gw, 1, none⟩ (.int .i64 h.term)).setCell ⟨gw, 2, none⟩ (.int .i64 h.vote)).setCell ⟨gw, 3, none⟩ (.int .i64 h.base)).setCell ⟨gw, 4, none⟩ (.int .i64 h.bterm)).setCell ⟨gw, 5, none⟩ (.int .i64 h.members)).setCell ⟨gw, 6, none⟩ (.string h.snap)).setCell ⟨gw, 7, none⟩ u) := by
 have h1 := hv.setN hN hn
 have c1 := chg_cell gw 8 (.int .i64 N) w2
 obtain ⟨h2, c2⟩ := h1.fill (h := h) (v' := u) (hl.chgE c1 (fun hne k hk e => ho hne (by rw [hk, e]))) hx ho hf
 have cc := c1.step c2
 exact ⟨rfl, (hd.chgX cc (fun k hk => .inl (by rw [hk]; exact hX _ hv.inX))).mono hX, ⟨u, h2, .inr rfl⟩, (hc.mono fun k _ hk => .inl hk).step (cc.mono fun k _ hk => .inr hk)⟩
theorem RkDid.down {u : Value} {w2 : World} {E : Int} {d' : Dk} {X2 : Nat → Prop} (hd : RfS w0 X2 g d' w2) (hX : ∀ k, X k → X2 k) (hv : RwV w2 X g gw v ws) (hc : Chg (Gx w0 X) w w2) : RkDid w0 w X g gw v u E { ws with down := true } d' (.returned (.int .i64 E)) (w2.setCell ⟨gw, 9, none⟩ (.bool true)) :=
 ⟨rfl, (hd.chgX (chg_cell gw 9 _ w2) (fun k hk => .inl (by rw [hk]; exact hX _ hv.inX))).mono hX, ⟨v, hv.setD, .inl rfl⟩, (hc.mono fun k _ hk => .inl hk).step ((chg_cell gw 9 _ w2).mono fun k _ hk => .inr hk)⟩
end
set_option maxRecDepth 100000 in
set_option maxHeartbeats 16000000 in
theorem rkAnew {w0 w : World} {X : Nat → Prop} {g gw : Nat} {d d' : Dk} {v : Value} {ws ws' : Wl} (hd : RfS w0 X g d w) {m : Nat} (pi : PInv m d) (hm : m ≤ 890) (hw : RwV w X g gw v ws) (h : Hrd) (hin : HrdIn h) (hsn : h.snap = sNone) (hdw : ws.down = false) (hfew : h.log.length ≤ 200) (u : Value) (hu : Rd etyE w u h.log) (hux : h.log ≠ [] → ∀ k, u.ownBlock = some k → X k) (hug : h.log ≠ [] → u.ownBlock ≠ some gw) {E : Int} (he : anewR d ws h = (E, ws', d')) :
 Calls Tryz.prog 48 #[.pointer (some ⟨gw, 0, none⟩), hrdA h u] w (RkDid w0 w X g gw v u E ws' d') := by
 obtain ⟨pu, cu, rfl⟩ := hu.shape
 have he2 : anewR d ws h = if 99999999999999 ≤ ws.n then (14, ws, d) else keepR ws h (layW d ws.n h) := rfl
 rw [he] at he2
 have He := Lib.hid he2
 have Hsn := Lib.hid hsn
 have Hdw := Lib.hid hdw
 clear he he2 hsn hdw
 have hs0 := hd.size
 have kh := Blk.new w #[.int .i64 h.term, .int .i64 h.vote, .int .i64 h.base, .int .i64 h.bterm, .int .i64 h.members, .string h.snap, .slice pu h.log.length cu] 24
 have ca := below_alloc w (.cells #[.int .i64 h.term, .int .i64 h.vote, .int .i64 h.base, .int .i64 h.bterm, .int .i64 h.members, .string h.snap, .slice pu h.log.length cu] 24)
 have hwl := hw.blk.lt
 have c8 : (w.alloc (.cells #[.int .i64 h.term, .int .i64 h.vote, .int .i64 h.base, .int .i64 h.bterm, .int .i64 h.members, .string h.snap, .slice pu h.log.length cu] 24)).cell? ⟨gw, 8, none⟩ = some (.int .i64 (ws.n : Int)) := (hw.ext ca).c8
 have hsA : (w.alloc (.cells #[.int .i64 h.term, .int .i64 h.vote, .int .i64 h.base, .int .i64 h.bterm, .int .i64 h.members, .string h.snap, .slice pu h.log.length cu] 24)).heap.size = w.heap.size + 1 := by simp
 have hgne : gw ≠ w.heap.size := by omega
 by_cases hfull : 99999999999999 ≤ ws.n
 · have hfi : (99999999999999 : Int) ≤ (ws.n : Int) := by omega
   have he2 := He.out
   rw [if_pos hfull] at he2
   obtain ⟨rfl, rfl, rfl⟩ : E = 14 ∧ ws' = ws ∧ d' = d := by simpa using he2
   have Hfin := Lib.hid (And.intro (hd.ext ca) (And.intro (hw.ext ca) (Chg.of_below (F := Gw w0 X gw) ca)))
   clear hw hd kh He hfull he2
   go_enter Tryz.func48, Tryz.ntmps48
   go_wp2_with fail
   go_ret
   exact ⟨rfl, Hfin.out.1, ⟨_, Hfin.out.2.1, .inl rfl⟩, Hfin.out.2.2⟩
 have hfi : ¬ (99999999999999 : Int) ≤ (ws.n : Int) := by omega
 have he2 := He.out
 rw [if_neg hfull] at he2
 have HeL := Lib.hid he2
 have hn1 : ws.n + 1 ≤ 99999999999999 := by omega
 have hdg := dec_few hn1
 clear He he2 hfull
 have hcat := Lib.hid (name_cat (ws.n + 1))
 obtain ⟨⟨i1, i2⟩, ⟨i3, i4⟩, ⟨i5, i6⟩, ⟨i7, i8⟩, ⟨i9, i10⟩, _, ientry⟩ := hin
 have ca' := ca
 have huA := hu.ext ca
 have hwA := hw.ext ca
 have hdA := hd.ext ca
 clear hu
 go_enter Tryz.func48, Tryz.ntmps48
 go_wp2_with fail
 generalize hWA : w.alloc (.cells #[.int .i64 h.term, .int .i64 h.vote, .int .i64 h.base, .int .i64 h.bterm, .int .i64 h.members, .string h.snap, .slice pu h.log.length cu] 24) = wA at *
 clear hWA
 refine (rkDigits (ws.n + 1) _ (by omega) (by omega) wA).mono ?_
 rintro e w1 ⟨rfl, b1⟩
 have kh1 := kh.ext b1
 have x0 := kh1.cell 0 _ rfl
 have x1 := kh1.cell 1 _ rfl
 have x2 := kh1.cell 2 _ rfl
 have x3 := kh1.cell 3 _ rfl
 have x4 := kh1.cell 4 _ rfl
 have hA1 := b1.size
 have bL := below_alloc w1 (.cells #[.int .i64 h.term, .int .i64 h.vote, .int .i64 h.base, .int .i64 h.bterm, .int .i64 h.members] 3)
 have lit : Rd intsE (w1.alloc (.cells #[.int .i64 h.term, .int .i64 h.vote, .int .i64 h.base, .int .i64 h.bterm, .int .i64 h.members] 3)) (.slice (some ⟨w1.heap.size, 0, none⟩) 5 5) [h.term, h.vote, h.base, h.bterm, h.members] := litI w1 #[.int .i64 h.term, .int .i64 h.vote, .int .i64 h.base, .int .i64 h.bterm, .int .i64 h.members] [h.term, h.vote, h.base, h.bterm, h.members] 5 _ rfl rfl rfl (by unfold maxLen; omega)
 clear c8
 have kh1' := kh
 go_wp2_with fail
 refine (rkPut (.slice none 0 0) _ [] 1 [h.term, h.vote, h.base, h.bterm, h.members] _ (Bytes.nil _) lit (by simp) (by simp) ⟨by decide, by decide⟩ (by intro y hy; simp only [List.mem_cons, List.not_mem_nil, or_false] at hy; rcases hy with rfl | rfl | rfl | rfl | rfl; exact ⟨i1, i2⟩; exact ⟨i3, i4⟩; exact ⟨i5, i6⟩; exact ⟨i7, i8⟩; exact ⟨i9, i10⟩)).mono ?_
 rintro e w2 ⟨q2, rfl, own2, b2⟩
 rw [List.nil_append] at own2
 have b02 := bL.trans (b2.mono bL.size)
 have bA2 := b1.trans (b02.mono b1.size)
 have kh2 := kh1.ext b02
 have hrl := recB_le [1, h.term, h.vote, h.base, h.bterm, h.members]
 simp only [List.length_cons, List.length_nil] at hrl
 have hsz2 := bA2.size
 clear x0 x1 x2 x3 x4 lit kh1
 have hB1 : wA.heap.size ≤ w1.heap.size := hA1
 go_upto_block 0 with (fail)
 go_cut [6] from 11 (fun o wi => OwnB wi wA.heap.size 5 o (recB [1, h.term, h.vote, h.base, h.bterm, h.members] ++ etysB h.log) ∧ Below wA.heap.size wA wi)
 case first =>
  go_wp2_with fail
  go_loopw [6, 7] (fun o i wr => ∃ k : Nat, k ≤ h.log.length ∧ i = .int .i64 k ∧ OwnB wr wA.heap.size 5 o (recB [1, h.term, h.vote, h.base, h.bterm, h.members] ++ etysB (h.log.take k)) ∧ Below wA.heap.size wA wr) (fun _ i _ => h.log.length - (intOf i).toNat)
  case atStart => exact ⟨0, Nat.zero_le _, rfl, by rw [List.take_zero, show etysB [] = [] from rfl, List.append_nil]; exact own2.base (Nat.le_trans hA1 bL.size), bA2⟩
  case round =>
   obtain ⟨k, hk, rfl, own, hbw⟩ := hrel
   have khr := kh1'.ext hbw
   have x6 := khr.cell 6 _ rfl
   have hszr := hbw.size
   obtain ⟨po, co, rfl⟩ := own.bytes.shape
   by_cases hlt : k < h.log.length
   · have hur := huA.ext hbw
     obtain ⟨bb, off, rfl⟩ := Rd.blk hur (by omega)
     obtain ⟨y0, y1, y2⟩ := ety3 hur hlt
     have hxin := ientry h.log[k] (List.getElem_mem hlt)
     have hel := etysB_le (l := h.log.take k) (fun x hx => (ientry x (List.mem_of_mem_take hx)).2.2)
     rw [List.length_take, Nat.min_eq_left hk] at hel
     have hst : recB [1, h.term, h.vote, h.base, h.bterm, h.members] ++ etysB (h.log.take (k + 1)) = (recB [1, h.term, h.vote, h.base, h.bterm, h.members] ++ etysB (h.log.take k)) ++ etyB h.log[k] := by rw [List.take_succ_eq_append_getElem hlt, etysB_snoc, List.append_assoc]
     have Hst := Lib.hid hst
     have hol : (recB [1, h.term, h.vote, h.base, h.bterm, h.members] ++ etysB (h.log.take k)).length ≤ 1200000000 := by rw [List.length_append]; omega
     have hi : (k : Int) < (h.log.length : Int) := by omega
     have hi0 : (0 : Int) ≤ (k : Int) := by omega
     clear hst hel
     generalize h.log[k] = x at *
     generalize recB [1, h.term, h.vote, h.base, h.bterm, h.members] ++ etysB (h.log.take k) = O at *
     go_wp2_with fail
     have hpe := rkPutEntry _ O x wr own.bytes (by omega) hxin
     unfold etyV at hpe
     with_reducible refine hpe.mono ?_
     rintro e w3 ⟨q3, rfl, own3, b3⟩
     go_wp2_with fail
     go_roundw
     case rel => exact ⟨k + 1, by omega, by go_num, by rw [Hst.out]; exact own3.base hszr, hbw.trans (b3.mono hszr)⟩
     case measure => simp [intOf]; omega
   · have hke : k = h.log.length := by omega
     have hi : ¬ (k : Int) < (h.log.length : Int) := by omega
     have hown : OwnB wr wA.heap.size 5 (.slice po (recB [1, h.term, h.vote, h.base, h.bterm, h.members] ++ etysB (h.log.take k)).length co) (recB [1, h.term, h.vote, h.base, h.bterm, h.members] ++ etysB h.log) := by
      have h1 := own
      rw [hke, List.take_of_length_le (Nat.le_refl _)] at h1 ⊢
      exact h1
     have Hown := Lib.hid hown
     clear hown hke own
     go_wp2_with fail
     go_meet
     refine ⟨?_, hbw⟩
     have h1 := Hown.out
     rw [List.length_append] at h1
     exact h1
 case rest =>
  obtain ⟨own3, b3⟩ := hcut
  obtain ⟨w3, hw3⟩ : ∃ z, z = wc := ⟨_, rfl⟩
  subst hw3
  clear own2 b2 b02 bA2 kh2 bL
  have hsz3 := b3.size
  have hel := etysB_le (l := h.log) (fun x hx => (ientry x hx).2.2)
  have hlen3 : (recB [1, h.term, h.vote, h.base, h.bterm, h.members] ++ etysB h.log).length ≤ 1200000000 := by rw [List.length_append]; omega
  have hlay0 : recB [1, h.term, h.vote, h.base, h.bterm, h.members] ++ etysB h.log ++ recB [3] = layB h := rfl
  have Hlay := Lib.hid hlay0
  clear hlay0 hel
  generalize recB [1, h.term, h.vote, h.base, h.bterm, h.members] ++ etysB h.log = O at *
  have hB := own3.bytes
  obtain ⟨po, co, hpo⟩ := hB.shape
  subst hpo
  go_wp2_with fail
  have hi3 : In64 3 := ⟨by decide, by decide⟩
  with_reducible refine (rkPut _ (.slice none 0 0) _ 3 [] w3 hB (Rd.nil _) (by omega) (by simp) hi3 (by simp)).mono ?_
  rintro e w4 ⟨q4, rfl, own4, b4⟩
  rw [Hlay.out] at own4
  have hlb : (layB h).length ≤ 1300000000 := by
   have := recB_le [3]
   rw [← Hlay.out, List.length_append]; simp only [List.length_singleton] at this; omega
  have bA4 := b3.trans (b4.mono hsz3)
  have b04 := ca'.trans (bA4.mono ca'.size)
  have own5 : OwnB w4 wA.heap.size 5 q4 (layB h) := own4.base hsz3
  clear own3 hB own4
  have hsz4 := b04.size
  have hX'' : ∃ X2 : Nat → Prop, X2 = fun k => X k ∨ (w.heap.size ≤ k ∧ k < w4.heap.size) := ⟨_, rfl⟩
  obtain ⟨X2, hX2⟩ := hX''
  have hXl : ∀ k, X k → X2 k := fun k hk => by rw [hX2]; exact .inl hk
  have hXn : ∀ k, w.heap.size ≤ k → k < w4.heap.size → X2 k := fun k h1 h2 => by rw [hX2]; exact .inr ⟨h1, h2⟩
  have hd4 : RfS w0 X2 g d w4 := hd.more b04 (fun k hk => by rw [hX2] at hk; exact hk)
  have hw4 : RwV w4 X g gw v ws := hw.ext b04
  have kh4 := kh1'.ext bA4
  have hu4 := huA.ext bA4
  have hqX : ∀ k, q4.ownBlock = some k → X2 k := fun k hk => hXn k (by have := (own5.lt k hk).1; omega) (own5.lt k hk).2
  have hgX : X2 w.heap.size := hXn _ (Nat.le_refl _) kh4.lt
  have hux2 : h.log ≠ [] → ∀ k, (Value.slice pu h.log.length cu).ownBlock = some k → X2 k := fun hne k hk => hXl k (hux hne k hk)
  have hcm : ∀ wz, Chg (Gx w0 X2) w4 wz → Chg (Gx w0 X) w wz := fun wz hc => (Chg.of_below (F := Gx w0 X) b04).step (hc.mono fun k _ hk => ⟨hk.1, fun h => hk.2 (hXl k h)⟩)
  have Hcm := Lib.hid hcm
  have HXl := Lib.hid hXl
  have HwX := Lib.hid hw.inX
  clear hcm hX2 hXl hXn hw hd hwA hdA huA
  obtain ⟨E1, D1, hap⟩ : ∃ E1 D1, appendD d (nameW (ws.n + 1)) (layB h) = (E1, D1) := ⟨_, _, rfl⟩
  have hlw : layW d ws.n h = (let r := writeD d (ws.n + 1) (layB h); if r.1 = 0 then (if ws.n = 0 then (0, 1, r.2) else let q := removeD r.2 (nameW ws.n); (q.1, ws.n + 1, q.2)) else (r.1, ws.n, r.2)) := rfl
  have hwr : writeD d (ws.n + 1) (layB h) = thenD (appendD d (nameW (ws.n + 1)) (layB h)) fun d => syncD d (nameW (ws.n + 1)) := rfl
  rw [hap] at hwr
  have pi1 : PInv (m + 1) D1 := by have := pi.append (nameW (ws.n + 1)) (layB h); rw [hap] at this; exact this
  have hra := rAppend hd4 (pi.ok (by omega)) (s := ((⟨#[119, 97, 108, 46]⟩ : ByteArray) ++ (⟨(Lib.decDigits (ws.n + 1)).toArray⟩ : ByteArray))) (p := layB h) (E := E1) (d' := D1) (by rw [hcat.out]; exact hap) (by rw [hcat.out, nameR_len]; omega) (by omega) own5.bytes (fun _ k hk => .inr (hqX k hk))
  have d0 := hw4.c0
  have Hlw := Lib.hid hlw
  have Hwr := Lib.hid hwr
  clear hlw hwr hap
  obtain ⟨pq, cq, rfl⟩ := own5.bytes.shape
  go_wp2_with fail
  with_reducible refine hra.mono ?_
  rintro e w5 ⟨rfl, hd5, ch5⟩
  have hw5 := hw4.keep2 HXl.out ch5
  clear hra d0 hd4
  by_cases hE1 : E1 = 0
  case neg =>
   have hi : (E1 != 0) = true := by simpa using hE1
   have hwE : writeD d (ws.n + 1) (layB h) = (E1, D1) := Hwr.out.trans (if_neg hE1)
   have hres : E = E1 ∧ ws' = ⟨ws.n, ws.h, true⟩ ∧ d' = D1 := by
    have h1 := HeL.out
    rw [Hlw.out, hwE] at h1
    dsimp only at h1
    rw [if_neg hE1] at h1
    unfold keepR at h1
    rw [if_neg hE1] at h1
    simpa using h1
   obtain ⟨rfl, rfl, rfl⟩ := hres
   have c9 := hw5.c9
   have f9 := hw5.blk.frozen 9
   have Hfin := Lib.hid (RkDid.down (u := .slice pu h.log.length cu) (E := E) hd5 HXl.out hw5 (Hcm.out _ ch5))
   clear hw5 hd5 ch5 own5 hu4 kh4 hE1
   go_wp2_with fail
   go_ret
   exact Hfin.out
  subst hE1
  obtain ⟨E2, D2, hsy⟩ : ∃ E2 D2, syncD D1 (nameW (ws.n + 1)) = (E2, D2) := ⟨_, _, rfl⟩
  have hwE : writeD d (ws.n + 1) (layB h) = (E2, D2) := Hwr.out.trans ((if_pos rfl).trans hsy)
  have pi2 : PInv (m + 1) D2 := by have := pi1.sync0 (nameW (ws.n + 1)); rw [hsy] at this; exact this
  have hrs := rSync hd5 (pi1.ok (by omega)) (s := ((⟨#[119, 97, 108, 46]⟩ : ByteArray) ++ (⟨(Lib.decDigits (ws.n + 1)).toArray⟩ : ByteArray))) (E := E2) (d' := D2) (by rw [hcat.out]; exact hsy)
  have HwE := Lib.hid hwE
  have d0 := hw5.c0
  clear hsy hwE Hwr own5
  go_wp2_with fail
  with_reducible refine hrs.mono ?_
  rintro e w6 ⟨rfl, hd6, ch6⟩
  have hw6 := hw5.keep2 HXl.out ch6
  have ch46 := ch5.step ch6
  have kh6 := ch46.blk kh4 (fun hG => hG.2 hgX)
  have hu6 := hu4.chgE ch46 (fun hne k hk hG => hG.2 (hux2 hne k hk))
  clear hrs d0 hd5 hw5 hw4 ch5 ch6 kh4 hu4 hqX
  by_cases hE2 : E2 = 0
  case neg =>
   have hi : (E2 != 0) = true := by simpa using hE2
   have hres : E = E2 ∧ ws' = ⟨ws.n, ws.h, true⟩ ∧ d' = D2 := by
    have h1 := HeL.out
    rw [Hlw.out, HwE.out] at h1
    dsimp only at h1
    rw [if_neg hE2] at h1
    unfold keepR at h1
    rw [if_neg hE2] at h1
    simpa using h1
   obtain ⟨rfl, rfl, rfl⟩ := hres
   have c9 := hw6.c9
   have f9 := hw6.blk.frozen 9
   have Hfin := Lib.hid (RkDid.down (u := .slice pu h.log.length cu) (E := E) hd6 HXl.out hw6 (Hcm.out _ ch46))
   clear hw6 hd6 ch46 hu6 kh6 hE2
   go_wp2_with fail
   go_ret
   exact Hfin.out
  subst hE2
  have c8 := hw6.c8
  have hbare : bareOf h = h := by have := Hsn.out; unfold bareOf; rw [← this]
  by_cases hn0 : ws.n = 0
  · have hres : E = 0 ∧ ws' = ⟨ws.n + 1, h, ws.down⟩ ∧ d' = D2 := by
     have h1 := HeL.out
     rw [Hlw.out, HwE.out] at h1
     dsimp only at h1
     rw [if_pos rfl, if_pos hn0] at h1
     unfold keepR at h1
     rw [if_pos rfl, hbare] at h1
     rw [Hdw.out, hn0]
     simpa using h1
    obtain ⟨rfl, rfl, rfl⟩ := hres
    have hdec : decide (0 < ws.n) = false := decide_eq_false (by omega)
    go_upto_if 80 with (fail)
    try rw [hdec]
    have Hfin := Lib.hid (RkDid.done (N := (ws.n : Int) + 1) hd6 HXl.out hw6 (Hcm.out _ ch46) hu6 hux hug hfew (by omega) hn1)
    clear hn0 hbare hdec
    have y0 := kh6.cell 0 _ rfl
    have y1 := kh6.cell 1 _ rfl
    have y2 := kh6.cell 2 _ rfl
    have y3 := kh6.cell 3 _ rfl
    have y4 := kh6.cell 4 _ rfl
    have y5 := kh6.cell 5 _ rfl
    have y6 := kh6.cell 6 _ rfl
    have x1 := hw6.blk.cell 1 _ rfl
    have xf1 := hw6.blk.frozen 1
    have x2 := hw6.blk.cell 2 _ rfl
    have xf2 := hw6.blk.frozen 2
    have x3 := hw6.blk.cell 3 _ rfl
    have xf3 := hw6.blk.frozen 3
    have x4 := hw6.blk.cell 4 _ rfl
    have xf4 := hw6.blk.frozen 4
    have x5 := hw6.blk.cell 5 _ rfl
    have xf5 := hw6.blk.frozen 5
    have x6 := hw6.blk.cell 6 _ rfl
    have xf6 := hw6.blk.frozen 6
    have x7 := hw6.blk.cell 7 _ rfl
    have xf7 := hw6.blk.frozen 7
    have x8 := hw6.blk.cell 8 _ rfl
    have xf8 := hw6.blk.frozen 8
    clear hw6 hd6 ch46 hu6 kh6 HeL
    go_wp2_with fail
    go_ret
    exact Hfin.out
  · have hdec : decide (0 < ws.n) = true := decide_eq_true (by omega)
    go_upto_if 80 with (fail)
    try rw [hdec]
    clear hdec
    obtain ⟨E3, D3, hrm⟩ : ∃ E3 D3, removeD D2 (nameW ws.n) = (E3, D3) := ⟨_, _, rfl⟩
    have hcat0 := Lib.hid (name_cat ws.n)
    have hdg0 := dec_few hw6.num
    have hnn := hw6.num
    have hrr : ∀ z, Below w6.heap.size w6 z → Calls Tryz.prog 46 #[.pointer (some ⟨g, 0, none⟩), .string ((⟨#[119, 97, 108, 46]⟩ : ByteArray) ++ (⟨(Lib.decDigits (ws.n)).toArray⟩ : ByteArray))] z fun e w' => e = .returned (.int .i64 E3) ∧ RfS w0 X2 g D3 w' ∧ Chg (Gx w0 X2) z w' := fun z hz =>
     rRemove (hd6.ext hz) (pi2.ok (by omega)) (s := ((⟨#[119, 97, 108, 46]⟩ : ByteArray) ++ (⟨(Lib.decDigits (ws.n)).toArray⟩ : ByteArray))) (E := E3) (d' := D3) (by rw [hcat0.out]; exact hrm)
    have hlw2 : layW d ws.n h = (E3, ws.n + 1, D3) := by rw [Hlw.out, HwE.out]; dsimp only; rw [if_pos rfl, if_neg hn0, hrm]
    have Hlw2 := Lib.hid hlw2
    have Hrr := Lib.hid hrr
    clear hrm hlw2 hrr HwE Hlw hn0
    have Hbare := Lib.hid hbare
    clear hbare
    have hw6D := hw6.ext (below_drew w6.heap.size w6)
    go_wp2_with fail
    generalize hn0' : ws.n = n at *
    have Hn := Lib.hid hn0'
    clear hn0'
    refine wp_region_F (n := 11) (S := fun w' : World => w'.cell? ⟨gw, 0, none⟩ = some (.pointer (some ⟨g, 0, none⟩)) ∧ w'.cell? ⟨gw, 8, none⟩ = some (.int .i64 (n : Int))) (by kernel_rfl) ?_
    have hHeld : (fun w' : World => w'.cell? ⟨gw, 0, none⟩ = some (.pointer (some ⟨g, 0, none⟩)) ∧ w'.cell? ⟨gw, 8, none⟩ = some (.int .i64 (n : Int))) w6.drew := ⟨hw6D.c0, by rw [← Hn.out]; exact hw6D.c8⟩
    refine wpAnyF_tk 0 _ _ _ (v := ?_) rfl (by kernel_rfl) (fun _ _ _ h => h) ?_ hHeld ?_
    rotate_left
    · intro w hSw
      try dsimp only at hSw
      obtain ⟨_, _⟩ := hSw
      dsimp only [bare]
      go_simp <;> with_reducible rfl
    try simp only [bare, Act.put, lyA, lyZ, lyS]
    refine wpAnyF_tk 1 _ _ _ (v := ?_) rfl (by kernel_rfl) (fun _ _ _ h => h) ?_ hHeld ?_
    rotate_left
    · intro w hSw
      try dsimp only at hSw
      obtain ⟨_, _⟩ := hSw
      dsimp only [bare]
      go_simp <;> with_reducible rfl
    try simp only [bare, Act.put, lyA, lyZ, lyS]
    refine wpAnyF_tk 2 _ _ _ (v := ?_) rfl (by kernel_rfl) (fun _ _ _ h => h) ?_ hHeld ?_
    rotate_left
    · intro w hSw
      try dsimp only at hSw
      obtain ⟨_, _⟩ := hSw
      dsimp only [bare]
      go_simp <;> with_reducible rfl
    try simp only [bare, Act.put, lyA, lyZ, lyS]
    refine wpAnyF_tk 3 _ _ _ (v := ?_) rfl (by kernel_rfl) (fun _ _ _ h => h) ?_ hHeld ?_
    rotate_left
    · intro w hSw
      try dsimp only at hSw
      obtain ⟨_, _⟩ := hSw
      dsimp only [bare]
      go_simp <;> with_reducible rfl
    try simp only [bare, Act.put, lyA, lyZ, lyS]
    refine wpAnyF_tk 4 _ _ _ (v := ?_) rfl (by kernel_rfl) (fun _ _ _ h => h) ?_ hHeld ?_
    rotate_left
    · intro w hSw
      try dsimp only at hSw
      obtain ⟨_, _⟩ := hSw
      dsimp only [bare]
      go_simp <;> with_reducible rfl
    try simp only [bare, Act.put, lyA, lyZ, lyS]
    refine wpAnyF_tk 5 _ _ _ (v := ?_) rfl (by kernel_rfl) (fun _ _ _ h => h) ?_ hHeld ?_
    rotate_left
    · intro w hSw
      try dsimp only at hSw
      obtain ⟨_, _⟩ := hSw
      dsimp only [bare]
      go_simp <;> with_reducible rfl
    try simp only [bare, Act.put, lyA, lyZ, lyS]
    refine wpAnyF_tk 6 _ _ _ (v := ?_) rfl (by kernel_rfl) (fun _ _ _ h => h) ?_ hHeld ?_
    rotate_left
    · intro w hSw
      try dsimp only at hSw
      obtain ⟨_, _⟩ := hSw
      dsimp only [bare]
      go_simp <;> with_reducible rfl
    try simp only [bare, Act.put, lyA, lyZ, lyS]
    refine wpAnyF_tk 7 _ _ _ (v := ?_) rfl (by kernel_rfl) (fun _ _ _ h => h) ?_ hHeld ?_
    rotate_left
    · intro w hSw
      try dsimp only at hSw
      obtain ⟨_, _⟩ := hSw
      dsimp only [bare]
      go_simp <;> with_reducible rfl
    try simp only [bare, Act.put, lyA, lyZ, lyS]
    refine wpAnyF_one 8 (some 89) (Op.call { callee := Callee.value (Operand.func 43), args := #[Operand.tmp 88], argTypes := #[3] }) 9 rfl (by kernel_rfl) (fun K hK => ?_)
    dsimp only [bare]; go_simp
    refine (rkDigits n _ rfl (by omega) w6.drew).mono ?_
    rintro e w7 ⟨rfl, b7⟩
    dsimp only
    have b67 : Below w6.heap.size w6 w7 := (below_drew w6.heap.size w6).trans b7
    have hw7 := hw6.ext b67
    have hcl : ¬ 9223372036854775807 < 4 + (Lib.decDigits n).length := by omega
    refine hK _ _ ⟨hw7.c0, by rw [← Hn.out]; exact hw7.c8⟩ (fun hHeld => ?_)
    clear hK K
    try simp only [bare, Act.put, lyA, lyZ, lyS]
    refine wpAnyF_tk 9 _ _ _ (v := ?_) rfl (by kernel_rfl) (fun _ _ _ h => h) ?_ hHeld ?_
    rotate_left
    · intro w hSw
      try dsimp only at hSw
      obtain ⟨_, _⟩ := hSw
      dsimp only [bare]
      go_simp <;> with_reducible rfl
    try simp only [bare, Act.put, lyA, lyZ, lyS]
    refine wpAnyF_one 10 (some 91) (Op.call { callee := Callee.value (Operand.func 46), args := #[Operand.tmp 84, Operand.tmp 90], argTypes := #[29, 9] }) 3 rfl (by kernel_rfl) (fun K hK => ?_)
    dsimp only [bare]; go_simp
    refine (Hrr.out w7 b67).mono ?_
    rintro e w8 ⟨rfl, hd8, ch8⟩
    dsimp only
    have hw8 := hw7.keep2 HXl.out ch8
    have ch48 := (ch46.step (.of_below b67)).step ch8
    have kh8 := ((ch8.blk (kh6.ext b67)) (fun hG => hG.2 hgX))
    have hu8 := (hu6.ext b67).chgE ch8 (fun hne k hk hG => hG.2 (hux2 hne k hk))
    refine hK _ _ ⟨hw8.c0, by rw [← Hn.out]; exact hw8.c8⟩ (fun hHeld => ?_)
    clear hK K
    try simp only [bare, Act.put, lyA, lyZ, lyS]
    refine wpAnyF_end (some 10) (Op.assign (Operand.tmp 91)) 3 rfl (by kernel_rfl) (by kernel_rfl) (fun K hK => ?_)
    dsimp only [bare]; go_simp
    refine hK _ _ ?_
    clear hK K
    try simp only [bare, Act.put, lyA, lyZ, lyS]
    clear hw6 hw7 hw6D hd6 ch46 kh6 hu6 hHeld c8 b67 b7
    by_cases hE3 : E3 = 0
    case neg =>
     have hi : (E3 != 0) = true := by simpa using hE3
     have hres : E = E3 ∧ ws' = ⟨n, ws.h, true⟩ ∧ d' = D3 := by
      have h1 := HeL.out
      rw [Hlw2.out] at h1
      unfold keepR at h1
      rw [if_neg hE3, Hn.out] at h1
      simpa using h1
     obtain ⟨rfl, rfl, rfl⟩ := hres
     have c9 := hw8.c9
     have f9 := hw8.blk.frozen 9
     have hf := RkDid.down (u := .slice pu h.log.length cu) (E := E) hd8 HXl.out hw8 (Hcm.out _ ch48)
     rw [Hn.out] at hf
     have Hfin := Lib.hid hf
     clear hw8 hd8 ch48 hu8 kh8 hE3 hf
     go_wp2_with fail
     go_ret
     exact Hfin.out
    subst hE3
    have hres : E = 0 ∧ ws' = ⟨n + 1, h, ws.down⟩ ∧ d' = D3 := by
     have h1 := HeL.out
     rw [Hlw2.out] at h1
     unfold keepR at h1
     rw [if_pos rfl, Hbare.out] at h1
     rw [Hdw.out]
     simpa using h1
    obtain ⟨rfl, rfl, rfl⟩ := hres
    have hf := RkDid.done (N := (n : Int) + 1) hd8 HXl.out hw8 (Hcm.out _ ch48) hu8 hux hug hfew (by rw [Hn.out]; omega) (by rw [Hn.out]; exact hn1)
    rw [Hn.out] at hf
    have Hfin := Lib.hid hf
    clear hf
    have y0 := kh8.cell 0 _ rfl
    have y1 := kh8.cell 1 _ rfl
    have y2 := kh8.cell 2 _ rfl
    have y3 := kh8.cell 3 _ rfl
    have y4 := kh8.cell 4 _ rfl
    have y5 := kh8.cell 5 _ rfl
    have y6 := kh8.cell 6 _ rfl
    have x1 := hw8.blk.cell 1 _ rfl
    have xf1 := hw8.blk.frozen 1
    have x2 := hw8.blk.cell 2 _ rfl
    have xf2 := hw8.blk.frozen 2
    have x3 := hw8.blk.cell 3 _ rfl
    have xf3 := hw8.blk.frozen 3
    have x4 := hw8.blk.cell 4 _ rfl
    have xf4 := hw8.blk.frozen 4
    have x5 := hw8.blk.cell 5 _ rfl
    have xf5 := hw8.blk.frozen 5
    have x6 := hw8.blk.cell 6 _ rfl
    have xf6 := hw8.blk.frozen 6
    have x7 := hw8.blk.cell 7 _ rfl
    have xf7 := hw8.blk.frozen 7
    have x8 := hw8.c8
    rw [Hn.out] at x8
    have xf8 := hw8.blk.frozen 8
    clear hw8 hd8 ch48 hu8 kh8 HeL
    go_wp2_with fail
    go_ret
    exact Hfin.out
end Go.Proofs.YtgpgcnmnfnnkjaaGreatDoor
end
