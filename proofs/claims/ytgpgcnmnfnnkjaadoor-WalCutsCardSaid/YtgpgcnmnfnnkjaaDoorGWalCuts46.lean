/- The walk of WalCuts. -/
import Derived.Test.YtgpgcnmnfnnkjaaDoorGWalCuts37
import Derived.Test.YtgpgcnmnfnnkjaaDoorGWalCuts45
import Derived.Test.YtgpgcnmnfnnkjaaDoorGWalCuts16
set_option linter.unusedVariables false
set_option linter.unusedSimpArgs false
section
namespace Go.Proofs.YtgpgcnmnfnnkjaaDoor
open Go Go.RowKit Go.PlainAid BigFrame
attribute [local go_sem] After.same
/-- what the law keeps of a disk behind the Save that was cut off -/
def CutS (m : Nat) (h g : Hrd) (E : Int) (d : Dk) : Prop := PInv m d ∧ ∀ picks, ∃ y, Mid m (crashD d picks) y ∧ Between y h g ∧ (E = 0 → y = g)
theorem CutS.round {m : Nat} {h g : Hrd} {E : Int} {d : Dk} (c : CutS m h g E d) (picks : List Int) {n : Int} (hn : n ≤ 9223372036854775807) : PInv m (crashD d picks) ∧ PInv m (armD (crashD d picks) n) ∧ CutS m h g E (cleanW (armD (crashD d picks) n)).2 := by
  obtain ⟨y, h1, h2, h3⟩ := c.2 picks
  have h4 := (h1.arm hn).clean
  exact ⟨h1.inv, (h1.arm hn).inv, h4.inv, fun p => ⟨y, h4.crash p, h2, h3⟩⟩
theorem Mid.snap {m : Nat} {d : Dk} {y : Hrd} (h : Mid m d y) : bareOf y = y := by
  obtain ⟨n, K, _, k⟩ := h.kept
  have := k.snap
  cases y; dsimp only at this; subst this; rfl
/-- a Hard in memory, out of the disk's way -/
structure HrdM (w0 wr : World) (X : Nat → Prop) (gB : Nat) (g : Hrd) (u : Value) : Prop where
  k : Blk wr gB #[.int .i64 g.term, .int .i64 g.vote, .int .i64 g.base, .int .i64 g.bterm, .int .i64 g.members, .string g.snap, u] 30
  inX : X gB
  hu : Rd etyE wr u g.log
  hux : ∀ k, u.ownBlock = some k → k < w0.heap.size ∨ X k
  low : w0.heap.size ≤ gB
section
variable {w0 wr w' : World} {X Y : Nat → Prop} {gB gw : Nat} {g : Hrd} {u : Value}
theorem HrdM.ext (m : HrdM w0 wr X gB g u) (hb : Below wr.heap.size wr w') : HrdM w0 w' X gB g u := ⟨m.k.ext hb, m.inX, m.hu.ext hb, m.hux, m.low⟩
theorem HrdM.mono (m : HrdM w0 wr X gB g u) (h : ∀ k, X k → Y k) : HrdM w0 wr Y gB g u := ⟨m.k, h _ m.inX, m.hu, fun k hk => (m.hux k hk).imp id (h k), m.low⟩
theorem HrdM.gx (m : HrdM w0 wr X gB g u) (c : Chg (Gx w0 X) wr w') : HrdM w0 w' X gB g u := by
  refine ⟨c.blk m.k (fun e => e.2 m.inX), m.inX, c.cells m.hu (fun j hj e => ?_), m.hux, m.low⟩
  rcases m.hux j hj with q | q
  · have := e.1; omega
  · exact e.2 q
theorem HrdM.atGw (m : HrdM w0 wr X gB g u) (c : Chg (Gw w0 X gw) wr w') (h1 : gB ≠ gw) (h2 : u.ownBlock ≠ some gw) : HrdM w0 w' X gB g u := by
  refine ⟨c.blk m.k (fun e => ?_), m.inX, c.cells m.hu (fun j hj e => ?_), m.hux, m.low⟩
  · rcases e with e | e
    · exact e.2 m.inX
    · exact h1 e
  · rcases e with e | e
    · rcases m.hux j hj with q | q
      · have := e.1; omega
      · exact e.2 q
    · exact h2 (by rw [hj, e])
end
theorem KpV.mem {w0 wr : World} {gD gH : Nat} {X : Nat → Prop} {d : Dk} {h g : Hrd} {n gw : Nat} {v u : Value} (k : KpV w0 gD gH wr X d h g n gw v u) : HrdM w0 wr X gH g u := ⟨k.kH, k.inX, k.hu, k.hux, k.gH0⟩
/-- the last call's block -/
structure AskM (w0 wr : World) (X : Nat → Prop) (gA : Nat) (x : AskL) : Prop where
  k : Blk wr gA #[.int .i64 x.kind, .int .i64 x.n, .int .i64 x.h.term, .int .i64 x.h.vote, .int .i64 x.h.base, .int .i64 x.h.bterm, .int .i64 x.h.members, .string x.h.snap, .slice x.hp x.h.log.length x.hc, .slice x.pp x.picks.length x.pc] 43
  inX : X gA
section
variable {w0 wr w' : World} {X Y : Nat → Prop} {gA gw : Nat} {x : AskL}
theorem AskM.ext (m : AskM w0 wr X gA x) (hb : Below wr.heap.size wr w') : AskM w0 w' X gA x := ⟨m.k.ext hb, m.inX⟩
theorem AskM.mono (m : AskM w0 wr X gA x) (h : ∀ k, X k → Y k) : AskM w0 wr Y gA x := ⟨m.k, h _ m.inX⟩
theorem AskM.gx (m : AskM w0 wr X gA x) (c : Chg (Gx w0 X) wr w') : AskM w0 w' X gA x := ⟨c.blk m.k (fun e => e.2 m.inX), m.inX⟩
theorem AskM.atGw (m : AskM w0 wr X gA x) (c : Chg (Gw w0 X gw) wr w') (h1 : gA ≠ gw) : AskM w0 w' X gA x := ⟨c.blk m.k (fun e => by rcases e with e | e; exact e.2 m.inX; exact h1 e), m.inX⟩
theorem AskM.one (m : AskM w0 wr X gA x) {b : Nat} (c : Chg (fun k => k = b) wr w') (h1 : gA ≠ b) : AskM w0 w' X gA x := ⟨c.blk m.k (fun e => h1 e), m.inX⟩
end
theorem ints1 {w : World} {b off n c : Nat} {l : List Int} (h : Rd intsE w (.slice (some ⟨b, off, none⟩) n c) l) {k : Nat} (hk : k < l.length) : w.cell? ⟨b, off + k, none⟩ = some (.int .i64 l[k]) := by
  have h1 := h.at_ hk 0 (by decide)
  rw [show off + (k * intsE.sz + 0) = off + k from by show off + (k * 1 + 0) = _; omega] at h1
  exact h1
theorem OpenedW.any {w0 w : World} {X : Nat → Prop} {g : Nat} {d d' : Dk} {o : Option Wl} {e : Ending} {w' : World} (h : OpenedW w0 w X g d d' o e w') : (∃ r, e = .returned r) ∧ DwS w0 X g d' w' ∧ Chg (Gx w0 X) w w' := by
  obtain ⟨h1, h2, h3⟩ := h
  refine ⟨?_, h2, h3⟩
  cases o with
  | none => obtain ⟨E, _, _, h⟩ := h1; exact ⟨_, h⟩
  | some ws => obtain ⟨gw, v, X', h, _⟩ := h1; exact ⟨_, h⟩
set_option maxRecDepth 100000 in
set_option maxHeartbeats 16000000 in
theorem walCuts_walk (v0 : Value) (ls : List AskL) (cut : Int) (last : AskL) (v3 : Value) (ags : List Int) (w : World) (T : TabW w) (hv : Rd aslE w v0 ls) (hd : ∀ x ∈ ls, AskLOk w x) (hla : AskLOk w last) (hag : Rd intsE w v3 ags) :
    Calls Tryd.prog 5 #[v0, .int .i64 cut, .agg (aslA last), v3] w fun e w' => e = .returned (.bool true) ∧ Below w.heap.size w w' := by
  obtain ⟨w0, hw0⟩ : ∃ w0, w0 = w := ⟨_, rfl⟩
  rw [← hw0] at T hv hd hla hag ⊢
  clear hw0
  have T0 : ∀ z, Below w0.heap.size w0 z → TabW z := Lib.tabBelow_of_tabIs T
  have Tn := Lib.hid T0
  have Hd := Lib.hid hd
  have Hla := Lib.hid hla
  have Hag := Lib.hid hag
  clear T T0 hd hla
  obtain ⟨pl, cl, rfl⟩ := hv.shape
  obtain ⟨pg, cg, rfl⟩ := hag.shape
  have hl2 := hv.le
  have hl3 := hag.le
  unfold maxLen at hl2 hl3
  clear hag
  have bA := below_alloc w0 (.cells #[.int .i64 last.kind, .int .i64 last.n, .int .i64 last.h.term, .int .i64 last.h.vote, .int .i64 last.h.base, .int .i64 last.h.bterm, .int .i64 last.h.members, .string last.h.snap, .slice last.hp last.h.log.length last.hc, .slice last.pp last.picks.length last.pc] 43)
  have kA := Blk.new w0 #[.int .i64 last.kind, .int .i64 last.n, .int .i64 last.h.term, .int .i64 last.h.vote, .int .i64 last.h.base, .int .i64 last.h.bterm, .int .i64 last.h.members, .string last.h.snap, .slice last.hp last.h.log.length last.hc, .slice last.pp last.picks.length last.pc] 43
  have hsA : (w0.alloc (.cells #[.int .i64 last.kind, .int .i64 last.n, .int .i64 last.h.term, .int .i64 last.h.vote, .int .i64 last.h.base, .int .i64 last.h.bterm, .int .i64 last.h.members, .string last.h.snap, .slice last.hp last.h.log.length last.hc, .slice last.pp last.picks.length last.pc] 43)).heap.size = w0.heap.size + 1 := by simp
  obtain ⟨gA, hgA⟩ : ∃ gA, gA = w0.heap.size := ⟨_, rfl⟩
  go_enter Tryd.func5, Tryd.ntmps5
  go_wp2_with fail
  refine (lNew w0 (w0.alloc (.cells #[.int .i64 last.kind, .int .i64 last.n, .int .i64 last.h.term, .int .i64 last.h.vote, .int .i64 last.h.base, .int .i64 last.h.bterm, .int .i64 last.h.members, .string last.h.snap, .slice last.hp last.h.log.length last.hc, .slice last.pp last.picks.length last.pc] 43)) (by omega) (fun k => k = w0.heap.size) (fun k hk => by omega)).mono ?_
  rintro e w1 ⟨rfl, d1, c1⟩
  have am1 : AskM w0 w1 (fun k => k = w0.heap.size) w0.heap.size last := ⟨kA.ext c1, rfl⟩
  have b1 := bA.trans (c1.mono (by omega))
  rw [← hgA] at am1 ⊢
  have hga : w0.heap.size ≤ gA := by omega
  generalize (w0.alloc (.cells #[.int .i64 last.kind, .int .i64 last.n, .int .i64 last.h.term, .int .i64 last.h.vote, .int .i64 last.h.base, .int .i64 last.h.bterm, .int .i64 last.h.members, .string last.h.snap, .slice last.hp last.h.log.length last.hc, .slice last.pp last.picks.length last.pc] 43)).heap.size = gD at d1
  rw [← hgA] at d1
  clear hgA bA kA hsA c1
  have ho := walOpen (w := w1) Tn.out d1 b1 PInv.zero (by omega)
  rw [tw0, tw0c] at ho
  go_wp2_with fail
  refine ho.mono ?_
  rintro e w2 ⟨⟨gw, v2, X2, rfl, hgw, hx2, hxn2, d2, v2', hvo2⟩, -, c2⟩
  have b2 := b1.trans (c2.gx d1.size)
  have am2 := (am1.gx c2).mono hx2
  have hgw0 : w0.heap.size ≤ gw := Nat.le_trans d1.size hgw
  have hgl := v2'.blk.lt
  have hgAw : gA ≠ gw := by have := am1.k.lt; omega
  clear ho c2 d1 b1 hx2 hgw am1
  have d2a := d2.alloc (.cells #[.int .i64 0, .int .i64 (-1), .int .i64 0, .int .i64 0, .int .i64 7, .string ⟨#[]⟩, .slice none 0 0] 30)
  have a2 := below_alloc w2 (.cells #[.int .i64 0, .int .i64 (-1), .int .i64 0, .int .i64 0, .int .i64 7, .string ⟨#[]⟩, .slice none 0 0] 30)
  have v2a := (v2'.ext a2).mono (Y := fun k => X2 k ∨ k = w2.heap.size) (fun _ h => .inl h)
  have am2a := (am2.ext a2).mono (Y := fun k => X2 k ∨ k = w2.heap.size) (fun _ h => .inl h)
  have kz := Blk.new w2 #[.int .i64 0, .int .i64 (-1), .int .i64 0, .int .i64 0, .int .i64 7, .string ⟨#[]⟩, .slice none 0 0] 30
  have b2a := b2.trans (a2.mono b2.size)
  have y0 := kz.cell 0 _ rfl
  have y1 := kz.cell 1 _ rfl
  have y2 := kz.cell 2 _ rfl
  have y3 := kz.cell 3 _ rfl
  have y4 := kz.cell 4 _ rfl
  have y5 := kz.cell 5 _ rfl
  have y6 := kz.cell 6 _ rfl
  have zy0 := kz.frozen 0
  have zy1 := kz.frozen 1
  have zy2 := kz.frozen 2
  have zy3 := kz.frozen 3
  have zy4 := kz.frozen 4
  have zy5 := kz.frozen 5
  have zy6 := kz.frozen 6
  have hs := walSaveV Tn.out d2a b2a hgw0 PInv.zero (by omega) v2a hk0 (.slice none 0 0) (Rd.nil _) (nil_own True.intro) (by simp [Value.ownBlock]) sv0e
  go_wp2_with fail
  refine hs.mono ?_
  rintro e w3 ⟨rfl, X3, v3, hx3, hxo3, d3, v3', c3, hvo3⟩
  have hne0 : w2.heap.size ≠ gw := by omega
  have kz3 : Blk w3 w2.heap.size #[.int .i64 0, .int .i64 (-1), .int .i64 0, .int .i64 0, .int .i64 7, .string ⟨#[]⟩, .slice none 0 0] 30 := c3.blk kz (fun h => by rcases h with h | h; exact h.2 (.inr rfl); omega)
  have hs2 := b2.size
  have hv3n : v3.ownBlock ≠ some w2.heap.size := fun e => by
    rcases hvo3 _ e with q | q
    · rcases d2.2 _ (v2'.lX _ q) with q2
      omega
    · simp at q; omega
  have b3 := b2a.trans (c3.gwB b2a.size hgw0)
  have st0 : KpV w0 gD w2.heap.size w3 X3 sv0.2.2 hk0 hk0 1 gw v3 (.slice none 0 0) := ⟨hgw0, d3, v3', b3, kz3, hx3 _ (.inr rfl), Rd.nil _, nil_own True.intro, by simp [Value.ownBlock], hne0, hs2, by simp [Value.ownBlock], hv3n⟩
  have am3 := (am2a.atGw c3 hgAw).mono hx3
  have hgAH : gA ≠ w2.heap.size := by have := am2.k.lt; omega
  have St0 := Lib.hid st0
  have Am0 := Lib.hid am3
  have Ke0 := Lib.hid keep0
  clear st0 y0 y1 y2 y3 y4 y5 y6 zy0 zy1 zy2 zy3 zy4 zy5 zy6 hs d2a a2 v2a b2a kz c3 hx3 hxo3 d2 v2' b2 kz3 d3 v3' b3 hvo3 hv3n hgw0 hgl hne0 hs2 hvo2 hxn2 am2 am2a am3
  generalize w2.heap.size = gH at *
  go_wp2_with fail
  go_loopw [13] (fun ti wr => ∃ (k n : Nat) (h : Hrd) (d : Dk) (X : Nat → Prop) (v u : Value), k ≤ ls.length ∧ k ≤ 12 ∧ ti = .int .i64 (k : Int) ∧ Hid (KeepI (k + 1) h d n) ∧ Hid (KpV w0 gD gH wr X d h h n gw v u) ∧ Hid (AskM w0 wr X gA last)) (fun ti _ => ls.length - (intOf ti).toNat)
  case atStart => exact ⟨0, 1, hk0, sv0.2.2, X3, v3, .slice none 0 0, by omega, by omega, rfl, Ke0, St0, Am0⟩
  case round =>
    clear St0 Ke0 Am0
    obtain ⟨k, n, h, d, X, v, u, hk, hk12, rfl, ki, st, am⟩ := hrel
    have hk0 : (0 : Int) ≤ (k : Int) := by omega
    have hb := st.out.hb
    by_cases hend : k < ls.length ∧ k < 12
    · obtain ⟨hlt, hlt3⟩ := hend
      have hi4 : (k : Int) < (ls.length : Int) := by omega
      have hi5 : decide ((k : Int) < 12) = true := by simp; omega
      obtain ⟨pb, po, rfl⟩ := Rd.blk hv (by omega)
      have rr := hv.ext hb
      have hx := Hd.out _ (List.getElem_mem hlt)
      obtain ⟨a0, a1, a2, a3, a4, a5, a6, a7, a8, a9⟩ := asl10 rr hlt
      obtain ⟨x, hxe⟩ : ∃ x, ls[k] = x := ⟨_, rfl⟩
      rw [hxe] at a0 a1 a2 a3 a4 a5 a6 a7 a8 a9 hx
      unfold AskL.vh at a8
      unfold AskL.vp at a9
      have Hx := Lib.hid hx
      clear hxe rr hx
      go_upto_region 9 with (fail)
      obtain ⟨pu, cu, rfl⟩ := st.out.hu.shape
      have kHc := st.out.kH
      have y0 := kHc.cell 0 _ rfl
      have y1 := kHc.cell 1 _ rfl
      have y2 := kHc.cell 2 _ rfl
      have y3 := kHc.cell 3 _ rfl
      have y4 := kHc.cell 4 _ rfl
      have y5 := kHc.cell 5 _ rfl
      have y6 := kHc.cell 6 _ rfl
      go_still_tail 5, (by kernel_rfl)
      change wpList _ _ _ _ _ wr.drew
      obtain ⟨wd, hwd⟩ : ∃ z, z = wr.drew := ⟨_, rfl⟩
      have bD : Below wr.heap.size wr wd := by rw [hwd]; exact below_drew _ _
      rw [← hwd]
      clear hwd
      have std := st.out.ext bD
      have amd := Lib.hid (am.out.ext bD)
      have oki := ki.out.ok
      have smi := small_of oki.small
      have hnx := lawNext h x (.slice pu h.log.length cu) std.hu (Hx.out.ext std.hb) (by omega) (by rw [oki.snap]; decide) (fun z hz => Nat.le_trans (log_in (right_bare oki.right) z hz).2.2.2.2 (by decide))
      have okx := oki.next x
      obtain ⟨h', hh'⟩ : ∃ h', nextL h x = h' := ⟨_, rfl⟩
      rw [hh'] at hnx okx
      have Okx := Lib.hid okx
      clear hh' okx smi oki bD kHc
      have kHd := std.kH
      have Std := Lib.hid std
      clear std
      go_upto_region 10 with (first | (go_at_call 14; refine hnx.mono ?_; rintro e w3 ⟨u3, rfl, rd3, hor3, b3⟩; obtain ⟨p3, c3, rfl⟩ := rd3.shape; have k3 := kHd.ext b3; (have z0 := k3.cell 0 _ rfl); (have z1 := k3.cell 1 _ rfl); (have z2 := k3.cell 2 _ rfl); (have z3 := k3.cell 3 _ rfl); (have z4 := k3.cell 4 _ rfl); (have z5 := k3.cell 5 _ rfl); (have z6 := k3.cell 6 _ rfl); have f0 := k3.frozen 0; have f1 := k3.frozen 1; have f2 := k3.frozen 2; have f3 := k3.frozen 3; have f4 := k3.frozen 4; have f5 := k3.frozen 5; have f6 := k3.frozen 6) | fail)
      have st4 := Std.out.stored b3 rd3 hor3
      have am4 := ((amd.out.ext b3).one (blk7 k3 (.int .i64 h'.term) (.int .i64 h'.vote) (.int .i64 h'.base) (.int .i64 h'.bterm) (.int .i64 h'.members) (.string h'.snap) (.slice p3 h'.log.length c3)).2 hgAH).mono (Y := fun j => X j ∨ (wd.heap.size ≤ j ∧ j < w3.heap.size)) (fun _ h => .inl h)
      clear hnx rd3 hor3 k3 kHd z0 z1 z2 z3 z4 z5 z6 f0 f1 f2 f3 f4 f5 f6 y0 y1 y2 y3 y4 y5 y6 b3
      generalize hW4 : (((((((w3.setCell ⟨gH, 0, none⟩ (.int .i64 h'.term)).setCell ⟨gH, 1, none⟩ (.int .i64 h'.vote)).setCell ⟨gH, 2, none⟩ (.int .i64 h'.base)).setCell ⟨gH, 3, none⟩ (.int .i64 h'.bterm)).setCell ⟨gH, 4, none⟩ (.int .i64 h'.members)).setCell ⟨gH, 5, none⟩ (.string h'.snap)).setCell ⟨gH, 6, none⟩ (.slice p3 h'.log.length c3)) = W4 at *
      clear hW4
      obtain ⟨n', d', hE, ki'⟩ := ki.out.save (by omega) Okx.out
      have hbe := Okx.out.bare
      have Ki := Lib.hid ki'
      have kH4 := st4.kH
      have y0 := kH4.cell 0 _ rfl
      have y1 := kH4.cell 1 _ rfl
      have y2 := kH4.cell 2 _ rfl
      have y3 := kH4.cell 3 _ rfl
      have y4 := kH4.cell 4 _ rfl
      have y5 := kH4.cell 5 _ rfl
      have y6 := kH4.cell 6 _ rfl
      have hs := walSaveV Tn.out st4.dd st4.hb st4.gw0 ki.out.inv (by omega) st4.vv h' (.slice p3 h'.log.length c3) st4.hu st4.hux st4.hug hE
      have St4 := Lib.hid st4
      have Am4 := Lib.hid am4
      have Hbe := Lib.hid hbe
      clear st4 kH4 hE ki' hbe am4
      go_wp2_with fail
      refine hs.mono ?_
      rintro e w5 ⟨rfl, X5, v5, hx5, -, d5, v5', c5, hvo5⟩
      have st5 := St4.out.saved hx5 d5 (by rw [Hbe.out]; exact v5') c5 hvo5
      rw [Hbe.out] at st5
      have St5 := Lib.hid st5
      have Am5 := Lib.hid ((Am4.out.atGw c5 hgAw).mono hx5)
      clear hs hx5 d5 v5' c5 hvo5 st5 y0 y1 y2 y3 y4 y5 y6
      go_wp2_with fail
      go_roundw
      case rel => exact ⟨k + 1, n', h', d', X5, v5, .slice p3 h'.log.length c3, by omega, by omega, by go_num, Ki, St5, Am5⟩
      case measure => simp [intOf]; omega
    · skip
      go_upto_region 7 with (fail)
      go_cut [46] from 39 to 46 (fun q wi => q = .bool false ∧ wi = wr)
      case first =>
        rcases Nat.lt_or_ge k ls.length with hl | hl
        · have hi4 : (k : Int) < (ls.length : Int) := by omega
          have hi5 : ¬ (k : Int) < 12 := by omega
          go_wp2_with fail
          go_meet
          exact ⟨by first | rfl | simp [hi5], rfl⟩
        · have hi4 : ¬ (k : Int) < (ls.length : Int) := by omega
          go_wp2_with fail
          go_meet
          exact ⟨rfl, rfl⟩
      case rest =>
        obtain ⟨rfl, hw⟩ := hcut
        obtain rfl : wc = wr := hw
        clear hend
        have hwr : ∃ z, z = wc := ⟨_, rfl⟩
        obtain ⟨wq, hwq⟩ := hwr
        subst hwq
        obtain ⟨pu, cu, rfl⟩ := st.out.hu.shape
        have kHc := st.out.kH
        have kAc := am.out.k
        have y0 := kHc.cell 0 _ rfl
        have y1 := kHc.cell 1 _ rfl
        have y2 := kHc.cell 2 _ rfl
        have y3 := kHc.cell 3 _ rfl
        have y4 := kHc.cell 4 _ rfl
        have y5 := kHc.cell 5 _ rfl
        have y6 := kHc.cell 6 _ rfl
        have ya9 := kAc.cell 9 _ rfl
        have hbe := ki.out.ok.bare
        have Hbe := Lib.hid hbe
        clear hbe kHc kAc
        go_upto_region 12 with (fail)
        by_cases hp20 : 20 < last.picks.length
        · have h3i : (20 : Int) < (last.picks.length : Int) := by omega
          go_region_held3 (fun w' => w'.cell? ⟨gH, 0, none⟩ = some (.int .i64 h.term) ∧ w'.cell? ⟨gH, 1, none⟩ = some (.int .i64 h.vote) ∧ w'.cell? ⟨gH, 2, none⟩ = some (.int .i64 h.base) ∧ w'.cell? ⟨gH, 3, none⟩ = some (.int .i64 h.bterm) ∧ w'.cell? ⟨gH, 4, none⟩ = some (.int .i64 h.members) ∧ w'.cell? ⟨gH, 5, none⟩ = some (.string h.snap) ∧ w'.cell? ⟨gH, 6, none⟩ = some (.slice pu h.log.length cu) ∧ w'.cell? ⟨gA, 9, none⟩ = some (.slice last.pp last.picks.length last.pc)) (go_keep)
            (first
              | (go_at_call 13; (with_reducible refine (walHard (st.out.ext (below_drew _ _)).vv).mono ?_); rintro e w6 ⟨v6, rfl, own6, b6⟩; (have st6 := (st.out.ext (below_drew _ _)).ext b6); (have kH6 := st6.kH); (have qa0 := kH6.cell 0 _ rfl); (have qa1 := kH6.cell 1 _ rfl); (have qa2 := kH6.cell 2 _ rfl); (have qa3 := kH6.cell 3 _ rfl); (have qa4 := kH6.cell 4 _ rfl); (have qa5 := kH6.cell 5 _ rfl); (have qa6 := kH6.cell 6 _ rfl); (have qe := ((am.out.ext (below_drew _ _)).ext b6).k.cell 9 _ rfl))
              | (go_at_call 15; (with_reducible refine (lawBare h (.slice pu h.log.length cu) _ ⟨_, _, rfl⟩).mono ?_); rintro e w7 ⟨rfl, b7⟩; (have st7 := st6.ext b7); (have kH7 := st7.kH); (have qb0 := kH7.cell 0 _ rfl); (have qb1 := kH7.cell 1 _ rfl); (have qb2 := kH7.cell 2 _ rfl); (have qb3 := kH7.cell 3 _ rfl); (have qb4 := kH7.cell 4 _ rfl); (have qb5 := kH7.cell 5 _ rfl); (have qb6 := kH7.cell 6 _ rfl); (have qf := (((am.out.ext (below_drew _ _)).ext b6).ext b7).k.cell 9 _ rfl))
              | (go_at_call 12; (with_reducible refine (refSame (bareOf h) (bareOf h) v6 _ (own6.rd.ext b7) st7.hu).mono ?_); rintro e w8 ⟨rfl, b8'⟩; (have st8 := st7.ext b8'); (have kH8 := st8.kH); (have qc0 := kH8.cell 0 _ rfl); (have qc1 := kH8.cell 1 _ rfl); (have qc2 := kH8.cell 2 _ rfl); (have qc3 := kH8.cell 3 _ rfl); (have qc4 := kH8.cell 4 _ rfl); (have qc5 := kH8.cell 5 _ rfl); (have qc6 := kH8.cell 6 _ rfl); (have qg := ((((am.out.ext (below_drew _ _)).ext b6).ext b7).ext b8').k.cell 9 _ rfl)))
          have b8 := st8.hb
          have am8 := ((((am.out.ext (below_drew _ _)).ext b6).ext b7).ext b8')
          have z9 := am8.k.cell 9 _ rfl
          clear own6 b6 st6 kH6 qe b7 st7 kH7 qf b8' kH8 qg st8 ya9 qa0 qa1 qa2 qa3 qa4 qa5 qa6 qb0 qb1 qb2 qb3 qb4 qb5 qb6 qc0 qc1 qc2 qc3 qc4 qc5 qc6 y0 y1 y2 y3 y4 y5 y6
          go_wp2_with fail
          go_ret
          exact ⟨rfl, b8⟩
        · have h3i : ¬ (20 : Int) < (last.picks.length : Int) := by omega
          go_region_held3 (fun w' => w'.cell? ⟨gH, 0, none⟩ = some (.int .i64 h.term) ∧ w'.cell? ⟨gH, 1, none⟩ = some (.int .i64 h.vote) ∧ w'.cell? ⟨gH, 2, none⟩ = some (.int .i64 h.base) ∧ w'.cell? ⟨gH, 3, none⟩ = some (.int .i64 h.bterm) ∧ w'.cell? ⟨gH, 4, none⟩ = some (.int .i64 h.members) ∧ w'.cell? ⟨gH, 5, none⟩ = some (.string h.snap) ∧ w'.cell? ⟨gH, 6, none⟩ = some (.slice pu h.log.length cu) ∧ w'.cell? ⟨gA, 9, none⟩ = some (.slice last.pp last.picks.length last.pc)) (go_keep)
            (first
              | (go_at_call 13; (with_reducible refine (walHard (st.out.ext (below_drew _ _)).vv).mono ?_); rintro e w6 ⟨v6, rfl, own6, b6⟩; (have st6 := (st.out.ext (below_drew _ _)).ext b6); (have kH6 := st6.kH); (have qa0 := kH6.cell 0 _ rfl); (have qa1 := kH6.cell 1 _ rfl); (have qa2 := kH6.cell 2 _ rfl); (have qa3 := kH6.cell 3 _ rfl); (have qa4 := kH6.cell 4 _ rfl); (have qa5 := kH6.cell 5 _ rfl); (have qa6 := kH6.cell 6 _ rfl); (have qe := ((am.out.ext (below_drew _ _)).ext b6).k.cell 9 _ rfl))
              | (go_at_call 15; (with_reducible refine (lawBare h (.slice pu h.log.length cu) _ ⟨_, _, rfl⟩).mono ?_); rintro e w7 ⟨rfl, b7⟩; (have st7 := st6.ext b7); (have kH7 := st7.kH); (have qb0 := kH7.cell 0 _ rfl); (have qb1 := kH7.cell 1 _ rfl); (have qb2 := kH7.cell 2 _ rfl); (have qb3 := kH7.cell 3 _ rfl); (have qb4 := kH7.cell 4 _ rfl); (have qb5 := kH7.cell 5 _ rfl); (have qb6 := kH7.cell 6 _ rfl); (have qf := (((am.out.ext (below_drew _ _)).ext b6).ext b7).k.cell 9 _ rfl))
              | (go_at_call 12; (with_reducible refine (refSame (bareOf h) (bareOf h) v6 _ (own6.rd.ext b7) st7.hu).mono ?_); rintro e w8 ⟨rfl, b8'⟩; (have st8 := st7.ext b8'); (have kH8 := st8.kH); (have qc0 := kH8.cell 0 _ rfl); (have qc1 := kH8.cell 1 _ rfl); (have qc2 := kH8.cell 2 _ rfl); (have qc3 := kH8.cell 3 _ rfl); (have qc4 := kH8.cell 4 _ rfl); (have qc5 := kH8.cell 5 _ rfl); (have qc6 := kH8.cell 6 _ rfl); (have qg := ((((am.out.ext (below_drew _ _)).ext b6).ext b7).ext b8').k.cell 9 _ rfl)))
          have Am8 := Lib.hid ((((am.out.ext (below_drew _ _)).ext b6).ext b7).ext b8')
          have St8 := Lib.hid st8
          clear own6 b6 st6 kH6 qe b7 st7 kH7 qf b8' kH8 qg st8 ya9 qa0 qa1 qa2 qa3 qa4 qa5 qa6 qb0 qb1 qb2 qb3 qb4 qb5 qb6 qc0 qc1 qc2 qc3 qc4 qc5 qc6 y0 y1 y2 y3 y4 y5 y6
          have kH8 := St8.out.kH
          have y0 := kH8.cell 0 _ rfl
          have y1 := kH8.cell 1 _ rfl
          have y2 := kH8.cell 2 _ rfl
          have y3 := kH8.cell 3 _ rfl
          have y4 := kH8.cell 4 _ rfl
          have y5 := kH8.cell 5 _ rfl
          have y6 := kH8.cell 6 _ rfl
          have kA8 := Am8.out.k
          have a0 := kA8.cell 0 _ rfl
          have a1 := kA8.cell 1 _ rfl
          have a2 := kA8.cell 2 _ rfl
          have a3 := kA8.cell 3 _ rfl
          have a4 := kA8.cell 4 _ rfl
          have a5 := kA8.cell 5 _ rfl
          have a6 := kA8.cell 6 _ rfl
          have a7 := kA8.cell 7 _ rfl
          have a8 := kA8.cell 8 _ rfl
          have a9 := kA8.cell 9 _ rfl
          have oki := ki.out.ok
          have smi := small_of oki.small
          have hnx := lawNext h last (.slice pu h.log.length cu) St8.out.hu (Hla.out.ext St8.out.hb) (by omega) (by rw [oki.snap]; decide) (fun z hz => Nat.le_trans (log_in (right_bare oki.right) z hz).2.2.2.2 (by decide))
          have okx := oki.next last
          obtain ⟨g, hh'⟩ : ∃ g, nextL h last = g := ⟨_, rfl⟩
          rw [hh'] at hnx okx
          have Okg := Lib.hid okx
          have Oki := Lib.hid oki
          clear hh' okx smi oki kH8 kA8
          go_upto_region 15 with (first | (go_at_call 14; refine hnx.mono ?_; rintro e w9 ⟨ug, rfl, rdg, horg, b9⟩; obtain ⟨p3, c3, rfl⟩ := rdg.shape) | fail)
          clear hnx y0 y1 y2 y3 y4 y5 y6 a0 a1 a2 a3 a4 a5 a6 a7 a8 a9
          have st9 := St8.out.ext b9
          have hls8 := St8.out.kH.lt
          have hlw8 := St8.out.vv.blk.lt
          have hlA8 := Am8.out.k.lt
          have hs9 := b9.size
          have h08 := St8.out.hb.size
          have bG := below_alloc w9 (.cells #[.int .i64 g.term, .int .i64 g.vote, .int .i64 g.base, .int .i64 g.bterm, .int .i64 g.members, .string g.snap, .slice p3 g.log.length c3] 30)
          have kG := Blk.new w9 #[.int .i64 g.term, .int .i64 g.vote, .int .i64 g.base, .int .i64 g.bterm, .int .i64 g.members, .string g.snap, .slice p3 g.log.length c3] 30
          obtain ⟨gG, hgG⟩ : ∃ gG, gG = w9.heap.size := ⟨_, rfl⟩
          have hX14 : ∀ j, (fun j => X j ∨ (w8.heap.size ≤ j ∧ j < (w9.alloc (.cells #[.int .i64 g.term, .int .i64 g.vote, .int .i64 g.base, .int .i64 g.bterm, .int .i64 g.members, .string g.snap, .slice p3 g.log.length c3] 30)).heap.size)) j → X j ∨ (w8.heap.size ≤ j ∧ j < (w9.alloc (.cells #[.int .i64 g.term, .int .i64 g.vote, .int .i64 g.base, .int .i64 g.bterm, .int .i64 g.members, .string g.snap, .slice p3 g.log.length c3] 30)).heap.size) := fun _ h => h
          have b89 : Below w8.heap.size w8 (w9.alloc (.cells #[.int .i64 g.term, .int .i64 g.vote, .int .i64 g.base, .int .i64 g.bterm, .int .i64 g.members, .string g.snap, .slice p3 g.log.length c3] 30)) := b9.trans (bG.mono hs9)
          have d14 := St8.out.dd.more b89 hX14
          have v14 := (St8.out.vv.ext b89).mono (Y := fun j => X j ∨ (w8.heap.size ≤ j ∧ j < (w9.alloc (.cells #[.int .i64 g.term, .int .i64 g.vote, .int .i64 g.base, .int .i64 g.bterm, .int .i64 g.members, .string g.snap, .slice p3 g.log.length c3] 30)).heap.size)) (fun _ h => .inl h)
          have mh14 := (St8.out.mem.ext b89).mono (Y := fun j => X j ∨ (w8.heap.size ≤ j ∧ j < (w9.alloc (.cells #[.int .i64 g.term, .int .i64 g.vote, .int .i64 g.base, .int .i64 g.bterm, .int .i64 g.members, .string g.snap, .slice p3 g.log.length c3] 30)).heap.size)) (fun _ h => .inl h)
          have am14 := (Am8.out.ext b89).mono (Y := fun j => X j ∨ (w8.heap.size ≤ j ∧ j < (w9.alloc (.cells #[.int .i64 g.term, .int .i64 g.vote, .int .i64 g.base, .int .i64 g.bterm, .int .i64 g.members, .string g.snap, .slice p3 g.log.length c3] 30)).heap.size)) (fun _ h => .inl h)
          have mg14 : HrdM w0 (w9.alloc (.cells #[.int .i64 g.term, .int .i64 g.vote, .int .i64 g.base, .int .i64 g.bterm, .int .i64 g.members, .string g.snap, .slice p3 g.log.length c3] 30)) (fun j => X j ∨ (w8.heap.size ≤ j ∧ j < (w9.alloc (.cells #[.int .i64 g.term, .int .i64 g.vote, .int .i64 g.base, .int .i64 g.bterm, .int .i64 g.members, .string g.snap, .slice p3 g.log.length c3] 30)).heap.size)) w9.heap.size g (.slice p3 g.log.length c3) := by
            refine ⟨kG, .inr ⟨hs9, by simp⟩, rdg.ext bG, fun j hj => ?_, by omega⟩
            rcases horg with ⟨q, _⟩ | q
            · rw [q] at hj; exact (St8.out.hux j hj).imp id .inl
            · have := q j hj; exact .inr (.inr ⟨this.1, by simp; omega⟩)
          have hGw : gG ≠ gw := by omega
          have hGu : (Value.slice p3 g.log.length c3).ownBlock ≠ some gw := fun q => by
            rcases horg with ⟨r, _⟩ | r
            · rw [r] at q; exact St8.out.hug q
            · have := r _ q; omega
          have b14 := St8.out.hb.trans (b89.mono h08)
          rw [← hgG] at mg14 ⊢
          clear st9 hgG bG kG hX14 b89 rdg horg hls8 hlw8 hlA8 hs9 h08 b9
          generalize (w9.alloc (.cells #[.int .i64 g.term, .int .i64 g.vote, .int .i64 g.base, .int .i64 g.bterm, .int .i64 g.members, .string g.snap, .slice p3 g.log.length c3] 30)) = wa at *
          generalize (fun j => X j ∨ (w8.heap.size ≤ j ∧ j < wa.heap.size)) = X4 at *
          obtain ⟨cc, hcc⟩ : ∃ cc, cc = within cut 0 4 := ⟨_, rfl⟩
          have hc4 : cc ≤ 9223372036854775807 := by have := within_bounds cut 0 4 (by decide); omega
          have hwi := withinCalls cut 0 4 wa (by decide) (by decide) (by decide)
          rw [← hcc] at hwi
          have har := lArm d14 cc
          have V14 := Lib.hid v14
          have Mh14 := Lib.hid mh14
          have Mg14 := Lib.hid mg14
          have Am14 := Lib.hid am14
          have Hc4 := Lib.hid hc4
          have hug := St8.out.hug
          have hHw := St8.out.ne
          have hgw0 := St8.out.gw0
          clear v14 mh14 mg14 am14 hc4 hcc St8 Am8
          go_upto_region 16 with (first | (go_at_call 18; refine hwi.mono ?_; rintro e w' ⟨rfl, rfl⟩) | (go_at_call 17; refine har.mono ?_; rintro e wb ⟨rfl, d15, c15⟩) | fail)
          have v15 := V14.out.keep c15
          have Mh15 := Lib.hid (Mh14.out.gx c15)
          have Mg15 := Lib.hid (Mg14.out.gx c15)
          have Am15 := Lib.hid (Am14.out.gx c15)
          have b15 := b14.trans (c15.gx d14.size)
          clear hwi har d14 c15 b14 V14 Mh14 Mg14 Am14
          obtain ⟨E, ws', d16, hE⟩ : ∃ E ws' d16, saveW (armD d cc) ⟨n, h, false⟩ g = (E, ws', d16) := ⟨_, _, _, rfl⟩
          have hcs := cut_save ki.out (by omega) Okg.out Hc4.out
          rw [hE] at hcs
          have hcs2 : CutS (k + 1 + 1) h g E d16 := hcs
          have Hcs := Lib.hid hcs2
          have kG15 := Mg15.out.k
          have y0 := kG15.cell 0 _ rfl
          have y1 := kG15.cell 1 _ rfl
          have y2 := kG15.cell 2 _ rfl
          have y3 := kG15.cell 3 _ rfl
          have y4 := kG15.cell 4 _ rfl
          have y5 := kG15.cell 5 _ rfl
          have y6 := kG15.cell 6 _ rfl
          have hs := walSaveV Tn.out d15 b15 hgw0 (ki.out.inv.arm0 Hc4.out) (by omega) v15 g (.slice p3 g.log.length c3) Mg15.out.hu Mg15.out.hux hGu hE
          clear hcs hcs2 hE kG15
          go_wp2_with fail
          refine hs.mono ?_
          rintro e w16 ⟨rfl, X16, v16, hx16, -, d16', v16', c16, hvo16⟩
          have Mh16 := Lib.hid ((Mh15.out.atGw c16 hHw hug).mono hx16)
          have Mg16 := Lib.hid ((Mg15.out.atGw c16 hGw hGu).mono hx16)
          have Am16 := Lib.hid ((Am15.out.atGw c16 hgAw).mono hx16)
          have b16 := b15.trans (c16.gwB b15.size hgw0)
          clear hs d15 v15 b15 Mh15 Mg15 Am15 c16 hvo16 v16' hx16 y0 y1 y2 y3 y4 y5 y6
          go_wp2_with fail
          go_loopw [16] (fun ti wr => ∃ (j : Nat) (d : Dk), j ≤ ags.length ∧ j ≤ 4 ∧ ti = .int .i64 (j : Int) ∧ Hid (CutS (k + 1 + 1) h g E d) ∧ DwS w0 X16 gD d wr ∧ Hid (HrdM w0 wr X16 gH h (.slice pu h.log.length cu)) ∧ Hid (HrdM w0 wr X16 gG g (.slice p3 g.log.length c3)) ∧ Hid (AskM w0 wr X16 gA last) ∧ Below w0.heap.size w0 wr) (fun ti _ => ags.length - (intOf ti).toNat)
          case atStart => exact ⟨0, d16, by omega, by omega, rfl, Hcs, d16', Mh16, Mg16, Am16, b16⟩
          case round =>
            clear Mh16 Mg16 Am16 b16 Hcs d16'
            obtain ⟨j, dj, hj, hj4, rfl, cs, dd, mh, mg, am, hb⟩ := hrel
            have hj0 : (0 : Int) ≤ (j : Int) := by omega
            by_cases hend : j < ags.length ∧ j < 4
            · obtain ⟨hlt, hlt3⟩ := hend
              have hi4 : (j : Int) < (ags.length : Int) := by omega
              have hi5 : decide ((j : Int) < 4) = true := by simp; omega
              have kAj := am.out.k
              have z9 := kAj.cell 9 _ rfl
              have hcr := lCrash dd (cs.out.1.ok (by omega)) (rfl : crashD dj last.picks = crashD dj last.picks) (Hla.out.picks.ext hb) (fun hne q hq => .inl (intsW_in Hla.out.picks hne q hq)) Hla.out.hi
              obtain ⟨bg, og, rfl⟩ := Rd.blk Hag.out (by omega)
              have hwb := within_bounds ags[j] 0 4 (by decide)
              obtain ⟨a4, ha4⟩ : ∃ a4, a4 = within ags[j] 0 4 := ⟨_, rfl⟩
              rw [← ha4] at hwb
              have hcn := cs.out.round last.picks (n := a4) (by omega)
              have Hcn := Lib.hid hcn
              clear hcn hwb kAj
              go_wp2_with fail
              refine hcr.mono ?_
              rintro e wc ⟨rfl, dc, cc9⟩
              have bc := hb.trans (cc9.gx dd.size)
              have mhc := Lib.hid (mh.out.gx cc9)
              have mgc := Lib.hid (mg.out.gx cc9)
              have amc := Lib.hid (am.out.gx cc9)
              have ri := ints1 (Hag.out.ext bc) hlt
              have hwi := withinCalls ags[j] 0 4 wc (by decide) (by decide) (by decide)
              rw [← ha4] at hwi
              have har := lArm dc a4
              clear hcr dd cc9 hb mh mg am z9 ha4
              generalize ags[j] = aj at *
              go_upto_region 22 with (first | (go_at_call 18; refine hwi.mono ?_; rintro e w' ⟨rfl, rfl⟩) | (go_at_call 17; refine har.mono ?_; rintro e wd ⟨rfl, dD, cD⟩) | fail)
              have bD := bc.trans (cD.gx dc.size)
              have mhD := Lib.hid (mhc.out.gx cD)
              have mgD := Lib.hid (mgc.out.gx cD)
              have amD := Lib.hid (amc.out.gx cD)
              have ho := walOpen Tn.out dD bD Hcn.out.2.1 (by omega)
              clear hwi har dc cD bc mhc mgc amc ri
              go_wp2_with fail
              refine ho.mono ?_
              intro e we hany
              obtain ⟨⟨r, rfl⟩, dE, cE⟩ := hany.any
              have bE := bD.trans (cE.gx dD.size)
              have mhE := Lib.hid (mhD.out.gx cE)
              have mgE := Lib.hid (mgD.out.gx cE)
              have amE := Lib.hid (amD.out.gx cE)
              have csE := Lib.hid Hcn.out.2.2
              clear ho hany dD cE bD mhD mgD amD
              go_wp2_with fail
              go_roundw
              case rel => exact ⟨j + 1, _, by omega, by omega, by go_num, csE, dE, mhE, mgE, amE, bE⟩
              case measure => simp [intOf]; omega
            · skip
              go_upto_region 18 with (fail)
              go_cut [92] from 85 to 92 (fun q wi => q = .bool false ∧ wi = wr)
              case first =>
                rcases Nat.lt_or_ge j ags.length with hl | hl
                · have hi4 : (j : Int) < (ags.length : Int) := by omega
                  have hi5 : ¬ (j : Int) < 4 := by omega
                  go_wp2_with fail
                  go_meet
                  exact ⟨by first | rfl | simp [hi5], rfl⟩
                · have hi4 : ¬ (j : Int) < (ags.length : Int) := by omega
                  go_wp2_with fail
                  go_meet
                  exact ⟨rfl, rfl⟩
              case rest =>
                obtain ⟨rfl, hw⟩ := hcut
                obtain rfl : wc = wr := hw
                clear hend
                have hwr : ∃ z, z = wc := ⟨_, rfl⟩
                obtain ⟨wq, hwq⟩ := hwr
                subst hwq
                obtain ⟨y, hmid, hbt, hEy⟩ := cs.out.2 last.picks
                obtain ⟨n2, hop, fine, htot, hn2⟩ := hmid.opened (OnD.crash dj last.picks)
                obtain ⟨n3, d3, hE2, fine3⟩ := fine.save htot hn2 Okg.out
                have hop3 := fine3.again last.picks
                have hyb := hmid.snap
                have hBt := between_of Oki.out.snap Okg.out hbt
                have hcr := lCrash dd (cs.out.1.ok (by omega)) (rfl : crashD dj last.picks = crashD dj last.picks) (Hla.out.picks.ext hb) (fun hne q hq => .inl (intsW_in Hla.out.picks hne q hq)) Hla.out.hi
                have Hmi := Lib.hid hmid.inv
                have Hop := Lib.hid hop
                have Fin := Lib.hid fine
                have HE2 := Lib.hid hE2
                have Fin3 := Lib.hid fine3
                have Hop3 := Lib.hid hop3
                have Hyb := Lib.hid hyb
                have HBt := Lib.hid hBt
                have HEy := Lib.hid hEy
                have Hgb := Lib.hid Okg.out.bare
                clear hmid hop fine htot hn2 hE2 fine3 hop3 hyb hBt hEy hbt
                have kAj := am.out.k
                have z9 := kAj.cell 9 _ rfl
                clear kAj
                go_wp2_with fail
                refine hcr.mono ?_
                rintro e w18 ⟨rfl, d18, c18⟩
                have b18 := hb.trans (c18.gx dd.size)
                have mh18 := mh.out.gx c18
                have mg18 := mg.out.gx c18
                have am18 := am.out.gx c18
                have ho := walOpen Tn.out d18 b18 Hmi.out (by omega)
                rw [Hop.out] at ho
                clear hcr dd c18 hb mh mg am z9
                go_wp2_with fail
                refine ho.mono ?_
                rintro e wx ⟨⟨gx, vx, Xx, rfl, hgx, hxx, -, dx, vx', hvx⟩, -, cx⟩
                have bx := b18.trans (cx.gx d18.size)
                have Mhx := Lib.hid ((mh18.gx cx).mono hxx)
                have Mgx := Lib.hid ((mg18.gx cx).mono hxx)
                have Amx := Lib.hid ((am18.gx cx).mono hxx)
                have hGx : gG ≠ gx := by have := mg18.k.lt; omega
                have hAx : gA ≠ gx := by have := am18.k.lt; omega
                have hux : ((.slice p3 g.log.length c3) : Value).ownBlock ≠ some gx := fun q => by
                  rcases mg18.hux _ q with r | r
                  · have := b18.size; omega
                  · have := d18.2 _ r; omega
                have hgx0 : w0.heap.size ≤ gx := by have := b18.size; omega
                have Dx := Lib.hid dx
                have Vx := Lib.hid vx'
                clear ho d18 cx hgx hxx dx vx' hvx b18 mh18 mg18 am18
                have kHx := Mhx.out.k
                have kGx := Mgx.out.k
                have yh0 := kHx.cell 0 _ rfl
                have yh1 := kHx.cell 1 _ rfl
                have yh2 := kHx.cell 2 _ rfl
                have yh3 := kHx.cell 3 _ rfl
                have yh4 := kHx.cell 4 _ rfl
                have yh5 := kHx.cell 5 _ rfl
                have yh6 := kHx.cell 6 _ rfl
                have yg0 := kGx.cell 0 _ rfl
                have yg1 := kGx.cell 1 _ rfl
                have yg2 := kGx.cell 2 _ rfl
                have yg3 := kGx.cell 3 _ rfl
                have yg4 := kGx.cell 4 _ rfl
                have yg5 := kGx.cell 5 _ rfl
                have yg6 := kGx.cell 6 _ rfl
                clear kHx kGx
                have Mh := Mhx
                have Mg := Mgx
                have Vv := Vx
                go_upto_region 25 with (fail)
                go_cut [144] from 117 to 144 (fun q wi => q = .bool false ∧ Below wx.heap.size wx wi)
                case first =>
                  by_cases hE0 : E = 0
                  · have hyg := HEy.out hE0
                    replace hyg := hyg.symm
                    subst hyg
                    subst hE0
                    go_region_held3 (fun w' => w'.cell? ⟨gH, 0, none⟩ = some (.int .i64 h.term) ∧ w'.cell? ⟨gH, 1, none⟩ = some (.int .i64 h.vote) ∧ w'.cell? ⟨gH, 2, none⟩ = some (.int .i64 h.base) ∧ w'.cell? ⟨gH, 3, none⟩ = some (.int .i64 h.bterm) ∧ w'.cell? ⟨gH, 4, none⟩ = some (.int .i64 h.members) ∧ w'.cell? ⟨gH, 5, none⟩ = some (.string h.snap) ∧ w'.cell? ⟨gH, 6, none⟩ = some (.slice pu h.log.length cu) ∧ w'.cell? ⟨gG, 0, none⟩ = some (.int .i64 g.term) ∧ w'.cell? ⟨gG, 1, none⟩ = some (.int .i64 g.vote) ∧ w'.cell? ⟨gG, 2, none⟩ = some (.int .i64 g.base) ∧ w'.cell? ⟨gG, 3, none⟩ = some (.int .i64 g.bterm) ∧ w'.cell? ⟨gG, 4, none⟩ = some (.int .i64 g.members) ∧ w'.cell? ⟨gG, 5, none⟩ = some (.string g.snap) ∧ w'.cell? ⟨gG, 6, none⟩ = some (.slice p3 g.log.length c3)) (first | (with_reducible exact kp26.out) | (with_reducible exact kp25.out) | (with_reducible exact kp24.out) | (with_reducible exact kp23.out) | (with_reducible exact kp22.out) | (with_reducible exact kp21.out) | (with_reducible exact kp20.out) | go_keep)
                      (first
                        | (go_at_call 13; (with_reducible refine (walHard (Vv.out.ext (below_drew _ _))).mono ?_); rintro e w20 ⟨v20, rfl, own20, b20⟩; (have bs20 : wx.heap.size ≤ w20.heap.size := (by have q1 := b20.size; have q2 := (below_drew wx.heap.size wx).size; omega)); (have mh20 := (Mh.out.ext (below_drew _ _)).ext b20); (have mg20 := (Mg.out.ext (below_drew _ _)).ext b20); (have vv20 := (Vv.out.ext (below_drew _ _)).ext b20); (have kp20 := Lib.hid (show w20.cell? ⟨gH, 0, none⟩ = some (.int .i64 h.term) ∧ w20.cell? ⟨gH, 1, none⟩ = some (.int .i64 h.vote) ∧ w20.cell? ⟨gH, 2, none⟩ = some (.int .i64 h.base) ∧ w20.cell? ⟨gH, 3, none⟩ = some (.int .i64 h.bterm) ∧ w20.cell? ⟨gH, 4, none⟩ = some (.int .i64 h.members) ∧ w20.cell? ⟨gH, 5, none⟩ = some (.string h.snap) ∧ w20.cell? ⟨gH, 6, none⟩ = some (.slice pu h.log.length cu) ∧ w20.cell? ⟨gG, 0, none⟩ = some (.int .i64 g.term) ∧ w20.cell? ⟨gG, 1, none⟩ = some (.int .i64 g.vote) ∧ w20.cell? ⟨gG, 2, none⟩ = some (.int .i64 g.base) ∧ w20.cell? ⟨gG, 3, none⟩ = some (.int .i64 g.bterm) ∧ w20.cell? ⟨gG, 4, none⟩ = some (.int .i64 g.members) ∧ w20.cell? ⟨gG, 5, none⟩ = some (.string g.snap) ∧ w20.cell? ⟨gG, 6, none⟩ = some (.slice p3 g.log.length c3) from ⟨mh20.k.cell 0 _ rfl, mh20.k.cell 1 _ rfl, mh20.k.cell 2 _ rfl, mh20.k.cell 3 _ rfl, mh20.k.cell 4 _ rfl, mh20.k.cell 5 _ rfl, mh20.k.cell 6 _ rfl, mg20.k.cell 0 _ rfl, mg20.k.cell 1 _ rfl, mg20.k.cell 2 _ rfl, mg20.k.cell 3 _ rfl, mg20.k.cell 4 _ rfl, mg20.k.cell 5 _ rfl, mg20.k.cell 6 _ rfl⟩)))
                        | (go_at_call 15; (with_reducible refine (lawBare h (.slice pu h.log.length cu) w20 ⟨_, _, rfl⟩).mono ?_); rintro e w21 ⟨rfl, b21⟩; (have bs21 : wx.heap.size ≤ w21.heap.size := (by have q1 := b21.size; have q2 := (below_drew wx.heap.size wx).size; have q3 := bs20; omega)); (have mh21 := mh20.ext b21); (have mg21 := mg20.ext b21); (have vv21 := vv20.ext b21); (have kp21 := Lib.hid (show w21.cell? ⟨gH, 0, none⟩ = some (.int .i64 h.term) ∧ w21.cell? ⟨gH, 1, none⟩ = some (.int .i64 h.vote) ∧ w21.cell? ⟨gH, 2, none⟩ = some (.int .i64 h.base) ∧ w21.cell? ⟨gH, 3, none⟩ = some (.int .i64 h.bterm) ∧ w21.cell? ⟨gH, 4, none⟩ = some (.int .i64 h.members) ∧ w21.cell? ⟨gH, 5, none⟩ = some (.string h.snap) ∧ w21.cell? ⟨gH, 6, none⟩ = some (.slice pu h.log.length cu) ∧ w21.cell? ⟨gG, 0, none⟩ = some (.int .i64 g.term) ∧ w21.cell? ⟨gG, 1, none⟩ = some (.int .i64 g.vote) ∧ w21.cell? ⟨gG, 2, none⟩ = some (.int .i64 g.base) ∧ w21.cell? ⟨gG, 3, none⟩ = some (.int .i64 g.bterm) ∧ w21.cell? ⟨gG, 4, none⟩ = some (.int .i64 g.members) ∧ w21.cell? ⟨gG, 5, none⟩ = some (.string g.snap) ∧ w21.cell? ⟨gG, 6, none⟩ = some (.slice p3 g.log.length c3) from ⟨mh21.k.cell 0 _ rfl, mh21.k.cell 1 _ rfl, mh21.k.cell 2 _ rfl, mh21.k.cell 3 _ rfl, mh21.k.cell 4 _ rfl, mh21.k.cell 5 _ rfl, mh21.k.cell 6 _ rfl, mg21.k.cell 0 _ rfl, mg21.k.cell 1 _ rfl, mg21.k.cell 2 _ rfl, mg21.k.cell 3 _ rfl, mg21.k.cell 4 _ rfl, mg21.k.cell 5 _ rfl, mg21.k.cell 6 _ rfl⟩)))
                        | (go_at_call 15; (with_reducible refine (lawBare g (.slice p3 g.log.length c3) w21 ⟨_, _, rfl⟩).mono ?_); rintro e w22 ⟨rfl, b22⟩; (have bs22 : wx.heap.size ≤ w22.heap.size := (by have q1 := b22.size; have q2 := (below_drew wx.heap.size wx).size; have q3 := bs21; omega)); (have mh22 := mh21.ext b22); (have mg22 := mg21.ext b22); (have vv22 := vv21.ext b22); (have kp22 := Lib.hid (show w22.cell? ⟨gH, 0, none⟩ = some (.int .i64 h.term) ∧ w22.cell? ⟨gH, 1, none⟩ = some (.int .i64 h.vote) ∧ w22.cell? ⟨gH, 2, none⟩ = some (.int .i64 h.base) ∧ w22.cell? ⟨gH, 3, none⟩ = some (.int .i64 h.bterm) ∧ w22.cell? ⟨gH, 4, none⟩ = some (.int .i64 h.members) ∧ w22.cell? ⟨gH, 5, none⟩ = some (.string h.snap) ∧ w22.cell? ⟨gH, 6, none⟩ = some (.slice pu h.log.length cu) ∧ w22.cell? ⟨gG, 0, none⟩ = some (.int .i64 g.term) ∧ w22.cell? ⟨gG, 1, none⟩ = some (.int .i64 g.vote) ∧ w22.cell? ⟨gG, 2, none⟩ = some (.int .i64 g.base) ∧ w22.cell? ⟨gG, 3, none⟩ = some (.int .i64 g.bterm) ∧ w22.cell? ⟨gG, 4, none⟩ = some (.int .i64 g.members) ∧ w22.cell? ⟨gG, 5, none⟩ = some (.string g.snap) ∧ w22.cell? ⟨gG, 6, none⟩ = some (.slice p3 g.log.length c3) from ⟨mh22.k.cell 0 _ rfl, mh22.k.cell 1 _ rfl, mh22.k.cell 2 _ rfl, mh22.k.cell 3 _ rfl, mh22.k.cell 4 _ rfl, mh22.k.cell 5 _ rfl, mh22.k.cell 6 _ rfl, mg22.k.cell 0 _ rfl, mg22.k.cell 1 _ rfl, mg22.k.cell 2 _ rfl, mg22.k.cell 3 _ rfl, mg22.k.cell 4 _ rfl, mg22.k.cell 5 _ rfl, mg22.k.cell 6 _ rfl⟩)))
                        | (go_at_call 19; (with_reducible refine (lawBetween (bareOf g) (bareOf h) (bareOf g) v20 (.slice pu h.log.length cu) (.slice p3 g.log.length c3) ((own20.rd.ext b21).ext b22) mh22.hu mg22.hu (by rw [Hgb.out, Oki.out.bare]; exact HBt.out)).mono ?_); rintro e w23 ⟨rfl, b23⟩; (have bs23 : wx.heap.size ≤ w23.heap.size := (by have q1 := b23.size; have q2 := (below_drew wx.heap.size wx).size; have q3 := bs22; omega)); (have mh23 := mh22.ext b23); (have mg23 := mg22.ext b23); (have vv23 := vv22.ext b23); (have kp23 := Lib.hid (show w23.cell? ⟨gH, 0, none⟩ = some (.int .i64 h.term) ∧ w23.cell? ⟨gH, 1, none⟩ = some (.int .i64 h.vote) ∧ w23.cell? ⟨gH, 2, none⟩ = some (.int .i64 h.base) ∧ w23.cell? ⟨gH, 3, none⟩ = some (.int .i64 h.bterm) ∧ w23.cell? ⟨gH, 4, none⟩ = some (.int .i64 h.members) ∧ w23.cell? ⟨gH, 5, none⟩ = some (.string h.snap) ∧ w23.cell? ⟨gH, 6, none⟩ = some (.slice pu h.log.length cu) ∧ w23.cell? ⟨gG, 0, none⟩ = some (.int .i64 g.term) ∧ w23.cell? ⟨gG, 1, none⟩ = some (.int .i64 g.vote) ∧ w23.cell? ⟨gG, 2, none⟩ = some (.int .i64 g.base) ∧ w23.cell? ⟨gG, 3, none⟩ = some (.int .i64 g.bterm) ∧ w23.cell? ⟨gG, 4, none⟩ = some (.int .i64 g.members) ∧ w23.cell? ⟨gG, 5, none⟩ = some (.string g.snap) ∧ w23.cell? ⟨gG, 6, none⟩ = some (.slice p3 g.log.length c3) from ⟨mh23.k.cell 0 _ rfl, mh23.k.cell 1 _ rfl, mh23.k.cell 2 _ rfl, mh23.k.cell 3 _ rfl, mh23.k.cell 4 _ rfl, mh23.k.cell 5 _ rfl, mh23.k.cell 6 _ rfl, mg23.k.cell 0 _ rfl, mg23.k.cell 1 _ rfl, mg23.k.cell 2 _ rfl, mg23.k.cell 3 _ rfl, mg23.k.cell 4 _ rfl, mg23.k.cell 5 _ rfl, mg23.k.cell 6 _ rfl⟩)))
                        | (go_at_call 13; (with_reducible refine (walHard vv23).mono ?_); rintro e w24 ⟨v24, rfl, own24, b24⟩; (have bs24 : wx.heap.size ≤ w24.heap.size := (by have q1 := b24.size; have q2 := (below_drew wx.heap.size wx).size; have q3 := bs23; omega)); (have mh24 := mh23.ext b24); (have mg24 := mg23.ext b24); (have vv24 := vv23.ext b24); (have kp24 := Lib.hid (show w24.cell? ⟨gH, 0, none⟩ = some (.int .i64 h.term) ∧ w24.cell? ⟨gH, 1, none⟩ = some (.int .i64 h.vote) ∧ w24.cell? ⟨gH, 2, none⟩ = some (.int .i64 h.base) ∧ w24.cell? ⟨gH, 3, none⟩ = some (.int .i64 h.bterm) ∧ w24.cell? ⟨gH, 4, none⟩ = some (.int .i64 h.members) ∧ w24.cell? ⟨gH, 5, none⟩ = some (.string h.snap) ∧ w24.cell? ⟨gH, 6, none⟩ = some (.slice pu h.log.length cu) ∧ w24.cell? ⟨gG, 0, none⟩ = some (.int .i64 g.term) ∧ w24.cell? ⟨gG, 1, none⟩ = some (.int .i64 g.vote) ∧ w24.cell? ⟨gG, 2, none⟩ = some (.int .i64 g.base) ∧ w24.cell? ⟨gG, 3, none⟩ = some (.int .i64 g.bterm) ∧ w24.cell? ⟨gG, 4, none⟩ = some (.int .i64 g.members) ∧ w24.cell? ⟨gG, 5, none⟩ = some (.string g.snap) ∧ w24.cell? ⟨gG, 6, none⟩ = some (.slice p3 g.log.length c3) from ⟨mh24.k.cell 0 _ rfl, mh24.k.cell 1 _ rfl, mh24.k.cell 2 _ rfl, mh24.k.cell 3 _ rfl, mh24.k.cell 4 _ rfl, mh24.k.cell 5 _ rfl, mh24.k.cell 6 _ rfl, mg24.k.cell 0 _ rfl, mg24.k.cell 1 _ rfl, mg24.k.cell 2 _ rfl, mg24.k.cell 3 _ rfl, mg24.k.cell 4 _ rfl, mg24.k.cell 5 _ rfl, mg24.k.cell 6 _ rfl⟩)))
                        | (go_at_call 15; (with_reducible refine (lawBare g (.slice p3 g.log.length c3) w24 ⟨_, _, rfl⟩).mono ?_); rintro e w25 ⟨rfl, b25⟩; (have bs25 : wx.heap.size ≤ w25.heap.size := (by have q1 := b25.size; have q2 := (below_drew wx.heap.size wx).size; have q3 := bs24; omega)); (have mh25 := mh24.ext b25); (have mg25 := mg24.ext b25); (have vv25 := vv24.ext b25); (have kp25 := Lib.hid (show w25.cell? ⟨gH, 0, none⟩ = some (.int .i64 h.term) ∧ w25.cell? ⟨gH, 1, none⟩ = some (.int .i64 h.vote) ∧ w25.cell? ⟨gH, 2, none⟩ = some (.int .i64 h.base) ∧ w25.cell? ⟨gH, 3, none⟩ = some (.int .i64 h.bterm) ∧ w25.cell? ⟨gH, 4, none⟩ = some (.int .i64 h.members) ∧ w25.cell? ⟨gH, 5, none⟩ = some (.string h.snap) ∧ w25.cell? ⟨gH, 6, none⟩ = some (.slice pu h.log.length cu) ∧ w25.cell? ⟨gG, 0, none⟩ = some (.int .i64 g.term) ∧ w25.cell? ⟨gG, 1, none⟩ = some (.int .i64 g.vote) ∧ w25.cell? ⟨gG, 2, none⟩ = some (.int .i64 g.base) ∧ w25.cell? ⟨gG, 3, none⟩ = some (.int .i64 g.bterm) ∧ w25.cell? ⟨gG, 4, none⟩ = some (.int .i64 g.members) ∧ w25.cell? ⟨gG, 5, none⟩ = some (.string g.snap) ∧ w25.cell? ⟨gG, 6, none⟩ = some (.slice p3 g.log.length c3) from ⟨mh25.k.cell 0 _ rfl, mh25.k.cell 1 _ rfl, mh25.k.cell 2 _ rfl, mh25.k.cell 3 _ rfl, mh25.k.cell 4 _ rfl, mh25.k.cell 5 _ rfl, mh25.k.cell 6 _ rfl, mg25.k.cell 0 _ rfl, mg25.k.cell 1 _ rfl, mg25.k.cell 2 _ rfl, mg25.k.cell 3 _ rfl, mg25.k.cell 4 _ rfl, mg25.k.cell 5 _ rfl, mg25.k.cell 6 _ rfl⟩)))
                        | (go_at_call 12; (with_reducible refine (refSame (bareOf g) (bareOf g) v24 (.slice p3 g.log.length c3) (own24.rd.ext b25) mg25.hu).mono ?_); rintro e w26 ⟨rfl, b26⟩; (have bs26 : wx.heap.size ≤ w26.heap.size := (by have q1 := b26.size; have q2 := (below_drew wx.heap.size wx).size; have q3 := bs25; omega)); (have mh26 := mh25.ext b26); (have mg26 := mg25.ext b26); (have vv26 := vv25.ext b26); (have kp26 := Lib.hid (show w26.cell? ⟨gH, 0, none⟩ = some (.int .i64 h.term) ∧ w26.cell? ⟨gH, 1, none⟩ = some (.int .i64 h.vote) ∧ w26.cell? ⟨gH, 2, none⟩ = some (.int .i64 h.base) ∧ w26.cell? ⟨gH, 3, none⟩ = some (.int .i64 h.bterm) ∧ w26.cell? ⟨gH, 4, none⟩ = some (.int .i64 h.members) ∧ w26.cell? ⟨gH, 5, none⟩ = some (.string h.snap) ∧ w26.cell? ⟨gH, 6, none⟩ = some (.slice pu h.log.length cu) ∧ w26.cell? ⟨gG, 0, none⟩ = some (.int .i64 g.term) ∧ w26.cell? ⟨gG, 1, none⟩ = some (.int .i64 g.vote) ∧ w26.cell? ⟨gG, 2, none⟩ = some (.int .i64 g.base) ∧ w26.cell? ⟨gG, 3, none⟩ = some (.int .i64 g.bterm) ∧ w26.cell? ⟨gG, 4, none⟩ = some (.int .i64 g.members) ∧ w26.cell? ⟨gG, 5, none⟩ = some (.string g.snap) ∧ w26.cell? ⟨gG, 6, none⟩ = some (.slice p3 g.log.length c3) from ⟨mh26.k.cell 0 _ rfl, mh26.k.cell 1 _ rfl, mh26.k.cell 2 _ rfl, mh26.k.cell 3 _ rfl, mh26.k.cell 4 _ rfl, mh26.k.cell 5 _ rfl, mh26.k.cell 6 _ rfl, mg26.k.cell 0 _ rfl, mg26.k.cell 1 _ rfl, mg26.k.cell 2 _ rfl, mg26.k.cell 3 _ rfl, mg26.k.cell 4 _ rfl, mg26.k.cell 5 _ rfl, mg26.k.cell 6 _ rfl⟩))))
                    have bF := (((((((below_drew wx.heap.size wx).trans (b20.mono (below_drew wx.heap.size wx).size)).trans (b21.mono bs20)).trans (b22.mono bs21)).trans (b23.mono bs22)).trans (b24.mono bs23)).trans (b25.mono bs24)).trans (b26.mono bs25)
                    go_wp2_with fail
                    go_meet
                    exact ⟨rfl, bF⟩
                  · have hE1 : (E == 0) = false := by simpa using hE0
                    clear hE0
                    refine wp_region_F (n := 27) (S := fun w' : World => w'.cell? ⟨gH, 0, none⟩ = some (.int .i64 h.term) ∧ w'.cell? ⟨gH, 1, none⟩ = some (.int .i64 h.vote) ∧ w'.cell? ⟨gH, 2, none⟩ = some (.int .i64 h.base) ∧ w'.cell? ⟨gH, 3, none⟩ = some (.int .i64 h.bterm) ∧ w'.cell? ⟨gH, 4, none⟩ = some (.int .i64 h.members) ∧ w'.cell? ⟨gH, 5, none⟩ = some (.string h.snap) ∧ w'.cell? ⟨gH, 6, none⟩ = some (.slice pu h.log.length cu) ∧ w'.cell? ⟨gG, 0, none⟩ = some (.int .i64 g.term) ∧ w'.cell? ⟨gG, 1, none⟩ = some (.int .i64 g.vote) ∧ w'.cell? ⟨gG, 2, none⟩ = some (.int .i64 g.base) ∧ w'.cell? ⟨gG, 3, none⟩ = some (.int .i64 g.bterm) ∧ w'.cell? ⟨gG, 4, none⟩ = some (.int .i64 g.members) ∧ w'.cell? ⟨gG, 5, none⟩ = some (.string g.snap) ∧ w'.cell? ⟨gG, 6, none⟩ = some (.slice p3 g.log.length c3)) (by kernel_rfl) ?_
                    have hHeld : (fun w' : World => w'.cell? ⟨gH, 0, none⟩ = some (.int .i64 h.term) ∧ w'.cell? ⟨gH, 1, none⟩ = some (.int .i64 h.vote) ∧ w'.cell? ⟨gH, 2, none⟩ = some (.int .i64 h.base) ∧ w'.cell? ⟨gH, 3, none⟩ = some (.int .i64 h.bterm) ∧ w'.cell? ⟨gH, 4, none⟩ = some (.int .i64 h.members) ∧ w'.cell? ⟨gH, 5, none⟩ = some (.string h.snap) ∧ w'.cell? ⟨gH, 6, none⟩ = some (.slice pu h.log.length cu) ∧ w'.cell? ⟨gG, 0, none⟩ = some (.int .i64 g.term) ∧ w'.cell? ⟨gG, 1, none⟩ = some (.int .i64 g.vote) ∧ w'.cell? ⟨gG, 2, none⟩ = some (.int .i64 g.base) ∧ w'.cell? ⟨gG, 3, none⟩ = some (.int .i64 g.bterm) ∧ w'.cell? ⟨gG, 4, none⟩ = some (.int .i64 g.members) ∧ w'.cell? ⟨gG, 5, none⟩ = some (.string g.snap) ∧ w'.cell? ⟨gG, 6, none⟩ = some (.slice p3 g.log.length c3)) wx.drew := ⟨(Mh.out.ext (below_drew _ _)).k.cell 0 _ rfl, (Mh.out.ext (below_drew _ _)).k.cell 1 _ rfl, (Mh.out.ext (below_drew _ _)).k.cell 2 _ rfl, (Mh.out.ext (below_drew _ _)).k.cell 3 _ rfl, (Mh.out.ext (below_drew _ _)).k.cell 4 _ rfl, (Mh.out.ext (below_drew _ _)).k.cell 5 _ rfl, (Mh.out.ext (below_drew _ _)).k.cell 6 _ rfl, (Mg.out.ext (below_drew _ _)).k.cell 0 _ rfl, (Mg.out.ext (below_drew _ _)).k.cell 1 _ rfl, (Mg.out.ext (below_drew _ _)).k.cell 2 _ rfl, (Mg.out.ext (below_drew _ _)).k.cell 3 _ rfl, (Mg.out.ext (below_drew _ _)).k.cell 4 _ rfl, (Mg.out.ext (below_drew _ _)).k.cell 5 _ rfl, (Mg.out.ext (below_drew _ _)).k.cell 6 _ rfl⟩
                    refine wpAnyF_tk 0 (some 117) (Op.move (Operand.tmp 17)) 24 (v := ?_) rfl (by kernel_rfl) (fun _ _ _ h => h) ?_ hHeld ?_
                    rotate_left
                    · intro w hSw
                      try dsimp only at hSw
                      obtain ⟨_, _, _, _, _, _, _, _, _, _, _, _, _, _⟩ := hSw
                      dsimp only [bare]
                      go_simp <;> with_reducible rfl
                    try simp only [bare, Act.put, List.setIfInBounds_toArray, List.set_cons_zero, List.set_cons_succ]
                    refine wpAnyF_tk 1 (some 118) (Op.binOp BinOp.eql 24 (Operand.tmp 117) (Operand.const (Value.pointer none)) 24) 4 (v := ?_) rfl (by kernel_rfl) (fun _ _ _ h => h) ?_ hHeld ?_
                    rotate_left
                    · intro w hSw
                      try dsimp only at hSw
                      obtain ⟨_, _, _, _, _, _, _, _, _, _, _, _, _, _⟩ := hSw
                      dsimp only [bare]
                      go_simp <;> with_reducible rfl
                    try simp only [bare, Act.put, List.setIfInBounds_toArray, List.set_cons_zero, List.set_cons_succ]
                    refine wpAnyF_tk 2 (some 119) (Op.move (Operand.tmp 118)) 4 (v := ?_) rfl (by kernel_rfl) (fun _ _ _ h => h) ?_ hHeld ?_
                    rotate_left
                    · intro w hSw
                      try dsimp only at hSw
                      obtain ⟨_, _, _, _, _, _, _, _, _, _, _, _, _, _⟩ := hSw
                      dsimp only [bare]
                      go_simp <;> with_reducible rfl
                    try simp only [bare, Act.put, List.setIfInBounds_toArray, List.set_cons_zero, List.set_cons_succ]
                    refine wpAnyF_tg 3 (some 120) (Op.move (Operand.tmp 18)) 25 (some (2, false)) (v := ?_) rfl (by kernel_rfl) (by kernel_rfl) (fun _ _ _ h => h) ?_ hHeld ?_
                    rotate_left
                    · intro w hSw
                      try dsimp only at hSw
                      obtain ⟨_, _, _, _, _, _, _, _, _, _, _, _, _, _⟩ := hSw
                      dsimp only [bare]
                      go_simp <;> with_reducible rfl
                    try simp only [bare, Act.put, List.setIfInBounds_toArray, List.set_cons_zero, List.set_cons_succ]
                    refine wpAnyF_tg 4 (some 121) (Op.binOp BinOp.neq 25 (Operand.tmp 120) (Operand.const (Value.int IntKind.i64 0)) 25) 4 (some (2, false)) (v := ?_) rfl (by kernel_rfl) (by kernel_rfl) (fun _ _ _ h => h) ?_ hHeld ?_
                    rotate_left
                    · intro w hSw
                      try dsimp only at hSw
                      obtain ⟨_, _, _, _, _, _, _, _, _, _, _, _, _, _⟩ := hSw
                      dsimp only [bare]
                      go_simp <;> with_reducible rfl
                    try simp only [bare, Act.put, List.setIfInBounds_toArray, List.set_cons_zero, List.set_cons_succ]
                    refine wpAnyF_tk 5 (some 122) (Op.pick (Operand.tmp 119) (Operand.const (Value.bool true)) (Operand.tmp 121)) 4 (v := ?_) rfl (by kernel_rfl) (fun _ _ _ h => h) ?_ hHeld ?_
                    rotate_left
                    · intro w hSw
                      try dsimp only at hSw
                      obtain ⟨_, _, _, _, _, _, _, _, _, _, _, _, _, _⟩ := hSw
                      dsimp only [bare]
                      go_simp <;> with_reducible rfl
                    try simp only [bare, Act.put, List.setIfInBounds_toArray, List.set_cons_zero, List.set_cons_succ]
                    refine wpAnyF_tk 6 (some 123) (Op.move (Operand.tmp 122)) 4 (v := ?_) rfl (by kernel_rfl) (fun _ _ _ h => h) ?_ hHeld ?_
                    rotate_left
                    · intro w hSw
                      try dsimp only at hSw
                      obtain ⟨_, _, _, _, _, _, _, _, _, _, _, _, _, _⟩ := hSw
                      dsimp only [bare]
                      go_simp <;> with_reducible rfl
                    try simp only [bare, Act.put, List.setIfInBounds_toArray, List.set_cons_zero, List.set_cons_succ]
                    refine wpAnyF_tg 7 (some 124) (Op.move (Operand.tmp 17)) 24 (some (6, false)) (v := ?_) rfl (by kernel_rfl) (by kernel_rfl) (fun _ _ _ h => h) ?_ hHeld ?_
                    rotate_left
                    · intro w hSw
                      try dsimp only at hSw
                      obtain ⟨_, _, _, _, _, _, _, _, _, _, _, _, _, _⟩ := hSw
                      dsimp only [bare]
                      go_simp <;> with_reducible rfl
                    try simp only [bare, Act.put, List.setIfInBounds_toArray, List.set_cons_zero, List.set_cons_succ]
                    refine wpAnyF_tg 9 (some 126) (Op.load 30 (Operand.tmp 12)) 30 (some (6, false)) (v := ?_) rfl (by kernel_rfl) (by kernel_rfl) (fun _ _ _ h => h) ?_ hHeld ?_
                    rotate_left
                    · intro w hSw
                      try dsimp only at hSw
                      obtain ⟨_, _, _, _, _, _, _, _, _, _, _, _, _, _⟩ := hSw
                      dsimp only [bare]
                      go_simp <;> with_reducible rfl
                    try simp only [bare, Act.put, List.setIfInBounds_toArray, List.set_cons_zero, List.set_cons_succ]
                    refine wpAnyF_tg 11 (some 128) (Op.load 30 (Operand.tmp 14)) 30 (some (6, false)) (v := ?_) rfl (by kernel_rfl) (by kernel_rfl) (fun _ _ _ h => h) ?_ hHeld ?_
                    rotate_left
                    · intro w hSw
                      try dsimp only at hSw
                      obtain ⟨_, _, _, _, _, _, _, _, _, _, _, _, _, _⟩ := hSw
                      dsimp only [bare]
                      go_simp <;> with_reducible rfl
                    try simp only [bare, Act.put, List.setIfInBounds_toArray, List.set_cons_zero, List.set_cons_succ]
                    refine wpAnyF_og 8 (some 125) (Op.call { callee := Callee.value (Operand.func 13), args := #[Operand.tmp 124], argTypes := #[24] }) 30 (some (6, false)) rfl (by kernel_rfl) (by kernel_rfl) (fun K hK => ?_)
                    dsimp only [bare]; go_simp
                    (with_reducible refine (walHard (Vv.out.ext (below_drew _ _))).mono ?_)
                    rintro e w20 ⟨v20, rfl, own20, b20⟩
                    dsimp only
                    have bs20 : wx.heap.size ≤ w20.heap.size := (by have q1 := b20.size; have q2 := (below_drew wx.heap.size wx).size; omega)
                    have mh20 := (Mh.out.ext (below_drew _ _)).ext b20
                    have mg20 := (Mg.out.ext (below_drew _ _)).ext b20
                    have vv20 := (Vv.out.ext (below_drew _ _)).ext b20
                    refine hK _ _ ⟨mh20.k.cell 0 _ rfl, mh20.k.cell 1 _ rfl, mh20.k.cell 2 _ rfl, mh20.k.cell 3 _ rfl, mh20.k.cell 4 _ rfl, mh20.k.cell 5 _ rfl, mh20.k.cell 6 _ rfl, mg20.k.cell 0 _ rfl, mg20.k.cell 1 _ rfl, mg20.k.cell 2 _ rfl, mg20.k.cell 3 _ rfl, mg20.k.cell 4 _ rfl, mg20.k.cell 5 _ rfl, mg20.k.cell 6 _ rfl⟩ (fun hHeld => ?_)
                    clear hK K
                    try simp only [bare, Act.put, List.setIfInBounds_toArray, List.set_cons_zero, List.set_cons_succ]
                    refine wpAnyF_og 10 (some 127) (Op.call { callee := Callee.value (Operand.func 15), args := #[Operand.tmp 126], argTypes := #[30] }) 30 (some (6, false)) rfl (by kernel_rfl) (by kernel_rfl) (fun K hK => ?_)
                    dsimp only [bare]; go_simp
                    (with_reducible refine (lawBare h (.slice pu h.log.length cu) w20 ⟨_, _, rfl⟩).mono ?_)
                    rintro e w21 ⟨rfl, b21⟩
                    dsimp only
                    have bs21 : wx.heap.size ≤ w21.heap.size := (by have q1 := b21.size; have q2 := (below_drew wx.heap.size wx).size; have q3 := bs20; omega)
                    have mh21 := mh20.ext b21
                    have mg21 := mg20.ext b21
                    have vv21 := vv20.ext b21
                    refine hK _ _ ⟨mh21.k.cell 0 _ rfl, mh21.k.cell 1 _ rfl, mh21.k.cell 2 _ rfl, mh21.k.cell 3 _ rfl, mh21.k.cell 4 _ rfl, mh21.k.cell 5 _ rfl, mh21.k.cell 6 _ rfl, mg21.k.cell 0 _ rfl, mg21.k.cell 1 _ rfl, mg21.k.cell 2 _ rfl, mg21.k.cell 3 _ rfl, mg21.k.cell 4 _ rfl, mg21.k.cell 5 _ rfl, mg21.k.cell 6 _ rfl⟩ (fun hHeld => ?_)
                    clear hK K
                    try simp only [bare, Act.put, List.setIfInBounds_toArray, List.set_cons_zero, List.set_cons_succ]
                    refine wpAnyF_og 12 (some 129) (Op.call { callee := Callee.value (Operand.func 15), args := #[Operand.tmp 128], argTypes := #[30] }) 30 (some (6, false)) rfl (by kernel_rfl) (by kernel_rfl) (fun K hK => ?_)
                    dsimp only [bare]; go_simp
                    (with_reducible refine (lawBare g (.slice p3 g.log.length c3) w21 ⟨_, _, rfl⟩).mono ?_)
                    rintro e w22 ⟨rfl, b22⟩
                    dsimp only
                    have bs22 : wx.heap.size ≤ w22.heap.size := (by have q1 := b22.size; have q2 := (below_drew wx.heap.size wx).size; have q3 := bs21; omega)
                    have mh22 := mh21.ext b22
                    have mg22 := mg21.ext b22
                    have vv22 := vv21.ext b22
                    refine hK _ _ ⟨mh22.k.cell 0 _ rfl, mh22.k.cell 1 _ rfl, mh22.k.cell 2 _ rfl, mh22.k.cell 3 _ rfl, mh22.k.cell 4 _ rfl, mh22.k.cell 5 _ rfl, mh22.k.cell 6 _ rfl, mg22.k.cell 0 _ rfl, mg22.k.cell 1 _ rfl, mg22.k.cell 2 _ rfl, mg22.k.cell 3 _ rfl, mg22.k.cell 4 _ rfl, mg22.k.cell 5 _ rfl, mg22.k.cell 6 _ rfl⟩ (fun hHeld => ?_)
                    clear hK K
                    try simp only [bare, Act.put, List.setIfInBounds_toArray, List.set_cons_zero, List.set_cons_succ]
                    refine wpAnyF_og 13 (some 130) (Op.call { callee := Callee.value (Operand.func 19), args := #[Operand.tmp 125, Operand.tmp 127, Operand.tmp 129], argTypes := #[30, 30, 30] }) 4 (some (6, false)) rfl (by kernel_rfl) (by kernel_rfl) (fun K hK => ?_)
                    dsimp only [bare]; go_simp
                    (with_reducible refine (lawBetween (bareOf y) (bareOf h) (bareOf g) v20 (.slice pu h.log.length cu) (.slice p3 g.log.length c3) ((own20.rd.ext b21).ext b22) mh22.hu mg22.hu (by rw [Hyb.out, Oki.out.bare, Hgb.out]; exact HBt.out)).mono ?_)
                    rintro e w23 ⟨rfl, b23⟩
                    dsimp only
                    have bs23 : wx.heap.size ≤ w23.heap.size := (by have q1 := b23.size; have q2 := (below_drew wx.heap.size wx).size; have q3 := bs22; omega)
                    have mh23 := mh22.ext b23
                    have mg23 := mg22.ext b23
                    have vv23 := vv22.ext b23
                    refine hK _ _ ⟨mh23.k.cell 0 _ rfl, mh23.k.cell 1 _ rfl, mh23.k.cell 2 _ rfl, mh23.k.cell 3 _ rfl, mh23.k.cell 4 _ rfl, mh23.k.cell 5 _ rfl, mh23.k.cell 6 _ rfl, mg23.k.cell 0 _ rfl, mg23.k.cell 1 _ rfl, mg23.k.cell 2 _ rfl, mg23.k.cell 3 _ rfl, mg23.k.cell 4 _ rfl, mg23.k.cell 5 _ rfl, mg23.k.cell 6 _ rfl⟩ (fun hHeld => ?_)
                    clear hK K
                    try simp only [bare, Act.put, List.setIfInBounds_toArray, List.set_cons_zero, List.set_cons_succ]
                    refine wpAnyF_tg 14 (some 131) (Op.unOp UnOp.not 4 (Operand.tmp 130)) 4 (some (6, false)) (v := ?_) rfl (by kernel_rfl) (by kernel_rfl) (fun _ _ _ h => h) ?_ hHeld ?_
                    rotate_left
                    · intro w hSw
                      try dsimp only at hSw
                      obtain ⟨_, _, _, _, _, _, _, _, _, _, _, _, _, _⟩ := hSw
                      dsimp only [bare]
                      go_simp <;> with_reducible rfl
                    try simp only [bare, Act.put, List.setIfInBounds_toArray, List.set_cons_zero, List.set_cons_succ]
                    refine wpAnyF_tk 15 (some 132) (Op.pick (Operand.tmp 123) (Operand.const (Value.bool true)) (Operand.tmp 131)) 4 (v := ?_) rfl (by kernel_rfl) (fun _ _ _ h => h) ?_ hHeld ?_
                    rotate_left
                    · intro w hSw
                      try dsimp only at hSw
                      obtain ⟨_, _, _, _, _, _, _, _, _, _, _, _, _, _⟩ := hSw
                      dsimp only [bare]
                      go_simp <;> with_reducible rfl
                    try simp only [bare, Act.put, List.setIfInBounds_toArray, List.set_cons_zero, List.set_cons_succ]
                    refine wpAnyF_tk 16 (some 133) (Op.move (Operand.tmp 132)) 4 (v := ?_) rfl (by kernel_rfl) (fun _ _ _ h => h) ?_ hHeld ?_
                    rotate_left
                    · intro w hSw
                      try dsimp only at hSw
                      obtain ⟨_, _, _, _, _, _, _, _, _, _, _, _, _, _⟩ := hSw
                      dsimp only [bare]
                      go_simp <;> with_reducible rfl
                    try simp only [bare, Act.put, List.setIfInBounds_toArray, List.set_cons_zero, List.set_cons_succ]
                    refine wpAnyF_tg 17 (some 134) (Op.move (Operand.tmp 15)) 25 (some (16, false)) (v := ?_) rfl (by kernel_rfl) (by kernel_rfl) (fun _ _ _ h => h) ?_ hHeld ?_
                    rotate_left
                    · intro w hSw
                      try dsimp only at hSw
                      obtain ⟨_, _, _, _, _, _, _, _, _, _, _, _, _, _⟩ := hSw
                      dsimp only [bare]
                      go_simp <;> with_reducible rfl
                    try simp only [bare, Act.put, List.setIfInBounds_toArray, List.set_cons_zero, List.set_cons_succ]
                    refine wpAnyF_tg 18 (some 135) (Op.binOp BinOp.eql 25 (Operand.tmp 134) (Operand.const (Value.int IntKind.i64 0)) 25) 4 (some (16, false)) (v := ?_) rfl (by kernel_rfl) (by kernel_rfl) (fun _ _ _ h => h) ?_ hHeld ?_
                    rotate_left
                    · intro w hSw
                      try dsimp only at hSw
                      obtain ⟨_, _, _, _, _, _, _, _, _, _, _, _, _, _⟩ := hSw
                      dsimp only [bare]
                      go_simp <;> with_reducible rfl
                    try simp only [bare, Act.put, List.setIfInBounds_toArray, List.set_cons_zero, List.set_cons_succ]
                    refine wpAnyF_tg 19 (some 136) (Op.move (Operand.tmp 135)) 4 (some (16, false)) (v := ?_) rfl (by kernel_rfl) (by kernel_rfl) (fun _ _ _ h => h) ?_ hHeld ?_
                    rotate_left
                    · intro w hSw
                      try dsimp only at hSw
                      obtain ⟨_, _, _, _, _, _, _, _, _, _, _, _, _, _⟩ := hSw
                      dsimp only [bare]
                      go_simp <;> with_reducible rfl
                    try simp only [bare, Act.put, List.setIfInBounds_toArray, List.set_cons_zero, List.set_cons_succ]
                    refine wpAnyF_sk 20 (some 137) (Op.move (Operand.tmp 17)) 24 (some (19, true)) rfl (by kernel_rfl) (by kernel_rfl) (fun _ _ _ h => h) hHeld ?_
                    try simp only [bare, Act.put, List.setIfInBounds_toArray, List.set_cons_zero, List.set_cons_succ]
                    refine wpAnyF_sk 21 (some 138) (Op.call { callee := Callee.value (Operand.func 13), args := #[Operand.tmp 137], argTypes := #[24] }) 30 (some (19, true)) rfl (by kernel_rfl) (by kernel_rfl) (fun _ _ _ h => h) hHeld ?_
                    try simp only [bare, Act.put, List.setIfInBounds_toArray, List.set_cons_zero, List.set_cons_succ]
                    refine wpAnyF_sk 22 (some 139) (Op.load 30 (Operand.tmp 14)) 30 (some (19, true)) rfl (by kernel_rfl) (by kernel_rfl) (fun _ _ _ h => h) hHeld ?_
                    try simp only [bare, Act.put, List.setIfInBounds_toArray, List.set_cons_zero, List.set_cons_succ]
                    refine wpAnyF_sk 23 (some 140) (Op.call { callee := Callee.value (Operand.func 15), args := #[Operand.tmp 139], argTypes := #[30] }) 30 (some (19, true)) rfl (by kernel_rfl) (by kernel_rfl) (fun _ _ _ h => h) hHeld ?_
                    try simp only [bare, Act.put, List.setIfInBounds_toArray, List.set_cons_zero, List.set_cons_succ]
                    refine wpAnyF_sk 24 (some 141) (Op.call { callee := Callee.value (Operand.func 12), args := #[Operand.tmp 138, Operand.tmp 140], argTypes := #[30, 30] }) 4 (some (19, true)) rfl (by kernel_rfl) (by kernel_rfl) (fun _ _ _ h => h) hHeld ?_
                    try simp only [bare, Act.put, List.setIfInBounds_toArray, List.set_cons_zero, List.set_cons_succ]
                    refine wpAnyF_sk 25 (some 142) (Op.unOp UnOp.not 4 (Operand.tmp 141)) 4 (some (19, true)) rfl (by kernel_rfl) (by kernel_rfl) (fun _ _ _ h => h) hHeld ?_
                    try simp only [bare, Act.put, List.setIfInBounds_toArray, List.set_cons_zero, List.set_cons_succ]
                    refine wpAnyF_tg 26 (some 143) (Op.pick (Operand.tmp 136) (Operand.tmp 142) (Operand.const (Value.bool false))) 4 (some (16, false)) (v := ?_) rfl (by kernel_rfl) (by kernel_rfl) (fun _ _ _ h => h) ?_ hHeld ?_
                    rotate_left
                    · intro w hSw
                      try dsimp only at hSw
                      obtain ⟨_, _, _, _, _, _, _, _, _, _, _, _, _, _⟩ := hSw
                      dsimp only [bare]
                      go_simp <;> with_reducible rfl
                    try simp only [bare, Act.put, List.setIfInBounds_toArray, List.set_cons_zero, List.set_cons_succ]
                    refine wpAnyF_end (some 144) (Op.pick (Operand.tmp 133) (Operand.const (Value.bool true)) (Operand.tmp 143)) 4 rfl (by kernel_rfl) (by kernel_rfl) (fun K hK => ?_)
                    dsimp only [bare]; go_simp
                    refine hK _ _ ?_
                    clear hK K
                    try simp only [bare, Act.put, List.setIfInBounds_toArray, List.set_cons_zero, List.set_cons_succ]
                    have bF := ((((below_drew wx.heap.size wx).trans (b20.mono (below_drew wx.heap.size wx).size)).trans (b21.mono bs20)).trans (b22.mono bs21)).trans (b23.mono bs22)
                    go_wp2_with fail
                    go_meet
                    exact ⟨rfl, bF⟩
                case rest =>
                  obtain ⟨hq, bq⟩ := hcut
                  subst hq
                  clear yh0 yh1 yh2 yh3 yh4 yh5 yh6 yg0 yg1 yg2 yg3 yg4 yg5 yg6
                  have dF := Dx.out.ext bq
                  have vF := Vx.out.ext bq
                  have bF := bx.trans (bq.mono bx.size)
                  have MgF := Lib.hid (Mgx.out.ext bq)
                  have AmF := Lib.hid (Amx.out.ext bq)
                  have kGF := MgF.out.k
                  have yg0 := kGF.cell 0 _ rfl
                  have yg1 := kGF.cell 1 _ rfl
                  have yg2 := kGF.cell 2 _ rfl
                  have yg3 := kGF.cell 3 _ rfl
                  have yg4 := kGF.cell 4 _ rfl
                  have yg5 := kGF.cell 5 _ rfl
                  have yg6 := kGF.cell 6 _ rfl
                  have hs := walSaveV Tn.out dF bF hgx0 Fin.out.inv (by omega) vF g (.slice p3 g.log.length c3) MgF.out.hu MgF.out.hux hux HE2.out
                  clear kGF Dx Vx Mhx Mgx Amx Mh Mg Vv bq bx
                  go_wp2_with fail
                  refine hs.mono ?_
                  rintro e w30 ⟨rfl, X30, v30, hx30, -, d30, v30', c30, hvo30⟩
                  have b30 := bF.trans (c30.gwB bF.size hgx0)
                  have mg30 := (MgF.out.atGw c30 hGx hux).mono hx30
                  have am30 := (AmF.out.atGw c30 hAx).mono hx30
                  have kA30 := am30.k
                  have z9 := kA30.cell 9 _ rfl
                  have hcr := lCrash d30 (Fin3.out.inv.ok (by omega)) (rfl : crashD d3 last.picks = crashD d3 last.picks) (Hla.out.picks.ext b30) (fun hne q hq => .inl (intsW_in Hla.out.picks hne q hq)) Hla.out.hi
                  clear hs dF vF bF MgF AmF c30 hvo30 v30' hx30 kA30 yg0 yg1 yg2 yg3 yg4 yg5 yg6
                  go_wp2_with fail
                  refine hcr.mono ?_
                  rintro e w31 ⟨rfl, d31, c31⟩
                  have b31 := b30.trans (c31.gx d30.size)
                  have mg31 := mg30.gx c31
                  have ho := walOpen Tn.out d31 b31 (Fin3.out.inv.crash0 last.picks) (by omega)
                  rw [Hop3.out] at ho
                  clear hcr d30 c31 mg30 am30 z9 b30
                  go_wp2_with fail
                  refine ho.mono ?_
                  rintro e wy ⟨⟨gy, vy, Xy, rfl, hgy, hxy, -, dy, vy', hvy⟩, -, cy⟩
                  have by_ := b31.trans (cy.gx d31.size)
                  have Mg := Lib.hid ((mg31.gx cy).mono hxy)
                  have Mh := Mg
                  have Vv := Lib.hid vy'
                  have kGy := Mg.out.k
                  have yg0 := kGy.cell 0 _ rfl
                  have yg1 := kGy.cell 1 _ rfl
                  have yg2 := kGy.cell 2 _ rfl
                  have yg3 := kGy.cell 3 _ rfl
                  have yg4 := kGy.cell 4 _ rfl
                  have yg5 := kGy.cell 5 _ rfl
                  have yg6 := kGy.cell 6 _ rfl
                  clear ho d31 cy hgy hxy dy vy' hvy mg31 b31 kGy
                  have hbw : w0.heap.size ≤ wy.heap.size := by_.size
                  go_upto_region 31 with (fail)
                  go_region_held3 (fun w' => w'.cell? ⟨gG, 0, none⟩ = some (.int .i64 g.term) ∧ w'.cell? ⟨gG, 1, none⟩ = some (.int .i64 g.vote) ∧ w'.cell? ⟨gG, 2, none⟩ = some (.int .i64 g.base) ∧ w'.cell? ⟨gG, 3, none⟩ = some (.int .i64 g.bterm) ∧ w'.cell? ⟨gG, 4, none⟩ = some (.int .i64 g.members) ∧ w'.cell? ⟨gG, 5, none⟩ = some (.string g.snap) ∧ w'.cell? ⟨gG, 6, none⟩ = some (.slice p3 g.log.length c3)) (first | (with_reducible exact kp43.out) | (with_reducible exact kp42.out) | (with_reducible exact kp41.out) | (with_reducible exact kp40.out) | go_keep)
                    (first
                      | (go_at_call 13; (with_reducible refine (walHard (Vv.out.ext (below_drew _ _))).mono ?_); rintro e w40 ⟨v40, rfl, own40, b40⟩; (have bs40 : wy.heap.size ≤ w40.heap.size := (by have q1 := b40.size; have q2 := (below_drew wy.heap.size wy).size; omega)); (have mh40 := (Mh.out.ext (below_drew _ _)).ext b40); (have mg40 := (Mg.out.ext (below_drew _ _)).ext b40); (have vv40 := (Vv.out.ext (below_drew _ _)).ext b40); (have kp40 := Lib.hid (show w40.cell? ⟨gG, 0, none⟩ = some (.int .i64 g.term) ∧ w40.cell? ⟨gG, 1, none⟩ = some (.int .i64 g.vote) ∧ w40.cell? ⟨gG, 2, none⟩ = some (.int .i64 g.base) ∧ w40.cell? ⟨gG, 3, none⟩ = some (.int .i64 g.bterm) ∧ w40.cell? ⟨gG, 4, none⟩ = some (.int .i64 g.members) ∧ w40.cell? ⟨gG, 5, none⟩ = some (.string g.snap) ∧ w40.cell? ⟨gG, 6, none⟩ = some (.slice p3 g.log.length c3) from ⟨mg40.k.cell 0 _ rfl, mg40.k.cell 1 _ rfl, mg40.k.cell 2 _ rfl, mg40.k.cell 3 _ rfl, mg40.k.cell 4 _ rfl, mg40.k.cell 5 _ rfl, mg40.k.cell 6 _ rfl⟩)))
                      | (go_at_call 15; (with_reducible refine (lawBare g (.slice p3 g.log.length c3) w40 ⟨_, _, rfl⟩).mono ?_); rintro e w41 ⟨rfl, b41⟩; (have bs41 : wy.heap.size ≤ w41.heap.size := (by have q1 := b41.size; have q2 := (below_drew wy.heap.size wy).size; have q3 := bs40; omega)); (have mh41 := mh40.ext b41); (have mg41 := mg40.ext b41); (have vv41 := vv40.ext b41); (have kp41 := Lib.hid (show w41.cell? ⟨gG, 0, none⟩ = some (.int .i64 g.term) ∧ w41.cell? ⟨gG, 1, none⟩ = some (.int .i64 g.vote) ∧ w41.cell? ⟨gG, 2, none⟩ = some (.int .i64 g.base) ∧ w41.cell? ⟨gG, 3, none⟩ = some (.int .i64 g.bterm) ∧ w41.cell? ⟨gG, 4, none⟩ = some (.int .i64 g.members) ∧ w41.cell? ⟨gG, 5, none⟩ = some (.string g.snap) ∧ w41.cell? ⟨gG, 6, none⟩ = some (.slice p3 g.log.length c3) from ⟨mg41.k.cell 0 _ rfl, mg41.k.cell 1 _ rfl, mg41.k.cell 2 _ rfl, mg41.k.cell 3 _ rfl, mg41.k.cell 4 _ rfl, mg41.k.cell 5 _ rfl, mg41.k.cell 6 _ rfl⟩)))
                      | (go_at_call 12; (with_reducible refine (refSame (bareOf g) (bareOf g) v40 (.slice p3 g.log.length c3) (own40.rd.ext b41) mg41.hu).mono ?_); rintro e w42 ⟨rfl, b42⟩; (have bs42 : wy.heap.size ≤ w42.heap.size := (by have q1 := b42.size; have q2 := (below_drew wy.heap.size wy).size; have q3 := bs41; omega)); (have mh42 := mh41.ext b42); (have mg42 := mg41.ext b42); (have vv42 := vv41.ext b42); (have kp42 := Lib.hid (show w42.cell? ⟨gG, 0, none⟩ = some (.int .i64 g.term) ∧ w42.cell? ⟨gG, 1, none⟩ = some (.int .i64 g.vote) ∧ w42.cell? ⟨gG, 2, none⟩ = some (.int .i64 g.base) ∧ w42.cell? ⟨gG, 3, none⟩ = some (.int .i64 g.bterm) ∧ w42.cell? ⟨gG, 4, none⟩ = some (.int .i64 g.members) ∧ w42.cell? ⟨gG, 5, none⟩ = some (.string g.snap) ∧ w42.cell? ⟨gG, 6, none⟩ = some (.slice p3 g.log.length c3) from ⟨mg42.k.cell 0 _ rfl, mg42.k.cell 1 _ rfl, mg42.k.cell 2 _ rfl, mg42.k.cell 3 _ rfl, mg42.k.cell 4 _ rfl, mg42.k.cell 5 _ rfl, mg42.k.cell 6 _ rfl⟩)))
                      | (go_at_call 3; (with_reducible refine (walRuns_walk w42 (Tn.out _ (by_.trans (((((below_drew wy.heap.size wy).trans (b40.mono (below_drew wy.heap.size wy).size)).trans (b41.mono bs40)).trans (b42.mono bs41)).mono by_.size)))).mono ?_); rintro e w43 ⟨rfl, b43⟩; (have bs43 : wy.heap.size ≤ w43.heap.size := (by have q1 := b43.size; have q2 := (below_drew wy.heap.size wy).size; have q3 := bs42; omega)); (have mh43 := mh42.ext b43); (have mg43 := mg42.ext b43); (have vv43 := vv42.ext b43); (have kp43 := Lib.hid (show w43.cell? ⟨gG, 0, none⟩ = some (.int .i64 g.term) ∧ w43.cell? ⟨gG, 1, none⟩ = some (.int .i64 g.vote) ∧ w43.cell? ⟨gG, 2, none⟩ = some (.int .i64 g.base) ∧ w43.cell? ⟨gG, 3, none⟩ = some (.int .i64 g.bterm) ∧ w43.cell? ⟨gG, 4, none⟩ = some (.int .i64 g.members) ∧ w43.cell? ⟨gG, 5, none⟩ = some (.string g.snap) ∧ w43.cell? ⟨gG, 6, none⟩ = some (.slice p3 g.log.length c3) from ⟨mg43.k.cell 0 _ rfl, mg43.k.cell 1 _ rfl, mg43.k.cell 2 _ rfl, mg43.k.cell 3 _ rfl, mg43.k.cell 4 _ rfl, mg43.k.cell 5 _ rfl, mg43.k.cell 6 _ rfl⟩))))
                  have bF := ((((below_drew wy.heap.size wy).trans (b40.mono (below_drew wy.heap.size wy).size)).trans (b41.mono bs40)).trans (b42.mono bs41)).trans (b43.mono bs42)
                  have bL := by_.trans (bF.mono by_.size)
                  go_wp2_with fail
                  go_ret
                  exact ⟨rfl, bL⟩
end Go.Proofs.YtgpgcnmnfnnkjaaDoor
end
