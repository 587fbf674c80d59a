/- The walk of WalKeeps. -/
import Derived.Test.YtgpgcnmnfnnkjaaDoorGWalCuts36
import Derived.Test.YtgpgcnmnfnnkjaaDoorGWalCuts37
import Derived.Test.YtgpgcnmnfnnkjaaDoorGWalCuts44
import Derived.StillTailTactics
set_option linter.unusedVariables false
set_option linter.unusedSimpArgs false
section
namespace Go.Proofs.YtgpgcnmnfnnkjaaDoor
open Go Go.RowKit Go.PlainAid BigFrame
attribute [local go_sem] After.same
theorem intsW_in {w : World} {v : Value} {l : List Int} (h : Rd intsE w v l) : l ≠ [] → ∀ k, v.ownBlock = some k → k < w.heap.size := fun hn => Cells.lt h (by rw [intsE.all_length]; have h2 := List.length_pos_iff.2 hn; show 0 < l.length * 1; omega)
theorem WalV.chg1 {w w' : World} {X G : Nat → Prop} {g gw : Nat} {v : Value} {ws : Wl} (h : WalV w X g gw v ws) (hc : Chg G w w') (h1 : ¬ G gw) (h2 : ∀ k, v.ownBlock = some k → ¬ G k) : WalV w' X g gw v ws :=
  ⟨hc.blk h.blk h1, hc.cells h.log h2, h.inX, h.lX, h.off, h.few, h.num⟩
theorem asl10 {w : World} {b off n c : Nat} {l : List AskL} (h : Rd aslE w (.slice (some ⟨b, off, none⟩) n c) l) {k : Nat} (hk : k < l.length) : w.cell? ⟨b, off + k * 10, none⟩ = some (.int .i64 l[k].kind) ∧ w.cell? ⟨b, off + k * 10 + 1, none⟩ = some (.int .i64 l[k].n) ∧ w.cell? ⟨b, off + k * 10 + 2, none⟩ = some (.int .i64 l[k].h.term) ∧ w.cell? ⟨b, off + k * 10 + 3, none⟩ = some (.int .i64 l[k].h.vote) ∧ w.cell? ⟨b, off + k * 10 + 4, none⟩ = some (.int .i64 l[k].h.base) ∧ w.cell? ⟨b, off + k * 10 + 5, none⟩ = some (.int .i64 l[k].h.bterm) ∧ w.cell? ⟨b, off + k * 10 + 6, none⟩ = some (.int .i64 l[k].h.members) ∧ w.cell? ⟨b, off + k * 10 + 7, none⟩ = some (.string l[k].h.snap) ∧ w.cell? ⟨b, off + k * 10 + 8, none⟩ = some (l[k].vh) ∧ w.cell? ⟨b, off + k * 10 + 9, none⟩ = some (l[k].vp) :=
  ⟨h.at_ hk 0 (by decide), h.at_ hk 1 (by decide), h.at_ hk 2 (by decide), h.at_ hk 3 (by decide), h.at_ hk 4 (by decide), h.at_ hk 5 (by decide), h.at_ hk 6 (by decide), h.at_ hk 7 (by decide), h.at_ hk 8 (by decide), h.at_ hk 9 (by decide)⟩
/-- the loop's Hard in memory, and the Wal -/
structure KpV (w0 : World) (gD gH : Nat) (wr : World) (X : Nat → Prop) (d : Dk) (h g : Hrd) (n gw : Nat) (v u : Value) : Prop where
  gw0 : w0.heap.size ≤ gw
  dd : DwS w0 X gD d wr
  vv : WalV wr X gD gw v ⟨n, h, false⟩
  hb : Below w0.heap.size w0 wr
  kH : Blk wr gH #[.int .i64 g.term, .int .i64 g.vote, .int .i64 g.base, .int .i64 g.bterm, .int .i64 g.members, .string g.snap, u] 30
  inX : X gH
  hu : Rd etyE wr u g.log
  hux : ∀ k, u.ownBlock = some k → k < w0.heap.size ∨ X k
  hug : u.ownBlock ≠ some gw
  ne : gH ≠ gw
  gH0 : w0.heap.size ≤ gH
  huH : u.ownBlock ≠ some gH
  hvH : v.ownBlock ≠ some gH
section
variable {w0 wr w' : World} {gD gH : Nat} {X : Nat → Prop} {d d' : Dk} {h g : Hrd} {n gw : Nat} {v u : Value}
theorem KpV.ext (k : KpV w0 gD gH wr X d h g n gw v u) (hb : Below wr.heap.size wr w') : KpV w0 gD gH w' X d h g n gw v u :=
  ⟨k.gw0, k.dd.ext hb, k.vv.ext hb, k.hb.trans (hb.mono k.hb.size), k.kH.ext hb, k.inX, k.hu.ext hb, k.hux, k.hug, k.ne, k.gH0, k.huH, k.hvH⟩
/-- another Hard is stored -/
theorem KpV.stored (k : KpV w0 gD gH wr X d h g n gw v u) {w3 : World} {g' : Hrd} {p : Option Addr} {c : Nat} (b3 : Below wr.heap.size wr w3) (rd : Rd etyE w3 (.slice p g'.log.length c) g'.log) (hor : ((.slice p g'.log.length c : Value) = u ∧ g' = g) ∨ ∀ j, (Value.slice p g'.log.length c).ownBlock = some j → wr.heap.size ≤ j ∧ j < w3.heap.size) :
    KpV w0 gD gH (((((((w3.setCell ⟨gH, 0, none⟩ (.int .i64 g'.term)).setCell ⟨gH, 1, none⟩ (.int .i64 g'.vote)).setCell ⟨gH, 2, none⟩ (.int .i64 g'.base)).setCell ⟨gH, 3, none⟩ (.int .i64 g'.bterm)).setCell ⟨gH, 4, none⟩ (.int .i64 g'.members)).setCell ⟨gH, 5, none⟩ (.string g'.snap)).setCell ⟨gH, 6, none⟩ (.slice p g'.log.length c)) (fun j => X j ∨ (wr.heap.size ≤ j ∧ j < w3.heap.size)) d h g' n gw v (.slice p g'.log.length c) := by
  obtain ⟨kR, cR⟩ := blk7 (k.kH.ext b3) (.int .i64 g'.term) (.int .i64 g'.vote) (.int .i64 g'.base) (.int .i64 g'.bterm) (.int .i64 g'.members) (.string g'.snap) (.slice p g'.log.length c)
  have hl1 := k.kH.lt
  have hl2 := k.vv.blk.lt
  have s3 := b3.size
  have hs0 := k.hb.size
  have hv1 : ∀ j, v.ownBlock = some j → ¬ j = gH := fun j hj e => k.hvH (by rw [hj, e])
  have hnu : (Value.slice p g'.log.length c).ownBlock ≠ some gH := by
    rcases hor with ⟨e, _⟩ | e
    · rw [e]; exact k.huH
    · intro q; have := e _ q; omega
  refine ⟨k.gw0, (k.dd.more b3 fun j hj => hj).chgX cR fun j hj => .inl (by rw [hj]; exact .inl k.inX), ((k.vv.ext b3).mono fun j hj => .inl hj).chg1 cR (fun e => k.ne e.symm) hv1, (k.hb.trans (b3.mono hs0)).trans (cR.below (B := w0.heap.size) (fun j hj => by rw [hj]; exact k.gH0) (k.hb.trans (b3.mono hs0)).size), kR, .inl k.inX, cR.cells rd fun j hj e => hnu (by rw [hj, e]), fun j hj => ?_, ?_, k.ne, k.gH0, hnu, k.hvH⟩
  · rcases hor with ⟨e, _⟩ | e
    · rw [e] at hj; exact (k.hux j hj).imp id .inl
    · exact .inr (.inr (e j hj))
  · rcases hor with ⟨e, _⟩ | e
    · rw [e]; exact k.hug
    · intro q; have := e _ q; omega
/-- what is stored is saved -/
theorem KpV.saved (k : KpV w0 gD gH wr X d h g n gw v u) {X' : Nat → Prop} {v' : Value} {n' : Nat} (h1 : ∀ k, X k → X' k) (d2 : DwS w0 X' gD d' w') (v2 : WalV w' X' gD gw v' ⟨n', bareOf g, false⟩) (c : Chg (Gw w0 X gw) wr w') (ho : ∀ k, v'.ownBlock = some k → v.ownBlock = some k ∨ wr.heap.size ≤ k) :
    KpV w0 gD gH w' X' d' (bareOf g) g n' gw v' u := by
  have hl1 := k.kH.lt
  refine ⟨k.gw0, d2, v2, k.hb.trans (c.gwB k.hb.size k.gw0), c.blk k.kH (fun e => ?_), h1 _ k.inX, c.cells k.hu (fun j hj e => ?_), fun j hj => (k.hux j hj).imp id (h1 j), k.hug, k.ne, k.gH0, k.huH, fun e => ?_⟩
  · rcases e with e | e
    · exact e.2 k.inX
    · exact k.ne e
  · rcases e with e | e
    · rcases k.hux j hj with q | q
      · have := e.1; omega
      · exact e.2 q
    · exact k.hug (by rw [hj, e])
  · rcases ho _ e with q | q
    · exact k.hvH q
    · omega
/-- the disk alone is changed -/
theorem KpV.chg (k : KpV w0 gD gH wr X d h g n gw v u) (d2 : DwS w0 X gD d' w') (c : Chg (Gx w0 X) wr w') : KpV w0 gD gH w' X d' h g n gw v u := by
  refine ⟨k.gw0, d2, k.vv.keep c, k.hb.trans (c.gx k.hb.size), c.blk k.kH (fun e => e.2 k.inX), k.inX, c.cells k.hu (fun j hj e => ?_), k.hux, k.hug, k.ne, k.gH0, k.huH, k.hvH⟩
  rcases k.hux j hj with q | q
  · have := e.1; omega
  · exact e.2 q
/-- the Wal is opened anew -/
theorem KpV.opened (k : KpV w0 gD gH wr X d h g n gw v u) {X' : Nat → Prop} {gw' : Nat} {v' : Value} (hg : wr.heap.size ≤ gw') (h1 : ∀ k, X k → X' k) (d2 : DwS w0 X' gD d' w') (v2 : WalV w' X' gD gw' v' ⟨n, h, false⟩) (c : Chg (Gx w0 X) wr w') (ho : ∀ k, v'.ownBlock = some k → wr.heap.size ≤ k) :
    KpV w0 gD gH w' X' d' h g n gw' v' u := by
  have hl1 := k.kH.lt
  have hs := k.hb.size
  refine ⟨by omega, d2, v2, k.hb.trans (c.gx k.hb.size), c.blk k.kH (fun e => e.2 k.inX), h1 _ k.inX, c.cells k.hu (fun j hj e => ?_), fun j hj => (k.hux j hj).imp id (h1 j), fun e => ?_, by omega, k.gH0, k.huH, fun e => by have := ho _ e; omega⟩
  · rcases k.hux j hj with q | q
    · have := e.1; omega
    · exact e.2 q
  · rcases k.hux _ e with q | q
    · omega
    · have := k.dd.2 _ q; omega
end
set_option maxRecDepth 100000 in
set_option maxHeartbeats 16000000 in
theorem walKeeps_walk (v0 : Value) (ls : List AskL) (w : World) (T : TabW w) (hv : Rd aslE w v0 ls) (hd : ∀ x ∈ ls, AskLOk w x) :
    Calls Tryd.prog 4 #[v0] w fun e w' => e = .returned (.bool true) ∧ Below w.heap.size w w' := by
  obtain ⟨w0, hw0⟩ : ∃ w0, w0 = w := ⟨_, rfl⟩
  rw [← hw0] at T hv hd ⊢
  clear hw0
  have T0 : ∀ z, Below w0.heap.size w0 z → TabW z := Lib.tabBelow_of_tabIs T
  have Tn := Lib.hid T0
  have Hd := Lib.hid hd
  clear T T0 hd
  obtain ⟨pl, cl, rfl⟩ := hv.shape
  have hl2 := hv.le
  unfold maxLen at hl2
  go_enter Tryd.func4, Tryd.ntmps4
  go_wp2_with fail
  refine (lNew w0 w0 (Nat.le_refl _) noX (fun _ h => h.elim)).mono ?_
  rintro e w1 ⟨rfl, d1, b1⟩
  generalize w0.heap.size = gD at d1
  have ho := walOpen (w := w1) Tn.out d1 b1 PInv.zero (by omega)
  rw [tw0, tw0c] at ho
  go_wp2_with fail
  refine ho.mono ?_
  rintro e w2 ⟨⟨gw, v2, X2, rfl, hgw, hx2, hxn2, d2, v2', hvo2⟩, -, c2⟩
  have b2 := b1.trans (c2.gx d1.size)
  have hgw0 : w0.heap.size ≤ gw := Nat.le_trans d1.size hgw
  have hgl := v2'.blk.lt
  clear ho c2 d1 b1 hx2 hgw
  have d2a := d2.alloc (.cells #[.int .i64 0, .int .i64 (-1), .int .i64 0, .int .i64 0, .int .i64 7, .string ⟨#[]⟩, .slice none 0 0] 30)
  have a2 := below_alloc w2 (.cells #[.int .i64 0, .int .i64 (-1), .int .i64 0, .int .i64 0, .int .i64 7, .string ⟨#[]⟩, .slice none 0 0] 30)
  have v2a := (v2'.ext a2).mono (Y := fun k => X2 k ∨ k = w2.heap.size) (fun _ h => .inl h)
  have kz := Blk.new w2 #[.int .i64 0, .int .i64 (-1), .int .i64 0, .int .i64 0, .int .i64 7, .string ⟨#[]⟩, .slice none 0 0] 30
  have b2a := b2.trans (a2.mono b2.size)
  have y0 := kz.cell 0 _ rfl
  have y1 := kz.cell 1 _ rfl
  have y2 := kz.cell 2 _ rfl
  have y3 := kz.cell 3 _ rfl
  have y4 := kz.cell 4 _ rfl
  have y5 := kz.cell 5 _ rfl
  have y6 := kz.cell 6 _ rfl
  have zy0 := kz.frozen 0
  have zy1 := kz.frozen 1
  have zy2 := kz.frozen 2
  have zy3 := kz.frozen 3
  have zy4 := kz.frozen 4
  have zy5 := kz.frozen 5
  have zy6 := kz.frozen 6
  have hs := walSaveV Tn.out d2a b2a hgw0 PInv.zero (by omega) v2a hk0 (.slice none 0 0) (Rd.nil _) (nil_own True.intro) (by simp [Value.ownBlock]) sv0e
  go_wp2_with fail
  refine hs.mono ?_
  rintro e w3 ⟨rfl, X3, v3, hx3, hxo3, d3, v3', c3, hvo3⟩
  have hne0 : w2.heap.size ≠ gw := by omega
  have kz3 : Blk w3 w2.heap.size #[.int .i64 0, .int .i64 (-1), .int .i64 0, .int .i64 0, .int .i64 7, .string ⟨#[]⟩, .slice none 0 0] 30 := c3.blk kz (fun h => by rcases h with h | h; exact h.2 (.inr rfl); omega)
  have hs2 := b2.size
  have hv3n : v3.ownBlock ≠ some w2.heap.size := fun e => by
    rcases hvo3 _ e with q | q
    · have := v2'.log
      rcases d2.2 _ (v2'.lX _ q) with q2
      omega
    · simp at q; omega
  have b3 := b2a.trans (c3.gwB b2a.size hgw0)
  have st0 : KpV w0 gD w2.heap.size w3 X3 sv0.2.2 hk0 hk0 1 gw v3 (.slice none 0 0) := ⟨hgw0, d3, v3', b3, kz3, hx3 _ (.inr rfl), Rd.nil _, nil_own True.intro, by simp [Value.ownBlock], hne0, hs2, by simp [Value.ownBlock], hv3n⟩
  have St0 := Lib.hid st0
  have Ke0 := Lib.hid keep0
  clear st0 y0 y1 y2 y3 y4 y5 y6 zy0 zy1 zy2 zy3 zy4 zy5 zy6 hs d2a a2 v2a b2a kz c3 hx3 hxo3 d2 v2' b2 kz3 d3 v3' b3 hvo3 hv3n hgw0 hgl hne0 hs2 hvo2 hxn2
  generalize w2.heap.size = gH at *
  go_wp2_with fail
  go_loopw [4, 5, 7] (fun tw te ti wr => ∃ (k n gw : Nat) (h : Hrd) (d : Dk) (X : Nat → Prop) (v u : Value), k ≤ ls.length ∧ k ≤ 20 ∧ ti = .int .i64 (k : Int) ∧ tw = .pointer (some ⟨gw, 0, none⟩) ∧ te = .int .i64 0 ∧ Hid (KeepI (k + 1) h d n) ∧ Hid (KpV w0 gD gH wr X d h h n gw v u)) (fun _ _ ti _ => ls.length - (intOf ti).toNat)
  case atStart => exact ⟨0, 1, gw, hk0, sv0.2.2, X3, v3, .slice none 0 0, by omega, by omega, rfl, rfl, rfl, Ke0, St0⟩
  case round =>
    clear St0 Ke0
    obtain ⟨k, n, gw, h, d, X, v, u, hk, hk20, rfl, rfl, rfl, ki, st⟩ := hrel
    have hk0 : (0 : Int) ≤ (k : Int) := by omega
    have hb := st.out.hb
    by_cases hend : k < ls.length ∧ k < 20
    · obtain ⟨hlt, hlt3⟩ := hend
      have hi4 : (k : Int) < (ls.length : Int) := by omega
      have hi5 : decide ((k : Int) < 20) = true := by simp; omega
      obtain ⟨pb, po, rfl⟩ := Rd.blk hv (by omega)
      have rr := hv.ext hb
      have hx := Hd.out _ (List.getElem_mem hlt)
      obtain ⟨a0, a1, a2, a3, a4, a5, a6, a7, a8, a9⟩ := asl10 rr hlt
      obtain ⟨x, hxe⟩ : ∃ x, ls[k] = x := ⟨_, rfl⟩
      rw [hxe] at a0 a1 a2 a3 a4 a5 a6 a7 a8 a9 hx
      unfold AskL.vh at a8
      unfold AskL.vp at a9
      have Hx := Lib.hid hx
      have Hxe := Lib.hid hxe
      clear hxe rr hx
      by_cases hp20 : 20 < x.picks.length
      · have h3i : (20 : Int) < (x.picks.length : Int) := by omega
        go_wp2_with fail
        go_roundw
        case rel => exact ⟨k + 1, n, gw, h, d, X, v, u, by omega, by omega, by go_num, rfl, rfl, Lib.hid ki.out.up, st⟩
        case measure => simp [intOf]; omega
      · have h3i : ¬ (20 : Int) < (x.picks.length : Int) := by omega
        go_upto_region 10 with (fail)
        obtain ⟨pu, cu, rfl⟩ := st.out.hu.shape
        have kHc := st.out.kH
        have y0 := kHc.cell 0 _ rfl
        have y1 := kHc.cell 1 _ rfl
        have y2 := kHc.cell 2 _ rfl
        have y3 := kHc.cell 3 _ rfl
        have y4 := kHc.cell 4 _ rfl
        have y5 := kHc.cell 5 _ rfl
        have y6 := kHc.cell 6 _ rfl
        go_still_tail 5, (by kernel_rfl)
        change wpList _ _ _ _ _ wr.drew
        obtain ⟨wd, hwd⟩ : ∃ z, z = wr.drew := ⟨_, rfl⟩
        have bD : Below wr.heap.size wr wd := by rw [hwd]; exact below_drew _ _
        rw [← hwd]
        clear hwd
        have std := st.out.ext bD
        have oki := ki.out.ok
        have smi := small_of oki.small
        have hnx := lawNext h x (.slice pu h.log.length cu) std.hu (Hx.out.ext std.hb) (by omega) (by rw [oki.snap]; decide) (fun z hz => Nat.le_trans (log_in (right_bare oki.right) z hz).2.2.2.2 (by decide))
        have okx := oki.next x
        obtain ⟨h', hh'⟩ : ∃ h', nextL h x = h' := ⟨_, rfl⟩
        rw [hh'] at hnx okx
        have HH := Lib.hid hh'
        have Okx := Lib.hid okx
        clear hh' okx smi oki bD kHc
        have kHd := std.kH
        have Std := Lib.hid std
        clear std
        go_upto_region 11 with (first | (go_at_call 14; refine hnx.mono ?_; rintro e w3 ⟨u3, rfl, rd3, hor3, b3⟩; obtain ⟨p3, c3, rfl⟩ := rd3.shape; have k3 := kHd.ext b3; have z0 := k3.cell 0 _ rfl; have z1 := k3.cell 1 _ rfl; have z2 := k3.cell 2 _ rfl; have z3 := k3.cell 3 _ rfl; have z4 := k3.cell 4 _ rfl; have z5 := k3.cell 5 _ rfl; have z6 := k3.cell 6 _ rfl; have f0 := k3.frozen 0; have f1 := k3.frozen 1; have f2 := k3.frozen 2; have f3 := k3.frozen 3; have f4 := k3.frozen 4; have f5 := k3.frozen 5; have f6 := k3.frozen 6) | fail)
        have st4 := Std.out.stored b3 rd3 hor3
        clear hnx rd3 hor3 k3 kHd z0 z1 z2 z3 z4 z5 z6 f0 f1 f2 f3 f4 f5 f6 y0 y1 y2 y3 y4 y5 y6 b3
        generalize hW4 : (((((((w3.setCell ⟨gH, 0, none⟩ (.int .i64 h'.term)).setCell ⟨gH, 1, none⟩ (.int .i64 h'.vote)).setCell ⟨gH, 2, none⟩ (.int .i64 h'.base)).setCell ⟨gH, 3, none⟩ (.int .i64 h'.bterm)).setCell ⟨gH, 4, none⟩ (.int .i64 h'.members)).setCell ⟨gH, 5, none⟩ (.string h'.snap)).setCell ⟨gH, 6, none⟩ (.slice p3 h'.log.length c3)) = W4 at *
        clear hW4
        obtain ⟨n', d', hE, ki'⟩ := ki.out.save (by omega) Okx.out
        have hbe := Okx.out.bare
        have piv := Lib.hid ki.out.inv
        have HE := Lib.hid hE
        have Ki := Lib.hid ki'
        have Hbe := Lib.hid hbe
        clear hE ki' hbe
        have kH4 := st4.kH
        have y0 := kH4.cell 0 _ rfl
        have y1 := kH4.cell 1 _ rfl
        have y2 := kH4.cell 2 _ rfl
        have y3 := kH4.cell 3 _ rfl
        have y4 := kH4.cell 4 _ rfl
        have y5 := kH4.cell 5 _ rfl
        have y6 := kH4.cell 6 _ rfl
        have St4 := Lib.hid st4
        clear st4 kH4
        go_region_held3 (fun w' => w'.cell? ⟨gH, 0, none⟩ = some (.int .i64 h'.term) ∧ w'.cell? ⟨gH, 1, none⟩ = some (.int .i64 h'.vote) ∧ w'.cell? ⟨gH, 2, none⟩ = some (.int .i64 h'.base) ∧ w'.cell? ⟨gH, 3, none⟩ = some (.int .i64 h'.bterm) ∧ w'.cell? ⟨gH, 4, none⟩ = some (.int .i64 h'.members) ∧ w'.cell? ⟨gH, 5, none⟩ = some (.string h'.snap) ∧ w'.cell? ⟨gH, 6, none⟩ = some (.slice p3 h'.log.length c3)) (go_keep)
          (first
            | (go_at_call 9; (refine (walSaveV Tn.out (St4.out.ext (below_drew _ _)).dd (St4.out.ext (below_drew _ _)).hb St4.out.gw0 piv.out (by omega) (St4.out.ext (below_drew _ _)).vv h' (.slice p3 h'.log.length c3) (St4.out.ext (below_drew _ _)).hu St4.out.hux St4.out.hug HE.out).mono ?_); rintro e w5 ⟨rfl, X5, v5, hx5, -, d5, v5', c5, hvo5⟩; (have st5 := (St4.out.ext (below_drew _ _)).saved hx5 d5 (by rw [Hbe.out]; exact v5') c5 hvo5); rw [Hbe.out] at st5; (have kH5 := st5.kH); (have m0 := kH5.cell 0 _ rfl); (have m1 := kH5.cell 1 _ rfl); (have m2 := kH5.cell 2 _ rfl); (have m3 := kH5.cell 3 _ rfl); (have m4 := kH5.cell 4 _ rfl); (have m5 := kH5.cell 5 _ rfl); (have m6 := kH5.cell 6 _ rfl))
            | (go_at_call 13; (refine (walHard st5.vv).mono ?_); rintro e w6 ⟨v6, rfl, own6, b6⟩; (have st6 := st5.ext b6); (have kH6 := st6.kH); (have qa0 := kH6.cell 0 _ rfl); (have qa1 := kH6.cell 1 _ rfl); (have qa2 := kH6.cell 2 _ rfl); (have qa3 := kH6.cell 3 _ rfl); (have qa4 := kH6.cell 4 _ rfl); (have qa5 := kH6.cell 5 _ rfl); (have qa6 := kH6.cell 6 _ rfl))
            | (go_at_call 15; (refine (lawBare h' (.slice p3 h'.log.length c3) _ ⟨_, _, rfl⟩).mono ?_); rintro e w7 ⟨rfl, b7⟩; (have st7 := st6.ext b7); (have kH7 := st7.kH); (have qb0 := kH7.cell 0 _ rfl); (have qb1 := kH7.cell 1 _ rfl); (have qb2 := kH7.cell 2 _ rfl); (have qb3 := kH7.cell 3 _ rfl); (have qb4 := kH7.cell 4 _ rfl); (have qb5 := kH7.cell 5 _ rfl); (have qb6 := kH7.cell 6 _ rfl))
            | (go_at_call 12; (refine (refSame (bareOf h') (bareOf h') v6 _ (own6.rd.ext b7) st7.hu).mono ?_); rintro e w8 ⟨rfl, b8⟩; (have st8 := st7.ext b8); (have kH8 := st8.kH); (have qc0 := kH8.cell 0 _ rfl); (have qc1 := kH8.cell 1 _ rfl); (have qc2 := kH8.cell 2 _ rfl); (have qc3 := kH8.cell 3 _ rfl); (have qc4 := kH8.cell 4 _ rfl); (have qc5 := kH8.cell 5 _ rfl); (have qc6 := kH8.cell 6 _ rfl)))
        have St8 := Lib.hid st8
        have Hl := Lib.hid hlt
        clear hx5 d5 v5' c5 hvo5 st5 kH5 own6 b6 st6 kH6 b7 st7 kH7 b8 kH8 st8 m0 m1 m2 m3 m4 m5 m6 qa0 qa1 qa2 qa3 qa4 qa5 qa6 qb0 qb1 qb2 qb3 qb4 qb5 qb6 qc0 qc1 qc2 qc3 qc4 qc5 qc6 y0 y1 y2 y3 y4 y5 y6
        have ki8 := Ki
        have rrQ := hv.ext St8.out.hb
        obtain ⟨a0, a1, a2, a3, a4, a5, a6, a7, a8, a9⟩ := asl10 rrQ Hl.out
        rw [Hxe.out] at a0 a1 a2 a3 a4 a5 a6 a7 a8 a9
        unfold AskL.vh at a8
        unfold AskL.vp at a9
        clear rrQ
        by_cases hk4 : x.kind = 4
        · have h4b : (x.kind == 4) = true := by simpa using hk4
          clear hk4
          have kiC := Lib.hid (ki8.out.crash x.picks)
          have hcr := lCrash St8.out.dd (ki8.out.inv.ok (by omega)) (rfl : crashD d' x.picks = crashD d' x.picks) (Hx.out.picks.ext St8.out.hb) (fun hne q hq => .inl (intsW_in Hx.out.picks hne q hq)) Hx.out.hi
          obtain ⟨dC, hdC⟩ : ∃ dC, crashD d' x.picks = dC := ⟨_, rfl⟩
          rw [hdC] at kiC hcr
          clear hdC
          go_wp2_with fail
          refine hcr.mono ?_
          rintro e w9 ⟨rfl, d9, c9⟩
          have st9 := St8.out.chg d9 c9
          clear hcr d9 c9 a0 a1 a2 a3 a4 a5 a6 a7 a8 a9
          have rrQ := hv.ext st9.hb
          obtain ⟨a0, a1, a2, a3, a4, a5, a6, a7, a8, a9⟩ := asl10 rrQ Hl.out
          rw [Hxe.out] at a0 a1 a2 a3 a4 a5 a6 a7 a8 a9
          unfold AskL.vh at a8
          unfold AskL.vp at a9
          clear rrQ
          have St9 := Lib.hid st9
          have ho := walOpen Tn.out st9.dd st9.hb kiC.out.inv (by omega)
          rw [kiC.out.opened.1] at ho
          clear st9
          go_wp2_with fail
          refine ho.mono ?_
          rintro e w10 ⟨⟨gx, vx, Xx, rfl, hgx, hxx, -, dx, vx', hvx⟩, -, c10⟩
          have st10 := St9.out.opened hgx hxx dx vx' c10 hvx
          have kiF := Lib.hid kiC.out.opened.2
          have kH10 := st10.kH
          have y0 := kH10.cell 0 _ rfl
          have y1 := kH10.cell 1 _ rfl
          have y2 := kH10.cell 2 _ rfl
          have y3 := kH10.cell 3 _ rfl
          have y4 := kH10.cell 4 _ rfl
          have y5 := kH10.cell 5 _ rfl
          have y6 := kH10.cell 6 _ rfl
          clear ho hgx hxx dx vx' hvx c10 a0 a1 a2 a3 a4 a5 a6 a7 a8 a9
          go_wp2_with fail
          go_region_held3 (fun w' => w'.cell? ⟨gH, 0, none⟩ = some (.int .i64 h'.term) ∧ w'.cell? ⟨gH, 1, none⟩ = some (.int .i64 h'.vote) ∧ w'.cell? ⟨gH, 2, none⟩ = some (.int .i64 h'.base) ∧ w'.cell? ⟨gH, 3, none⟩ = some (.int .i64 h'.bterm) ∧ w'.cell? ⟨gH, 4, none⟩ = some (.int .i64 h'.members) ∧ w'.cell? ⟨gH, 5, none⟩ = some (.string h'.snap) ∧ w'.cell? ⟨gH, 6, none⟩ = some (.slice p3 h'.log.length c3)) (go_keep)
            (first
              | (go_at_call 13; (have st10d := st10.ext (below_drew _ _)); (refine (walHard st10d.vv).mono ?_); rintro e w11 ⟨v11, rfl, own11, b11⟩; (have st11 := st10d.ext b11); (have kH11 := st11.kH); (have ra0 := kH11.cell 0 _ rfl); (have ra1 := kH11.cell 1 _ rfl); (have ra2 := kH11.cell 2 _ rfl); (have ra3 := kH11.cell 3 _ rfl); (have ra4 := kH11.cell 4 _ rfl); (have ra5 := kH11.cell 5 _ rfl); (have ra6 := kH11.cell 6 _ rfl))
              | (go_at_call 15; (refine (lawBare h' (.slice p3 h'.log.length c3) _ ⟨_, _, rfl⟩).mono ?_); rintro e w12 ⟨rfl, b12⟩; (have st12 := st11.ext b12); (have kH12 := st12.kH); (have rb0 := kH12.cell 0 _ rfl); (have rb1 := kH12.cell 1 _ rfl); (have rb2 := kH12.cell 2 _ rfl); (have rb3 := kH12.cell 3 _ rfl); (have rb4 := kH12.cell 4 _ rfl); (have rb5 := kH12.cell 5 _ rfl); (have rb6 := kH12.cell 6 _ rfl))
              | (go_at_call 12; (refine (refSame (bareOf h') (bareOf h') v11 _ (own11.rd.ext b12) st12.hu).mono ?_); rintro e w13 ⟨rfl, b13⟩; (have st13 := st12.ext b13); (have kH13 := st13.kH); (have rc0 := kH13.cell 0 _ rfl); (have rc1 := kH13.cell 1 _ rfl); (have rc2 := kH13.cell 2 _ rfl); (have rc3 := kH13.cell 3 _ rfl); (have rc4 := kH13.cell 4 _ rfl); (have rc5 := kH13.cell 5 _ rfl); (have rc6 := kH13.cell 6 _ rfl)))
          have stF := st13
          clear own11 b11 st11 st10d kH11 b12 st12 kH12 b13 kH13 st10 kH10 st13 ra0 ra1 ra2 ra3 ra4 ra5 ra6 rb0 rb1 rb2 rb3 rb4 rb5 rb6 rc0 rc1 rc2 rc3 rc4 rc5 rc6 y0 y1 y2 y3 y4 y5 y6
          have StF := Lib.hid stF
          have hn := lNames stF.dd (kiF.out.inv.ok (by omega))
          clear stF
          go_wp2_with fail
          refine hn.mono ?_
          rintro e wN ⟨⟨rN, rfl, ownN⟩, cN⟩
          have hsh : ∃ p c, rN = .slice p 1 c := by
            obtain ⟨p, c, e⟩ := ownN.rd.shape
            rw [kiF.out.names] at e
            exact ⟨p, c, e⟩
          obtain ⟨pN, cN', rfl⟩ := hsh
          have stN := Lib.hid (StF.out.ext cN)
          clear hn ownN cN
          go_wp2_with fail
          go_roundw
          case rel => exact ⟨k + 1, n', gx, h', _, _, _, .slice p3 h'.log.length c3, by omega, by omega, by go_num, rfl, rfl, kiF, stN⟩
          case measure => simp [intOf]; omega
        · have h4b : (x.kind == 4) = false := by simpa using hk4
          clear hk4
          by_cases hk2 : x.kind = 2
          · have h2b : (x.kind == 2) = true := by simpa using hk2
            clear hk2
            have kiC := ki8
            have st9 := St8.out
            clear a0 a1 a2 a3 a4 a5 a6 a7 a8 a9
            have rrQ := hv.ext st9.hb
            obtain ⟨a0, a1, a2, a3, a4, a5, a6, a7, a8, a9⟩ := asl10 rrQ Hl.out
            rw [Hxe.out] at a0 a1 a2 a3 a4 a5 a6 a7 a8 a9
            unfold AskL.vh at a8
            unfold AskL.vp at a9
            clear rrQ
            have St9 := Lib.hid st9
            have ho := walOpen Tn.out st9.dd st9.hb kiC.out.inv (by omega)
            rw [kiC.out.opened.1] at ho
            clear st9
            go_wp2_with fail
            refine ho.mono ?_
            rintro e w10 ⟨⟨gx, vx, Xx, rfl, hgx, hxx, -, dx, vx', hvx⟩, -, c10⟩
            have st10 := St9.out.opened hgx hxx dx vx' c10 hvx
            have kiF := Lib.hid kiC.out.opened.2
            have kH10 := st10.kH
            have y0 := kH10.cell 0 _ rfl
            have y1 := kH10.cell 1 _ rfl
            have y2 := kH10.cell 2 _ rfl
            have y3 := kH10.cell 3 _ rfl
            have y4 := kH10.cell 4 _ rfl
            have y5 := kH10.cell 5 _ rfl
            have y6 := kH10.cell 6 _ rfl
            clear ho hgx hxx dx vx' hvx c10 a0 a1 a2 a3 a4 a5 a6 a7 a8 a9
            go_wp2_with fail
            go_region_held3 (fun w' => w'.cell? ⟨gH, 0, none⟩ = some (.int .i64 h'.term) ∧ w'.cell? ⟨gH, 1, none⟩ = some (.int .i64 h'.vote) ∧ w'.cell? ⟨gH, 2, none⟩ = some (.int .i64 h'.base) ∧ w'.cell? ⟨gH, 3, none⟩ = some (.int .i64 h'.bterm) ∧ w'.cell? ⟨gH, 4, none⟩ = some (.int .i64 h'.members) ∧ w'.cell? ⟨gH, 5, none⟩ = some (.string h'.snap) ∧ w'.cell? ⟨gH, 6, none⟩ = some (.slice p3 h'.log.length c3)) (go_keep)
              (first
                | (go_at_call 13; (have st10d := st10.ext (below_drew _ _)); (refine (walHard st10d.vv).mono ?_); rintro e w11 ⟨v11, rfl, own11, b11⟩; (have st11 := st10d.ext b11); (have kH11 := st11.kH); (have ra0 := kH11.cell 0 _ rfl); (have ra1 := kH11.cell 1 _ rfl); (have ra2 := kH11.cell 2 _ rfl); (have ra3 := kH11.cell 3 _ rfl); (have ra4 := kH11.cell 4 _ rfl); (have ra5 := kH11.cell 5 _ rfl); (have ra6 := kH11.cell 6 _ rfl))
                | (go_at_call 15; (refine (lawBare h' (.slice p3 h'.log.length c3) _ ⟨_, _, rfl⟩).mono ?_); rintro e w12 ⟨rfl, b12⟩; (have st12 := st11.ext b12); (have kH12 := st12.kH); (have rb0 := kH12.cell 0 _ rfl); (have rb1 := kH12.cell 1 _ rfl); (have rb2 := kH12.cell 2 _ rfl); (have rb3 := kH12.cell 3 _ rfl); (have rb4 := kH12.cell 4 _ rfl); (have rb5 := kH12.cell 5 _ rfl); (have rb6 := kH12.cell 6 _ rfl))
                | (go_at_call 12; (refine (refSame (bareOf h') (bareOf h') v11 _ (own11.rd.ext b12) st12.hu).mono ?_); rintro e w13 ⟨rfl, b13⟩; (have st13 := st12.ext b13); (have kH13 := st13.kH); (have rc0 := kH13.cell 0 _ rfl); (have rc1 := kH13.cell 1 _ rfl); (have rc2 := kH13.cell 2 _ rfl); (have rc3 := kH13.cell 3 _ rfl); (have rc4 := kH13.cell 4 _ rfl); (have rc5 := kH13.cell 5 _ rfl); (have rc6 := kH13.cell 6 _ rfl)))
            have stF := st13
            clear own11 b11 st11 st10d kH11 b12 st12 kH12 b13 kH13 st10 kH10 st13 ra0 ra1 ra2 ra3 ra4 ra5 ra6 rb0 rb1 rb2 rb3 rb4 rb5 rb6 rc0 rc1 rc2 rc3 rc4 rc5 rc6 y0 y1 y2 y3 y4 y5 y6
            have StF := Lib.hid stF
            have hn := lNames stF.dd (kiF.out.inv.ok (by omega))
            clear stF
            go_wp2_with fail
            refine hn.mono ?_
            rintro e wN ⟨⟨rN, rfl, ownN⟩, cN⟩
            have hsh : ∃ p c, rN = .slice p 1 c := by
              obtain ⟨p, c, e⟩ := ownN.rd.shape
              rw [kiF.out.names] at e
              exact ⟨p, c, e⟩
            obtain ⟨pN, cN', rfl⟩ := hsh
            have stN := Lib.hid (StF.out.ext cN)
            clear hn ownN cN
            go_wp2_with fail
            go_roundw
            case rel => exact ⟨k + 1, n', gx, h', _, _, _, .slice p3 h'.log.length c3, by omega, by omega, by go_num, rfl, rfl, kiF, stN⟩
            case measure => simp [intOf]; omega
          · have h2b : (x.kind == 2) = false := by simpa using hk2
            clear hk2
            have stF := St8.out
            have kiF := ki8
            have StF := Lib.hid stF
            have hn := lNames stF.dd (kiF.out.inv.ok (by omega))
            clear stF
            go_wp2_with fail
            refine hn.mono ?_
            rintro e wN ⟨⟨rN, rfl, ownN⟩, cN⟩
            have hsh : ∃ p c, rN = .slice p 1 c := by
              obtain ⟨p, c, e⟩ := ownN.rd.shape
              rw [kiF.out.names] at e
              exact ⟨p, c, e⟩
            obtain ⟨pN, cN', rfl⟩ := hsh
            have stN := Lib.hid (StF.out.ext cN)
            clear hn ownN cN
            go_wp2_with fail
            go_roundw
            case rel => exact ⟨k + 1, n', gw, h', _, _, _, .slice p3 h'.log.length c3, by omega, by omega, by go_num, rfl, rfl, kiF, stN⟩
            case measure => simp [intOf]; omega
    · rcases Nat.lt_or_ge k ls.length with hl | hl
      · have hi4 : (k : Int) < (ls.length : Int) := by omega
        have hi5 : decide ((k : Int) < 20) = false := by simp; omega
        go_wp2_with fail
        refine (walRuns_walk _ (Tn.out _ hb)).mono ?_
        rintro e w9 ⟨rfl, c9⟩
        have b9 := hb.trans (c9.mono hb.size)
        go_wp2_with fail
        go_ret
        exact ⟨rfl, b9⟩
      · have hi4 : ¬ (k : Int) < (ls.length : Int) := by omega
        go_wp2_with fail
        refine (walRuns_walk _ (Tn.out _ hb)).mono ?_
        rintro e w9 ⟨rfl, c9⟩
        have b9 := hb.trans (c9.mono hb.size)
        go_wp2_with fail
        go_ret
        exact ⟨rfl, b9⟩
end Go.Proofs.YtgpgcnmnfnnkjaaDoor
end
