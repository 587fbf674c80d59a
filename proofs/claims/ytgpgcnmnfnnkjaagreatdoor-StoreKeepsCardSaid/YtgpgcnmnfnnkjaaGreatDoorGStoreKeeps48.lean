/- The loop's Hard in memory, and the store. The walk of StoreKeeps. -/
import Derived.Test.YtgpgcnmnfnnkjaaGreatDoorGStoreKeeps47
import Derived.Test.YtgpgcnmnfnnkjaaGreatDoorGStoreKeeps43
import Derived.Test.YtgpgcnmnfnnkjaaGreatDoorGStoreKeeps46
import Derived.Test.YtgpgcnmnfnnkjaaGreatDoorGStoreKeeps44
import Derived.StillTailTactics
import Derived.Deep.RegionHeld3
set_option linter.unusedVariables false
set_option linter.unusedSimpArgs false
section
namespace Go.Proofs.YtgpgcnmnfnnkjaaGreatDoor
open Go Go.RowKit Go.PlainAid BigFrame
theorem intsQ_in {w : World} {v : Value} {l : List Int} (h : Rd intsE w v l) : l ≠ [] → ∀ k, v.ownBlock = some k → k < w.heap.size := fun hn => Cells.lt h (by rw [intsE.all_length]; have h2 := List.length_pos_iff.2 hn; show 0 < l.length * 1; omega)
theorem asq10 {w : World} {b off n c : Nat} {l : List AskL} (h : Rd aslE w (.slice (some ⟨b, off, none⟩) n c) l) {k : Nat} (hk : k < l.length) : w.cell? ⟨b, off + k * 10, none⟩ = some (.int .i64 l[k].kind) ∧ w.cell? ⟨b, off + k * 10 + 1, none⟩ = some (.int .i64 l[k].n) ∧ w.cell? ⟨b, off + k * 10 + 2, none⟩ = some (.int .i64 l[k].h.term) ∧ w.cell? ⟨b, off + k * 10 + 3, none⟩ = some (.int .i64 l[k].h.vote) ∧ w.cell? ⟨b, off + k * 10 + 4, none⟩ = some (.int .i64 l[k].h.base) ∧ w.cell? ⟨b, off + k * 10 + 5, none⟩ = some (.int .i64 l[k].h.bterm) ∧ w.cell? ⟨b, off + k * 10 + 6, none⟩ = some (.int .i64 l[k].h.members) ∧ w.cell? ⟨b, off + k * 10 + 7, none⟩ = some (.string l[k].h.snap) ∧ w.cell? ⟨b, off + k * 10 + 8, none⟩ = some (.slice l[k].hp l[k].h.log.length l[k].hc) ∧ w.cell? ⟨b, off + k * 10 + 9, none⟩ = some (.slice l[k].pp l[k].picks.length l[k].pc) :=
 ⟨h.at_ hk 0 (by decide), h.at_ hk 1 (by decide), h.at_ hk 2 (by decide), h.at_ hk 3 (by decide), h.at_ hk 4 (by decide), h.at_ hk 5 (by decide), h.at_ hk 6 (by decide), h.at_ hk 7 (by decide), h.at_ hk 8 (by decide), h.at_ hk 9 (by decide)⟩
structure KqV (w0 : World) (gD gH : Nat) (wr : World) (X : Nat → Prop) (d : Dk) (st : Sto) (g : Hrd) (gs gw : Nat) (v u : Value) : Prop where
 gw0 : w0.heap.size ≤ gw
 gs0 : w0.heap.size ≤ gs
 dd : DwS w0 X gD d wr
 sv : StoV wr X gD gs gw v st
 hb : Below w0.heap.size w0 wr
 kH : Blk wr gH #[.int .i64 g.term, .int .i64 g.vote, .int .i64 g.base, .int .i64 g.bterm, .int .i64 g.members, .string g.snap, u] 24
 inX : X gH
 hu : Rd etyE wr u g.log
 hux : ∀ k, u.ownBlock = some k → k < w0.heap.size ∨ X k
 hug : u.ownBlock ≠ some gw
 hus : u.ownBlock ≠ some gs
 ne : gH ≠ gw
 neS : gH ≠ gs
 gH0 : w0.heap.size ≤ gH
 huH : u.ownBlock ≠ some gH
 hvH : v.ownBlock ≠ some gH
section
variable {w0 wr w' : World} {gD gH : Nat} {X : Nat → Prop} {d d' : Dk} {g : Hrd} {st st' : Sto} {gs gw : Nat} {v u : Value}
theorem KqV.ext (k : KqV w0 gD gH wr X d st g gs gw v u) (hb : Below wr.heap.size wr w') : KqV w0 gD gH w' X d st g gs gw v u :=
 ⟨k.gw0, k.gs0, k.dd.ext hb, k.sv.ext hb, k.hb.trans (hb.mono k.hb.size), k.kH.ext hb, k.inX, k.hu.ext hb, k.hux, k.hug, k.hus, k.ne, k.neS, k.gH0, k.huH, k.hvH⟩
theorem KqV.stored (k : KqV w0 gD gH wr X d st g gs gw v u) {w3 : World} {g' : Hrd} {p : Option Addr} {c : Nat} (b3 : Below wr.heap.size wr w3) (rd : Rd etyE w3 (.slice p g'.log.length c) g'.log) (hor : ((.slice p g'.log.length c : Value) = u ∧ g' = g) ∨ ∀ j, (Value.slice p g'.log.length c).ownBlock = some j → wr.heap.size ≤ j ∧ j < w3.heap.size) :
 KqV w0 gD gH (((((((w3.setCell ⟨gH, 0, none⟩ (.int .i64 g'.term)).setCell ⟨gH, 1, none⟩ (.int .i64 g'.vote)).setCell ⟨gH, 2, none⟩ (.int .i64 g'.base)).setCell ⟨gH, 3, none⟩ (.int .i64 g'.bterm)).setCell ⟨gH, 4, none⟩ (.int .i64 g'.members)).setCell ⟨gH, 5, none⟩ (.string g'.snap)).setCell ⟨gH, 6, none⟩ (.slice p g'.log.length c)) (fun j => X j ∨ (wr.heap.size ≤ j ∧ j < w3.heap.size)) d st g' gs gw v (.slice p g'.log.length c) := by
 obtain ⟨kR, cR⟩ := bly7 (k.kH.ext b3) (.int .i64 g'.term) (.int .i64 g'.vote) (.int .i64 g'.base) (.int .i64 g'.bterm) (.int .i64 g'.members) (.string g'.snap) (.slice p g'.log.length c)
 have hl1 := k.kH.lt
 have hl2 := k.sv.wv.blk.lt
 have hl3 := k.sv.blk.lt
 have s3 := b3.size
 have hs0 := k.hb.size
 have hv1 : ∀ j, v.ownBlock = some j → ¬ j = gH := fun j hj e => k.hvH (by rw [hj, e])
 have hnu : (Value.slice p g'.log.length c).ownBlock ≠ some gH := by
  rcases hor with ⟨e, _⟩ | e
  · rw [e]; exact k.huH
  · intro q; have := e _ q; omega
 have sv3 := (k.sv.ext b3).mono (Y := fun j => X j ∨ (wr.heap.size ≤ j ∧ j < w3.heap.size)) fun j hj => .inl hj
 refine ⟨k.gw0, k.gs0, (k.dd.more b3 fun j hj => hj).chgX cR fun j hj => .inl (by rw [hj]; exact .inl k.inX), ⟨cR.blk sv3.blk (fun e => k.neS e.symm), sv3.wv.only2 cR (fun e => k.ne e.symm) hv1, sv3.inX, sv3.ne, sv3.off⟩, (k.hb.trans (b3.mono hs0)).trans (cR.below (B := w0.heap.size) (fun j hj => by rw [hj]; exact k.gH0) (k.hb.trans (b3.mono hs0)).size), kR, .inl k.inX, cR.cells rd fun j hj e => hnu (by rw [hj, e]), fun j hj => ?_, ?_, ?_, k.ne, k.neS, k.gH0, hnu, k.hvH⟩
 · rcases hor with ⟨e, _⟩ | e
   · rw [e] at hj; exact (k.hux j hj).imp id .inl
   · exact .inr (.inr (e j hj))
 · rcases hor with ⟨e, _⟩ | e
   · rw [e]; exact k.hug
   · intro q; have := e _ q; omega
 · rcases hor with ⟨e, _⟩ | e
   · rw [e]; exact k.hus
   · intro q; have := e _ q; omega
theorem KqV.saved (k : KqV w0 gD gH wr X d st g gs gw v u) {X' : Nat → Prop} {v' : Value} (h1 : ∀ k, X k → X' k) (d2 : DwS w0 X' gD d' w') (v2 : StoV w' X' gD gs gw v' st') (c : Chg (Gs w0 X gs gw) wr w') (ho : ∀ k, v'.ownBlock = some k → v.ownBlock = some k ∨ wr.heap.size ≤ k) :
 KqV w0 gD gH w' X' d' st' g gs gw v' u := by
 have hl1 := k.kH.lt
 refine ⟨k.gw0, k.gs0, d2, v2, k.hb.trans (c.gsB k.hb.size k.gw0 k.gs0), c.blk k.kH (fun e => ?_), h1 _ k.inX, c.cells k.hu (fun j hj e => ?_), fun j hj => (k.hux j hj).imp id (h1 j), k.hug, k.hus, k.ne, k.neS, k.gH0, k.huH, fun e => ?_⟩
 · rcases e with e | e | e
   · exact e.2 k.inX
   · exact k.ne e
   · exact k.neS e
 · rcases e with e | e | e
   · rcases k.hux j hj with q | q
     · have := e.1; omega
     · exact e.2 q
   · exact k.hug (by rw [hj, e])
   · exact k.hus (by rw [hj, e])
 · rcases ho _ e with q | q
   · exact k.hvH q
   · omega
theorem KqV.chg (k : KqV w0 gD gH wr X d st g gs gw v u) (d2 : DwS w0 X gD d' w') (c : Chg (Gx w0 X) wr w') : KqV w0 gD gH w' X d' st g gs gw v u := by
 refine ⟨k.gw0, k.gs0, d2, k.sv.keep c, k.hb.trans (c.gx k.hb.size), c.blk k.kH (fun e => e.2 k.inX), k.inX, c.cells k.hu (fun j hj e => ?_), k.hux, k.hug, k.hus, k.ne, k.neS, k.gH0, k.huH, k.hvH⟩
 rcases k.hux j hj with q | q
 · have := e.1; omega
 · exact e.2 q
theorem KqV.opened (k : KqV w0 gD gH wr X d st g gs gw v u) {X' : Nat → Prop} {gs' gw' : Nat} {v' : Value} (hg : wr.heap.size ≤ gw') (hgs : wr.heap.size ≤ gs') (h1 : ∀ k, X k → X' k) (d2 : DwS w0 X' gD d' w') (v2 : StoV w' X' gD gs' gw' v' st') (c : Chg (Gx w0 X) wr w') (ho : ∀ k, v'.ownBlock = some k → wr.heap.size ≤ k) :
 KqV w0 gD gH w' X' d' st' g gs' gw' v' u := by
 have hl1 := k.kH.lt
 have hs := k.hb.size
 have hul : ∀ q, wr.heap.size ≤ q → u.ownBlock ≠ some q := fun q hq e => by
  rcases k.hux _ e with z | z
  · omega
  · have := k.dd.2 _ z; omega
 refine ⟨by omega, by omega, d2, v2, k.hb.trans (c.gx k.hb.size), c.blk k.kH (fun e => e.2 k.inX), h1 _ k.inX, c.cells k.hu (fun j hj e => ?_), fun j hj => (k.hux j hj).imp id (h1 j), hul _ hg, hul _ hgs, by omega, by omega, k.gH0, k.huH, fun e => by have := ho _ e; omega⟩
 rcases k.hux j hj with q | q
 · have := e.1; omega
 · exact e.2 q
end
end Go.Proofs.YtgpgcnmnfnnkjaaGreatDoor
end

section
namespace Go.Proofs.YtgpgcnmnfnnkjaaGreatDoor
open Go Go.RowKit Go.PlainAid BigFrame
attribute [local go_sem] After.same
set_option maxRecDepth 100000 in
set_option maxHeartbeats 16000000 in
theorem storeKeeps_walk (v0 : Value) (ls : List AskL) (w : World) (T : TabW w) (hv : Rd aslE w v0 ls) (hd : ∀ x ∈ ls, AskLOk w x) :
 Calls Tryz.prog 5 #[v0] w fun e w' => e = .returned (.bool true) ∧ Below w.heap.size w w' := by
 obtain ⟨w0, hw0⟩ : ∃ w0, w0 = w := ⟨_, rfl⟩
 rw [← hw0] at T hv hd ⊢
 clear hw0
 have T0 : ∀ z, Below w0.heap.size w0 z → TabW z := Lib.tabBelow_of_tabIs T
 have Tn := Lib.hid T0
 have Hd := Lib.hid hd
 clear T T0 hd
 obtain ⟨pl, cl, rfl⟩ := hv.shape
 have hl2 := hv.le
 unfold maxLen at hl2
 go_enter Tryz.func5, Tryz.ntmps5
 go_wp2_with fail
 refine (lNew w0 w0 (Nat.le_refl _) noX (fun _ h => h.elim)).mono ?_
 rintro e w1 ⟨rfl, d1, b1⟩
 generalize w0.heap.size = gD at d1
 go_wp2_with fail
 refine (stoOpen Tn.out d1 b1 PInv.zero (by omega) tp0).mono ?_
 rintro e w2 ⟨⟨gs, gw, v2, X2, rfl, hgs, hgw, hx2, hxn2, d2, s2, hvo2⟩, -, c2⟩
 have b2 := b1.trans (c2.gx d1.size)
 have hgw0 : w0.heap.size ≤ gw := Nat.le_trans d1.size hgw
 have hgs0 : w0.heap.size ≤ gs := Nat.le_trans d1.size hgs
 have hgl := s2.wv.blk.lt
 have hgsl := s2.blk.lt
 clear c2 d1 b1 hx2 hgw hgs
 have d2a := d2.alloc (.cells #[.int .i64 0, .int .i64 (-1), .int .i64 0, .int .i64 0, .int .i64 7, .string ⟨#[]⟩, .slice none 0 0] 24)
 have a2 := below_alloc w2 (.cells #[.int .i64 0, .int .i64 (-1), .int .i64 0, .int .i64 0, .int .i64 7, .string ⟨#[]⟩, .slice none 0 0] 24)
 have s2a := (s2.ext a2).mono (Y := fun k => X2 k ∨ k = w2.heap.size) (fun _ h => .inl h)
 have kz := Blk.new w2 #[.int .i64 0, .int .i64 (-1), .int .i64 0, .int .i64 0, .int .i64 7, .string ⟨#[]⟩, .slice none 0 0] 24
 have b2a := b2.trans (a2.mono b2.size)
 have y0 := kz.cell 0 _ rfl
 have y1 := kz.cell 1 _ rfl
 have y2 := kz.cell 2 _ rfl
 have y3 := kz.cell 3 _ rfl
 have y4 := kz.cell 4 _ rfl
 have y5 := kz.cell 5 _ rfl
 have y6 := kz.cell 6 _ rfl
 have zy0 := kz.frozen 0
 have zy1 := kz.frozen 1
 have zy2 := kz.frozen 2
 have zy3 := kz.frozen 3
 have zy4 := kz.frozen 4
 have zy5 := kz.frozen 5
 have zy6 := kz.frozen 6
 have hs := stoSave Tn.out d2a b2a hgw0 hgs0 PInv.zero (by omega) s2a hq0 (.slice none 0 0) (Rd.nil _) (fun h => absurd rfl h) (fun h => absurd rfl h) sq0e
 go_wp2_with fail
 refine hs.mono ?_
 rintro e w3 ⟨rfl, X3, v3, hx3, hxo3, d3, s3, c3, hvo3⟩
 have hne0 : w2.heap.size ≠ gw := by omega
 have hneS : w2.heap.size ≠ gs := by omega
 have kz3 : Blk w3 w2.heap.size #[.int .i64 0, .int .i64 (-1), .int .i64 0, .int .i64 0, .int .i64 7, .string ⟨#[]⟩, .slice none 0 0] 24 := c3.blk kz (fun h => by rcases h with h | h | h; exact h.2 (.inr rfl); omega; omega)
 have hs2 := b2.size
 have hv3n : v3.ownBlock ≠ some w2.heap.size := fun e => by
  rcases hvo3 _ e with q | q
  · have := d2.2 _ (s2.wv.lX _ q)
    omega
  · simp at q; omega
 have b3 := b2a.trans (c3.gsB b2a.size hgw0 hgs0)
 have st0 : KqV w0 gD w2.heap.size w3 X3 sq0.2.2 (stQ 1 hq0) hq0 gs gw v3 (.slice none 0 0) := ⟨hgw0, hgs0, d3, s3, b3, kz3, hx3 _ (.inr rfl), Rd.nil _, nil_own True.intro, by simp [Value.ownBlock], by simp [Value.ownBlock], hne0, hneS, hs2, by simp [Value.ownBlock], hv3n⟩
 have St0 := Lib.hid st0
 have Ke0 := Lib.hid keepQ0
 clear st0 y0 y1 y2 y3 y4 y5 y6 zy0 zy1 zy2 zy3 zy4 zy5 zy6 hs d2a a2 s2a b2a kz c3 hx3 hxo3 d2 s2 b2 kz3 d3 s3 b3 hvo3 hv3n hgw0 hgs0 hgl hgsl hne0 hneS hs2 hvo2 hxn2
 generalize w2.heap.size = gH at *
 go_wp2_with fail
 go_loopw [4, 5, 7] (fun tw te ti wr => ∃ (k n gs gw : Nat) (h : Hrd) (d : Dk) (X : Nat → Prop) (v u : Value), k ≤ ls.length ∧ k ≤ 20 ∧ ti = .int .i64 (k : Int) ∧ tw = .pointer (some ⟨gs, 0, none⟩) ∧ te = .int .i64 0 ∧ Hid (KeepQ (k + 1) h d n) ∧ Hid (KqV w0 gD gH wr X d (stQ n h) h gs gw v u)) (fun _ _ ti _ => ls.length - (intOf ti).toNat)
 case atStart => exact ⟨0, 1, gs, gw, hq0, sq0.2.2, X3, v3, .slice none 0 0, by omega, by omega, rfl, rfl, rfl, Ke0, St0⟩
 case round =>
  clear St0 Ke0
  obtain ⟨k, n, gs, gw, h, d, X, v, u, hk, hk20, rfl, rfl, rfl, ki, st⟩ := hrel
  have hk0 : (0 : Int) ≤ (k : Int) := by omega
  have hb := st.out.hb
  by_cases hend : k < ls.length ∧ k < 20
  · obtain ⟨hlt, hlt3⟩ := hend
    have hi4 : (k : Int) < (ls.length : Int) := by omega
    have hi5 : decide ((k : Int) < 20) = true := by simp; omega
    obtain ⟨pb, po, rfl⟩ := Rd.blk hv (by omega)
    have rr := hv.ext hb
    have hx := Hd.out _ (List.getElem_mem hlt)
    obtain ⟨a0, a1, a2, a3, a4, a5, a6, a7, a8, a9⟩ := asq10 rr hlt
    obtain ⟨x, hxe⟩ : ∃ x, ls[k] = x := ⟨_, rfl⟩
    rw [hxe] at a0 a1 a2 a3 a4 a5 a6 a7 a8 a9 hx
    have Hx := Lib.hid hx
    have Hxe := Lib.hid hxe
    clear hxe rr hx
    by_cases hp20 : 20 < x.picks.length
    · have h3i : (20 : Int) < (x.picks.length : Int) := by omega
      go_wp2_with fail
      go_roundw
      case rel => exact ⟨k + 1, n, gs, gw, h, d, X, v, u, by omega, by omega, by go_num, rfl, rfl, Lib.hid ki.out.up, st⟩
      case measure => simp [intOf]; omega
    · have h3i : ¬ (20 : Int) < (x.picks.length : Int) := by omega
      go_upto_region 10 with (fail)
      obtain ⟨pu, cu, rfl⟩ := st.out.hu.shape
      have kHc := st.out.kH
      have y0 := kHc.cell 0 _ rfl
      have y1 := kHc.cell 1 _ rfl
      have y2 := kHc.cell 2 _ rfl
      have y3 := kHc.cell 3 _ rfl
      have y4 := kHc.cell 4 _ rfl
      have y5 := kHc.cell 5 _ rfl
      have y6 := kHc.cell 6 _ rfl
      go_still_tail 5, (by kernel_rfl)
      change wpList _ _ _ _ _ wr.drew
      obtain ⟨wd, hwd⟩ : ∃ z, z = wr.drew := ⟨_, rfl⟩
      have bD : Below wr.heap.size wr wd := by rw [hwd]; exact below_drew _ _
      rw [← hwd]
      clear hwd
      have std := st.out.ext bD
      have smi := small_of ki.out.small
      obtain ⟨hbg, hp1, hp2, _, _, _, _, _⟩ := right_base ki.out.right
      have hnx := lawNextS h x (.slice pu h.log.length cu) std.hu (Hx.out.ext std.hb) (by omega) (by omega) (fun z hz => Nat.le_trans (log_in hbg z hz).2.2.2.2 (by decide)) ⟨hp1, hp2⟩
      have okx := nextS_ok x ki.out.right ki.out.small
      have nxx := nextS_next h x
      obtain ⟨h', hh'⟩ : ∃ h', nextS h x = h' := ⟨_, rfl⟩
      rw [hh'] at hnx okx nxx
      have HH := Lib.hid hh'
      have Okx := Lib.hid okx
      have Nxx := Lib.hid nxx
      clear hh' okx nxx smi bD kHc hbg hp1 hp2
      have kHd := std.kH
      have Std := Lib.hid std
      clear std
      go_upto_region 11 with (first | (go_at_call 32; refine hnx.mono ?_; rintro e w3 ⟨u3, rfl, rd3, hor3, b3⟩; obtain ⟨p3, c3, rfl⟩ := rd3.shape; have k3 := kHd.ext b3; have z0 := k3.cell 0 _ rfl; have z1 := k3.cell 1 _ rfl; have z2 := k3.cell 2 _ rfl; have z3 := k3.cell 3 _ rfl; have z4 := k3.cell 4 _ rfl; have z5 := k3.cell 5 _ rfl; have z6 := k3.cell 6 _ rfl; have f0 := k3.frozen 0; have f1 := k3.frozen 1; have f2 := k3.frozen 2; have f3 := k3.frozen 3; have f4 := k3.frozen 4; have f5 := k3.frozen 5; have f6 := k3.frozen 6) | fail)
      have st4 := Std.out.stored b3 rd3 hor3
      clear hnx rd3 hor3 k3 kHd z0 z1 z2 z3 z4 z5 z6 f0 f1 f2 f3 f4 f5 f6 y0 y1 y2 y3 y4 y5 y6 b3
      generalize hW4 : (((((((w3.setCell ⟨gH, 0, none⟩ (.int .i64 h'.term)).setCell ⟨gH, 1, none⟩ (.int .i64 h'.vote)).setCell ⟨gH, 2, none⟩ (.int .i64 h'.base)).setCell ⟨gH, 3, none⟩ (.int .i64 h'.bterm)).setCell ⟨gH, 4, none⟩ (.int .i64 h'.members)).setCell ⟨gH, 5, none⟩ (.string h'.snap)).setCell ⟨gH, 6, none⟩ (.slice p3 h'.log.length c3)) = W4 at *
      clear hW4
      obtain ⟨n', d', hE, ki'⟩ := ki.out.save (by omega) Okx.out.1 Okx.out.2 Nxx.out
      have piv := Lib.hid ki.out.inv
      have HE := Lib.hid hE
      have Ki := Lib.hid ki'
      clear hE ki'
      have kH4 := st4.kH
      have y0 := kH4.cell 0 _ rfl
      have y1 := kH4.cell 1 _ rfl
      have y2 := kH4.cell 2 _ rfl
      have y3 := kH4.cell 3 _ rfl
      have y4 := kH4.cell 4 _ rfl
      have y5 := kH4.cell 5 _ rfl
      have y6 := kH4.cell 6 _ rfl
      have St4 := Lib.hid st4
      clear st4 kH4
      go_wp2_with fail
      refine (stoSave Tn.out St4.out.dd St4.out.hb St4.out.gw0 St4.out.gs0 piv.out (by omega) St4.out.sv h' (.slice p3 h'.log.length c3) St4.out.hu (fun _ => St4.out.hux) (fun _ => St4.out.hug) HE.out).mono ?_
      rintro e w5 ⟨rfl, X5, v5, hx5, -, d5, s5, c5, hvo5⟩
      have st5 := St4.out.saved hx5 d5 s5 c5 hvo5
      have St8 := Lib.hid st5
      have Hl := Lib.hid hlt
      have ki8 := Ki
      clear hx5 d5 s5 c5 hvo5 st5 y0 y1 y2 y3 y4 y5 y6
      have rrQ := hv.ext St8.out.hb
      obtain ⟨a0, a1, a2, a3, a4, a5, a6, a7, a8, a9⟩ := asq10 rrQ Hl.out
      rw [Hxe.out] at a0 a1 a2 a3 a4 a5 a6 a7 a8 a9
      clear rrQ
      by_cases hk4 : x.kind = 4
      · have h4b : (x.kind == 4) = true := by simpa using hk4
        clear hk4
        have kiC := Lib.hid (ki8.out.crash x.picks)
        have hcr := lCrash St8.out.dd (ki8.out.inv.ok (by omega)) (rfl : crashD d' x.picks = crashD d' x.picks) (Hx.out.picks.ext St8.out.hb) (fun hne q hq => .inl (intsQ_in Hx.out.picks hne q hq)) Hx.out.hi
        obtain ⟨dC, hdC⟩ : ∃ dC, crashD d' x.picks = dC := ⟨_, rfl⟩
        rw [hdC] at kiC hcr
        clear hdC
        go_wp2_with fail
        refine hcr.mono ?_
        rintro e w9 ⟨rfl, d9, c9⟩
        have st9 := St8.out.chg d9 c9
        have St9 := Lib.hid st9
        clear hcr d9 c9 a0 a1 a2 a3 a4 a5 a6 a7 a8 a9 st9
        go_wp2_with fail
        refine (stoOpen Tn.out St9.out.dd St9.out.hb kiC.out.inv (by omega) kiC.out.opened.1).mono ?_
        rintro e w10 ⟨⟨gt, gx, vx, Xx, rfl, hgt, hgx, hxx, -, dx, sx, hvx⟩, -, c10⟩
        have st10 := St9.out.opened hgx hgt hxx dx sx c10 hvx
        have kiF := Lib.hid kiC.out.opened.2
        have StF := Lib.hid st10
        clear hgt hgx hxx dx sx hvx c10 st10
        go_upto_region 18 with (fail)
        have kHF := StF.out.kH
        have y0 := kHF.cell 0 _ rfl
        have y1 := kHF.cell 1 _ rfl
        have y2 := kHF.cell 2 _ rfl
        have y3 := kHF.cell 3 _ rfl
        have y4 := kHF.cell 4 _ rfl
        have y5 := kHF.cell 5 _ rfl
        have y6 := kHF.cell 6 _ rfl
        go_region_held3 (fun w' => w'.cell? ⟨gH, 0, none⟩ = some (.int .i64 h'.term) ∧ w'.cell? ⟨gH, 1, none⟩ = some (.int .i64 h'.vote) ∧ w'.cell? ⟨gH, 2, none⟩ = some (.int .i64 h'.base) ∧ w'.cell? ⟨gH, 3, none⟩ = some (.int .i64 h'.bterm) ∧ w'.cell? ⟨gH, 4, none⟩ = some (.int .i64 h'.members) ∧ w'.cell? ⟨gH, 5, none⟩ = some (.string h'.snap) ∧ w'.cell? ⟨gH, 6, none⟩ = some (.slice p3 h'.log.length c3)) (go_keep)
         (first
          | (go_at_call 33; (have stFd := StF.out.ext (below_drew _ _)); (refine (stoHard stFd.sv).mono ?_); rintro e w11 ⟨v11, rfl, own11, b11⟩; (have st11 := stFd.ext b11); (have kH11 := st11.kH); (have ra0 := kH11.cell 0 _ rfl); (have ra1 := kH11.cell 1 _ rfl); (have ra2 := kH11.cell 2 _ rfl); (have ra3 := kH11.cell 3 _ rfl); (have ra4 := kH11.cell 4 _ rfl); (have ra5 := kH11.cell 5 _ rfl); (have ra6 := kH11.cell 6 _ rfl))
          | (go_at_call 20; (refine (refSame h' h' v11 _ own11.rd st11.hu).mono ?_); rintro e w12 ⟨rfl, b12⟩; (have st12 := st11.ext b12); (have kH12 := st12.kH); (have rb0 := kH12.cell 0 _ rfl); (have rb1 := kH12.cell 1 _ rfl); (have rb2 := kH12.cell 2 _ rfl); (have rb3 := kH12.cell 3 _ rfl); (have rb4 := kH12.cell 4 _ rfl); (have rb5 := kH12.cell 5 _ rfl); (have rb6 := kH12.cell 6 _ rfl))
          | (go_at_call 34; (refine (lNames st12.dd (kiF.out.inv.ok (by omega))).mono ?_); rintro e wN ⟨⟨rN, rfl, ownN⟩, cN⟩; obtain ⟨pN, cN', rfl⟩ := ownN.rd.shape; (have stn := st12.ext cN); (have kHN := stn.kH); (have rc0 := kHN.cell 0 _ rfl); (have rc1 := kHN.cell 1 _ rfl); (have rc2 := kHN.cell 2 _ rfl); (have rc3 := kHN.cell 3 _ rfl); (have rc4 := kHN.cell 4 _ rfl); (have rc5 := kHN.cell 5 _ rfl); (have rc6 := kHN.cell 6 _ rfl)))
        have St12 := Lib.hid st12
        have hnl := kiF.out.names
        have stN := Lib.hid stn
        have hni : ¬ (2 : Int) < (((openP dC).2.2.fs.length : Nat) : Int) := by rw [List.length_map] at hnl; omega
        clear y0 y1 y2 y3 y4 y5 y6 own11 b11 st11 stFd kH11 b12 kH12 st12 ownN cN kHN stn kHF ra0 ra1 ra2 ra3 ra4 ra5 ra6 rb0 rb1 rb2 rb3 rb4 rb5 rb6 rc0 rc1 rc2 rc3 rc4 rc5 rc6 hnl
        go_wp2_with fail
        go_roundw
        case rel => exact ⟨k + 1, n', gt, gx, h', _, _, _, .slice p3 h'.log.length c3, by omega, by omega, by go_num, rfl, rfl, kiF, stN⟩
        case measure => simp [intOf]; omega
      · have h4b : (x.kind == 4) = false := by simpa using hk4
        clear hk4
        go_upto_region 18 with (fail)
        clear a0 a1 a2 a3 a4 a5 a6 a7 a8 a9
        have StF := St8
        have kiF := ki8
        have kHF := StF.out.kH
        have y0 := kHF.cell 0 _ rfl
        have y1 := kHF.cell 1 _ rfl
        have y2 := kHF.cell 2 _ rfl
        have y3 := kHF.cell 3 _ rfl
        have y4 := kHF.cell 4 _ rfl
        have y5 := kHF.cell 5 _ rfl
        have y6 := kHF.cell 6 _ rfl
        go_region_held3 (fun w' => w'.cell? ⟨gH, 0, none⟩ = some (.int .i64 h'.term) ∧ w'.cell? ⟨gH, 1, none⟩ = some (.int .i64 h'.vote) ∧ w'.cell? ⟨gH, 2, none⟩ = some (.int .i64 h'.base) ∧ w'.cell? ⟨gH, 3, none⟩ = some (.int .i64 h'.bterm) ∧ w'.cell? ⟨gH, 4, none⟩ = some (.int .i64 h'.members) ∧ w'.cell? ⟨gH, 5, none⟩ = some (.string h'.snap) ∧ w'.cell? ⟨gH, 6, none⟩ = some (.slice p3 h'.log.length c3)) (go_keep)
         (first
          | (go_at_call 33; (have stFd := StF.out.ext (below_drew _ _)); (refine (stoHard stFd.sv).mono ?_); rintro e w11 ⟨v11, rfl, own11, b11⟩; (have st11 := stFd.ext b11); (have kH11 := st11.kH); (have ra0 := kH11.cell 0 _ rfl); (have ra1 := kH11.cell 1 _ rfl); (have ra2 := kH11.cell 2 _ rfl); (have ra3 := kH11.cell 3 _ rfl); (have ra4 := kH11.cell 4 _ rfl); (have ra5 := kH11.cell 5 _ rfl); (have ra6 := kH11.cell 6 _ rfl))
          | (go_at_call 20; (refine (refSame h' h' v11 _ own11.rd st11.hu).mono ?_); rintro e w12 ⟨rfl, b12⟩; (have st12 := st11.ext b12); (have kH12 := st12.kH); (have rb0 := kH12.cell 0 _ rfl); (have rb1 := kH12.cell 1 _ rfl); (have rb2 := kH12.cell 2 _ rfl); (have rb3 := kH12.cell 3 _ rfl); (have rb4 := kH12.cell 4 _ rfl); (have rb5 := kH12.cell 5 _ rfl); (have rb6 := kH12.cell 6 _ rfl))
          | (go_at_call 34; (refine (lNames st12.dd (kiF.out.inv.ok (by omega))).mono ?_); rintro e wN ⟨⟨rN, rfl, ownN⟩, cN⟩; obtain ⟨pN, cN', rfl⟩ := ownN.rd.shape; (have stn := st12.ext cN); (have kHN := stn.kH); (have rc0 := kHN.cell 0 _ rfl); (have rc1 := kHN.cell 1 _ rfl); (have rc2 := kHN.cell 2 _ rfl); (have rc3 := kHN.cell 3 _ rfl); (have rc4 := kHN.cell 4 _ rfl); (have rc5 := kHN.cell 5 _ rfl); (have rc6 := kHN.cell 6 _ rfl)))
        have St12 := Lib.hid st12
        have hnl := kiF.out.names
        have stN := Lib.hid stn
        have hni : ¬ (2 : Int) < ((d'.fs.length : Nat) : Int) := by rw [List.length_map] at hnl; omega
        clear y0 y1 y2 y3 y4 y5 y6 own11 b11 st11 stFd kH11 b12 kH12 st12 ownN cN kHN stn kHF ra0 ra1 ra2 ra3 ra4 ra5 ra6 rb0 rb1 rb2 rb3 rb4 rb5 rb6 rc0 rc1 rc2 rc3 rc4 rc5 rc6 hnl
        go_wp2_with fail
        go_roundw
        case rel => exact ⟨k + 1, n', gs, gw, h', _, _, _, .slice p3 h'.log.length c3, by omega, by omega, by go_num, rfl, rfl, kiF, stN⟩
        case measure => simp [intOf]; omega
  · rcases Nat.lt_or_ge k ls.length with hl | hl
    · have hi4 : (k : Int) < (ls.length : Int) := by omega
      have hi5 : decide ((k : Int) < 20) = false := by simp; omega
      go_wp2_with fail
      refine (storeRuns_walk _ (Tn.out _ hb)).mono ?_
      rintro e w9 ⟨rfl, c9⟩
      have b9 := hb.trans (c9.mono hb.size)
      go_wp2_with fail
      go_ret
      exact ⟨rfl, b9⟩
    · have hi4 : ¬ (k : Int) < (ls.length : Int) := by omega
      go_wp2_with fail
      refine (storeRuns_walk _ (Tn.out _ hb)).mono ?_
      rintro e w9 ⟨rfl, c9⟩
      have b9 := hb.trans (c9.mono hb.size)
      go_wp2_with fail
      go_ret
      exact ⟨rfl, b9⟩
end Go.Proofs.YtgpgcnmnfnnkjaaGreatDoor
end
