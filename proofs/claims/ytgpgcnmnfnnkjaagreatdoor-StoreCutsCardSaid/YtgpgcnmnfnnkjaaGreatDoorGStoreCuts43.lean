/- The walk of StoreCuts. -/
import Derived.Test.YtgpgcnmnfnnkjaaGreatDoorGStoreCuts42
import Derived.Test.YtgpgcnmnfnnkjaaGreatDoorGStoreCuts38
import Derived.StillTailTactics
import Derived.Deep.RegionHeld3
set_option linter.unusedVariables false
set_option linter.unusedSimpArgs false
section
namespace Go.Proofs.YtgpgcnmnfnnkjaaGreatDoor
open Go Go.RowKit Go.PlainAid BigFrame
attribute [local go_sem] After.same
open Classical in
set_option maxRecDepth 100000 in
set_option maxHeartbeats 16000000 in
theorem storeCuts_walk (v0 : Value) (ls : List AskL) (cut : Int) (l : AskL) (v3 : Value) (ag : List Int) (w : World) (T : TabW w) (hv : Rd aslE w v0 ls) (hd : ∀ x ∈ ls, AskLOk w x) (hlo : AskLOk w l) (hag : Rd intsE w v3 ag) :
 Calls Tryz.prog 7 #[v0, .int .i64 cut, .agg (aslA l), v3] w fun e w' => e = .returned (.bool true) ∧ Below w.heap.size w w' := by
 obtain ⟨w0, hw0⟩ : ∃ w0, w0 = w := ⟨_, rfl⟩
 rw [← hw0] at T hv hd hlo hag ⊢
 clear hw0
 have T0 : ∀ z, Below w0.heap.size w0 z → TabW z := Lib.tabBelow_of_tabIs T
 have Tn := Lib.hid T0
 have Hd := Lib.hid hd
 have Hlo := Lib.hid hlo
 clear T T0 hd hlo
 obtain ⟨pl, cl, rfl⟩ := hv.shape
 obtain ⟨pa, ca, rfl⟩ := hag.shape
 have hl2 := hv.le
 have hl3 := hag.le
 unfold maxLen at hl2 hl3
 have caL := below_alloc w0 (.cells #[.int .i64 l.kind, .int .i64 l.n, .int .i64 l.h.term, .int .i64 l.h.vote, .int .i64 l.h.base, .int .i64 l.h.bterm, .int .i64 l.h.members, .string l.h.snap, .slice l.hp l.h.log.length l.hc, .slice l.pp l.picks.length l.pc] 57)
 have kL0 := Blk.new w0 #[.int .i64 l.kind, .int .i64 l.n, .int .i64 l.h.term, .int .i64 l.h.vote, .int .i64 l.h.base, .int .i64 l.h.bterm, .int .i64 l.h.members, .string l.h.snap, .slice l.hp l.h.log.length l.hc, .slice l.pp l.picks.length l.pc] 57
 obtain ⟨bL, hbL⟩ : ∃ bL, bL = w0.heap.size := ⟨_, rfl⟩
 rw [← hbL] at kL0
 have hszL : (w0.alloc (.cells #[.int .i64 l.kind, .int .i64 l.n, .int .i64 l.h.term, .int .i64 l.h.vote, .int .i64 l.h.base, .int .i64 l.h.bterm, .int .i64 l.h.members, .string l.h.snap, .slice l.hp l.h.log.length l.hc, .slice l.pp l.picks.length l.pc] 57)).heap.size = bL + 1 := by rw [hbL]; simp
 go_enter Tryz.func7, Tryz.ntmps7
 go_wp2_with fail
 rw [← hbL]
 have hbl1 : w0.heap.size ≤ bL := by omega
 have hbl2 : bL ≤ w0.heap.size := by omega
 clear hbL
 refine (lNew w0 (w0.alloc (.cells #[.int .i64 l.kind, .int .i64 l.n, .int .i64 l.h.term, .int .i64 l.h.vote, .int .i64 l.h.base, .int .i64 l.h.bterm, .int .i64 l.h.members, .string l.h.snap, .slice l.hp l.h.log.length l.hc, .slice l.pp l.picks.length l.pc] 57)) (by omega) (fun k => k = bL) (fun k hk => by rw [hk]; omega)).mono ?_
 rintro e w1 ⟨rfl, d1, b1⟩
 have kL1 := kL0.ext b1
 have b01 : Below w0.heap.size w0 w1 := caL.trans (b1.mono (by omega))
 have hs1 := b1.size
 rw [hszL] at d1 hs1 ⊢
 obtain ⟨gD, hgD⟩ : ∃ gD, gD = bL + 1 := ⟨_, rfl⟩
 rw [← hgD] at d1 ⊢
 clear hgD hszL caL kL0 b1
 go_wp2_with fail
 refine (stoOpen Tn.out d1 b01 PInv.zero (by omega) tp0).mono ?_
 rintro e w2 ⟨⟨gs, gw, v2, X2, rfl, hgs, hgw, hx2, hxn2, d2, s2, hvo2⟩, -, c2⟩
 have b2 := b01.trans (c2.gx d1.size)
 have kL2 := c2.blk kL1 (fun q => q.2 rfl)
 have hL2 : X2 bL := hx2 _ rfl
 have hgw0 : w0.heap.size ≤ gw := Nat.le_trans d1.size hgw
 have hgs0 : w0.heap.size ≤ gs := Nat.le_trans d1.size hgs
 have hgl := s2.wv.blk.lt
 have hgsl := s2.blk.lt
 have hLg : bL ≠ gs ∧ bL ≠ gw := by omega
 clear c2 d1 b01 hx2 hgw hgs kL1
 have d2a := d2.alloc (.cells #[.int .i64 0, .int .i64 (-1), .int .i64 0, .int .i64 0, .int .i64 7, .string ⟨#[]⟩, .slice none 0 0] 24)
 have a2 := below_alloc w2 (.cells #[.int .i64 0, .int .i64 (-1), .int .i64 0, .int .i64 0, .int .i64 7, .string ⟨#[]⟩, .slice none 0 0] 24)
 have s2a := (s2.ext a2).mono (Y := fun k => X2 k ∨ k = w2.heap.size) (fun _ h => .inl h)
 have kz := Blk.new w2 #[.int .i64 0, .int .i64 (-1), .int .i64 0, .int .i64 0, .int .i64 7, .string ⟨#[]⟩, .slice none 0 0] 24
 have kLa := kL2.ext a2
 have b2a := b2.trans (a2.mono b2.size)
 have y0 := kz.cell 0 _ rfl
 have y1 := kz.cell 1 _ rfl
 have y2 := kz.cell 2 _ rfl
 have y3 := kz.cell 3 _ rfl
 have y4 := kz.cell 4 _ rfl
 have y5 := kz.cell 5 _ rfl
 have y6 := kz.cell 6 _ rfl
 have zy0 := kz.frozen 0
 have zy1 := kz.frozen 1
 have zy2 := kz.frozen 2
 have zy3 := kz.frozen 3
 have zy4 := kz.frozen 4
 have zy5 := kz.frozen 5
 have zy6 := kz.frozen 6
 have hs := stoSave Tn.out d2a b2a hgw0 hgs0 PInv.zero (by omega) s2a hq0 (.slice none 0 0) (Rd.nil _) (fun h => absurd rfl h) (fun h => absurd rfl h) sq0e
 have zL9 := kLa.cell 9 _ rfl
 go_wp2_with fail
 refine hs.mono ?_
 rintro e w3 ⟨rfl, X3, v3', hx3, hxo3, d3, s3, c3, hvo3⟩
 have hne0 : w2.heap.size ≠ gw := by omega
 have hneS : w2.heap.size ≠ gs := by omega
 have kz3 : Blk w3 w2.heap.size #[.int .i64 0, .int .i64 (-1), .int .i64 0, .int .i64 0, .int .i64 7, .string ⟨#[]⟩, .slice none 0 0] 24 := c3.blk kz (fun h => by rcases h with h | h | h; exact h.2 (.inr rfl); omega; omega)
 have kL3 := c3.blk kLa (fun h => by rcases h with h | h | h; exact h.2 (.inl hL2); exact hLg.2 h; exact hLg.1 h)
 have hL3 : X3 bL := hx3 _ (.inl hL2)
 have hs2 := b2.size
 have hv3n : v3'.ownBlock ≠ some w2.heap.size := fun e => by
  rcases hvo3 _ e with q | q
  · have := d2.2 _ (s2.wv.lX _ q)
    omega
  · simp at q; omega
 have b3 := b2a.trans (c3.gsB b2a.size hgw0 hgs0)
 have st0 : KqV w0 gD w2.heap.size w3 X3 sq0.2.2 (stQ 1 hq0) hq0 gs gw v3' (.slice none 0 0) := ⟨hgw0, hgs0, d3, s3, b3, kz3, hx3 _ (.inr rfl), Rd.nil _, nil_own True.intro, by simp [Value.ownBlock], by simp [Value.ownBlock], hne0, hneS, hs2, by simp [Value.ownBlock], hv3n⟩
 have St0 := Lib.hid st0
 have Ke0 := Lib.hid keepQ0
 have HLg := Lib.hid hLg
 have HLH := Lib.hid (show bL ≠ w2.heap.size by have := kL2.lt; omega)
 clear st0 zL9 y0 y1 y2 y3 y4 y5 y6 zy0 zy1 zy2 zy3 zy4 zy5 zy6 hs d2a a2 s2a b2a kz c3 hx3 hxo3 d2 s2 b2 kz3 d3 s3 hvo3 hv3n hgl hgsl hne0 hneS hs2 hvo2 hxn2 kL2 kLa hLg hL2
 generalize w2.heap.size = gH at *
 have zL9 := kL3.cell 9 _ rfl
 by_cases hp20 : 20 < l.picks.length
 · have h3i : (20 : Int) < (l.picks.length : Int) := by omega
   go_wp2_with fail
   go_ret
   exact ⟨rfl, b3⟩
 have h3i : ¬ (20 : Int) < (l.picks.length : Int) := by omega
 go_wp2_with fail
 clear zL9
 go_loopw [13] (fun ti wr => ∃ (k n : Nat) (h : Hrd) (d : Dk) (X : Nat → Prop) (v u : Value), k ≤ ls.length ∧ k ≤ 10 ∧ ti = .int .i64 (k : Int) ∧ Hid (KeepQ (k + 1) h d n) ∧ Hid (KqV w0 gD gH wr X d (stQ n h) h gs gw v u) ∧ Hid (Blk wr bL #[.int .i64 l.kind, .int .i64 l.n, .int .i64 l.h.term, .int .i64 l.h.vote, .int .i64 l.h.base, .int .i64 l.h.bterm, .int .i64 l.h.members, .string l.h.snap, .slice l.hp l.h.log.length l.hc, .slice l.pp l.picks.length l.pc] 57 ∧ X bL)) (fun ti _ => ls.length - (intOf ti).toNat)
 case atStart => exact ⟨0, 1, hq0, sq0.2.2, X3, v3', .slice none 0 0, by omega, by omega, rfl, Ke0, St0, ⟨kL3, hL3⟩⟩
 case round =>
  clear St0 Ke0 kL3 hL3
  obtain ⟨k, n, h, d, X, v, u, hk, hk10, rfl, ki, st, bl⟩ := hrel
  have hk0 : (0 : Int) ≤ (k : Int) := by omega
  have hb := st.out.hb
  by_cases hend : k < ls.length ∧ k < 10
  · obtain ⟨hlt, hlt3⟩ := hend
    have hi4 : (k : Int) < (ls.length : Int) := by omega
    have hi5 : decide ((k : Int) < 10) = true := by simp; omega
    obtain ⟨pb, po, rfl⟩ := Rd.blk hv (by omega)
    have rr := hv.ext hb
    have hx := Hd.out _ (List.getElem_mem hlt)
    obtain ⟨a0, a1, a2, a3, a4, a5, a6, a7, a8, a9⟩ := asq10 rr hlt
    obtain ⟨x, hxe⟩ : ∃ x, ls[k] = x := ⟨_, rfl⟩
    rw [hxe] at a0 a1 a2 a3 a4 a5 a6 a7 a8 a9 hx
    have Hx := Lib.hid hx
    clear hxe rr hx
    go_upto_region 9 with (fail)
    obtain ⟨pu, cu, rfl⟩ := st.out.hu.shape
    have kHc := st.out.kH
    have y0 := kHc.cell 0 _ rfl
    have y1 := kHc.cell 1 _ rfl
    have y2 := kHc.cell 2 _ rfl
    have y3 := kHc.cell 3 _ rfl
    have y4 := kHc.cell 4 _ rfl
    have y5 := kHc.cell 5 _ rfl
    have y6 := kHc.cell 6 _ rfl
    go_still_tail 5, (by kernel_rfl)
    change wpList _ _ _ _ _ wr.drew
    obtain ⟨wd, hwd⟩ : ∃ z, z = wr.drew := ⟨_, rfl⟩
    have bD : Below wr.heap.size wr wd := by rw [hwd]; exact below_drew _ _
    rw [← hwd]
    clear hwd
    have std := st.out.ext bD
    have bld : Blk wd bL #[.int .i64 l.kind, .int .i64 l.n, .int .i64 l.h.term, .int .i64 l.h.vote, .int .i64 l.h.base, .int .i64 l.h.bterm, .int .i64 l.h.members, .string l.h.snap, .slice l.hp l.h.log.length l.hc, .slice l.pp l.picks.length l.pc] 57 ∧ X bL := ⟨bl.out.1.ext bD, bl.out.2⟩
    have Bld := Lib.hid bld
    have smi := small_of ki.out.small
    obtain ⟨hbg, hp1, hp2, _, _, _, _, _⟩ := right_base ki.out.right
    have hnx := lawNextS h x (.slice pu h.log.length cu) std.hu (Hx.out.ext std.hb) (by omega) (by omega) (fun z hz => Nat.le_trans (log_in hbg z hz).2.2.2.2 (by decide)) ⟨hp1, hp2⟩
    have okx := nextS_ok x ki.out.right ki.out.small
    have nxx := nextS_next h x
    obtain ⟨h', hh'⟩ : ∃ h', nextS h x = h' := ⟨_, rfl⟩
    rw [hh'] at hnx okx nxx
    have HH := Lib.hid hh'
    have Okx := Lib.hid okx
    have Nxx := Lib.hid nxx
    clear hh' okx nxx smi bD kHc hbg hp1 hp2 bld
    have kHd := std.kH
    have Std := Lib.hid std
    clear std
    go_upto_region 10 with (first | (go_at_call 32; refine hnx.mono ?_; rintro e w3 ⟨u3, rfl, rd3, hor3, b3⟩; obtain ⟨p3, c3, rfl⟩ := rd3.shape; have k3 := kHd.ext b3; (have z0 := k3.cell 0 _ rfl); (have z1 := k3.cell 1 _ rfl); (have z2 := k3.cell 2 _ rfl); (have z3 := k3.cell 3 _ rfl); (have z4 := k3.cell 4 _ rfl); (have z5 := k3.cell 5 _ rfl); (have z6 := k3.cell 6 _ rfl); (have f0 := k3.frozen 0); (have f1 := k3.frozen 1); (have f2 := k3.frozen 2); (have f3 := k3.frozen 3); (have f4 := k3.frozen 4); (have f5 := k3.frozen 5); (have f6 := k3.frozen 6)) | fail)
    have st4 := Std.out.stored b3 rd3 hor3
    have bl4 := (blk7c (gH := gH) h' (.slice p3 h'.log.length c3) (Bld.out.1.ext b3) HLH.out)
    clear hnx rd3 hor3 k3 kHd z0 z1 z2 z3 z4 z5 z6 f0 f1 f2 f3 f4 f5 f6 y0 y1 y2 y3 y4 y5 y6 b3
    generalize hW4 : (((((((w3.setCell ⟨gH, 0, none⟩ (.int .i64 h'.term)).setCell ⟨gH, 1, none⟩ (.int .i64 h'.vote)).setCell ⟨gH, 2, none⟩ (.int .i64 h'.base)).setCell ⟨gH, 3, none⟩ (.int .i64 h'.bterm)).setCell ⟨gH, 4, none⟩ (.int .i64 h'.members)).setCell ⟨gH, 5, none⟩ (.string h'.snap)).setCell ⟨gH, 6, none⟩ (.slice p3 h'.log.length c3)) = W4 at *
    clear hW4
    obtain ⟨n', d', hE, ki'⟩ := ki.out.save (by omega) Okx.out.1 Okx.out.2 Nxx.out
    have piv := Lib.hid ki.out.inv
    have HE := Lib.hid hE
    have Ki := Lib.hid ki'
    have Bl4 := Lib.hid bl4
    clear hE ki' bl4
    have kH4 := st4.kH
    have y0 := kH4.cell 0 _ rfl
    have y1 := kH4.cell 1 _ rfl
    have y2 := kH4.cell 2 _ rfl
    have y3 := kH4.cell 3 _ rfl
    have y4 := kH4.cell 4 _ rfl
    have y5 := kH4.cell 5 _ rfl
    have y6 := kH4.cell 6 _ rfl
    have St4 := Lib.hid st4
    have Hl := Lib.hid hlt
    clear st4 kH4 a0 a1 a2 a3 a4 a5 a6 a7 a8 a9 hlt
    go_region_held3 (fun w' => w'.cell? ⟨gH, 0, none⟩ = some (.int .i64 h'.term) ∧ w'.cell? ⟨gH, 1, none⟩ = some (.int .i64 h'.vote) ∧ w'.cell? ⟨gH, 2, none⟩ = some (.int .i64 h'.base) ∧ w'.cell? ⟨gH, 3, none⟩ = some (.int .i64 h'.bterm) ∧ w'.cell? ⟨gH, 4, none⟩ = some (.int .i64 h'.members) ∧ w'.cell? ⟨gH, 5, none⟩ = some (.string h'.snap) ∧ w'.cell? ⟨gH, 6, none⟩ = some (.slice p3 h'.log.length c3)) (go_keep)
     (first
      | (go_at_call 31; (refine (stoSave Tn.out (St4.out.ext (below_drew _ _)).dd (St4.out.ext (below_drew _ _)).hb St4.out.gw0 St4.out.gs0 piv.out (by omega) (St4.out.ext (below_drew _ _)).sv h' (.slice p3 h'.log.length c3) (St4.out.ext (below_drew _ _)).hu (fun _ => St4.out.hux) (fun _ => St4.out.hug) HE.out).mono ?_); rintro e w5 ⟨rfl, X5, v5, hx5, -, d5, s5, c5, hvo5⟩; (have st5 := (St4.out.ext (below_drew _ _)).saved hx5 d5 s5 c5 hvo5); (have bl5 := c5.blk (Bl4.out.ext (below_drew _ _)) (noGs (X := fun j => X j ∨ (wd.heap.size ≤ j ∧ j < w3.heap.size)) (.inl Bld.out.2) HLg.out)); (have kH5 := st5.kH); (have qa0 := kH5.cell 0 _ rfl); (have qa1 := kH5.cell 1 _ rfl); (have qa2 := kH5.cell 2 _ rfl); (have qa3 := kH5.cell 3 _ rfl); (have qa4 := kH5.cell 4 _ rfl); (have qa5 := kH5.cell 5 _ rfl); (have qa6 := kH5.cell 6 _ rfl))
      | (go_at_call 33; (refine (stoHard st5.sv).mono ?_); rintro e w6 ⟨v6, rfl, own6, b6⟩; (have st6 := st5.ext b6); (have bl6 := bl5.ext b6); (have kH6 := st6.kH); (have qb0 := kH6.cell 0 _ rfl); (have qb1 := kH6.cell 1 _ rfl); (have qb2 := kH6.cell 2 _ rfl); (have qb3 := kH6.cell 3 _ rfl); (have qb4 := kH6.cell 4 _ rfl); (have qb5 := kH6.cell 5 _ rfl); (have qb6 := kH6.cell 6 _ rfl))
      | (go_at_call 20; (refine (refSame h' h' v6 _ own6.rd st6.hu).mono ?_); rintro e w7 ⟨rfl, b7⟩; (have st7 := st6.ext b7); (have bl7 := bl6.ext b7); (have kH7 := st7.kH); (have qc0 := kH7.cell 0 _ rfl); (have qc1 := kH7.cell 1 _ rfl); (have qc2 := kH7.cell 2 _ rfl); (have qc3 := kH7.cell 3 _ rfl); (have qc4 := kH7.cell 4 _ rfl); (have qc5 := kH7.cell 5 _ rfl); (have qc6 := kH7.cell 6 _ rfl)))
    have stF := Lib.hid st7
    have blF : Hid (Blk w7 bL #[.int .i64 l.kind, .int .i64 l.n, .int .i64 l.h.term, .int .i64 l.h.vote, .int .i64 l.h.base, .int .i64 l.h.bterm, .int .i64 l.h.members, .string l.h.snap, .slice l.hp l.h.log.length l.hc, .slice l.pp l.picks.length l.pc] 57 ∧ X5 bL) := ⟨bl7, hx5 _ (.inl Bld.out.2)⟩
    clear st5 st6 st7 kH5 kH6 kH7 bl5 bl6 bl7 hx5 d5 s5 c5 hvo5 own6 b6 b7 qa0 qa1 qa2 qa3 qa4 qa5 qa6 qb0 qb1 qb2 qb3 qb4 qb5 qb6 qc0 qc1 qc2 qc3 qc4 qc5 qc6 y0 y1 y2 y3 y4 y5 y6
    go_wp2_with fail
    go_roundw
    case rel => exact ⟨k + 1, n', h', _, _, _, .slice p3 h'.log.length c3, by omega, by omega, by go_num, Ki, stF, blF⟩
    case measure => simp [intOf]; have := Hl.out; omega
  · have hdone : (k : Int) < (ls.length : Int) ∧ decide ((k : Int) < 10) = false ∨ ¬ (k : Int) < (ls.length : Int) := by
     rcases Nat.lt_or_ge k ls.length with hl | hl
     · exact .inl ⟨by omega, by simp; omega⟩
     · exact .inr (by omega)
    have kl := bl.out.1
    have kh := st.out.kH
    obtain ⟨pu, cu, rfl⟩ := st.out.hu.shape
    have ml0 := kl.cell 0 _ rfl
    have ml1 := kl.cell 1 _ rfl
    have ml2 := kl.cell 2 _ rfl
    have ml3 := kl.cell 3 _ rfl
    have ml4 := kl.cell 4 _ rfl
    have ml5 := kl.cell 5 _ rfl
    have ml6 := kl.cell 6 _ rfl
    have ml7 := kl.cell 7 _ rfl
    have ml8 := kl.cell 8 _ rfl
    have ml9 := kl.cell 9 _ rfl
    have y0 := kh.cell 0 _ rfl
    have y1 := kh.cell 1 _ rfl
    have y2 := kh.cell 2 _ rfl
    have y3 := kh.cell 3 _ rfl
    have y4 := kh.cell 4 _ rfl
    have y5 := kh.cell 5 _ rfl
    have y6 := kh.cell 6 _ rfl
    have smi := small_of ki.out.small
    obtain ⟨hbg, hp1, hp2, _, _, _, _, _⟩ := right_base ki.out.right
    have hnx := lawNextS h l (.slice pu h.log.length cu) st.out.hu (Hlo.out.ext hb) (by omega) (by omega) (fun z hz => Nat.le_trans (log_in hbg z hz).2.2.2.2 (by decide)) ⟨hp1, hp2⟩
    have okx := nextS_ok l ki.out.right ki.out.small
    have nxx := nextS_next h l
    obtain ⟨g, hg⟩ : ∃ g, nextS h l = g := ⟨_, rfl⟩
    rw [hg] at hnx okx nxx
    have Okx := Lib.hid okx
    have Nxx := Lib.hid nxx
    have Hnx := Lib.hid hnx
    have Hg := Lib.hid hg
    clear okx nxx hnx hg smi hbg hp1 hp2 hend
    have Hdone := Lib.hid hdone
    have HLb := Lib.hid (show bL < wr.heap.size from kl.lt)
    clear hdone ml0 ml1 ml2 ml3 ml4 ml5 ml6 ml7 ml8 ml9 y0 y1 y2 y3 y4 y5 y6 kl kh hv hk
    go_upto_region 7 with (fail)
    go_cut [56] from 49 to 75 (fun q wi => q = .bool false ∧ wi = wr)
    case first =>
     rcases Hdone.out with ⟨hi4, hi5⟩ | hi4
     · go_wp2_with fail
       go_meet
       exact ⟨rfl, rfl⟩
     · go_wp2_with fail
       go_meet
       exact ⟨rfl, rfl⟩
    case rest =>
    obtain ⟨rfl, hwc⟩ := hcut
    rw [hwc]
    clear hwc wc
    have kl := bl.out.1
    have kh := st.out.kH
    have ml0 := kl.cell 0 _ rfl
    have ml1 := kl.cell 1 _ rfl
    have ml2 := kl.cell 2 _ rfl
    have ml3 := kl.cell 3 _ rfl
    have ml4 := kl.cell 4 _ rfl
    have ml5 := kl.cell 5 _ rfl
    have ml6 := kl.cell 6 _ rfl
    have ml7 := kl.cell 7 _ rfl
    have ml8 := kl.cell 8 _ rfl
    have ml9 := kl.cell 9 _ rfl
    have y0 := kh.cell 0 _ rfl
    have y1 := kh.cell 1 _ rfl
    have y2 := kh.cell 2 _ rfl
    have y3 := kh.cell 3 _ rfl
    have y4 := kh.cell 4 _ rfl
    have y5 := kh.cell 5 _ rfl
    have y6 := kh.cell 6 _ rfl
    go_wp2_with fail
    refine Hnx.out.mono ?_
    rintro e w5 ⟨u5, rfl, rd5, hor5, b5⟩
    obtain ⟨p5, c5, rfl⟩ := rd5.shape
    have b5s := b5.size
    have caG := below_alloc w5 (.cells #[.int .i64 g.term, .int .i64 g.vote, .int .i64 g.base, .int .i64 g.bterm, .int .i64 g.members, .string g.snap, .slice p5 g.log.length c5] 24)
    have kG5 := Blk.new w5 #[.int .i64 g.term, .int .i64 g.vote, .int .i64 g.base, .int .i64 g.bterm, .int .i64 g.members, .string g.snap, .slice p5 g.log.length c5] 24
    have hszG : (w5.alloc (.cells #[.int .i64 g.term, .int .i64 g.vote, .int .i64 g.base, .int .i64 g.bterm, .int .i64 g.members, .string g.snap, .slice p5 g.log.length c5] 24)).heap.size = w5.heap.size + 1 := by simp
    have bG : Below wr.heap.size wr (w5.alloc (.cells #[.int .i64 g.term, .int .i64 g.vote, .int .i64 g.base, .int .i64 g.bterm, .int .i64 g.members, .string g.snap, .slice p5 g.log.length c5] 24)) := b5.trans (caG.mono b5s)
    obtain ⟨X6, hX6⟩ : ∃ X6 : Nat → Prop, X6 = fun j => X j ∨ (wr.heap.size ≤ j ∧ j < w5.heap.size + 1) := ⟨_, rfl⟩
    have hx6 : ∀ j, X j → X6 j := fun j hj => by rw [hX6]; exact .inl hj
    have hx6n : ∀ j, wr.heap.size ≤ j → j < w5.heap.size + 1 → X6 j := fun j h1 h2 => by rw [hX6]; exact .inr ⟨h1, h2⟩
    have d6 : DwS w0 X6 gD d (w5.alloc (.cells #[.int .i64 g.term, .int .i64 g.vote, .int .i64 g.base, .int .i64 g.bterm, .int .i64 g.members, .string g.snap, .slice p5 g.log.length c5] 24)) := by
     rw [hX6]
     exact st.out.dd.more bG fun j hj => hj.imp id fun q => ⟨q.1, by omega⟩
    clear hX6
    have hugl : ∀ j, (Value.slice p5 g.log.length c5).ownBlock = some j → (j < w0.heap.size ∨ X6 j) ∧ j ≠ gs ∧ j ≠ gw := fun j hj => by
     rcases hor5 with ⟨e, _⟩ | e
     · rw [e] at hj
       refine ⟨(st.out.hux j hj).imp id (hx6 j), fun q => st.out.hus (by rw [hj, q]), fun q => st.out.hug (by rw [hj, q])⟩
     · have h1 := e j hj
       have h2 := st.out.sv.blk.lt
       have h3 := st.out.sv.wv.blk.lt
       exact ⟨.inr (hx6n j h1.1 (by omega)), by omega, by omega⟩
    have m6 : MemC w0 gD bL gH w5.heap.size (w5.alloc (.cells #[.int .i64 g.term, .int .i64 g.vote, .int .i64 g.base, .int .i64 g.bterm, .int .i64 g.members, .string g.snap, .slice p5 g.log.length c5] 24)) X6 d l h g (.slice pu h.log.length cu) (.slice p5 g.log.length c5) :=
     ⟨d6, hb.trans (bG.mono hb.size), bl.out.1.ext bG, st.out.kH.ext bG, kG5, hx6 _ bl.out.2, hx6 _ st.out.inX, hx6n _ b5s (by omega), st.out.hu.ext bG, rd5.ext caG, fun j hj => (st.out.hux j hj).imp id (hx6 j), fun j hj => (hugl j hj).1⟩
    have s6 : StoV (w5.alloc (.cells #[.int .i64 g.term, .int .i64 g.vote, .int .i64 g.base, .int .i64 g.bterm, .int .i64 g.members, .string g.snap, .slice p5 g.log.length c5] 24)) X6 gD gs gw v (stQ n h) := (st.out.sv.ext bG).mono hx6
    have hnn : ∀ j, j = bL ∨ j = gH ∨ j = w5.heap.size ∨ (Value.slice pu h.log.length cu).ownBlock = some j ∨ (Value.slice p5 g.log.length c5).ownBlock = some j → j ≠ gs ∧ j ≠ gw := by
     have h2 := st.out.sv.blk.lt
     have h3 := st.out.sv.wv.blk.lt
     rintro j (rfl | rfl | rfl | hj | hj)
     · exact HLg.out
     · exact ⟨st.out.neS, st.out.ne⟩
     · omega
     · exact ⟨fun q => st.out.hus (by rw [hj, q]), fun q => st.out.hug (by rw [hj, q])⟩
     · exact (hugl j hj).2
    have hgs0 := st.out.gs0
    have hgw0 := st.out.gw0
    have M6 := Lib.hid m6
    have S6 := Lib.hid s6
    have Hnn := Lib.hid hnn
    have Hugl := Lib.hid hugl
    clear m6 s6 hnn hugl d6 hx6 hx6n bG hszG kG5 caG b5 b5s rd5 hor5 st bl Hnx ml0 ml1 ml2 ml3 ml4 ml5 ml6 ml7 ml8 ml9 y0 y1 y2 y3 y4 y5 y6 kl kh HLb
    go_wp2_with fail
    generalize w5.alloc (.cells #[.int .i64 g.term, .int .i64 g.vote, .int .i64 g.base, .int .i64 g.bterm, .int .i64 g.members, .string g.snap, .slice p5 g.log.length c5] 24) = w6 at *
    generalize w5.heap.size = gG at *
    refine (withinCalls cut 0 9 _ (by decide) (by omega) (by omega)).mono ?_
    rintro e w6x ⟨rfl, rfl⟩
    have hcu := within_bounds cut 0 9 (by omega)
    obtain ⟨cn, hcn⟩ : ∃ cn, cn = within cut 0 9 := ⟨_, rfl⟩
    rw [← hcn] at hcu ⊢
    clear hcn
    have hcu2 := hcu.2
    have Hcu := Lib.hid (show cn ≤ 9223372036854775807 by omega)
    clear hcu hcu2
    go_wp2_with fail
    refine (lArm M6.out.dd cn).mono ?_
    rintro e w7 ⟨rfl, d7, c7⟩
    have m7 := M6.out.chg (fun _ h => h) d7 c7
    have s7 := S6.out.keep c7
    obtain ⟨E, st', d8, hE⟩ : ∃ E st' d8, saveP (armD d cn) (stQ n h) g = (E, st', d8) := ⟨_, _, _, rfl⟩
    have fin := ki.out.cut (by omega) Hcu.out Okx.out.1 Okx.out.2 Nxx.out hE
    have Fin := Lib.hid fin
    have HE := Lib.hid hE
    have Pia := Lib.hid (ki.out.inv.arm0 Hcu.out)
    clear fin hE d7 c7 M6 S6
    have kg := m7.kG
    have gg0 := kg.cell 0 _ rfl
    have gg1 := kg.cell 1 _ rfl
    have gg2 := kg.cell 2 _ rfl
    have gg3 := kg.cell 3 _ rfl
    have gg4 := kg.cell 4 _ rfl
    have gg5 := kg.cell 5 _ rfl
    have gg6 := kg.cell 6 _ rfl
    have M7 := Lib.hid m7
    have S7 := Lib.hid s7
    clear m7 s7 kg
    go_wp2_with fail
    refine (stoSave Tn.out M7.out.dd M7.out.hb hgw0 hgs0 Pia.out (by omega) S7.out g (.slice p5 g.log.length c5) M7.out.rg (fun _ => M7.out.xg) (fun _ q => (Hugl.out gw q).2.2 rfl) HE.out).mono ?_
    rintro e w9 ⟨rfl, X9, v9, hx9, -, d9, -, c9, -⟩
    have m9 := M7.out.saved hx9 d9 c9 hgs0 hgw0 Hnn.out
    have M9 := Lib.hid m9
    have hb9 := m9.hb
    clear m9 hx9 d9 c9 M7 S7 Pia HE gg0 gg1 gg2 gg3 gg4 gg5 gg6 hb Hnn Hugl
    go_wp2_with fail
    go_loopw [16] (fun ti wr => ∃ (j : Nat) (dj : Dk) (Xj : Nat → Prop), j ≤ ag.length ∧ j ≤ 4 ∧ ti = .int .i64 (j : Int) ∧ Hid (FineS (2 * (k + 1) + 4) dj (fun y => y = g ∨ (E ≠ 0 ∧ SomeE y h g))) ∧ Hid (MemC w0 gD bL gH gG wr Xj dj l h g (.slice pu h.log.length cu) (.slice p5 g.log.length c5))) (fun ti _ => ag.length - (intOf ti).toNat)
    case atStart => exact ⟨0, d8, X9, by omega, by omega, rfl, Fin, M9⟩
    case round =>
     clear Fin M9 hb9
     obtain ⟨j, dj, Xj, hj, hj4, rfl, fi, mm⟩ := hrel
     have hj0 : (0 : Int) ≤ (j : Int) := by omega
     have hbj := mm.out.hb
     have klj := mm.out.kL
     have z9 := klj.cell 9 _ rfl
     by_cases hend : j < ag.length ∧ j < 4
     · obtain ⟨hlt, hlt4⟩ := hend
       have hi4 : (j : Int) < (ag.length : Int) := by omega
       have hi5 : decide ((j : Int) < 4) = true := by simp; omega
       have hcr := lCrash mm.out.dd (fi.out.inv.ok (by omega)) (rfl : crashD dj l.picks = crashD dj l.picks) (Hlo.out.picks.ext mm.out.hb) (fun hne q hq => .inl (intsQ_in Hlo.out.picks hne q hq)) Hlo.out.hi
       have Hcr := Lib.hid hcr
       clear hcr klj
       go_wp2_with fail
       refine Hcr.out.mono ?_
       rintro e wa ⟨rfl, da, ca'⟩
       have ma := mm.out.chg (fun _ h => h) da ca'
       have hra := hag.ext ma.hb
       obtain ⟨ba, oa, rfl⟩ := Rd.blk hag (by omega)
       have za : wa.cell? ⟨ba, oa + j, none⟩ = some (.int .i64 ag[j]) := by
        have := hra.at_ hlt 0 (by decide)
        simpa [intsE] using this
       have Ma := Lib.hid ma
       clear ma da ca' hra Hcr mm z9 hbj
       generalize ag[j] = ax at *
       go_wp2_with fail
       refine (withinCalls ax 0 5 _ (by decide) (by omega) (by omega)).mono ?_
       rintro e wb ⟨rfl, rfl⟩
       have hcu := within_bounds ax 0 5 (by omega)
       obtain ⟨cm, hcm⟩ : ∃ cm, cm = within ax 0 5 := ⟨_, rfl⟩
       rw [← hcm] at hcu ⊢
       clear hcm
       have hcu2 := hcu.2
       have Hcm := Lib.hid (show cm ≤ 9223372036854775807 by omega)
       clear hcu hcu2 za
       go_wp2_with fail
       refine (lArm Ma.out.dd cm).mono ?_
       rintro e wc' ⟨rfl, dc, cc⟩
       have mc := Ma.out.chg (fun _ h => h) dc cc
       have Mc := Lib.hid mc
       clear mc dc cc Ma
       obtain ⟨Eo, oo, do', hoo⟩ : ∃ Eo oo do', openP (armD (crashD dj l.picks) cm) = (Eo, oo, do') := ⟨_, _, _, rfl⟩
       have fi2 := fi.out.step l.picks Hcm.out
       rw [hoo] at fi2
       have ho := stoOpen Tn.out Mc.out.dd Mc.out.hb ((fi.out.inv.crash0 l.picks).arm0 Hcm.out) (by omega) hoo
       have Fi2 := Lib.hid fi2
       have Ho := Lib.hid ho
       clear fi2 ho hoo fi
       go_wp2_with fail
       refine Ho.out.mono ?_
       rintro e we ⟨ho, de, ce⟩
       have hee : ∃ tv, e = .returned (.tuple tv) := by
        cases oo with
        | none => exact ⟨_, ho.2⟩
        | some so => obtain ⟨_, _, _, _, q, _⟩ := ho; exact ⟨_, q⟩
       obtain ⟨tv, rfl⟩ := hee
       have me := Mc.out.chg (fun _ h => h) de ce
       have Me := Lib.hid me
       clear me de ce ho Ho Mc
       go_wp2_with fail
       go_roundw
       case rel => exact ⟨j + 1, do', Xj, by omega, by omega, by go_num, Fi2, Me⟩
       case measure => simp [intOf]; omega
     · have hdone : (j : Int) < (ag.length : Int) ∧ decide ((j : Int) < 4) = false ∨ ¬ (j : Int) < (ag.length : Int) := by
        rcases Nat.lt_or_ge j ag.length with hl | hl
        · exact .inl ⟨by omega, by simp; omega⟩
        · exact .inr (by omega)
       have Hdn := Lib.hid hdone
       have hcr := lCrash mm.out.dd (fi.out.inv.ok (by omega)) (rfl : crashD dj l.picks = crashD dj l.picks) (Hlo.out.picks.ext mm.out.hb) (fun hne q hq => .inl (intsQ_in Hlo.out.picks hne q hq)) Hlo.out.hi
       have Hcr := Lib.hid hcr
       clear hdone hcr klj hend hj hj4
       go_upto_region 16 with (fail)
       go_cut [93] from 86 to 108 (fun q wi => q = .bool false ∧ wi = wr)
       case first =>
        rcases Hdn.out with ⟨hi4, hi5⟩ | hi4
        · go_wp2_with fail
          go_meet
          exact ⟨rfl, rfl⟩
        · go_wp2_with fail
          go_meet
          exact ⟨rfl, rfl⟩
       case rest =>
       obtain ⟨rfl, hwc⟩ := hcut
       rw [hwc]
       clear hwc wc
       go_wp2_with fail
       refine Hcr.out.mono ?_
       rintro e wa ⟨rfl, da, ca'⟩
       have ma := mm.out.chg (fun _ h => h) da ca'
       have Ma := Lib.hid ma
       clear ma da ca' Hcr mm z9 hbj
       obtain ⟨n2, y, d3, ho3, hP, pi3, n4, d4, hs4⟩ := fi.out.last l.picks Okx.out.1 Okx.out.2 (cutQ_next Nxx.out)
       have Ho3 := Lib.hid ho3
       have HP := Lib.hid hP
       have Pi3 := Lib.hid pi3
       have Hs4 := Lib.hid hs4
       have Picr := Lib.hid (fi.out.inv.crash0 l.picks)
       clear ho3 hP pi3 hs4 fi
       go_wp2_with fail
       refine (stoOpen Tn.out Ma.out.dd Ma.out.hb Picr.out (by omega) Ho3.out).mono ?_
       rintro e wo ⟨⟨gt, gx, vx, Xx, rfl, hgt, hgx, hxx, -, dx, sx, -⟩, -, cx⟩
       have mx := Ma.out.chg hxx dx cx
       have hlt' := Ma.out.lt
       have hnx' : ∀ j, j = bL ∨ j = gH ∨ j = gG ∨ (Value.slice pu h.log.length cu).ownBlock = some j ∨ (Value.slice p5 g.log.length c5).ownBlock = some j → j ≠ gt ∧ j ≠ gx := fun j hj => by have := hlt' j hj; omega
       have hgt0 : w0.heap.size ≤ gt := Nat.le_trans Ma.out.hb.size hgt
       have hgx0 : w0.heap.size ≤ gx := Nat.le_trans Ma.out.hb.size hgx
       have Mx := Lib.hid mx
       have Sx := Lib.hid sx
       have HnX := Lib.hid hnx'
       clear mx sx hnx' hlt' dx cx hxx hgt hgx Ma Picr Ho3
       have hhd : Calls Tryz.prog 33 #[.pointer (some ⟨gt, 0, none⟩)] wo fun e w' => ∃ v', e = .returned (hrdA y v') ∧ OwnR etyE w' wo.heap.size 73 v' y.log ∧ Below wo.heap.size wo w' := stoHard Sx.out
       have Hhd := Lib.hid hhd
       clear hhd
       go_wp2_with fail
       refine Hhd.out.mono ?_
       rintro e w11 ⟨v11, rfl, own11, b11⟩
       obtain ⟨p11, c11, rfl⟩ := own11.rd.shape
       have caY := below_alloc w11 (.cells #[.int .i64 y.term, .int .i64 y.vote, .int .i64 y.base, .int .i64 y.bterm, .int .i64 y.members, .string y.snap, .slice p11 y.log.length c11] 24)
       have kY := Blk.new w11 #[.int .i64 y.term, .int .i64 y.vote, .int .i64 y.base, .int .i64 y.bterm, .int .i64 y.members, .string y.snap, .slice p11 y.log.length c11] 24
       have bY : Below wo.heap.size wo (w11.alloc (.cells #[.int .i64 y.term, .int .i64 y.vote, .int .i64 y.base, .int .i64 y.bterm, .int .i64 y.members, .string y.snap, .slice p11 y.log.length c11] 24)) := b11.trans (caY.mono b11.size)
       have rY := own11.rd.ext caY
       have mY := Mx.out.ext bY
       have sY := Sx.out.ext bY
       have MY := Lib.hid mY
       have SY := Lib.hid sY
       have kG := mY.kG
       have kH := mY.kH
       clear own11 b11 caY bY Hhd Mx Sx mY sY
       go_upto_region 26 with (fail)
       generalize w11.alloc (.cells #[.int .i64 y.term, .int .i64 y.vote, .int .i64 y.base, .int .i64 y.bterm, .int .i64 y.members, .string y.snap, .slice p11 y.log.length c11] 24) = wY at *
       generalize w11.heap.size = gY at *
       go_cut [140] from 126 (fun q wi => q = .bool false ∧ Below wY.heap.size wY wi)
       case first =>
        have ty0 := kY.cell 0 _ rfl
        have ty1 := kY.cell 1 _ rfl
        have ty2 := kY.cell 2 _ rfl
        have ty3 := kY.cell 3 _ rfl
        have ty4 := kY.cell 4 _ rfl
        have ty5 := kY.cell 5 _ rfl
        have ty6 := kY.cell 6 _ rfl
        have tg0 := kG.cell 0 _ rfl
        have tg1 := kG.cell 1 _ rfl
        have tg2 := kG.cell 2 _ rfl
        have tg3 := kG.cell 3 _ rfl
        have tg4 := kG.cell 4 _ rfl
        have tg5 := kG.cell 5 _ rfl
        have tg6 := kG.cell 6 _ rfl
        have th0 := kH.cell 0 _ rfl
        have th1 := kH.cell 1 _ rfl
        have th2 := kH.cell 2 _ rfl
        have th3 := kH.cell 3 _ rfl
        have th4 := kH.cell 4 _ rfl
        have th5 := kH.cell 5 _ rfl
        have th6 := kH.cell 6 _ rfl
        have hsm := refSame y g (.slice p11 y.log.length c11) (.slice p5 g.log.length c5) rY MY.out.rg
        by_cases hyg : y = g
        · rw [decide_eq_true hyg] at hsm
          have Hsm := Lib.hid hsm
          clear hsm hyg
          go_wp2_with fail
          refine Hsm.out.mono ?_
          rintro e w12 ⟨rfl, b12⟩
          go_wp2_with fail
          go_meet
          exact ⟨rfl, b12⟩
        · rw [decide_eq_false hyg] at hsm
          obtain ⟨hE0, hso⟩ : E ≠ 0 ∧ SomeE y h g := by
           rcases HP.out with q | q
           · exact absurd q hyg
           · exact q
          have hE0i : (E == 0) = false := by simpa using hE0
          have Hsm := Lib.hid hsm
          have Hso := Lib.hid hso.q
          clear hsm hyg hE0 hso ty0 ty1 ty2 ty3 ty4 ty5 ty6 tg0 tg1 tg2 tg3 tg4 tg5 tg6 th0 th1 th2 th3 th4 th5 th6
          go_upto_region 26 with (fail)
          have ty0 := kY.cell 0 _ rfl
          have ty1 := kY.cell 1 _ rfl
          have ty2 := kY.cell 2 _ rfl
          have ty3 := kY.cell 3 _ rfl
          have ty4 := kY.cell 4 _ rfl
          have ty5 := kY.cell 5 _ rfl
          have ty6 := kY.cell 6 _ rfl
          have tg0 := kG.cell 0 _ rfl
          have tg1 := kG.cell 1 _ rfl
          have tg2 := kG.cell 2 _ rfl
          have tg3 := kG.cell 3 _ rfl
          have tg4 := kG.cell 4 _ rfl
          have tg5 := kG.cell 5 _ rfl
          have tg6 := kG.cell 6 _ rfl
          have th0 := kH.cell 0 _ rfl
          have th1 := kH.cell 1 _ rfl
          have th2 := kH.cell 2 _ rfl
          have th3 := kH.cell 3 _ rfl
          have th4 := kH.cell 4 _ rfl
          have th5 := kH.cell 5 _ rfl
          have th6 := kH.cell 6 _ rfl
          go_wp2_with fail
          refine Hsm.out.mono ?_
          rintro e w12 ⟨rfl, b12⟩
          have rY2 := rY.ext b12
          have mY2 := MY.out.ext b12
          have kY2 := kY.ext b12
          have kG2 := mY2.kG
          have kH2 := mY2.kH
          have hsome := lawSome y h g (.slice p11 y.log.length c11) (.slice pu h.log.length cu) (.slice p5 g.log.length c5) rY2 mY2.rh mY2.rg Hso.out
          have Hsome := Lib.hid hsome
          clear ty0 ty1 ty2 ty3 ty4 ty5 ty6 tg0 tg1 tg2 tg3 tg4 tg5 tg6 th0 th1 th2 th3 th4 th5 th6 hsome rY2 mY2 Hsm
          have ty0 := kY2.cell 0 _ rfl
          have ty1 := kY2.cell 1 _ rfl
          have ty2 := kY2.cell 2 _ rfl
          have ty3 := kY2.cell 3 _ rfl
          have ty4 := kY2.cell 4 _ rfl
          have ty5 := kY2.cell 5 _ rfl
          have ty6 := kY2.cell 6 _ rfl
          have tg0 := kG2.cell 0 _ rfl
          have tg1 := kG2.cell 1 _ rfl
          have tg2 := kG2.cell 2 _ rfl
          have tg3 := kG2.cell 3 _ rfl
          have tg4 := kG2.cell 4 _ rfl
          have tg5 := kG2.cell 5 _ rfl
          have tg6 := kG2.cell 6 _ rfl
          have th0 := kH2.cell 0 _ rfl
          have th1 := kH2.cell 1 _ rfl
          have th2 := kH2.cell 2 _ rfl
          have th3 := kH2.cell 3 _ rfl
          have th4 := kH2.cell 4 _ rfl
          have th5 := kH2.cell 5 _ rfl
          have th6 := kH2.cell 6 _ rfl
          clear kY2 kG2 kH2
          go_wp2_with fail
          refine Hsome.out.mono ?_
          rintro e w13 ⟨rfl, b13⟩
          go_wp2_with fail
          go_meet
          exact ⟨rfl, b12.trans (b13.mono b12.size)⟩
       case rest =>
       obtain ⟨rfl, bC⟩ := hcut
       obtain ⟨wz, hwz⟩ : ∃ z, z = wc := ⟨_, rfl⟩
       subst hwz
       have mz := MY.out.ext bC
       have sz := SY.out.ext bC
       have kg := mz.kG
       have gg0 := kg.cell 0 _ rfl
       have gg1 := kg.cell 1 _ rfl
       have gg2 := kg.cell 2 _ rfl
       have gg3 := kg.cell 3 _ rfl
       have gg4 := kg.cell 4 _ rfl
       have gg5 := kg.cell 5 _ rfl
       have gg6 := kg.cell 6 _ rfl
       have Mz := Lib.hid mz
       have Sz := Lib.hid sz
       clear mz sz kg kG kH kY rY MY SY bC HP
       go_wp2_with fail
       go_region_held3 (fun w' => w'.cell? ⟨gG, 0, none⟩ = some (.int .i64 g.term) ∧ w'.cell? ⟨gG, 1, none⟩ = some (.int .i64 g.vote) ∧ w'.cell? ⟨gG, 2, none⟩ = some (.int .i64 g.base) ∧ w'.cell? ⟨gG, 3, none⟩ = some (.int .i64 g.bterm) ∧ w'.cell? ⟨gG, 4, none⟩ = some (.int .i64 g.members) ∧ w'.cell? ⟨gG, 5, none⟩ = some (.string g.snap) ∧ w'.cell? ⟨gG, 6, none⟩ = some (.slice p5 g.log.length c5)) (go_keep)
        (first
         | (go_at_call 31; (refine (stoSave Tn.out (Mz.out.ext (below_drew _ _)).dd (Mz.out.ext (below_drew _ _)).hb hgx0 hgt0 Pi3.out (by omega) (Sz.out.ext (below_drew _ _)) g (.slice p5 g.log.length c5) (Mz.out.ext (below_drew _ _)).rg (fun _ => Mz.out.xg) (fun _ q => (HnX.out gx (.inr (.inr (.inr (.inr q))))).2 rfl) Hs4.out).mono ?_); rintro e wf ⟨rfl, Xf, vf, hxf, -, df, sf, cf, -⟩; (have mf := (Mz.out.ext (below_drew _ _)).saved hxf df cf hgt0 hgx0 HnX.out); (have kf := mf.kG); (have qa0 := kf.cell 0 _ rfl); (have qa1 := kf.cell 1 _ rfl); (have qa2 := kf.cell 2 _ rfl); (have qa3 := kf.cell 3 _ rfl); (have qa4 := kf.cell 4 _ rfl); (have qa5 := kf.cell 5 _ rfl); (have qa6 := kf.cell 6 _ rfl))
         | (go_at_call 33; (refine (stoHard sf).mono ?_); rintro e wg ⟨vg, rfl, own28, b28⟩; (have mg := mf.ext b28); (have kg := mg.kG); (have qb0 := kg.cell 0 _ rfl); (have qb1 := kg.cell 1 _ rfl); (have qb2 := kg.cell 2 _ rfl); (have qb3 := kg.cell 3 _ rfl); (have qb4 := kg.cell 4 _ rfl); (have qb5 := kg.cell 5 _ rfl); (have qb6 := kg.cell 6 _ rfl))
         | (go_at_call 20; (refine (refSame g g vg _ own28.rd mg.rg).mono ?_); rintro e wh ⟨rfl, bh⟩; (have mh := mg.ext bh); (have kh := mh.kG); (have qc0 := kh.cell 0 _ rfl); (have qc1 := kh.cell 1 _ rfl); (have qc2 := kh.cell 2 _ rfl); (have qc3 := kh.cell 3 _ rfl); (have qc4 := kh.cell 4 _ rfl); (have qc5 := kh.cell 5 _ rfl); (have qc6 := kh.cell 6 _ rfl))
         | (go_at_call 35; (refine (storeRuns_walk _ (Tn.out _ mh.hb)).mono ?_); rintro e wi ⟨rfl, bi⟩; (have mi := mh.ext bi); (have kI := mi.kG); (have qd0 := kI.cell 0 _ rfl); (have qd1 := kI.cell 1 _ rfl); (have qd2 := kI.cell 2 _ rfl); (have qd3 := kI.cell 3 _ rfl); (have qd4 := kI.cell 4 _ rfl); (have qd5 := kI.cell 5 _ rfl); (have qd6 := kI.cell 6 _ rfl)))
       have hbF := mi.hb
       clear mf kf sf df cf hxf own28 b28 mg kg bh mh kh bi mi kI qa0 qa1 qa2 qa3 qa4 qa5 qa6 qb0 qb1 qb2 qb3 qb4 qb5 qb6 qc0 qc1 qc2 qc3 qc4 qc5 qc6 qd0 qd1 qd2 qd3 qd4 qd5 qd6 gg0 gg1 gg2 gg3 gg4 gg5 gg6
       go_wp2_with fail
       go_ret
       exact ⟨rfl, hbF⟩

end Go.Proofs.YtgpgcnmnfnnkjaaGreatDoor
end
