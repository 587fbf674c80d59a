/- The walk of (*disk.Disk).Rename. -/
import Derived.Test.YtgpgcnmnfnnkjaaDoorGStoreRuns18
set_option linter.unusedVariables false
set_option linter.unusedSimpArgs false
section
namespace Go.Proofs.YtgpgcnmnfnnkjaaDoor
open Go Go.RowKit BigFrame Go.PlainAid
attribute [local go_sem] After.same
theorem keepAside {w w1 : World} {v v1 y : Value} {g B : Nat} {e : TypeId} {l : List UInt8} (hg : w.grownBy w1 v.ownBlock) (hy : OwnB w B e y l) (h3 : Apart v y) (h5 : y.ownBlock ≠ some g) : OwnB (w1.setCell ⟨g, 0, none⟩ v1) B e y l := by
 have h1 : OwnB w1 B e y l := Own.grown hy hg (by
  cases hq : y.ownBlock with
  | none => exact .inl rfl
  | some k => exact .inr fun e => h3.symm k hq e.symm)
 have c : Chg (fun k => k = g) w1 (w1.setCell ⟨g, 0, none⟩ v1) := Chg.setCell (F := fun k => k = g) (Chg.refl _ w1) (p := ⟨g, 0, none⟩) rfl v1
 exact c.ownB h1 fun k hk e => h5 (by rw [hk, e])
theorem Apart.same {v v1 y : Value} (h : Apart v y) (e : v1.ownBlock = v.ownBlock) : Apart v1 y := fun k hk => h k (by rw [← e, hk])
theorem pair_at {ys : List Ent} (h : ys.Pairwise (fun a b => Apart a.v b.v)) {j : Nat} (hj : j < ys.length) : ∀ x ∈ ys.take j ++ ys.drop (j + 1), Apart ys[j].v x.v := fun x hx => by
 rcases List.mem_append.1 hx with hx | hx
 · obtain ⟨i, hi, rfl⟩ := List.getElem_of_mem hx
   rw [List.length_take] at hi
   rw [List.getElem_take]
   exact (List.pairwise_iff_getElem.1 h i j (by omega) hj (by omega)).symm
 · obtain ⟨i, hi, rfl⟩ := List.getElem_of_mem hx
   rw [List.length_drop] at hi
   rw [List.getElem_drop]
   exact List.pairwise_iff_getElem.1 h j (j + 1 + i) hj (by omega) (by omega)
theorem moveD_at {l : List Fil} {k : Nat} (h : k < l.length) (sn : ByteArray) : moveD sn l k = putD (if 0 ≤ idxD (delD l k) sn then delD (delD l k) (idxD (delD l k) sn).toNat else delD l k) ⟨sn, l[k].data, l[k].kept⟩ := by
 unfold moveD; rw [List.getElem?_eq_getElem h]
theorem del_fil (ys : List Ent) (j : Nat) : (ys.take j ++ ys.drop (j + 1)).map Ent.fil = delD (ys.map Ent.fil) j := by
 unfold delD; rw [List.map_append, List.map_take, List.map_drop]
/-- between the taking out of a file and its putting in: the disk, and the file aside -/
def RenMid (wi : World) (G : Nat → Prop) (wa : World) (g N : Nat) (o a l : Value) (m : List Fil) (y : Ent) : Prop := ∃ v zs, DiskV wi (FF G wa wi) g v o a l zs ∧ zs.map Ent.fil = m ∧ zs.length ≤ 1000000 ∧ OwnB wi 0 5 y.v y.data ∧ Apart v y.v ∧ (∀ x ∈ zs, Apart y.v x.v) ∧ Blk wi N #[.string y.name, .slice y.p y.data.length y.c, .int .i64 (y.kept : Int)] 72 ∧ Chg G wa wi
set_option maxRecDepth 8000 in
set_option maxHeartbeats 4000000 in
theorem dskRename {F : Nat → Prop} {g : Nat} {d : Dk} {w : World} (hd : DiskAt w F g d) (ok : OkD d) (hfs : d.fs.length ≤ 1000000) (s sn : ByteArray) (hto : sn.size ≤ 4611686018427387904) :
 Calls Tryd.prog 85 #[.pointer (some ⟨g, 0, none⟩), .string s, .string sn] w fun e w' => e = .returned (.int .i64 (renameD d s sn).1) ∧ Und w F g (renameD d s sn).2 w' := by
 have hlt := hd.lt
 have hT := ok.tot
 have Hd := Lib.hid hd
 have hkn := dskKnown F g d s w hd
 have hnam := dskNamed sn w hto
 have c1 : w.cell? ⟨g, 1, none⟩ = some (.bool d.off) := by obtain ⟨v, ys, hv, _⟩ := hd.open_; exact hv.blk.cell 1 _ rfl
 cases hoff : d.off with
 | true =>
  have hk : knownD d s = (0, 18) := by unfold knownD; rw [if_pos hoff]
  have hr : renameD d s sn = (18, d) := by
   unfold renameD; rw [if_neg (fun h => by rw [hoff] at h; exact absurd h.1 (by decide))]
   rw [onD_no (by rw [hk]; decide), hk]
  rw [hr]
  rw [hk] at hkn
  rw [hoff] at c1
  clear hr hk hoff hnam
  go_enter Tryd.func85, Tryd.ntmps85
  go_wp2_with fail
  refine hkn.mono ?_
  rintro e w1 ⟨rfl, hb⟩
  have und1 := (Und.start Hd.out).ext hlt hb
  go_wp2_with fail
  go_ret
  exact ⟨rfl, und1⟩
 | false =>
  rw [hoff] at c1
  cases hnm : namedD sn with
  | false =>
   have hr : renameD d s sn = (19, d) := by unfold renameD; rw [if_pos ⟨hoff, hnm⟩]
   rw [hr]
   rw [hnm] at hnam
   clear hr hnm hoff hkn
   go_enter Tryd.func85, Tryd.ntmps85
   go_wp2_with (go_at_call 90; refine hnam.mono ?_; rintro e w' ⟨rfl, rfl⟩)
   go_ret
   exact ⟨rfl, Und.start Hd.out⟩
  | true =>
   have hr0 : renameD d s sn = onD d s fun l k => if eqS s sn then l else moveD sn l k := by unfold renameD; rw [if_neg (fun h => by rw [hnm] at h; exact absurd h.2 (by decide))]
   rw [hnm] at hnam
   clear hnm hoff
   rcases knownD_spec d s with ⟨hk, hk0⟩ | ⟨j, hj, hkj, hix⟩
   · have hr : renameD d s sn = ((knownD d s).2, d) := by rw [hr0]; exact onD_no hk
     rw [hr, hk0] at *
     generalize (knownD d s).2 = E at *
     have hE : (E == 0) = false := by simpa using hk
     have hE2 : (E != 0) = true := by simpa using hk
     clear hk hk0 hr hr0
     go_enter Tryd.func85, Tryd.ntmps85
     go_wp2_with fail
     refine hnam.mono ?_
     rintro e w' ⟨rfl, rfl⟩
     go_wp2_with fail
     refine hkn.mono ?_
     rintro e w1 ⟨rfl, hb⟩
     have und1 := (Und.start Hd.out).ext hlt hb
     go_wp2_with fail
     go_ret
     exact ⟨rfl, und1⟩
   · have hr : renameD d s sn = stepD d fun l => if eqS s sn then l else moveD sn l j := by rw [hr0]; exact onD_yes hkj hix
     have HR : Hid (((powD d).1 = false → renameD d s sn = (18, (powD d).2)) ∧ ((powD d).1 = true → renameD d s sn = (0, { (powD d).2 with fs := if eqS s sn then d.fs else moveD sn d.fs j }))) := ⟨fun h => by rw [hr]; exact stepD_no h, fun h => by rw [hr]; exact stepD_yes h⟩
     rw [hkj] at hkn
     have Hpf := Lib.hid (powD_fs d)
     clear hr hr0 hix hkj
     go_enter Tryd.func85, Tryd.ntmps85
     go_wp2_with fail
     refine hnam.mono ?_
     rintro e w' ⟨rfl, rfl⟩
     go_wp2_with fail
     refine hkn.mono ?_
     rintro e w1 ⟨rfl, hb⟩
     have hd1 := Hd.out.ext hb
     have hpow := dskPowerAt hd1 ok
     rw [powE_eq] at hpow
     go_wp2_with fail
     refine hpow.mono ?_
     rintro e w2 ⟨rfl, hd2, ch2⟩
     have chA : Chg F w w2 := (Chg.of_below hb).step ch2
     have undB : Und w F g (powD d).2 w2 := ⟨hd2.mono (fun _ => .inl) (FF_lt hlt (by have := hb.size; have := ch2.size; omega)), chA⟩
     clear hpow hd1 hd2 ch2 chA hb hkn hnam c1
     cases hpw : (powD d).1 with
     | false =>
      have hs := HR.out.1 hpw
      have Hs := Lib.hid hs
      clear hs hpw
      simp only [Bool.false_eq_true, if_false]
      go_wp2_with fail
      go_ret
      exact ⟨by rw [Hs.out]; rfl, by rw [Hs.out]; exact undB⟩
     | true =>
      have hs := HR.out.2 hpw
      clear hpw
      simp only [if_true]
      generalize hd1e : (powD d).2 = d1 at *
      clear hd1e
      cases heq : eqS s sn with
      | true =>
       rw [heq, if_pos rfl] at hs
       have hsm : ({ d1 with fs := d.fs } : Dk) = d1 := by rw [← Hpf.out]
       rw [hsm] at hs
       have Hs := Lib.hid hs
       clear hs hsm
       change (s.toList == sn.toList) = true at heq
       go_wp2_with fail
       go_ret
       exact ⟨by rw [Hs.out]; rfl, by rw [Hs.out]; exact undB⟩
      | false =>
       rw [heq, if_neg (by decide)] at hs
       rw [moveD_at hj] at hs
       have Hs := Lib.hid hs
       clear hs
       change (s.toList == sn.toList) = false at heq
       obtain ⟨v2, ys2, hv2, hy2⟩ := undB.1.open_
       have hyd : ys2.map Ent.fil = d.fs := by rw [hy2, Hpf.out]
       have Hyd := Lib.hid hyd
       have hjy : j < ys2.length := by rw [DiskV.len_eq hyd]; exact hj
       have hys : ys2.length ≤ 1000000 := by rw [DiskV.len_eq hyd]; exact hfs
       obtain ⟨gv, cap, rfl, _, _, hq1, hq2⟩ := hv2.fil.row.head (by omega)
       unfold maxLen at hq2
       have hji : (j : Int) < (ys2.length : Int) := by omega
       have hj0 : (0 : Int) ≤ (j : Int) := by omega
       have hmem : ys2[j] ∈ ys2 := List.getElem_mem hjy
       have hdat := hv2.fil.data _ hmem
       have c20 : w2.cell? ⟨gv, j * 3, none⟩ = some (.string ys2[j].name) := hv2.fil.row.cellAt rfl j hjy 0 (by decide)
       have c21 : w2.cell? ⟨gv, j * 3 + 1, none⟩ = some (.slice ys2[j].p ys2[j].data.length ys2[j].c) := hv2.fil.row.cellAt rfl j hjy 1 (by decide)
       have c22 : w2.cell? ⟨gv, j * 3 + 2, none⟩ = some (.int .i64 ((ys2[j]).kept : Int)) := hv2.fil.row.cellAt rfl j hjy 2 (by decide)
       have hpa := pair_at hv2.fil.apart hjy
       have hpo := hv2.fil.off _ hmem
       have hpF := hv2.fil.inF _ hmem
       have hpg := hv2.yg _ hmem
       have Hfj : Hid (∀ h : j < d.fs.length, d.fs[j] = ys2[j].fil) := fun h => by simp only [← Hyd.out, List.getElem_map]
       generalize ys2[j] = y at *
       clear hy2 hyd hmem
       have cbx := below_alloc w2 (.cells #[.string y.name, .slice y.p y.data.length y.c, .int .i64 (y.kept : Int)] 72)
       have kbx := Blk.new w2 #[.string y.name, .slice y.p y.data.length y.c, .int .i64 (y.kept : Int)] 72
       have hGlt := hv2.lt
       have k0 := hv2.blk.cell 0 _ rfl
       go_upto_region 9 with (fail)
       clear c20 c21 c22 k0
       generalize hwa : w2.alloc (.cells #[.string y.name, .slice y.p y.data.length y.c, .int .i64 (y.kept : Int)] 72) = wa at *
       clear hwa
       have hva := hv2.ext cbx
       have hdata := hdat.ext cbx
       have ch0 : Chg (FF F w w2) w2 wa := .of_below cbx
       have hNa := kbx.lt
       have hNG : ¬ (FF F w w2) w2.heap.size := fun h => Nat.lt_irrefl _ (hGlt _ h)
       clear hv2 hdat cbx
       have hdel := delFil 0 j _ ys2 wa hva.fil.row hjy (Nat.zero_le _)
       have hz := hva.datas.sub (del_sub ys2 j)
       have ka0 := hva.blk.cell 0 _ rfl
       go_wp2_with fail
       refine hdel.mono ?_
       rintro e w3 ⟨v3, rfl, own3, g3, _, hwh⟩
       have hput := hva.putRow g3 own3 (.inl hwh) hz
       have hy3 := keepAside (v1 := v3) (g := g) g3 hdata hpo hpg
       have hpo3 := hpo.same hwh
       have k3 : Blk w3 g _ _ := hva.blk.grown g3 hva.vg
       have c30 := k3.cell 0 _ rfl
       have f30 := k3.frozen 0
       have hzf : (ys2.take j ++ ys2.drop (j + 1)).map Ent.fil = delD d.fs j := by rw [del_fil, Hyd.out]
       have hzl : (ys2.take j ++ ys2.drop (j + 1)).length ≤ 1000000 := by rw [List.length_append, List.length_take, List.length_drop]; omega
       generalize ys2.take j ++ ys2.drop (j + 1) = zs at *
       have Hzf := Lib.hid hzf
       obtain ⟨p3, c3, rfl⟩ := own3.rd.shape
       clear hdel hz ka0 own3 g3 hwh hva hdata k3 hzf
       go_upto_region 10 with (fail)
       clear c30 f30
       obtain ⟨w4, hw4⟩ : ∃ z, z = w3.setCell ⟨g, 0, none⟩ (.slice p3 zs.length c3) := ⟨_, rfl⟩
       rw [← hw4] at hput hy3 ⊢
       clear hw4
       obtain ⟨hv4, ch4⟩ := hput
       have kb4 := ch4.blk kbx hNG
       have hfind := dskFind _ g { d1 with fs := delD d.fs j } sn w4 (hv4.at_ (d := { d1 with fs := delD d.fs j }) Hzf.out)
       have Hfin : Hid (∀ (X : Int), (idxD (delD d.fs j) sn = X) → (renameD d s sn = (0, { d1 with fs := putD (if 0 ≤ X then delD (delD d.fs j) X.toNat else delD d.fs j) ⟨sn, y.data, y.kept⟩ }))) := fun X hX => by rw [Hs.out, hX, Hfj.out hj]; rfl
       have kbA := kbx
       clear Hs kbx
       go_upto_if 61 with ((go_at_call 47; refine hfind.mono ?_; rintro e w5 ⟨rfl, hb5⟩))
       have hx0 : idxD ({ d1 with fs := delD d.fs j } : Dk).fs sn = idxD (delD d.fs j) sn := rfl
       rw [hx0]
       have hGlta : ∀ k, (FF F w w2) k → k < wa.heap.size := fun k hk => by have := hGlt k hk; omega
       have hv5' := DiskV.extU (F := FF F w w2) (w := wa) hv4 hGlta ch4.size hb5
       have hy5 := hy3.ext hb5
       have kb5 := kb4.ext hb5
       have ch5 : Chg (FF F w w2) wa w5 := ch4.step (.of_below hb5)
       clear hfind hb5 hv4 hy3 kb4 ch4 hx0
       obtain ⟨X, hX⟩ : ∃ X, idxD (delD d.fs j) sn = X := ⟨_, rfl⟩
       have Hr := Lib.hid (Hfin.out X hX)
       have HX := Lib.hid hX
       rw [hX]
       clear hX Hfin
       obtain ⟨m2, hm2⟩ : ∃ m2, m2 = (if 0 ≤ X then delD (delD d.fs j) X.toNat else delD d.fs j) := ⟨_, rfl⟩
       have Hm2 := Lib.hid hm2
       have hr := Hr.out
       rw [← hm2] at hr
       have Hr2 := Lib.hid hr
       clear hm2 hr Hr
       go_cut [] from 61 (fun wi => RenMid wi (FF F w w2) wa g w2.heap.size (.bool d1.off) (.bool (decide (0 ≤ d1.left))) (.int .i64 (max d1.left 0)) m2 y)
       case first =>
        rcases idxD_spec (delD d.fs j) sn with ⟨hx, _⟩ | ⟨k, hk, hx, _⟩
        · rw [HX.out] at hx
          subst hx
          have hm := Hm2.out
          rw [if_neg (by decide)] at hm
          have hmid : RenMid w5 (FF F w w2) wa g w2.heap.size (.bool d1.off) (.bool (decide (0 ≤ d1.left))) (.int .i64 (max d1.left 0)) m2 y :=
           ⟨_, zs, hv5', by rw [hm]; exact Hzf.out, hzl, hy5, hpo3, hpa, kb5, ch5⟩
          have Hmid := Lib.hid hmid
          clear hm hmid hv5' hy5 kb5 ch5
          go_wp2_with fail
          go_meet
          exact Hmid.out
        · rw [HX.out] at hx
          subst hx
          have hm := Hm2.out
          rw [if_pos (by omega), Int.toNat_natCast] at hm
          have Hm3 := Lib.hid hm
          have hkz : k < zs.length := by
           have h1 : zs.length = (delD d.fs j).length := by rw [← Hzf.out, List.length_map]
           omega
          have hk0 : (0 : Int) ≤ (k : Int) := by omega
          have hki : (k : Int) < (zs.length : Int) := by omega
          clear hm
          have hdel := delFil 0 k _ zs w5 hv5'.fil.row hkz (Nat.zero_le _)
          have hz := hv5'.datas.sub (del_sub zs k)
          have k50 := hv5'.blk.cell 0 _ rfl
          go_wp2_with fail
          refine hdel.mono ?_
          rintro e w6 ⟨v6, rfl, own6, g6, _, hwh⟩
          have hput := DiskV.seqU (F := FF F w w2) (w := wa) (hv5'.putRow g6 own6 (.inl hwh) hz) hGlta ch5
          have hy6 := keepAside (v1 := v6) (g := g) g6 hy5 hpo3 hpg
          have hpo6 := hpo3.same hwh
          have k6 : Blk w6 g _ _ := hv5'.blk.grown g6 hv5'.vg
          have c60 := k6.cell 0 _ rfl
          have f60 := k6.frozen 0
          have kb6 := hput.2.blk kbA hNG
          have hmid : RenMid (w6.setCell ⟨g, 0, none⟩ v6) (FF F w w2) wa g w2.heap.size (.bool d1.off) (.bool (decide (0 ≤ d1.left))) (.int .i64 (max d1.left 0)) m2 y :=
           ⟨v6, zs.take k ++ zs.drop (k + 1), hput.1, by rw [Hm3.out, del_fil, Hzf.out], by rw [List.length_append, List.length_take, List.length_drop]; omega, hy6, hpo6, fun x hx => hpa x ((del_sub zs k).subset hx), kb6, hput.2⟩
          generalize zs.take k ++ zs.drop (k + 1) = zs6 at *
          obtain ⟨p6, c6, rfl⟩ := own6.rd.shape
          have Hmid := Lib.hid hmid
          clear hmid hput hy6 hpo6 kb6 own6 g6 hwh hz hdel hv5' hy5 k6 k50
          go_wp2_with fail
          go_meet
          exact Hmid.out
       case rest =>
        obtain ⟨v6, zs6, hv6, hzf6, hzl6, hy6, hpo6, hpa6, kb6, ch6⟩ := hcut
        obtain ⟨w6, hw6⟩ : ∃ z, z = wc := ⟨_, rfl⟩
        subst hw6
        have Hzf6 := Lib.hid hzf6
        have b0 := kb6.cell 0 _ rfl
        have b1 := kb6.cell 1 _ rfl
        have b2 := kb6.cell 2 _ rfl
        have bf := kb6.frozen 0
        have kb7 := kb6.set 0 (.string sn)
        have m0 := kb7.cell 0 _ rfl
        have m1 := kb7.cell 1 _ rfl
        have m2' := kb7.cell 2 _ rfl
        have chN : Chg (fun k => k = w2.heap.size) w6 (w6.setCell ⟨w2.heap.size, 0, none⟩ (.string sn)) := Chg.setCell (F := fun k => k = w2.heap.size) (Chg.refl _ w6) (p := ⟨w2.heap.size, 0, none⟩) rfl _
        have hNG6 : ¬ (FF (FF F w w2) wa w6) w2.heap.size := fun h => by
         rcases h with h | h
         · exact hNG h
         · omega
        have hv7 := hv6.chg chN (fun k hk e => hNG6 (by rw [← e]; exact hk))
        have hy7 := chN.ownB hy6 (fun k hk e => hNG (by rw [← e]; exact hpF k hk))
        have hs7 : (w6.setCell ⟨w2.heap.size, 0, none⟩ (.string sn)).heap.size = w6.heap.size := by simp [World.setCell]
        have hput := dskPut (y := ⟨sn, y.p, y.c, y.data, y.kept⟩) hv7 hzl6 hy7 hpa6 hpo6 (fun k hk => .inl (hpF k hk)) hpg
        clear hzf6 hv6 kb6 kb7
        go_wp2_with fail
        refine hput.mono ?_
        rintro e w8 ⟨rfl, ⟨v8, hv8⟩, ch8⟩
        have s2 := undB.2.size
        have sA := ch0.size
        have s6 := ch6.size
        have s8 := ch8.size
        have hfinal : DiskV w8 (FF F w w8) g v8 _ _ _ _ := hv8.mono (fun k hk => by
         rcases hk with (((hk | hk) | hk) | hk)
         · exact .inl hk
         · exact .inr ⟨hk.1, by omega⟩
         · exact .inr ⟨by omega, by omega⟩
         · exact .inr ⟨by omega, hk.2⟩) (FF_lt hlt (by omega))
        have chw2 : Chg (FF F w w2) w2 w8 := ((ch0.step ch6).trans chN (fun k hk e => by omega)).trans ch8 (fun k hk h => by
         rcases h with h | h
         · exact h
         · omega)
        have hend : Und w F g (renameD d s sn).2 w8 := by
         rw [Hr2.out]
         refine ⟨hfinal.atFs ?_, undB.2.seq chw2⟩
         rw [insE_fil, Hzf6.out]; rfl
        have Hend := Lib.hid hend
        clear hend hfinal chw2 hv8 ch8
        go_wp2_with fail
        go_ret
        exact ⟨by rw [Hr2.out]; rfl, Hend.out⟩
end Go.Proofs.YtgpgcnmnfnnkjaaDoor
end
