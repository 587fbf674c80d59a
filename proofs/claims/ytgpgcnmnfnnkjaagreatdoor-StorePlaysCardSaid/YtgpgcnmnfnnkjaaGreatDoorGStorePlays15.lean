import Derived.Test.YtgpgcnmnfnnkjaaGreatDoorGStorePlays14
set_option linter.unusedVariables false
set_option linter.unusedSimpArgs false
set_option maxRecDepth 100000
set_option maxHeartbeats 16000000
namespace Go.Proofs.YtgpgcnmnfnnkjaaGreatDoor
section
open Go Go.RowKit BigFrame Go.PlainAid
attribute [local go_sem] After.same
theorem keepAside {w w1:World} {v v1 y:Value} {g B:Nat} {e:TypeId} {l:List UInt8} (hg:w.grownBy w1 v.ownBlock) (hy:OwnB w B e y l) (h3:Apart v y) (h5:y.ownBlock≠some g):OwnB (w1.setCell ⟨g,0,none⟩ v1) B e y l:=by
 have h1:OwnB w1 B e y l:=Own.grown hy hg (by
  cases hq:y.ownBlock with
  | none=>exact .inl rfl
  | some k=>exact .inr fun e=>h3.symm k hq e.symm)
 have c:Chg (fun k=>k=g) w1 (w1.setCell ⟨g,0,none⟩ v1):=Chg.setCell (F:=fun k=>k=g) (Chg.refl _ w1) (p:=⟨g,0,none⟩) rfl v1;exact c.ownB h1 fun k hk e=>h5 (by rw [hk,e])
theorem Apart.same {v v1 y:Value} (h:Apart v y) (e:v1.ownBlock=v.ownBlock):Apart v1 y:=fun k hk=>h k (by rw [←e,hk])
theorem pair_at {ys:List Ent} (h:ys.Pairwise (fun a b=>Apart a.v b.v)) {j:Nat} (hj:j<ys.length):∀ x ∈ ys.take j++ys.drop (j+1),Apart ys[j].v x.v:=fun x hx=>by
 rcases List.mem_append.1 hx with hx | hx
 ·obtain ⟨i,hi,rfl⟩:=List.getElem_of_mem hx;rw [List.length_take] at hi;rw [List.getElem_take];exact (List.pairwise_iff_getElem.1 h i j (by omega) hj (by omega)).symm
 ·obtain ⟨i,hi,rfl⟩:=List.getElem_of_mem hx;rw [List.length_drop] at hi;rw [List.getElem_drop];exact List.pairwise_iff_getElem.1 h j (j+1+i) hj (by omega) (by omega)
theorem moveD_at {l:List Fil} {k:Nat} (h:k<l.length) (sn:ByteArray):moveD sn l k=putD (if 0≤idxD (delD l k) sn then delD (delD l k) (idxD (delD l k) sn).toNat else delD l k) ⟨sn,l[k].data,l[k].kept⟩:=by
 unfold moveD;rw [List.getElem?_eq_getElem h]
theorem del_fil (ys:List Ent) (j:Nat):(ys.take j++ys.drop (j+1)).map Ent.fil=delD (ys.map Ent.fil) j:=by
 unfold delD;rw [List.map_append,List.map_take,List.map_drop]
def RenMid (wi:World) (G:Nat→Prop) (wa:World) (g N:Nat) (o a l:Value) (m:List Fil) (y:Ent):Prop:=∃ v zs,DiskV wi (FF G wa wi) g v o a l zs∧zs.map Ent.fil=m∧zs.length≤1000000∧OwnB wi 0 5 y.v y.data∧Apart v y.v∧(∀ x ∈ zs,Apart y.v x.v)∧Blk wi N #[.string y.name,.slice y.p y.data.length y.c,.int .i64 (y.kept:Int)] 96∧Chg G wa wi
theorem dskRename {F:Nat→Prop} {g:Nat} {d:Dk} {w:World} (hd:DiskAt w F g d) (ok:OkD d) (hfs:d.fs.length≤1000000) (s sn:ByteArray) (hto:sn.size≤4611686018427387904) :
 Calls Tryz.prog 140 #[.pointer (some ⟨g,0,none⟩),.string s,.string sn] w fun e w'=>e=.returned (.int .i64 (renameD d s sn).1)∧Und w F g (renameD d s sn).2 w':=by
 have hlt:=hd.lt;have hT:=ok.tot;have Hd:=Lib.hid hd;have hkn:=dskKnown F g d s w hd;have hnam:=dskNamed sn w hto;have c1:w.cell? ⟨g,1,none⟩=some (.bool d.off):=by obtain ⟨v,ys,hv,_⟩:=hd.open_;exact hv.blk.cell 1 _ rfl
 cases hoff:d.off with
 | true =>
  have hk:knownD d s=(0,18):=by unfold knownD;rw [if_pos hoff]
  have hr:renameD d s sn=(18,d):=by
   unfold renameD;rw [if_neg (fun h=>by rw [hoff] at h;exact absurd h.1 (by decide))];rw [onD_no (by rw [hk];decide),hk]
  rw [hr];rw [hk] at hkn;rw [hoff] at c1;clear hr hk hoff hnam;go_enter Tryz.func140,Tryz.ntmps140
  go_wp2_with fail
  refine hkn.mono ?_;rintro e w1 ⟨rfl,hb⟩;have und1:=(Und.start Hd.out).ext hlt hb;go_wp2_with fail
  go_ret
  exact ⟨rfl,und1⟩
 | false =>
  rw [hoff] at c1
  cases hnm:namedD sn with
  | false =>
   have hr:renameD d s sn=(19,d):=by unfold renameD;rw [if_pos ⟨hoff,hnm⟩]
   rw [hr];rw [hnm] at hnam;clear hr hnm hoff hkn;go_enter Tryz.func140,Tryz.ntmps140
   go_wp2_with (go_at_call 52;refine hnam.mono ?_;rintro e w' ⟨rfl,rfl⟩)
   go_ret
   exact ⟨rfl,Und.start Hd.out⟩
  | true =>
   have hr0:renameD d s sn=onD d s fun l k=>if eqS s sn then l else moveD sn l k:=by unfold renameD;rw [if_neg (fun h=>by rw [hnm] at h;exact absurd h.2 (by decide))]
   rw [hnm] at hnam;clear hnm hoff
   rcases knownD_spec d s with ⟨hk,hk0⟩ | ⟨j,hj,hkj,hix⟩
   ·have hr:renameD d s sn=((knownD d s).2,d):=by rw [hr0];exact onD_no hk
    rw [hr,hk0] at *;generalize (knownD d s).2=E at *;have hE:(E == 0)=false:=by simpa using hk
    have hE2:(E !=0)=true:=by simpa using hk
    clear hk hk0 hr hr0;go_enter Tryz.func140,Tryz.ntmps140
    go_wp2_with fail
    refine hnam.mono ?_;rintro e w' ⟨rfl,rfl⟩;go_wp2_with fail
    refine hkn.mono ?_;rintro e w1 ⟨rfl,hb⟩;have und1:=(Und.start Hd.out).ext hlt hb;go_wp2_with fail
    go_ret
    exact ⟨rfl,und1⟩
   ·have hr:renameD d s sn=stepD d fun l=>if eqS s sn then l else moveD sn l j:=by rw [hr0];exact onD_yes hkj hix
    have HR:Hid (((powD d).1=false→renameD d s sn=(18,(powD d).2))∧((powD d).1=true→renameD d s sn=(0,{ (powD d).2 with fs:=if eqS s sn then d.fs else moveD sn d.fs j }))):=⟨fun h=>by rw [hr];exact stepD_no h,fun h=>by rw [hr];exact stepD_yes h⟩;rw [hkj] at hkn;have Hpf:=Lib.hid (powD_fs d);clear hr hr0 hix hkj;go_enter Tryz.func140,Tryz.ntmps140
    go_wp2_with fail
    refine hnam.mono ?_;rintro e w' ⟨rfl,rfl⟩;go_wp2_with fail
    refine hkn.mono ?_;rintro e w1 ⟨rfl,hb⟩;have hd1:=Hd.out.ext hb;have hpow:=dskPowerAt hd1 ok;rw [powE_eq] at hpow;go_wp2_with fail
    refine hpow.mono ?_;rintro e w2 ⟨rfl,hd2,ch2⟩;have chA:Chg F w w2:=(Chg.of_below hb).step ch2;have undB:Und w F g (powD d).2 w2:=⟨hd2.mono (fun _=>.inl) (FF_lt hlt (by have:=hb.size;have:=ch2.size;omega)),chA⟩;clear hpow hd1 hd2 ch2 chA hb hkn hnam c1
    cases hpw:(powD d).1 with
    | false =>
     have hs:=HR.out.1 hpw;have Hs:=Lib.hid hs;clear hs hpw;simp only [Bool.false_eq_true,if_false]
     go_wp2_with fail
     go_ret
     exact ⟨by rw [Hs.out];rfl,by rw [Hs.out];exact undB⟩
    | true =>
     have hs:=HR.out.2 hpw;clear hpw;simp only [if_true]
     generalize hd1e:(powD d).2=d1 at *;clear hd1e
     cases heq:eqS s sn with
     | true =>
      rw [heq,if_pos rfl] at hs;have hsm:({ d1 with fs:=d.fs }:Dk)=d1:=by rw [←Hpf.out]
      rw [hsm] at hs;have Hs:=Lib.hid hs;clear hs hsm
      change (s.toList == sn.toList)=true at heq
      go_wp2_with fail
      go_ret
      exact ⟨by rw [Hs.out];rfl,by rw [Hs.out];exact undB⟩
     | false =>
      rw [heq,if_neg (by decide)] at hs;rw [moveD_at hj] at hs;have Hs:=Lib.hid hs;clear hs
      change (s.toList == sn.toList)=false at heq
      obtain ⟨v2,ys2,hv2,hy2⟩:=undB.1.open_;have hyd:ys2.map Ent.fil=d.fs:=by rw [hy2,Hpf.out]
      have Hyd:=Lib.hid hyd;have hjy:j<ys2.length:=by rw [DiskV.len_eq hyd];exact hj
      have hys:ys2.length≤1000000:=by rw [DiskV.len_eq hyd];exact hfs
      obtain ⟨gv,cap,rfl,_,_,hq1,hq2⟩:=hv2.fil.row.head (by omega);unfold maxLen at hq2;have hji:(j:Int)<(ys2.length:Int):=by omega
      have hj0:(0:Int)≤(j:Int):=by omega
      have hmem:ys2[j] ∈ ys2:=List.getElem_mem hjy;have hdat:=hv2.fil.data _ hmem;have c20:w2.cell? ⟨gv,j * 3,none⟩=some (.string ys2[j].name):=hv2.fil.row.cellAt rfl j hjy 0 (by decide);have c21:w2.cell? ⟨gv,j * 3+1,none⟩=some (.slice ys2[j].p ys2[j].data.length ys2[j].c):=hv2.fil.row.cellAt rfl j hjy 1 (by decide);have c22:w2.cell? ⟨gv,j * 3+2,none⟩=some (.int .i64 ((ys2[j]).kept:Int)):=hv2.fil.row.cellAt rfl j hjy 2 (by decide);have hpa:=pair_at hv2.fil.apart hjy;have hpo:=hv2.fil.off _ hmem;have hpF:=hv2.fil.inF _ hmem;have hpg:=hv2.yg _ hmem
      have Hfj:Hid (∀ h:j<d.fs.length,d.fs[j]=ys2[j].fil):=fun h=>by simp only [←Hyd.out,List.getElem_map]
      generalize ys2[j]=y at *;clear hy2 hyd hmem;have cbx:=below_alloc w2 (.cells #[.string y.name,.slice y.p y.data.length y.c,.int .i64 (y.kept:Int)] 96);have kbx:=Blk.new w2 #[.string y.name,.slice y.p y.data.length y.c,.int .i64 (y.kept:Int)] 96;have hGlt:=hv2.lt;have k0:=hv2.blk.cell 0 _ rfl;go_upto_region 9 with (fail)
      clear c20 c21 c22 k0;generalize hwa:w2.alloc (.cells #[.string y.name,.slice y.p y.data.length y.c,.int .i64 (y.kept:Int)] 96)=wa at *;clear hwa;have hva:=hv2.ext cbx;have hdata:=hdat.ext cbx;have ch0:Chg (FF F w w2) w2 wa:=.of_below cbx;have hNa:=kbx.lt;have hNG:¬ (FF F w w2) w2.heap.size:=fun h=>Nat.lt_irrefl _ (hGlt _ h);clear hv2 hdat cbx;have hdel:=delFil 0 j _ ys2 wa hva.fil.row hjy (Nat.zero_le _);have hz:=hva.datas.sub (del_sub ys2 j);have ka0:=hva.blk.cell 0 _ rfl;go_wp2_with fail
      refine hdel.mono ?_;rintro e w3 ⟨v3,rfl,own3,g3,_,hwh⟩;have hput:=hva.putRow g3 own3 (.inl hwh) hz;have hy3:=keepAside (v1:=v3) (g:=g) g3 hdata hpo hpg;have hpo3:=hpo.same hwh;have k3:Blk w3 g _ _:=hva.blk.grown g3 hva.vg;have c30:=k3.cell 0 _ rfl;have f30:=k3.frozen 0;have hzf:(ys2.take j++ys2.drop (j+1)).map Ent.fil=delD d.fs j:=by rw [del_fil,Hyd.out]
      have hzl:(ys2.take j++ys2.drop (j+1)).length≤1000000:=by rw [List.length_append,List.length_take,List.length_drop];omega
      generalize ys2.take j++ys2.drop (j+1)=zs at *;have Hzf:=Lib.hid hzf;obtain ⟨p3,c3,rfl⟩:=own3.rd.shape;clear hdel hz ka0 own3 g3 hwh hva hdata k3 hzf;go_upto_region 10 with (fail)
      clear c30 f30;obtain ⟨w4,hw4⟩:∃ z,z=w3.setCell ⟨g,0,none⟩ (.slice p3 zs.length c3):=⟨_,rfl⟩;rw [←hw4] at hput hy3 ⊢;clear hw4;obtain ⟨hv4,ch4⟩:=hput;have kb4:=ch4.blk kbx hNG;have hfind:=dskFind _ g { d1 with fs:=delD d.fs j } sn w4 (hv4.at_ (d:={ d1 with fs:=delD d.fs j }) Hzf.out);have Hfin:Hid (∀ (X:Int),(idxD (delD d.fs j) sn=X)→(renameD d s sn=(0,{ d1 with fs:=putD (if 0≤X then delD (delD d.fs j) X.toNat else delD d.fs j) ⟨sn,y.data,y.kept⟩ }))):=fun X hX=>by rw [Hs.out,hX,Hfj.out hj];rfl
      have kbA:=kbx;clear Hs kbx;go_upto_if 61 with ((go_at_call 55;refine hfind.mono ?_;rintro e w5 ⟨rfl,hb5⟩))
      have hx0:idxD ({ d1 with fs:=delD d.fs j }:Dk).fs sn=idxD (delD d.fs j) sn:=rfl;rw [hx0];have hGlta:∀ k,(FF F w w2) k→k<wa.heap.size:=fun k hk=>by have:=hGlt k hk;omega
      have hv5':=DiskV.extU (F:=FF F w w2) (w:=wa) hv4 hGlta ch4.size hb5;have hy5:=hy3.ext hb5;have kb5:=kb4.ext hb5;have ch5:Chg (FF F w w2) wa w5:=ch4.step (.of_below hb5);clear hfind hb5 hv4 hy3 kb4 ch4 hx0;obtain ⟨X,hX⟩:∃ X,idxD (delD d.fs j) sn=X:=⟨_,rfl⟩;have Hr:=Lib.hid (Hfin.out X hX);have HX:=Lib.hid hX;rw [hX];clear hX Hfin;obtain ⟨m2,hm2⟩:∃ m2,m2=(if 0≤X then delD (delD d.fs j) X.toNat else delD d.fs j):=⟨_,rfl⟩;have Hm2:=Lib.hid hm2;have hr:=Hr.out;rw [←hm2] at hr;have Hr2:=Lib.hid hr;clear hm2 hr Hr
      go_cut [] from 61 (fun wi=>RenMid wi (FF F w w2) wa g w2.heap.size (.bool d1.off) (.bool (decide (0≤d1.left))) (.int .i64 (max d1.left 0)) m2 y)
      case first =>
       rcases idxD_spec (delD d.fs j) sn with ⟨hx,_⟩ | ⟨k,hk,hx,_⟩
       ·rw [HX.out] at hx;subst hx;have hm:=Hm2.out;rw [if_neg (by decide)] at hm;have hmid:RenMid w5 (FF F w w2) wa g w2.heap.size (.bool d1.off) (.bool (decide (0≤d1.left))) (.int .i64 (max d1.left 0)) m2 y :=
         ⟨_,zs,hv5',by rw [hm];exact Hzf.out,hzl,hy5,hpo3,hpa,kb5,ch5⟩
        have Hmid:=Lib.hid hmid;clear hm hmid hv5' hy5 kb5 ch5;go_wp2_with fail
        go_meet
        exact Hmid.out
       ·rw [HX.out] at hx;subst hx;have hm:=Hm2.out;rw [if_pos (by omega),Int.toNat_natCast] at hm;have Hm3:=Lib.hid hm;have hkz:k<zs.length:=by
         have h1:zs.length=(delD d.fs j).length:=by rw [←Hzf.out,List.length_map]
         omega
        have hk0:(0:Int)≤(k:Int):=by omega
        have hki:(k:Int)<(zs.length:Int):=by omega
        clear hm;have hdel:=delFil 0 k _ zs w5 hv5'.fil.row hkz (Nat.zero_le _);have hz:=hv5'.datas.sub (del_sub zs k);have k50:=hv5'.blk.cell 0 _ rfl;go_wp2_with fail
        refine hdel.mono ?_;rintro e w6 ⟨v6,rfl,own6,g6,_,hwh⟩;have hput:=DiskV.seqU (F:=FF F w w2) (w:=wa) (hv5'.putRow g6 own6 (.inl hwh) hz) hGlta ch5;have hy6:=keepAside (v1:=v6) (g:=g) g6 hy5 hpo3 hpg;have hpo6:=hpo3.same hwh;have k6:Blk w6 g _ _:=hv5'.blk.grown g6 hv5'.vg;have c60:=k6.cell 0 _ rfl;have f60:=k6.frozen 0;have kb6:=hput.2.blk kbA hNG;have hmid:RenMid (w6.setCell ⟨g,0,none⟩ v6) (FF F w w2) wa g w2.heap.size (.bool d1.off) (.bool (decide (0≤d1.left))) (.int .i64 (max d1.left 0)) m2 y :=
         ⟨v6,zs.take k++zs.drop (k+1),hput.1,by rw [Hm3.out,del_fil,Hzf.out],by rw [List.length_append,List.length_take,List.length_drop];omega,hy6,hpo6,fun x hx=>hpa x ((del_sub zs k).subset hx),kb6,hput.2⟩
        generalize zs.take k++zs.drop (k+1)=zs6 at *;obtain ⟨p6,c6,rfl⟩:=own6.rd.shape;have Hmid:=Lib.hid hmid;clear hmid hput hy6 hpo6 kb6 own6 g6 hwh hz hdel hv5' hy5 k6 k50;go_wp2_with fail
        go_meet
        exact Hmid.out
      case rest =>
       obtain ⟨v6,zs6,hv6,hzf6,hzl6,hy6,hpo6,hpa6,kb6,ch6⟩:=hcut;obtain ⟨w6,hw6⟩:∃ z,z=wc:=⟨_,rfl⟩;subst hw6;have Hzf6:=Lib.hid hzf6;have b0:=kb6.cell 0 _ rfl;have b1:=kb6.cell 1 _ rfl;have b2:=kb6.cell 2 _ rfl;have bf:=kb6.frozen 0;have kb7:=kb6.set 0 (.string sn);have m0:=kb7.cell 0 _ rfl;have m1:=kb7.cell 1 _ rfl;have m2':=kb7.cell 2 _ rfl;have chN:Chg (fun k=>k=w2.heap.size) w6 (w6.setCell ⟨w2.heap.size,0,none⟩ (.string sn)):=Chg.setCell (F:=fun k=>k=w2.heap.size) (Chg.refl _ w6) (p:=⟨w2.heap.size,0,none⟩) rfl _;have hNG6:¬ (FF (FF F w w2) wa w6) w2.heap.size:=fun h=>by
        rcases h with h | h
        ·exact hNG h
        ·omega
       have hv7:=hv6.chg chN (fun k hk e=>hNG6 (by rw [←e];exact hk));have hy7:=chN.ownB hy6 (fun k hk e=>hNG (by rw [←e];exact hpF k hk));have hs7:(w6.setCell ⟨w2.heap.size,0,none⟩ (.string sn)).heap.size=w6.heap.size:=by simp [World.setCell]
       have hput:=dskPut (y:=⟨sn,y.p,y.c,y.data,y.kept⟩) hv7 hzl6 hy7 hpa6 hpo6 (fun k hk=>.inl (hpF k hk)) hpg;clear hzf6 hv6 kb6 kb7;go_wp2_with fail
       refine hput.mono ?_;rintro e w8 ⟨rfl,⟨v8,hv8⟩,ch8⟩;have s2:=undB.2.size;have sA:=ch0.size;have s6:=ch6.size;have s8:=ch8.size;have hfinal:DiskV w8 (FF F w w8) g v8 _ _ _ _:=hv8.mono (fun k hk=>by
        rcases hk with (((hk | hk) | hk) | hk)
        ·exact .inl hk
        ·exact .inr ⟨hk.1,by omega⟩
        ·exact .inr ⟨by omega,by omega⟩
        ·exact .inr ⟨by omega,hk.2⟩) (FF_lt hlt (by omega))
       have chw2:Chg (FF F w w2) w2 w8:=((ch0.step ch6).trans chN (fun k hk e=>by omega)).trans ch8 (fun k hk h=>by
        rcases h with h | h
        ·exact h
        ·omega)
       have hend:Und w F g (renameD d s sn).2 w8:=by
        rw [Hr2.out];refine ⟨hfinal.atFs ?_,undB.2.seq chw2⟩;rw [insE_fil,Hzf6.out];rfl
       have Hend:=Lib.hid hend;clear hend hfinal chw2 hv8 ch8;go_wp2_with fail
       go_ret
       exact ⟨by rw [Hr2.out];rfl,Hend.out⟩
end
section
open Go Go.RowKit Go.PlainAid
structure RefV (w:World) (F:Nat→Prop) (g:Nat) (v l o:Value) (ys:List Ent):Prop where
 blk:Blk w g #[v,l,o] 77
 fil:Files w F 87 v ys
 vg:v.ownBlock≠some g
 yg:∀ y ∈ ys,y.v.ownBlock≠some g
 inG:F g
 lt:∀ k,F k→k<w.heap.size
def RefAt (w:World) (F:Nat→Prop) (g:Nat) (d:Dk):Prop:=∃ v ys,RefV w F g v (.int .i64 d.left) (.bool d.off) ys∧ys.map Ent.fil=d.fs
theorem tRef:SlT Tryz.prog 75 87 3 48:=SlT.mk' (z:=.agg #[.string ⟨#[]⟩,.slice none 0 0,.int .i64 0]) Tryz.underlying75 (by kernel_rfl) rfl (by decide) (by decide)
section
variable {F G:Nat→Prop} {w w' w1 w2:World} {g:Nat} {v l o:Value} {ys zs:List Ent} {d d':Dk}
theorem RefV.chg (h:RefV w F g v l o ys) (hc:Chg G w w') (hd:∀ k,F k→¬ G k):RefV w' F g v l o ys :=
 ⟨hc.blk h.blk (hd g h.inG),h.fil.chg hc hd,h.vg,h.yg,h.inG,fun k hk=>Nat.lt_of_lt_of_le (h.lt k hk) hc.size⟩
theorem RefV.ext (h:RefV w F g v l o ys) (hb:Below w.heap.size w w'):RefV w' F g v l o ys:=h.chg (G:=fun _=>False) (.of_below hb) fun _ _ h=>h
theorem RefV.drew (h:RefV w F g v l o ys):RefV w.drew F g v l o ys:=h.ext ((Below.refl _ _).drew)
theorem RefV.mono (h:RefV w F g v l o ys) (hg:∀ k,F k→G k) (hl:∀ k,G k→k<w.heap.size):RefV w G g v l o ys:=⟨h.blk,h.fil.mono hg,h.vg,h.yg,hg g h.inG,hl⟩
theorem RefV.ff (h:RefV w1 F g v l o ys) (hs:w.heap.size≤w1.heap.size):RefV w1 (FF F w w1) g v l o ys:=h.mono (fun _=>.inl) fun k hk=>by
 rcases hk with h' | h'
 ·exact h.lt k h'
 ·exact h'.2
theorem RefV.setCell (h:RefV w F g v l o ys) (i:Nat) (u:Value) {l' o':Value} (he:(#[v,l,o]:Array Value).setIfInBounds i u=#[v,l',o']) :
 RefV (w.setCell ⟨g,i,none⟩ u) F g v l' o' ys∧Chg (fun k=>k=g) w (w.setCell ⟨g,i,none⟩ u):=by
 have hc:Chg (fun k=>k=g) w (w.setCell ⟨g,i,none⟩ u):=Chg.setCell (F:=fun k=>k=g) (Chg.refl _ w) (p:=⟨g,i,none⟩) rfl u;have hb:=h.blk.set i u;rw [he] at hb;refine ⟨⟨hb,⟨?_,?_,h.fil.apart,h.fil.off,h.fil.inV,h.fil.inF⟩,h.vg,h.yg,h.inG,fun k hk=>Nat.lt_of_lt_of_le (h.lt k hk) hc.size⟩,hc⟩
 ·exact hc.ownR h.fil.row fun k hk e=>h.vg (by rw [hk,e])
 ·exact fun y hy=>hc.ownB (h.fil.data y hy) fun k hk e=>h.yg y hy (by rw [hk,e])
theorem RefV.putRow (h:RefV w F g v l o ys) (hg:w.grownBy w1 v.ownBlock) {v1:Value} (own:OwnR entE w1 0 87 v1 zs) (hv:v1.ownBlock=v.ownBlock∨∀ n,v1.ownBlock=some n→w.heap.size≤n) (hz:Datas w F g v zs) :
 RefV (w1.setCell ⟨g,0,none⟩ v1) (FF F w (w1.setCell ⟨g,0,none⟩ v1)) g v1 l o zs∧Chg F w (w1.setCell ⟨g,0,none⟩ v1):=by
 have c1:Chg F w w1:=.of_grown hg h.fil.inV;have hc:Chg F w (w1.setCell ⟨g,0,none⟩ v1):=c1.setCell h.inG v1;have hs:(w1.setCell ⟨g,0,none⟩ v1).heap.size=w1.heap.size:=by simp [World.setCell]
 have hb1:Blk w1 g #[v,l,o] 77:=h.blk.grown hg h.vg;have hgl:g<w.heap.size:=h.lt g h.inG;have hv1g:v1.ownBlock≠some g:=by
  intro e
  rcases hv with hv | hv
  ·exact h.vg (by rw [←hv,e])
  ·have:=hv g e;omega
 have hcg:Chg (fun k=>k=g) w1 (w1.setCell ⟨g,0,none⟩ v1):=Chg.setCell (F:=fun k=>k=g) (Chg.refl _ w1) (p:=⟨g,0,none⟩) rfl v1;refine ⟨⟨hb1.set 0 v1,⟨?_,?_,hz.apart,?_,?_,?_⟩,hv1g,hz.yg,.inl h.inG,?_⟩,hc⟩
 ·exact hcg.ownR own fun k hk e=>hv1g (by rw [hk,e])
 ·intro y hy;refine hcg.ownB ?_ fun k hk e=>hz.yg y hy (by rw [hk,e]);refine Own.grown (hz.data y hy) hg ?_
  cases hq:y.v.ownBlock with
  | none=>exact .inl rfl
  | some k=>exact .inr fun e=>(hz.off y hy).symm k hq e.symm
 ·intro y hy k hk
  rcases hv with hv | hv
  ·exact hz.off y hy k (by rw [←hv,hk])
  ·intro e;have h1:=hv k hk;have h2:=h.lt k (hz.inF y hy k e);omega
 ·intro k hk
  rcases hv with hv | hv
  ·exact .inl (h.fil.inV k (by rw [←hv,hk]))
  ·exact .inr ⟨hv k hk,by rw [hs];exact (OwnR.lt own k hk).2⟩
 ·exact fun y hy k hk=>.inl (hz.inF y hy k hk)
 ·intro k hk
  rcases hk with hk | hk
  ·exact Nat.lt_of_lt_of_le (h.lt k hk) hc.size
  ·exact hk.2
theorem RefV.setEnt {gv n cap:Nat} (h:RefV w F g (.slice (some ⟨gv,0,none⟩) n cap) l o ys) {k:Nat} (hk:k<ys.length) {y:Ent} (c:Chg (fun b=>ys[k].v.ownBlock=some b) w w1) (ow:OwnB w1 0 5 y.v y.data)
 (hw:y.v.ownBlock=ys[k].v.ownBlock∨∀ n,y.v.ownBlock=some n→w.heap.size≤n) (row:OwnR entE w2 0 87 (.slice (some ⟨gv,0,none⟩) n cap) (ys.set k y)) (hg:w1.grownBy w2 (some gv)) :
 RefV w2 (FF F w w2) g (.slice (some ⟨gv,0,none⟩) n cap) l o (ys.set k y)∧Chg F w w2:=by
 have hmem:ys[k] ∈ ys:=List.getElem_mem hk;have c1:Chg F w w1:=c.mono fun b _ hb=>h.fil.inF _ hmem b hb;have c2:Chg (fun b=>b=gv) w1 w2:=.of_grown hg fun b hb=>by cases hb;rfl
 have hFv:F gv:=h.fil.inV gv rfl;have hc:Chg F w w2:=c1.trans c2 fun b _ hb=>by rw [hb];exact hFv
 have hgl:g<w.heap.size:=h.lt g h.inG;have hgvl:gv<w.heap.size:=h.lt gv hFv;have hvg:gv≠g:=fun e=>h.vg (by rw [e];rfl);have hyk:=h.yg _ hmem;have hyg:y.v.ownBlock≠some g:=by
  intro e
  rcases hw with hw | hw
  ·exact hyk (by rw [←hw,e])
  ·have:=hw g e;omega
 have hyv:y.v.ownBlock≠some gv:=by
  intro e
  rcases hw with hw | hw
  ·exact h.fil.off _ hmem gv rfl (by rw [←hw,e])
  ·have:=hw gv e;omega
 have hnew:∀ (j:Nat) (hj:j<ys.length),j≠k→Apart ys[j].v y.v:=fun j hj hjk b hb e=>by
  rcases hw with hw | hw
  ·have h1:Apart ys[j].v ys[k].v:=by
    rcases Nat.lt_or_gt_of_ne hjk with hlt | hgt
    ·exact List.pairwise_iff_getElem.1 h.fil.apart j k hj hk hlt
    ·exact (List.pairwise_iff_getElem.1 h.fil.apart k j hk hj hgt).symm
   exact h1 b hb (by rw [←hw,e])
  ·have h1:=hw b e;have h2:=h.lt b (h.fil.inF _ (List.getElem_mem hj) b hb);omega
 have hof:∀ z ∈ ys.set k y,z=y∨∃ (j:Nat) (hj:j<ys.length),j≠k∧z=ys[j]:=fun z hz=>by
  obtain ⟨j,hj,rfl⟩:=List.getElem_of_mem hz;rw [List.length_set] at hj;rw [List.getElem_set]
  by_cases e:k=j
  ·rw [if_pos e];exact .inl rfl
  ·rw [if_neg e];exact .inr ⟨j,hj,fun h=>e h.symm,rfl⟩
 refine ⟨⟨?_,⟨row,?_,?_,?_,?_,?_⟩,h.vg,?_,.inl h.inG,?_⟩,hc⟩
 ·exact c2.blk (c.blk h.blk (fun e=>hyk e)) (fun e=>hvg e.symm)
 ·intro z hz
  rcases hof z hz with rfl | ⟨j,hj,hjk,rfl⟩
  ·exact c2.ownB ow fun b hb e=>hyv (by rw [hb,e])
  ·refine c2.ownB (c.ownB (h.fil.data _ (List.getElem_mem hj)) fun b hb e=>?_) fun b hb e=>?_
   ·rcases Nat.lt_or_gt_of_ne hjk with hlt | hgt
    ·exact List.pairwise_iff_getElem.1 h.fil.apart j k hj hk hlt b hb e
    ·exact (List.pairwise_iff_getElem.1 h.fil.apart k j hk hj hgt) b e hb
   ·subst e;exact h.fil.off _ (List.getElem_mem hj) b rfl hb
 ·rw [List.pairwise_iff_getElem];intro i j hi hj hij;rw [List.length_set] at hi hj;rw [List.getElem_set,List.getElem_set]
  by_cases e1:k=i
  ·have e2:¬ k=j:=by omega
   rw [if_pos e1,if_neg e2];exact (hnew j hj (by omega)).symm
  ·rw [if_neg e1]
   by_cases e2:k=j
   ·rw [if_pos e2];exact hnew i hi (by omega)
   ·rw [if_neg e2];exact List.pairwise_iff_getElem.1 h.fil.apart i j hi hj hij
 ·intro z hz
  rcases hof z hz with rfl | ⟨j,hj,hjk,rfl⟩
  ·intro b hb e;cases hb;exact hyv e
  ·exact h.fil.off _ (List.getElem_mem hj)
 ·exact fun b hb=>.inl (h.fil.inV b hb)
 ·intro z hz b hb
  rcases hof z hz with rfl | ⟨j,hj,hjk,rfl⟩
  ·rcases hw with hw | hw
   ·exact .inl (h.fil.inF _ hmem b (by rw [←hw,hb]))
   ·exact .inr ⟨hw b hb,Nat.lt_of_lt_of_le (Own.lt ow b hb).2 c2.size⟩
  ·exact .inl (h.fil.inF _ (List.getElem_mem hj) b hb)
 ·intro z hz
  rcases hof z hz with rfl | ⟨j,hj,hjk,rfl⟩
  ·exact hyg
  ·exact h.yg _ (List.getElem_mem hj)
 ·intro b hb
  rcases hb with hb | hb
  ·exact Nat.lt_of_lt_of_le (h.lt b hb) hc.size
  ·exact hb.2
theorem RefV.datas (h:RefV w F g v l o ys):Datas w F g v ys:=⟨h.fil.data,h.fil.apart,h.fil.off,h.fil.inF,h.yg⟩
theorem RefV.at_ (h:RefV w F g v (.int .i64 d.left) (.bool d.off) ys) (hy:ys.map Ent.fil=d.fs):RefAt w F g d:=⟨v,ys,h,hy⟩
theorem RefV.atFs {l':List Fil} (h:RefV w F g v (.int .i64 d.left) (.bool d.off) ys) (hy:ys.map Ent.fil=l'):RefAt w F g { d with fs:=l' }:=⟨v,ys,h,hy⟩
theorem RefAt.inG (h:RefAt w F g d):F g:=by obtain ⟨v,ys,h,_⟩:=h;exact h.inG
theorem RefAt.lt (h:RefAt w F g d):∀ k,F k→k<w.heap.size:=by obtain ⟨v,ys,h,_⟩:=h;exact h.lt
theorem RefAt.chg (h:RefAt w F g d) (hc:Chg G w w') (hd:∀ k,F k→¬ G k):RefAt w' F g d:=by obtain ⟨v,ys,h,hy⟩:=h;exact ⟨v,ys,h.chg hc hd,hy⟩
theorem RefAt.ext (h:RefAt w F g d) (hb:Below w.heap.size w w'):RefAt w' F g d:=by obtain ⟨v,ys,h,hy⟩:=h;exact ⟨v,ys,h.ext hb,hy⟩
theorem RefAt.mono (h:RefAt w F g d) (hg:∀ k,F k→G k) (hl:∀ k,G k→k<w.heap.size):RefAt w G g d:=by obtain ⟨v,ys,h,hy⟩:=h;exact ⟨v,ys,h.mono hg hl,hy⟩
theorem RefAt.ff (h:RefAt w1 F g d) (hs:w.heap.size≤w1.heap.size):RefAt w1 (FF F w w1) g d:=by obtain ⟨v,ys,h,hy⟩:=h;exact ⟨v,ys,h.ff hs,hy⟩
theorem RefV.seqU (h:RefV w2 (FF (FF F w w1) w1 w2) g v l o ys∧Chg (FF F w w1) w1 w2) (h0:∀ k,F k→k<w.heap.size) (c:Chg F w w1):RefV w2 (FF F w w2) g v l o ys∧Chg F w w2 :=
 ⟨h.1.mono (fun k hk=>FF.seq h.2.size c.size hk) (FF_lt h0 (Nat.le_trans c.size h.2.size)),c.seq h.2⟩
def UndR (w:World) (F:Nat→Prop) (g:Nat) (d:Dk) (w':World):Prop:=RefAt w' (FF F w w') g d∧Chg F w w'
theorem UndR.start (h:RefAt w F g d):UndR w F g d w:=⟨h.ff (Nat.le_refl _),Chg.refl _ _⟩
theorem UndR.step (h:UndR w F g d w1) (h0:∀ k,F k→k<w.heap.size) (h2:UndR w1 (FF F w w1) g d' w2):UndR w F g d' w2 :=
 ⟨h2.1.mono (fun _ hk=>FF.seq h2.2.size h.2.size hk) (FF_lt h0 (Nat.le_trans h.2.size h2.2.size)),h.2.seq h2.2⟩
theorem UndR.ext (h:UndR w F g d w1) (h0:∀ k,F k→k<w.heap.size) (hb:Below w1.heap.size w1 w2):UndR w F g d w2 :=
 h.step h0 ⟨(h.1.ext hb).ff hb.size,.of_below hb⟩
end
end
section
open Go Go.RowKit BigFrame Go.PlainAid
attribute [local go_sem] After.same
theorem refNew (w:World):Calls Tryz.prog 10 #[] w fun e w'=>e=.returned (.pointer (some ⟨w.heap.size,0,none⟩))∧RefAt w' (fun k=>w.heap.size≤k∧k<w'.heap.size) w.heap.size dk0∧Below w.heap.size w w':=by
 have kb:=Blk.new w #[.slice none 0 0,.int .i64 (-1),.bool false] 77;have hz:RefAt (w.alloc (.cells #[.slice none 0 0,.int .i64 (-1),.bool false] 77)) (fun k=>w.heap.size≤k∧k<(w.alloc (.cells #[.slice none 0 0,.int .i64 (-1),.bool false] 77)).heap.size) w.heap.size dk0:=by
  refine RefV.at_ (v:=.slice none 0 0) (ys:=[]) ⟨kb,⟨OwnR.nil _ _ _,by simp,by simp,by simp,by simp [Value.ownBlock],by simp⟩,by simp [Value.ownBlock],by simp,⟨Nat.le_refl _,kb.lt⟩,fun k h=>h.2⟩ rfl
 have Hz:=Lib.hid hz;clear hz kb;go_enter Tryz.func10,Tryz.ntmps10
 go_wp2
 go_ret
 exact ⟨rfl,Hz.out,below_alloc _ _⟩
theorem empty_iff {s:ByteArray}:s.toList=[]↔s.size=0:=by
 rw [ByteArray.toList_eq]
 constructor
 ·intro h;have h2:=congrArg List.length h
  simpa using h2
 ·intro h
  apply List.eq_nil_of_length_eq_zero
  simpa using h
theorem refNamed (s:ByteArray) (w:World) (hs:s.size≤4611686018427387904):Calls Tryz.prog 57 #[.string s] w fun e w'=>e=.returned (.bool (namedD s))∧w=w':=by
 have hb:=get_bt s;have Hn:Hid (namedD s=((decide (1≤s.size) && decide (s.size≤24)) && allB s (s.size - 0) 0)):=rfl;go_enter Tryz.func57,Tryz.ntmps57
 by_cases h1:s.size=0
 ·have hnil:s.toList=[]:=empty_iff.2 h1;have e0:namedD s=false:=by rw [Hn.out,decide_eq_false (by omega)];rfl
  clear Hn;go_wp2
  go_ret
  exact ⟨ret_bool e0.symm,rfl⟩
 ·have hnil:(s.toList == [])=false:=beq_eq_false_iff_ne.2 (fun h=>h1 (empty_iff.1 h))
  by_cases h2:24<s.size
  ·have i2:(24:Int)<(s.size:Int):=by omega
   have e0:namedD s=false:=by rw [Hn.out,decide_eq_false (show ¬ s.size≤24 by omega)];simp
   clear Hn;go_wp2
   go_ret
   exact ⟨ret_bool e0.symm,rfl⟩
  ·have i2:¬ (24:Int)<(s.size:Int):=by omega
   have e0:Hid (namedD s=allB s (s.size - 0) 0):=by show _=_;rw [Hn.out,decide_eq_true (show 1≤s.size by omega),decide_eq_true (show s.size≤24 by omega)];rfl
   clear Hn;go_wp2
   go_loopw [3] (fun i wr=>∃ (k:Nat),i=.int .i64 k∧k≤s.size∧Hid (namedD s=allB s (s.size - k) k)∧wr=w) (fun i _=>s.size - (intOf i).toNat)
   case atStart=>exact ⟨0,rfl,by omega,e0,rfl⟩
   case round =>
    obtain ⟨k,rfl,hk,hrl,rfl⟩:=hrel
    by_cases hlt:k<s.size
    ·have hi:(k:Int)<(s.size:Int):=by omega
     have hst:=Lib.hid (allB_step hlt)
     by_cases h3:33≤bt s k
     ·by_cases h4:bt s k≤126
      ·have hnx:Hid (namedD s=allB s (s.size - (k+1)) (k+1)):=by show _=_;rw [hrl.out,hst.out];unfold okB;rw [decide_eq_true h3,decide_eq_true h4];rfl
       have h3n:¬ bt s k<33:=by omega
       have h4n:¬ 126<bt s k:=by omega
       clear hnil h1 h2 i2;go_wp2
       go_roundw
       case rel=>exact ⟨k+1,by go_num,by omega,hnx,by trivial⟩
       case measure=>simp [intOf];omega
      ·have hnx:namedD s=false:=by rw [hrl.out,hst.out];unfold okB;rw [decide_eq_true h3,decide_eq_false h4];rfl
       have h3n:¬ bt s k<33:=by omega
       have h4n:126<bt s k:=by omega
       have Hnx:=Lib.hid hnx;clear hnil h1 h2 i2 hnx;go_wp2
       go_ret
       exact ⟨ret_bool Hnx.out.symm,rfl⟩
     ·have hnx:namedD s=false:=by rw [hrl.out,hst.out];unfold okB;rw [decide_eq_false h3];rfl
      have h3n:bt s k<33:=by omega
      have Hnx:=Lib.hid hnx;clear hnil h1 h2 i2 hnx;go_wp2
      go_ret
      exact ⟨ret_bool Hnx.out.symm,rfl⟩
    ·have hend:=allB_end (s:=s) (k:=k) (by omega);have hi:¬ (k:Int)<(s.size:Int):=by omega
     clear hnil h1 h2 i2;go_wp2
     go_ret
     exact ⟨ret_bool (by rw [hrl.out,hend]),rfl⟩
theorem refAt {F:Nat→Prop} {g:Nat} {d:Dk} (s:ByteArray) (w:World) (hd:RefAt w F g d) :
 Calls Tryz.prog 51 #[.pointer (some ⟨g,0,none⟩),.string s] w fun e w'=>e=.returned (.int .i64 (idxD d.fs s))∧w=w':=by
 obtain ⟨v,ys,hv,hy⟩:=hd;have hx:placeBy (isN s) ys 0=idxD d.fs s:=by unfold idxD;rw [←hy];exact placeBy_map Ent.fil (isN s) (fun _=>rfl) ys 0
 rw [←hx];have rv:=hv.fil.row.rd;have c0:=hv.blk.cell 0 _ rfl;clear hv hy hx;obtain ⟨p,cap,rfl,h1,h2,h3,h4⟩:=rv.form;clear h3 h4;unfold maxLen at h2;go_enter Tryz.func51,Tryz.ntmps51
 go_wp2
 go_loopw [5] (fun i wr=>∃ k:Nat,k≤ys.length∧i=.int .i64 k∧Hid (placeBy (isN s) ys 0=placeBy (isN s) (ys.drop k) k)∧wr=w) (fun i _=>ys.length - (intOf i).toNat)
 case atStart=>exact ⟨0,by omega,rfl,rfl,rfl⟩
 case round =>
  obtain ⟨k,hk,rfl,hpl,rfl⟩:=hrel
  by_cases hlt:k<ys.length
  ·obtain ⟨b,off,rfl⟩:=Rd.blk rv (by omega);obtain ⟨e0,e1,e2⟩:=ent3 rv hlt;have hi:(k:Int)<(ys.length:Int):=by omega
   have hi0:(0:Int)≤(k:Int):=by omega
   have hhit:=Lib.hid (fun h=>placeBy_hit (p:=isN s) hlt h);have hmiss:=Lib.hid (fun h=>placeBy_miss (p:=isN s) hlt h);clear rv;generalize ys[k]=y at *
   cases hq:isN s y with
   | true =>
    have Hq:=Lib.hid hq;have hq2:y.name.toList=s.toList:=by simpa [isN,eqS] using hq
    clear hq;go_wp2
    go_ret
    exact ⟨ret_int (by rw [hpl.out,hhit.out Hq.out]),rfl⟩
   | false =>
    have Hq:=Lib.hid hq;have hq2:(y.name.toList == s.toList)=false:=hq;clear hq;go_wp2
    go_roundw
    case rel=>exact ⟨k+1,by omega,by go_num,hpl.out.trans (hmiss.out Hq.out),by trivial⟩
    case measure=>simp [intOf];omega
  ·have hi:¬ (k:Int)<(ys.length:Int):=by omega
   go_wp2
   go_ret
   exact ⟨ret_int (by rw [hpl.out,placeBy_end (by omega)]),rfl⟩
theorem refPower {F:Nat→Prop} {g:Nat} {d:Dk} {w:World} (hd:RefAt w F g d) (h1 : -1≤d.left) (h2:d.left≤9223372036854775807) :
 Calls Tryz.prog 59 #[.pointer (some ⟨g,0,none⟩)] w fun e w'=>e=.returned (.bool (powD d).1)∧RefAt w' F g (powD d).2∧Chg F w w':=by
 obtain ⟨v,ys,hv,hy⟩:=hd;have c1:=hv.blk.cell 1 _ rfl;have c2:=hv.blk.cell 2 _ rfl;have f1:=hv.blk.frozen 1;have f2:=hv.blk.frozen 2
 rcases Int.lt_trichotomy d.left 0 with h | h | h
 ·have hz:RefAt w F g (powD d).2∧Chg F w w:=by
   refine ⟨⟨v,ys,?_,?_⟩,Chg.refl _ _⟩
   ·have e:powD d=(true,{ d with left:=d.left }):=by unfold powD;rw [if_neg (by omega),if_neg (by omega)]
    rw [e];exact hv
   ·rw [powD_fs];exact hy
  have e1:(powD d).1=true:=by unfold powD;rw [if_neg (by omega)]
  rw [e1];have Hz:=Lib.hid hz;have n1:¬ d.left=0:=by omega
  have n2:¬ 0<d.left:=by omega
  clear hz e1 hv hy h;generalize d.left=n at *;go_enter Tryz.func59,Tryz.ntmps59
  go_wp2
  go_ret
  exact ⟨rfl,Hz.out.1,Hz.out.2⟩
 ·have s1:=hv.setCell 2 (.bool true) rfl;have hz:RefAt (w.setCell ⟨g,2,none⟩ (.bool true)) F g (powD d).2∧Chg F w (w.setCell ⟨g,2,none⟩ (.bool true)):=by
   refine ⟨⟨v,ys,?_,?_⟩,s1.2.mono fun k _ hk=>by rw [hk];exact hv.inG⟩
   ·have e:powD d=(false,{ d with off:=true }):=by unfold powD;rw [if_pos h]
    rw [e];exact s1.1
   ·rw [powD_fs];exact hy
  have e1:(powD d).1=false:=by unfold powD;rw [if_pos h]
  rw [e1];have Hz:=Lib.hid hz;clear hz e1 hv hy s1;generalize d.left=n at *;subst h;go_enter Tryz.func59,Tryz.ntmps59
  go_wp2
  go_ret
  exact ⟨rfl,Hz.out.1,Hz.out.2⟩
 ·have s1:=hv.setCell 1 (.int .i64 (d.left - 1)) rfl;have hz:RefAt (w.setCell ⟨g,1,none⟩ (.int .i64 (d.left - 1))) F g (powD d).2∧Chg F w (w.setCell ⟨g,1,none⟩ (.int .i64 (d.left - 1))):=by
   refine ⟨⟨v,ys,?_,?_⟩,s1.2.mono fun k _ hk=>by rw [hk];exact hv.inG⟩
   ·have e:powD d=(true,{ d with left:=d.left - 1 }):=by unfold powD;rw [if_neg (by omega),if_pos h]
    rw [e];exact s1.1
   ·rw [powD_fs];exact hy
  have e1:(powD d).1=true:=by unfold powD;rw [if_neg (by omega)]
  rw [e1];have Hz:=Lib.hid hz;have n1:¬ d.left=0:=by omega
  clear hz e1 hv hy s1;generalize d.left=n at *;go_enter Tryz.func59,Tryz.ntmps59
  go_wp2
  go_ret
  exact ⟨rfl,Hz.out.1,Hz.out.2⟩
theorem refArm {F:Nat→Prop} {g:Nat} {d:Dk} {w:World} (hd:RefAt w F g d) (n:Int) :
 Calls Tryz.prog 27 #[.pointer (some ⟨g,0,none⟩),.int .i64 n] w fun e w'=>e=.returned (.tuple #[])∧RefAt w' F g (armD d n)∧Chg F w w':=by
 obtain ⟨v,ys,hv,hy⟩:=hd;have f1:=hv.blk.frozen 1;have c1:=hv.blk.cell 1 _ rfl;have main:∀ m:Int,(armD d n).left=m→RefAt (w.setCell ⟨g,1,none⟩ (.int .i64 m)) F g (armD d n)∧Chg F w (w.setCell ⟨g,1,none⟩ (.int .i64 m)):=fun m hm=>by
  have s1:=hv.setCell 1 (.int .i64 m) rfl;refine ⟨⟨v,ys,?_,hy⟩,s1.2.mono fun k _ hk=>by rw [hk];exact hv.inG⟩;rw [hm];exact s1.1
 by_cases h:n<0
 ·have Hz:=Lib.hid (main (-1) (if_pos h));clear main hv;go_enter Tryz.func27,Tryz.ntmps27
  go_wp2
  go_end0
  exact ⟨rfl,Hz.out.1,Hz.out.2⟩
 ·have Hz:=Lib.hid (main n (if_neg h));clear main hv;go_enter Tryz.func27,Tryz.ntmps27
  go_wp2
  go_end0
  exact ⟨rfl,Hz.out.1,Hz.out.2⟩
theorem refTotal {F:Nat→Prop} {g:Nat} {d:Dk} {w:World} (hd:RefAt w F g d) (ht:totD d.fs≤4611686018427387904) :
 Calls Tryz.prog 58 #[.pointer (some ⟨g,0,none⟩)] w fun e w'=>e=.returned (.int .i64 (totD d.fs))∧w=w':=by
 obtain ⟨v,ys,hv,hy⟩:=hd;rw [←hy] at ht ⊢;clear hy;have rv:=hv.fil.row.rd;have c0:=hv.blk.cell 0 _ rfl;clear hv;obtain ⟨p,cap,rfl,h1,h2,h3,h4⟩:=rv.form;clear h3 h4;unfold maxLen at h2;go_enter Tryz.func58,Tryz.ntmps58
 go_wp2
 go_loopw [3,4] (fun n i wr=>∃ k:Nat,k≤ys.length∧i=.int .i64 k∧n=.int .i64 ((totD ((ys.map Ent.fil).take k):Nat):Int)∧wr=w) (fun _ i _=>ys.length - (intOf i).toNat)
 case atStart=>exact ⟨0,by omega,rfl,by simp [totD],rfl⟩
 case round =>
  obtain ⟨k,hk,rfl,rfl,rfl⟩:=hrel
  by_cases hlt:k<ys.length
  ·obtain ⟨b,off,rfl⟩:=Rd.blk rv (by omega);obtain ⟨c0,c1,c2⟩:=ent3 rv hlt;have hi:(k:Int)<(ys.length:Int):=by omega
   have hi0:(0:Int)≤(k:Int):=by omega
   have hst:=totD_take (l:=ys.map Ent.fil) (k:=k) (by simpa using hlt);rw [fil_get] at hst;have hle:=totD_take_le (ys.map Ent.fil) (k+1);have hyd:(ys[k]).fil.data.length=(ys[k]).data.length:=rfl;rw [hyd] at hst;rw [hst] at hle;have Hst:=Lib.hid hst;clear hst hyd rv;generalize totD ((ys.map Ent.fil).take k)=T at *;generalize ys[k]=y at *;have q1:(0:Int)≤(T:Int):=by omega
   have q2:(T:Int)+(y.data.length:Int)≤4611686018427387904:=by omega
   have q3:(0:Int)≤(y.data.length:Int):=by omega
   clear hle ht;go_wp2
   go_roundw
   case rel=>exact ⟨k+1,by omega,by go_num,by rw [Hst.out];go_num,by trivial⟩
   case measure=>simp [intOf];omega
  ·have hkl:k=ys.length:=by omega
   have hi:¬ (k:Int)<(ys.length:Int):=by omega
   have Hk:=Lib.hid hkl;clear hkl;go_wp2
   go_ret
   exact ⟨ret_int (by rw [Hk.out,List.take_of_length_le (by simp)]),rfl⟩
theorem refNames {F:Nat→Prop} {g:Nat} {d:Dk} {w:World} (hd:RefAt w F g d) (hl:d.fs.length≤1000000) :
 Calls Tryz.prog 13 #[.pointer (some ⟨g,0,none⟩)] w fun e w'=>∃ r,e=.returned r∧OwnR strE w' w.heap.size 9 r (d.fs.map (·.name))∧Below w.heap.size w w':=by
 obtain ⟨v,ys,hv,hy⟩:=hd;rw [←hy] at hl ⊢;rw [List.length_map] at hl;clear hy;have rv:=hv.fil.row.rd;have c0:=hv.blk.cell 0 _ rfl;have hgl:=hv.lt g hv.inG;clear hv;obtain ⟨p,cap,rfl⟩:=rv.shape;have Hn:Hid ((ys.map Ent.fil).map (·.name)=ys.map (·.name)):=by show _=_;rw [List.map_map];rfl
 go_enter Tryz.func13,Tryz.ntmps13
 go_wp2
 go_loopw [3,4] (fun n i wr=>∃ k:Nat,k≤ys.length∧i=.int .i64 k∧OwnR strE wr w.heap.size 9 n ((ys.map (·.name)).take k)∧Below w.heap.size w wr) (fun _ i _=>ys.length - (intOf i).toNat)
 case atStart=>exact ⟨0,by omega,rfl,OwnR.nil _ _ _,Below.refl _ _⟩
 case round =>
  obtain ⟨k,hk,rfl,own,hb⟩:=hrel;have k0:=(hb.cell (p:=⟨g,0,none⟩) hgl).trans c0
  by_cases hlt:k<ys.length
  ·obtain ⟨b,off,rfl⟩:=Rd.blk rv (by omega);obtain ⟨e0,e1,e2⟩:=ent3 (rv.ext hb) hlt;have hi:(k:Int)<(ys.length:Int):=by omega
   have hi0:(0:Int)≤(k:Int):=by omega
   have hst:(ys.map (·.name)).take (k+1)=(ys.map (·.name)).take k++[(ys[k]).name]:=by rw [List.take_succ_eq_append_getElem (by simpa using hlt)];simp
   have hlk:((ys.map (·.name)).take k).length≤1000000:=by rw [List.length_take,List.length_map];omega
   have Hst:=Lib.hid hst;clear hst rv c0;generalize (ys.map (·.name)).take k=T at *;generalize ys[k]=y at *;have cb:=below_alloc wr (.cells #[.string y.name] 9);have lit:=OwnR.litAt strE wr #[.string y.name] 9 [y.name] 1 0 wr.heap.size rfl rfl rfl (by unfold maxLen;omega) (Nat.zero_le _);have own3:=own.ext cb;have hb3:=hb.trans (cb.mono hb.size);obtain ⟨pn,cn,rfl⟩:=own3.rd.shape;go_wp2_with (first | (at_builtin;refine wpList_appR (E:=strE) tStr rfl rfl own3 rfl lit.rd rfl (by simp;omega) hb3.size ?_;intro v4 w4 own4 g4 b4) | fail)
   go_roundw
   case rel=>exact ⟨k+1,by omega,by go_num,by rw [Hst.out];exact own4,hb3.trans (b4.mono (Nat.le_refl _))⟩
   case measure=>simp [intOf];omega
  ·have hkl:k=ys.length:=by omega
   have hi:¬ (k:Int)<(ys.length:Int):=by omega
   have Hk:=Lib.hid hkl;clear hkl;go_wp2
   go_ret
   exact ⟨_,rfl,by rw [Hk.out,List.take_of_length_le (by simp)] at own;exact own,hb⟩
theorem refRead {F:Nat→Prop} {g:Nat} {d:Dk} {w:World} (hd:RefAt w F g d) (s:ByteArray) :
 Calls Tryz.prog 14 #[.pointer (some ⟨g,0,none⟩),.string s] w fun e w'=>(∃ r,e=.returned (.tuple #[r,.bool (readD d s).isSome])∧Bytes w' r ((readD d s).getD []))∧w=w':=by
 have hat:=refAt s w hd;obtain ⟨v,ys,hv,hy⟩:=hd
 rcases idxD_spec d.fs s with ⟨hx,_⟩ | ⟨j,hj,hx,_,_⟩
 ·have hr:readD d s=none:=by unfold readD;rw [if_pos (by omega)]
  have Hr:=Lib.hid hr;rw [hx] at hat;clear hr hx hv hy;go_enter Tryz.func14,Tryz.ntmps14
  go_wp2_with (go_at_call 51;refine hat.mono ?_;rintro e w' ⟨rfl,rfl⟩)
  go_ret2
  exact ⟨⟨_,by rw [Hr.out];rfl,by rw [Hr.out];exact Bytes.nil _⟩,rfl⟩
 ·have hjy:j<ys.length:=by rw [←hy,List.length_map] at hj;exact hj
  have hfj:d.fs[j]?=some (ys[j]).fil:=by rw [←hy,List.getElem?_map,List.getElem?_eq_getElem hjy];rfl
  have hr:readD d s=some (ys[j]).data:=by unfold readD;rw [if_neg (by omega),hx,Int.toNat_natCast,hfj];rfl
  have Hr:=Lib.hid hr;rw [hx] at hat;have hdat:=(hv.fil.data _ (List.getElem_mem hjy)).bytes;have rv:=hv.fil.row.rd;have c0:=hv.blk.cell 0 _ rfl;have hji:(j:Int)<(ys.length:Int):=by omega
  have hj0:(0:Int)≤(j:Int):=by omega
  obtain ⟨p,cap,rfl⟩:=rv.shape;obtain ⟨b,off,rfl⟩:=Rd.blk rv (by omega);obtain ⟨e0,e1,e2⟩:=ent3 rv hjy;clear hr hx hy hfj hv rv;generalize ys[j]=y at *;have hdat':Bytes w (.slice y.p y.data.length y.c) y.data:=hdat;clear hdat;go_enter Tryz.func14,Tryz.ntmps14
  go_wp2_with (go_at_call 51;refine hat.mono ?_;rintro e w' ⟨rfl,rfl⟩)
  go_ret2
  exact ⟨⟨_,by rw [Hr.out];rfl,by rw [Hr.out];exact hdat'⟩,rfl⟩
end
end Go.Proofs.YtgpgcnmnfnnkjaaGreatDoor
