import Derived.Test.YtgpgcnmnfnnkjaaGreatDoorGStorePlays13
import Derived.StillTailTactics
set_option linter.unusedVariables false
set_option linter.unusedSimpArgs false
set_option maxRecDepth 100000
set_option maxHeartbeats 16000000
namespace Go.Proofs.YtgpgcnmnfnnkjaaGreatDoor
section
open Go Go.RowKit BigFrame Go.PlainAid
attribute [local go_sem] After.same
theorem dskPowerAt {F:Nat→Prop} {g:Nat} {d:Dk} {w:World} (hd:DiskAt w F g d) (ok:OkD d) :
 Calls Tryz.prog 54 #[.pointer (some ⟨g,0,none⟩)] w fun e w'=>e=.returned (.int .i64 (powE d.left))∧DiskAt w' F g (powD d).2∧Chg F w w':=by
 obtain ⟨v,ys,hv,hy⟩:=hd.open_;refine (dskPower hv ok.lo ok.hi).mono ?_;rintro e w' ⟨rfl,h1,h2⟩;refine ⟨rfl,?_,h2.mono fun k _ hk=>by rw [hk];exact hv.inG⟩;rw [powD_eq];exact h1.at_ hy
def Und (w:World) (F:Nat→Prop) (g:Nat) (d:Dk) (w':World):Prop:=DiskAt w' (FF F w w') g d∧Chg F w w'
theorem Und.start {F:Nat→Prop} {g:Nat} {d:Dk} {w:World} (h:DiskAt w F g d):Und w F g d w:=⟨h.ff (Nat.le_refl _),Chg.refl _ _⟩
theorem Und.step {F:Nat→Prop} {g:Nat} {d d':Dk} {w w1 w2:World} (h:Und w F g d w1) (h0:∀ k,F k→k<w.heap.size) (h2:Und w1 (FF F w w1) g d' w2):Und w F g d' w2 :=
 ⟨h2.1.seq h0 h2.2.size h.2.size,h.2.seq h2.2⟩
theorem Und.call {F:Nat→Prop} {g:Nat} {d d':Dk} {w w1 w2:World} (h:Und w F g d w1) (h2:DiskAt w2 (FF F w w1) g d') (c:Chg (FF F w w1) w1 w2) (h0:∀ k,F k→k<w.heap.size):Und w F g d' w2 :=
 h.step h0 ⟨h2.ff c.size,c⟩
theorem Und.ext {F:Nat→Prop} {g:Nat} {d:Dk} {w w1 w2:World} (h:Und w F g d w1) (h0:∀ k,F k→k<w.heap.size) (hb:Below w1.heap.size w1 w2):Und w F g d w2 :=
 h.call (h.1.ext hb) (.of_below hb) h0
theorem OkD.pow {d:Dk} (ok:OkD d):OkD (powD d).2:=by
 obtain ⟨h1,h2,h3,h4,h5⟩:=ok;rw [powD_eq];refine ⟨h1,h2,h3,?_,?_⟩
 ·show -1≤powL d.left;unfold powL;split<;>omega
 ·show powL d.left≤_;unfold powL;split<;>omega
theorem powD_fs (d:Dk):(powD d).2.fs=d.fs:=by rw [powD_eq]
theorem powE_eq {d:Dk}:powE d.left=if (powD d).1 then 0 else 18:=by
 rw [powD_eq];unfold powE
 by_cases h:d.left=0<;>simp [h]
theorem idxD_has {l:List Fil} {s:ByteArray} (h:∃ x ∈ l,hasN s x=true):∃ j,∃ h:j<l.length,idxD l s=(j:Int):=by
 obtain ⟨x,hx,hn⟩:=h
 rcases idxD_spec l s with ⟨_,h2⟩ | ⟨j,hj,h1,_⟩
 ·rw [h2 x hx] at hn;cases hn
 ·exact ⟨j,hj,h1⟩
def mD (l:List Fil) (s:ByteArray):List Fil:=if idxD l s<0 then putD l ⟨s,[],0⟩ else l
theorem mD_has (l:List Fil) (s:ByteArray):∃ j,∃ h:j<(mD l s).length,idxD (mD l s) s=(j:Int):=by
 unfold mD
 rcases idxD_spec l s with ⟨h1,_⟩ | ⟨j,hj,h1,_⟩
 ·rw [if_pos (by omega)];exact idxD_has ⟨⟨s,[],0⟩,by unfold putD;simp,eqS_refl s⟩
 ·rw [if_neg (by omega)];exact ⟨j,hj,h1⟩
theorem addD_eq (s:ByteArray) (p:List UInt8) (l:List Fil):addD s p l=updD (mD l s) (idxD (mD l s) s).toNat fun f=>⟨f.name,f.data++p,f.kept⟩:=rfl
theorem putD_length (l:List Fil) (f:Fil):(putD l f).length=l.length+1:=by
 unfold putD;rw [List.length_append,List.length_cons,List.length_take,List.length_drop];omega
theorem totD_putD (l:List Fil) (f:Fil):totD (putD l f)=totD l+f.data.length:=by
 unfold putD;rw [totD_append,totD_cons];have h:=totD_append (l.take (posD l f.name)) (l.drop (posD l f.name));rw [List.take_append_drop] at h;omega
theorem mD_length (l:List Fil) (s:ByteArray):(mD l s).length≤l.length+1:=by
 unfold mD;split
 ·rw [putD_length];exact Nat.le_refl _
 ·omega
theorem totD_mD (l:List Fil) (s:ByteArray):totD (mD l s)=totD l:=by
 unfold mD;split
 ·rw [totD_putD];simp
 ·rfl
theorem updD_at {l:List Fil} {k:Nat} (h:k<l.length) (f:Fil→Fil):updD l k f=l.set k (f l[k]):=by unfold updD;rw [List.getElem?_eq_getElem h]
theorem totD_set {l:List Fil} {k:Nat} (h:k<l.length) (f:Fil):totD (l.set k f)+l[k].data.length=totD l+f.data.length:=by
 have e:l=l.take k++l[k]::l.drop (k+1):=by rw [←List.drop_eq_getElem_cons h,List.take_append_drop]
 have e2:l.set k f=l.take k++f::l.drop (k+1):=List.set_eq_take_append_cons_drop.trans (if_pos h);rw [e2,totD_append,totD_cons];have h3:totD l=totD (l.take k)+(l[k].data.length+totD (l.drop (k+1))):=by
  conv=>lhs;rw [e]
  rw [totD_append,totD_cons]
 omega
theorem DiskV.extU {F:Nat→Prop} {w w1 w2:World} {g:Nat} {v o a l:Value} {ys:List Ent} (h:DiskV w1 (FF F w w1) g v o a l ys) (h0:∀ k,F k→k<w.heap.size) (hs:w.heap.size≤w1.heap.size) (hb:Below w1.heap.size w1 w2):DiskV w2 (FF F w w2) g v o a l ys :=
 (h.ext hb).mono (fun k hk=>by
  rcases hk with hk | hk
  ·exact .inl hk
  ·exact .inr ⟨hk.1,Nat.lt_of_lt_of_le hk.2 hb.size⟩) (FF_lt h0 (Nat.le_trans hs hb.size))
theorem DiskV.seqU {F:Nat→Prop} {w w1 w2:World} {g:Nat} {v o a l:Value} {ys:List Ent} (h:DiskV w2 (FF (FF F w w1) w1 w2) g v o a l ys∧Chg (FF F w w1) w1 w2) (h0:∀ k,F k→k<w.heap.size) (c:Chg F w w1):DiskV w2 (FF F w w2) g v o a l ys∧Chg F w w2 :=
 ⟨h.1.mono (fun k hk=>FF.seq h.2.size c.size hk) (FF_lt h0 (Nat.le_trans c.size h.2.size)),c.seq h.2⟩
theorem map_set_fil (ys:List Ent) (j:Nat) (y:Ent):(ys.set j y).map Ent.fil=(ys.map Ent.fil).set j y.fil:=List.map_set
theorem dskPutNil {F:Nat→Prop} {g:Nat} {d:Dk} {w:World} (hd:DiskAt w F g d) (hl:d.fs.length≤1000000) (s:ByteArray) :
 Calls Tryz.prog 56 #[.pointer (some ⟨g,0,none⟩),.agg #[.string s,.slice none 0 0,.int .i64 0]] w fun e w'=>e=.returned (.tuple #[])∧Und w F g { d with fs:=putD d.fs ⟨s,[],0⟩ } w':=by
 obtain ⟨v,ys,hv,hy⟩:=hd.open_;have hn:∀ k,(Ent.v ⟨s,none,0,[],0⟩).ownBlock≠some k:=fun k h=>by simp [Ent.v,Value.ownBlock] at h
 refine (dskPut (y:=⟨s,none,0,[],0⟩) hv (by rw [DiskV.len_eq hy];exact hl) (OwnB.nil _ _ _) (fun x _ k hk=>absurd hk (hn k)) (fun k _=>hn k) (fun k hk=>absurd hk (hn k)) (hn g)).mono ?_;rintro e w' ⟨rfl,⟨v1,hx⟩,hc⟩;refine ⟨rfl,hx.at_ (d:={ d with fs:=putD d.fs ⟨s,[],0⟩ }) ?_,hc⟩;rw [insE_fil,hy];rfl
theorem dskAppend {F:Nat→Prop} {g:Nat} {d:Dk} {w:World} (hd:DiskAt w F g d) (ok:OkD d) (hfs:d.fs.length≤999999) (s:ByteArray) (hs:s.size≤4611686018427387904) (vp:Value) (p:List UInt8) (hp:Bytes w vp p) (hpF:p≠[]→∀ k,vp.ownBlock=some k→¬ F k) :
 Calls Tryz.prog 17 #[.pointer (some ⟨g,0,none⟩),.string s,vp] w fun e w'=>e=.returned (.int .i64 (appendD d s p).1)∧Und w F g (appendD d s p).2 w':=by
 have hlt:=hd.lt;obtain ⟨pp,cp,rfl,hp1,hp2,_,_⟩:=hp.form;unfold maxLen at hp2;have hplen:p.length≤9223372036854775807:=by omega
 have hp0:(0:Int)≤(p.length:Int):=by omega
 have hT:=ok.tot;have Hd:=Lib.hid hd;have Hp:=Lib.hid hp;have HpF:=Lib.hid hpF;obtain ⟨v,ys,hv,hy⟩:=hd.open_;have c1:=hv.blk.cell 1 _ rfl;clear hd hp hpF hv hy
 cases hoff:d.off with
 | true =>
  have hr:appendD d s p=(18,d):=by unfold appendD;rw [if_pos hoff]
  rw [hr];rw [hoff] at c1;clear hr hoff;go_enter Tryz.func17,Tryz.ntmps17
  go_wp2
  go_ret
  exact ⟨rfl,Und.start Hd.out⟩
 | false =>
  rw [hoff] at c1;have hnam:=dskNamed s w hs
  cases hnm:namedD s with
  | false =>
   have hr:appendD d s p=(19,d):=by unfold appendD;rw [if_neg (by rw [hoff];decide),if_pos hnm]
   rw [hr];rw [hnm] at hnam;clear hr hnm hoff;go_enter Tryz.func17,Tryz.ntmps17
   go_wp2_with (go_at_call 52;refine hnam.mono ?_;rintro e w' ⟨rfl,rfl⟩)
   go_ret
   exact ⟨rfl,Und.start Hd.out⟩
  | true =>
   rw [hnm] at hnam;have htot:=dskTotal Hd.out (Nat.le_trans hT (by decide))
   by_cases hfull:4194304<totD d.fs+p.length
   ·have hr:appendD d s p=(14,d):=by unfold appendD;rw [if_neg (by rw [hoff];decide),if_neg (by rw [hnm];decide),if_pos hfull]
    rw [hr];have hi:(4194304:Int) - (totD d.fs:Int)<(p.length:Int):=by omega
    have hi0:(0:Int)≤(totD d.fs:Int):=by omega
    have hi1:(totD d.fs:Int)≤4194304:=by omega
    generalize totD d.fs=T at *;clear hr hnm hoff;go_enter Tryz.func17,Tryz.ntmps17
    go_wp2_with fail
    refine hnam.mono ?_;rintro e w' ⟨rfl,rfl⟩;go_wp2_with fail
    refine htot.mono ?_;rintro e w1 ⟨rfl,hb⟩;go_wp2_with fail
    go_ret
    exact ⟨rfl,(Und.start Hd.out).ext hlt hb⟩
   ·have hr:appendD d s p=stepD d (addD s p):=by unfold appendD;rw [if_neg (by rw [hoff];decide),if_neg (by rw [hnm];decide),if_neg hfull]
    have hi:¬ (4194304:Int) - (totD d.fs:Int)<(p.length:Int):=by omega
    have hi0:(0:Int)≤(totD d.fs:Int):=by omega
    have hi1:(totD d.fs:Int)≤4194304:=by omega
    have hfull2:totD d.fs+p.length≤4194304:=by omega
    have Htm:=Lib.hid (totD_mD d.fs s);have Hml:=Lib.hid (mD_length d.fs s);have Hadd:=Lib.hid (addD_eq s p d.fs);have Hmd:Hid (mD d.fs s=if idxD d.fs s<0 then putD d.fs ⟨s,[],0⟩ else d.fs):=rfl;have Hpf:=Lib.hid (powD_fs d);have Hr:=Lib.hid hr;obtain ⟨j,hj,hix⟩:=mD_has d.fs s;have Hix:=Lib.hid hix;clear hr hnm hoff hfull hix;generalize totD d.fs=T at *;go_enter Tryz.func17,Tryz.ntmps17
    go_wp2_with fail
    refine hnam.mono ?_;rintro e w' ⟨rfl,rfl⟩;go_wp2_with fail
    refine htot.mono ?_;rintro e w1 ⟨rfl,hb⟩;have und1:=(Und.start Hd.out).ext hlt hb;have hd1:=Hd.out.ext hb;have hpow:=dskPowerAt hd1 ok;rw [powE_eq] at hpow;clear htot hnam c1;go_wp2_with fail
    refine hpow.mono ?_;rintro e w2 ⟨rfl,hd2,ch2⟩;have chA:Chg F w w2:=(Chg.of_below hb).step ch2;have undB:Und w F g (powD d).2 w2:=⟨hd2.mono (fun _=>.inl) (FF_lt hlt (by have:=hb.size;have:=ch2.size;omega)),chA⟩;have Hsd:Hid (stepD d (addD s p)=if (powD d).1 then (0,{ (powD d).2 with fs:=addD s p d.fs }) else (18,(powD d).2)):=rfl;clear hpow und1 hd1 hd2 ch2 chA hb
    cases hpw:(powD d).1 with
    | false =>
     rw [hpw] at Hsd;simp only [Bool.false_eq_true,if_false] at Hsd ⊢
     go_wp2_with fail
     go_ret
     exact ⟨by rw [Hr.out,Hsd.out];rfl,by rw [Hr.out,Hsd.out];exact undB⟩
    | true =>
     rw [hpw] at Hsd;simp only [if_true] at Hsd ⊢
     generalize hd1e:(powD d).2=d1 at *;have hfs1:d1.fs=d.fs:=Hpf.out;have hfind:=dskFind _ g d1 s w2 undB.1;rw [hfs1] at hfind;have hl1:d1.fs.length≤1000000:=by rw [hfs1];omega
     have Hfs1:=Lib.hid hfs1;clear hfs1 hd1e;generalize mD d.fs s=m at *;go_upto_if 33 with ((go_at_call 55;refine hfind.mono ?_;rintro e w3 ⟨rfl,hb3⟩))
     have undC:=undB.ext hlt hb3;clear undB hb3 hfind
     go_cut [] from 33 (fun wi=>Und w F g { d1 with fs:=m } wi)
     case first =>
      by_cases hx:idxD d.fs s<0
      ·have hput:=dskPutNil undC.1 hl1 s;have hmm:=Hmd.out;rw [if_pos hx] at hmm;rw [Hfs1.out, ←hmm] at hput;clear hmm;go_wp2_with fail
       refine hput.mono ?_;rintro e w4 ⟨rfl,hu⟩;have undE:=undC.step hlt hu;go_wp2_with fail
       go_meet
       exact undE
      ·have hmm:=Hmd.out;rw [if_neg hx] at hmm;have e1:({ d1 with fs:=m }:Dk)=d1:=by rw [hmm, ←Hfs1.out]
       rw [←e1] at undC;have UndC:=Lib.hid undC;clear hmm e1 undC;go_wp2_with fail
       go_meet
       exact UndC.out
     case rest =>
      have undE:Und w F g { d1 with fs:=m } wc:=hcut;obtain ⟨w4,hw4⟩:∃ z,z=wc:=⟨_,rfl⟩;subst hw4;clear hcut undC;have hfind2:∀ W,Below w4.heap.size w4 W→Calls Tryz.prog 55 #[.pointer (some ⟨g,0,none⟩),.string s] W fun e w'=>e=.returned (.int .i64 (j:Int))∧Below W.heap.size W w':=fun W hW=>by
       have h:=dskFind _ g { d1 with fs:=m } s W (undE.1.ext hW);have e1:idxD ({ d1 with fs:=m }:Dk).fs s=(j:Int):=Hix.out;rw [e1] at h;exact h
      obtain ⟨v4,ys4,hv4,hy4⟩:=undE.1.open_;have hjy:j<ys4.length:=by rw [DiskV.len_eq hy4];exact hj
      have hml:=Hml.out;have hys:ys4.length≤1000000:=by rw [DiskV.len_eq hy4];show m.length≤_;omega
      obtain ⟨gv,cap,rfl,_,_,hq1,hq2⟩:=hv4.fil.row.head (by omega);unfold maxLen at hq2;have k0:=hv4.blk.cell 0 _ rfl;have hgl:=hv4.lt g hv4.inG;have hji:(j:Int)<(ys4.length:Int):=by omega
      have hj0:(0:Int)≤(j:Int):=by omega
      have Hy4:Hid (ys4.map Ent.fil=m):=hy4;have Hix2:=Hix;clear hml hy4 Hix;go_wp2_with fail
      go_region_held3 (fun w'=>w'.cell? ⟨g,0,none⟩=some (.slice (some ⟨gv,0,none⟩) ys4.length cap)) (go_keep)
       (first | (go_at_call 55;(refine (hfind2 _ (below_drew _ _)).mono ?_);(rintro e w5 ⟨rfl,hb5⟩);(have k5:=(hb5.cell (p:=⟨g,0,none⟩) hgl).trans k0)))
      all_goals
       have hbb:=(below_drew w4.heap.size w4).trans hb5;have hv5:=hv4.extU hlt undE.2.size hbb;have ch5:Chg F w w5:=undE.2.step (.of_below hbb);have hmem:ys4[j] ∈ ys4:=List.getElem_mem hjy;have hdat:=hv5.fil.data _ hmem;have hoff5:=hv5.fil.off _ hmem;have hp5:Bytes w5 (.slice pp p.length cp) p:=ch5.cellsE Nat.one_pos Hp.out (fun he=>HpF.out (fun e=>he (by rw [e];rfl)));have hdl:(ys4[j]).data.length+p.length≤4194304:=by
        have h1:=totD_mem (l:=m) (f:=(ys4[j]).fil) (by rw [←Hy4.out];exact List.mem_map.2 ⟨_,hmem,rfl⟩);have h2:(ys4[j]).fil.data.length=(ys4[j]).data.length:=rfl;rw [Htm.out] at h1;omega
       have c51:w5.cell? ⟨gv,j * 3+1,none⟩=some (.slice ys4[j].p ys4[j].data.length ys4[j].c):=hv5.fil.row.cellAt rfl j hjy 1 (by decide);obtain ⟨y,hy⟩:∃ y,ys4[j]=y:=⟨_,rfl⟩;have Hy:=Lib.hid hy;rw [hy] at hdat hoff5 hdl c51;have hdat':OwnB w5 0 5 (.slice y.p y.data.length y.c) y.data:=hdat;have Hv5:=Lib.hid hv5;clear hy hmem hv4 hbb hb5 undE hfind2 k0 k5 hdat hv5
       go_wp2_with (first | (at_builtin;refine wpList_appW tU8 rfl rfl hdat' rfl hp5 rfl (by omega) (Nat.zero_le _) ?_;intro v6 w6 own6 g6 _ h6;(obtain ⟨p6,c6,hv6,_⟩:=(Own.cells own6).form);(have row6:=Hv5.out.fil.row.grown g6 (.inr (fun e=>hoff5 gv rfl e.symm)));(have c61:w6.cell? ⟨gv,j * 3+1,none⟩=some (.slice ys4[j].p ys4[j].data.length ys4[j].c):=row6.cellAt rfl j hjy 1 (by decide));(have f61:=row6.frozenAt rfl (j * 3+1));subst hv6) | fail)
       go_ret
       have hya:(⟨y.name,p6,c6,y.data++p,y.kept⟩:Ent).v=.slice p6 (y.data.length+p.length) c6:=by unfold Ent.v;rw [List.length_append]
       have ow:OwnB w6 0 5 (⟨y.name,p6,c6,y.data++p,y.kept⟩:Ent).v (y.data++p):=by rw [hya];exact OwnB.snoc own6
       have hst:=row6.stored rfl j hjy 1 (by decide) (.slice p6 (y.data.length+p.length) c6) rfl ⟨y.name,p6,c6,y.data++p,y.kept⟩ (by rw [Hy.out];show [_,_,_]=_;rw [show (⟨y.name,p6,c6,y.data++p,y.kept⟩:Ent).data.length=y.data.length+p.length from List.length_append];rfl);have hset:=Hv5.out.setEnt hjy (y:=⟨y.name,p6,c6,y.data++p,y.kept⟩) (Chg.of_grown g6 (fun k hk=>by rw [Hy.out];exact hk)) ow (by rw [hya,Hy.out];exact h6.imp id fun h n hn=>by rw [h] at hn;cases hn;exact Nat.le_refl _) hst.1 hst.2;have hfin:=DiskV.seqU hset hlt ch5
       have hres:(ys4.set j ⟨y.name,p6,c6,y.data++p,y.kept⟩).map Ent.fil=addD s p d.fs:=by
        rw [map_set_fil,Hy4.out,Hadd.out,Hix2.out,Int.toNat_natCast,updD_at hj];have e2:m[j]=y.fil:=by rw [←Hy.out];simp only [←Hy4.out,List.getElem_map]
        rw [e2];rfl
       refine ⟨by rw [Hr.out,Hsd.out];rfl,?_⟩;rw [Hr.out,Hsd.out];exact ⟨hfin.1.at_ (d:={ d1 with fs:=addD s p d.fs }) hres,hfin.2⟩
end
section
open Go Go.RowKit BigFrame Go.PlainAid
attribute [local go_sem] After.same
theorem knownD_spec (d:Dk) (s:ByteArray):((knownD d s).2≠0∧(knownD d s).1=0)∨∃ j,∃ _:j<d.fs.length,knownD d s=((j:Int),0)∧idxD d.fs s=(j:Int):=by
 unfold knownD
 by_cases h:d.off=true
 ·rw [if_pos h];exact .inl ⟨by decide,rfl⟩
 ·rw [if_neg h]
  rcases idxD_spec d.fs s with ⟨h1,_⟩ | ⟨j,hj,h1,_⟩
  ·rw [if_pos (by omega)];exact .inl ⟨by decide,rfl⟩
  ·rw [if_neg (by omega),h1];exact .inr ⟨j,hj,rfl,rfl⟩
theorem onD_no {d:Dk} {s:ByteArray} {f:List Fil→Nat→List Fil} (h:(knownD d s).2≠0):onD d s f=((knownD d s).2,d):=if_pos h
theorem onD_yes {d:Dk} {s:ByteArray} {f:List Fil→Nat→List Fil} {j:Nat} (h:knownD d s=((j:Int),0)) (hx:idxD d.fs s=(j:Int)):onD d s f=stepD d fun l=>f l j:=by
 unfold onD;rw [h,hx];exact if_neg (fun h=>h rfl)
theorem stepD_no {d:Dk} {f:List Fil→List Fil} (h:(powD d).1=false):stepD d f=(18,(powD d).2):=by unfold stepD;rw [h];rfl
theorem stepD_yes {d:Dk} {f:List Fil→List Fil} (h:(powD d).1=true):stepD d f=(0,{ (powD d).2 with fs:=f d.fs }):=by unfold stepD;rw [h];rfl
theorem cutV {w:World} {B:Nat} {e:TypeId} {n:Nat} {v:Value} {l:List UInt8} (h:OwnB w B e v l) (hn:n≤l.length):∃ p c,v=.slice p l.length c∧subV v 0 n 1=.slice p n c∧OwnB w B e (.slice p n c) (l.take n):=by
 have hl:(l.take n).length=n:=by rw [List.length_take];omega
 rcases Own.head h with ⟨rfl,h0⟩ | ⟨g,cap,rfl,_⟩
 ·have hz:l=[]:=List.length_eq_zero_iff.1 h0;subst hz;have:n=0:=by simpa using hn
  subst this;exact ⟨none,0,rfl,rfl,OwnB.nil _ _ _⟩
 ·refine ⟨some ⟨g,0,none⟩,cap,rfl,?_,?_⟩
  ·show Value.slice (subP _ _ _ _) _ _=_
   have e1:subP (some ⟨g,0,none⟩) cap 0 1=some ⟨g,0,none⟩:=by
    unfold subP;split
    ·rfl
    ·simp [addr_add]
   rw [e1];rfl
  ·have h1:=Own.cut h n hn;refine OwnB.of h1 hl.symm ?_;rw [Nat.mul_one,List.map_take]
theorem del_sub {α:Type} (l:List α) (k:Nat):(l.take k++l.drop (k+1)).Sublist l:=by
 rw [←List.eraseIdx_eq_take_drop_succ];exact List.eraseIdx_sublist _ _
theorem DiskV.atFs {F:Nat→Prop} {w:World} {g:Nat} {v:Value} {ys:List Ent} {d:Dk} {l:List Fil} (h:DiskV w F g v (.bool d.off) (.bool (decide (0≤d.left))) (.int .i64 (max d.left 0)) ys) (hy:ys.map Ent.fil=l):DiskAt w F g { d with fs:=l }:=DiskV.at_ (d:={ d with fs:=l }) h hy
theorem dskSync {F:Nat→Prop} {g:Nat} {d:Dk} {w:World} (hd:DiskAt w F g d) (ok:OkD d) (hfs:d.fs.length≤1000000) (s:ByteArray) :
 Calls Tryz.prog 101 #[.pointer (some ⟨g,0,none⟩),.string s] w fun e w'=>e=.returned (.int .i64 (syncD d s).1)∧Und w F g (syncD d s).2 w':=by
 have hlt:=hd.lt;have hT:=ok.tot;have Hd:=Lib.hid hd;have hkn:=dskKnown F g d s w hd
 rcases knownD_spec d s with ⟨hk,hk0⟩ | ⟨j,hj,hkj,hix⟩
 ·have hr:syncD d s=((knownD d s).2,d):=onD_no hk;rw [hr,hk0] at *;generalize (knownD d s).2=E at *;have hE:(E == 0)=false:=by simpa using hk
  have hE2:(E !=0)=true:=by simpa using hk
  clear hk hk0 hr;go_enter Tryz.func101,Tryz.ntmps101
  go_wp2_with fail
  refine hkn.mono ?_;rintro e w1 ⟨rfl,hb⟩;have und1:=(Und.start Hd.out).ext hlt hb;go_wp2_with fail
  go_ret
  exact ⟨rfl,und1⟩
 ·have hr:syncD d s=stepD d fun l=>updD l j fun f=>⟨f.name,f.data,f.data.length⟩:=onD_yes hkj hix;have HR:Hid (((powD d).1=false→syncD d s=(18,(powD d).2))∧((powD d).1=true→syncD d s=(0,{ (powD d).2 with fs:=updD d.fs j fun f=>⟨f.name,f.data,f.data.length⟩ }))):=⟨fun h=>by rw [hr];exact stepD_no h,fun h=>by rw [hr];exact stepD_yes h⟩;rw [hkj] at hkn;have Hpf:=Lib.hid (powD_fs d);clear hr hix hkj;go_enter Tryz.func101,Tryz.ntmps101
  go_wp2_with fail
  refine hkn.mono ?_;rintro e w1 ⟨rfl,hb⟩;have hd1:=Hd.out.ext hb;have hpow:=dskPowerAt hd1 ok;rw [powE_eq] at hpow;go_wp2_with fail
  refine hpow.mono ?_;rintro e w2 ⟨rfl,hd2,ch2⟩;have chA:Chg F w w2:=(Chg.of_below hb).step ch2;have undB:Und w F g (powD d).2 w2:=⟨hd2.mono (fun _=>.inl) (FF_lt hlt (by have:=hb.size;have:=ch2.size;omega)),chA⟩;clear hpow hd1 hd2 ch2 chA hb hkn
  cases hpw:(powD d).1 with
  | false =>
   have hs:=HR.out.1 hpw;have Hs:=Lib.hid hs;clear hs hpw;simp only [Bool.false_eq_true,if_false]
   go_wp2_with fail
   go_ret
   exact ⟨by rw [Hs.out];rfl,by rw [Hs.out];exact undB⟩
  | true =>
   have hs:=HR.out.2 hpw;have Hs:=Lib.hid hs;clear hs hpw;simp only [if_true]
   generalize hd1e:(powD d).2=d1 at *;clear hd1e;obtain ⟨v2,ys2,hv2,hy2⟩:=undB.1.open_;have hyd:ys2.map Ent.fil=d.fs:=by rw [hy2,Hpf.out]
   have Hyd:=Lib.hid hyd;have hjy:j<ys2.length:=by rw [DiskV.len_eq hyd];exact hj
   have hys:ys2.length≤1000000:=by rw [DiskV.len_eq hyd];exact hfs
   obtain ⟨gv,cap,rfl,_,_,hq1,hq2⟩:=hv2.fil.row.head (by omega);unfold maxLen at hq2;have k0:=hv2.blk.cell 0 _ rfl;have z0:=hv2.blk.frozen 0;have hji:(j:Int)<(ys2.length:Int):=by omega
   have hj0:(0:Int)≤(j:Int):=by omega
   clear hy2 hyd;have hmem:ys2[j] ∈ ys2:=List.getElem_mem hjy;have hdat:=hv2.fil.data _ hmem;have hdl:(ys2[j]).data.length≤4194304:=by
    have h1:=totD_mem (l:=d.fs) (f:=(ys2[j]).fil) (by rw [←Hyd.out];exact List.mem_map.2 ⟨_,hmem,rfl⟩);have h2:(ys2[j]).fil.data.length=(ys2[j]).data.length:=rfl;omega
   have c21:w2.cell? ⟨gv,j * 3+1,none⟩=some (.slice ys2[j].p ys2[j].data.length ys2[j].c):=hv2.fil.row.cellAt rfl j hjy 1 (by decide);have c22:w2.cell? ⟨gv,j * 3+2,none⟩=some (.int .i64 ((ys2[j]).kept:Int)):=hv2.fil.row.cellAt rfl j hjy 2 (by decide);have f21:=hv2.fil.row.frozenAt rfl (j * 3+1);have f22:=hv2.fil.row.frozenAt rfl (j * 3+2);obtain ⟨y,hy⟩:∃ y,ys2[j]=y:=⟨_,rfl⟩;have Hy:=Lib.hid hy;have hfj:Hid (∀ h:j<d.fs.length,d.fs[j]=y.fil):=fun h=>by rw [←hy];simp only [←Hyd.out,List.getElem_map]
   rw [hy] at hdat hdl c21 c22;have hst:=hv2.fil.row.drew.stored rfl j hjy 2 (by decide) (.int .i64 (y.data.length:Int)) rfl ⟨y.name,y.p,y.c,y.data,y.data.length⟩ (by rw [hy];rfl);have hset:=hv2.drew.setEnt hjy (y:=⟨y.name,y.p,y.c,y.data,y.data.length⟩) (Chg.refl _ _) (by exact hdat) (.inl (by rw [hy];rfl)) hst.1 hst.2;have hfin:=DiskV.seqU hset hlt undB.2.drew;have hres:(ys2.set j ⟨y.name,y.p,y.c,y.data,y.data.length⟩).map Ent.fil=updD d.fs j fun f=>⟨f.name,f.data,f.data.length⟩:=by
    rw [map_set_fil,Hyd.out,updD_at hj,hfj.out hj];rfl
   have hu:∀ W,DiskAt W (FF F w W) g _∧Chg F w W→Und w F g (syncD d s).2 W:=fun W h=>by rw [Hs.out];exact h
   have Hfin:=Lib.hid (hu _ ⟨hfin.1.atFs hres,hfin.2⟩);clear hu;clear hset hst hfin hres hmem hdat hy hv2 undB;go_wp2_with fail
   go_still_tail 16,(by kernel_rfl)
   change wpList _ _ _ _ _ w2.drew
   go_wp2_with fail
   go_ret
   exact ⟨by rw [Hs.out];rfl,Hfin.out⟩
theorem dskRemove {F:Nat→Prop} {g:Nat} {d:Dk} {w:World} (hd:DiskAt w F g d) (ok:OkD d) (hfs:d.fs.length≤1000000) (s:ByteArray) :
 Calls Tryz.prog 79 #[.pointer (some ⟨g,0,none⟩),.string s] w fun e w'=>e=.returned (.int .i64 (removeD d s).1)∧Und w F g (removeD d s).2 w':=by
 have hlt:=hd.lt;have hT:=ok.tot;have Hd:=Lib.hid hd;have hkn:=dskKnown F g d s w hd
 rcases knownD_spec d s with ⟨hk,hk0⟩ | ⟨j,hj,hkj,hix⟩
 ·have hr:removeD d s=((knownD d s).2,d):=onD_no hk;rw [hr,hk0] at *;generalize (knownD d s).2=E at *;have hE:(E == 0)=false:=by simpa using hk
  have hE2:(E !=0)=true:=by simpa using hk
  clear hk hk0 hr;go_enter Tryz.func79,Tryz.ntmps79
  go_wp2_with fail
  refine hkn.mono ?_;rintro e w1 ⟨rfl,hb⟩;have und1:=(Und.start Hd.out).ext hlt hb;go_wp2_with fail
  go_ret
  exact ⟨rfl,und1⟩
 ·have hr:removeD d s=stepD d fun l=>delD l j:=onD_yes hkj hix;have HR:Hid (((powD d).1=false→removeD d s=(18,(powD d).2))∧((powD d).1=true→removeD d s=(0,{ (powD d).2 with fs:=delD d.fs j }))):=⟨fun h=>by rw [hr];exact stepD_no h,fun h=>by rw [hr];exact stepD_yes h⟩;rw [hkj] at hkn;have Hpf:=Lib.hid (powD_fs d);clear hr hix hkj;go_enter Tryz.func79,Tryz.ntmps79
  go_wp2_with fail
  refine hkn.mono ?_;rintro e w1 ⟨rfl,hb⟩;have hd1:=Hd.out.ext hb;have hpow:=dskPowerAt hd1 ok;rw [powE_eq] at hpow;go_wp2_with fail
  refine hpow.mono ?_;rintro e w2 ⟨rfl,hd2,ch2⟩;have chA:Chg F w w2:=(Chg.of_below hb).step ch2;have undB:Und w F g (powD d).2 w2:=⟨hd2.mono (fun _=>.inl) (FF_lt hlt (by have:=hb.size;have:=ch2.size;omega)),chA⟩;clear hpow hd1 hd2 ch2 chA hb hkn
  cases hpw:(powD d).1 with
  | false =>
   have hs:=HR.out.1 hpw;have Hs:=Lib.hid hs;clear hs hpw;simp only [Bool.false_eq_true,if_false]
   go_wp2_with fail
   go_ret
   exact ⟨by rw [Hs.out];rfl,by rw [Hs.out];exact undB⟩
  | true =>
   have hs:=HR.out.2 hpw;have Hs:=Lib.hid hs;clear hs hpw;simp only [if_true]
   generalize hd1e:(powD d).2=d1 at *;clear hd1e;obtain ⟨v2,ys2,hv2,hy2⟩:=undB.1.open_;have hyd:ys2.map Ent.fil=d.fs:=by rw [hy2,Hpf.out]
   have Hyd:=Lib.hid hyd;have hjy:j<ys2.length:=by rw [DiskV.len_eq hyd];exact hj
   have hys:ys2.length≤1000000:=by rw [DiskV.len_eq hyd];exact hfs
   obtain ⟨gv,cap,rfl,_,_,hq1,hq2⟩:=hv2.fil.row.head (by omega);unfold maxLen at hq2;have k0:=hv2.blk.cell 0 _ rfl;have z0:=hv2.blk.frozen 0;have hji:(j:Int)<(ys2.length:Int):=by omega
   have hj0:(0:Int)≤(j:Int):=by omega
   clear hy2 hyd;have hdel:=delFil 0 j _ ys2 w2 hv2.fil.row hjy (Nat.zero_le _);have hz:=hv2.datas.sub (del_sub ys2 j);go_wp2_with fail
   refine hdel.mono ?_;rintro e w3 ⟨v3,rfl,own3,g3,_,hwh⟩;have hfin:=DiskV.seqU (hv2.putRow g3 own3 (.inl hwh) hz) hlt undB.2;have hres:(ys2.take j++ys2.drop (j+1)).map Ent.fil=delD d.fs j:=by
    unfold delD;rw [List.map_append,List.map_take,List.map_drop,Hyd.out]
   have k3:Blk w3 g _ _:=hv2.blk.grown g3 hv2.vg;have c30:=k3.cell 0 _ rfl;have f30:=k3.frozen 0;have hu:∀ W,DiskAt W (FF F w W) g _∧Chg F w W→Und w F g (removeD d s).2 W:=fun W h=>by rw [Hs.out];exact h
   have Hfin:=Lib.hid (hu _ ⟨hfin.1.atFs hres,hfin.2⟩);clear hu;generalize ys2.take j++ys2.drop (j+1)=zs at *;obtain ⟨p3,c3,rfl⟩:=own3.rd.shape;clear hfin hres hz hv2 undB k3 own3 g3 hwh hdel;go_wp2_with fail
   go_ret
   exact ⟨by rw [Hs.out];rfl,Hfin.out⟩
theorem dskCut {F:Nat→Prop} {g:Nat} {d:Dk} {w:World} (hd:DiskAt w F g d) (ok:OkD d) (hfs:d.fs.length≤1000000) (s:ByteArray) (n:Int) :
 Calls Tryz.prog 100 #[.pointer (some ⟨g,0,none⟩),.string s,.int .i64 n] w fun e w'=>e=.returned (.int .i64 (cutD d s n).1)∧Und w F g (cutD d s n).2 w':=by
 have hlt:=hd.lt;have hT:=ok.tot;have Hd:=Lib.hid hd;have hkn:=dskKnown F g d s w hd
 rcases knownD_spec d s with ⟨hk,hk0⟩ | ⟨j,hj,hkj,hix⟩
 ·have hr:cutD d s n=((knownD d s).2,d):=by unfold cutD;rw [if_neg (fun h=>hk h.1)];exact onD_no hk
  rw [hr,hk0] at *;generalize (knownD d s).2=E at *;have hE:(E == 0)=false:=by simpa using hk
  have hE2:(E !=0)=true:=by simpa using hk
  clear hk hk0 hr;go_enter Tryz.func100,Tryz.ntmps100
  go_wp2_with fail
  refine hkn.mono ?_;rintro e w1 ⟨rfl,hb⟩;have und1:=(Und.start Hd.out).ext hlt hb;go_wp2_with fail
  go_ret
  exact ⟨rfl,und1⟩
 ·obtain ⟨va,ysa,hva,hya⟩:=hd.open_;have hjya:j<ysa.length:=by rw [DiskV.len_eq hya];exact hj
  have hysa:ysa.length≤1000000:=by rw [DiskV.len_eq hya];exact hfs
  obtain ⟨gva,capa,rfl,_,_,hqa1,hqa2⟩:=hva.fil.row.head (by omega);unfold maxLen at hqa2;have hjia:(j:Int)<(ysa.length:Int):=by omega
  have hj0a:(0:Int)≤(j:Int):=by omega
  have hfja:d.fs[j]?=some (ysa[j]).fil:=by rw [←hya,List.getElem?_map,List.getElem?_eq_getElem hjya];rfl
  have hle:((d.fs[(idxD d.fs s).toNat]?).map fun f=>(f.data.length:Int)).getD 0=((ysa[j]).data.length:Int):=by rw [hix,Int.toNat_natCast,hfja];rfl
  have hcut:cutD d s n=if n<0∨((ysa[j]).data.length:Int)<n then (1,d) else onD d s fun l k=>updD l k fun f=>⟨f.name,f.data.take n.toNat,min f.kept n.toNat⟩:=by
   unfold cutD;rw [hle,hkj];simp
  have hk0a:∀ W,Below w.heap.size w W→W.cell? ⟨g,0,none⟩=some (.slice (some ⟨gva,0,none⟩) ysa.length capa):=fun W hW=>(hva.ext hW).blk.cell 0 _ rfl;have hk1a:∀ W,Below w.heap.size w W→W.cell? ⟨gva,j * 3+1,none⟩=some (.slice ysa[j].p ysa[j].data.length ysa[j].c):=fun W hW=>(hva.ext hW).fil.row.cellAt rfl j hjya 1 (by decide);have Hk0a:=Lib.hid hk0a;have Hk1a:=Lib.hid hk1a;have Hlen:Hid (∀ h:j<d.fs.length,d.fs[j].data.length=(ysa[j]).data.length):=fun h=>by simp only [←hya,List.getElem_map];rfl
  clear hk0a hk1a hva hya hfja hle;generalize ysa[j]=ya at *;have hdla:(0:Int)≤(ya.data.length:Int):=by omega
  rw [hkj] at hkn
  by_cases hn0:n<0
  ·rw [if_pos (.inl hn0)] at hcut;have Hcut:=Lib.hid hcut;clear hcut;go_enter Tryz.func100,Tryz.ntmps100
   go_wp2_with fail
   refine hkn.mono ?_;rintro e w1 ⟨rfl,hb⟩;have ka:=Hk0a.out w1 hb;have kb:=Hk1a.out w1 hb;have und1:=(Und.start Hd.out).ext hlt hb;go_wp2_with fail
   go_ret
   exact ⟨by rw [Hcut.out];rfl,by rw [Hcut.out];exact und1⟩
  ·by_cases hnl:(ya.data.length:Int)<n
   ·rw [if_pos (.inr hnl)] at hcut;have Hcut:=Lib.hid hcut;clear hcut;go_enter Tryz.func100,Tryz.ntmps100
    go_wp2_with fail
    refine hkn.mono ?_;rintro e w1 ⟨rfl,hb⟩;have ka:=Hk0a.out w1 hb;have kb:=Hk1a.out w1 hb;have und1:=(Und.start Hd.out).ext hlt hb;go_wp2_with fail
    go_ret
    exact ⟨by rw [Hcut.out];rfl,by rw [Hcut.out];exact und1⟩
   ·rw [if_neg (fun h=>h.elim hn0 hnl)] at hcut;obtain ⟨m,rfl⟩:∃ m:Nat,n=(m:Int):=⟨n.toNat,by omega⟩;have hml:m≤d.fs[j].data.length:=by rw [Hlen.out hj];omega
    have hr:cutD d s (m:Int)=stepD d fun l=>updD l j fun f=>⟨f.name,f.data.take m,min f.kept m⟩:=by rw [hcut];exact onD_yes hkj hix
    have HR:Hid (((powD d).1=false→cutD d s (m:Int)=(18,(powD d).2))∧((powD d).1=true→cutD d s (m:Int)=(0,{ (powD d).2 with fs:=updD d.fs j fun f=>⟨f.name,f.data.take m,min f.kept m⟩ }))):=⟨fun h=>by rw [hr];exact stepD_no h,fun h=>by rw [hr];exact stepD_yes h⟩;have Hml:=Lib.hid hml;have hm0:(0:Int)≤(m:Int):=by omega
    clear hn0 hcut hr hix hkj hml;have Hpf:=Lib.hid (powD_fs d);go_enter Tryz.func100,Tryz.ntmps100
    go_wp2_with fail
    refine hkn.mono ?_;rintro e w1 ⟨rfl,hb⟩;have ka:=Hk0a.out w1 hb;have kb:=Hk1a.out w1 hb;have hd1:=Hd.out.ext hb;have hpow:=dskPowerAt hd1 ok;rw [powE_eq] at hpow;go_wp2_with fail
    clear ka kb;refine hpow.mono ?_;rintro e w2 ⟨rfl,hd2,ch2⟩;have chA:Chg F w w2:=(Chg.of_below hb).step ch2;have undB:Und w F g (powD d).2 w2:=⟨hd2.mono (fun _=>.inl) (FF_lt hlt (by have:=hb.size;have:=ch2.size;omega)),chA⟩;clear hpow hd1 hd2 ch2 chA hb hkn
    cases hpw:(powD d).1 with
    | false =>
     have hs:=HR.out.1 hpw;have Hs:=Lib.hid hs;clear hs hpw;simp only [Bool.false_eq_true,if_false]
     go_wp2_with fail
     go_ret
     exact ⟨by rw [Hs.out];rfl,by rw [Hs.out];exact undB⟩
    | true =>
     have hs:=HR.out.2 hpw;have Hs:=Lib.hid hs;clear hs hpw;simp only [if_true]
     generalize hd1e:(powD d).2=d1 at *;clear hd1e;obtain ⟨v2,ys2,hv2,hy2⟩:=undB.1.open_;have hyd:ys2.map Ent.fil=d.fs:=by rw [hy2,Hpf.out]
     have Hyd:=Lib.hid hyd;have hjy:j<ys2.length:=by rw [DiskV.len_eq hyd];exact hj
     have hys:ys2.length≤1000000:=by rw [DiskV.len_eq hyd];exact hfs
     obtain ⟨gv,cap,rfl,_,_,hq1,hq2⟩:=hv2.fil.row.head (by omega);unfold maxLen at hq2;have k0:=hv2.blk.cell 0 _ rfl;have z0:=hv2.blk.frozen 0;have hji:(j:Int)<(ys2.length:Int):=by omega
     have hj0:(0:Int)≤(j:Int):=by omega
     clear hy2 hyd

     have hmem:ys2[j] ∈ ys2:=List.getElem_mem hjy;have hdat:=hv2.fil.data _ hmem;have hdl:(ys2[j]).data.length≤4194304:=by
      have h1:=totD_mem (l:=d.fs) (f:=(ys2[j]).fil) (by rw [←Hyd.out];exact List.mem_map.2 ⟨_,hmem,rfl⟩);have h2:(ys2[j]).fil.data.length=(ys2[j]).data.length:=rfl;omega
     have c21:w2.cell? ⟨gv,j * 3+1,none⟩=some (.slice ys2[j].p ys2[j].data.length ys2[j].c):=hv2.fil.row.cellAt rfl j hjy 1 (by decide);have c22:w2.cell? ⟨gv,j * 3+2,none⟩=some (.int .i64 ((ys2[j]).kept:Int)):=hv2.fil.row.cellAt rfl j hjy 2 (by decide);have f21:=hv2.fil.row.frozenAt rfl (j * 3+1);have f22:=hv2.fil.row.frozenAt rfl (j * 3+2);obtain ⟨y,hy⟩:∃ y,ys2[j]=y:=⟨_,rfl⟩;have Hy:=Lib.hid hy;have hfj:Hid (∀ h:j<d.fs.length,d.fs[j]=y.fil):=fun h=>by rw [←hy];simp only [←Hyd.out,List.getElem_map]
     rw [hy] at hdat hdl c21 c22;have hml:m≤y.data.length:=by have h1:=Hml.out;rw [hfj.out hj] at h1;exact h1
     obtain ⟨yp,yc,hyv,hsub,hown⟩:=cutV hdat hml;have hyp:y.p=yp∧y.c=yc:=by simp only [Ent.v,Value.slice.injEq,true_and] at hyv;exact hyv
     have hslc:=fun W=>run_sub_to tU8 (P:=Tryz.prog) hdat.bytes .i64 (m:Int) m rfl hml W;have hst1:=hv2.fil.row.stored rfl j hjy 1 (by decide) (.slice yp m yc) rfl ⟨y.name,yp,yc,y.data.take m,y.kept⟩ (by rw [hy];show [_,_,_]=_;rw [show (⟨y.name,yp,yc,y.data.take m,y.kept⟩:Ent).data.length=m from (by rw [List.length_take];omega)];rfl);have hst2:=hst1.1.stored (by simp) j (by simpa using hjy) 2 (by decide) (.int .i64 ((min y.kept m:Nat):Int)) rfl ⟨y.name,yp,yc,y.data.take m,min y.kept m⟩ (by rw [List.getElem_set_self];rfl);rw [List.set_set] at hst2
     have hset:=hv2.setEnt hjy (y:=⟨y.name,yp,yc,y.data.take m,min y.kept m⟩) (Chg.refl _ _) (by have h:=hown;unfold Ent.v;rw [List.length_take,Nat.min_eq_left hml];exact h) (.inl (by rw [hy];unfold Ent.v;rw [hyp.1];cases yp<;>rfl)) hst2.1 (grown_tr hst1.2 hst2.2);have hfin:=DiskV.seqU hset hlt undB.2;have hres:(ys2.set j ⟨y.name,yp,yc,y.data.take m,min y.kept m⟩).map Ent.fil=updD d.fs j fun f=>⟨f.name,f.data.take m,min f.kept m⟩:=by
      rw [map_set_fil,Hyd.out,updD_at hj,hfj.out hj];rfl
     have hu:∀ W,DiskAt W (FF F w W) g _∧Chg F w W→Und w F g (cutD d s (m:Int)).2 W:=fun W h=>by rw [Hs.out];exact h
     have Hfin:=Lib.hid (hu _ ⟨hfin.1.atFs hres,hfin.2⟩);clear hu;have hyv2:Value.slice y.p y.data.length y.c=.slice yp y.data.length yc:=hyv;rw [hyv2] at c21;have hslc2:∀ W,(Instr.slice 26 (.slice yp y.data.length yc) none (some (.int .i64 (m:Int))) none).run Tryz.prog W=.ok (.slice yp m yc) W:=fun W=>by rw [←hyv2];exact (hslc W).trans (by rw [hsub])
     have hmi:(m:Int)≤(y.data.length:Int):=by omega
     clear hset hst1 hst2 hfin hres hmem hdat hy hv2 undB hslc hsub hyv hyv2 hown
     by_cases hmk:m<y.kept
     ·have hmn:min y.kept m=m:=Nat.min_eq_right (Nat.le_of_lt hmk);rw [hmn] at Hfin;have hmk2:(m:Int)<(y.kept:Int):=by omega
      clear hmn;go_wp2_with fail
      go_ret
      exact ⟨by rw [Hs.out];rfl,Hfin.out⟩
     ·have hmn:min y.kept m=y.kept:=Nat.min_eq_left (by omega);rw [hmn] at Hfin;have hmk3:y.kept≤m:=by omega
      clear hmn;go_wp2_with fail
      go_ret
      exact ⟨by rw [Hs.out];rfl,Hfin.out⟩
end
end Go.Proofs.YtgpgcnmnfnnkjaaGreatDoor
