import Derived.Test.YtgpgcnmnfnnkjaaGreatDoorGStorePlays30
set_option linter.unusedVariables false
set_option linter.unusedSimpArgs false
set_option maxRecDepth 100000
set_option maxHeartbeats 16000000
namespace Go.Proofs.YtgpgcnmnfnnkjaaGreatDoor
section
open Go Go.RowKit Go.PlainAid BigFrame
def SegsR (w:World) (b:List UInt8) (e:Ending) (w':World):Prop:=∃ v,e=.returned (.tuple #[hrdA (readSeg b).h v,.int .i64 ((readSeg b).size:Int),.bool (readSeg b).whole])∧Rd etyE w' v (readSeg b).h.log∧(∀ k,v.ownBlock=some k→w.heap.size≤k)∧Below w.heap.size w w'
theorem read_stop0 {b:List UInt8} (h:Frm.errAt b 0≠0):readSeg b=sg0:=readS_stop (s:=sg0) h
theorem read_none0 {b:List UInt8} (h:Frm.errAt b 0=0) (ht:takeS sg0 (Frm.payAt b 0)=none):readSeg b=sg0:=readS_no (s:=sg0) h ht
theorem beg_take {p:List UInt8} (hk:(rNum (rd0 p)).1=1):takeS sg0 p=(begR p).map fun g=>⟨g,true,false,0⟩:=by
 have hpk:=parse_k hk;rw [if_pos rfl] at hpk;unfold takeS begR
 cases hp:parseR p with
 | none=>rfl
 | some r =>
  have hr:∃ g,r=.beg g:=by
   rw [hp] at hpk;unfold recBeg ended at hpk;dsimp only at hpk
   split at hpk
   ·exact ⟨_,Option.some.inj hpk⟩
   ·cases hpk
  obtain ⟨g,rfl⟩:=hr
  show beganS sg0 g=Option.map _ (if bareH g=true then some g else none)
  unfold beganS
  cases hb:bareH g with
  | true=>rw [if_pos ⟨rfl,rfl⟩,if_pos rfl];rfl
  | false=>rw [if_neg (fun h=>by cases h.2),if_neg (fun h=>by cases h)];rfl
theorem SegsR.fin {w wz:World} {b:List UInt8} {g:Nat} {v:Value} {s:Sg} (hz:HdV wz g (.slice none 0 0) hrd0) (hg:w.heap.size≤g) (hv:∀ k,v.ownBlock=some k→g<k) (hl:Rd etyE wz v s.h.log) (hs:s=readSeg b) (hb:Below w.heap.size w wz) :
 SegsR w b (.returned (.tuple #[hrdA s.h v,.int .i64 (s.size:Int),.bool s.whole])) (((((((wz.setCell ⟨g,0,none⟩ (.int .i64 s.h.term)).setCell ⟨g,1,none⟩ (.int .i64 s.h.vote)).setCell ⟨g,2,none⟩ (.int .i64 s.h.base)).setCell ⟨g,3,none⟩ (.int .i64 s.h.bterm)).setCell ⟨g,4,none⟩ (.int .i64 s.h.members)).setCell ⟨g,5,none⟩ (.string s.h.snap)).setCell ⟨g,6,none⟩ v):=by
 subst hs;obtain ⟨h1,h2⟩:=hz.fill (x:=(readSeg b).h) hl (fun e=>by have:=hv _ e;omega);exact ⟨v,rfl,h1.log,fun k hk=>by have:=hv k hk;omega,hb.trans (h2.below (fun k hk=>by rw [hk];exact hg) hb.size)⟩
theorem rkSegment (v:Value) (b:List UInt8) (w:World) (hv:Bytes w v b) (hb:b.length≤35184372088000) :
 Calls Tryz.prog 44 #[v] w (SegsR w b):=by
 obtain ⟨p,cap,rfl⟩:=hv.shape;have z0:HdV (w.alloc (.cells #[.int .i64 0,.int .i64 0,.int .i64 0,.int .i64 0,.int .i64 0,.string ⟨#[]⟩,.slice none 0 0] 24)) w.heap.size (.slice none 0 0) hrd0:=⟨Blk.new _ _ _,Rd.nil _,by simp [Value.ownBlock]⟩;have bA:=below_alloc w (.cells #[.int .i64 0,.int .i64 0,.int .i64 0,.int .i64 0,.int .i64 0,.string ⟨#[]⟩,.slice none 0 0] 24);have hvA:=hv.ext bA;have hsA:(w.alloc (.cells #[.int .i64 0,.int .i64 0,.int .i64 0,.int .i64 0,.int .i64 0,.string ⟨#[]⟩,.slice none 0 0] 24)).heap.size=w.heap.size+1:=by simp
 go_enter Tryz.func44,Tryz.ntmps44
 go_wp2_with fail
 generalize w.alloc (.cells #[.int .i64 0,.int .i64 0,.int .i64 0,.int .i64 0,.int .i64 0,.string ⟨#[]⟩,.slice none 0 0] 24)=wA at *;refine (refNext _ b 0 wA hvA (by omega)).mono ?_;rintro e w1 ⟨r,rfl,own1,b1⟩;have z1:=z0.ext b1;have hrl:∀ k,r.ownBlock=some k→k<w1.heap.size:=fun k hk=>(own1.lt k hk).2;have hb1:=bA.trans (b1.mono bA.size);have hs1:=b1.size
 by_cases he:Frm.errAt b 0=0
 case neg =>
  have hez:(((Frm.errAt b 0:Nat):Int) !=0)=true:=by simp;exact he
  have Hres:=Lib.hid (read_stop0 he);have y0:=z1.blk.cell 0 _ rfl;have f0:=z1.blk.frozen 0;have y1:=z1.blk.cell 1 _ rfl;have f1:=z1.blk.frozen 1;have y2:=z1.blk.cell 2 _ rfl;have f2:=z1.blk.frozen 2;have y3:=z1.blk.cell 3 _ rfl;have f3:=z1.blk.frozen 3;have y4:=z1.blk.cell 4 _ rfl;have f4:=z1.blk.frozen 4;have y5:=z1.blk.cell 5 _ rfl;have f5:=z1.blk.frozen 5;have y6:=z1.blk.cell 6 _ rfl;have f6:=z1.blk.frozen 6;clear own1 he;go_wp2_with fail
  refine bodyPost_ret (v:=.tuple #[hrdA hrd0 (.slice none 0 0),.int .i64 0,.bool false]) (by simp [results,Tryz.results44,go_sem,hrd0,sNone, *]) rfl ?_;exact SegsR.fin (s:=sg0) z1 (Nat.le_refl _) (by simp [Value.ownBlock]) (Rd.nil _) Hres.out.symm hb1
 have hez:(((Frm.errAt b 0:Nat):Int) !=0)=false:=by rw [he];rfl
 obtain ⟨n,hn,hn9,hnb,hpl⟩:=frm_in (a:=0) (Nat.zero_le _) he;have He:=Lib.hid he;rw [show ((0:Nat):Int)=0 from rfl] at hn hpl;rw [hn];clear he;have bB:=below_alloc w1 (.cells #[.int .i64 0,.int .i64 0,.int .i64 0,.int .i64 0,.int .i64 0,.string ⟨#[]⟩,.slice none 0 0] 24);have hg8:HdV (w1.alloc (.cells #[.int .i64 0,.int .i64 0,.int .i64 0,.int .i64 0,.int .i64 0,.string ⟨#[]⟩,.slice none 0 0] 24)) w1.heap.size (.slice none 0 0) hrd0:=⟨Blk.new _ _ _,Rd.nil _,by simp [Value.ownBlock]⟩;have z2:=z1.ext bB;have own2:=own1.ext bB;have hb2:=hb1.trans (bB.mono hb1.size)
 have hsB:(w1.alloc (.cells #[.int .i64 0,.int .i64 0,.int .i64 0,.int .i64 0,.int .i64 0,.string ⟨#[]⟩,.slice none 0 0] 24)).heap.size=w1.heap.size+1:=by simp
 go_wp2_with fail
 generalize w1.alloc (.cells #[.int .i64 0,.int .i64 0,.int .i64 0,.int .i64 0,.int .i64 0,.string ⟨#[]⟩,.slice none 0 0] 24)=wB at *;have hg0:w.heap.size<w1.heap.size:=by omega
 generalize w1.heap.size=g8 at *;clear z0 z1 bA bB hvA hsA own1 hb1 b1 hs1;refine (rkRead r _ wB own2.bytes (by omega)).mono ?_;rintro e w3 ⟨gr,vr,rfl,hr,hgr,hvr,b3⟩;go_wp2_with fail
 refine (rkRNum gr vr _ w3 hr).mono ?_;rintro e w4 ⟨rfl,hr4,ch4⟩;have b4:Below wB.heap.size wB w4:=b3.trans (ch4.below (fun k hk=>by rw [hk];exact hgr) b3.size);have z4:=z2.ext b4;have hg4:=hg8.ext b4;have own4:=own2.ext b4;have hb4:=hb2.trans (b4.mono hb2.size);clear z2 hg8 own2 hb2 b3 ch4 hr hr4
 by_cases hk:(rNum (rd0 (Frm.payAt b 0))).1=1
 case neg =>
  have hkz:((rNum (rd0 (Frm.payAt b 0))).1 !=1)=true:=by simpa using hk
  have Hres:=Lib.hid (read_none0 He.out (takeS_unbegun SgOk.zero rfl hk));have y0:=z4.blk.cell 0 _ rfl;have f0:=z4.blk.frozen 0;have y1:=z4.blk.cell 1 _ rfl;have f1:=z4.blk.frozen 1;have y2:=z4.blk.cell 2 _ rfl;have f2:=z4.blk.frozen 2;have y3:=z4.blk.cell 3 _ rfl;have f3:=z4.blk.frozen 3;have y4:=z4.blk.cell 4 _ rfl;have f4:=z4.blk.frozen 4;have y5:=z4.blk.cell 5 _ rfl;have f5:=z4.blk.frozen 5;have y6:=z4.blk.cell 6 _ rfl;have f6:=z4.blk.frozen 6;clear hk;go_wp2_with fail
  refine bodyPost_ret (v:=.tuple #[hrdA hrd0 (.slice none 0 0),.int .i64 0,.bool false]) (by simp [results,Tryz.results44,go_sem,hrd0,sNone, *]) rfl ?_;exact SegsR.fin (s:=sg0) z4 (Nat.le_refl _) (by simp [Value.ownBlock]) (Rd.nil _) Hres.out.symm hb4
 have hkz:((rNum (rd0 (Frm.payAt b 0))).1 !=1)=false:=by rw [hk];rfl
 have Hk:=Lib.hid hk;clear hk;have y0:=hg4.blk.cell 0 _ rfl;have f0:=hg4.blk.frozen 0;have y1:=hg4.blk.cell 1 _ rfl;have f1:=hg4.blk.frozen 1;have y2:=hg4.blk.cell 2 _ rfl;have f2:=hg4.blk.frozen 2;have y3:=hg4.blk.cell 3 _ rfl;have f3:=hg4.blk.frozen 3;have y4:=hg4.blk.cell 4 _ rfl;have f4:=hg4.blk.frozen 4;have y5:=hg4.blk.cell 5 _ rfl;have f5:=hg4.blk.frozen 5;have y6:=hg4.blk.cell 6 _ rfl;have f6:=hg4.blk.frozen 6;obtain ⟨hg5,ch5⟩:=hg4.fill (x:=⟨0, -1,0,0,1,sNone,[]⟩) (v':=.slice none 0 0) (Rd.nil _) (by simp [Value.ownBlock]);have z5:=z4.chg ch5 (by omega) (by simp [Value.ownBlock])
 have own5:=ch5.ownB own4 (fun k hk e=>by have:=hrl k hk;omega);have hb5:=hb4.trans (ch5.below (fun k hk=>by rw [hk];omega) hb4.size);have hbg:=rkBegun hg5 (Nat.le_refl g8) (by simp [Value.ownBlock]) r (Frm.payAt b 0) own5.bytes (by omega) Hk.out;have kz5:=z5.blk;clear hg4 ch5 z5 z4 own4 own5 hb4 hg5;go_wp2_with fail
 dsimp only [sNone] at hbg hb5 kz5;generalize hw5:((((((w4.setCell ⟨g8,0,none⟩ (.int .i64 0)).setCell ⟨g8,1,none⟩ (.int .i64 (-1))).setCell ⟨g8,2,none⟩ (.int .i64 0)).setCell ⟨g8,3,none⟩ (.int .i64 0)).setCell ⟨g8,4,none⟩ (.int .i64 1)).setCell ⟨g8,5,none⟩ (.string ⟨#[]⟩)).setCell ⟨g8,6,none⟩ (.slice none 0 0)=w5 at *;clear hw5 y0 f0 y1 f1 y2 f2 y3 f3 y4 f4 y5 f5 y6 f6;refine hbg.mono ?_;rintro e w6 ⟨rfl,⟨v6,hd6,hv6⟩,b6⟩;have kz6:=kz5.below b6 hg0;have hb6:=hb5.trans (b6.mono (by omega));clear kz5 hbg hb5;have hbt:=beg_take Hk.out
 cases hbeg:begR (Frm.payAt b 0) with
 | none =>
  rw [hbeg] at hbt;have Hres:=Lib.hid (read_none0 He.out hbt);clear hbt hbeg hd6;have y0:=kz6.cell 0 _ rfl;have f0:=kz6.frozen 0;have y1:=kz6.cell 1 _ rfl;have f1:=kz6.frozen 1;have y2:=kz6.cell 2 _ rfl;have f2:=kz6.frozen 2;have y3:=kz6.cell 3 _ rfl;have f3:=kz6.frozen 3;have y4:=kz6.cell 4 _ rfl;have f4:=kz6.frozen 4;have y5:=kz6.cell 5 _ rfl;have f5:=kz6.frozen 5;have y6:=kz6.cell 6 _ rfl;have f6:=kz6.frozen 6;go_wp2_with fail
  refine bodyPost_ret (v:=.tuple #[hrdA hrd0 (.slice none 0 0),.int .i64 0,.bool false]) (by simp [results,Tryz.results44,go_sem,hrd0,sNone, *]) rfl ?_;exact SegsR.fin (s:=sg0) ⟨kz6,Rd.nil _,by simp [Value.ownBlock]⟩ (Nat.le_refl _) (by simp [Value.ownBlock]) (Rd.nil _) Hres.out.symm hb6
 | some g1 =>
  rw [hbeg] at hbt hd6;replace hd6:HdV w6 g8 v6 g1:=hd6;have hread:readS b.length b ⟨g1,true,false,n⟩=readSeg b:=by
   have h1:=readS_go (f:=b.length) (s:=sg0) (t:=⟨g1,true,false,0⟩) He.out hbt;rw [show ((sg0.size:Nat):Int)=0 from rfl,hn,Int.toNat_natCast] at h1;exact h1.symm
  have hok1:SgOk ⟨g1,true,false,n⟩:=by
   have h1:=(SgOk.zero.step hbt).size n;exact h1
  have Hread:=Lib.hid hread;have Hok1:=Lib.hid hok1;clear hbt hbeg hread hok1 He Hk hn;go_wp2_with fail
  go_loopw [6,10] (fun a o wr=>∃ (s:Sg) (f:Nat) (v:Value),a=.int .i64 (s.size:Int)∧o=.bool (!s.whole)∧HdV wr g8 v s.h∧(∀ k,v.ownBlock=some k→g8≤k)∧Hid (SgOk s)∧Hid (s.begun=true)∧Blk wr w.heap.size (hrdC hrd0 (.slice none 0 0)) 24∧s.size≤b.length∧Hid (readS f b s=readSeg b)∧b.length - s.size<f∧Below g8 w6 wr) (fun a _ _=>b.length - (intOf a).toNat)
  case atStart=>exact ⟨⟨g1,true,false,n⟩,b.length,v6,rfl,rfl,hd6,hv6,Hok1,rfl,kz6,hnb,Hread,by show b.length - n<b.length;omega,Below.refl _ _⟩
  case round =>
   obtain ⟨s,f,vs,rfl,rfl,hd,hvs,ok,hbgn,kz,hsz,hrd,hf,hbw⟩:=hrel;have hbr:=hb6.trans (hbw.mono (by omega));have hvr2:=hv.ext hbr;clear hd6 hv6 kz6;obtain ⟨pv,cv,rfl⟩:=hd.log.shape;go_wp2_with fail
   refine (refNext _ b (s.size:Int) wr hvr2 (by omega)).mono ?_;rintro e w7 ⟨r7,rfl,own7,b7⟩;have hd7:=hd.ext b7;have kz7:=kz.ext b7;have hb7:=hbr.trans (b7.mono hbr.size);have hbw7:=hbw.trans (b7.mono (by have:=hd.blk.lt;omega))
   by_cases he:Frm.errAt b (s.size:Int)=0
   case neg =>
    have hez:(((Frm.errAt b (s.size:Int):Nat):Int) !=0)=true:=by simp;exact he
    have Hres:=Lib.hid ((readS_stop (f:=f) he).symm.trans hrd.out);have c0:=hd7.blk.cell 0 _ rfl;have c1:=hd7.blk.cell 1 _ rfl;have c2:=hd7.blk.cell 2 _ rfl;have c3:=hd7.blk.cell 3 _ rfl;have c4:=hd7.blk.cell 4 _ rfl;have c5:=hd7.blk.cell 5 _ rfl;have c6:=hd7.blk.cell 6 _ rfl;have y0:=kz7.cell 0 _ rfl;have ff0:=kz7.frozen 0;have y1:=kz7.cell 1 _ rfl;have f1:=kz7.frozen 1;have y2:=kz7.cell 2 _ rfl;have f2:=kz7.frozen 2;have y3:=kz7.cell 3 _ rfl;have f3:=kz7.frozen 3;have y4:=kz7.cell 4 _ rfl;have f4:=kz7.frozen 4;have y5:=kz7.cell 5 _ rfl;have f5:=kz7.frozen 5;have y6:=kz7.cell 6 _ rfl
    have f6:=kz7.frozen 6;have Hd7:=Lib.hid hd7;have Hk7:=Lib.hid kz7;clear own7 he hd hd7 kz kz7 hvr2 hv;go_wp2_with fail
    refine bodyPost_ret (v:=.tuple #[hrdA s.h (.slice pv s.h.log.length cv),.int .i64 (s.size:Int),.bool s.whole]) (by simp [results,Tryz.results44,go_sem, *]) rfl ?_;exact SegsR.fin (s:=s) ⟨Hk7.out,Rd.nil _,by simp [Value.ownBlock]⟩ (Nat.le_refl _) (fun k hk=>by have:=hvs k hk;omega) Hd7.out.log Hres.out hb7
   have hez:(((Frm.errAt b (s.size:Int):Nat):Int) !=0)=false:=by rw [he];rfl
   obtain ⟨n2,hn2,hn9,hnb2,hpl2⟩:=frm_in hsz he;rw [hn2];have He:=Lib.hid he;have Hn2:=Lib.hid hn2;clear he hn2;go_wp2_with fail
   refine (rkTake hd7 (Nat.le_refl g8) hvs (ok.out.bare hbgn.out) ok.out.snap r7 (Frm.payAt b s.size) own7.bytes (by omega) (!s.whole)).mono ?_;rintro e w8 ⟨rfl,⟨v8,hd8,hv8⟩,b8⟩;have kz8:=kz7.below b8 hg0;have hb8:=hb7.trans (b8.mono (by omega));have hbw8:=hbw7.trans b8;clear hd7 kz7 hd kz own7 hvr2
   cases ht:takeR s.h (!s.whole) (Frm.payAt b s.size) with
   | none =>
    rw [ht] at hd8;replace hd8:HdV w8 g8 v8 s.h:=hd8;have Hres:=Lib.hid ((readS_no (f:=f) He.out (take_none ok.out hbgn.out ht)).symm.trans hrd.out);obtain ⟨p8,c8,rfl⟩:=hd8.log.shape;have c0:=hd8.blk.cell 0 _ rfl;have c1:=hd8.blk.cell 1 _ rfl;have c2:=hd8.blk.cell 2 _ rfl;have c3:=hd8.blk.cell 3 _ rfl;have c4:=hd8.blk.cell 4 _ rfl;have c5:=hd8.blk.cell 5 _ rfl;have c6:=hd8.blk.cell 6 _ rfl;have y0:=kz8.cell 0 _ rfl;have ff0:=kz8.frozen 0;have y1:=kz8.cell 1 _ rfl;have f1:=kz8.frozen 1;have y2:=kz8.cell 2 _ rfl;have f2:=kz8.frozen 2;have y3:=kz8.cell 3 _ rfl;have f3:=kz8.frozen 3
    have y4:=kz8.cell 4 _ rfl;have f4:=kz8.frozen 4;have y5:=kz8.cell 5 _ rfl;have f5:=kz8.frozen 5;have y6:=kz8.cell 6 _ rfl;have f6:=kz8.frozen 6;have Hd8:=Lib.hid hd8;have Hk8:=Lib.hid kz8;clear ht hd8 kz8 hv;go_wp2_with fail
    refine bodyPost_ret (v:=.tuple #[hrdA s.h (.slice p8 s.h.log.length c8),.int .i64 (s.size:Int),.bool s.whole]) (by simp [results,Tryz.results44,go_sem, *]) rfl ?_;exact SegsR.fin (s:=s) ⟨Hk8.out,Rd.nil _,by simp [Value.ownBlock]⟩ (Nat.le_refl _) (fun k hk=>by have:=hv8 k hk;omega) Hd8.out.log Hres.out hb8
   | some gk =>
    obtain ⟨g,k⟩:=gk;rw [ht] at hd8;obtain ⟨t,ht2,th,tb,tw,hk0⟩:=take_some ok.out hbgn.out ht;replace hd8:HdV w8 g8 v8 t.h:=by rw [th];exact hd8
    obtain ⟨f',rfl⟩:∃ f',f=f'+1:=⟨f - 1,by omega⟩;have hres:=(readS_go (f:=f') He.out ht2).symm.trans hrd.out;rw [Hn2.out,Int.toNat_natCast] at hres;have Hres:=Lib.hid hres;have Hok:=Lib.hid ((ok.out.step ht2).size n2);have hkz:(k == 0)=false:=by simpa using hk0
    have Tw:=Lib.hid tw;have Tb:=Lib.hid tb;clear ht hres ht2 tw tb th hk0
    by_cases hk3:k=3
    ·have hki:(k == 3)=true:=by simpa using hk3
     have hwh:t.whole=true:=by rw [Tw.out,hk3];simp
     have Hwh:=Lib.hid hwh;clear hk3 hwh;go_wp2_with fail
     go_roundw
     case rel=>exact ⟨{ t with size:=n2 },f',v8,rfl,by rw [Hwh.out];rfl,hd8,hv8,Hok,Tb,kz8,hnb2,Hres,by show b.length - n2<f';omega,hbw8⟩
     case measure=>simp [intOf];omega
    ·have hki:(k == 3)=false:=by simpa using hk3
     have hwh:t.whole=s.whole:=by rw [Tw.out,decide_eq_false hk3,Bool.or_false]
     have Hwh:=Lib.hid hwh;clear hk3 hwh;go_wp2_with fail
     go_roundw
     case rel=>exact ⟨{ t with size:=n2 },f',v8,rfl,by rw [Hwh.out],hd8,hv8,Hok,Tb,kz8,hnb2,Hres,by show b.length - n2<f';omega,hbw8⟩
     case measure=>simp [intOf];omega

end
end Go.Proofs.YtgpgcnmnfnnkjaaGreatDoor
