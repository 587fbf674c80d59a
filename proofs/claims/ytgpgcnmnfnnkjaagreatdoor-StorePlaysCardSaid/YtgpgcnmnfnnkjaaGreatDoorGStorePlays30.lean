import Derived.Test.YtgpgcnmnfnnkjaaGreatDoorGStorePlays29
import Derived.Deep.CutRange
set_option linter.unusedVariables false
set_option linter.unusedSimpArgs false
set_option maxRecDepth 100000
set_option maxHeartbeats 16000000
namespace Go.Proofs.YtgpgcnmnfnnkjaaGreatDoor
section
open Go Go.RowKit Go.PlainAid BigFrame
def TakesR (w:World) (B gh:Nat) (h:Hrd) (opn:Bool) (p:List UInt8) (e:Ending) (w':World):Prop :=
 e=.returned (.int .i64 (match takeR h opn p with | none=>0 | some x=>x.2))∧(∃ v,HdV w' gh v (match takeR h opn p with | none=>h | some x=>x.1)∧∀ k,v.ownBlock=some k→B≤k)∧Below B w w'
theorem TakesR.no {w w':World} {B gh:Nat} {vh:Value} {h:Hrd} {opn:Bool} {p:List UInt8} (hd:HdV w gh vh h) (hv:∀ k,vh.ownBlock=some k→B≤k) (hB:B≤w.heap.size) (ht:takeR h opn p=none) (hb:Below w.heap.size w w'):TakesR w B gh h opn p (.returned (.int .i64 0)) w':=by
 unfold TakesR;rw [ht];exact ⟨rfl,⟨_,hd.ext hb,hv⟩,hb.mono hB⟩
theorem takeR_step {h g:Hrd} {o:Bool} {p:List UInt8} {r:Rec} {k:Int} (hp:parseR p=some r) (hn:docNext h r=some g) (hk:r.kind=k):takeR h o p=if docOk g o k then some (g,k) else none:=by
 rw [takeR_rec hp];unfold docStep;rw [hn,hk]
 show Option.map _ (if docOk g o k=true then some g else none)=_
 split<;>rfl
theorem takeR_gone {h:Hrd} {o:Bool} {p:List UInt8} {r:Rec} (hp:parseR p=some r) (hn:docNext h r=none):takeR h o p=none:=by
 rw [takeR_rec hp];unfold docStep;rw [hn];rfl
structure TkMid (w0 wi:World) (gr gg:Nat) (vr:Value) (h:Hrd) (opn:Bool) (p:List UInt8) (kd:Int) (rx:Rdr) (g:Hrd) (sx:ByteArray) (px:Option Addr) (cx:Nat):Prop where
 tk:TkD w0 wi gr gg vr (.slice px g.log.length cx) rx (hrdC { g with snap:=sx } (.slice px g.log.length cx)) g.log
 rt:rightH { g with snap:=sx }=bareH g
 yes:(rEnd rx).1=0→takeR h opn p=if docOk g opn kd then some (g,kd) else none
 no:¬ (rEnd rx).1=0→takeR h opn p=none
 sn:g.snap=sNone
def sxOf (h:Hrd):ByteArray:=if h.base=0 then sNone else sX
theorem sxOf_right {h g:Hrd} (e:g.base=h.base):rightH { g with snap:=sxOf h }=bareH g:=by
 have:=right_x g;unfold withX at this;unfold sxOf;rw [←e];exact this
theorem rkTake {w:World} {B gh:Nat} {vh:Value} {h:Hrd} (hd:HdV w gh vh h) (hB0:B≤gh) (hv0:∀ k,vh.ownBlock=some k→B≤k) (hbare:bareH h=true) (hsn:h.snap=sNone) (vp:Value) (p:List UInt8) (hp:Bytes w vp p) (hpl:p.length≤35184372088000) (opn:Bool) :
 Calls Tryz.prog 89 #[.pointer (some ⟨gh,0,none⟩),vp,.bool opn] w (TakesR w B gh h opn p):=by
 obtain ⟨⟨q1,q2,q3,q4,q5,q6,q7,q8,q9,q10,q11⟩,hlen,hli,_⟩:=(bareH_all h).1 hbare;have Hsn:=Lib.hid hsn;clear hsn;have hgl:=hd.blk.lt;have hBw:B≤w.heap.size:=by omega
 go_enter Tryz.func89,Tryz.ntmps89
 go_wp2_with fail
 refine (rkRead vp p w hp hpl).mono ?_;rintro e w1 ⟨gr,vr,rfl,hr,hgr,hvr,b1⟩;have grl:=hr.blk.lt;go_wp2_with fail
 refine (rkRNum gr vr (rd0 p) w1 hr).mono ?_;rintro e w2 ⟨rfl,hr2,ch2⟩;have b2:Below w.heap.size w w2:=b1.trans (ch2.below (fun k hk=>by rw [hk];exact hgr) b1.size);have hs12:=ch2.size;have hin1:=rNum_in (rNum (rd0 p)).2;have hpk:=parse_k (p:=p) rfl;generalize hq0:rNum (rd0 p)=q0 at *;obtain ⟨kd,r1⟩:=q0;dsimp only at *;have Hpk:=Lib.hid hpk;clear hpk hq0 ch2 hr;have hd2:=hd.ext b2;obtain ⟨k0,k1,k2,k3,k4,k5,k6⟩:=hd2.c;have hvr2:∀ k,vr.ownBlock=some k→k<w2.heap.size:=fun k hk=>Nat.lt_of_lt_of_le (hvr k hk).2 hs12;have hgl2:gh<w2.heap.size:=by have:=b2.size;omega
 have hgr2:gr<w2.heap.size:=by omega
 obtain ⟨ph,ch,rfl⟩:=hd.log.shape;have bA:=below_alloc w2 (.cells #[.int .i64 h.term,.int .i64 h.vote,.int .i64 h.base,.int .i64 h.bterm,.int .i64 h.members,.string h.snap,.slice ph h.log.length ch] 24);have kA:=Blk.new w2 #[.int .i64 h.term,.int .i64 h.vote,.int .i64 h.base,.int .i64 h.bterm,.int .i64 h.members,.string h.snap,.slice ph h.log.length ch] 24;have hsA:(w2.alloc (.cells #[.int .i64 h.term,.int .i64 h.vote,.int .i64 h.base,.int .i64 h.bterm,.int .i64 h.members,.string h.snap,.slice ph h.log.length ch] 24)).heap.size=w2.heap.size+1:=by simp
 have bE:=below_alloc (w2.alloc (.cells #[.int .i64 h.term,.int .i64 h.vote,.int .i64 h.base,.int .i64 h.bterm,.int .i64 h.members,.string h.snap,.slice ph h.log.length ch] 24)) (.cells #[] 73)
 have ownE:OwnR etyE ((w2.alloc (.cells #[.int .i64 h.term,.int .i64 h.vote,.int .i64 h.base,.int .i64 h.bterm,.int .i64 h.members,.string h.snap,.slice ph h.log.length ch] 24)).alloc (.cells #[] 73)) w.heap.size 73 (.slice (some ⟨w2.heap.size+1,0,none⟩) 0 0) []:=OwnR.litAt etyE (w2.alloc (.cells #[.int .i64 h.term,.int .i64 h.vote,.int .i64 h.base,.int .i64 h.bterm,.int .i64 h.members,.string h.snap,.slice ph h.log.length ch] 24)) #[] 73 [] 0 w.heap.size (w2.heap.size+1) hsA rfl rfl (Nat.zero_le _) (by have:=b2.size;omega);have bAE:=bA.trans (bE.mono (by omega));have kE:=kA.ext bE
 have hlogE:=hd2.log.ext bAE;have hrE:=hr2.ext bAE;have bwE:Below w.heap.size w ((w2.alloc (.cells #[.int .i64 h.term,.int .i64 h.vote,.int .i64 h.base,.int .i64 h.bterm,.int .i64 h.members,.string h.snap,.slice ph h.log.length ch] 24)).alloc (.cells #[] 73)):=b2.trans (bAE.mono b2.size);have hBE:=bwE.size;have hx1:∀ k,vr.ownBlock=some k→k<((w2.alloc (.cells #[.int .i64 h.term,.int .i64 h.vote,.int .i64 h.base,.int .i64 h.bterm,.int .i64 h.members,.string h.snap,.slice ph h.log.length ch] 24)).alloc (.cells #[] 73)).heap.size:=fun k hk=>Nat.lt_of_lt_of_le (hvr2 k hk) bAE.size
 have T2:TkD w ((w2.alloc (.cells #[.int .i64 h.term,.int .i64 h.vote,.int .i64 h.base,.int .i64 h.bterm,.int .i64 h.members,.string h.snap,.slice ph h.log.length ch] 24)).alloc (.cells #[] 73)) gr w2.heap.size vr (.slice (some ⟨w2.heap.size+1,0,none⟩) 0 0) r1 #[.int .i64 h.term,.int .i64 h.vote,.int .i64 h.base,.int .i64 h.bterm,.int .i64 h.members,.string h.snap,.slice ph h.log.length ch] [] :=
  ⟨hrE, kE, ownE, by omega, fun e => by have := hvr2 _ e; omega, fun e => by have e1 : w2.heap.size + 1 = gr := by simpa [Value.ownBlock] using e
                                                                             omega, fun e => by simp [Value.ownBlock] at e, fun k hk e => by have e1 : w2.heap.size + 1 = k := by simpa [Value.ownBlock] using e
                                                                                                                                             have := hvr2 _ hk; omega, hgr, b2.size, bwE⟩
 go_upto_if 31 with ((first
  | (at_builtin;go_loud (refine wpList_appW tEty rfl rfl ownE rfl hlogE rfl (by simp only [List.length_nil];omega) hBE ?_;intro v3 w3 own3 g3 b3 hw3;replace own3:OwnR etyE w3 w.heap.size 73 v3 h.log:=OwnR.of own3 (by simp) (by simp [Enc.all]);obtain ⟨p3,c3,rfl⟩:=own3.rd.shape;have T3:=T2.app hx1 g3 b3 own3 hw3;have j2:=T3.blk.cell 2 _ rfl;have j5:=T3.blk.cell 5 _ rfl;have j6:=T3.blk.cell 6 _ rfl;have z5:=T3.blk.frozen 5;have z6:=T3.blk.frozen 6))
  | fail))
 have T4:=T3.set 6 (.slice p3 h.log.length c3);have T5:TkD w _ gr w2.heap.size vr (.slice p3 h.log.length c3) r1 #[.int .i64 h.term,.int .i64 h.vote,.int .i64 h.base,.int .i64 h.bterm,.int .i64 h.members,.string ⟨#[120]⟩,.slice p3 h.log.length c3] h.log:=T4.set 5 (.string ⟨#[120]⟩);clear T3 T4 z6 j6 g3 b3 hw3 own3 kE hlogE hrE ownE bAE bE kA bA hsA;generalize hgg:w2.heap.size=gg at *;clear hgg
 go_cut [] from 14 (fun wi=>TkD w wi gr gg vr (.slice p3 h.log.length c3) r1 (hrdC { h with snap:=sxOf h } (.slice p3 h.log.length c3)) h.log)
 case first =>
  by_cases hz:h.base=0
  ·have hzi:(h.base == 0)=true:=by simpa using hz
   have e5:=T5.blk.cell 5 _ rfl;have g5:=T5.blk.frozen 5;have T6:=T5.set 5 (.string ⟨#[]⟩);have Hs:=Lib.hid (show sxOf h=⟨#[]⟩ from if_pos hz);have H6:=Lib.hid T6;clear T5 T6 hz;go_wp2_with fail
   go_meet
   rw [Hs.out];exact H6.out
  ·have hzi:(h.base == 0)=false:=by simpa using hz
   have Hs:=Lib.hid (show sxOf h=⟨#[120]⟩ from if_neg hz);have H6:=Lib.hid T5;clear T5 hz;go_wp2_with fail
   go_meet
   rw [Hs.out];exact H6.out
 case rest =>

 have T6:TkD w wc gr gg vr (.slice p3 h.log.length c3) r1 (hrdC { h with snap:=sxOf h } (.slice p3 h.log.length c3)) h.log:=hcut;clear hcut T5 T2 hx1 hBE bwE j2 j5 z5 k0 k1 k2 k3 k4 k5 k6 hd2 hr2 b1 b2 hvr hp;have hx2:∀ k,vr.ownBlock=some k→k<wc.heap.size:=fun k hk=>Nat.lt_trans (hvr2 k hk) T6.blk.lt;clear hvr2;have hgw:w.heap.size≤gg:=T6.lg;obtain ⟨x6,hx6⟩:∃ z,z=wc:=⟨_,rfl⟩;subst hx6;have hnone:(¬ kd=1∧¬ kd=2∧¬ kd=3∧¬ kd=4∧¬ kd=5)→takeR h opn p=none:=fun hh=>takeR_bad (by rw [Hpk.out,if_neg hh.1,if_neg hh.2.1,if_neg hh.2.2.1,if_neg hh.2.2.2.1,if_neg hh.2.2.2.2]);have Hnone:=Lib.hid hnone
 clear hnone
 go_upto_block 0 with (fail)
 go_cut [] from 14 (fun wi=>∃ rx g sx px cx,TkMid w wi gr gg vr h opn p kd rx g sx px cx)
 case first =>
  by_cases hk1:kd=1
  ·subst hk1;have hpk:parseR p=recBeg r1:=Hpk.out.trans (if_pos rfl);have Hpk1:=Lib.hid hpk;clear hpk Hpk Hnone;go_wp2_with fail
   refine T6.num.mono ?_;rintro e x0 ⟨rfl,S0,_⟩;generalize hq1:rNum r1=q1 at *;obtain ⟨n1,r2⟩:=q1;dsimp only at *;have Q1:=Lib.hid hq1;clear hq1 T6;have c0:=S0.blk.cell 0 _ rfl;have z0:=S0.blk.frozen 0;have c1:=S0.blk.cell 1 _ rfl;have z1:=S0.blk.frozen 1;have c2:=S0.blk.cell 2 _ rfl;have z2:=S0.blk.frozen 2;have c3':=S0.blk.cell 3 _ rfl;have z3:=S0.blk.frozen 3;have c4:=S0.blk.cell 4 _ rfl;have z4:=S0.blk.frozen 4;have c5:=S0.blk.cell 5 _ rfl;have z5:=S0.blk.frozen 5;have c6:=S0.blk.cell 6 _ rfl;have z6:=S0.blk.frozen 6
   have U0:TkD w (((((((x0.setCell ⟨gg,0,none⟩ (.int .i64 n1)).setCell ⟨gg,1,none⟩ (.int .i64 0)).setCell ⟨gg,2,none⟩ (.int .i64 0)).setCell ⟨gg,3,none⟩ (.int .i64 0)).setCell ⟨gg,4,none⟩ (.int .i64 0)).setCell ⟨gg,5,none⟩ (.string ⟨#[]⟩)).setCell ⟨gg,6,none⟩ (.slice none 0 0)) gr gg vr (.slice none 0 0) r2 #[.int .i64 n1,.int .i64 0,.int .i64 0,.int .i64 0,.int .i64 0,.string ⟨#[]⟩,.slice none 0 0] [] :=
    (((((((S0.log (OwnR.nil x0 _ _) (by simp [Value.ownBlock]) (by simp [Value.ownBlock]) (by simp [Value.ownBlock])).set 0 (.int .i64 n1)).set 1 (.int .i64 0)).set 2 (.int .i64 0)).set 3 (.int .i64 0)).set 4 (.int .i64 0)).set 5 (.string ⟨#[]⟩)).set 6 (.slice none 0 0)
   clear S0;go_wp2_with fail
   generalize ((((((x0.setCell ⟨gg,0,none⟩ (.int .i64 n1)).setCell ⟨gg,1,none⟩ (.int .i64 0)).setCell ⟨gg,2,none⟩ (.int .i64 0)).setCell ⟨gg,3,none⟩ (.int .i64 0)).setCell ⟨gg,4,none⟩ (.int .i64 0)).setCell ⟨gg,5,none⟩ (.string ⟨#[]⟩)).setCell ⟨gg,6,none⟩ (.slice none 0 0)=w4 at *;clear c0 c1 c2 c3' c4 c5 c6 z0 z1 z2 z3 z4 z5 z6;refine U0.num.mono ?_;rintro e x1 ⟨rfl,S1,_⟩;generalize hq2:rNum r2=q2 at *;obtain ⟨n2,r3⟩:=q2;dsimp only at *;have Q2:=Lib.hid hq2;have y1:=S1.blk.cell 1 _ rfl;have z1:=S1.blk.frozen 1
   have U1:TkD w (x1.setCell ⟨gg,1,none⟩ (.int .i64 n2)) gr gg vr (.slice none 0 0) r3 #[.int .i64 n1,.int .i64 n2,.int .i64 0,.int .i64 0,.int .i64 0,.string ⟨#[]⟩,.slice none 0 0] []:=S1.set 1 (.int .i64 n2);clear hq2;go_wp2_with fail
   generalize x1.setCell ⟨gg,1,none⟩ (.int .i64 n2)=w5 at *;clear y1 z1 S1 U0;refine U1.num.mono ?_;rintro e x2 ⟨rfl,S2,_⟩;generalize hq3:rNum r3=q3 at *;obtain ⟨n3,r4⟩:=q3;dsimp only at *;have Q3:=Lib.hid hq3;have y2:=S2.blk.cell 2 _ rfl;have z2:=S2.blk.frozen 2;have U2:TkD w (x2.setCell ⟨gg,2,none⟩ (.int .i64 n3)) gr gg vr (.slice none 0 0) r4 #[.int .i64 n1,.int .i64 n2,.int .i64 n3,.int .i64 0,.int .i64 0,.string ⟨#[]⟩,.slice none 0 0] []:=S2.set 2 (.int .i64 n3);clear hq3;go_wp2_with fail
   generalize x2.setCell ⟨gg,2,none⟩ (.int .i64 n3)=w6 at *;clear y2 z2 S2 U1;refine U2.num.mono ?_;rintro e x3 ⟨rfl,S3,_⟩;generalize hq4:rNum r4=q4 at *;obtain ⟨n4,r5⟩:=q4;dsimp only at *;have Q4:=Lib.hid hq4;have y3:=S3.blk.cell 3 _ rfl;have z3:=S3.blk.frozen 3;have U3:TkD w (x3.setCell ⟨gg,3,none⟩ (.int .i64 n4)) gr gg vr (.slice none 0 0) r5 #[.int .i64 n1,.int .i64 n2,.int .i64 n3,.int .i64 n4,.int .i64 0,.string ⟨#[]⟩,.slice none 0 0] []:=S3.set 3 (.int .i64 n4);clear hq4;go_wp2_with fail
   generalize x3.setCell ⟨gg,3,none⟩ (.int .i64 n4)=w7 at *;clear y3 z3 S3 U2;refine U3.num.mono ?_;rintro e x4 ⟨rfl,S4,_⟩;generalize hq5:rNum r5=q5 at *;obtain ⟨n5,r6⟩:=q5;dsimp only at *;have Q5:=Lib.hid hq5;have y4:=S4.blk.cell 4 _ rfl;have z4:=S4.blk.frozen 4;have U4:TkD w (x4.setCell ⟨gg,4,none⟩ (.int .i64 n5)) gr gg vr (.slice none 0 0) r6 #[.int .i64 n1,.int .i64 n2,.int .i64 n3,.int .i64 n4,.int .i64 n5,.string ⟨#[]⟩,.slice none 0 0] []:=S4.set 4 (.int .i64 n5);clear hq5;obtain ⟨gx,hgx⟩:∃ gx:Hrd,gx=⟨n1,n2,n3,n4,n5,sNone,[]⟩:=⟨_,rfl⟩;have hrec:recBeg r1=ended r6 (.beg gx):=by
    rw [hgx];unfold recBeg;rw [Q1.out];dsimp only;rw [Q2.out];dsimp only;rw [Q3.out];dsimp only;rw [Q4.out];dsimp only;rw [Q5.out]
   have hyes:(rEnd r6).1=0→takeR h opn p=if docOk gx opn 1 then some (gx,1) else none:=fun he=>takeR_step (Hpk1.out.trans (hrec.trans (ended_ok he))) rfl rfl
   have hno:¬ (rEnd r6).1=0→takeR h opn p=none:=fun he=>takeR_bad (Hpk1.out.trans (hrec.trans (ended_no he)));have Hyn:=Lib.hid (And.intro hyes hno);have Hgx:=Lib.hid hgx;clear hyes hno hrec Q1 Q2 Q3 Q4 Q5 hgx Hpk1 S4 U3;have e2:=U4.blk.cell 2 _ rfl;have e5:=U4.blk.cell 5 _ rfl;have g5:=U4.blk.frozen 5
   by_cases hz:n3=0
   ·have hzi:(n3 !=0)=false:=by simpa using hz
    have hsx:=sxOf_right (h:=gx) (g:=gx) rfl;have hsx2:sxOf gx=⟨#[]⟩:=by rw [Hgx.out];exact if_pos hz
    rw [hsx2] at hsx;have Hfin:=Lib.hid (And.intro U4 hsx);clear U4 hz hsx hsx2;go_wp2_with fail
    go_meet
    refine ⟨r6,gx,⟨#[]⟩,none,0,?_,Hfin.out.2,Hyn.out.1,Hyn.out.2,by rw [Hgx.out]⟩;rw [Hgx.out];exact Hfin.out.1
   ·have hzi:(n3 !=0)=true:=by simpa using hz
    have hsx:=sxOf_right (h:=gx) (g:=gx) rfl;have hsx2:sxOf gx=⟨#[120]⟩:=by rw [Hgx.out];exact if_neg hz
    rw [hsx2] at hsx;have Hfin:=Lib.hid (And.intro (U4.set 5 (.string ⟨#[120]⟩)) hsx);clear U4 hz hsx hsx2;go_wp2_with fail
    go_meet
    refine ⟨r6,gx,⟨#[120]⟩,none,0,?_,Hfin.out.2,Hyn.out.1,Hyn.out.2,by rw [Hgx.out]⟩;rw [Hgx.out];exact Hfin.out.1
  have hk1i:(kd == 1)=false:=by simpa using hk1
  have Hk1:=Lib.hid hk1;clear hk1
  by_cases hk2:kd=2
  ·subst hk2;have hpk:parseR p=recEty r1:=Hpk.out.trans ((if_neg (by decide)).trans (if_pos rfl));have Hpk1:=Lib.hid hpk;clear hpk Hpk Hnone;go_wp2_with fail
   refine T6.num.mono ?_;rintro e x0 ⟨rfl,S0,ch0⟩;have hsx0:=ch0.size;generalize hq1:rNum r1=q1 at *;obtain ⟨n1,r2⟩:=q1;dsimp only at *;have Q1:=Lib.hid hq1;clear hq1 T6;have kb:=Blk.new x0 #[.int .i64 n1,.int .i64 0,.string ⟨#[]⟩] 73;have U0:=S0.ext (below_alloc x0 (.cells #[.int .i64 n1,.int .i64 0,.string ⟨#[]⟩] 73));have gl1:=S0.rdr.blk.lt;have gl2:=S0.blk.lt;have gl3:∀ k,(Value.slice p3 h.log.length c3).ownBlock=some k→k<x0.heap.size:=fun k hk=>(S0.own.lt k hk).2;have hge0:w.heap.size≤x0.heap.size:=S0.bel.size
   have hszA:(x0.alloc (.cells #[.int .i64 n1,.int .i64 0,.string ⟨#[]⟩] 73)).heap.size=x0.heap.size+1:=by simp
   go_wp2_with fail
   generalize x0.alloc (.cells #[.int .i64 n1,.int .i64 0,.string ⟨#[]⟩] 73)=w4 at *;clear S0 ch0;have hn1:gr≠x0.heap.size:=by omega
   have hn2:gg≠x0.heap.size:=by omega
   have hn3:vr.ownBlock≠some x0.heap.size:=fun e=>by have:=hx2 _ e;omega
   have hn4:(Value.slice p3 h.log.length c3).ownBlock≠some x0.heap.size:=fun e=>by have:=gl3 _ e;omega
   have hvr4:∀ k,vr.ownBlock=some k→k<w4.heap.size:=fun k hk=>by have:=hx2 k hk;omega
   generalize x0.heap.size=ge at *;refine U0.num.mono ?_;rintro e x1 ⟨rfl,S1,ch1⟩;have kb1:=ch1.blk kb (fun e=>hn1 e.symm);have hsx1:=ch1.size;generalize hq2:rNum r2=q2 at *;obtain ⟨n2,r3⟩:=q2;dsimp only at *;have Q2:=Lib.hid hq2;have y1:=kb1.cell 1 _ rfl;have z1:=kb1.frozen 1;have kb2:Blk (x1.setCell ⟨ge,1,none⟩ (.int .i64 n2)) ge #[.int .i64 n1,.int .i64 n2,.string ⟨#[]⟩] 73:=kb1.set 1 (.int .i64 n2);have U1:=S1.other (chg_cell ge 1 (.int .i64 n2) x1) hn1 hn2 hn3 hn4 hge0;have hsy1:=(chg_cell ge 1 (.int .i64 n2) x1).size;clear hq2 U0 ch1 kb;go_wp2_with fail
   generalize x1.setCell ⟨ge,1,none⟩ (.int .i64 n2)=w5 at *;clear y1 z1 S1 kb1;refine (U1.text 1100).mono ?_;rintro e x2 ⟨rfl,S2,ch2⟩;have kb3:=ch2.blk kb2 (fun e=>hn1 e.symm);have hsx2:=ch2.size;generalize hq3:rText 1100 r3=q3 at *;obtain ⟨dt,r4⟩:=q3;dsimp only at *;have Q3:=Lib.hid hq3;have y2:=kb3.cell 2 _ rfl;have z2:=kb3.frozen 2;have kb4:Blk (x2.setCell ⟨ge,2,none⟩ (.string ⟨dt.toArray⟩)) ge #[.int .i64 n1,.int .i64 n2,.string ⟨dt.toArray⟩] 73:=kb3.set 2 (.string ⟨dt.toArray⟩);have U2:=S2.other (chg_cell ge 2 (.string ⟨dt.toArray⟩) x2) hn1 hn2 hn3 hn4 hge0
   have hsy2:=(chg_cell ge 2 (.string ⟨dt.toArray⟩) x2).size;clear hq3 U1 ch2 kb2 S2 kb3;have a0:=kb4.cell 0 _ rfl;have a1:=kb4.cell 1 _ rfl;have a2:=kb4.cell 2 _ rfl;have a6:(x2.setCell ⟨ge,2,none⟩ (.string ⟨dt.toArray⟩)).cell? ⟨gg,6,none⟩=some (.slice p3 h.log.length c3):=U2.blk.cell 6 _ rfl;generalize hw6:x2.setCell ⟨ge,2,none⟩ (.string ⟨dt.toArray⟩)=w6 at *;have bL:=below_alloc w6 (.cells #[.int .i64 n1,.int .i64 n2,.string ⟨dt.toArray⟩] 73)
   have lit:Rd etyE (w6.alloc (.cells #[.int .i64 n1,.int .i64 n2,.string ⟨dt.toArray⟩] 73)) (.slice (some ⟨x2.heap.size,0,none⟩) 1 1) [⟨n1,n2,ofBytes dt⟩]:=(OwnR.litAt etyE w6 #[.int .i64 n1,.int .i64 n2,.string ⟨dt.toArray⟩] 73 [⟨n1,n2,ofBytes dt⟩] 1 0 x2.heap.size (by rw [←hw6];simp [World.setCell]) rfl rfl (by unfold maxLen;omega) (Nat.zero_le _)).rd;have U3:=U2.ext bL;have hB3:=U3.bel.size;have own6:=U3.own;have hvr6:∀ k,vr.ownBlock=some k→k<(w6.alloc (.cells #[.int .i64 n1,.int .i64 n2,.string ⟨dt.toArray⟩] 73)).heap.size:=fun k hk=>by have:=hvr4 k hk;have:=bL.size;omega
   obtain ⟨ex,hex⟩:∃ ex:Ety,ex=⟨n1,n2,ofBytes dt⟩:=⟨_,rfl⟩;rw [←hex] at lit;have hrec:recEty r1=ended r4 (.ety ex):=by
    rw [hex];unfold recEty;rw [Q1.out];dsimp only;rw [Q2.out];dsimp only;rw [Q3.out]
   have hyes:(rEnd r4).1=0→takeR h opn p=if docOk { h with log:=h.log++[ex] } opn 2 then some ({ h with log:=h.log++[ex] },2) else none:=fun he=>takeR_step (Hpk1.out.trans (hrec.trans (ended_ok he))) rfl rfl
   have hno:¬ (rEnd r4).1=0→takeR h opn p=none:=fun he=>takeR_bad (Hpk1.out.trans (hrec.trans (ended_no he)));have Hyn:=Lib.hid (And.intro hyes hno);clear hyes hno hrec Q1 Q2 Q3 Hpk1 kb4;subst hw6;clear hex;go_wp2_with (first
    | (at_builtin;go_loud (refine wpList_appW tEty rfl rfl own6 rfl lit rfl (by simp only [List.length_singleton];omega) hB3 ?_;intro v7 w7 own7 g7 b7 hw7;have own8:OwnR etyE w7 w.heap.size 73 v7 (h.log++[ex]):=OwnR.snoc own7;obtain ⟨p7,c7,rfl⟩:=own8.rd.shapeN (n:=h.log.length+1) (by simp);have T7:=U3.app hvr6 g7 b7 own8 hw7;have j6:=T7.blk.cell 6 _ rfl;have z6:=T7.blk.frozen 6))
    | fail)
   have T8:=T7.set 6 (.slice p7 (h.log.length+1) c7);go_meet
   refine ⟨r4,{ h with log:=h.log++[ex] },sxOf h,p7,c7,?_,sxOf_right rfl,Hyn.out.1,Hyn.out.2,Hsn.out⟩;have hl:(h.log++[ex]).length=h.log.length+1:=by simp
   show TkD w _ gr gg vr (.slice p7 (h.log++[ex]).length c7) r4 (hrdC { h with snap:=sxOf h } (.slice p7 (h.log++[ex]).length c7)) (h.log++[ex])
   rw [hl];exact T8
  have hk2i:(kd == 2)=false:=by simpa using hk2
  have Hk2:=Lib.hid hk2;clear hk2
  by_cases hk3:kd=3
  ·subst hk3;have hpk:parseR p=ended r1 .rdy:=Hpk.out.trans ((if_neg (by decide)).trans ((if_neg (by decide)).trans (if_pos rfl)));have hyes:(rEnd r1).1=0→takeR h opn p=if docOk h opn 3 then some (h,3) else none:=fun he=>takeR_step (hpk.trans (ended_ok he)) rfl rfl
   have hno:¬ (rEnd r1).1=0→takeR h opn p=none:=fun he=>takeR_bad (hpk.trans (ended_no he));have Hyn:=Lib.hid (And.intro hyes hno);clear hyes hno hpk Hpk Hnone;go_wp2_with fail
   go_meet
   exact ⟨r1,h,sxOf h,p3,c3,T6,sxOf_right rfl,Hyn.out.1,Hyn.out.2,Hsn.out⟩
  have hk3i:(kd == 3)=false:=by simpa using hk3
  have Hk3:=Lib.hid hk3;clear hk3
  by_cases hk4:kd=4
  ·subst hk4;have hpk:parseR p=recVot r1:=Hpk.out.trans ((if_neg (by decide)).trans ((if_neg (by decide)).trans ((if_neg (by decide)).trans (if_pos rfl))));have Hpk1:=Lib.hid hpk;clear hpk Hpk Hnone;go_wp2_with fail
   refine T6.num.mono ?_;rintro e x0 ⟨rfl,S0,_⟩;generalize hq1:rNum r1=q1 at *;obtain ⟨n1,r2⟩:=q1;dsimp only at *;have Q1:=Lib.hid hq1;clear hq1 T6;go_wp2_with fail
   refine S0.num.mono ?_;rintro e x1 ⟨rfl,S1,_⟩;generalize hq2:rNum r2=q2 at *;obtain ⟨n2,r3⟩:=q2;dsimp only at *;have Q2:=Lib.hid hq2;clear hq2 S0;have hrec:recVot r1=ended r3 (.vot n1 n2):=by unfold recVot;rw [Q1.out];dsimp only;rw [Q2.out]
   have hno:¬ (rEnd r3).1=0→takeR h opn p=none:=fun he=>takeR_bad (Hpk1.out.trans (hrec.trans (ended_no he)));have y0:=S1.blk.cell 0 _ rfl;have y1:=S1.blk.cell 1 _ rfl;have z0:=S1.blk.frozen 0;have z1:=S1.blk.frozen 1
   by_cases hbad:n1<h.term∨(n1=h.term∧h.vote ≠ -1)
   ·have htn:takeR h opn p=none:=by
     by_cases he:(rEnd r3).1=0
     ·exact takeR_gone (Hpk1.out.trans (hrec.trans (ended_ok he))) (if_pos hbad)
     ·exact hno he
    have Htn:=Lib.hid (And.intro htn S1.bel);clear htn hno hrec Q1 Q2 Hpk1 S1
    by_cases hlt:n1<h.term
    ·clear hbad;go_wp2_with fail
     go_ret
     exact TakesR.no hd hv0 hBw Htn.out.1 Htn.out.2
    ·obtain ⟨hb1,hb2⟩:n1=h.term∧h.vote ≠ -1:=hbad.resolve_left hlt;have hb1i:(n1 == h.term)=true:=by simpa using hb1
     have hb2i:(h.vote != -1)=true:=by simpa using hb2
     clear hb1 hb2 hbad;go_wp2_with fail
     go_ret
     exact TakesR.no hd hv0 hBw Htn.out.1 Htn.out.2
   ·have hlt:¬ n1<h.term:=fun h1=>hbad (.inl h1);have hyes:(rEnd r3).1=0→takeR h opn p=if docOk { h with term:=n1,vote:=n2 } opn 4 then some ({ h with term:=n1,vote:=n2 },4) else none:=fun he=>takeR_step (Hpk1.out.trans (hrec.trans (ended_ok he))) (if_neg hbad) rfl
    have Hyn:=Lib.hid (And.intro hyes hno);have T7:=(S1.set 0 (.int .i64 n1)).set 1 (.int .i64 n2);have H7:=Lib.hid T7;have hoi:(n1 == h.term)=true→(h.vote != -1)=false:=fun e=>by
     have e1:n1=h.term:=by simpa using e
     have e2:h.vote = -1:=Decidable.not_not.1 (fun e2=>hbad (.inr ⟨e1,e2⟩))
     simpa using e2
    clear hyes hno hrec Q1 Q2 Hpk1 S1 T7 hbad
    by_cases hei:(n1 == h.term)=true
    ·have hvi:=hoi hei;clear hoi;go_wp2_with fail
     go_meet
     exact ⟨r3,{ h with term:=n1,vote:=n2 },sxOf h,p3,c3,H7.out,sxOf_right rfl,Hyn.out.1,Hyn.out.2,Hsn.out⟩
    ·clear hoi;go_wp2_with fail
     go_meet
     exact ⟨r3,{ h with term:=n1,vote:=n2 },sxOf h,p3,c3,H7.out,sxOf_right rfl,Hyn.out.1,Hyn.out.2,Hsn.out⟩
  have hk4i:(kd == 4)=false:=by simpa using hk4
  have Hk4:=Lib.hid hk4;clear hk4
  by_cases hk5:kd=5
  ·subst hk5;have hpk:parseR p=recCut r1:=Hpk.out.trans ((if_neg (by decide)).trans ((if_neg (by decide)).trans ((if_neg (by decide)).trans ((if_neg (by decide)).trans (if_pos rfl)))));have Hpk1:=Lib.hid hpk;clear hpk Hpk Hnone;go_wp2_with fail
   have hin2:=rNum_in r1;refine T6.num.mono ?_;rintro e x0 ⟨rfl,S0,_⟩;have hrec0:recCut r1=ended (rNum r1).2 (.cut (rNum r1).1):=rfl;generalize rNum r1=q1 at *;obtain ⟨n1,r2⟩:=q1;dsimp only at *;have hrec:recCut r1=ended r2 (.cut n1):=hrec0;clear T6 hrec0;obtain ⟨hin3,hin4⟩:=hin2;have hno:¬ (rEnd r2).1=0→takeR h opn p=none:=fun he=>takeR_bad (Hpk1.out.trans (hrec.trans (ended_no he)));have y2:=S0.blk.cell 2 _ rfl;have y6:=S0.blk.cell 6 _ rfl;have z6:=S0.blk.frozen 6
   by_cases hbad:n1<h.base∨h.base+h.log.length<n1
   ·have htn:takeR h opn p=none:=by
     by_cases he:(rEnd r2).1=0
     ·exact takeR_gone (Hpk1.out.trans (hrec.trans (ended_ok he))) (if_pos hbad)
     ·exact hno he
    have Htn:=Lib.hid (And.intro htn S0.bel);clear htn hno hrec Hpk1 S0
    by_cases hlt:n1<h.base
    ·clear hbad;go_wp2_with fail
     go_ret
     exact TakesR.no hd hv0 hBw Htn.out.1 Htn.out.2
    ·have hgt:=hbad.resolve_left hlt;clear hbad;go_wp2_with fail
     go_ret
     exact TakesR.no hd hv0 hBw Htn.out.1 Htn.out.2
   ·have hyes:(rEnd r2).1=0→takeR h opn p=if docOk { h with log:=h.log.take (n1 - h.base).toNat } opn 5 then some ({ h with log:=h.log.take (n1 - h.base).toNat },5) else none:=fun he=>takeR_step (Hpk1.out.trans (hrec.trans (ended_ok he))) (if_neg hbad) rfl
    have Hyn:=Lib.hid (And.intro hyes hno);have hge:h.base≤n1:=by omega
    have hle:n1≤h.base+(h.log.length:Int):=by omega
    have hlt:¬ n1<h.base:=by omega
    have hgt:¬ h.base+(h.log.length:Int)<n1:=by omega
    obtain ⟨m,hm⟩:∃ m:Nat,m=(n1 - h.base).toNat:=⟨_,rfl⟩;have hmi:n1 - h.base=(m:Int):=by omega
    have hml:m≤h.log.length:=by omega
    have hto:=run_sub_to tEty (P:=Tryz.prog) S0.own.rd .i64 (n1 - h.base) m hmi hml;obtain ⟨p8,c8,hv8,hsub,hown⟩:=cutE S0.own hml;simp only [Value.slice.injEq,true_and] at hv8
    obtain ⟨rfl,rfl⟩:=hv8;rw [hsub] at hto;have T7:=(S0.log hown (fun e=>S0.n3 (by rw [←own_len];exact e)) (fun e=>S0.n4 (by rw [←own_len];exact e)) (fun k hk e=>S0.n5 k hk (by rw [←own_len];exact e))).set 6 (.slice p3 m c3);have hlt2:(h.log.take m).length=m:=by rw [List.length_take];omega
    have H7:=Lib.hid (And.intro T7 (And.intro hlt2 hm));have hne:(0:Int)≤n1 - h.base:=by omega
    clear hyes hno hrec Hpk1 S0 T7 hbad hown hsub hlt2 hm hmi hml;go_wp2_with fail
    go_meet
    obtain ⟨f1,f2,f3⟩:=H7.out;refine ⟨r2,{ h with log:=h.log.take (n1 - h.base).toNat },sxOf h,p3,c3,?_,sxOf_right rfl,Hyn.out.1,Hyn.out.2,Hsn.out⟩
    show TkD w _ gr gg vr (.slice p3 (h.log.take (n1 - h.base).toNat).length c3) r2 (hrdC { h with snap:=sxOf h } (.slice p3 (h.log.take (n1 - h.base).toNat).length c3)) (h.log.take (n1 - h.base).toNat)
    rw [←f3,f2];exact f1
  have hk5i:(kd == 5)=false:=by simpa using hk5
  have Hlast:=Lib.hid (Hnone.out ⟨Hk1.out,Hk2.out,Hk3.out,Hk4.out,hk5⟩);clear hk5;go_wp2_with fail
  go_ret
  exact TakesR.no hd hv0 hBw Hlast.out T6.bel
 case rest =>
 obtain ⟨rx,gx,sx,px,cx,M⟩:=hcut;obtain ⟨T7,hrt,hyes,hno,hgsn⟩:=M;have Hyes:=Lib.hid hyes;have Hno:=Lib.hid hno;have Hgsn:=Lib.hid hgsn;have hright:=fun (z:World) (hz:Rd etyE z (.slice px gx.log.length cx) gx.log)=>refRight { gx with snap:=sx } (.slice px gx.log.length cx) z hz;rw [hrt] at hright;clear hyes hno hgsn hrt T6 Hnone Hpk hx2 q1 q2 q3 q4 q5 q6 q7 q8 q9 q10 q11 hli hlen hbare;go_wp2_with fail
 refine T7.fin.mono ?_;rintro e x8 ⟨rfl,S8,_⟩;have c0:=S8.blk.cell 0 _ rfl;have c1:=S8.blk.cell 1 _ rfl;have c2:=S8.blk.cell 2 _ rfl;have c3':=S8.blk.cell 3 _ rfl;have c4:=S8.blk.cell 4 _ rfl;have c5:=S8.blk.cell 5 _ rfl;have c6:=S8.blk.cell 6 _ rfl;clear T7
 by_cases hE:(rEnd rx).1=0
 ·have hez:((rEnd rx).1 !=0)=false:=by simpa using hE
  have hty:=Lib.hid (Hyes.out hE);clear hE;go_wp2_with fail
  cases hB:bareH gx with
  | false =>
   rw [hB] at hright;refine (hright x8 S8.own.rd).mono ?_;rintro e x9 ⟨rfl,b9⟩;have hbl:=S8.bel.trans (b9.mono S8.bel.size);have htn:takeR h opn p=none:=by rw [hty.out,if_neg (by rw [docOk_no hB];simp)]
   have Htn:=Lib.hid htn;clear htn hB;go_wp2_with fail
   go_ret
   exact TakesR.no hd hv0 hBw Htn.out hbl
  | true =>
   rw [hB] at hright;refine (hright x8 S8.own.rd).mono ?_;rintro e x9 ⟨rfl,b9⟩;have hbl:=S8.bel.trans (b9.mono S8.bel.size);have hdoc:docOk gx opn kd=(if opn=true then decide (kd=2) || decide (kd=3) else decide (kd≠1) && decide (kd≠3)):=by unfold docOk;rw [hB];rfl
   have S9:=S8.ext b9;have d5:=S9.blk.cell 5 _ rfl;have w5:=S9.blk.frozen 5;have S10:TkD w (x9.setCell ⟨gg,5,none⟩ (.string ⟨#[]⟩)) gr gg vr (.slice px gx.log.length cx) (rEnd rx).2 #[.int .i64 gx.term,.int .i64 gx.vote,.int .i64 gx.base,.int .i64 gx.bterm,.int .i64 gx.members,.string ⟨#[]⟩,.slice px gx.log.length cx] gx.log:=S9.set 5 (.string ⟨#[]⟩);have hd10:=hd.ext S10.bel;have q0:=S10.blk.cell 0 _ rfl;have qq1:=S10.blk.cell 1 _ rfl;have qq2:=S10.blk.cell 2 _ rfl;have qq3:=S10.blk.cell 3 _ rfl;have qq4:=S10.blk.cell 4 _ rfl;have qq5:=S10.blk.cell 5 _ rfl;have qq6:=S10.blk.cell 6 _ rfl
   have m0:=hd10.blk.cell 0 _ rfl;have n0:=hd10.blk.frozen 0;have m1:=hd10.blk.cell 1 _ rfl;have n1:=hd10.blk.frozen 1;have m2:=hd10.blk.cell 2 _ rfl;have n2:=hd10.blk.frozen 2;have m3:=hd10.blk.cell 3 _ rfl;have n3:=hd10.blk.frozen 3;have m4:=hd10.blk.cell 4 _ rfl;have n4:=hd10.blk.frozen 4;have m5:=hd10.blk.cell 5 _ rfl;have n5:=hd10.blk.frozen 5;have m6:=hd10.blk.cell 6 _ rfl;have n6:=hd10.blk.frozen 6;have hnb:∀ k,(Value.slice px gx.log.length cx).ownBlock=some k→w.heap.size≤k:=fun k hk=>(S10.own.lt k hk).1
   have hfin:=hd10.fill (x:={ gx with snap:=⟨#[]⟩ }) (v':=.slice px gx.log.length cx) S10.own.rd (fun e=>by have:=hnb _ e;omega);have hbl2:=(S10.bel.mono hBw).trans (hfin.2.below (fun k hk=>by rw [hk];exact hB0) (by have:=S10.bel.size;omega));have hgx:({ gx with snap:=⟨#[]⟩ }:Hrd)=gx:=by have:=Hgsn.out;cases gx;simp only at this;subst this;rfl
   have hf1:=hfin.1;dsimp only at hf1 hbl2;rw [hgx] at hf1;have Hfin:=Lib.hid (And.intro hf1 (And.intro hbl2 (fun k hk=>Nat.le_trans hBw (hnb k hk))));have Hgx:=Lib.hid hgx;have Hdoc:=Lib.hid hdoc;have Hbl:=Lib.hid hbl;clear S8 S9 S10 hd10 hfin hf1 hbl2 hgx hdoc hbl hnb c0 c1 c2 c3' c4 c5 c6 hB hright
   cases opn with
   | true =>
    by_cases e2:kd=2
    ·have e2i:(kd !=2)=false:=by simpa using e2
     have ht:takeR h true p=some (gx,kd):=by rw [hty.out,Hdoc.out,if_pos (by simp [e2])]
     have Ht:=Lib.hid ht;clear ht e2;go_upto_region 37 with (fail)
     generalize x9.setCell ⟨gg,5,none⟩ (.string ⟨#[]⟩)=w10 at *;go_wp2_with fail
     go_ret
     unfold TakesR;rw [Ht.out];exact ⟨rfl,⟨_,Hfin.out.1,Hfin.out.2.2⟩,Hfin.out.2.1⟩
    ·have e2i:(kd !=2)=true:=by simpa using e2
     by_cases e3:kd=3
     ·have e3i:(kd !=3)=false:=by simpa using e3
      have ht:takeR h true p=some (gx,kd):=by rw [hty.out,Hdoc.out,if_pos (by simp [e3])]
      have Ht:=Lib.hid ht;clear ht e2 e3;go_upto_region 37 with (fail)
      generalize x9.setCell ⟨gg,5,none⟩ (.string ⟨#[]⟩)=w10 at *;go_wp2_with fail
      go_ret
      unfold TakesR;rw [Ht.out];exact ⟨rfl,⟨_,Hfin.out.1,Hfin.out.2.2⟩,Hfin.out.2.1⟩
     ·have e3i:(kd !=3)=true:=by simpa using e3
      have ht:takeR h true p=none:=by rw [hty.out,Hdoc.out,if_neg (by simp [e2,e3])]
      have Ht:=Lib.hid ht;clear ht e2 e3;go_wp2_with fail
      go_ret
      exact TakesR.no hd hv0 hBw Ht.out Hbl.out
   | false =>
    by_cases e1:kd=1
    ·have e1i:(kd == 1)=true:=by simpa using e1
     have ht:takeR h false p=none:=by rw [hty.out,Hdoc.out,if_neg (by simp [e1])]
     have Ht:=Lib.hid ht;clear ht e1;go_wp2_with fail
     go_ret
     exact TakesR.no hd hv0 hBw Ht.out Hbl.out
    ·have e1i:(kd == 1)=false:=by simpa using e1
     by_cases e3:kd=3
     ·have e3i:(kd == 3)=true:=by simpa using e3
      have ht:takeR h false p=none:=by rw [hty.out,Hdoc.out,if_neg (by simp [e3])]
      have Ht:=Lib.hid ht;clear ht e1 e3;go_wp2_with fail
      go_ret
      exact TakesR.no hd hv0 hBw Ht.out Hbl.out
     ·have e3i:(kd == 3)=false:=by simpa using e3
      have ht:takeR h false p=some (gx,kd):=by rw [hty.out,Hdoc.out,if_pos (by simp [e1,e3])]
      have Ht:=Lib.hid ht;clear ht e1 e3;go_upto_region 37 with (fail)
      generalize x9.setCell ⟨gg,5,none⟩ (.string ⟨#[]⟩)=w10 at *;go_wp2_with fail
      go_ret
      unfold TakesR;rw [Ht.out];exact ⟨rfl,⟨_,Hfin.out.1,Hfin.out.2.2⟩,Hfin.out.2.1⟩
 ·have hez:((rEnd rx).1 !=0)=true:=by simpa using hE
  have Htn:=Lib.hid (Hno.out hE);have hbl:=S8.bel;clear S8;go_wp2_with fail
  go_ret
  exact TakesR.no hd hv0 hBw Htn.out hbl
end
end Go.Proofs.YtgpgcnmnfnnkjaaGreatDoor
