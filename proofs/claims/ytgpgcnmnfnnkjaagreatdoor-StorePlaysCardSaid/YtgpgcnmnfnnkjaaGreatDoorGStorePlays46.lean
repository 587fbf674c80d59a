import Derived.Test.YtgpgcnmnfnnkjaaGreatDoorGStorePlays45
import Derived.Test.YtgpgcnmnfnnkjaaGreatDoorGStorePlays40
set_option linter.unusedVariables false
set_option linter.unusedSimpArgs false
set_option maxRecDepth 100000
set_option maxHeartbeats 16000000
namespace Go.Proofs.YtgpgcnmnfnnkjaaGreatDoor
section
open Go Go.RowKit Go.PlainAid BigFrame
attribute [local go_sem] After.same
def OpenedS (w0 w:World) (X:Nat→Prop) (g:Nat) (d':Dk) (E:Int) (o:Option Sto) (e:Ending) (w':World):Prop :=
 (match o with
 | none=>E≠0∧e=.returned (.tuple #[.pointer none,.int .i64 E])
 | some st=>∃ gs gw v X',e=.returned (.tuple #[.pointer (some ⟨gs,0,none⟩),.int .i64 0])∧w.heap.size≤gs∧w.heap.size≤gw∧(∀ k,X k→X' k)∧(∀ k,X' k→X k∨w.heap.size≤k)∧RfS w0 X' g d' w'∧RsV w' X' g gs gw v st.w st.snap∧∀ k,v.ownBlock=some k→st.w.h.log≠[]→w.heap.size≤k)
 ∧ RfS w0 X g d' w'∧Chg (Gx w0 X) w w'
theorem OpenedS.no {w0 w wi:World} {X Y:Nat→Prop} {g:Nat} {d':Dk} {E:Int} (hE:E≠0) (hY:∀ k,X k→Y k) (hd:RfS w0 Y g d' wi) (hc:Chg (Gx w0 X) w wi):OpenedS w0 w X g d' E none (.returned (.tuple #[.pointer none,.int .i64 E])) wi :=
 ⟨⟨hE,rfl⟩,hd.mono hY,hc⟩
theorem readP_nil (h:Hrd):readP [] h=none:=by
 have h1:Frm.errAt [] 0≠0:=by have:=Frm.at_end [] 0;simpa using this
 unfold readP;rw [if_neg (fun q=>h1 q.1)]
theorem rksOpen {w0 w:World} {X:Nat→Prop} {g:Nat} {d d':Dk} (hd:RfS w0 X g d w) {m:Nat} (pi:PInv m d) (hm:m≤300) {E:Int} {o:Option Sto} (he:openP d=(E,o,d')) :
 Calls Tryz.prog 36 #[.pointer (some ⟨g,0,none⟩)] w (OpenedS w0 w X g d' E o):=by
 have hcall:=rkOpen hd pi hm;unfold OpenedR at hcall;have pic:=pi.clean;have hXl:∀ k,X k→k<w.heap.size:=hd.2;have hs0:=hd.size;have hop:openP d=match openW d with
  | none=>((cleanW d).1,none,(cleanW d).2)
  | some ws=>match snapO (cleanW d).2 ws.h with
   | none=>(4,none,(cleanW d).2)
   | some s=>if (cleanP (cleanW d).2 ws.h.base.toNat).1=0 then (0,some ⟨ws,ofBytes s,false⟩,(cleanP (cleanW d).2 ws.h.base.toNat).2)
    else ((cleanP (cleanW d).2 ws.h.base.toNat).1,none,(cleanP (cleanW d).2 ws.h.base.toNat).2):=rfl
 rw [he] at hop;have hbase:=fun ws=>open_base (d:=d) (ws:=ws);go_enter Tryz.func36,Tryz.ntmps36
 go_wp2_with fail
 refine hcall.mono ?_;rintro e w1 ⟨ho,hd1,ch1⟩;clear hcall he
 cases how:openW d with
 | none =>
  rw [how] at ho hop;obtain ⟨E1,hE1,e1,rfl⟩:=ho;dsimp only at hop;rw [←e1] at hop;simp only [Prod.mk.injEq] at hop
  obtain ⟨rfl,rfl,rfl⟩:=hop;have hi:(E !=0)=true:=by simpa using hE1
  have HE:=Lib.hid hE1;clear hE1 e1 how hbase;go_wp2_with fail
  refine bodyPost_ret (v:=.tuple #[.pointer none,.int .i64 E]) (by simp [results,Tryz.results36,go_sem]) rfl ?_;exact OpenedS.no HE.out (fun _ h=>h) hd1 ch1
 | some ws =>
  rw [how] at ho hop;obtain ⟨gw,v,X1,rfl,hgw,hx1,hx1r,hdw,hwv,hvw⟩:=ho;obtain ⟨hb1,hb2⟩:=hbase ws how;clear how hbase hd1;dsimp only at hop;generalize (cleanW d).2=d1 at *;have Hop:=Lib.hid hop;have hHB1:=Lib.hid hb1;have hHB2:=Lib.hid hb2;clear hop hb1 hb2;obtain ⟨p3,c3,rfl⟩:=hwv.log.shape;have hsW1:=ch1.size;have hgl:=hwv.blk.lt;have caS:=below_alloc w1 (.cells #[.pointer (some ⟨gw,0,none⟩),.string ⟨#[]⟩] 117);have ksS:=Blk.new w1 #[.pointer (some ⟨gw,0,none⟩),.string ⟨#[]⟩] 117;have hszS:(w1.alloc (.cells #[.pointer (some ⟨gw,0,none⟩),.string ⟨#[]⟩] 117)).heap.size=w1.heap.size+1:=by simp
  obtain ⟨X2,hX2⟩:∃ X2:Nat→Prop,X2=fun k=>X1 k∨k=w1.heap.size:=⟨_,rfl⟩;have hx2:∀ k,X1 k→X2 k:=fun k hk=>by rw [hX2];exact .inl hk
  have hx2S:X2 w1.heap.size:=by rw [hX2];exact .inr rfl
  have hx2r:∀ k,X2 k→X k∨w.heap.size≤k:=fun k hk=>by
   rw [hX2] at hk
   rcases hk with hk | rfl
   ·exact hx1r k hk
   ·exact .inr hsW1
  have hd3:RfS w0 X2 g d1 (w1.alloc (.cells #[.pointer (some ⟨gw,0,none⟩),.string ⟨#[]⟩] 117)):=by
   rw [hX2];refine hdw.more caS (fun k hk=>?_)
   rcases hk with hk | rfl
   ·exact .inl hk
   ·exact .inr ⟨Nat.le_refl _,by omega⟩
  clear hX2;have st3:RsV (w1.alloc (.cells #[.pointer (some ⟨gw,0,none⟩),.string ⟨#[]⟩] 117)) X2 g w1.heap.size gw (.slice p3 ws.h.log.length c3) ws (ofBytes []):=⟨ksS,(hwv.ext caS).mono hx2,hx2S,by omega,fun hne e=>by have:=hwv.lX hne _ e;have:=hdw.2 _ this;omega⟩;have ch3:Chg (Gx w0 X) w (w1.alloc (.cells #[.pointer (some ⟨gw,0,none⟩),.string ⟨#[]⟩] 117)):=ch1.step (.of_below caS);have hxX:∀ k,X k→X2 k:=fun k hk=>hx2 k (hx1 k hk);have hHs:w.heap.size≤w1.heap.size:=hsW1;clear caS ksS hdw hwv ch1;have q3:=st3.wv.blk.cell 3 _ rfl;go_upto_if 29 with (fail)
  generalize w1.alloc (.cells #[.pointer (some ⟨gw,0,none⟩),.string ⟨#[]⟩] 117)=wB at *;clear q3
  go_cut [7] from 8 (fun q wi=>∃ s,Hid (snapO d1 ws.h=some s)∧q=.string (butS ws.h.base.toNat)∧RsV wi X2 g w1.heap.size gw (.slice p3 ws.h.log.length c3) ws (ofBytes s)∧RfS w0 X2 g d1 wi∧Chg (Gx w0 X) w wi)
  case first =>
   have hn1:=hHB1.out
   by_cases hz:ws.h.base=0
   ·have hzi:¬ (0:Int)<ws.h.base:=by omega
    have hsn:snapO d1 ws.h=some []:=by unfold snapO;rw [if_pos hz]
    have hbt:(⟨#[]⟩:ByteArray)=butS ws.h.base.toNat:=by unfold butS;rw [if_neg (by omega)]
    have Hsn:=Lib.hid hsn;have Hbt:=Lib.hid hbt;clear hsn hz hbt hn1;go_wp2_with fail
    go_meet
    exact ⟨[],Hsn,congrArg Value.string Hbt.out,st3,hd3,ch3⟩
   ·have hzi:(0:Int)<ws.h.base:=by omega
    have hsn:snapO d1 ws.h=readP (fileP d1 ws.h.base.toNat) ws.h:=by unfold snapO;rw [if_neg hz]
    have hbt:nameP ws.h.base.toNat=butS ws.h.base.toNat:=by unfold butS;rw [if_pos (by omega)]
    have Hsn:=Lib.hid hsn;have Hbt:=Lib.hid hbt;have hn2:=hHB2.out;have hbN:ws.h.base=(ws.h.base.toNat:Int):=by omega
    have hbN2:ws.h.base.toNat≤1099511627776:=by omega
    have hbn:=Lib.hid hbN;have hdl:=digits_le 18 ws.h.base.toNat (by omega);clear hsn hz hbN hn1 hn2 hbt;have q3:=st3.wv.blk.cell 3 _ rfl;go_wp2_with fail
    refine (rkDigits ws.h.base.toNat _ hbn.out (by omega) wB).mono ?_;rintro e w4 ⟨rfl,b4⟩;have hnm:(⟨#[115,110,97,112,46]⟩:ByteArray)++(⟨(Lib.decDigits ws.h.base.toNat).toArray⟩:ByteArray)=nameP ws.h.base.toNat:=str_cat [115,110,97,112,46] _;have st4:=st3.ext b4;have hd4:=hd3.ext b4;have ch4:Chg (Gx w0 X) w w4:=ch3.step (.of_below b4);clear st3 hd3 ch3 q3 b4;go_wp2_with fail
    refine (rRead hd4 (nameP ws.h.base.toNat) rfl).mono ?_;rintro e w5 ⟨⟨r5,rfl,by5⟩,rfl⟩;clear hnm hdl;have hfw:fileP d1 ws.h.base.toNat=(readD d1 (nameP ws.h.base.toNat)).getD []:=rfl;have hnq:(readD d1 (nameP ws.h.base.toNat)).isSome=false→readP (fileP d1 ws.h.base.toNat) ws.h=none:=fun q=>by
     rw [hfw]
     cases hh:readD d1 (nameP ws.h.base.toNat) with
     | none=>exact readP_nil _
     | some b=>rw [hh] at q;cases q
    rw [←hfw] at by5;have hfl:(fileP d1 ws.h.base.toNat).length≤4194304:=by
     rw [hfw,read_getF]
     cases hg:getF d1.fs (nameP ws.h.base.toNat) with
     | none=>simp
     | some f =>
      obtain ⟨j,hj,_,e1,_⟩:=get_at hg;have h1:=totD_mem (e1 ▸ List.getElem_mem hj:f ∈ d1.fs);have h2:=pic.l.tot
      show f.data.length≤_
      omega
    have Hnq:=Lib.hid hnq;clear hfw hnq;generalize fileP d1 ws.h.base.toNat=FB at *;generalize (readD d1 (nameP ws.h.base.toNat)).isSome=qb at *;have y0:=st4.wv.blk.cell 1 _ rfl;have y1:=st4.wv.blk.cell 2 _ rfl;have y2:=st4.wv.blk.cell 3 _ rfl;have y3:=st4.wv.blk.cell 4 _ rfl;have y4:=st4.wv.blk.cell 5 _ rfl;have y5:=st4.wv.blk.cell 6 _ rfl;have y6:=st4.wv.blk.cell 7 _ rfl;have hrd:=rksRead r5 FB ws.h (.slice p3 ws.h.log.length c3) w4 by5 (by omega) st4.wv.log;have Hrd:=Lib.hid hrd;clear hrd;go_wp2_with fail
    refine Hrd.out.mono ?_;rintro e w6 ⟨hr,b6⟩;have st6:=st4.ext b6;have hd6:=hd4.ext b6;have ch6:Chg (Gx w0 X) w w6:=ch4.step (.of_below b6);clear Hrd by5 y0 y1 y2 y3 y4 y5 y6 b6 st4 hd4 ch4
    cases hso:readP FB ws.h with
    | none =>
     rw [hso] at hr;obtain ⟨s,rfl⟩:=hr;have hh:=Hop.out;rw [Hsn.out,hso] at hh;simp only [Prod.mk.injEq] at hh
     obtain ⟨rfl,rfl,rfl⟩:=hh;clear hso Hnq
     cases qb with
     | true =>
      go_wp2_with fail
      refine bodyPost_ret (v:=.tuple #[.pointer none,.int .i64 4]) (by simp [results,Tryz.results36,go_sem]) rfl ?_;exact OpenedS.no (by decide) hxX hd6 ch6
     | false =>
      go_wp2_with fail
      refine bodyPost_ret (v:=.tuple #[.pointer none,.int .i64 4]) (by simp [results,Tryz.results36,go_sem]) rfl ?_;exact OpenedS.no (by decide) hxX hd6 ch6
    | some s =>
     rw [hso] at hr;obtain rfl:=hr
     cases qb with
     | false=>have:=Hnq.out rfl;rw [hso] at this;cases this
     | true =>
     have Hso:=Lib.hid (Hsn.out.trans hso);clear hso Hnq Hsn;have f1:=st6.blk.frozen 1;have z1:=st6.c1;go_wp2_with fail
     go_meet
     have cS:=chg_cell w1.heap.size 1 (.string (ofBytes s)) w6;have ksC:=st6.blk.set 1 (.string (ofBytes s));have stC:RsV (w6.setCell ⟨w1.heap.size,1,none⟩ (.string (ofBytes s))) X2 g w1.heap.size gw (.slice p3 ws.h.log.length c3) ws (ofBytes s):=by
      refine ⟨ksC,st6.wv.only cS (fun e=>st6.ne e.symm) (fun hne k hk e=>st6.off hne (by rw [hk,e])),st6.inX,st6.ne,st6.off⟩
     exact ⟨s,Hso,congrArg Value.string Hbt.out,stC,hd6.chgX cS (fun k hk=>.inl (by subst hk;exact hx2S)),ch6.step (cS.mono fun k hk e=>by subst e;exact ⟨by omega,fun hx=>by have:=hXl _ hx;omega⟩)⟩
  case rest =>
  obtain ⟨s,Hs,rfl,st7,hd7,ch7⟩:=hcut;obtain ⟨w7,hw7⟩:∃ z,z=wc:=⟨_,rfl⟩;subst hw7;clear st3 hd3 ch3;obtain ⟨E2,d2,hcl⟩:∃ E2 d2,cleanP d1 ws.h.base.toNat=(E2,d2):=⟨_,_,rfl⟩;have hh:=Hop.out;rw [Hs.out,hcl] at hh;dsimp only at hh;have hcall:=rksDrop hd7 pic (by omega) ws.h.base.toNat _ rfl hcl;clear Hop;have Hh:=Lib.hid hh;clear hh;generalize butS ws.h.base.toNat=BT at *;go_wp2_with fail
  refine hcall.mono ?_;rintro e w8 ⟨rfl,hd8,ch8⟩;have st8:=st7.keep ch8;have ch08:Chg (Gx w0 X) w w8:=ch7.step (ch8.mono fun k _ q=>⟨q.1,fun hx=>q.2 (hxX k hx)⟩);have hh:=Hh.out
  by_cases hE:E2=0
  ·subst hE;rw [if_pos rfl] at hh;simp only [Prod.mk.injEq] at hh
   obtain ⟨rfl,rfl,rfl⟩:=hh;go_wp2_with fail
   refine bodyPost_ret (v:=.tuple #[.pointer (some ⟨w1.heap.size,0,none⟩),.int .i64 0]) (by simp [results,Tryz.results36,go_sem]) rfl ?_;exact ⟨⟨w1.heap.size,gw,_,X2,rfl,hHs,hgw,hxX,hx2r,hd8,st8,hvw⟩,hd8.mono hxX,ch08⟩
  ·have hi:(E2 !=0)=true:=by simpa using hE
   rw [if_neg hE] at hh;simp only [Prod.mk.injEq] at hh
   obtain ⟨rfl,rfl,rfl⟩:=hh;have HE:=Lib.hid hE;clear hE;go_wp2_with fail
   refine bodyPost_ret (v:=.tuple #[.pointer none,.int .i64 E]) (by simp [results,Tryz.results36,go_sem]) rfl ?_;exact OpenedS.no HE.out hxX hd8 ch08
end
end Go.Proofs.YtgpgcnmnfnnkjaaGreatDoor
