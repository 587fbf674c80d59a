import Derived.Test.YtgpgcnmnfnnkjaaGreatDoorGStorePlays48
import Derived.Test.YtgpgcnmnfnnkjaaGreatDoorGStorePlays43
import Derived.Test.YtgpgcnmnfnnkjaaGreatDoorGStorePlays42
set_option linter.unusedVariables false
set_option linter.unusedSimpArgs false
set_option maxRecDepth 100000
set_option maxHeartbeats 16000000
namespace Go.Proofs.YtgpgcnmnfnnkjaaGreatDoor
section
open Go Go.RowKit Go.PlainAid BigFrame
attribute [local go_sem] After.same
theorem ints_inP {w:World} {v:Value} {l:List Int} (h:Rd intsE w v l):l≠[]→∀ k,v.ownBlock=some k→k<w.heap.size:=fun hn=>Cells.lt h (by rw [intsE.all_length];have h2:=List.length_pos_iff.2 hn;show 0<l.length * 1;omega)
theorem ask10P {w:World} {b off n c:Nat} {l:List AskL} (h:Rd aslE w (.slice (some ⟨b,off,none⟩) n c) l) {k:Nat} (hk:k<l.length):w.cell? ⟨b,off+k * 10,none⟩=some (.int .i64 l[k].kind)∧w.cell? ⟨b,off+k * 10+1,none⟩=some (.int .i64 l[k].n)∧w.cell? ⟨b,off+k * 10+2,none⟩=some (.int .i64 l[k].h.term)∧w.cell? ⟨b,off+k * 10+3,none⟩=some (.int .i64 l[k].h.vote)∧w.cell? ⟨b,off+k * 10+4,none⟩=some (.int .i64 l[k].h.base)∧w.cell? ⟨b,off+k * 10+5,none⟩=some (.int .i64 l[k].h.bterm)∧w.cell? ⟨b,off+k * 10+6,none⟩=some (.int .i64 l[k].h.members)∧w.cell? ⟨b,off+k * 10+7,none⟩=some (.string l[k].h.snap)∧w.cell? ⟨b,off+k * 10+8,none⟩=some (.slice l[k].hp l[k].h.log.length l[k].hc)∧w.cell? ⟨b,off+k * 10+9,none⟩=some (.slice l[k].pp l[k].picks.length l[k].pc) :=
 ⟨h.at_ hk 0 (by decide),h.at_ hk 1 (by decide),h.at_ hk 2 (by decide),h.at_ hk 3 (by decide),h.at_ hk 4 (by decide),h.at_ hk 5 (by decide),h.at_ hk 6 (by decide),h.at_ hk 7 (by decide),h.at_ hk 8 (by decide),h.at_ hk 9 (by decide)⟩
def PlN (w0:World) (gD gR:Nat) (K:Nat) (w:World) (X:Nat→Prop) (d:Dk) (tw tx:Value):Prop :=
 TwoD w0 X gD gR d d w∧Below w0.heap.size w0 w∧((tw=.pointer none∧tx=.pointer none)∨∃ gs gw sr gr v vr a b sn,tw=.pointer (some ⟨gs,0,none⟩)∧tx=.pointer (some ⟨sr,0,none⟩)∧LsV w0 w X gD gR d d gs gw sr gr v vr a b sn∧AlkS a b sn∧b.h.snap=sNone∧b.n≤K)
section
variable {w0 w w':World} {X:Nat→Prop} {gD gR K:Nat} {d d':Dk} {tw tx:Value}
theorem PlN.up (h:PlN w0 gD gR K w X d tw tx):PlN w0 gD gR (K+1) w X d tw tx:=by
 obtain ⟨h1,h2,h3⟩:=h;refine ⟨h1,h2,h3.imp id ?_⟩;rintro ⟨gs,gw,sr,gr,v,vr,a,b,sn,e1,e2,k,al,s,hk⟩;exact ⟨gs,gw,sr,gr,v,vr,a,b,sn,e1,e2,k,al,s,by omega⟩
theorem PlN.ext (h:PlN w0 gD gR K w X d tw tx) (hb:Below w.heap.size w w'):PlN w0 gD gR K w' X d tw tx:=by
 obtain ⟨h1,h2,h3⟩:=h;refine ⟨h1.ext hb,h2.trans (hb.mono h2.size),h3.imp id ?_⟩;rintro ⟨gs,gw,sr,gr,v,vr,a,b,sn,e1,e2,k,r⟩;exact ⟨gs,gw,sr,gr,v,vr,a,b,sn,e1,e2,k.ext hb,r⟩
theorem PlN.alloc (h:PlN w0 gD gR K w X d tw tx) (o:Obj):PlN w0 gD gR K (w.alloc o) (fun j=>X j∨j=w.heap.size) d tw tx:=by
 obtain ⟨h1,h2,h3⟩:=h;have hb:=below_alloc w o;refine ⟨h1.more hb (fun j hj=>hj.imp id fun e=>by subst e;exact ⟨Nat.le_refl _,by simp⟩),h2.trans (hb.mono h2.size),h3.imp id ?_⟩;rintro ⟨gs,gw,sr,gr,v,vr,a,b,sn,e1,e2,k,r⟩;exact ⟨gs,gw,sr,gr,v,vr,a,b,sn,e1,e2,k.alloc o,r⟩
theorem PlN.disks (h:PlN w0 gD gR K w X d tw tx) (t:TwoD w0 X gD gR d' d' w') (c:Chg (Gx w0 X) w w'):PlN w0 gD gR K w' X d' tw tx:=by
 obtain ⟨h1,h2,h3⟩:=h;refine ⟨t,h2.trans (c.gx h2.size),h3.imp id ?_⟩;rintro ⟨gs,gw,sr,gr,v,vr,a,b,sn,e1,e2,k,r⟩;exact ⟨gs,gw,sr,gr,v,vr,a,b,sn,e1,e2,k.disks t c,r⟩
def PlLow (w:World) (n:Nat) (tw tx:Value):Prop:=∀ z,Below w.heap.size w z→∀ gs gw sr gr,tw=.pointer (some ⟨gs,0,none⟩)→tx=.pointer (some ⟨sr,0,none⟩)→z.cell? ⟨gs,1,none⟩=some (.pointer (some ⟨gw,0,none⟩))→z.cell? ⟨sr,0,none⟩=some (.pointer (some ⟨gr,0,none⟩))→gs<n∧gw<n∧sr<n∧gr<n
end
theorem storePlays_walk (v0:Value) (ls:List AskL) (w:World) (T:TabW w) (hv:Rd aslE w v0 ls) (hd:∀ x ∈ ls,AskLOk w x) :
 Calls Tryz.prog 6 #[v0] w fun e w'=>e=.returned (.bool true)∧Below w.heap.size w w':=by
 obtain ⟨w0,hw0⟩:∃ w0,w0=w:=⟨_,rfl⟩;rw [←hw0] at T hv hd ⊢;clear hw0;have T0:∀ z,Below w0.heap.size w0 z→TabW z:=Lib.tabBelow_of_tabIs T;have Tn:=Lib.hid T0;have Hd:=Lib.hid hd;clear T T0 hd;obtain ⟨pl,cl,rfl⟩:=hv.shape;have hl2:=hv.le;unfold maxLen at hl2;go_enter Tryz.func6,Tryz.ntmps6
 go_wp2_with fail
 refine (lNew w0 w0 (Nat.le_refl _) noX (fun _ h=>h.elim)).mono ?_;rintro e w1 ⟨rfl,d1,b1⟩;generalize w0.heap.size=gD at d1;go_wp2_with fail
 refine (rNew w1 w1 (Nat.le_refl _) (fun _=>False) (fun _ h=>h.elim)).mono ?_;rintro e w2 ⟨rfl,r2,b12⟩;have t2:=TwoD.start d1 (fun _ h=>h.elim) r2 b12;have b2:=b1.trans (b12.mono b1.size);generalize w1.heap.size=gR at t2 r2;have ho:=t2.openSD Tn.out b2 PInv.zero (by omega) tp0;unfold TwoStD at ho;clear d1 r2 b12 b1;go_wp2_with fail
 refine ho.mono ?_;rintro e w3 ⟨⟨gs,gw,v3,X3,rfl,hgs,hgw,hx3,t3,v3',hv3⟩,c3⟩;have b3:=b2.trans (c3.gx t2.size);have hgs0:w0.heap.size≤gs:=Nat.le_trans t2.size hgs;have hgw0:w0.heap.size≤gw:=Nat.le_trans t2.size hgw;have hgl:=v3'.blk.lt;have hgl2:=v3'.wv.blk.lt;have ho:=t3.openSR PInv.zero (by omega) tp0;unfold TwoStR at ho;clear c3 t2 b2 hx3 hgw hgs hv3;go_wp2_with fail
 refine ho.mono ?_;rintro e w4 ⟨⟨sr,gr,v4,X4,rfl,hsr,hgr,hx4,t4,v4',hv4⟩,c4⟩;have b4:=b3.trans (c4.gx t3.size);have k4:LsV w0 w4 X4 gD gR dk0 dk0 gs gw sr gr v3 v4 st0 st0.w st0.snap:=⟨t4,(v3'.keep c4).mono hx4,v4',b4,hgs0,hgw0,Nat.le_trans t3.size hsr,Nat.le_trans t3.size hgr,⟨by omega,by omega,by omega,by omega⟩,⟨fun e=>by have:=v3'.wv.lX _ e;have:=t3.2 _ this;omega,fun e=>by have:=v3'.wv.lX _ e;have:=t3.2 _ this;omega⟩,fun hne=>⟨fun e=>by have:=hv4 _ e hne;omega,fun e=>by have:=hv4 _ e hne;omega⟩⟩;have hstz:=(NamQ.zero.openP PInv.zero).2 st0 (by rw [tp0])
 have st0':PlN w0 gD gR 0 w4 X4 dk0 (.pointer (some ⟨gs,0,none⟩)) (.pointer (some ⟨sr,0,none⟩)):=⟨t4,b4,.inr ⟨gs,gw,sr,gr,v3,v4,st0,_,_,rfl,rfl,k4,⟨rfl,rfl,by rw [hstz.2.2.1,hstz.2.2.2],fun _=>Alk.refl _⟩,hstz.2.1,hstz.1⟩⟩;have St0:=Lib.hid st0';clear st0' k4 b4 c4 hv4 v4' t4 hx4 hgr hsr ho b3 v3' t3 hgl hgl2 hgw0 hgs0 hstz;go_wp2_with fail
 go_loopw [5,6,7,8,9] (fun tw te tx tg ti wr=>∃ (k m:Nat) (d:Dk) (X:Nat→Prop),k≤ls.length∧k≤25∧m≤2 * k∧ti=.int .i64 (k:Int)∧Hid (PInv m d)∧Hid (NamQ k d)∧Hid (PlN w0 gD gR k wr X d tw tx)) (fun _ _ _ _ ti _=>ls.length - (intOf ti).toNat)
 case atStart=>exact ⟨0,0,dk0,X4,by omega,by omega,by omega,rfl,Lib.hid PInv.zero,Lib.hid NamQ.zero,St0⟩
 case round =>
  clear St0;obtain ⟨k,m,d,X,hk,hk25,hm2,rfl,pi,nq,st⟩:=hrel;have hk0:(0:Int)≤(k:Int):=by omega
  have hb:=st.out.2.1
  by_cases hend:k<ls.length∧k<25
  ·obtain ⟨hlt,hlt3⟩:=hend;have hi4:(k:Int)<(ls.length:Int):=by omega
   have hi5:decide ((k:Int)<25)=true:=by simp;omega
   obtain ⟨pb,po,rfl⟩:=Rd.blk hv (by omega);have rr:=hv.ext hb;have hx:=Hd.out _ (List.getElem_mem hlt);obtain ⟨a0,a1,a2,a3,a4,a5,a6,a7,a8,a9⟩:=ask10P rr hlt;obtain ⟨x,hxe⟩:∃ x,ls[k]=x:=⟨_,rfl⟩;rw [hxe] at a0 a1 a2 a3 a4 a5 a6 a7 a8 a9 hx;have Hx:=Lib.hid hx;clear hxe rr hx;have kA:=Blk.new wr #[.int .i64 x.kind,.int .i64 x.n,.int .i64 x.h.term,.int .i64 x.h.vote,.int .i64 x.h.base,.int .i64 x.h.bterm,.int .i64 x.h.members,.string x.h.snap,.slice x.hp x.h.log.length x.hc,.slice x.pp x.picks.length x.pc] 57
   have ca:=below_alloc wr (.cells #[.int .i64 x.kind,.int .i64 x.n,.int .i64 x.h.term,.int .i64 x.h.vote,.int .i64 x.h.base,.int .i64 x.h.bterm,.int .i64 x.h.members,.string x.h.snap,.slice x.hp x.h.log.length x.hc,.slice x.pp x.picks.length x.pc] 57);have stA:=st.out.alloc (.cells #[.int .i64 x.kind,.int .i64 x.n,.int .i64 x.h.term,.int .i64 x.h.vote,.int .i64 x.h.base,.int .i64 x.h.bterm,.int .i64 x.h.members,.string x.h.snap,.slice x.hp x.h.log.length x.hc,.slice x.pp x.picks.length x.pc] 57);have hltA:PlLow wr wr.heap.size u5 u7:=by
    rintro z hz gs gw sr gr rfl rfl q1 q2;obtain ⟨_,_,⟨e,_⟩ | ⟨gs',gw',sr',gr',v,vr,a,b,sn,e1,e2,L,_⟩⟩:=st.out
    ·cases e
    ·cases e1;cases e2
     rw [(L.ext hz).vv.c1] at q1;rw [(L.ext hz).rv.c0] at q2
     cases q1;cases q2
     exact ⟨L.vv.blk.lt,L.vv.wv.blk.lt,L.rv.blk.lt,L.rv.wv.blk.lt⟩
   have hbA:=stA.2.1;have y0:=kA.cell 0 _ rfl;have y1:=kA.cell 1 _ rfl;have y2:=kA.cell 2 _ rfl;have y3:=kA.cell 3 _ rfl;have y4:=kA.cell 4 _ rfl;have y5:=kA.cell 5 _ rfl;have y6:=kA.cell 6 _ rfl;have y7:=kA.cell 7 _ rfl;have y8:=kA.cell 8 _ rfl;have y9:=kA.cell 9 _ rfl;clear hb;go_upto_region 10 with (fail)
   clear a0 a1 a2 a3 a4 a5 a6 a7 a8 a9;generalize wr.alloc (.cells #[.int .i64 x.kind,.int .i64 x.n,.int .i64 x.h.term,.int .i64 x.h.vote,.int .i64 x.h.base,.int .i64 x.h.bterm,.int .i64 x.h.members,.string x.h.snap,.slice x.hp x.h.log.length x.hc,.slice x.pp x.picks.length x.pc] 57)=wA at *;have hsm:=refSmall x.h (.slice x.hp x.h.log.length x.hc) wA (Hx.out.log.ext hbA) (Nat.le_trans Hx.out.snap (by decide)) (fun y hy=>Nat.le_trans (Hx.out.data y hy) (by decide));go_upto_region 10 with (fail)
   go_cut [56] from 47 to 56 (fun q wi=>q=.bool (!smallH x.h || decide (20<x.picks.length))∧Below wA.heap.size wA wi)
   case first =>
    cases hs:smallH x.h with
    | false =>
     rw [hs] at hsm;clear stA hltA;go_wp2_with fail
     refine hsm.mono ?_;rintro e w5 ⟨rfl,b5⟩;have k5:=kA.ext b5;have q0:=k5.cell 0 _ rfl;have q1:=k5.cell 1 _ rfl;have q2:=k5.cell 2 _ rfl;have q3:=k5.cell 3 _ rfl;have q4:=k5.cell 4 _ rfl;have q5:=k5.cell 5 _ rfl;have q6:=k5.cell 6 _ rfl;have q7:=k5.cell 7 _ rfl;have q8:=k5.cell 8 _ rfl;have q9:=k5.cell 9 _ rfl;clear y0 y1 y2 y3 y4 y5 y6 y7 y8 y9;go_wp2_with fail
     go_meet
     exact ⟨by simp [hs],b5⟩
    | true =>
     rw [hs] at hsm;clear stA hltA
     by_cases hp20:20<x.picks.length
     ·have h3i:(20:Int)<(x.picks.length:Int):=by omega
      go_wp2_with fail
      refine hsm.mono ?_;rintro e w5 ⟨rfl,b5⟩;have k5:=kA.ext b5;have q0:=k5.cell 0 _ rfl;have q1:=k5.cell 1 _ rfl;have q2:=k5.cell 2 _ rfl;have q3:=k5.cell 3 _ rfl;have q4:=k5.cell 4 _ rfl;have q5:=k5.cell 5 _ rfl;have q6:=k5.cell 6 _ rfl;have q7:=k5.cell 7 _ rfl;have q8:=k5.cell 8 _ rfl;have q9:=k5.cell 9 _ rfl;clear y0 y1 y2 y3 y4 y5 y6 y7 y8 y9;go_wp2_with fail
      go_meet
      exact ⟨by simp [hs,hp20]<;>omega,b5⟩
     ·have h3i:¬ (20:Int)<(x.picks.length:Int):=by omega
      go_wp2_with fail
      refine hsm.mono ?_;rintro e w5 ⟨rfl,b5⟩;have k5:=kA.ext b5;have q0:=k5.cell 0 _ rfl;have q1:=k5.cell 1 _ rfl;have q2:=k5.cell 2 _ rfl;have q3:=k5.cell 3 _ rfl;have q4:=k5.cell 4 _ rfl;have q5:=k5.cell 5 _ rfl;have q6:=k5.cell 6 _ rfl;have q7:=k5.cell 7 _ rfl;have q8:=k5.cell 8 _ rfl;have q9:=k5.cell 9 _ rfl;clear y0 y1 y2 y3 y4 y5 y6 y7 y8 y9;go_wp2_with fail
      go_meet
      exact ⟨by simp [hs,hp20]<;>omega,b5⟩
   case rest =>
   obtain ⟨rfl,b5⟩:=hcut;obtain ⟨w5,hw5e⟩:∃ z,z=wc:=⟨_,rfl⟩;subst hw5e;have st5:=stA.ext b5;have k5:=kA.ext b5;clear hsm y0 y1 y2 y3 y4 y5 y6 y7 y8 y9 stA kA hbA;obtain ⟨sm,hsm⟩:∃ b,(!smallH x.h || decide (20<x.picks.length))=b:=⟨_,rfl⟩;rw [hsm];have St5:=Lib.hid st5;clear st5
   cases sm with
   | true =>
    go_wp2_with fail
    go_roundw
    case rel=>exact ⟨k+1,m,d,_,by omega,by omega,by omega,by go_num,pi,Lib.hid nq.out.up,Lib.hid St5.out.up⟩
    case measure=>simp [intOf];omega
   | false =>
   have hsz9:smallH x.h=true:=by simp only [Bool.or_eq_false_iff,Bool.not_eq_false'] at hsm;exact hsm.1
   have Hsz:=Lib.hid (show x.h.snap.size≤1000000 by unfold smallH at hsz9;simp only [Bool.and_eq_true,decide_eq_true_eq] at hsz9;omega);clear hsm hsz9;have HltA:=Lib.hid (hltA w5 (ca.trans (b5.mono ca.size)));have Kw:=Lib.hid k5;have Pi:=pi;have Nq:=nq;clear hltA k5 ca;go_upto_region 11 with (fail)
   have q0:=Kw.out.cell 0 _ rfl
   go_upto_block 2 with (fail)
   clear q0
   go_cut [5,6,7,8] from 59 to 117 (fun tw te tx tg wi=>∃ (m':Nat) (d':Dk) (X':Nat→Prop),m'≤m+2∧PInv m' d'∧NamQ (k+1) d'∧PlN w0 gD gR (k+1) wi X' d' tw tx)
   case first=>as_aux_lemma =>
    have st5:=St5.out;have y0:=Kw.out.cell 0 _ rfl
    by_cases h1:x.kind=1
    ·have h1b:(x.kind == 1)=true:=by simpa using h1
     clear h1;have Hl:=Lib.hid (show Rd etyE w0 (.slice x.hp x.h.log.length x.hc) x.h.log from Hx.out.log);go_upto_region 13 with (fail)
     clear y0;obtain ⟨tt,hb5,⟨rfl,rfl⟩ | ⟨gs,gw,sr,gr,v,vr,a,b,sn,rfl,rfl,L5,al,hsn,hbn⟩⟩:=st5
     ·refine wp_region_F (n:=12) (S:=fun w':World=>w'.cell? ⟨wr.heap.size,2,none⟩=some (.int .i64 x.h.term)∧w'.cell? ⟨wr.heap.size,3,none⟩=some (.int .i64 x.h.vote)∧w'.cell? ⟨wr.heap.size,4,none⟩=some (.int .i64 x.h.base)∧w'.cell? ⟨wr.heap.size,5,none⟩=some (.int .i64 x.h.bterm)∧w'.cell? ⟨wr.heap.size,6,none⟩=some (.int .i64 x.h.members)∧w'.cell? ⟨wr.heap.size,7,none⟩=some (.string x.h.snap)∧w'.cell? ⟨wr.heap.size,8,none⟩=some (.slice x.hp x.h.log.length x.hc)) (by kernel_rfl) ?_
      have hHeld:(fun w':World=>w'.cell? ⟨wr.heap.size,2,none⟩=some (.int .i64 x.h.term)∧w'.cell? ⟨wr.heap.size,3,none⟩=some (.int .i64 x.h.vote)∧w'.cell? ⟨wr.heap.size,4,none⟩=some (.int .i64 x.h.base)∧w'.cell? ⟨wr.heap.size,5,none⟩=some (.int .i64 x.h.bterm)∧w'.cell? ⟨wr.heap.size,6,none⟩=some (.int .i64 x.h.members)∧w'.cell? ⟨wr.heap.size,7,none⟩=some (.string x.h.snap)∧w'.cell? ⟨wr.heap.size,8,none⟩=some (.slice x.hp x.h.log.length x.hc)) w5.drew:=⟨(Kw.out.ext (below_drew _ _)).cell 2 _ rfl,(Kw.out.ext (below_drew _ _)).cell 3 _ rfl,(Kw.out.ext (below_drew _ _)).cell 4 _ rfl,(Kw.out.ext (below_drew _ _)).cell 5 _ rfl,(Kw.out.ext (below_drew _ _)).cell 6 _ rfl,(Kw.out.ext (below_drew _ _)).cell 7 _ rfl,(Kw.out.ext (below_drew _ _)).cell 8 _ rfl⟩
      refine wpAnyF_tk 0 (some 61) (Op.move (Operand.tmp 5)) 63 (v:=?_) rfl (by kernel_rfl) (fun _ _ _ h=>h) ?_ hHeld ?_;rotate_left
      ·intro w hSw
       try dsimp only at hSw
       obtain ⟨_,_,_,_,_,_,_⟩:=hSw;dsimp only [bare]
       go_simp<;>with_reducible rfl
      try simp only [bare,Act.put,lyA,lyZ,lyS]
      refine wpAnyF_tk 1 (some 62) (Op.binOp BinOp.neq 63 (Operand.tmp 61) (Operand.const (Value.pointer none)) 63) 4 (v:=?_) rfl (by kernel_rfl) (fun _ _ _ h=>h) ?_ hHeld ?_;rotate_left
      ·intro w hSw
       try dsimp only at hSw
       obtain ⟨_,_,_,_,_,_,_⟩:=hSw;dsimp only [bare]
       go_simp<;>with_reducible rfl
      try simp only [bare,Act.put,lyA,lyZ,lyS]
      refine wpAnyF_tk 2 (some 63) (Op.move (Operand.tmp 62)) 4 (v:=?_) rfl (by kernel_rfl) (fun _ _ _ h=>h) ?_ hHeld ?_;rotate_left
      ·intro w hSw
       try dsimp only at hSw
       obtain ⟨_,_,_,_,_,_,_⟩:=hSw;dsimp only [bare]
       go_simp<;>with_reducible rfl
      try simp only [bare,Act.put,lyA,lyZ,lyS]
      refine wpAnyF_sk 3 (some 64) (Op.move (Operand.tmp 5)) 63 (some (2,true)) rfl (by kernel_rfl) (by kernel_rfl) (fun _ _ _ h=>h) hHeld ?_
      try simp only [bare,Act.put,lyA,lyZ,lyS]
      refine wpAnyF_sk 4 (some 65) (Op.fieldAddr 57 (Operand.tmp 10) 2) 0 (some (2,true)) rfl (by kernel_rfl) (by kernel_rfl) (fun _ _ _ h=>h) hHeld ?_
      try simp only [bare,Act.put,lyA,lyZ,lyS]
      refine wpAnyF_sk 5 (some 66) (Op.load 24 (Operand.tmp 65)) 24 (some (2,true)) rfl (by kernel_rfl) (by kernel_rfl) (fun _ _ _ h=>h) hHeld ?_
      try simp only [bare,Act.put,lyA,lyZ,lyS]
      refine wpAnyF_sk 6 (some 67) (Op.call { callee:=Callee.value (Operand.func 31),args:=#[Operand.tmp 64,Operand.tmp 66],argTypes:=#[63,24] }) 42 (some (2,true)) rfl (by kernel_rfl) (by kernel_rfl) (fun _ _ _ h=>h) hHeld ?_
      try simp only [bare,Act.put,lyA,lyZ,lyS]
      refine wpAnyF_sk 7 (some 68) (Op.move (Operand.tmp 7)) 67 (some (2,true)) rfl (by kernel_rfl) (by kernel_rfl) (fun _ _ _ h=>h) hHeld ?_
      try simp only [bare,Act.put,lyA,lyZ,lyS]
      refine wpAnyF_sk 8 (some 69) (Op.fieldAddr 57 (Operand.tmp 10) 2) 0 (some (2,true)) rfl (by kernel_rfl) (by kernel_rfl) (fun _ _ _ h=>h) hHeld ?_
      try simp only [bare,Act.put,lyA,lyZ,lyS]
      refine wpAnyF_sk 9 (some 70) (Op.load 24 (Operand.tmp 69)) 24 (some (2,true)) rfl (by kernel_rfl) (by kernel_rfl) (fun _ _ _ h=>h) hHeld ?_
      try simp only [bare,Act.put,lyA,lyZ,lyS]
      refine wpAnyF_sk 10 (some 71) (Op.call { callee:=Callee.value (Operand.func 37),args:=#[Operand.tmp 68,Operand.tmp 70],argTypes:=#[67,24] }) 3 (some (2,true)) rfl (by kernel_rfl) (by kernel_rfl) (fun _ _ _ h=>h) hHeld ?_
      try simp only [bare,Act.put,lyA,lyZ,lyS]
      refine wpAnyF_sk 11 (some 72) (Op.binOp BinOp.neq 3 (Operand.tmp 67) (Operand.tmp 71) 3) 4 (some (2,true)) rfl (by kernel_rfl) (by kernel_rfl) (fun _ _ _ h=>h) hHeld ?_
      try simp only [bare,Act.put,lyA,lyZ,lyS]
      refine wpAnyF_end (some 73) (Op.pick (Operand.tmp 63) (Operand.tmp 72) (Operand.const (Value.bool false))) 4 rfl (by kernel_rfl) (by kernel_rfl) (fun K hK=>?_);dsimp only [bare];go_simp;refine hK _ _ ?_;clear hK K
      try simp only [bare,Act.put,lyA,lyZ,lyS]
      have b5d:=below_drew w5.heap.size w5;have Fin:=Lib.hid (show ∃ (m':Nat) (d':Dk) (X':Nat→Prop),m'≤m+2∧PInv m' d'∧NamQ (k+1) d'∧PlN w0 gD gR (k+1) w5.drew X' d' (.pointer none) (.pointer none) from ⟨m,_,_,by omega,Pi.out,Nq.out.up,tt.ext b5d,hb5.trans (b5d.mono hb5.size),.inl ⟨rfl,rfl⟩⟩);clear hHeld tt;go_wp2_with fail
      go_meet
      exact Fin.out
     ·have hltQ:=HltA.out gs gw sr gr rfl rfl L5.vv.c1 L5.rv.c0;obtain ⟨hgs,hgw,hsr,hgr⟩:=hltQ;obtain ⟨E,a',dA,hsA⟩:∃ E a' dA,saveP d a x.h=(E,a',dA):=⟨_,_,_,rfl⟩;obtain ⟨E2,b',sn',dB,hsB⟩:∃ E2 b' sn' dB,saveQ d b sn x.h=(E2,b',sn',dB):=⟨_,_,_,_,rfl⟩;obtain ⟨rfl,rfl,al2,hsn2,nq2,hbn2⟩:=al.saved hsn Pi.out Nq.out hbn (by omega) hsA hsB;have piS:PInv (m+2) dA:=by have:=Pi.out.saveP a x.h;rw [hsA] at this;exact this
      have HA:=Lib.hid hsA;have HB:=Lib.hid hsB;have Sn:=Lib.hid hsn;have Al2:=Lib.hid al2;have Sn2:=Lib.hid hsn2;have Nq2:=Lib.hid nq2;have Hbn2:=Lib.hid hbn2;have hEE:(E !=E)=false:=by simp
      clear hsA hsB hsn hsn2 al al2 nq2 hbn2 hbn;refine wp_region_F (n:=12) (S:=fun w':World=>w'.cell? ⟨wr.heap.size,2,none⟩=some (.int .i64 x.h.term)∧w'.cell? ⟨wr.heap.size,3,none⟩=some (.int .i64 x.h.vote)∧w'.cell? ⟨wr.heap.size,4,none⟩=some (.int .i64 x.h.base)∧w'.cell? ⟨wr.heap.size,5,none⟩=some (.int .i64 x.h.bterm)∧w'.cell? ⟨wr.heap.size,6,none⟩=some (.int .i64 x.h.members)∧w'.cell? ⟨wr.heap.size,7,none⟩=some (.string x.h.snap)∧w'.cell? ⟨wr.heap.size,8,none⟩=some (.slice x.hp x.h.log.length x.hc)) (by kernel_rfl) ?_
      have hHeld:(fun w':World=>w'.cell? ⟨wr.heap.size,2,none⟩=some (.int .i64 x.h.term)∧w'.cell? ⟨wr.heap.size,3,none⟩=some (.int .i64 x.h.vote)∧w'.cell? ⟨wr.heap.size,4,none⟩=some (.int .i64 x.h.base)∧w'.cell? ⟨wr.heap.size,5,none⟩=some (.int .i64 x.h.bterm)∧w'.cell? ⟨wr.heap.size,6,none⟩=some (.int .i64 x.h.members)∧w'.cell? ⟨wr.heap.size,7,none⟩=some (.string x.h.snap)∧w'.cell? ⟨wr.heap.size,8,none⟩=some (.slice x.hp x.h.log.length x.hc)) w5.drew:=⟨(Kw.out.ext (below_drew _ _)).cell 2 _ rfl,(Kw.out.ext (below_drew _ _)).cell 3 _ rfl,(Kw.out.ext (below_drew _ _)).cell 4 _ rfl,(Kw.out.ext (below_drew _ _)).cell 5 _ rfl,(Kw.out.ext (below_drew _ _)).cell 6 _ rfl,(Kw.out.ext (below_drew _ _)).cell 7 _ rfl,(Kw.out.ext (below_drew _ _)).cell 8 _ rfl⟩
      refine wpAnyF_tk 0 (some 61) (Op.move (Operand.tmp 5)) 63 (v:=?_) rfl (by kernel_rfl) (fun _ _ _ h=>h) ?_ hHeld ?_;rotate_left
      ·intro w hSw
       try dsimp only at hSw
       obtain ⟨_,_,_,_,_,_,_⟩:=hSw;dsimp only [bare]
       go_simp<;>with_reducible rfl
      try simp only [bare,Act.put,lyA,lyZ,lyS]
      refine wpAnyF_tk 1 (some 62) (Op.binOp BinOp.neq 63 (Operand.tmp 61) (Operand.const (Value.pointer none)) 63) 4 (v:=?_) rfl (by kernel_rfl) (fun _ _ _ h=>h) ?_ hHeld ?_;rotate_left
      ·intro w hSw
       try dsimp only at hSw
       obtain ⟨_,_,_,_,_,_,_⟩:=hSw;dsimp only [bare]
       go_simp<;>with_reducible rfl
      try simp only [bare,Act.put,lyA,lyZ,lyS]
      refine wpAnyF_tk 2 (some 63) (Op.move (Operand.tmp 62)) 4 (v:=?_) rfl (by kernel_rfl) (fun _ _ _ h=>h) ?_ hHeld ?_;rotate_left
      ·intro w hSw
       try dsimp only at hSw
       obtain ⟨_,_,_,_,_,_,_⟩:=hSw;dsimp only [bare]
       go_simp<;>with_reducible rfl
      try simp only [bare,Act.put,lyA,lyZ,lyS]
      refine wpAnyF_tg 3 (some 64) (Op.move (Operand.tmp 5)) 63 (some (2,true)) (v:=?_) rfl (by kernel_rfl) (by kernel_rfl) (fun _ _ _ h=>h) ?_ hHeld ?_;rotate_left
      ·intro w hSw
       try dsimp only at hSw
       obtain ⟨_,_,_,_,_,_,_⟩:=hSw;dsimp only [bare]
       go_simp<;>with_reducible rfl
      try simp only [bare,Act.put,lyA,lyZ,lyS]
      refine wpAnyF_tg 4 (some 65) (Op.fieldAddr 57 (Operand.tmp 10) 2) 0 (some (2,true)) (v:=?_) rfl (by kernel_rfl) (by kernel_rfl) (fun _ _ _ h=>h) ?_ hHeld ?_;rotate_left
      ·intro w hSw
       try dsimp only at hSw
       obtain ⟨_,_,_,_,_,_,_⟩:=hSw;dsimp only [bare]
       go_simp<;>with_reducible rfl
      try simp only [bare,Act.put,lyA,lyZ,lyS]
      refine wpAnyF_tg 5 (some 66) (Op.load 24 (Operand.tmp 65)) 24 (some (2,true)) (v:=?_) rfl (by kernel_rfl) (by kernel_rfl) (fun _ _ _ h=>h) ?_ hHeld ?_;rotate_left
      ·intro w hSw
       try dsimp only at hSw
       obtain ⟨_,_,_,_,_,_,_⟩:=hSw;dsimp only [bare]
       go_simp<;>with_reducible rfl
      try simp only [bare,Act.put,lyA,lyZ,lyS]
      refine wpAnyF_tg 7 (some 68) (Op.move (Operand.tmp 7)) 67 (some (2,true)) (v:=?_) rfl (by kernel_rfl) (by kernel_rfl) (fun _ _ _ h=>h) ?_ hHeld ?_;rotate_left
      ·intro w hSw
       try dsimp only at hSw
       obtain ⟨_,_,_,_,_,_,_⟩:=hSw;dsimp only [bare]
       go_simp<;>with_reducible rfl
      try simp only [bare,Act.put,lyA,lyZ,lyS]
      refine wpAnyF_tg 8 (some 69) (Op.fieldAddr 57 (Operand.tmp 10) 2) 0 (some (2,true)) (v:=?_) rfl (by kernel_rfl) (by kernel_rfl) (fun _ _ _ h=>h) ?_ hHeld ?_;rotate_left
      ·intro w hSw
       try dsimp only at hSw
       obtain ⟨_,_,_,_,_,_,_⟩:=hSw;dsimp only [bare]
       go_simp<;>with_reducible rfl
      try simp only [bare,Act.put,lyA,lyZ,lyS]
      refine wpAnyF_tg 9 (some 70) (Op.load 24 (Operand.tmp 69)) 24 (some (2,true)) (v:=?_) rfl (by kernel_rfl) (by kernel_rfl) (fun _ _ _ h=>h) ?_ hHeld ?_;rotate_left
      ·intro w hSw
       try dsimp only at hSw
       obtain ⟨_,_,_,_,_,_,_⟩:=hSw;dsimp only [bare]
       go_simp<;>with_reducible rfl
      try simp only [bare,Act.put,lyA,lyZ,lyS]
      refine wpAnyF_og 6 (some 67) (Op.call { callee:=Callee.value (Operand.func 31),args:=#[Operand.tmp 64,Operand.tmp 66],argTypes:=#[63,24] }) 42 (some (2,true)) rfl (by kernel_rfl) (by kernel_rfl) (fun K hK=>?_);dsimp only [bare];go_simp
      (with_reducible refine ((L5.ext (below_drew _ _)).saveD Tn.out Pi.out (by omega) x.h (.slice x.hp x.h.log.length x.hc) (Hl.out.ext (hb5.trans ((below_drew _ _).mono hb5.size))) (fun hne j hj=>.inl (Hl.out.ltE hne j hj)) (fun hne e=>by have q1:=Hl.out.ltE hne _ e;have q2:=L5.gw0;omega) HA.out).mono ?_)
      rintro e w8 ⟨rfl,X8,v8,hx8,L8,c8⟩;dsimp only;have k8:=c8.blk (Kw.out.ext (below_drew _ _)) (fun hG=>hG.elim (fun q=>q.2 (.inr rfl)) (fun q=>by omega));refine hK _ _ ⟨k8.cell 2 _ rfl,k8.cell 3 _ rfl,k8.cell 4 _ rfl,k8.cell 5 _ rfl,k8.cell 6 _ rfl,k8.cell 7 _ rfl,k8.cell 8 _ rfl⟩ (fun hHeld=>?_);clear hK K
      try simp only [bare,Act.put,lyA,lyZ,lyS]
      refine wpAnyF_og 10 (some 71) (Op.call { callee:=Callee.value (Operand.func 37),args:=#[Operand.tmp 68,Operand.tmp 70],argTypes:=#[67,24] }) 3 (some (2,true)) rfl (by kernel_rfl) (by kernel_rfl) (fun K hK=>?_);dsimp only [bare];go_simp
      (with_reducible refine (L8.saveR Pi.out (by omega) Sn.out x.h (.slice x.hp x.h.log.length x.hc) (Hl.out.ext L8.hb) (fun hne j hj=>.inl (Hl.out.ltE hne j hj)) Hsz.out HB.out).mono ?_)
      rintro e w9 ⟨rfl,X9,v9,hx9,L9,c9⟩;dsimp only;have k9:=c9.blk k8 (fun hG=>hG.elim (fun q=>q.2 (hx8 _ (.inr rfl))) (fun q=>by omega));refine hK _ _ ⟨k9.cell 2 _ rfl,k9.cell 3 _ rfl,k9.cell 4 _ rfl,k9.cell 5 _ rfl,k9.cell 6 _ rfl,k9.cell 7 _ rfl,k9.cell 8 _ rfl⟩ (fun hHeld=>?_);clear hK K
      try simp only [bare,Act.put,lyA,lyZ,lyS]
      refine wpAnyF_tg 11 (some 72) (Op.binOp BinOp.neq 3 (Operand.tmp 67) (Operand.tmp 71) 3) 4 (some (2,true)) (v:=?_) rfl (by kernel_rfl) (by kernel_rfl) (fun _ _ _ h=>h) ?_ hHeld ?_;rotate_left
      ·intro w hSw
       try dsimp only at hSw
       obtain ⟨_,_,_,_,_,_,_⟩:=hSw;dsimp only [bare]
       go_simp<;>with_reducible rfl
      try simp only [bare,Act.put,lyA,lyZ,lyS]
      refine wpAnyF_end (some 73) (Op.pick (Operand.tmp 63) (Operand.tmp 72) (Operand.const (Value.bool false))) 4 rfl (by kernel_rfl) (by kernel_rfl) (fun K hK=>?_);dsimp only [bare];go_simp;refine hK _ _ ?_;clear hK K
      try simp only [bare,Act.put,lyA,lyZ,lyS]
      have Fin:=Lib.hid (show ∃ (m':Nat) (d':Dk) (X':Nat→Prop),m'≤m+2∧PInv m' d'∧NamQ (k+1) d'∧PlN w0 gD gR (k+1) w9 X' d' (.pointer (some ⟨gs,0,none⟩)) (.pointer (some ⟨sr,0,none⟩)) from ⟨m+2,_,_,Nat.le_refl _,piS,Nq2.out,L9.two,L9.hb,.inr ⟨gs,gw,sr,gr,v8,v9,a',b',sn',rfl,rfl,L9,Al2.out,Sn2.out,Hbn2.out⟩⟩);clear hHeld k8 k9 tt L5 L8 L9 c8 c9;go_wp2_with fail
      go_meet
      exact Fin.out
    ·have h1b:(x.kind == 1)=false:=by simpa using h1
     clear h1
     by_cases h3:x.kind=3
     ·have h3b:(x.kind == 3)=true:=by simpa using h3
      clear h3;have y1:=Kw.out.cell 1 _ rfl;have hA:=st5.1.armD x.n;go_wp2_with fail
      refine hA.mono ?_;rintro e w6 ⟨rfl,t6,c6⟩;have k6:=c6.blk Kw.out (fun hG=>hG.2 (.inr rfl));have hB:=t6.armR x.n;clear y0 y1 hA;have y1:=k6.cell 1 _ rfl;go_wp2_with fail
      refine hB.mono ?_;rintro e w7 ⟨rfl,t7,c7⟩;have Fin:=Lib.hid (show ∃ (m':Nat) (d':Dk) (X':Nat→Prop),m'≤m+2∧PInv m' d'∧NamQ (k+1) d'∧PlN w0 gD gR (k+1) w7 X' d' u5 u7 from ⟨m,_,_,by omega,Pi.out.arm0 Hx.out.n64.2,(Nq.out.fs rfl).up,(st5.disks t7 (c6.step c7)).up⟩);clear hB t6 c6 t7 c7 k6 y1 st5;go_wp2_with fail
      go_meet
      exact Fin.out
     ·have h3b:(x.kind == 3)=false:=by simpa using h3
      clear h3
      by_cases h2:x.kind=2
      ·have h2b:(x.kind == 2)=true:=by simpa using h2
       have h4b:(x.kind == 4)=false:=by simp [h2]
       clear h2;have tt:=st5.1;have hb5:=st5.2.1;obtain ⟨E,o,dC2,how⟩:∃ E o dC2,openP d=(E,o,dC2):=⟨_,_,_,rfl⟩;have piO:PInv m dC2:=by have:=Pi.out.openP;rw [how] at this;exact this
       have hnq:=Nq.out.openP Pi.out;rw [how] at hnq;obtain ⟨nqO,hst⟩:=hnq;dsimp only at nqO hst;have ho:=tt.openSD Tn.out hb5 Pi.out (by omega) how;unfold TwoStD at ho
       cases o with
       | none =>
        go_wp2_with fail
        refine ho.mono ?_;rintro e w8 ⟨⟨⟨hE0,rfl⟩,t8⟩,c8⟩;have hb8:=hb5.trans (c8.gx tt.size);have ho2:=t8.openSR Pi.out (by omega) how;unfold TwoStR at ho2;have HE0:=Lib.hid hE0;clear ho c8 hE0 how;go_wp2_with fail
        refine ho2.mono ?_;rintro e w9 ⟨⟨⟨_,rfl⟩,t9⟩,c9⟩;have hb9:=hb8.trans (c9.gx t8.size);have hEE:(E !=E)=false:=by simp
        have Fin:=Lib.hid (show ∃ (m':Nat) (d':Dk) (X':Nat→Prop),m'≤m+2∧PInv m' d'∧NamQ (k+1) d'∧PlN w0 gD gR (k+1) w9 X' d' (.pointer none) (.pointer none) from ⟨m,_,_,by omega,piO,nqO.up,t9,hb9,.inl ⟨rfl,rfl⟩⟩);clear ho2 c9 t8 t9 HE0;go_wp2_with fail
        go_meet
        exact Fin.out
       | some st =>
        obtain ⟨hst1,hst2,hst3,hst4⟩:=hst st rfl;go_wp2_with fail
        refine ho.mono ?_;rintro e w8 ⟨⟨gs,gw,v8,X8,rfl,hgs,hgw,hx8,t8,v8',hv8⟩,c8⟩;have hb8:=hb5.trans (c8.gx tt.size);have hgs0:w0.heap.size≤gs:=Nat.le_trans tt.size hgs;have hgw0:w0.heap.size≤gw:=Nat.le_trans tt.size hgw;have hgl:=v8'.blk.lt;have hgl2:=v8'.wv.blk.lt;have ho2:=t8.openSR Pi.out (by omega) how;unfold TwoStR at ho2;clear ho c8 how;go_wp2_with fail
        refine ho2.mono ?_;rintro e w9 ⟨⟨sr,gr,v9,X9,rfl,hsr,hgr,hx9,t9,v9',hv9⟩,c9⟩;have hb9:=hb8.trans (c9.gx t8.size);have L9:LsV w0 w9 X9 gD gR dC2 dC2 gs gw sr gr v8 v9 st st.w st.snap:=⟨t9,(v8'.keep c9).mono hx9,v9',hb9,hgs0,hgw0,Nat.le_trans t8.size hsr,Nat.le_trans t8.size hgr,⟨by omega,by omega,by omega,by omega⟩,⟨fun e=>by have:=v8'.wv.lX _ e;have:=t8.2 _ this;omega,fun e=>by have:=v8'.wv.lX _ e;have:=t8.2 _ this;omega⟩,fun hne=>⟨fun e=>by have:=hv9 _ e hne;omega,fun e=>by have:=hv9 _ e hne;omega⟩⟩;have hEE:((0:Int) !=0)=false:=by simp
        have Fin:=Lib.hid (show ∃ (m':Nat) (d':Dk) (X':Nat→Prop),m'≤m+2∧PInv m' d'∧NamQ (k+1) d'∧PlN w0 gD gR (k+1) w9 X' d' (.pointer (some ⟨gs,0,none⟩)) (.pointer (some ⟨sr,0,none⟩)) from ⟨m,_,_,by omega,piO,nqO.up,t9,hb9,.inr ⟨gs,gw,sr,gr,v8,v9,st,st.w,st.snap,rfl,rfl,L9,⟨rfl,rfl,by rw [hst3,hst4],fun _=>Alk.refl _⟩,hst2,by omega⟩⟩);clear ho2 c9 t8 t9 L9 hv9 v9' v8' hx8 hx9 hst1 hst2 hst3 hst4 hv8;go_wp2_with fail
        go_meet
        exact Fin.out
      ·have h2b:(x.kind == 2)=false:=by simpa using h2
       clear h2
       by_cases h4:x.kind=4
       ·have h4b:(x.kind == 4)=true:=by simpa using h4
        clear h4;have y9:=Kw.out.cell 9 _ rfl;have hA:=st5.1.crashD (Pi.out.ok (by omega)) (Hx.out.picks.ext st5.2.1) (fun hne q hq=>.inl (ints_inP Hx.out.picks hne q hq)) Hx.out.hi;unfold AskL.vp at hA;go_wp2_with fail
        refine hA.mono ?_;rintro e w6 ⟨rfl,t6,c6⟩;have k6:=c6.blk Kw.out (fun hG=>hG.2 (.inr rfl));have hb6:=st5.2.1.trans (c6.gx st5.1.size);have hB:=t6.crashR (Pi.out.ok (by omega)) (Hx.out.picks.ext hb6) (fun hne q hq=>.inl (ints_inP Hx.out.picks hne q hq)) Hx.out.hi;unfold AskL.vp at hB;clear y0 y9 hA;have y9:=k6.cell 9 _ rfl;go_wp2_with fail
        refine hB.mono ?_;rintro e w7 ⟨rfl,t7,c7⟩;have hb7:=hb6.trans (c7.gx t6.size);have piC:=Pi.out.crash0 x.picks;have nqC:=Nq.out.crash x.picks;generalize crashD d x.picks=dC at *;clear hB t6 c6 c7 k6 y9 st5;obtain ⟨E,o,dC2,how⟩:∃ E o dC2,openP dC=(E,o,dC2):=⟨_,_,_,rfl⟩;have piO:PInv m dC2:=by have:=piC.openP;rw [how] at this;exact this
        have hnq:=nqC.openP piC;rw [how] at hnq;obtain ⟨nqO,hst⟩:=hnq;dsimp only at nqO hst;have ho:=t7.openSD Tn.out hb7 piC (by omega) how;unfold TwoStD at ho
        cases o with
        | none =>
         go_wp2_with fail
         refine ho.mono ?_;rintro e w8 ⟨⟨⟨hE0,rfl⟩,t8⟩,c8⟩;have hb8:=hb7.trans (c8.gx t7.size);have ho2:=t8.openSR piC (by omega) how;unfold TwoStR at ho2;have HE0:=Lib.hid hE0;clear ho c8 hE0 how;go_wp2_with fail
         refine ho2.mono ?_;rintro e w9 ⟨⟨⟨_,rfl⟩,t9⟩,c9⟩;have hb9:=hb8.trans (c9.gx t8.size);have hEE:(E !=E)=false:=by simp
         have Fin:=Lib.hid (show ∃ (m':Nat) (d':Dk) (X':Nat→Prop),m'≤m+2∧PInv m' d'∧NamQ (k+1) d'∧PlN w0 gD gR (k+1) w9 X' d' (.pointer none) (.pointer none) from ⟨m,_,_,by omega,piO,nqO.up,t9,hb9,.inl ⟨rfl,rfl⟩⟩);clear ho2 c9 t8 t9 HE0;go_wp2_with fail
         go_meet
         exact Fin.out
        | some st =>
         obtain ⟨hst1,hst2,hst3,hst4⟩:=hst st rfl;go_wp2_with fail
         refine ho.mono ?_;rintro e w8 ⟨⟨gs,gw,v8,X8,rfl,hgs,hgw,hx8,t8,v8',hv8⟩,c8⟩;have hb8:=hb7.trans (c8.gx t7.size);have hgs0:w0.heap.size≤gs:=Nat.le_trans t7.size hgs;have hgw0:w0.heap.size≤gw:=Nat.le_trans t7.size hgw;have hgl:=v8'.blk.lt;have hgl2:=v8'.wv.blk.lt;have ho2:=t8.openSR piC (by omega) how;unfold TwoStR at ho2;clear ho c8 how;go_wp2_with fail
         refine ho2.mono ?_;rintro e w9 ⟨⟨sr,gr,v9,X9,rfl,hsr,hgr,hx9,t9,v9',hv9⟩,c9⟩;have hb9:=hb8.trans (c9.gx t8.size);have L9:LsV w0 w9 X9 gD gR dC2 dC2 gs gw sr gr v8 v9 st st.w st.snap:=⟨t9,(v8'.keep c9).mono hx9,v9',hb9,hgs0,hgw0,Nat.le_trans t8.size hsr,Nat.le_trans t8.size hgr,⟨by omega,by omega,by omega,by omega⟩,⟨fun e=>by have:=v8'.wv.lX _ e;have:=t8.2 _ this;omega,fun e=>by have:=v8'.wv.lX _ e;have:=t8.2 _ this;omega⟩,fun hne=>⟨fun e=>by have:=hv9 _ e hne;omega,fun e=>by have:=hv9 _ e hne;omega⟩⟩;have hEE:((0:Int) !=0)=false:=by simp
         have Fin:=Lib.hid (show ∃ (m':Nat) (d':Dk) (X':Nat→Prop),m'≤m+2∧PInv m' d'∧NamQ (k+1) d'∧PlN w0 gD gR (k+1) w9 X' d' (.pointer (some ⟨gs,0,none⟩)) (.pointer (some ⟨sr,0,none⟩)) from ⟨m,_,_,by omega,piO,nqO.up,t9,hb9,.inr ⟨gs,gw,sr,gr,v8,v9,st,st.w,st.snap,rfl,rfl,L9,⟨rfl,rfl,by rw [hst3,hst4],fun _=>Alk.refl _⟩,hst2,by omega⟩⟩);clear ho2 c9 t8 t9 L9 hv9 v9' v8' hx8 hx9 hst1 hst2 hst3 hst4 hv8;go_wp2_with fail
         go_meet
         exact Fin.out
       ·have h4b:(x.kind == 4)=false:=by simpa using h4
        clear h4;have Fin:=Lib.hid (show ∃ (m':Nat) (d':Dk) (X':Nat→Prop),m'≤m+2∧PInv m' d'∧NamQ (k+1) d'∧PlN w0 gD gR (k+1) w5 X' d' u5 u7 from ⟨m,_,_,by omega,Pi.out,Nq.out.up,st5.up⟩);clear st5;go_wp2_with fail
        go_meet
        exact Fin.out
   case rest =>
   obtain ⟨m',d',X',hm',pi',nq',st'⟩:=hcut;obtain ⟨wx,hwx⟩:∃ z,z=wc:=⟨_,rfl⟩;subst hwx;have PiX:=Lib.hid pi';have NqX:=Lib.hid nq';clear pi' nq' Kw HltA St5;go_upto_region 27 with (fail)
   obtain ⟨tt,hbt,⟨rfl,rfl⟩ | ⟨gs,gw,sr,gr,v,vr,a,b,sn,rfl,rfl,L,al,hsn,hbn⟩⟩:=st'
   ·go_wp2_with fail
    refine (alikeS (by omega) PiX.out tt).mono ?_;rintro e w11 ⟨rfl,bx11⟩;have Fin:=Lib.hid (show PlN w0 gD gR (k+1) w11 X' d' (.pointer none) (.pointer none) from ⟨tt.ext bx11,hbt.trans (bx11.mono hbt.size),.inl ⟨rfl,rfl⟩⟩);clear bx11 tt;go_wp2_with fail
    go_roundw
    case rel=>exact ⟨k+1,m',d',X',by omega,by omega,by omega,by go_num,PiX,NqX,Fin⟩
    case measure=>simp [intOf];omega
   ·have hq:hardP a=hardQ b sn:=by unfold hardP hardQ;rw [al.h,al.snap]
    have Hq:=Lib.hid hq;have Al:=Lib.hid al;have Sn:=Lib.hid hsn;have Hbn:=Lib.hid hbn;clear hq al hsn hbn;go_wp2_with fail
    refine (alikeS (by omega) PiX.out tt).mono ?_;rintro e w11 ⟨rfl,bx11⟩;have L11:=L.ext bx11;have hHard:=stoHard L11.vv;rw [Hq.out] at hHard;go_wp2_with fail
    refine hHard.mono ?_;rintro e w12 ⟨v12,rfl,own12,b12⟩;have bx12:=bx11.trans (b12.mono bx11.size);have L12:=L.ext bx12;have rd12:=own12.rd;rw [Al.out.h] at rd12;clear hHard own12 L11 bx11 b12;go_wp2_with fail
    refine (rksHard L12.rv).mono ?_;rintro e w13 ⟨rfl,b13⟩;have bx13:=bx12.trans (b13.mono bx12.size);have L13:=L.ext bx13;have rd13:=rd12.ext b13;clear L12 bx12 b13 rd12;go_wp2_with fail
    refine (refSame (hardQ b sn) (hardQ b sn) v12 vr rd13 L13.rv.wv.log).mono ?_;rintro e w14 ⟨rfl,b14⟩;have bx14:=bx13.trans (b14.mono bx13.size);have Fin:=Lib.hid (show PlN w0 gD gR (k+1) w14 X' d' (.pointer (some ⟨gs,0,none⟩)) (.pointer (some ⟨sr,0,none⟩)) from ⟨tt.ext bx14,hbt.trans (bx14.mono hbt.size),.inr ⟨gs,gw,sr,gr,v,vr,a,b,sn,rfl,rfl,L.ext bx14,Al.out,Sn.out,Hbn.out⟩⟩);clear L13 L bx13 bx14 b14 tt rd13;go_wp2_with fail
    go_roundw
    case rel=>exact ⟨k+1,m',d',X',by omega,by omega,by omega,by go_num,PiX,NqX,Fin⟩
    case measure=>simp [intOf];omega
  ·rcases Nat.lt_or_ge k ls.length with hl | hl
   ·have hi4:(k:Int)<(ls.length:Int):=by omega
    have hi5:decide ((k:Int)<25)=false:=by simp;omega
    go_wp2_with fail
    refine (storeRuns_walk _ (Tn.out _ hb)).mono ?_;rintro e w9 ⟨rfl,c9⟩;have b9:=hb.trans (c9.mono hb.size);go_wp2_with fail
    go_ret
    exact ⟨rfl,b9⟩
   ·have hi4:¬ (k:Int)<(ls.length:Int):=by omega
    go_wp2_with fail
    refine (storeRuns_walk _ (Tn.out _ hb)).mono ?_;rintro e w9 ⟨rfl,c9⟩;have b9:=hb.trans (c9.mono hb.size);go_wp2_with fail
    go_ret
    exact ⟨rfl,b9⟩
end
end Go.Proofs.YtgpgcnmnfnnkjaaGreatDoor
