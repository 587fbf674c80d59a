import Derived.Test.YtgpgcnmnfnnkjaaGreatDoorGStorePlays24
set_option linter.unusedVariables false
set_option linter.unusedSimpArgs false
set_option maxRecDepth 100000
set_option maxHeartbeats 16000000
namespace Go.Proofs.YtgpgcnmnfnnkjaaGreatDoor
section
open Go Go.RowKit Go.PlainAid
theorem stepS_unbegun {s:Sg} (ok:SgOk s) (hb:s.begun=false) {x:Rec} (hk:x.kind≠1):stepS s x=none:=by
 have hw:s.whole=false:=by
  cases h:s.whole with
  | false=>rfl
  | true=>have:=ok.wh h;rw [hb] at this;cases this
 cases x with
 | beg h=>exact absurd rfl hk
 | ety x=>show (if s.begun=true then _ else none)=none;rw [hb];rfl
 | rdy=>show doneS s=none;exact if_neg (fun h=>by rw [hb] at h;simp at h)
 | vot a b=>show votedS s a b=none;exact if_neg (fun h=>by rw [hw] at h;simp at h)
 | cut n=>show shorterS s n=none;exact if_neg (fun h=>by rw [hw] at h;simp at h)
theorem ended_kind {r:Rdr} {x y:Rec} (h:ended r x=some y):y=x:=by unfold ended at h;split at h;exact (Option.some.inj h).symm;cases h
theorem parse_one {p:List UInt8} {x:Rec} (h:parseR p=some x) (hk:(rNum (rd0 p)).1≠1):x.kind≠1:=by
 unfold parseR at h;dsimp only at h;rw [if_neg hk] at h
 split at h
 ·rw [ended_kind h];exact (by decide:(2:Int)≠1)
 ·split at h
  ·rw [ended_kind h];decide
  ·split at h
   ·rw [ended_kind h];exact (by decide:(4:Int)≠1)
   ·split at h
    ·rw [ended_kind h];exact (by decide:(5:Int)≠1)
    ·cases h
theorem takeS_unbegun {s:Sg} (ok:SgOk s) (hb:s.begun=false) {p:List UInt8} (hk:(rNum (rd0 p)).1≠1):takeS s p=none:=by
 cases h:parseR p with
 | none=>exact takeS_none h
 | some x=>rw [takeS_some h];exact stepS_unbegun ok hb (parse_one h hk)
theorem takeS_err {s:Sg} {p:List UInt8} (h:(rNum (rd0 p)).2.err≠0):takeS s p=none:=by
 have h0:=parse_kind h;refine takeS_none ?_;unfold parseR;dsimp only;rw [h0];rfl
theorem takeS_other {s:Sg} {p:List UInt8} (h1:(rNum (rd0 p)).1≠1) (h2:(rNum (rd0 p)).1≠2) (h3:(rNum (rd0 p)).1≠3) (h4:(rNum (rd0 p)).1≠4) (h5:(rNum (rd0 p)).1≠5):takeS s p=none:=by
 refine takeS_none ?_;unfold parseR;dsimp only;rw [if_neg h1,if_neg h2,if_neg h3,if_neg h4,if_neg h5]
theorem parse_k {p:List UInt8} {k:Int} (h:(rNum (rd0 p)).1=k):parseR p=if k=1 then recBeg (rNum (rd0 p)).2 else if k=2 then recEty (rNum (rd0 p)).2 else if k=3 then ended (rNum (rd0 p)).2 .rdy else if k=4 then recVot (rNum (rd0 p)).2 else if k=5 then recCut (rNum (rd0 p)).2 else none:=by
 subst h;rfl
theorem ended_ok {r:Rdr} {x:Rec} (h:(rEnd r).1=0):ended r x=some x:=if_pos h
theorem ended_no {r:Rdr} {x:Rec} (h:¬ (rEnd r).1=0):ended r x=none:=if_neg h
def TakesS (w:World) (B g:Nat) (s:Sg) (p:List UInt8) (e:Ending) (w':World):Prop:=e=.returned (.bool (takeS s p).isSome)∧SegAt w' B g ((takeS s p).getD s)∧Below B w w'
theorem TakesS.no {w w':World} {B g:Nat} {v:Value} {s:Sg} {p:List UInt8} (h:takeS s p=none) (hs:SegV w' B g v s) (hb:Below B w w'):TakesS w B g s p (.returned (.bool false)) w':=by
 unfold TakesS;rw [h];exact ⟨rfl,⟨v,hs⟩,hb⟩
theorem TakesS.yes {w w':World} {B g:Nat} {s:Sg} {p:List UInt8} {o:Option Sg} (h:takeS s p=o) (hs:SegAt w' B g (o.getD s)) (hb:Below B w w') {b:Bool} (hbb:o.isSome=b):TakesS w B g s p (.returned (.bool b)) w':=by
 subst hbb;unfold TakesS;rw [h];exact ⟨rfl,hs,hb⟩

theorem takeErr {w:World} {B g:Nat} {v:Value} {s:Sg} (h:SegV w B g v s) (ok:SgOk s) (vp:Value) (p:List UInt8) (hp:Bytes w vp p) (hpl:p.length≤35184372088000) (hB:B≤w.heap.size) (he:(rNum (rd0 p)).2.err≠0) :
 Calls Tryz.prog 99 #[.pointer (some ⟨g,0,none⟩),vp] w (TakesS w B g s p):=by
 have hno:=Lib.hid (takeS_err (s:=s) he);go_enter Tryz.func99,Tryz.ntmps99
 go_wp2_with fail
 refine (packRead vp p w hp hpl).mono ?_;rintro e w1 ⟨gr,vr,rfl,hr,hgr,hvr,b1⟩;have lt:=h.lt;have ltv:=fun k hk=>(h.log.lt k hk).2;have T1:TkW w w1 B g gr v vr s (rd0 p):=⟨h.ext b1,hr,by omega,by omega,fun e=>by have:=ltv _ e;omega,b1.mono hB,hB⟩;go_wp2_with fail
 refine T1.num.mono ?_;rintro e w2 ⟨rfl,T2,ch2⟩;have hvr2:∀ k,vr.ownBlock=some k→k<w2.heap.size:=fun k hk=>Nat.lt_of_lt_of_le (hvr k hk).2 ch2.size;generalize hq0:rNum (rd0 p)=q0 at *;obtain ⟨kd,r1⟩:=q0;dsimp only at *;have hne:(r1.err !=0)=true:=by simpa using he
 go_wp2_with fail
 refine (rdrErr gr vr _ w2 T2.rdr).mono ?_;rintro e w3 ⟨rfl,rfl⟩;go_wp2_with fail
 go_ret
 exact TakesS.no hno.out T2.seg T2.bel

theorem takeUnbegun {w:World} {B g:Nat} {v:Value} {s:Sg} (h:SegV w B g v s) (ok:SgOk s) (vp:Value) (p:List UInt8) (hp:Bytes w vp p) (hpl:p.length≤35184372088000) (hB:B≤w.heap.size) (he:(rNum (rd0 p)).2.err=0) (hb:s.begun=false) (hk:(rNum (rd0 p)).1≠1) :
 Calls Tryz.prog 99 #[.pointer (some ⟨g,0,none⟩),vp] w (TakesS w B g s p):=by
 have hno:=Lib.hid (takeS_unbegun ok hb hk);go_enter Tryz.func99,Tryz.ntmps99
 go_wp2_with fail
 refine (packRead vp p w hp hpl).mono ?_;rintro e w1 ⟨gr,vr,rfl,hr,hgr,hvr,b1⟩;have lt:=h.lt;have ltv:=fun k hk=>(h.log.lt k hk).2;have T1:TkW w w1 B g gr v vr s (rd0 p):=⟨h.ext b1,hr,by omega,by omega,fun e=>by have:=ltv _ e;omega,b1.mono hB,hB⟩;go_wp2_with fail
 refine T1.num.mono ?_;rintro e w2 ⟨rfl,T2,ch2⟩;have hvr2:∀ k,vr.ownBlock=some k→k<w2.heap.size:=fun k hk=>Nat.lt_of_lt_of_le (hvr k hk).2 ch2.size;generalize hq0:rNum (rd0 p)=q0 at *;obtain ⟨kd,r1⟩:=q0;dsimp only at *;have c7:=T2.seg.c7;rw [hb] at c7;have hk1:(kd !=1)=true:=by simpa using hk
 go_wp2_with fail
 refine (rdrErr gr vr _ w2 T2.rdr).mono ?_;rintro e w3 ⟨rfl,rfl⟩;rw [he];go_wp2_with fail
 go_ret
 exact TakesS.no hno.out T2.seg T2.bel

theorem takeOther {w:World} {B g:Nat} {v:Value} {s:Sg} (h:SegV w B g v s) (ok:SgOk s) (vp:Value) (p:List UInt8) (hp:Bytes w vp p) (hpl:p.length≤35184372088000) (hB:B≤w.heap.size) (he:(rNum (rd0 p)).2.err=0) (hb:s.begun=true) (h1:(rNum (rd0 p)).1≠1) (h2:(rNum (rd0 p)).1≠2) (h3:(rNum (rd0 p)).1≠3) (h4:(rNum (rd0 p)).1≠4) (h5:(rNum (rd0 p)).1≠5) :
 Calls Tryz.prog 99 #[.pointer (some ⟨g,0,none⟩),vp] w (TakesS w B g s p):=by
 have hno:=Lib.hid (takeS_other (s:=s) h1 h2 h3 h4 h5);go_enter Tryz.func99,Tryz.ntmps99
 go_wp2_with fail
 refine (packRead vp p w hp hpl).mono ?_;rintro e w1 ⟨gr,vr,rfl,hr,hgr,hvr,b1⟩;have lt:=h.lt;have ltv:=fun k hk=>(h.log.lt k hk).2;have T1:TkW w w1 B g gr v vr s (rd0 p):=⟨h.ext b1,hr,by omega,by omega,fun e=>by have:=ltv _ e;omega,b1.mono hB,hB⟩;go_wp2_with fail
 refine T1.num.mono ?_;rintro e w2 ⟨rfl,T2,ch2⟩;have hvr2:∀ k,vr.ownBlock=some k→k<w2.heap.size:=fun k hk=>Nat.lt_of_lt_of_le (hvr k hk).2 ch2.size;generalize hq0:rNum (rd0 p)=q0 at *;obtain ⟨kd,r1⟩:=q0;dsimp only at *;have c7:=T2.seg.c7;rw [hb] at c7;have k1:(kd == 1)=false:=by simpa using h1
 have k2:(kd == 2)=false:=by simpa using h2
 have k3:(kd == 3)=false:=by simpa using h3
 have k4:(kd == 4)=false:=by simpa using h4
 have k5:(kd == 5)=false:=by simpa using h5
 go_wp2_with fail
 refine (rdrErr gr vr _ w2 T2.rdr).mono ?_;rintro e w3 ⟨rfl,rfl⟩;rw [he];clear h1 h2 h3 h4 h5;go_wp2_with fail
 go_ret
 exact TakesS.no hno.out T2.seg T2.bel

theorem takeReady {w:World} {B g:Nat} {v:Value} {s:Sg} (h:SegV w B g v s) (ok:SgOk s) (vp:Value) (p:List UInt8) (hp:Bytes w vp p) (hpl:p.length≤35184372088000) (hB:B≤w.heap.size) (he:(rNum (rd0 p)).2.err=0) (hb:s.begun=true) (hk:(rNum (rd0 p)).1=3) :
 Calls Tryz.prog 99 #[.pointer (some ⟨g,0,none⟩),vp] w (TakesS w B g s p):=by
 have hpk:=parse_k hk;go_enter Tryz.func99,Tryz.ntmps99
 go_wp2_with fail
 refine (packRead vp p w hp hpl).mono ?_;rintro e w1 ⟨gr,vr,rfl,hr,hgr,hvr,b1⟩;have lt:=h.lt;have ltv:=fun k hk=>(h.log.lt k hk).2;have T1:TkW w w1 B g gr v vr s (rd0 p):=⟨h.ext b1,hr,by omega,by omega,fun e=>by have:=ltv _ e;omega,b1.mono hB,hB⟩;go_wp2_with fail
 refine T1.num.mono ?_;rintro e w2 ⟨rfl,T2,ch2⟩;have hvr2:∀ k,vr.ownBlock=some k→k<w2.heap.size:=fun k hk=>Nat.lt_of_lt_of_le (hvr k hk).2 ch2.size;generalize hq0:rNum (rd0 p)=q0 at *;obtain ⟨kd,r1⟩:=q0;dsimp only at *;have c7:=T2.seg.c7;rw [hb] at c7;go_wp2_with fail
 refine (rdrErr gr vr _ w2 T2.rdr).mono ?_;rintro e w3 ⟨rfl,rfl⟩;subst hk;rw [he];have Hpk:=Lib.hid hpk;clear hpk;go_wp2_with fail
 refine T2.fin.mono ?_;rintro e w4 ⟨rfl,T4,_⟩
 by_cases hE:(rEnd r1).1=0
 ·have hz:((rEnd r1).1 == 0)=true:=by simpa using hE
  have hts:takeS s p=doneS s:=takeS_some (Hpk.out.trans (ended_ok hE));have Hts:=Lib.hid hts;clear hts;go_wp2_with fail
  refine (segDone T4.seg).mono ?_;rintro e w5 ⟨rfl,hs5,b5⟩;go_wp2_with fail
  go_ret
  exact TakesS.yes Hts.out hs5 (T4.bel.trans b5) rfl
 ·have hz:((rEnd r1).1 == 0)=false:=by simpa using hE
  have hts:takeS s p=none:=takeS_none (Hpk.out.trans (ended_no hE));have Hts:=Lib.hid hts;clear hts;go_wp2_with fail
  go_ret
  exact TakesS.no Hts.out T4.seg T4.bel

theorem takeCut {w:World} {B g:Nat} {v:Value} {s:Sg} (h:SegV w B g v s) (ok:SgOk s) (vp:Value) (p:List UInt8) (hp:Bytes w vp p) (hpl:p.length≤35184372088000) (hB:B≤w.heap.size) (he:(rNum (rd0 p)).2.err=0) (hb:s.begun=true) (hk:(rNum (rd0 p)).1=5) :
 Calls Tryz.prog 99 #[.pointer (some ⟨g,0,none⟩),vp] w (TakesS w B g s p):=by
 have hpk:=parse_k hk;have hin:=rNum_in (rNum (rd0 p)).2;go_enter Tryz.func99,Tryz.ntmps99
 go_wp2_with fail
 refine (packRead vp p w hp hpl).mono ?_;rintro e w1 ⟨gr,vr,rfl,hr,hgr,hvr,b1⟩;have lt:=h.lt;have ltv:=fun k hk=>(h.log.lt k hk).2;have T1:TkW w w1 B g gr v vr s (rd0 p):=⟨h.ext b1,hr,by omega,by omega,fun e=>by have:=ltv _ e;omega,b1.mono hB,hB⟩;go_wp2_with fail
 refine T1.num.mono ?_;rintro e w2 ⟨rfl,T2,ch2⟩;have hvr2:∀ k,vr.ownBlock=some k→k<w2.heap.size:=fun k hk=>Nat.lt_of_lt_of_le (hvr k hk).2 ch2.size;generalize hq0:rNum (rd0 p)=q0 at *;obtain ⟨kd,r1⟩:=q0;dsimp only at *;have c7:=T2.seg.c7;rw [hb] at c7;go_wp2_with fail
 refine (rdrErr gr vr _ w2 T2.rdr).mono ?_;rintro e w3 ⟨rfl,rfl⟩;subst hk;rw [he];have Hpk:=Lib.hid hpk;clear hpk;go_wp2_with fail
 refine T2.num.mono ?_;rintro e w4 ⟨rfl,T4,_⟩;generalize hq:rNum r1=q at *;obtain ⟨n1,r2⟩:=q;dsimp only at *;have Q1:=Lib.hid hq;clear hq;go_wp2_with fail
 refine T4.fin.mono ?_;rintro e we ⟨rfl,Te,_⟩
 by_cases hE:(rEnd r2).1=0
 ·have hz:((rEnd r2).1 == 0)=true:=by simpa using hE
  have hts:takeS s p=shorterS s n1:=takeS_some (Hpk.out.trans (by show recCut r1=_;unfold recCut;rw [Q1.out];exact ended_ok hE));have Hts:=Lib.hid hts;clear hts;go_wp2_with fail
  refine (segShorter Te.seg (fun hw=>((bareH_all _).1 (ok.bare hb)).1.2.2.2.2.2.2.1) n1 hin).mono ?_;rintro e w9 ⟨rfl,hs9,b9⟩;go_wp2_with fail
  go_ret
  exact TakesS.yes Hts.out hs9 (Te.bel.trans b9) rfl
 ·have hz:((rEnd r2).1 == 0)=false:=by simpa using hE
  have hts:takeS s p=none:=takeS_none (Hpk.out.trans (by show recCut r1=_;unfold recCut;rw [Q1.out];exact ended_no hE));have Hts:=Lib.hid hts;clear hts;go_wp2_with fail
  go_ret
  exact TakesS.no Hts.out Te.seg Te.bel

theorem takeVote {w:World} {B g:Nat} {v:Value} {s:Sg} (h:SegV w B g v s) (ok:SgOk s) (vp:Value) (p:List UInt8) (hp:Bytes w vp p) (hpl:p.length≤35184372088000) (hB:B≤w.heap.size) (he:(rNum (rd0 p)).2.err=0) (hb:s.begun=true) (hk:(rNum (rd0 p)).1=4) :
 Calls Tryz.prog 99 #[.pointer (some ⟨g,0,none⟩),vp] w (TakesS w B g s p):=by
 have hpk:=parse_k hk;go_enter Tryz.func99,Tryz.ntmps99
 go_wp2_with fail
 refine (packRead vp p w hp hpl).mono ?_;rintro e w1 ⟨gr,vr,rfl,hr,hgr,hvr,b1⟩;have lt:=h.lt;have ltv:=fun k hk=>(h.log.lt k hk).2;have T1:TkW w w1 B g gr v vr s (rd0 p):=⟨h.ext b1,hr,by omega,by omega,fun e=>by have:=ltv _ e;omega,b1.mono hB,hB⟩;go_wp2_with fail
 refine T1.num.mono ?_;rintro e w2 ⟨rfl,T2,ch2⟩;have hvr2:∀ k,vr.ownBlock=some k→k<w2.heap.size:=fun k hk=>Nat.lt_of_lt_of_le (hvr k hk).2 ch2.size;generalize hq0:rNum (rd0 p)=q0 at *;obtain ⟨kd,r1⟩:=q0;dsimp only at *;have c7:=T2.seg.c7;rw [hb] at c7;go_wp2_with fail
 refine (rdrErr gr vr _ w2 T2.rdr).mono ?_;rintro e w3 ⟨rfl,rfl⟩;subst hk;rw [he];have Hpk:=Lib.hid hpk;clear hpk;go_wp2_with fail
 refine T2.num.mono ?_;rintro e w4 ⟨rfl,T4,_⟩;generalize hq:rNum r1=q at *;obtain ⟨n1,r2⟩:=q;dsimp only at *;have Q1:=Lib.hid hq;clear hq;go_wp2_with fail
 refine T4.num.mono ?_;rintro e w5 ⟨rfl,T5,_⟩;generalize hq:rNum r2=q at *;obtain ⟨n2,r3⟩:=q;dsimp only at *;have Q2:=Lib.hid hq;clear hq;go_wp2_with fail
 refine T5.fin.mono ?_;rintro e we ⟨rfl,Te,_⟩
 by_cases hE:(rEnd r3).1=0
 ·have hz:((rEnd r3).1 == 0)=true:=by simpa using hE
  have hts:takeS s p=votedS s n1 n2:=takeS_some (Hpk.out.trans (by show recVot r1=_;unfold recVot;dsimp only;rw [Q1.out];dsimp only;rw [Q2.out];exact ended_ok hE));have Hts:=Lib.hid hts;clear hts;go_wp2_with fail
  refine (segVoted Te.seg n1 n2).mono ?_;rintro e w9 ⟨rfl,hs9,b9⟩;go_wp2_with fail
  go_ret
  exact TakesS.yes Hts.out hs9 (Te.bel.trans b9) rfl
 ·have hz:((rEnd r3).1 == 0)=false:=by simpa using hE
  have hts:takeS s p=none:=takeS_none (Hpk.out.trans (by show recVot r1=_;unfold recVot;dsimp only;rw [Q1.out];dsimp only;rw [Q2.out];exact ended_no hE));have Hts:=Lib.hid hts;clear hts;go_wp2_with fail
  go_ret
  exact TakesS.no Hts.out Te.seg Te.bel

theorem takeEty {w:World} {B g:Nat} {v:Value} {s:Sg} (h:SegV w B g v s) (ok:SgOk s) (vp:Value) (p:List UInt8) (hp:Bytes w vp p) (hpl:p.length≤35184372088000) (hB:B≤w.heap.size) (he:(rNum (rd0 p)).2.err=0) (hb:s.begun=true) (hk:(rNum (rd0 p)).1=2) :
 Calls Tryz.prog 99 #[.pointer (some ⟨g,0,none⟩),vp] w (TakesS w B g s p):=by
 have hpk:=parse_k hk;have hbase:=((bareH_all _).1 (ok.bare hb)).1;go_enter Tryz.func99,Tryz.ntmps99
 go_wp2_with fail
 refine (packRead vp p w hp hpl).mono ?_;rintro e w1 ⟨gr,vr,rfl,hr,hgr,hvr,b1⟩;have lt:=h.lt;have ltv:=fun k hk=>(h.log.lt k hk).2;have T1:TkW w w1 B g gr v vr s (rd0 p):=⟨h.ext b1,hr,by omega,by omega,fun e=>by have:=ltv _ e;omega,b1.mono hB,hB⟩;go_wp2_with fail
 refine T1.num.mono ?_;rintro e w2 ⟨rfl,T2,ch2⟩;have hvr2:∀ k,vr.ownBlock=some k→k<w2.heap.size:=fun k hk=>Nat.lt_of_lt_of_le (hvr k hk).2 ch2.size;generalize hq0:rNum (rd0 p)=q0 at *;obtain ⟨kd,r1⟩:=q0;dsimp only at *;have c7:=T2.seg.c7;rw [hb] at c7;go_wp2_with fail
 refine (rdrErr gr vr _ w2 T2.rdr).mono ?_;rintro e w3 ⟨rfl,rfl⟩;subst hk;rw [he];have Hpk:=Lib.hid hpk;clear hpk;have T3:=T2.alloc hvr2 #[.int .i64 0,.int .i64 0,.string ⟨#[]⟩] 73;go_wp2_with fail
 refine T3.num.mono ?_;rintro e w4 ⟨rfl,T4⟩;generalize hq:rNum r1=q at *;obtain ⟨n1,r2⟩:=q;dsimp only at *;have Q1:=Lib.hid hq;clear hq;have c90:=T4.blk.cell 0 _ rfl;have f90:=T4.blk.frozen 0;have T4b:=T4.set 0 (.int .i64 n1);go_wp2_with fail
 refine T4b.num.mono ?_;rintro e w5 ⟨rfl,T5⟩;generalize hq:rNum r2=q at *;obtain ⟨n2,r3⟩:=q;dsimp only at *;have Q2:=Lib.hid hq;clear hq;clear c90 f90;have c91:=T5.blk.cell 1 _ rfl;have f91:=T5.blk.frozen 1;have T5b:=T5.set 1 (.int .i64 n2);go_wp2_with fail
 refine (T5b.text 1100).mono ?_;rintro e w6 ⟨rfl,T6⟩;generalize hq:rText 1100 r3=q at *;obtain ⟨d3,r4⟩:=q;dsimp only at *;have Q3:=Lib.hid hq;clear hq;clear c91 f91;have c92:=T6.blk.cell 2 _ rfl;have f92:=T6.blk.frozen 2;have T6b:=T6.set 2 (.string ⟨d3.toArray⟩);go_wp2_with fail
 refine T6b.fin.mono ?_;rintro e we ⟨rfl,Te⟩
 by_cases hE:(rEnd r4).1=0
 ·have hz:((rEnd r4).1 == 0)=true:=by simpa using hE
  have hts:takeS s p=grownS s ⟨n1,n2,ofBytes d3⟩:=(takeS_some (x:=.ety ⟨n1,n2,ofBytes d3⟩) (Hpk.out.trans (by show recEty r1=_;unfold recEty;dsimp only;rw [Q1.out];dsimp only;rw [Q2.out];dsimp only;rw [Q3.out];exact ended_ok hE))).trans (show (if s.begun=true then grownS s ⟨n1,n2,ofBytes d3⟩ else none)=_ from if_pos hb);have Hts:=Lib.hid hts;clear hts;have k0:we.cell? ⟨w2.heap.size,0,none⟩=some (.int .i64 n1):=Te.blk.cell 0 _ rfl;have k1:we.cell? ⟨w2.heap.size,1,none⟩=some (.int .i64 n2):=Te.blk.cell 1 _ rfl;have k2:we.cell? ⟨w2.heap.size,2,none⟩=some (.string ⟨d3.toArray⟩):=Te.blk.cell 2 _ rfl
  go_wp2_with fail
  refine (segGrown Te.tk.seg hbase.2.2.2.2.2.2.1 hbase.2.2.2.2.2.2.2.1 ⟨n1,n2,ofBytes d3⟩).mono ?_;rintro e w9 ⟨rfl,hs9,b9⟩;go_wp2_with fail
  go_ret
  exact TakesS.yes Hts.out hs9 (Te.tk.bel.trans b9) rfl
 ·have hz:((rEnd r4).1 == 0)=false:=by simpa using hE
  have hts:takeS s p=none:=takeS_none (Hpk.out.trans (by show recEty r1=_;unfold recEty;dsimp only;rw [Q1.out];dsimp only;rw [Q2.out];dsimp only;rw [Q3.out];exact ended_no hE));have Hts:=Lib.hid hts;clear hts;go_wp2_with fail
  go_ret
  exact TakesS.no Hts.out Te.tk.seg Te.tk.bel

theorem takeBegin {w:World} {B g:Nat} {v:Value} {s:Sg} (h:SegV w B g v s) (ok:SgOk s) (vp:Value) (p:List UInt8) (hp:Bytes w vp p) (hpl:p.length≤35184372088000) (hB:B≤w.heap.size) (he:(rNum (rd0 p)).2.err=0) (hk:(rNum (rd0 p)).1=1) :
 Calls Tryz.prog 99 #[.pointer (some ⟨g,0,none⟩),vp] w (TakesS w B g s p):=by
 have hpk:=parse_k hk;go_enter Tryz.func99,Tryz.ntmps99
 go_wp2_with fail
 refine (packRead vp p w hp hpl).mono ?_;rintro e w1 ⟨gr,vr,rfl,hr,hgr,hvr,b1⟩;have lt:=h.lt;have ltv:=fun k hk=>(h.log.lt k hk).2;have T1:TkW w w1 B g gr v vr s (rd0 p):=⟨h.ext b1,hr,by omega,by omega,fun e=>by have:=ltv _ e;omega,b1.mono hB,hB⟩;go_wp2_with fail
 refine T1.num.mono ?_;rintro e w2 ⟨rfl,T2,ch2⟩;have hvr2:∀ k,vr.ownBlock=some k→k<w2.heap.size:=fun k hk=>Nat.lt_of_lt_of_le (hvr k hk).2 ch2.size;generalize hq0:rNum (rd0 p)=q0 at *;obtain ⟨kd,r1⟩:=q0;dsimp only at *;have c7:=T2.seg.c7;have hkf:(1 !=(1:Int))=false:=rfl;go_wp2_with fail
 refine (rdrErr gr vr _ w2 T2.rdr).mono ?_;rintro e w3 ⟨rfl,rfl⟩;subst hk;rw [he];have Hpk:=Lib.hid hpk;clear hpk;have T3:=T2.alloc hvr2 #[.int .i64 0,.int .i64 0,.int .i64 0,.int .i64 0,.int .i64 0,.string ⟨#[]⟩,.slice none 0 0] 24
 rcases (Bool.eq_false_or_eq_true s.begun).symm with hb | hb
 ·rw [hb] at c7;clear hb;go_wp2_with fail
  refine T3.num.mono ?_;rintro e y0 ⟨rfl,U0⟩;generalize hq:rNum r1=q at *;obtain ⟨n0,s0⟩:=q;dsimp only at *;have Q0:=Lib.hid hq;clear hq;have c90:=U0.blk.cell 0 _ rfl;have f90:=U0.blk.frozen 0;have V0:=U0.set 0 (.int .i64 n0);go_wp2_with fail
  refine V0.num.mono ?_;rintro e y1 ⟨rfl,U1⟩;generalize hq:rNum s0=q at *;obtain ⟨n1,s1⟩:=q;dsimp only at *;have Q1:=Lib.hid hq;clear hq;clear c90 f90;have c91:=U1.blk.cell 1 _ rfl;have f91:=U1.blk.frozen 1;have V1:=U1.set 1 (.int .i64 n1);go_wp2_with fail
  refine V1.num.mono ?_;rintro e y2 ⟨rfl,U2⟩;generalize hq:rNum s1=q at *;obtain ⟨n2,s2⟩:=q;dsimp only at *;have Q2:=Lib.hid hq;clear hq;clear c91 f91;have c92:=U2.blk.cell 2 _ rfl;have f92:=U2.blk.frozen 2;have V2:=U2.set 2 (.int .i64 n2);go_wp2_with fail
  refine V2.num.mono ?_;rintro e y3 ⟨rfl,U3⟩;generalize hq:rNum s2=q at *;obtain ⟨n3,s3⟩:=q;dsimp only at *;have Q3:=Lib.hid hq;clear hq;clear c92 f92;have c93:=U3.blk.cell 3 _ rfl;have f93:=U3.blk.frozen 3;have V3:=U3.set 3 (.int .i64 n3);go_wp2_with fail
  refine V3.num.mono ?_;rintro e y4 ⟨rfl,U4⟩;generalize hq:rNum s3=q at *;obtain ⟨n4,s4⟩:=q;dsimp only at *;have Q4:=Lib.hid hq;clear hq;clear c93 f93;have c94:=U4.blk.cell 4 _ rfl;have f94:=U4.blk.frozen 4;have V4:=U4.set 4 (.int .i64 n4);go_wp2_with fail
  refine V4.fin.mono ?_;rintro e we ⟨rfl,Te⟩
  by_cases hE:(rEnd s4).1=0
  ·have hz:((rEnd s4).1 == 0)=true:=by simpa using hE
   have hts:takeS s p=beganS s ⟨n0,n1,n2,n3,n4,sNone,[]⟩:=takeS_some (Hpk.out.trans (by show recBeg r1=_;unfold recBeg;dsimp only;rw [Q0.out];dsimp only;rw [Q1.out];dsimp only;rw [Q2.out];dsimp only;rw [Q3.out];dsimp only;rw [Q4.out];exact ended_ok hE));have Hts:=Lib.hid hts;clear hts;have k0:we.cell? ⟨w2.heap.size,0,none⟩=some (.int .i64 n0):=Te.blk.cell 0 _ rfl;have k1:we.cell? ⟨w2.heap.size,1,none⟩=some (.int .i64 n1):=Te.blk.cell 1 _ rfl;have k2:we.cell? ⟨w2.heap.size,2,none⟩=some (.int .i64 n2):=Te.blk.cell 2 _ rfl
   have k3:we.cell? ⟨w2.heap.size,3,none⟩=some (.int .i64 n3):=Te.blk.cell 3 _ rfl;have k4:we.cell? ⟨w2.heap.size,4,none⟩=some (.int .i64 n4):=Te.blk.cell 4 _ rfl;have k5:we.cell? ⟨w2.heap.size,5,none⟩=some (.string ⟨#[]⟩):=Te.blk.cell 5 _ rfl;have k6:we.cell? ⟨w2.heap.size,6,none⟩=some (.slice none 0 0):=Te.blk.cell 6 _ rfl;go_wp2_with fail
   refine (segBegan Te.tk.seg ⟨n0,n1,n2,n3,n4,sNone,[]⟩ rfl).mono ?_;rintro e w9 ⟨rfl,hs9,b9⟩;go_wp2_with fail
   go_ret
   exact TakesS.yes Hts.out hs9 (Te.tk.bel.trans b9) rfl
  ·have hz:((rEnd s4).1 == 0)=false:=by simpa using hE
   have hts:takeS s p=none:=takeS_none (Hpk.out.trans (by show recBeg r1=_;unfold recBeg;dsimp only;rw [Q0.out];dsimp only;rw [Q1.out];dsimp only;rw [Q2.out];dsimp only;rw [Q3.out];dsimp only;rw [Q4.out];exact ended_no hE));have Hts:=Lib.hid hts;clear hts;go_wp2_with fail
   go_ret
   exact TakesS.no Hts.out Te.tk.seg Te.tk.bel
 ·rw [hb] at c7;clear hb;go_wp2_with fail
  refine T3.num.mono ?_;rintro e y0 ⟨rfl,U0⟩;generalize hq:rNum r1=q at *;obtain ⟨n0,s0⟩:=q;dsimp only at *;have Q0:=Lib.hid hq;clear hq;have c90:=U0.blk.cell 0 _ rfl;have f90:=U0.blk.frozen 0;have V0:=U0.set 0 (.int .i64 n0);go_wp2_with fail
  refine V0.num.mono ?_;rintro e y1 ⟨rfl,U1⟩;generalize hq:rNum s0=q at *;obtain ⟨n1,s1⟩:=q;dsimp only at *;have Q1:=Lib.hid hq;clear hq;clear c90 f90;have c91:=U1.blk.cell 1 _ rfl;have f91:=U1.blk.frozen 1;have V1:=U1.set 1 (.int .i64 n1);go_wp2_with fail
  refine V1.num.mono ?_;rintro e y2 ⟨rfl,U2⟩;generalize hq:rNum s1=q at *;obtain ⟨n2,s2⟩:=q;dsimp only at *;have Q2:=Lib.hid hq;clear hq;clear c91 f91;have c92:=U2.blk.cell 2 _ rfl;have f92:=U2.blk.frozen 2;have V2:=U2.set 2 (.int .i64 n2);go_wp2_with fail
  refine V2.num.mono ?_;rintro e y3 ⟨rfl,U3⟩;generalize hq:rNum s2=q at *;obtain ⟨n3,s3⟩:=q;dsimp only at *;have Q3:=Lib.hid hq;clear hq;clear c92 f92;have c93:=U3.blk.cell 3 _ rfl;have f93:=U3.blk.frozen 3;have V3:=U3.set 3 (.int .i64 n3);go_wp2_with fail
  refine V3.num.mono ?_;rintro e y4 ⟨rfl,U4⟩;generalize hq:rNum s3=q at *;obtain ⟨n4,s4⟩:=q;dsimp only at *;have Q4:=Lib.hid hq;clear hq;clear c93 f93;have c94:=U4.blk.cell 4 _ rfl;have f94:=U4.blk.frozen 4;have V4:=U4.set 4 (.int .i64 n4);go_wp2_with fail
  refine V4.fin.mono ?_;rintro e we ⟨rfl,Te⟩
  by_cases hE:(rEnd s4).1=0
  ·have hz:((rEnd s4).1 == 0)=true:=by simpa using hE
   have hts:takeS s p=beganS s ⟨n0,n1,n2,n3,n4,sNone,[]⟩:=takeS_some (Hpk.out.trans (by show recBeg r1=_;unfold recBeg;dsimp only;rw [Q0.out];dsimp only;rw [Q1.out];dsimp only;rw [Q2.out];dsimp only;rw [Q3.out];dsimp only;rw [Q4.out];exact ended_ok hE));have Hts:=Lib.hid hts;clear hts;have k0:we.cell? ⟨w2.heap.size,0,none⟩=some (.int .i64 n0):=Te.blk.cell 0 _ rfl;have k1:we.cell? ⟨w2.heap.size,1,none⟩=some (.int .i64 n1):=Te.blk.cell 1 _ rfl;have k2:we.cell? ⟨w2.heap.size,2,none⟩=some (.int .i64 n2):=Te.blk.cell 2 _ rfl
   have k3:we.cell? ⟨w2.heap.size,3,none⟩=some (.int .i64 n3):=Te.blk.cell 3 _ rfl;have k4:we.cell? ⟨w2.heap.size,4,none⟩=some (.int .i64 n4):=Te.blk.cell 4 _ rfl;have k5:we.cell? ⟨w2.heap.size,5,none⟩=some (.string ⟨#[]⟩):=Te.blk.cell 5 _ rfl;have k6:we.cell? ⟨w2.heap.size,6,none⟩=some (.slice none 0 0):=Te.blk.cell 6 _ rfl;go_wp2_with fail
   refine (segBegan Te.tk.seg ⟨n0,n1,n2,n3,n4,sNone,[]⟩ rfl).mono ?_;rintro e w9 ⟨rfl,hs9,b9⟩;go_wp2_with fail
   go_ret
   exact TakesS.yes Hts.out hs9 (Te.tk.bel.trans b9) rfl
  ·have hz:((rEnd s4).1 == 0)=false:=by simpa using hE
   have hts:takeS s p=none:=takeS_none (Hpk.out.trans (by show recBeg r1=_;unfold recBeg;dsimp only;rw [Q0.out];dsimp only;rw [Q1.out];dsimp only;rw [Q2.out];dsimp only;rw [Q3.out];dsimp only;rw [Q4.out];exact ended_no hE));have Hts:=Lib.hid hts;clear hts;go_wp2_with fail
   go_ret
   exact TakesS.no Hts.out Te.tk.seg Te.tk.bel

theorem segTake {w:World} {B g:Nat} {v:Value} {s:Sg} (h:SegV w B g v s) (ok:SgOk s) (vp:Value) (p:List UInt8) (hp:Bytes w vp p) (hpl:p.length≤35184372088000) (hB:B≤w.heap.size) :
 Calls Tryz.prog 99 #[.pointer (some ⟨g,0,none⟩),vp] w (TakesS w B g s p):=by
 by_cases he:(rNum (rd0 p)).2.err=0
 ·by_cases h1:(rNum (rd0 p)).1=1
  ·exact takeBegin h ok vp p hp hpl hB he h1
  ·rcases (Bool.eq_false_or_eq_true s.begun).symm with hb | hb
   ·exact takeUnbegun h ok vp p hp hpl hB he hb h1
   ·by_cases h2:(rNum (rd0 p)).1=2
    ·exact takeEty h ok vp p hp hpl hB he hb h2
    ·by_cases h3:(rNum (rd0 p)).1=3
     ·exact takeReady h ok vp p hp hpl hB he hb h3
     ·by_cases h4:(rNum (rd0 p)).1=4
      ·exact takeVote h ok vp p hp hpl hB he hb h4
      ·by_cases h5:(rNum (rd0 p)).1=5
       ·exact takeCut h ok vp p hp hpl hB he hb h5
       ·exact takeOther h ok vp p hp hpl hB he hb h1 h2 h3 h4 h5
 ·exact takeErr h ok vp p hp hpl hB he
end
section
open Go Go.RowKit Go.PlainAid
def cellN (w:World) (g i:Nat):Nat:=match w.cell? ⟨g,i,none⟩ with
 | some (.int _ n)=>n.toNat
 | _=>0
theorem SegV.cellN {w:World} {B g:Nat} {v:Value} {s:Sg} (h:SegV w B g v s):cellN w g 9=s.size:=by unfold Go.Proofs.YtgpgcnmnfnnkjaaGreatDoor.cellN;rw [h.c9];simp
def ReadsS (w:World) (b:List UInt8) (e:Ending) (w':World):Prop:=∃ vl,e=.returned (.agg (segA (readSeg b) vl))∧OwnR etyE w' w.heap.size 73 vl (readSeg b).h.log∧Below w.heap.size w w'
theorem ReadsS.done {w wz:World} {b:List UInt8} {s:Sg} {pl:Option Addr} {cl:Nat} (hz:SegV wz (w.heap.size+1) (w.heap.size+1) (.slice pl s.h.log.length cl) s) (hs:s=readSeg b) (hb:Below w.heap.size w wz) :
 ReadsS w b (.returned (.agg (segA s (.slice pl s.h.log.length cl)))) ((((((((((wz.setCell ⟨w.heap.size,0,none⟩ (.int .i64 s.h.term)).setCell ⟨w.heap.size,1,none⟩ (.int .i64 s.h.vote)).setCell ⟨w.heap.size,2,none⟩ (.int .i64 s.h.base)).setCell ⟨w.heap.size,3,none⟩ (.int .i64 s.h.bterm)).setCell ⟨w.heap.size,4,none⟩ (.int .i64 s.h.members)).setCell ⟨w.heap.size,5,none⟩ (.string s.h.snap)).setCell ⟨w.heap.size,6,none⟩ (.slice pl s.h.log.length cl)).setCell ⟨w.heap.size,7,none⟩ (.bool s.begun)).setCell ⟨w.heap.size,8,none⟩ (.bool s.whole)).setCell ⟨w.heap.size,9,none⟩ (.int .i64 (s.size:Int))):=by
 have hc:=(((((((((((Chg.refl (fun k=>k=w.heap.size) wz).setCell (p:=⟨w.heap.size,0,none⟩) rfl (.int .i64 s.h.term)).setCell (p:=⟨w.heap.size,1,none⟩) rfl (.int .i64 s.h.vote)).setCell (p:=⟨w.heap.size,2,none⟩) rfl (.int .i64 s.h.base)).setCell (p:=⟨w.heap.size,3,none⟩) rfl (.int .i64 s.h.bterm)).setCell (p:=⟨w.heap.size,4,none⟩) rfl (.int .i64 s.h.members)).setCell (p:=⟨w.heap.size,5,none⟩) rfl (.string s.h.snap)).setCell (p:=⟨w.heap.size,6,none⟩) rfl (.slice pl s.h.log.length cl)).setCell (p:=⟨w.heap.size,7,none⟩) rfl (.bool s.begun)).setCell (p:=⟨w.heap.size,8,none⟩) rfl (.bool s.whole)).setCell (p:=⟨w.heap.size,9,none⟩) rfl (.int .i64 (s.size:Int)))
 subst hs;exact ⟨_,rfl,(hc.ownR hz.log (fun k hk e=>by have:=(hz.log.lt k hk).1;omega)).base (Nat.le_succ _),hb.trans (hc.below (B:=w.heap.size) (fun k hk=>by rw [hk];exact Nat.le_refl _) hb.size)⟩

theorem walRead (v:Value) (b:List UInt8) (w:World) (hv:Bytes w v b) (hb:b.length≤35184372088000) :
 Calls Tryz.prog 64 #[v] w (ReadsS w b):=by
 obtain ⟨p,cap,rfl⟩:=hv.shape;have kA:=(Blk.new w #[.int .i64 0,.int .i64 0,.int .i64 0,.int .i64 0,.int .i64 0,.string ⟨#[]⟩,.slice none 0 0,.bool false,.bool false,.int .i64 0] 102).ext (below_alloc _ (.cells #[.int .i64 0,.int .i64 0,.int .i64 0,.int .i64 0,.int .i64 0,.string ⟨#[]⟩,.slice none 0 0,.bool false,.bool false,.int .i64 0] 102))
 have kB:=Blk.new (w.alloc (.cells #[.int .i64 0,.int .i64 0,.int .i64 0,.int .i64 0,.int .i64 0,.string ⟨#[]⟩,.slice none 0 0,.bool false,.bool false,.int .i64 0] 102)) #[.int .i64 0,.int .i64 0,.int .i64 0,.int .i64 0,.int .i64 0,.string ⟨#[]⟩,.slice none 0 0,.bool false,.bool false,.int .i64 0] 102
 have bW:Below w.heap.size w ((w.alloc (.cells #[.int .i64 0,.int .i64 0,.int .i64 0,.int .i64 0,.int .i64 0,.string ⟨#[]⟩,.slice none 0 0,.bool false,.bool false,.int .i64 0] 102)).alloc (.cells #[.int .i64 0,.int .i64 0,.int .i64 0,.int .i64 0,.int .i64 0,.string ⟨#[]⟩,.slice none 0 0,.bool false,.bool false,.int .i64 0] 102)):=(below_alloc _ _).trans ((below_alloc _ _).mono (by simp));rw [show (w.alloc (.cells #[.int .i64 0,.int .i64 0,.int .i64 0,.int .i64 0,.int .i64 0,.string ⟨#[]⟩,.slice none 0 0,.bool false,.bool false,.int .i64 0] 102)).heap.size=w.heap.size+1 from by simp] at kB
 have hv1:=hv.ext bW;have s0:SegAt ((w.alloc (.cells #[.int .i64 0,.int .i64 0,.int .i64 0,.int .i64 0,.int .i64 0,.string ⟨#[]⟩,.slice none 0 0,.bool false,.bool false,.int .i64 0] 102)).alloc (.cells #[.int .i64 0,.int .i64 0,.int .i64 0,.int .i64 0,.int .i64 0,.string ⟨#[]⟩,.slice none 0 0,.bool false,.bool false,.int .i64 0] 102)) (w.heap.size+1) (w.heap.size+1) sg0:=⟨.slice none 0 0,kB,OwnR.nil _ _ _,by simp [Value.ownBlock],Nat.le_refl _,by decide⟩;go_enter Tryz.func64,Tryz.ntmps64
 go_wp2
 generalize (w.alloc (.cells #[.int .i64 0,.int .i64 0,.int .i64 0,.int .i64 0,.int .i64 0,.string ⟨#[]⟩,.slice none 0 0,.bool false,.bool false,.int .i64 0] 102)).alloc (.cells #[.int .i64 0,.int .i64 0,.int .i64 0,.int .i64 0,.int .i64 0,.string ⟨#[]⟩,.slice none 0 0,.bool false,.bool false,.int .i64 0] 102)=W at *;have hWs:w.heap.size+1<W.heap.size:=kB.lt;clear kB
 go_loopw [5] (fun _ wr=>∃ (s:Sg) (f:Nat),SegAt wr (w.heap.size+1) (w.heap.size+1) s∧Hid (SgOk s)∧Blk wr w.heap.size #[.int .i64 0,.int .i64 0,.int .i64 0,.int .i64 0,.int .i64 0,.string ⟨#[]⟩,.slice none 0 0,.bool false,.bool false,.int .i64 0] 102∧s.size≤b.length∧Hid (readS f b s=readSeg b)∧b.length - s.size<f∧Below (w.heap.size+1) W wr) (fun _ wr=>b.length - cellN wr (w.heap.size+1) 9)
 case atStart=>exact ⟨sg0,b.length+1,s0,SgOk.zero,kA,Nat.zero_le _,rfl,by omega,Below.refl _ _⟩
 case round =>
  obtain ⟨s,f,⟨vl,hsg⟩,ok,kz,hsz,hrd,hf,hbw⟩:=hrel;have c9:=hsg.c9;have hlt:=hsg.lt;have hbr:=bW.trans (hbw.mono (Nat.le_succ _));have hvr:=hv.ext hbr;have hcN:=hsg.cellN;clear s0 kA hv1;go_wp2_with fail
  refine (frameNext _ b (s.size:Int) wr hvr (by omega)).mono ?_;rintro e w2 ⟨r,rfl,own2,b2⟩;have hz2:=hsg.ext b2;have kz2:=kz.ext b2;have hb2:=hbr.trans (b2.mono hbr.size)
  by_cases he:Frm.errAt b (s.size:Int)=0
  ·obtain ⟨n,hn,hn9,hnb,hpl⟩:=frm_in hsz he;have hez:(((Frm.errAt b (s.size:Int):Nat):Int) !=0)=false:=by rw [he];rfl
   rw [hn];go_wp2_with fail
   refine (segTake hz2 ok.out r (Frm.payAt b s.size) own2.bytes (by omega) (by have:=hz2.lt;omega)).mono ?_;rintro e w3 ⟨rfl,hs3,b3⟩;have kz3:=kz2.below b3 (Nat.lt_succ_self _);have hb3:=hb2.trans (b3.mono (Nat.le_succ _))
   cases ht:takeS s (Frm.payAt b s.size) with
   | none =>
    rw [ht] at hs3;have hres:=Lib.hid ((readS_no (f:=f) he ht).symm.trans hrd.out);obtain ⟨vl3,hz⟩:=hs3;replace hz:SegV w3 (w.heap.size+1) (w.heap.size+1) vl3 s:=hz;obtain ⟨pl,cl,rfl⟩:=hz.log.rd.shape;have kz:=kz3;generalize hwz:w3=wz at *;clear hwz;have q0:=hz.c0;have z0:=kz.cell 0 _ rfl;have f0:=kz.frozen 0;have q1:=hz.c1;have z1:=kz.cell 1 _ rfl;have f1:=kz.frozen 1;have q2:=hz.c2;have z2:=kz.cell 2 _ rfl;have f2:=kz.frozen 2;have q3:=hz.c3;have z3:=kz.cell 3 _ rfl;have f3:=kz.frozen 3;have q4:=hz.c4;have z4:=kz.cell 4 _ rfl;have f4:=kz.frozen 4;have q5:=hz.c5;have z5:=kz.cell 5 _ rfl
    have f5:=kz.frozen 5;have q6:=hz.c6;have z6:=kz.cell 6 _ rfl;have f6:=kz.frozen 6;have q7:=hz.c7;have z7:=kz.cell 7 _ rfl;have f7:=kz.frozen 7;have q8:=hz.c8;have z8:=kz.cell 8 _ rfl;have f8:=kz.frozen 8;have q9:=hz.c9;have z9:=kz.cell 9 _ rfl;have f9:=kz.frozen 9;clear ok hrd hz2 hsg kz2 kz3 c9 hvr own2 hv;go_wp2_with fail
    refine bodyPost_ret (v:=.agg (segA s (.slice pl s.h.log.length cl))) (by simp [results,Tryz.results64,go_sem, *]) rfl ?_;exact ReadsS.done hz hres.out hb3
   | some t =>
    rw [ht] at hs3;obtain ⟨vl3,hz⟩:=hs3;replace hz:SegV w3 (w.heap.size+1) (w.heap.size+1) vl3 t:=hz;obtain ⟨f',rfl⟩:∃ f',f=f'+1:=⟨f - 1,by omega⟩;have hres:=Lib.hid ((readS_go (f:=f') he ht).symm.trans hrd.out);have hok:=Lib.hid ((ok.out.step ht).size n);have h9:=hz.c9;have g9:=hz.blk.frozen 9;have hzs:=hz.set (i:=9) (u:=.int .i64 (n:Int)) (s':={ t with size:=n }) rfl rfl;have hbs:=hz.below 9 (.int .i64 (n:Int));have kzs:=(chg_cell (w.heap.size+1) 9 (.int .i64 (n:Int)) w3).blk kz3 (by omega);have hcs:=hzs.cellN
    have Hz:=Lib.hid (And.intro hzs (And.intro kzs (hbw.trans ((b2.mono (by omega)).trans (b3.trans hbs)))));rw [hn,Int.toNat_natCast] at hres;clear hzs kzs hbs ok hrd hz2 hsg kz2 kz3 c9 hvr own2 hv hz;go_wp2_with fail
    go_roundw
    case rel=>exact ⟨{ t with size:=n },f',⟨_,Hz.out.1⟩,hok.out,Hz.out.2.1,hnb,hres.out,by show b.length - n<f';omega,Hz.out.2.2⟩
    case measure=>rw [hcs,hcN];show b.length - n<_;omega
  ·have hez:(((Frm.errAt b (s.size:Int):Nat):Int) !=0)=true:=by simp;exact he
   have hres:=Lib.hid ((readS_stop (f:=f) he).symm.trans hrd.out);obtain ⟨pl,cl,rfl⟩:=hz2.log.rd.shape;have kz:=kz2;have hz:=hz2;generalize hwz:w2=wz at *;clear hwz;have q0:=hz.c0;have z0:=kz.cell 0 _ rfl;have f0:=kz.frozen 0;have q1:=hz.c1;have z1:=kz.cell 1 _ rfl;have f1:=kz.frozen 1;have q2:=hz.c2;have z2:=kz.cell 2 _ rfl;have f2:=kz.frozen 2;have q3:=hz.c3;have z3:=kz.cell 3 _ rfl;have f3:=kz.frozen 3;have q4:=hz.c4;have z4:=kz.cell 4 _ rfl;have f4:=kz.frozen 4;have q5:=hz.c5;have z5:=kz.cell 5 _ rfl;have f5:=kz.frozen 5;have q6:=hz.c6;have z6:=kz.cell 6 _ rfl;have f6:=kz.frozen 6
   have q7:=hz.c7;have z7:=kz.cell 7 _ rfl;have f7:=kz.frozen 7;have q8:=hz.c8;have z8:=kz.cell 8 _ rfl;have f8:=kz.frozen 8;have q9:=hz.c9;have z9:=kz.cell 9 _ rfl;have f9:=kz.frozen 9;clear ok hrd hz2 hsg kz2 c9 hvr own2 hv;go_wp2_with fail
   refine bodyPost_ret (v:=.agg (segA s (.slice pl s.h.log.length cl))) (by simp [results,Tryz.results64,go_sem, *]) rfl ?_;exact ReadsS.done hz hres.out hb2
end
end Go.Proofs.YtgpgcnmnfnnkjaaGreatDoor
