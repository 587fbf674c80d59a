import Derived.Test.YtgpgcnmnfnnkjaaGreatDoorGStorePlays46
import Derived.Test.YtgpgcnmnfnnkjaaGreatDoorGStorePlays47
import Derived.Test.YtgpgcnmnfnnkjaaGreatDoorGStorePlays41
set_option linter.unusedVariables false
set_option linter.unusedSimpArgs false
set_option maxRecDepth 100000
set_option maxHeartbeats 16000000
namespace Go.Proofs.YtgpgcnmnfnnkjaaGreatDoor
section
open Go Go.RowKit Go.PlainAid BigFrame
attribute [local go_sem] After.same
theorem ret_valQ {a b:Bool} (h:a=b):Value.bool a=.bool b:=by rw [h]
def SavedQ (w0 w:World) (X:Nat→Prop) (g gs gw:Nat) (v:Value) (E:Int) (ws':Wl) (sn':ByteArray) (d':Dk) (e:Ending) (w':World):Prop :=
 e=.returned (.int .i64 E)∧∃ X' v',(∀ k,X k→X' k)∧(∀ k,X' k→X k∨w.heap.size≤k)∧RfS w0 X' g d' w'∧RsV w' X' g gs gw v' ws' sn'∧Chg (Gs w0 X gs gw) w w'∧(v'=v∨∀ k,v'.ownBlock=some k→w.heap.size≤k)
section
variable {w0 w w':World} {X:Nat→Prop} {g gs gw:Nat} {v:Value} {ws:Wl} {sn:ByteArray}
theorem RsV.setSnap (h:RsV w X g gs gw v ws sn) (s:ByteArray):RsV (w.setCell ⟨gs,1,none⟩ (.string s)) X g gs gw v ws s:=by
 have c:=chg_cell gs 1 (.string s) w;exact ⟨h.blk.set 1 (.string s),h.wv.only c (fun e=>h.ne e.symm) (fun hne k hk e=>h.off hne (by rw [hk,e])),h.inX,h.ne,h.off⟩
theorem RsV.setDown (h:RsV w X g gs gw v ws sn):RsV (w.setCell ⟨gw,9,none⟩ (.bool true)) X g gs gw v { ws with down:=true } sn:=by
 have c:=chg_cell gw 9 (.bool true) w;exact ⟨c.blk h.blk (fun e=>h.ne e),h.wv.setD,h.inX,h.ne,h.off⟩
theorem Rd.same_len {α:Type} {E:Enc α} {v:Value} {l m:List α} (h1:Rd E w v l) (h2:Rd E w' v m):l.length=m.length:=by
 obtain ⟨p,c,e⟩:=h1.shape;obtain ⟨p2,c2,e2⟩:=h2.shape;rw [e] at e2;simp only [Value.slice.injEq] at e2
 exact e2.2.1
end
theorem rksSave {w0 w:World} {X:Nat→Prop} {g gs gw:Nat} {d d':Dk} {v:Value} {ws ws':Wl} {sn sn':ByteArray} (hd:RfS w0 X g d w) (hgw0:w0.heap.size≤gw) (hgs0:w0.heap.size≤gs) {m:Nat} (pi:PInv m d) (hm:m≤870) (hs:RsV w X g gs gw v ws sn) (hsn0:ws.h.snap=sNone) (h:Hrd) (u:Value) (hu:Rd etyE w u h.log)
 (hux:h.log≠[]→∀ k,u.ownBlock=some k→k<w0.heap.size∨X k) (hsz:h.snap.size≤1000000) {E:Int} (he:saveQ d ws sn h=(E,ws',sn',d')) :
 Calls Tryz.prog 37 #[.pointer (some ⟨gs,0,none⟩),hrdA h u] w (SavedQ w0 w X g gs gw v E ws' sn' d'):=by
 obtain ⟨p,cap,rfl⟩:=hu.shape;obtain ⟨E1,d1,hp⟩:∃ E1 d1,(if wantsP ⟨ws,sn,false⟩ h then writeP d h else (0,d))=(E1,d1):=⟨_,_,rfl⟩;obtain ⟨E2,ws2,d2,hsv⟩:∃ E2 ws2 d2,saveR d1 ws h=(E2,ws2,d2):=⟨_,_,_,rfl⟩;obtain ⟨E3,d3,hcl⟩:∃ E3 d3,cleanP d2 h.base.toNat=(E3,d3):=⟨_,_,rfl⟩;have hal:=he.symm.trans (saveQ_eq d ws sn h hp hsv hcl);have Hal:=Lib.hid hal;have pi5:PInv (m+1) d1:=by
  have hh:PInv (m+1) (if wantsP ⟨ws,sn,false⟩ h then writeP d h else (0,d)).2:=by
   split
   ·exact pi.writeP h
   ·exact pi.up
  rw [hp] at hh;exact hh
 have pi6:PInv (m+2) d2:=by have h1:=pi5.save ws h;have h2:=(save_alk d1 h (Alk.refl ws)).2.1;rw [hsv] at h2;rw [h2] at h1;exact h1
 have hsn:=Lib.hid hsn0;have HsR:=Lib.hid hsv;clear he hal hsn0 hsv;have hs0:=hd.size;have ca:=below_alloc w (.cells #[.int .i64 h.term,.int .i64 h.vote,.int .i64 h.base,.int .i64 h.bterm,.int .i64 h.members,.string h.snap,.slice p h.log.length cap] 24);have ka:=Blk.new w #[.int .i64 h.term,.int .i64 h.vote,.int .i64 h.base,.int .i64 h.bterm,.int .i64 h.members,.string h.snap,.slice p h.log.length cap] 24
 have hszA:(w.alloc (.cells #[.int .i64 h.term,.int .i64 h.vote,.int .i64 h.base,.int .i64 h.bterm,.int .i64 h.members,.string h.snap,.slice p h.log.length cap] 24)).heap.size=w.heap.size+1:=by simp
 obtain ⟨X2,hX2⟩:∃ X2:Nat→Prop,X2=fun k=>X k∨k=w.heap.size:=⟨_,rfl⟩;have hx2:∀ k,X k→X2 k:=fun k hk=>by rw [hX2];exact .inl hk
 have hx2H:X2 w.heap.size:=by rw [hX2];exact .inr rfl
 have hx2r:∀ k,X2 k→X k∨w.heap.size≤k:=fun k hk=>by
  rw [hX2] at hk
  rcases hk with hk | rfl
  ·exact .inl hk
  ·exact .inr (Nat.le_refl _)
 have hd1:RfS w0 X2 g d (w.alloc (.cells #[.int .i64 h.term,.int .i64 h.vote,.int .i64 h.base,.int .i64 h.bterm,.int .i64 h.members,.string h.snap,.slice p h.log.length cap] 24)):=by rw [hX2];exact hd.alloc _
 clear hX2;have st1:=(hs.ext ca).mono hx2;have hu1:=hu.ext ca;have hgl:=hs.blk.lt;have hgwl:=hs.wv.blk.lt;have hvl:=fun hne k hk=>hd.2 k (hs.wv.lX hne k hk);have hlog0:=Lib.hid hs.wv.log;have hright:=refRight h (.slice p h.log.length cap) (w.alloc (.cells #[.int .i64 h.term,.int .i64 h.vote,.int .i64 h.base,.int .i64 h.bterm,.int .i64 h.members,.string h.snap,.slice p h.log.length cap] 24)) hu1;have ch1:Chg (Gs w0 X gs gw) w (w.alloc (.cells #[.int .i64 h.term,.int .i64 h.vote,.int .i64 h.base,.int .i64 h.bterm,.int .i64 h.members,.string h.snap,.slice p h.log.length cap] 24)):=.of_below ca
 have hXX:∀ {z z':World},Chg (Gx w0 X2) z z'→Chg (Gs w0 X gs gw) z z':=fun c=>c.mono fun k _ q=>.inl ⟨q.1,fun hx=>q.2 (hx2 k hx)⟩;have y0:=ka.cell 0 _ rfl;have y1:=ka.cell 1 _ rfl;have y2:=ka.cell 2 _ rfl;have y3:=ka.cell 3 _ rfl;have y4:=ka.cell 4 _ rfl;have y5:=ka.cell 5 _ rfl;have y6:=ka.cell 6 _ rfl;go_enter Tryz.func37,Tryz.ntmps37
 go_wp2_with fail
 generalize w.alloc (.cells #[.int .i64 h.term,.int .i64 h.vote,.int .i64 h.base,.int .i64 h.bterm,.int .i64 h.members,.string h.snap,.slice p h.log.length cap] 24)=wA at *
 cases hr:rightH h with
 | false =>
  rw [hr] at hright;have hres:=Hal.out;rw [if_pos hr] at hres;simp only [Prod.mk.injEq] at hres
  obtain ⟨rfl,rfl,rfl,rfl⟩:=hres
  with_reducible refine hright.mono ?_
  rintro e w1 ⟨rfl,b1⟩;go_wp2_with fail
  go_ret
  exact ⟨rfl,X2,_,hx2,hx2r,hd1.ext b1,st1.ext b1,ch1.step (.of_below b1),.inl rfl⟩
 | true =>
 rw [hr] at hright;obtain ⟨hin,hb0,hb1⟩:=HrdIn.of hr;have hres:=Hal.out;rw [if_neg (by rw [hr];simp)] at hres;have Hal2:=Lib.hid hres;clear Hal hres
 with_reducible refine hright.mono ?_
 rintro e w2 ⟨rfl,b1⟩;have hd2:=hd1.ext b1;have st2:=st1.ext b1;have hu2:=hu1.ext b1;have kh2:=ka.ext b1;have ch2:=ch1.step (.of_below b1);have hsz2:w.heap.size≤w2.heap.size:=ch2.size;clear hright y0 y1 y2 y3 y4 y5 y6 hd1 st1 hu1 ka ch1 b1 ca hs hd hu hszA;have s0:=st2.c0;have c9:=st2.wv.c9
 cases hdn:ws.down with
 | true =>
  have hres:=Hal2.out;rw [if_pos hdn] at hres;simp only [Prod.mk.injEq] at hres
  obtain ⟨rfl,rfl,rfl,rfl⟩:=hres;rw [hdn] at c9;clear Hal2;go_wp2_with fail
  go_ret
  exact ⟨rfl,X2,_,hx2,hx2r,hd2,st2,ch2,.inl rfl⟩
 | false =>
 have hres:=Hal2.out;rw [if_neg (by rw [hdn];simp)] at hres;have Hal:=Lib.hid hres;rw [hdn] at c9;clear Hal2 hres;have c3:=st2.wv.blk.cell 3 _ rfl;go_upto_region 6 with (fail)
 clear s0 c9 c3
 go_cut [78] from 10 (fun q wi=>q=.bool (wantsP ⟨ws,sn,false⟩ h)∧Below w2.heap.size w2 wi)
 case first=>as_aux_lemma =>
  have a2:∀ z:After w2,z.1.cell? ⟨w.heap.size,2,none⟩=some (.int .i64 h.base):=fun z=>(kh2.ext z.2).cell 2 _ rfl;have a3:∀ z:After w2,z.1.cell? ⟨w.heap.size,3,none⟩=some (.int .i64 h.bterm):=fun z=>(kh2.ext z.2).cell 3 _ rfl;have a4:∀ z:After w2,z.1.cell? ⟨w.heap.size,4,none⟩=some (.int .i64 h.members):=fun z=>(kh2.ext z.2).cell 4 _ rfl;have a5:∀ z:After w2,z.1.cell? ⟨w.heap.size,5,none⟩=some (.string h.snap):=fun z=>(kh2.ext z.2).cell 5 _ rfl;have s0:∀ z:After w2,z.1.cell? ⟨gs,0,none⟩=some (.pointer (some ⟨gw,0,none⟩)):=fun z=>(st2.ext z.2).c0
  have s1:∀ z:After w2,z.1.cell? ⟨gs,1,none⟩=some (.string sn):=fun z=>(st2.ext z.2).c1;have c3:∀ z:After w2,z.1.cell? ⟨gw,3,none⟩=some (.int .i64 ws.h.base):=fun z=>(st2.ext z.2).wv.blk.cell 3 _ rfl;have c4:∀ z:After w2,z.1.cell? ⟨gw,4,none⟩=some (.int .i64 ws.h.bterm):=fun z=>(st2.ext z.2).wv.blk.cell 4 _ rfl;have c5:∀ z:After w2,z.1.cell? ⟨gw,5,none⟩=some (.int .i64 ws.h.members):=fun z=>(st2.ext z.2).wv.blk.cell 5 _ rfl;have hw0:wantsP ⟨ws,sn,false⟩ h=(decide (h.base≠0) && (decide (h.base≠ws.h.base) || decide (h.bterm≠ws.h.bterm) || decide (h.members≠ws.h.members) || !eqS h.snap sn)):=rfl
  have Hw0:=Lib.hid hw0;clear hw0 hp pi5 pi6 hcl st2 hd2 hu2 ch2 kh2;generalize wantsP ⟨ws,sn,false⟩ h=WP at *;refine wp_region_after (by kernel_rfl) (by as_aux_lemma=>kernel_rfl) ?_
  by_cases a0:h.base=0
  ·have t0:¬ (0:Int)<h.base:=by omega
   have Hr:=Lib.hid (show false=WP by rw [Hw0.out,decide_eq_false (fun q=>q a0)];rfl);clear Hw0 a0
   as_aux_lemma =>
    repeat (go_big_quiet_step (fail))
    refine wpQuiet_nil ?_;rintro _ ⟨⟨w7,c7⟩,rfl⟩;go_wp2_with fail
    go_meet
    exact ⟨ret_valQ Hr.out,c7⟩
  have t0:(0:Int)<h.base:=by omega
  replace Hw0:=Lib.hid (show WP=(decide (h.base≠ws.h.base) || decide (h.bterm≠ws.h.bterm) || decide (h.members≠ws.h.members) || !eqS h.snap sn) by rw [Hw0.out,decide_eq_true a0,Bool.true_and]);clear a0
  by_cases a1:h.base≠ws.h.base
  ·have t1:(h.base !=ws.h.base)=true:=by simpa using a1
   have Hr:=Lib.hid (show true=WP by rw [Hw0.out,decide_eq_true a1];simp);clear Hw0 a1
   as_aux_lemma =>
    repeat (go_big_quiet_step (fail))
    refine wpQuiet_nil ?_;rintro _ ⟨⟨w7,c7⟩,rfl⟩;go_wp2_with fail
    go_meet
    exact ⟨ret_valQ Hr.out,c7⟩
  have t1:(h.base !=ws.h.base)=false:=by simpa using a1
  replace Hw0:=Lib.hid (show WP=(decide (h.bterm≠ws.h.bterm) || decide (h.members≠ws.h.members) || !eqS h.snap sn) by rw [Hw0.out,decide_eq_false a1];simp);clear a1
  by_cases a2:h.bterm≠ws.h.bterm
  ·have t2:(h.bterm !=ws.h.bterm)=true:=by simpa using a2
   have Hr:=Lib.hid (show true=WP by rw [Hw0.out,decide_eq_true a2];simp);clear Hw0 a2
   as_aux_lemma =>
    repeat (go_big_quiet_step (fail))
    refine wpQuiet_nil ?_;rintro _ ⟨⟨w7,c7⟩,rfl⟩;go_wp2_with fail
    go_meet
    exact ⟨ret_valQ Hr.out,c7⟩
  have t2:(h.bterm !=ws.h.bterm)=false:=by simpa using a2
  replace Hw0:=Lib.hid (show WP=(decide (h.members≠ws.h.members) || !eqS h.snap sn) by rw [Hw0.out,decide_eq_false a2];simp);clear a2
  by_cases a3:h.members≠ws.h.members
  ·have t3:(h.members !=ws.h.members)=true:=by simpa using a3
   have Hr:=Lib.hid (show true=WP by rw [Hw0.out,decide_eq_true a3];simp);clear Hw0 a3
   as_aux_lemma =>
    repeat (go_big_quiet_step (fail))
    refine wpQuiet_nil ?_;rintro _ ⟨⟨w7,c7⟩,rfl⟩;go_wp2_with fail
    go_meet
    exact ⟨ret_valQ Hr.out,c7⟩
  have t3:(h.members !=ws.h.members)=false:=by simpa using a3
  replace Hw0:=Lib.hid (show WP=(!eqS h.snap sn) by rw [Hw0.out,decide_eq_false a3];simp);clear a3
  cases hq:h.snap.toList == sn.toList with
  | true =>
   have hqn:(h.snap.toList !=sn.toList)=false:=by rw [bne,hq];rfl
   have Hr:=Lib.hid (show false=WP by rw [Hw0.out,show eqS h.snap sn=true from hq];rfl);clear Hw0
   as_aux_lemma =>
    repeat (go_big_quiet_step (fail))
    refine wpQuiet_nil ?_;rintro _ ⟨⟨w7,c7⟩,rfl⟩;go_wp2_with fail
    go_meet
    exact ⟨ret_valQ Hr.out,c7⟩
  | false =>
   have hqn:(h.snap.toList !=sn.toList)=true:=by rw [bne,hq];rfl
   have Hr:=Lib.hid (show true=WP by rw [Hw0.out,show eqS h.snap sn=false from hq];rfl);clear Hw0
   as_aux_lemma =>
    repeat (go_big_quiet_step (fail))
    refine wpQuiet_nil ?_;rintro _ ⟨⟨w7,c7⟩,rfl⟩;go_wp2_with fail
    go_meet
    exact ⟨ret_valQ Hr.out,c7⟩
 case rest =>
 obtain ⟨rfl,b3⟩:=hcut;obtain ⟨w3,hw3⟩:∃ z,z=wc:=⟨_,rfl⟩;subst hw3;have hd3:=hd2.ext b3;have st3:=st2.ext b3;have hu3:=hu2.ext b3;have kh3:=kh2.ext b3;have ch3:=ch2.step (.of_below b3);clear hd2 st2 hu2 kh2 ch2 b3 hsz2;go_upto_if 78 with (fail)
 go_cut [] from 6 (fun wi=>E1=0∧RfS w0 X2 g d1 wi∧RsV wi X2 g gs gw v ws sn∧Blk wi w.heap.size #[.int .i64 h.term,.int .i64 h.vote,.int .i64 h.base,.int .i64 h.bterm,.int .i64 h.members,.string h.snap,.slice p h.log.length cap] 24∧Chg (Gx w0 X2) w3 wi)
 case first =>
  cases hwp:wantsP ⟨ws,sn,false⟩ h with
  | false =>
   rw [hwp] at hp
   cases hp
   clear Hal;go_wp2_with fail
   go_meet
   exact ⟨by first | rfl | trivial,hd3,st3,kh3,Chg.refl _ _⟩
  | true =>
   rw [hwp,if_pos rfl] at hp;have y0:=kh3.cell 0 _ rfl;have y1:=kh3.cell 1 _ rfl;have y2:=kh3.cell 2 _ rfl;have y3:=kh3.cell 3 _ rfl;have y4:=kh3.cell 4 _ rfl;have y5:=kh3.cell 5 _ rfl;have y6:=kh3.cell 6 _ rfl;have hcall:=rksPicture hd3 pi (by omega) st3 h _ hu3 (fun hne k hk=>(hux hne k hk).imp id (hx2 k)) hb0 hb1 hin.bt hin.m hsz hp;have Hcall:=Lib.hid hcall;clear hcall;go_wp2_with fail
   refine Hcall.out.mono ?_;rintro e w4 ⟨rfl,hd4,st4,ch4⟩;clear Hcall y0 y1 y2 y3 y4 y5 y6;have kh4:=ch4.blk kh3 (fun q=>q.2 hx2H)
   by_cases hE:E1=0
   ·have hne:(E1 !=0)=false:=by simp [hE]
    have HE:=Lib.hid hE;clear hE Hal;go_wp2_with fail
    go_meet
    exact ⟨HE.out,hd4,st4,kh4,ch4⟩
   ·have hne:(E1 !=0)=true:=by simpa using hE
    have hal:=Hal.out;rw [if_pos hE] at hal;simp only [Prod.mk.injEq] at hal
    obtain ⟨rfl,rfl,rfl,rfl⟩:=hal;have q0:=st4.c0;have q9:=st4.wv.c9;have f9:=st4.wv.blk.frozen 9;clear hE Hal;go_wp2_with fail
    go_ret
    have cS:=chg_cell gw 9 (.bool true) w4;exact ⟨rfl,X2,_,hx2,hx2r,hd4.chgX cS (fun k hk=>.inl (by subst hk;exact st4.wv.inX)),st4.setDown,(ch3.step (hXX ch4)).step (cS.mono fun k _ e=>.inr (.inl e)),.inl rfl⟩
 case rest =>
 obtain ⟨hE1,hd4,st4,kh4,ch4⟩:=hcut;obtain ⟨w4,hw4⟩:∃ z,z=wc:=⟨_,rfl⟩;subst hw4;have hres:=Hal.out;rw [if_neg (by rw [hE1];simp)] at hres;have Hal2:=Lib.hid hres;have HuF:=Lib.hid (hu3.chgR ch4 (fun hne k hk q=>by
  rcases hux hne k hk with e | e
  ·have:=q.1;omega
  ·exact q.2 (hx2 k e)))
 have ch04:=ch3.step (hXX ch4);have hz4:w.heap.size≤w4.heap.size:=ch04.size;have hXl2:∀ k,X2 k→k<w4.heap.size:=hd4.2;clear Hal hres hE1 hd3 st3 hu3 kh3 ch3 ch4 hp;go_upto_region 11 with (fail)
 refine wp_region_F (n:=6) (S:=fun w':World=>w'.cell? ⟨gs,0,none⟩=some (.pointer (some ⟨gw,0,none⟩))∧w'.cell? ⟨w.heap.size,0,none⟩=some (.int .i64 h.term)∧w'.cell? ⟨w.heap.size,1,none⟩=some (.int .i64 h.vote)∧w'.cell? ⟨w.heap.size,2,none⟩=some (.int .i64 h.base)∧w'.cell? ⟨w.heap.size,3,none⟩=some (.int .i64 h.bterm)∧w'.cell? ⟨w.heap.size,4,none⟩=some (.int .i64 h.members)∧w'.cell? ⟨w.heap.size,5,none⟩=some (.string h.snap)∧w'.cell? ⟨w.heap.size,6,none⟩=some (.slice p h.log.length cap)) (by kernel_rfl) ?_
 have hHeld:(fun w':World=>w'.cell? ⟨gs,0,none⟩=some (.pointer (some ⟨gw,0,none⟩))∧w'.cell? ⟨w.heap.size,0,none⟩=some (.int .i64 h.term)∧w'.cell? ⟨w.heap.size,1,none⟩=some (.int .i64 h.vote)∧w'.cell? ⟨w.heap.size,2,none⟩=some (.int .i64 h.base)∧w'.cell? ⟨w.heap.size,3,none⟩=some (.int .i64 h.bterm)∧w'.cell? ⟨w.heap.size,4,none⟩=some (.int .i64 h.members)∧w'.cell? ⟨w.heap.size,5,none⟩=some (.string h.snap)∧w'.cell? ⟨w.heap.size,6,none⟩=some (.slice p h.log.length cap)) w4.drew:=⟨(st4.ext (below_drew _ _)).c0,(kh4.ext (below_drew _ _)).cell 0 _ rfl,(kh4.ext (below_drew _ _)).cell 1 _ rfl,(kh4.ext (below_drew _ _)).cell 2 _ rfl,(kh4.ext (below_drew _ _)).cell 3 _ rfl,(kh4.ext (below_drew _ _)).cell 4 _ rfl,(kh4.ext (below_drew _ _)).cell 5 _ rfl,(kh4.ext (below_drew _ _)).cell 6 _ rfl⟩
 refine tk ?_ 0 ?_ hHeld ?_;rotate_left
 ·rintro w ⟨_,_,_,_,_,_,_,_⟩;dsimp only [bare];go_simp<;>with_reducible rfl
 try simp only [lyB,lyP,lyA,lyZ,lyS]
 refine tk ?_ 1 ?_ hHeld ?_;rotate_left
 ·rintro w ⟨_,_,_,_,_,_,_,_⟩;dsimp only [bare];go_simp<;>with_reducible rfl
 try simp only [lyB,lyP,lyA,lyZ,lyS]
 refine tk ?_ 2 ?_ hHeld ?_;rotate_left
 ·rintro w ⟨_,_,_,_,_,_,_,_⟩;dsimp only [bare];go_simp<;>with_reducible rfl
 try simp only [lyB,lyP,lyA,lyZ,lyS]
 refine tk ?_ 3 ?_ hHeld ?_;rotate_left
 ·rintro w ⟨_,_,_,_,_,_,_,_⟩;dsimp only [bare];go_simp<;>with_reducible rfl
 try simp only [lyB,lyP,lyA,lyZ,lyS]
 refine tk ?_ 4 ?_ hHeld ?_;rotate_left
 ·rintro w ⟨_,_,_,_,_,_,_,_⟩;dsimp only [bare];go_simp<;>with_reducible rfl
 try simp only [lyB,lyP,lyA,lyZ,lyS]
 refine wpAnyF_one 5 _ _ _ rfl (by kernel_rfl) (fun K hK=>?_);dsimp only [bare];go_simp
 with_reducible refine (rkSave (hd4.ext (below_drew _ _)) pi5 (by omega) (st4.wv.ext (below_drew _ _)) hsn.out h _ (HuF.out.ext (below_drew _ _)) HsR.out).mono ?_
 rintro e w5 ⟨rfl,X3,v3,hx3,hx3r,hd5,wv5,ch5,hv5⟩;dsimp only;have st5':Blk w5 gs #[.pointer (some ⟨gw,0,none⟩),.string sn] 117:=ch5.blk (st4.blk.ext (below_drew _ _)) (fun q=>q.elim (fun q=>q.2 st4.inX) (fun q=>st4.ne q));have kh5:=ch5.blk (kh4.ext (below_drew _ _)) (fun q=>q.elim (fun q=>q.2 hx2H) (fun q=>by omega));refine hK _ _ ⟨st5'.cell 0 _ rfl,kh5.cell 0 _ rfl,kh5.cell 1 _ rfl,kh5.cell 2 _ rfl,kh5.cell 3 _ rfl,kh5.cell 4 _ rfl,kh5.cell 5 _ rfl,kh5.cell 6 _ rfl⟩ (fun hHeld=>?_);clear hK K
 try simp only [lyB,lyP,lyA,lyZ,lyS]
 refine wpAnyF_end (some 7) (Op.assign (Operand.tmp 96)) 3 rfl (by kernel_rfl) (by kernel_rfl) (fun K hK=>?_);dsimp only [bare];go_simp;refine hK _ _ ?_;clear hK K
 try simp only [lyB,lyP,lyA,lyZ,lyS]
 have st5:RsV w5 X3 g gs gw v3 ws2 sn:=⟨st5',wv5,hx3 _ st4.inX,st4.ne,fun hne e=>by
  rcases hv5 with e2 | e2
  ·subst e2;have hl:=hlog0.out.same_len wv5.log;exact st4.off (fun q=>by rw [q] at hl;exact hne (List.length_eq_zero_iff.1 hl.symm)) e
  ·have:=e2 _ e;have hq:=hXl2 _ st4.inX;have q3:w4.drew.heap.size=w4.heap.size:=rfl;omega⟩
 have ch05:Chg (Gs w0 X gs gw) w w5:=(ch04.step (.of_below (below_drew _ _))).step (ch5.mono fun k _ q=>q.elim (fun q=>.inl ⟨q.1,fun hx=>q.2 (hx2 k hx)⟩) (fun q=>.inr (.inl q)));have hx03:∀ k,X k→X3 k:=fun k hk=>hx3 k (hx2 k hk);have hx03r:∀ k,X3 k→X k∨w.heap.size≤k:=fun k hk=>by
  rcases hx3r k hk with q | q
  ·exact hx2r k q
  ·exact .inr (Nat.le_trans hz4 q)
 have hv05:v3=v∨∀ k,v3.ownBlock=some k→w.heap.size≤k:=hv5.imp id (fun q k hk=>Nat.le_trans hz4 (q k hk));have hx3H:=hx3 _ hx2H;clear hHeld st5' wv5 ch5 st4 kh4 hd4 HuF hv5 ch04 hx3r hx2r;have hres:=Hal2.out
 by_cases hE2:E2=0
 case neg =>
  have hne:(E2 !=0)=true:=by simpa using hE2
  rw [if_pos hE2] at hres;simp only [Prod.mk.injEq] at hres
  obtain ⟨rfl,rfl,rfl,rfl⟩:=hres;clear Hal2 hE2;go_wp2_with fail
  go_ret
  exact ⟨rfl,X3,_,hx03,hx03r,hd5,st5,ch05,hv05⟩
 rw [if_neg (by rw [hE2];simp)] at hres;subst hE2;have Hal:=Lib.hid hres;clear Hal2 hres;go_upto_region 14 with (fail)
 go_cut [112] from 10 (fun q wi=>q=.bool (!(decide (h.base=ws.h.base) && eqS h.snap sn))∧Below w5.heap.size w5 wi)
 case first=>as_aux_lemma =>
  have a2:∀ z:After w5,z.1.cell? ⟨w.heap.size,2,none⟩=some (.int .i64 h.base):=fun z=>(kh5.ext z.2).cell 2 _ rfl;have a5:∀ z:After w5,z.1.cell? ⟨w.heap.size,5,none⟩=some (.string h.snap):=fun z=>(kh5.ext z.2).cell 5 _ rfl;have s1:∀ z:After w5,z.1.cell? ⟨gs,1,none⟩=some (.string sn):=fun z=>(st5.ext z.2).c1;clear Hal pi5 pi6 hcl st5 hd5 ch05 kh5;refine wp_region_after (by kernel_rfl) (by kernel_rfl) ?_
  cases hq:h.snap.toList == sn.toList with
  | false =>
   have hqn:(h.snap.toList !=sn.toList)=true:=by rw [bne,hq];rfl
   have Hr:=Lib.hid (show true=(!(decide (h.base=ws.h.base) && eqS h.snap sn)) by rw [show eqS h.snap sn=false from hq];simp)
   as_aux_lemma =>
    repeat (go_big_quiet_step (fail))
    refine wpQuiet_nil ?_;rintro _ ⟨⟨w7,c7⟩,rfl⟩;go_wp2_with fail
    go_meet
    exact ⟨ret_valQ Hr.out,c7⟩
  | true =>
   have hqn:(h.snap.toList !=sn.toList)=false:=by rw [bne,hq];rfl
   by_cases a1:h.base=ws.h.base
   ·have t1:(h.base !=ws.h.base)=false:=by simpa using a1
    have Hr:=Lib.hid (show false=(!(decide (h.base=ws.h.base) && eqS h.snap sn)) by rw [show eqS h.snap sn=true from hq,decide_eq_true a1];rfl);clear a1
    as_aux_lemma =>
     repeat (go_big_quiet_step (fail))
     refine wpQuiet_nil ?_;rintro _ ⟨⟨w7,c7⟩,rfl⟩;go_wp2_with fail
     go_meet
     exact ⟨ret_valQ Hr.out,c7⟩
   ·have t1:(h.base !=ws.h.base)=true:=by simpa using a1
    have Hr:=Lib.hid (show true=(!(decide (h.base=ws.h.base) && eqS h.snap sn)) by rw [decide_eq_false a1];rfl);clear a1
    as_aux_lemma =>
     repeat (go_big_quiet_step (fail))
     refine wpQuiet_nil ?_;rintro _ ⟨⟨w7,c7⟩,rfl⟩;go_wp2_with fail
     go_meet
     exact ⟨ret_valQ Hr.out,c7⟩
 case rest =>
 obtain ⟨rfl,b6⟩:=hcut;obtain ⟨w6,hw6⟩:∃ z,z=wc:=⟨_,rfl⟩;subst hw6;have hd6:=hd5.ext b6;have st6:=st5.ext b6;have kh6:=kh5.ext b6;have ch06:=ch05.step (.of_below b6);clear hd5 st5 kh5 ch05 b6;have hres:=Hal.out
 cases hq:(decide (h.base=ws.h.base) && eqS h.snap sn) with
 | true =>
  have hqq:h.base=ws.h.base∧eqS h.snap sn=true:=by simpa using hq
  rw [if_pos hqq] at hres;simp only [Prod.mk.injEq] at hres
  obtain ⟨rfl,rfl,rfl,rfl⟩:=hres;clear Hal hq hqq;go_wp2_with fail
  go_ret
  exact ⟨rfl,X3,_,hx03,hx03r,hd6,st6,ch06,hv05⟩
 | false =>
  have hqq:¬ (h.base=ws.h.base∧eqS h.snap sn=true):=by simpa using hq
  rw [if_neg hqq] at hres;have Hal2:=Lib.hid hres;clear Hal hres hq hqq;have y5:=kh6.cell 5 _ rfl;have q1:=st6.c1;have f1:=st6.blk.frozen 1;go_upto_region 17 with (fail)
  have cS:=chg_cell gs 1 (.string h.snap) w6;have st7:=st6.setSnap h.snap;have kh7:=cS.blk kh6 (fun e=>by omega);have hd7:=hd6.chgX cS (fun k hk=>.inl (by subst hk;exact st6.inX));have ch07:=ch06.step (cS.mono fun k _ e=>.inr (.inr e));clear cS hd6 st6 kh6 ch06 y5 q1 f1;generalize w6.setCell ⟨gs,1,none⟩ (.string h.snap)=w7 at *;have y2:=kh7.cell 2 _ rfl;go_upto_if 120 with (fail)
  clear y2
  go_cut [8] from 10 (fun q wi=>q=.string (butS h.base.toNat)∧Below w7.heap.size w7 wi)
  case first =>
   by_cases hz:h.base=0
   ·have hzi:¬ (0:Int)<h.base:=by omega
    have Hbt:=Lib.hid (show (⟨#[]⟩:ByteArray)=butS h.base.toNat by unfold butS;rw [if_neg (by omega)]);clear hz;go_wp2_with fail
    go_meet
    exact ⟨congrArg Value.string Hbt.out,Below.refl _ _⟩
   ·have hzi:(0:Int)<h.base:=by omega
    have Hbt:=Lib.hid (show nameP h.base.toNat=butS h.base.toNat by unfold butS;rw [if_pos (by omega)]);have hdl:=digits_le 18 h.base.toNat (by omega);have y2:=kh7.cell 2 _ rfl;clear hz;go_wp2_with fail
    refine (rkDigits h.base.toNat _ (by omega) (by omega) w7).mono ?_;rintro e w8 ⟨rfl,b8⟩;have hnm:(⟨#[115,110,97,112,46]⟩:ByteArray)++(⟨(Lib.decDigits h.base.toNat).toArray⟩:ByteArray)=nameP h.base.toNat:=str_cat [115,110,97,112,46] _;go_wp2_with fail
    go_meet
    exact ⟨congrArg Value.string Hbt.out,b8⟩
  case rest =>
  obtain ⟨rfl,b8⟩:=hcut;obtain ⟨w8,hw8⟩:∃ z,z=wc:=⟨_,rfl⟩;subst hw8;have hd8:=hd7.ext b8;have st8:=st7.ext b8;have ch08:=ch07.step (.of_below b8);clear hd7 st7 kh7 ch07 b8;have hcall:=rksDrop hd8 pi6 (by omega) h.base.toNat _ rfl hcl;have q0:=st8.c0;have p0:=st8.wv.c0;generalize butS h.base.toNat=BT at *;go_wp2_with fail
  refine hcall.mono ?_;rintro e w9 ⟨rfl,hd9,ch9⟩;have st9:=st8.keep ch9;have ch09:Chg (Gs w0 X gs gw) w w9:=ch08.step (ch9.mono fun k _ q=>.inl ⟨q.1,fun hx=>q.2 (hx03 k hx)⟩);clear q0 p0 hcall st8 ch08 ch9 hd8;have hres:=Hal2.out
  by_cases hE3:E3=0
  ·have hne:(E3 !=0)=false:=by simp [hE3]
   rw [if_pos hE3] at hres;subst hE3;simp only [Prod.mk.injEq] at hres
   obtain ⟨rfl,rfl,rfl,rfl⟩:=hres;clear Hal2;go_wp2_with fail
   go_ret
   exact ⟨rfl,X3,_,hx03,hx03r,hd9,st9,ch09,hv05⟩
  ·have hne:(E3 !=0)=true:=by simpa using hE3
   rw [if_neg hE3] at hres;simp only [Prod.mk.injEq] at hres
   obtain ⟨rfl,rfl,rfl,rfl⟩:=hres;have q0:=st9.c0;have q9:=st9.wv.c9;have f9:=st9.wv.blk.frozen 9;clear hE3 Hal2;go_wp2_with fail
   go_ret
   have cS:=chg_cell gw 9 (.bool true) w9;exact ⟨rfl,X3,_,hx03,hx03r,hd9.chgX cS (fun k hk=>.inl (by subst hk;exact st9.wv.inX)),st9.setDown,ch09.step (cS.mono fun k _ e=>.inr (.inl e)),hv05⟩
end
section
open Go Go.RowKit BigFrame Go.PlainAid
section
variable {w0 w w':World} {X Y:Nat→Prop} {gD gR:Nat} {d dR d':Dk}
theorem StoV.same_set {g gs gw:Nat} {v:Value} {st:Sto} (h:StoV w X g gs gw v st) (h1:Y gw) (h2:∀ k,v.ownBlock=some k→Y k) (h3:Y gs):StoV w Y g gs gw v st:=⟨h.blk,h.wv.same_set h1 h2,h3,h.ne,h.off⟩
theorem RsV.same_set {g gs gw:Nat} {v:Value} {ws:Wl} {sn:ByteArray} (h:RsV w X g gs gw v ws sn) (h1:Y gw) (h2:ws.h.log≠[]→∀ k,v.ownBlock=some k→Y k) (h3:Y gs):RsV w Y g gs gw v ws sn:=⟨h.blk,h.wv.same_set h1 h2,h3,h.ne,h.off⟩
theorem StoV.onlyS {g gs gw:Nat} {v:Value} {st:Sto} {G:Nat→Prop} (h:StoV w X g gs gw v st) (hc:Chg G w w') (h1:¬ G gw) (h2:∀ k,v.ownBlock=some k→¬ G k) (h3:¬ G gs):StoV w' X g gs gw v st:=⟨hc.blk h.blk h3,h.wv.only2 hc h1 h2,h.inX,h.ne,h.off⟩
theorem RsV.onlyS {g gs gw:Nat} {v:Value} {ws:Wl} {sn:ByteArray} {G:Nat→Prop} (h:RsV w X g gs gw v ws sn) (hc:Chg G w w') (h1:¬ G gw) (h2:ws.h.log≠[]→∀ k,v.ownBlock=some k→¬ G k) (h3:¬ G gs):RsV w' X g gs gw v ws sn:=⟨hc.blk h.blk h3,h.wv.only hc h1 h2,h.inX,h.ne,h.off⟩
def TwoStD (w0 w:World) (X:Nat→Prop) (gD gR:Nat) (d' dR:Dk) (E:Int) (o:Option Sto) (e:Ending) (w':World):Prop :=
 (match o with
 | none=>(E≠0∧e=.returned (.tuple #[.pointer none,.int .i64 E]))∧TwoD w0 X gD gR d' dR w'
 | some st=>∃ gs gw v X',e=.returned (.tuple #[.pointer (some ⟨gs,0,none⟩),.int .i64 0])∧w.heap.size≤gs∧w.heap.size≤gw∧(∀ k,X k→X' k)∧TwoD w0 X' gD gR d' dR w'∧StoV w' X' gD gs gw v st∧∀ k,v.ownBlock=some k→w.heap.size≤k)
 ∧ Chg (Gx w0 X) w w'
theorem TwoD.openSD (h:TwoD w0 X gD gR d dR w) (T0:∀ z,Below w0.heap.size w0 z→TabW z) (hb0:Below w0.heap.size w0 w) {m:Nat} (pi:PInv m d) (hm:m≤300) {E:Int} {o:Option Sto} (he:openP d=(E,o,d')) :
 Calls Tryz.prog 30 #[.pointer (some ⟨gD,0,none⟩)] w (TwoStD w0 w X gD gR d' dR E o):=by
 obtain ⟨Y,h1,_,h2,h3⟩:=h.prog;refine (stoOpen T0 h2 hb0 pi hm he).mono ?_;rintro e w' ⟨ho,h4,h5⟩;refine ⟨?_,h5.mono fun k _ hk=>⟨hk.1,fun hx=>hk.2 (h1 k hx)⟩⟩
 cases o with
 | none =>
  obtain ⟨X',a1,_,_,a4⟩:=h3 Y _ _ w' (fun _ h=>h) (fun _ h=>.inl h) h4 h5 (fun _ h=>.inl h);exact ⟨ho,a4.mono a1⟩
 | some st =>
  obtain ⟨gs,gw,v,Y',g1,g2,g2',g3,g4,g5,g6,g7⟩:=ho;obtain ⟨X',a1,_,a3,a4⟩:=h3 Y' _ _ w' g3 g4 g5 h5 (fun _ h=>.inl h);exact ⟨gs,gw,v,X',g1,g2,g2',a1,a4,g6.same_set (a3 _ g6.wv.inX (.inr g2')) (fun j hj=>a3 _ (g6.wv.lX j hj) (.inr (g7 j hj))) (a3 _ g6.inX (.inr g2)),g7⟩
def TwoStR (w0 w:World) (X:Nat→Prop) (gD gR:Nat) (d d':Dk) (E:Int) (o:Option Sto) (e:Ending) (w':World):Prop :=
 (match o with
 | none=>(E≠0∧e=.returned (.tuple #[.pointer none,.int .i64 E]))∧TwoD w0 X gD gR d d' w'
 | some st=>∃ gs gw v X',e=.returned (.tuple #[.pointer (some ⟨gs,0,none⟩),.int .i64 0])∧w.heap.size≤gs∧w.heap.size≤gw∧(∀ k,X k→X' k)∧TwoD w0 X' gD gR d d' w'∧RsV w' X' gR gs gw v st.w st.snap∧∀ k,v.ownBlock=some k→st.w.h.log≠[]→w.heap.size≤k)
 ∧ Chg (Gx w0 X) w w'
theorem TwoD.openSR (h:TwoD w0 X gD gR d dR w) {m:Nat} (pi:PInv m dR) (hm:m≤300) {E:Int} {o:Option Sto} (he:openP dR=(E,o,d')) :
 Calls Tryz.prog 36 #[.pointer (some ⟨gR,0,none⟩)] w (TwoStR w0 w X gD gR d d' E o):=by
 obtain ⟨Y,h1,_,h2,h3⟩:=h.doc;refine (rksOpen h2 pi hm he).mono ?_;rintro e w' ⟨ho,h4,h5⟩;refine ⟨?_,h5.mono fun k _ hk=>⟨hk.1,fun hx=>hk.2 (h1 k hx)⟩⟩
 cases o with
 | none =>
  obtain ⟨X',a1,_,_,a4⟩:=h3 Y _ _ w' (fun _ h=>h) (fun _ h=>.inl h) h4 h5 (fun _ h=>.inl h);exact ⟨ho,a4.mono a1⟩
 | some st =>
  obtain ⟨gs,gw,v,Y',g1,g2,g2',g3,g4,g5,g6,g7⟩:=ho;obtain ⟨X',a1,_,a3,a4⟩:=h3 Y' _ _ w' g3 g4 g5 h5 (fun _ h=>.inl h);exact ⟨gs,gw,v,X',g1,g2,g2',a1,a4,g6.same_set (a3 _ g6.wv.inX (.inr g2')) (fun hne j hj=>a3 _ (g6.wv.lX hne j hj) (.inr (g7 j hj hne))) (a3 _ g6.inX (.inr g2)),g7⟩
end
structure LsV (w0 w:World) (X:Nat→Prop) (gD gR:Nat) (d dR:Dk) (gs gw sr gr:Nat) (v vr:Value) (a:Sto) (b:Wl) (sn:ByteArray):Prop where
 two:TwoD w0 X gD gR d dR w
 vv:StoV w X gD gs gw v a
 rv:RsV w X gR sr gr vr b sn
 hb:Below w0.heap.size w0 w
 gs0:w0.heap.size≤gs
 gw0:w0.heap.size≤gw
 sr0:w0.heap.size≤sr
 gr0:w0.heap.size≤gr
 n1:gs≠sr∧gs≠gr∧gw≠sr∧gw≠gr
 nv:v.ownBlock≠some sr∧v.ownBlock≠some gr
 nr:b.h.log≠[]→vr.ownBlock≠some gs∧vr.ownBlock≠some gw
section
variable {w0 w w':World} {X:Nat→Prop} {gD gR gs gw sr gr:Nat} {d dR d':Dk} {v vr:Value} {a a':Sto} {b b':Wl} {sn sn':ByteArray}
theorem LsV.ext (k:LsV w0 w X gD gR d dR gs gw sr gr v vr a b sn) (hb:Below w.heap.size w w'):LsV w0 w' X gD gR d dR gs gw sr gr v vr a b sn :=
 ⟨k.two.ext hb,k.vv.ext hb,k.rv.ext hb,k.hb.trans (hb.mono k.hb.size),k.gs0,k.gw0,k.sr0,k.gr0,k.n1,k.nv,k.nr⟩
theorem LsV.alloc (k:LsV w0 w X gD gR d dR gs gw sr gr v vr a b sn) (o:Obj):LsV w0 (w.alloc o) (fun j=>X j∨j=w.heap.size) gD gR d dR gs gw sr gr v vr a b sn :=
 have hb:=below_alloc w o
 ⟨k.two.more hb (fun j hj=>hj.imp id fun e=>by subst e;exact ⟨Nat.le_refl _,by simp⟩),(k.vv.ext hb).mono fun _ h=>.inl h,(k.rv.ext hb).mono fun _ h=>.inl h,k.hb.trans (hb.mono k.hb.size),k.gs0,k.gw0,k.sr0,k.gr0,k.n1,k.nv,k.nr⟩
theorem LsV.disks (k:LsV w0 w X gD gR d dR gs gw sr gr v vr a b sn) {d2 dR2:Dk} (h:TwoD w0 X gD gR d2 dR2 w') (c:Chg (Gx w0 X) w w'):LsV w0 w' X gD gR d2 dR2 gs gw sr gr v vr a b sn :=
 ⟨h,k.vv.keep c,k.rv.keep c,k.hb.trans (c.gx k.hb.size),k.gs0,k.gw0,k.sr0,k.gr0,k.n1,k.nv,k.nr⟩
theorem LsV.saveD (k:LsV w0 w X gD gR d dR gs gw sr gr v vr a b sn) (T0:∀ z,Below w0.heap.size w0 z→TabW z) {m:Nat} (pi:PInv m d) (hm:m≤880) (h:Hrd) (u:Value) (hu:Rd etyE w u h.log) (hux:h.log≠[]→∀ j,u.ownBlock=some j→j<w0.heap.size∨X j) (hug:h.log≠[]→u.ownBlock≠some gw) {E:Int} (he:saveP d a h=(E,a',d')) :
 Calls Tryz.prog 31 #[.pointer (some ⟨gs,0,none⟩),hrdA h u] w fun e w'=>e=.returned (.int .i64 E)∧∃ X' v',(∀ j,X j→X' j)∧LsV w0 w' X' gD gR d' dR gs gw sr gr v' vr a' b sn∧Chg (Gs w0 X gs gw) w w':=by
 obtain ⟨Y,h1,_,h2,h3⟩:=k.two.prog;refine (stoSave T0 h2 k.hb k.gw0 k.gs0 pi hm (k.vv.mono h1) h u hu (fun hne j hj=>(hux hne j hj).imp id (h1 j)) hug he).mono ?_;rintro e w' ⟨rfl,Y',v',g1,g2,g3,g4,g5,g6⟩;obtain ⟨X',a1,_,a3,a4⟩:=h3 Y' _ _ w' g1 g2 g3 g5 (fun j hj=>hj.imp id fun e=>by rcases e with e | e;rw [e];exact k.vv.wv.inX;rw [e];exact k.vv.inX);have cX:Chg (Gs w0 X gs gw) w w':=g5.mono fun j _ hj=>hj.imp (fun q=>⟨q.1,fun hx=>q.2 (h1 j hx)⟩) id;have hgr:=k.rv.wv.blk.lt;have hsr:=k.rv.blk.lt;obtain ⟨n1,n2,n3,n4⟩:=k.n1
 refine ⟨rfl,X',v',a1,⟨a4,g4.same_set (a1 _ k.vv.wv.inX) (fun j hj=>a3 _ (g4.wv.lX j hj) ((g6 j hj).imp (k.vv.wv.lX j) id)) (a1 _ k.vv.inX),(k.rv.onlyS cX ?_ ?_ ?_).mono a1,k.hb.trans (cX.gsB k.hb.size k.gw0 k.gs0),k.gs0,k.gw0,k.sr0,k.gr0,k.n1,⟨fun e=>?_,fun e=>?_⟩,k.nr⟩,cX⟩
 ·rintro (q | q | q)
  ·exact q.2 k.rv.wv.inX
  ·exact n4 q.symm
  ·exact n2 q.symm
 ·intro hne j hj hq
  rcases hq with q | q | q
  ·exact q.2 (k.rv.wv.lX hne j hj)
  ·exact (k.nr hne).2 (by rw [hj,q])
  ·exact (k.nr hne).1 (by rw [hj,q])
 ·rintro (q | q | q)
  ·exact q.2 k.rv.inX
  ·exact n3 q.symm
  ·exact n1 q.symm
 ·rcases g6 _ e with q | q
  ·exact k.nv.1 q
  ·omega
 ·rcases g6 _ e with q | q
  ·exact k.nv.2 q
  ·omega
theorem LsV.saveR (k:LsV w0 w X gD gR d dR gs gw sr gr v vr a b sn) {m:Nat} (pi:PInv m dR) (hm:m≤870) (hsn:b.h.snap=sNone) (h:Hrd) (u:Value) (hu:Rd etyE w u h.log) (hux:h.log≠[]→∀ j,u.ownBlock=some j→j<w0.heap.size∨X j) (hsz:h.snap.size≤1000000) {E:Int} (he:saveQ dR b sn h=(E,b',sn',d')) :
 Calls Tryz.prog 37 #[.pointer (some ⟨sr,0,none⟩),hrdA h u] w fun e w'=>e=.returned (.int .i64 E)∧∃ X' v',(∀ j,X j→X' j)∧LsV w0 w' X' gD gR d d' gs gw sr gr v v' a b' sn'∧Chg (Gs w0 X sr gr) w w':=by
 obtain ⟨Y,h1,_,h2,h3⟩:=k.two.doc;refine (rksSave h2 k.gr0 k.sr0 pi hm (k.rv.mono h1) hsn h u hu (fun hne j hj=>(hux hne j hj).imp id (h1 j)) hsz he).mono ?_;rintro e w' ⟨rfl,Y',v',g1,g2,g3,g4,g5,g6⟩;obtain ⟨X',a1,_,a3,a4⟩:=h3 Y' _ _ w' g1 g2 g3 g5 (fun j hj=>hj.imp id fun e=>by rcases e with e | e;rw [e];exact k.rv.wv.inX;rw [e];exact k.rv.inX);have cX:Chg (Gs w0 X sr gr) w w':=g5.mono fun j _ hj=>hj.imp (fun q=>⟨q.1,fun hx=>q.2 (h1 j hx)⟩) id;have hgw:=k.vv.wv.blk.lt;have hgs:=k.vv.blk.lt;obtain ⟨n1,n2,n3,n4⟩:=k.n1;have hne2:v'=vr→b'.h.log≠[]→b.h.log≠[]:=fun e hne h0=>by
  have hl:=Rd.same_len (show Rd etyE w' vr b'.h.log by rw [←e];exact g4.wv.log) k.rv.wv.log;rw [h0] at hl;exact hne (List.eq_nil_of_length_eq_zero hl)
 refine ⟨rfl,X',v',a1,⟨a4,(k.vv.onlyS cX ?_ ?_ ?_).mono a1,g4.same_set (a1 _ k.rv.wv.inX) (fun hne j hj=>a3 _ (g4.wv.lX hne j hj) (g6.elim (fun e=>.inl (k.rv.wv.lX (hne2 e hne) j (by rw [←e];exact hj))) (fun q=>.inr (q j hj)))) (a1 _ k.rv.inX),k.hb.trans (cX.gsB k.hb.size k.gr0 k.sr0),k.gs0,k.gw0,k.sr0,k.gr0,k.n1,k.nv,fun hne=>⟨fun e=>?_,fun e=>?_⟩⟩,cX⟩
 ·rintro (q | q | q)
  ·exact q.2 k.vv.wv.inX
  ·exact n4 q
  ·exact n3 q
 ·intro j hj hq
  rcases hq with q | q | q
  ·exact q.2 (k.vv.wv.lX j hj)
  ·exact k.nv.2 (by rw [hj,q])
  ·exact k.nv.1 (by rw [hj,q])
 ·rintro (q | q | q)
  ·exact q.2 k.vv.inX
  ·exact n2 q
  ·exact n1 q
 ·rcases g6 with q | q
  ·exact (k.nr (hne2 q hne)).1 (by rw [←q];exact e)
  ·have:=q _ e;omega
 ·rcases g6 with q | q
  ·exact (k.nr (hne2 q hne)).2 (by rw [←q];exact e)
  ·have:=q _ e;omega
end
end
section
open Go Go.RowKit BigFrame Go.PlainAid
section
variable {w0 w:World} {X:Nat→Prop} {gD gR:Nat} {d dR:Dk}
theorem TwoD.namesD (h:TwoD w0 X gD gR d dR w) (ok:okD d=true):Calls Tryz.prog 34 #[.pointer (some ⟨gD,0,none⟩)] w fun e w'=>(∃ r,e=.returned r∧OwnR strE w' w.heap.size 9 r (d.fs.map (·.name)))∧Below w.heap.size w w':=by
 obtain ⟨Y,_,_,h1,_⟩:=h.prog;exact lNames h1 ok
theorem TwoD.namesR (h:TwoD w0 X gD gR d dR w) (ok:okD dR=true):Calls Tryz.prog 13 #[.pointer (some ⟨gR,0,none⟩)] w fun e w'=>(∃ r,e=.returned r∧OwnR strE w' w.heap.size 9 r (dR.fs.map (·.name)))∧Below w.heap.size w w':=by
 obtain ⟨Y,_,_,h1,_⟩:=h.doc;exact rNames h1 ok
theorem TwoD.readD (h:TwoD w0 X gD gR d dR w) (ok:okD d=true) (s:ByteArray) {o:Option (List UInt8)} (he:readD d s=o):Calls Tryz.prog 62 #[.pointer (some ⟨gD,0,none⟩),.string s] w fun e w'=>(∃ r,e=.returned (.tuple #[r,.bool o.isSome])∧OwnB w' w.heap.size 5 r (o.getD []))∧Below w.heap.size w w':=by
 obtain ⟨Y,_,_,h1,_⟩:=h.prog;exact lRead h1 ok s he
theorem TwoD.readR (h:TwoD w0 X gD gR d dR w) (s:ByteArray) {o:Option (List UInt8)} (he:Proofs.YtgpgcnmnfnnkjaaGreatDoor.readD dR s=o):Calls Tryz.prog 14 #[.pointer (some ⟨gR,0,none⟩),.string s] w fun e w'=>(∃ r,e=.returned (.tuple #[r,.bool o.isSome])∧Bytes w' r (o.getD []))∧w=w':=by
 obtain ⟨Y,_,_,h1,_⟩:=h.doc;exact rRead h1 s he
theorem PInv.fileAt {k:Nat} (h:PInv k d) {m:Nat} (hm:m<d.fs.length):Proofs.YtgpgcnmnfnnkjaaGreatDoor.readD d d.fs[m].name=some d.fs[m].data:=by
 rw [read_getF,h.l.sort.get hm];rfl
end
end
section
open Go Go.RowKit BigFrame Go.PlainAid
theorem alikeS {w0 w:World} {X:Nat→Prop} {gD gR:Nat} {d:Dk} {k:Nat} (hk:k≤900) (hp:PInv k d) (h:TwoD w0 X gD gR d d w) :
 Calls Tryz.prog 38 #[.pointer (some ⟨gD,0,none⟩),.pointer (some ⟨gR,0,none⟩)] w fun e w'=>e=.returned (.bool true)∧Below w.heap.size w w':=by
 have Hp:=Lib.hid hp;have hok:=Lib.hid (hp.ok (by omega));have hnam:=h.namesR hok.out;have hlen:(d.fs.map (·.name)).length≤900:=by rw [List.length_map];have:=hp.l.len;omega
 clear hp;go_enter Tryz.func38,Tryz.ntmps38
 go_wp2_with fail
 refine hnam.mono ?_;rintro e w1 ⟨⟨r1,rfl,own1⟩,b1⟩;have h1:=h.ext b1;have rd1:=own1.rd;clear hnam own1 h;obtain ⟨N,hN⟩:∃ N,d.fs.map (·.name)=N:=⟨_,rfl⟩;have HN:=Lib.hid hN;rw [hN] at rd1 hlen;clear hN;obtain ⟨p1,c1,rfl,hp1,hp2,_,_⟩:=rd1.form;unfold maxLen at hp2;have hnd:=h1.namesD hok.out;rw [HN.out] at hnd;go_wp2_with fail
 refine hnd.mono ?_;rintro e w2 ⟨⟨r2,rfl,own2⟩,b2⟩;have h2:=h1.ext b2;have rd2:=rd1.ext b2;have bA:=b1.trans (b2.mono b1.size);have hsm:=sameStrs _ _ _ w2 own2.rd rd2;clear hnd h1 rd1 own2 b1 b2;go_wp2_with fail
 refine hsm.mono ?_;rintro e w3 ⟨rfl,n3,hw3⟩;have s3:Below w2.heap.size w2 w3:=by rw [hw3];exact below_drawn _ _ _
 have h3:=h2.ext s3;have rd3:=rd2.ext s3;have bB:=bA.trans (s3.mono bA.size);clear hw3 hsm h2 rd2 bA s3;go_wp2_with fail
 go_loopw [6] (fun i wr=>∃ m:Nat,m≤N.length∧i=.int .i64 m∧TwoD w0 X gD gR d d wr∧Rd strE wr (.slice p1 N.length c1) N∧Below w.heap.size w wr) (fun i _=>N.length - (intOf i).toNat)
 case atStart=>exact ⟨0,by omega,rfl,h3,rd3,bB⟩
 case round =>
  clear h3 rd3 bB;obtain ⟨m,hm,rfl,ht,rd,hb⟩:=hrel;have hm0:(0:Int)≤(m:Int):=by omega
  by_cases hlt:m<N.length
  ·have hi:(m:Int)<(N.length:Int):=by omega
   obtain ⟨gb,go,rfl⟩:=Rd.blk rd (by omega);have cm:wr.cell? ⟨gb,go+m,none⟩=some (.string N[m]):=by
    have h2:=rd.at_ hlt 0 (by decide);rw [show go+(m * strE.sz+0)=go+m from by show go+(m * 1+0)=_;omega] at h2;exact h2
   have hmd:m<d.fs.length:=by have:=hlt;rw [←HN.out,List.length_map] at this;exact this
   have hrv:readD d N[m]=some d.fs[m].data:=by
    have e:N[m]=d.fs[m].name:=by simp only [←HN.out,List.getElem_map]
    rw [e];exact Hp.out.fileAt hmd
   have hgl:gb<wr.heap.size:=by
    have h2:=Cells.lt rd (by rw [strE.all_length];show 0<N.length * 1;omega) gb rfl;exact h2
   generalize N[m]=s at *;generalize d.fs[m].data=B at *;have hrd:=ht.readD hok.out s hrv;have Hrv:=Lib.hid hrv;clear hrv hmd;go_wp2_with fail
   refine hrd.mono ?_;rintro e w5 ⟨⟨rA,rfl,bytA⟩,b5⟩;have t5:=ht.ext b5;have rd5:=rd.ext b5;have cm5:=(b5.cell (p:=⟨gb,go+m,none⟩) hgl).trans cm;have hb5:=hb.trans (b5.mono hb.size);have hrr:=t5.readR s Hrv.out;have e1:(some B:Option (List UInt8)).getD []=B:=rfl;have e2:(some B:Option (List UInt8)).isSome=true:=rfl;rw [e1] at bytA hrr;rw [e2] at hrr ⊢;clear hrd ht rd cm b5 hb e1 e2;go_wp2_with fail
   refine hrr.mono ?_;rintro e w' ⟨⟨rB,rfl,bytB⟩,rfl⟩;have hsm:=sameBytes rA rB B B w5 bytA.bytes bytB;rw [decide_eq_true rfl] at hsm;clear hrr bytA bytB cm5;go_wp2_with fail
   refine hsm.mono ?_;rintro e w6 ⟨rfl,n6,hw6⟩;have s6:Below w5.heap.size w5 w6:=by rw [hw6];exact below_drawn _ _ _
   have t6:=t5.ext s6;have rd6:=rd5.ext s6;have b6:=hb5.trans (s6.mono hb5.size);clear hw6 hsm t5 rd5 hb5 s6;go_wp2_with fail
   go_roundw
   case rel=>exact ⟨m+1,by omega,by go_num,t6,rd6,b6⟩
   case measure=>simp [intOf];omega
  ·have hi:¬ (m:Int)<(N.length:Int):=by omega
   go_wp2_with fail
   go_ret
   exact ⟨rfl,hb⟩
end
section
open Go Go.RowKit BigFrame Go.PlainAid
section
variable {w0 w w':World} {X Y:Nat→Prop} {gD gR:Nat} {d dR d':Dk}
theorem TwoD.armD (h:TwoD w0 X gD gR d dR w) (n:Int):Calls Tryz.prog 26 #[.pointer (some ⟨gD,0,none⟩),.int .i64 n] w fun e w'=>e=.returned (.tuple #[])∧TwoD w0 X gD gR (Proofs.YtgpgcnmnfnnkjaaGreatDoor.armD d n) dR w'∧Chg (Gx w0 X) w w':=by
 obtain ⟨Y,h1,_,h2,h3⟩:=h.prog;refine (lArm h2 n).mono ?_;rintro e w' ⟨rfl,h4,h5⟩;obtain ⟨X',a1,_,_,a4⟩:=h3 Y _ _ w' (fun _ h=>h) (fun _ h=>.inl h) h4 h5 (fun _ h=>.inl h);exact ⟨rfl,a4.mono a1,h5.mono fun k _ hk=>⟨hk.1,fun hx=>hk.2 (h1 k hx)⟩⟩
theorem TwoD.armR (h:TwoD w0 X gD gR d dR w) (n:Int):Calls Tryz.prog 27 #[.pointer (some ⟨gR,0,none⟩),.int .i64 n] w fun e w'=>e=.returned (.tuple #[])∧TwoD w0 X gD gR d (Proofs.YtgpgcnmnfnnkjaaGreatDoor.armD dR n) w'∧Chg (Gx w0 X) w w':=by
 obtain ⟨Y,h1,_,h2,h3⟩:=h.doc;refine (rArm h2 n).mono ?_;rintro e w' ⟨rfl,h4,h5⟩;obtain ⟨X',a1,_,_,a4⟩:=h3 Y _ _ w' (fun _ h=>h) (fun _ h=>.inl h) h4 h5 (fun _ h=>.inl h);exact ⟨rfl,a4.mono a1,h5.mono fun k _ hk=>⟨hk.1,fun hx=>hk.2 (h1 k hx)⟩⟩
theorem TwoD.crashD (h:TwoD w0 X gD gR d dR w) (ok:okD d=true) {picks:List Int} {vp:Value} (hp:Rd intsE w vp picks) (hv:picks≠[]→∀ k,vp.ownBlock=some k→k<w0.heap.size∨X k) (hm:∀ x ∈ picks,x≤9223372036854775807) :
 Calls Tryz.prog 28 #[.pointer (some ⟨gD,0,none⟩),vp] w fun e w'=>e=.returned (.tuple #[])∧TwoD w0 X gD gR (Proofs.YtgpgcnmnfnnkjaaGreatDoor.crashD d picks) dR w'∧Chg (Gx w0 X) w w':=by
 obtain ⟨Y,h1,_,h2,h3⟩:=h.prog;refine (lCrash h2 ok rfl hp (fun hne k hk=>(hv hne k hk).imp id (h1 k)) hm).mono ?_;rintro e w' ⟨rfl,h4,h5⟩;obtain ⟨X',a1,_,_,a4⟩:=h3 Y _ _ w' (fun _ h=>h) (fun _ h=>.inl h) h4 h5 (fun _ h=>.inl h);exact ⟨rfl,a4.mono a1,h5.mono fun k _ hk=>⟨hk.1,fun hx=>hk.2 (h1 k hx)⟩⟩
theorem TwoD.crashR (h:TwoD w0 X gD gR d dR w) (ok:okD dR=true) {picks:List Int} {vp:Value} (hp:Rd intsE w vp picks) (hv:picks≠[]→∀ k,vp.ownBlock=some k→k<w0.heap.size∨X k) (hm:∀ x ∈ picks,x≤9223372036854775807) :
 Calls Tryz.prog 29 #[.pointer (some ⟨gR,0,none⟩),vp] w fun e w'=>e=.returned (.tuple #[])∧TwoD w0 X gD gR d (Proofs.YtgpgcnmnfnnkjaaGreatDoor.crashD dR picks) w'∧Chg (Gx w0 X) w w':=by
 obtain ⟨Y,h1,_,h2,h3⟩:=h.doc;refine (rCrash h2 ok rfl hp (fun hne k hk=>(hv hne k hk).imp id (h1 k)) hm).mono ?_;rintro e w' ⟨rfl,h4,h5⟩;obtain ⟨X',a1,_,_,a4⟩:=h3 Y _ _ w' (fun _ h=>h) (fun _ h=>.inl h) h4 h5 (fun _ h=>.inl h);exact ⟨rfl,a4.mono a1,h5.mono fun k _ hk=>⟨hk.1,fun hx=>hk.2 (h1 k hx)⟩⟩
end
structure LgV (w0 w:World) (X:Nat→Prop) (gD gR:Nat) (d dR:Dk) (gw gr:Nat) (v vr:Value) (ws wt:Wl):Prop where
 two:TwoD w0 X gD gR d dR w
 vv:WalV w X gD gw v ws
 rv:RwV w X gR gr vr wt
 hb:Below w0.heap.size w0 w
 gw0:w0.heap.size≤gw
 gr0:w0.heap.size≤gr
 ne:gw≠gr
 nv:v.ownBlock≠some gr
 nr:wt.h.log≠[]→vr.ownBlock≠some gw
section
variable {w0 w w':World} {X Y:Nat→Prop} {gD gR gw gr:Nat} {d dR d':Dk} {v vr:Value} {ws wt ws':Wl}
theorem LgV.ext (k:LgV w0 w X gD gR d dR gw gr v vr ws wt) (hb:Below w.heap.size w w'):LgV w0 w' X gD gR d dR gw gr v vr ws wt :=
 ⟨k.two.ext hb,k.vv.ext hb,k.rv.ext hb,k.hb.trans (hb.mono k.hb.size),k.gw0,k.gr0,k.ne,k.nv,k.nr⟩
theorem LgV.alloc (k:LgV w0 w X gD gR d dR gw gr v vr ws wt) (o:Obj):LgV w0 (w.alloc o) (fun j=>X j∨j=w.heap.size) gD gR d dR gw gr v vr ws wt :=
 have hb:=below_alloc w o
 ⟨k.two.more hb (fun j hj=>hj.imp id fun e=>by subst e;exact ⟨Nat.le_refl _,by simp⟩),(k.vv.ext hb).mono fun _ h=>.inl h,(k.rv.ext hb).mono fun _ h=>.inl h,k.hb.trans (hb.mono k.hb.size),k.gw0,k.gr0,k.ne,k.nv,k.nr⟩
end
end
end Go.Proofs.YtgpgcnmnfnnkjaaGreatDoor
