import Derived.Test.YtgpgcnmnfnnkjaaGreatDoorGStorePlays40
set_option linter.unusedVariables false
set_option linter.unusedSimpArgs false
set_option maxRecDepth 100000
set_option maxHeartbeats 16000000
namespace Go.Proofs.YtgpgcnmnfnnkjaaGreatDoor
section
open Go Go.RowKit Go.PlainAid BigFrame
attribute [local go_sem] After.same
def Gs (w0:World) (X:Nat→Prop) (gs gw:Nat) (k:Nat):Prop:=Gx w0 X k∨k=gw∨k=gs
theorem ret_valP {a b:Bool} (h:a=b):Value.bool a=.bool b:=by rw [h]
theorem Chg.gsB {w0 w w':World} {X:Nat→Prop} {gs gw:Nat} (h:Chg (Gs w0 X gs gw) w w') (hs:w0.heap.size≤w.heap.size) (h1:w0.heap.size≤gw) (h2:w0.heap.size≤gs):Below w0.heap.size w w':=h.below (fun k hk=>by rcases hk with hk | hk | hk;exact hk.1;rw [hk];exact h1;rw [hk];exact h2) hs
def SavedP (w0 w:World) (X:Nat→Prop) (g gs gw:Nat) (v:Value) (E:Int) (st':Sto) (d':Dk) (e:Ending) (w':World):Prop :=
 e=.returned (.int .i64 E)∧∃ X' v',(∀ k,X k→X' k)∧(∀ k,X' k→X k∨w.heap.size≤k)∧DwS w0 X' g d' w'∧StoV w' X' g gs gw v' st'∧Chg (Gs w0 X gs gw) w w'∧∀ k,v'.ownBlock=some k→v.ownBlock=some k∨w.heap.size≤k
theorem StoV.setSnap {w:World} {X:Nat→Prop} {g gs gw:Nat} {v:Value} {st:Sto} (h:StoV w X g gs gw v st) (s:ByteArray):StoV (w.setCell ⟨gs,2,none⟩ (.string s)) X g gs gw v { st with snap:=s }:=by
 have c:=chg_cell gs 2 (.string s) w;exact ⟨h.blk.set 2 (.string s),h.wv.only2 c (fun e=>h.ne e.symm) (fun k hk e=>h.off (by rw [hk,e])),h.inX,h.ne,h.off⟩
theorem StoV.setDown {w:World} {X:Nat→Prop} {g gs gw:Nat} {v:Value} {st:Sto} (h:StoV w X g gs gw v st) (b:Bool):StoV (w.setCell ⟨gs,3,none⟩ (.bool b)) X g gs gw v { st with down:=b }:=by
 have c:=chg_cell gs 3 (.bool b) w;exact ⟨h.blk.set 3 (.bool b),h.wv.only2 c (fun e=>h.ne e.symm) (fun k hk e=>h.off (by rw [hk,e])),h.inX,h.ne,h.off⟩
theorem allP_eq (d:Dk) (s:Sto) (h:Hrd) {E1:Int} {d1:Dk} (hp:(if wantsP s h then writeP d h else (0,d))=(E1,d1)) {E2:Int} {ws':Wl} {d2:Dk} (hq:saveW d1 s.w h=(E2,ws',d2)) :
 allP d s h=if E1≠0 then (E1,s,d1) else if E2≠0 then (E2,⟨ws',s.snap,s.down⟩,d2) else if h.base=s.w.h.base∧eqS h.snap s.snap=true then (0,⟨ws',h.snap,s.down⟩,d2) else ((cleanP d2 h.base.toNat).1,⟨ws',h.snap,s.down⟩,(cleanP d2 h.base.toNat).2):=by
 unfold allP;rw [hp];dsimp only;rw [hq]
theorem stoSaveIn {w0 w:World} {X:Nat→Prop} {g gs gw:Nat} {d d':Dk} {v:Value} {st st':Sto} (T0:∀ z,Below w0.heap.size w0 z→TabW z) (hd:DwS w0 X g d w) (hb0:Below w0.heap.size w0 w) (hgw0:w0.heap.size≤gw) (hgs0:w0.heap.size≤gs) {m:Nat} (pi:PInv m d) (hm:m≤880) (hs:StoV w X g gs gw v st) (h:Hrd) (u:Value) (hu:Rd etyE w u h.log)
 (hux:h.log≠[]→∀ k,u.ownBlock=some k→k<w0.heap.size∨X k) (hug:h.log≠[]→u.ownBlock≠some gw) (hib0:0≤h.base) (hib1:h.base≤1099511627776) (hibt:In64 h.bterm) (hime:In64 h.members) (hsz:h.snap.size≤1000000) {E:Int} (he:allP d st h=(E,st',d')) :
 Calls Tryz.prog 78 #[.pointer (some ⟨gs,0,none⟩),hrdA h u] w (SavedP w0 w X g gs gw v E st' d'):=by
 obtain ⟨p,cap,rfl⟩:=hu.shape;obtain ⟨E1,d1,hp⟩:∃ E1 d1,(if wantsP st h then writeP d h else (0,d))=(E1,d1):=⟨_,_,rfl⟩;obtain ⟨E2,ws',d2,hsv⟩:∃ E2 ws' d2,saveW d1 st.w h=(E2,ws',d2):=⟨_,_,_,rfl⟩;have hal:=he.symm.trans (allP_eq d st h hp hsv);have Hal:=Lib.hid hal;have pi5:PInv (m+1) d1:=by
  have hh:PInv (m+1) (if wantsP st h then writeP d h else (0,d)).2:=by
   split
   ·exact pi.writeP h
   ·exact pi.up
  rw [hp] at hh;exact hh
 have pi6:PInv (m+2) d2:=by have:=pi5.save st.w h;rw [hsv] at this;exact this
 have hbN:=Lib.hid (show h.base=(h.base.toNat:Int) by omega);have hbN2:=Lib.hid (show h.base.toNat≤1099511627776 by omega);clear he hal;have hs0:=hb0.size;have ca:=below_alloc w (.cells #[.int .i64 h.term,.int .i64 h.vote,.int .i64 h.base,.int .i64 h.bterm,.int .i64 h.members,.string h.snap,.slice p h.log.length cap] 24);have ka:=Blk.new w #[.int .i64 h.term,.int .i64 h.vote,.int .i64 h.base,.int .i64 h.bterm,.int .i64 h.members,.string h.snap,.slice p h.log.length cap] 24
 have hszA:(w.alloc (.cells #[.int .i64 h.term,.int .i64 h.vote,.int .i64 h.base,.int .i64 h.bterm,.int .i64 h.members,.string h.snap,.slice p h.log.length cap] 24)).heap.size=w.heap.size+1:=by simp
 have hsA:=hs.ext ca
 have hcall:Calls Tryz.prog 33 #[.pointer (some ⟨gs,0,none⟩)] (w.alloc (.cells #[.int .i64 h.term,.int .i64 h.vote,.int .i64 h.base,.int .i64 h.bterm,.int .i64 h.members,.string h.snap,.slice p h.log.length cap] 24)) fun e w'=>∃ v',e=.returned (.agg #[.int .i64 st.w.h.term,.int .i64 st.w.h.vote,.int .i64 st.w.h.base,.int .i64 st.w.h.bterm,.int .i64 st.w.h.members,.string st.snap,v'])∧OwnR etyE w' (w.alloc (.cells #[.int .i64 h.term,.int .i64 h.vote,.int .i64 h.base,.int .i64 h.bterm,.int .i64 h.members,.string h.snap,.slice p h.log.length cap] 24)).heap.size 73 v' st.w.h.log∧Below (w.alloc (.cells #[.int .i64 h.term,.int .i64 h.vote,.int .i64 h.base,.int .i64 h.bterm,.int .i64 h.members,.string h.snap,.slice p h.log.length cap] 24)).heap.size (w.alloc (.cells #[.int .i64 h.term,.int .i64 h.vote,.int .i64 h.base,.int .i64 h.bterm,.int .i64 h.members,.string h.snap,.slice p h.log.length cap] 24)) w':=stoHard hsA
 go_enter Tryz.func78,Tryz.ntmps78
 go_wp2_with fail
 refine hcall.mono ?_;rintro e w1 ⟨v1,rfl,own1,b1⟩;clear hcall;obtain ⟨p3,c3,rfl⟩:=own1.rd.shape;have b1s:=b1.size;have caO:=below_alloc w1 (.cells #[.int .i64 st.w.h.term,.int .i64 st.w.h.vote,.int .i64 st.w.h.base,.int .i64 st.w.h.bterm,.int .i64 st.w.h.members,.string st.snap,.slice p3 st.w.h.log.length c3] 24);have kO:=Blk.new w1 #[.int .i64 st.w.h.term,.int .i64 st.w.h.vote,.int .i64 st.w.h.base,.int .i64 st.w.h.bterm,.int .i64 st.w.h.members,.string st.snap,.slice p3 st.w.h.log.length c3] 24
 have hszO:(w1.alloc (.cells #[.int .i64 st.w.h.term,.int .i64 st.w.h.vote,.int .i64 st.w.h.base,.int .i64 st.w.h.bterm,.int .i64 st.w.h.members,.string st.snap,.slice p3 st.w.h.log.length c3] 24)).heap.size=w1.heap.size+1:=by simp
 have bAll:Below w.heap.size w (w1.alloc (.cells #[.int .i64 st.w.h.term,.int .i64 st.w.h.vote,.int .i64 st.w.h.base,.int .i64 st.w.h.bterm,.int .i64 st.w.h.members,.string st.snap,.slice p3 st.w.h.log.length c3] 24)):=(ca.trans (b1.mono (by omega))).trans (caO.mono (by omega));obtain ⟨X2,hX2⟩:∃ X2:Nat→Prop,X2=fun k=>X k∨k=w.heap.size∨k=w1.heap.size:=⟨_,rfl⟩;have hx2:∀ k,X k→X2 k:=fun k hk=>by rw [hX2];exact .inl hk
 have hx2H:X2 w.heap.size:=by rw [hX2];exact .inr (.inl rfl)
 have hx2O:X2 w1.heap.size:=by rw [hX2];exact .inr (.inr rfl)
 have hx2r:∀ k,X2 k→X k∨w.heap.size≤k:=fun k hk=>by
  rw [hX2] at hk
  rcases hk with hk | rfl | rfl
  ·exact .inl hk
  ·exact .inr (Nat.le_refl _)
  ·exact .inr (by omega)
 have hd2:DwS w0 X2 g d (w1.alloc (.cells #[.int .i64 st.w.h.term,.int .i64 st.w.h.vote,.int .i64 st.w.h.base,.int .i64 st.w.h.bterm,.int .i64 st.w.h.members,.string st.snap,.slice p3 st.w.h.log.length c3] 24)):=by
  rw [hX2];refine hd.more bAll (fun k hk=>?_)
  rcases hk with hk | rfl | rfl
  ·exact .inl hk
  ·exact .inr ⟨Nat.le_refl _,by omega⟩
  ·exact .inr ⟨by omega,by omega⟩
 clear hX2;have st2:StoV (w1.alloc (.cells #[.int .i64 st.w.h.term,.int .i64 st.w.h.vote,.int .i64 st.w.h.base,.int .i64 st.w.h.bterm,.int .i64 st.w.h.members,.string st.snap,.slice p3 st.w.h.log.length c3] 24)) X2 g gs gw v st:=((hsA.ext b1).ext caO).mono hx2;have kh2:=(ka.ext b1).ext caO;have hu2:=(hu.ext ca).ext (b1.trans (caO.mono (by omega)));have ch2:Chg (Gs w0 X gs gw) w (w1.alloc (.cells #[.int .i64 st.w.h.term,.int .i64 st.w.h.vote,.int .i64 st.w.h.base,.int .i64 st.w.h.bterm,.int .i64 st.w.h.members,.string st.snap,.slice p3 st.w.h.log.length c3] 24)):=.of_below bAll
 have hgl:=hs.blk.lt;have hgwl:=hs.wv.blk.lt;have hvl:=fun k hk=>hd.2 k (hs.wv.lX k hk);clear own1 ca ka hsA b1 caO bAll hs hd hu;have x2:=kh2.cell 2 _ rfl;have x3:=kh2.cell 3 _ rfl;have x4:=kh2.cell 4 _ rfl;have x5:=kh2.cell 5 _ rfl;have z2:=kO.cell 2 _ rfl;have z3:=kO.cell 3 _ rfl;have z4:=kO.cell 4 _ rfl;have z5:=kO.cell 5 _ rfl;go_upto_region 2 with (fail)
 generalize w1.alloc (.cells #[.int .i64 st.w.h.term,.int .i64 st.w.h.vote,.int .i64 st.w.h.base,.int .i64 st.w.h.bterm,.int .i64 st.w.h.members,.string st.snap,.slice p3 st.w.h.log.length c3] 24)=w2 at *
 go_cut [40] from 10 (fun q wi=>q=.bool (wantsP st h)∧wi=w2)
 case first =>
  clear Hal hp hsv pi5 pi6 st2 hd2 hu2 ch2 kh2 kO;have hw0:wantsP st h=(decide (h.base≠0) && (decide (h.base≠st.w.h.base) || decide (h.bterm≠st.w.h.bterm) || decide (h.members≠st.w.h.members) || !eqS h.snap st.snap)):=rfl;have Hw0:=Lib.hid hw0;clear hw0;generalize wantsP st h=WP at *
  by_cases a0:h.base=0
  ·have t0:(h.base !=0)=false:=by simp [a0]
   have hr:=Lib.hid (show WP=false by rw [Hw0.out,decide_eq_false (fun q=>q a0)];rfl);clear Hw0 a0;go_wp2_with fail
   go_meet
   exact ⟨ret_valP hr.out.symm,rfl⟩
  have t0:(h.base !=0)=true:=by simpa using a0
  replace Hw0:=Lib.hid (show WP=(decide (h.base≠st.w.h.base) || decide (h.bterm≠st.w.h.bterm) || decide (h.members≠st.w.h.members) || !eqS h.snap st.snap) by rw [Hw0.out,decide_eq_true a0,Bool.true_and]);clear a0
  by_cases a1:h.base≠st.w.h.base
  ·have t1:(h.base !=st.w.h.base)=true:=by simpa using a1
   have hr:=Lib.hid (show WP=true by rw [Hw0.out,decide_eq_true a1];simp);clear Hw0 a1;go_wp2_with fail
   go_meet
   exact ⟨ret_valP hr.out.symm,rfl⟩
  have t1:(h.base !=st.w.h.base)=false:=by simpa using a1
  replace Hw0:=Lib.hid (show WP=(decide (h.bterm≠st.w.h.bterm) || decide (h.members≠st.w.h.members) || !eqS h.snap st.snap) by rw [Hw0.out,decide_eq_false a1];simp);clear a1
  by_cases a2:h.bterm≠st.w.h.bterm
  ·have t2:(h.bterm !=st.w.h.bterm)=true:=by simpa using a2
   have hr:=Lib.hid (show WP=true by rw [Hw0.out,decide_eq_true a2];simp);clear Hw0 a2;go_wp2_with fail
   go_meet
   exact ⟨ret_valP hr.out.symm,rfl⟩
  have t2:(h.bterm !=st.w.h.bterm)=false:=by simpa using a2
  replace Hw0:=Lib.hid (show WP=(decide (h.members≠st.w.h.members) || !eqS h.snap st.snap) by rw [Hw0.out,decide_eq_false a2];simp);clear a2
  by_cases a3:h.members≠st.w.h.members
  ·have t3:(h.members !=st.w.h.members)=true:=by simpa using a3
   have hr:=Lib.hid (show WP=true by rw [Hw0.out,decide_eq_true a3];simp);clear Hw0 a3;go_wp2_with fail
   go_meet
   exact ⟨ret_valP hr.out.symm,rfl⟩
  have t3:(h.members !=st.w.h.members)=false:=by simpa using a3
  replace Hw0:=Lib.hid (show WP=(!eqS h.snap st.snap) by rw [Hw0.out,decide_eq_false a3];simp);clear a3
  cases hq:h.snap.toList == st.snap.toList with
  | true =>
   have hr:=Lib.hid (show WP=false by rw [Hw0.out,show eqS h.snap st.snap=true from hq];rfl);clear Hw0;go_wp2_with fail
   go_meet
   exact ⟨ret_valP hr.out.symm,rfl⟩
  | false =>
   have hr:=Lib.hid (show WP=true by rw [Hw0.out,show eqS h.snap st.snap=false from hq];rfl);clear Hw0;go_wp2_with fail
   go_meet
   exact ⟨ret_valP hr.out.symm,rfl⟩
 case rest =>
 obtain ⟨rfl,rfl⟩:=hcut;obtain ⟨w2,hw2⟩:∃ z,z=wc:=⟨_,rfl⟩;subst hw2;clear x2 x3 x4 x5 z2 z3 z4 z5;go_upto_if 40 with (fail)
 go_cut [] from 6 (fun wi=>E1=0∧DwS w0 X2 g d1 wi∧StoV wi X2 g gs gw v st∧Blk wi w.heap.size #[.int .i64 h.term,.int .i64 h.vote,.int .i64 h.base,.int .i64 h.bterm,.int .i64 h.members,.string h.snap,.slice p h.log.length cap] 24∧Blk wi w1.heap.size #[.int .i64 st.w.h.term,.int .i64 st.w.h.vote,.int .i64 st.w.h.base,.int .i64 st.w.h.bterm,.int .i64 st.w.h.members,.string st.snap,.slice p3 st.w.h.log.length c3] 24∧Chg (Gx w0 X2) w2 wi)
 case first =>
  cases hwp:wantsP st h with
  | false =>
   rw [hwp] at hp
   cases hp
   clear Hal;go_wp2_with fail
   go_meet
   exact ⟨by first | rfl | trivial,hd2,st2,kh2,kO,Chg.refl _ _⟩
  | true =>
   rw [hwp,if_pos rfl] at hp;have y0:=kh2.cell 0 _ rfl;have y1:=kh2.cell 1 _ rfl;have y2:=kh2.cell 2 _ rfl;have y3:=kh2.cell 3 _ rfl;have y4:=kh2.cell 4 _ rfl;have y5:=kh2.cell 5 _ rfl;have y6:=kh2.cell 6 _ rfl;have hcall:=stoWrite T0 hd2 (hb0.trans (ch2.gsB hs0 hgw0 hgs0)) pi (by omega) st2 h _ hu2 (fun hne k hk=>(hux hne k hk).imp id (hx2 k)) hib0 hib1 hibt hime hsz hp;have Hcall:=Lib.hid hcall;clear hcall;go_wp2_with fail
   refine Hcall.out.mono ?_;rintro e w3 ⟨rfl,hd3,st3,ch3⟩;clear Hcall y0 y1 y2 y3 y4 y5 y6;have kh3:=ch3.blk kh2 (fun q=>q.2 hx2H);have kO3:=ch3.blk kO (fun q=>q.2 hx2O)
   by_cases hE:E1=0
   ·have hne:(E1 !=0)=false:=by simp [hE]
    have HE:=Lib.hid hE;clear hE Hal;go_wp2_with fail
    go_meet
    exact ⟨HE.out,hd3,st3,kh3,kO3,ch3⟩
   ·have hne:(E1 !=0)=true:=by simpa using hE
    have hal:=Hal.out;rw [if_pos hE] at hal;simp only [Prod.mk.injEq] at hal
    obtain ⟨rfl,rfl,rfl⟩:=hal;clear hE;go_wp2_with fail
    go_ret
    exact ⟨rfl,X2,v,hx2,hx2r,hd3,st3,ch2.trans ch3 (fun k hk q=>.inl ⟨q.1,fun hx=>q.2 (hx2 k hx)⟩),fun k hk=>.inl hk⟩
 case rest =>
 obtain ⟨hE1,hd5,st5,kh5,kO5,ch5⟩:=hcut;obtain ⟨w5,hw5⟩:∃ z,z=wc:=⟨_,rfl⟩;subst hw5;have hal:=Hal.out;rw [if_neg (fun q=>q hE1)] at hal;have Hal2:=Lib.hid hal;clear hal Hal hp hE1 kh2 kO st2 hd2;have hu5:=hu2.chgF ch5 (fun hne k hk q=>(hux hne k hk).elim (fun e=>by have:=q.1;omega) (fun e=>q.2 (hx2 k e)));have ch05:Chg (Gs w0 X gs gw) w w5:=ch2.trans ch5 (fun k hk q=>.inl ⟨q.1,fun hx=>q.2 (hx2 k hx)⟩);have hux5:h.log≠[]→∀ k,(Value.slice p h.log.length cap).ownBlock=some k→k<w0.heap.size∨X2 k:=fun hne k hk=>(hux hne k hk).imp id (hx2 k);go_wp2_with fail
 refine wp_region_F (n:=6) (S:=fun w':World=>w'.cell? ⟨gs,1,none⟩=some (.pointer (some ⟨gw,0,none⟩))∧w'.cell? ⟨w.heap.size,0,none⟩=some (.int .i64 h.term)∧w'.cell? ⟨w.heap.size,1,none⟩=some (.int .i64 h.vote)∧w'.cell? ⟨w.heap.size,2,none⟩=some (.int .i64 h.base)∧w'.cell? ⟨w.heap.size,3,none⟩=some (.int .i64 h.bterm)∧w'.cell? ⟨w.heap.size,4,none⟩=some (.int .i64 h.members)∧w'.cell? ⟨w.heap.size,5,none⟩=some (.string h.snap)∧w'.cell? ⟨w.heap.size,6,none⟩=some (.slice p h.log.length cap)) (by kernel_rfl) ?_;have st5d:=st5.ext (below_drew _ _);have kh5d:=kh5.drew;have kO5d:=kO5.drew
 have hd5d:=hd5.drew;have hb5d:Below w0.heap.size w0 w5.drew:=hb0.trans (ch05.drew.gsB hs0 hgw0 hgs0)
 have hHeld:(fun w':World=>w'.cell? ⟨gs,1,none⟩=some (.pointer (some ⟨gw,0,none⟩))∧w'.cell? ⟨w.heap.size,0,none⟩=some (.int .i64 h.term)∧w'.cell? ⟨w.heap.size,1,none⟩=some (.int .i64 h.vote)∧w'.cell? ⟨w.heap.size,2,none⟩=some (.int .i64 h.base)∧w'.cell? ⟨w.heap.size,3,none⟩=some (.int .i64 h.bterm)∧w'.cell? ⟨w.heap.size,4,none⟩=some (.int .i64 h.members)∧w'.cell? ⟨w.heap.size,5,none⟩=some (.string h.snap)∧w'.cell? ⟨w.heap.size,6,none⟩=some (.slice p h.log.length cap)) w5.drew:=⟨st5d.c1,kh5d.cell 0 _ rfl,kh5d.cell 1 _ rfl,kh5d.cell 2 _ rfl,kh5d.cell 3 _ rfl,kh5d.cell 4 _ rfl,kh5d.cell 5 _ rfl,kh5d.cell 6 _ rfl⟩
 refine tk ?_ 0 ?_ hHeld ?_;rotate_left
 ·rintro w ⟨_,_,_,_,_,_,_,_⟩;dsimp only [bare];go_simp<;>with_reducible rfl
 try simp only [lyB,lyP,lyA,lyZ,lyS]
 refine tk ?_ 1 ?_ hHeld ?_;rotate_left
 ·rintro w ⟨_,_,_,_,_,_,_,_⟩;dsimp only [bare];go_simp<;>with_reducible rfl
 try simp only [lyB,lyP,lyA,lyZ,lyS]
 refine tk ?_ 2 ?_ hHeld ?_;rotate_left
 ·rintro w ⟨_,_,_,_,_,_,_,_⟩;dsimp only [bare];go_simp<;>with_reducible rfl
 try simp only [lyB,lyP,lyA,lyZ,lyS]
 refine tk ?_ 3 ?_ hHeld ?_;rotate_left
 ·rintro w ⟨_,_,_,_,_,_,_,_⟩;dsimp only [bare];go_simp<;>with_reducible rfl
 try simp only [lyB,lyP,lyA,lyZ,lyS]
 refine tk ?_ 4 ?_ hHeld ?_;rotate_left
 ·rintro w ⟨_,_,_,_,_,_,_,_⟩;dsimp only [bare];go_simp<;>with_reducible rfl
 try simp only [lyB,lyP,lyA,lyZ,lyS]
 refine wpAnyF_one 5 _ _ _ rfl (by kernel_rfl) (fun K hK=>?_);dsimp only [bare];go_simp;refine (walSaveE T0 hd5d hb5d hgw0 pi5 (by omega) st5d.wv h _ (hu5.drewN 1) hux5 (fun hne=>hug hne) hsv).mono ?_;rintro e w6 ⟨rfl,X6,v6,hx6,hx6r,hd6,hwv6,ch6,hv6⟩;dsimp only;have hs5d:w5.drew.heap.size=w5.heap.size:=rfl;have ch6n:∀ k,X2 k→k≠gw→¬ Gw w0 X2 gw k:=fun k hk hne q=>q.elim (fun q=>q.2 hk) hne;have kh6:=ch6.blk kh5d (ch6n _ hx2H (fun e=>by have:=st5.wv.blk.lt;omega));have kO6:=ch6.blk kO5d (ch6n _ hx2O (fun e=>by have:=st5.wv.blk.lt;omega));have ks6:=ch6.blk st5d.blk (ch6n _ st5d.inX st5d.ne)
 have st6:StoV w6 X6 g gs gw v6 ⟨ws',st.snap,st.down⟩:=⟨ks6,hwv6,hx6 _ st5d.inX,st5d.ne,fun e=>(hv6 _ e).elim st5d.off (fun q=>by have:=st5d.blk.lt;omega)⟩;refine hK _ _ ⟨st6.c1,kh6.cell 0 _ rfl,kh6.cell 1 _ rfl,kh6.cell 2 _ rfl,kh6.cell 3 _ rfl,kh6.cell 4 _ rfl,kh6.cell 5 _ rfl,kh6.cell 6 _ rfl⟩ (fun hHeld=>?_);clear hK K
 try simp only [lyB,lyP,lyA,lyZ,lyS]
 refine wpAnyF_end (some 7) (Op.assign (Operand.tmp 52)) 42 rfl (by kernel_rfl) (by kernel_rfl) (fun K hK=>?_);dsimp only [bare];go_simp;refine hK _ _ ?_;clear hK K
 try simp only [lyB,lyP,lyA,lyZ,lyS]
 have ch06:Chg (Gs w0 X gs gw) w w6:=ch05.drew.trans ch6 (fun k hk q=>q.elim (fun q=>.inl ⟨q.1,fun hx=>q.2 (hx2 k hx)⟩) (fun q=>.inr (.inl q)));have hxx6:∀ k,X k→X6 k:=fun k hk=>hx6 k (hx2 k hk);have hw5s:w.heap.size≤w5.heap.size:=ch05.size;have hxx6r:∀ k,X6 k→X k∨w.heap.size≤k:=fun k hk=>(hx6r k hk).elim (hx2r k) (fun q=>.inr (Nat.le_trans hw5s q));have hvv6:∀ k,v6.ownBlock=some k→v.ownBlock=some k∨w.heap.size≤k:=fun k hk=>(hv6 k hk).imp id (fun q=>Nat.le_trans hw5s q);clear st5d kh5d kO5d hd5d hb5d st5 kh5 kO5 hd5 ch5 ch05 ch6 ks6 hwv6 hx6r hv6 hu5 hu2 hux5 ch6n hsv hs5d hHeld
 by_cases hE:E2=0
 ·have hne:(E2 !=0)=false:=by simp [hE]
  have hal:=Hal2.out;rw [if_neg (fun q=>q hE)] at hal;have Hal3:=Lib.hid hal;clear hal Hal2 hE;have f2:=st6.blk.frozen 2;have y2:=st6.c2;have y5:=kh6.cell 5 _ rfl;go_upto_region 10 with (fail)
  have c7:=chg_cell gs 2 (.string h.snap) w6;have st7:=st6.setSnap h.snap;have kh7:=c7.blk kh6 (by omega);have kO7:=c7.blk kO6 (by omega);have hd7:DwS w0 X6 g d2 (w6.setCell ⟨gs,2,none⟩ (.string h.snap)):=hd6.chgX c7 (fun k hk=>.inl (by subst hk;exact st6.inX));have ch07:Chg (Gs w0 X gs gw) w (w6.setCell ⟨gs,2,none⟩ (.string h.snap)):=ch06.trans c7 (fun k hk e=>.inr (.inr e));clear c7 st6 kh6 kO6 hd6 ch06 f2 y2 y5;generalize w6.setCell ⟨gs,2,none⟩ (.string h.snap)=w7 at *;have y2:=kh7.cell 2 _ rfl;have y5:=kh7.cell 5 _ rfl;have z2:=kO7.cell 2 _ rfl;have z5:=kO7.cell 5 _ rfl
  by_cases hbe:h.base=st.w.h.base
  ·have hbi:(h.base == st.w.h.base)=true:=by simpa using hbe
   cases hsn:h.snap.toList == st.snap.toList with
   | true =>
    have hal:=Hal3.out;rw [if_pos ⟨hbe,show eqS h.snap st.snap=true from hsn⟩] at hal;simp only [Prod.mk.injEq] at hal
    obtain ⟨rfl,rfl,rfl⟩:=hal;clear hbe Hal3;go_wp2_with fail
    go_ret
    exact ⟨rfl,X6,v6,hxx6,hxx6r,hd7,st7,ch07,hvv6⟩
   | false =>
    have hal:=Hal3.out;rw [if_neg (fun q=>by have:=q.2;rw [show eqS h.snap st.snap=false from hsn] at this;cases this)] at hal;clear hbe Hal3;obtain ⟨E3,d3,hcl⟩:∃ E3 d3,cleanP d2 h.base.toNat=(E3,d3):=⟨_,_,rfl⟩;rw [hcl] at hal;simp only [Prod.mk.injEq] at hal
    obtain ⟨rfl,rfl,rfl⟩:=hal;go_wp2_with fail
    refine wp_region_F (n:=7) (S:=fun w':World=>w'.cell? ⟨gs,0,none⟩=some (.pointer (some ⟨g,0,none⟩))∧w'.cell? ⟨w.heap.size,2,none⟩=some (.int .i64 h.base)) (by kernel_rfl) ?_;have st7d:=st7.ext (below_drew _ _);have kh7d:=kh7.drew;have hd7d:=hd7.drew;have hb7d:Below w0.heap.size w0 w7.drew:=hb0.trans (ch07.drew.gsB hs0 hgw0 hgs0);have hHeld:(fun w':World=>w'.cell? ⟨gs,0,none⟩=some (.pointer (some ⟨g,0,none⟩))∧w'.cell? ⟨w.heap.size,2,none⟩=some (.int .i64 h.base)) w7.drew:=⟨st7d.c0,kh7d.cell 2 _ rfl⟩;refine tk ?_ 0 ?_ hHeld ?_;rotate_left
    ·rintro w ⟨_,_⟩;dsimp only [bare];go_simp<;>with_reducible rfl
    try simp only [lyB,lyP,lyA,lyZ,lyS]
    refine tk ?_ 1 ?_ hHeld ?_;rotate_left
    ·rintro w ⟨_,_⟩;dsimp only [bare];go_simp<;>with_reducible rfl
    try simp only [lyB,lyP,lyA,lyZ,lyS]
    refine tk ?_ 2 ?_ hHeld ?_;rotate_left
    ·rintro w ⟨_,_⟩;dsimp only [bare];go_simp<;>with_reducible rfl
    try simp only [lyB,lyP,lyA,lyZ,lyS]
    refine tk ?_ 3 ?_ hHeld ?_;rotate_left
    ·rintro w ⟨_,_⟩;dsimp only [bare];go_simp<;>with_reducible rfl
    try simp only [lyB,lyP,lyA,lyZ,lyS]
    refine tk ?_ 4 ?_ hHeld ?_;rotate_left
    ·rintro w ⟨_,_⟩;dsimp only [bare];go_simp<;>with_reducible rfl
    try simp only [lyB,lyP,lyA,lyZ,lyS]
    refine tk ?_ 5 ?_ hHeld ?_;rotate_left
    ·rintro w ⟨_,_⟩;dsimp only [bare];go_simp<;>with_reducible rfl
    try simp only [lyB,lyP,lyA,lyZ,lyS]
    refine wpAnyF_one 6 _ _ _ rfl (by kernel_rfl) (fun K hK=>?_);dsimp only [bare];go_simp;refine (stoClean T0 hd7d hb7d pi6 (by omega) h.base.toNat h.base hbN.out (by have:=hbN2.out;omega) hcl).mono ?_;rintro e w8 ⟨rfl,hd8,ch8⟩;dsimp only;have st8:=st7d.keep ch8;have kh8:=ch8.blk kh7d (fun q=>q.2 (hx6 _ hx2H));refine hK _ _ ⟨st8.c0,kh8.cell 2 _ rfl⟩ (fun hHeld=>?_);clear hK K
    try simp only [lyB,lyP,lyA,lyZ,lyS]
    refine wpAnyF_end (some 4) (Op.assign (Operand.tmp 79)) 42 rfl (by kernel_rfl) (by kernel_rfl) (fun K hK=>?_);dsimp only [bare];go_simp;refine hK _ _ ?_;clear hK K
    try simp only [lyB,lyP,lyA,lyZ,lyS]
    go_wp2_with fail
    go_ret
    exact ⟨rfl,X6,v6,hxx6,hxx6r,hd8,st8,ch07.drew.trans ch8 (fun k hk q=>.inl ⟨q.1,fun hx=>q.2 (hxx6 k hx)⟩),hvv6⟩
  ·have hbi:(h.base == st.w.h.base)=false:=by simpa using hbe
   have hal:=Hal3.out;rw [if_neg (fun q=>hbe q.1)] at hal;clear hbe Hal3;obtain ⟨E3,d3,hcl⟩:∃ E3 d3,cleanP d2 h.base.toNat=(E3,d3):=⟨_,_,rfl⟩;rw [hcl] at hal;simp only [Prod.mk.injEq] at hal
   obtain ⟨rfl,rfl,rfl⟩:=hal;go_wp2_with fail
   refine wp_region_F (n:=7) (S:=fun w':World=>w'.cell? ⟨gs,0,none⟩=some (.pointer (some ⟨g,0,none⟩))∧w'.cell? ⟨w.heap.size,2,none⟩=some (.int .i64 h.base)) (by kernel_rfl) ?_;have st7d:=st7.ext (below_drew _ _);have kh7d:=kh7.drew;have hd7d:=hd7.drew;have hb7d:Below w0.heap.size w0 w7.drew:=hb0.trans (ch07.drew.gsB hs0 hgw0 hgs0);have hHeld:(fun w':World=>w'.cell? ⟨gs,0,none⟩=some (.pointer (some ⟨g,0,none⟩))∧w'.cell? ⟨w.heap.size,2,none⟩=some (.int .i64 h.base)) w7.drew:=⟨st7d.c0,kh7d.cell 2 _ rfl⟩;refine tk ?_ 0 ?_ hHeld ?_;rotate_left
   ·rintro w ⟨_,_⟩;dsimp only [bare];go_simp<;>with_reducible rfl
   try simp only [lyB,lyP,lyA,lyZ,lyS]
   refine tk ?_ 1 ?_ hHeld ?_;rotate_left
   ·rintro w ⟨_,_⟩;dsimp only [bare];go_simp<;>with_reducible rfl
   try simp only [lyB,lyP,lyA,lyZ,lyS]
   refine tk ?_ 2 ?_ hHeld ?_;rotate_left
   ·rintro w ⟨_,_⟩;dsimp only [bare];go_simp<;>with_reducible rfl
   try simp only [lyB,lyP,lyA,lyZ,lyS]
   refine tk ?_ 3 ?_ hHeld ?_;rotate_left
   ·rintro w ⟨_,_⟩;dsimp only [bare];go_simp<;>with_reducible rfl
   try simp only [lyB,lyP,lyA,lyZ,lyS]
   refine tk ?_ 4 ?_ hHeld ?_;rotate_left
   ·rintro w ⟨_,_⟩;dsimp only [bare];go_simp<;>with_reducible rfl
   try simp only [lyB,lyP,lyA,lyZ,lyS]
   refine tk ?_ 5 ?_ hHeld ?_;rotate_left
   ·rintro w ⟨_,_⟩;dsimp only [bare];go_simp<;>with_reducible rfl
   try simp only [lyB,lyP,lyA,lyZ,lyS]
   refine wpAnyF_one 6 _ _ _ rfl (by kernel_rfl) (fun K hK=>?_);dsimp only [bare];go_simp;refine (stoClean T0 hd7d hb7d pi6 (by omega) h.base.toNat h.base hbN.out (by have:=hbN2.out;omega) hcl).mono ?_;rintro e w8 ⟨rfl,hd8,ch8⟩;dsimp only;have st8:=st7d.keep ch8;have kh8:=ch8.blk kh7d (fun q=>q.2 (hx6 _ hx2H));refine hK _ _ ⟨st8.c0,kh8.cell 2 _ rfl⟩ (fun hHeld=>?_);clear hK K
   try simp only [lyB,lyP,lyA,lyZ,lyS]
   refine wpAnyF_end (some 4) (Op.assign (Operand.tmp 79)) 42 rfl (by kernel_rfl) (by kernel_rfl) (fun K hK=>?_);dsimp only [bare];go_simp;refine hK _ _ ?_;clear hK K
   try simp only [lyB,lyP,lyA,lyZ,lyS]
   go_wp2_with fail
   go_ret
   exact ⟨rfl,X6,v6,hxx6,hxx6r,hd8,st8,ch07.drew.trans ch8 (fun k hk q=>.inl ⟨q.1,fun hx=>q.2 (hxx6 k hx)⟩),hvv6⟩
 ·have hne:(E2 !=0)=true:=by simpa using hE
  have hal:=Hal2.out;rw [if_pos hE] at hal;simp only [Prod.mk.injEq] at hal
  obtain ⟨rfl,rfl,rfl⟩:=hal;clear hE Hal2;go_wp2_with fail
  go_ret
  exact ⟨rfl,X6,v6,hxx6,hxx6r,hd6,st6,ch06,hvv6⟩
theorem stoSave {w0 w:World} {X:Nat→Prop} {g gs gw:Nat} {d d':Dk} {v:Value} {st st':Sto} (T0:∀ z,Below w0.heap.size w0 z→TabW z) (hd:DwS w0 X g d w) (hb0:Below w0.heap.size w0 w) (hgw0:w0.heap.size≤gw) (hgs0:w0.heap.size≤gs) {m:Nat} (pi:PInv m d) (hm:m≤880) (hs:StoV w X g gs gw v st) (h:Hrd) (u:Value) (hu:Rd etyE w u h.log)
 (hux:h.log≠[]→∀ k,u.ownBlock=some k→k<w0.heap.size∨X k) (hug:h.log≠[]→u.ownBlock≠some gw) {E:Int} (he:saveP d st h=(E,st',d')) :
 Calls Tryz.prog 31 #[.pointer (some ⟨gs,0,none⟩),hrdA h u] w (SavedP w0 w X g gs gw v E st' d'):=by
 obtain ⟨p,cap,rfl⟩:=hu.shape;have hsp:saveP d st h=if rightH h=false then (1,st,d) else if st.down=true then (18,st,d) else ((allP d st h).1,⟨(allP d st h).2.1.w,(allP d st h).2.1.snap,decide ((allP d st h).1≠0)⟩,(allP d st h).2.2):=rfl
 have Hsp:=Lib.hid (he.symm.trans hsp);clear hsp he;have ca:=below_alloc w (.cells #[.int .i64 h.term,.int .i64 h.vote,.int .i64 h.base,.int .i64 h.bterm,.int .i64 h.members,.string h.snap,.slice p h.log.length cap] 24);have ka:=Blk.new w #[.int .i64 h.term,.int .i64 h.vote,.int .i64 h.base,.int .i64 h.bterm,.int .i64 h.members,.string h.snap,.slice p h.log.length cap] 24;obtain ⟨X1,hX1⟩:∃ X1:Nat→Prop,X1=fun k=>X k∨k=w.heap.size:=⟨_,rfl⟩
 have hdA:DwS w0 X1 g d (w.alloc (.cells #[.int .i64 h.term,.int .i64 h.vote,.int .i64 h.base,.int .i64 h.bterm,.int .i64 h.members,.string h.snap,.slice p h.log.length cap] 24)):=by rw [hX1];exact hd.alloc _
 have hx1:∀ k,X k→X1 k:=fun k hk=>by rw [hX1];exact .inl hk
 have hx1r:∀ k,X1 k→X k∨w.heap.size≤k:=fun k hk=>by rw [hX1] at hk;exact hk.imp id (fun e=>Nat.le_of_eq e.symm)
 clear hX1;have hsA0:=hs.ext ca;have hsA:=hsA0.mono hx1;have huA:=hu.ext ca;have hbA:Below w0.heap.size w0 (w.alloc (.cells #[.int .i64 h.term,.int .i64 h.vote,.int .i64 h.base,.int .i64 h.bterm,.int .i64 h.members,.string h.snap,.slice p h.log.length cap] 24)):=hb0.trans (ca.mono hb0.size);have hAs:w.heap.size≤(w.alloc (.cells #[.int .i64 h.term,.int .i64 h.vote,.int .i64 h.base,.int .i64 h.bterm,.int .i64 h.members,.string h.snap,.slice p h.log.length cap] 24)).heap.size:=ca.size;have hgl:=hs.blk.lt;have hcall:=walRight h _ _ huA;have Hcall:=Lib.hid hcall;have y0:=ka.cell 0 _ rfl
 have y1:=ka.cell 1 _ rfl;have y2:=ka.cell 2 _ rfl;have y3:=ka.cell 3 _ rfl;have y4:=ka.cell 4 _ rfl;have y5:=ka.cell 5 _ rfl;have y6:=ka.cell 6 _ rfl;clear hcall hd hs hu;go_enter Tryz.func31,Tryz.ntmps31
 go_wp2_with fail
 refine Hcall.out.mono ?_;rintro e w1 ⟨rfl,b1⟩;have hd1:=hdA.ext b1;have hs1:=hsA.ext b1;have hsX:=hsA0.ext b1;have hu1:=huA.ext b1;have k1:=ka.ext b1;have hb1:Below w0.heap.size w0 w1:=hbA.trans (b1.mono hbA.size);have bW:Below w.heap.size w w1:=ca.trans (b1.mono hAs);clear Hcall y0 y1 y2 y3 y4 y5 y6 hdA hsA huA ka ca hbA b1;have fin0:∀ E',SavedP w0 w X g gs gw v E' st d (.returned (.int .i64 E')) w1:=fun E'=>⟨rfl,X,v,fun _ h=>h,fun _ h=>.inl h,hd1.mono hx1,hsX,.of_below bW,fun _ h=>.inl h⟩
 cases hr:rightH h with
 | false =>
  have hh:=Hsp.out;rw [hr,if_pos rfl] at hh;simp only [Prod.mk.injEq] at hh
  obtain ⟨rfl,rfl,rfl⟩:=hh;have Fin:=Lib.hid (fin0 1);clear fin0 hr;go_wp2_with fail
  go_ret
  exact Fin.out
 | true =>
  have hh:=Hsp.out;rw [hr,if_neg (by decide)] at hh;have hq:=hs1.c3
  by_cases hdn:st.down=true
  ·rw [if_pos hdn] at hh;simp only [Prod.mk.injEq] at hh
   obtain ⟨rfl,rfl,rfl⟩:=hh;have Fin:=Lib.hid (fin0 18);rw [hdn] at hq;clear fin0 hr hdn;go_wp2_with fail
   go_ret
   exact Fin.out
  ·have hdn2:st.down=false:=by cases hx:st.down;rfl;exact absurd hx hdn
   rw [if_neg hdn] at hh;rw [hdn2] at hq;obtain ⟨E1,st1,d1,hal⟩:∃ E1 st1 d1,allP d st h=(E1,st1,d1):=⟨_,_,_,rfl⟩;rw [hal] at hh;simp only [Prod.mk.injEq] at hh
   obtain ⟨rfl,rfl,rfl⟩:=hh;obtain ⟨hbg,p1,p2,f1,f2,f3,f4,f5⟩:=right_base hr;have hcall:=stoSaveIn T0 hd1 hb1 hgw0 hgs0 pi hm hs1 h _ hu1 (fun hne k hk=>(hux hne k hk).imp id (hx1 k)) hug p1 p2 f2 f3 (by omega) hal;have Hcall:=Lib.hid hcall;have y0:=k1.cell 0 _ rfl;have y1:=k1.cell 1 _ rfl;have y2:=k1.cell 2 _ rfl;have y3:=k1.cell 3 _ rfl;have y4:=k1.cell 4 _ rfl;have y5:=k1.cell 5 _ rfl;have y6:=k1.cell 6 _ rfl;clear hcall fin0 hdn hal hr p1 p2 f1 f2 f3 f4 f5 hbg;go_wp2_with fail
   refine Hcall.out.mono ?_;rintro e w2 ⟨rfl,X2,v2,hx2,hx2r,hd2,st2,ch2,hv2⟩;have g3:=st2.c3;have fr:=st2.blk.frozen 3;clear Hcall y0 y1 y2 y3 y4 y5 y6;have c3:=chg_cell gs 3 (.bool (E !=0)) w2;have hst:({ st1 with down:=(E !=0) }:Sto)=⟨st1.w,st1.snap,decide (E≠0)⟩:=by
    have:(E !=0)=decide (E≠0):=by by_cases h:E=0<;>simp [h]
    rw [this]
   have st3:StoV (w2.setCell ⟨gs,3,none⟩ (.bool (E !=0))) X2 g gs gw v2 ⟨st1.w,st1.snap,decide (E≠0)⟩:=by rw [←hst];exact st2.setDown _
   have fin:SavedP w0 w X g gs gw v E ⟨st1.w,st1.snap,decide (E≠0)⟩ d' (.returned (.int .i64 E)) (w2.setCell ⟨gs,3,none⟩ (.bool (E !=0))) :=
    ⟨rfl,X2,v2,fun k hk=>hx2 k (hx1 k hk),fun k hk=>(hx2r k hk).elim (hx1r k) (fun q=>.inr (Nat.le_trans bW.size q)),hd2.chgX c3 (fun k hk=>.inl (by subst hk;exact st2.inX)),st3,
     ((Chg.of_below bW).trans ch2 (fun k hk q=>q.imp (fun q=>⟨q.1,fun hx=>q.2 (hx1 k hx)⟩) id)).trans c3 (fun k hk e=>.inr (.inr e)),fun k hk=>(hv2 k hk).imp id (fun q=>Nat.le_trans bW.size q)⟩
   have Fin:=Lib.hid fin;clear fin st3 hst c3;go_wp2_with fail
   go_ret
   exact Fin.out
end
section
open Go Go.RowKit Go.PlainAid
def NamQ (K:Nat) (d:Dk):Prop:=∀ n,K<n→getF d.fs (nameW n)=none
section
variable {K:Nat} {d:Dk}
theorem NamQ.up (h:NamQ K d):NamQ (K+1) d:=fun n hn=>h n (by omega)
theorem NamQ.zero:NamQ 0 dk0:=fun _ _=>rfl
theorem NamQ.fs {d':Dk} (h:NamQ K d) (e:d'.fs=d.fs):NamQ K d':=fun n hn=>by rw [e];exact h n hn
theorem NamQ.append (h:NamQ K d) {s:ByteArray} (hs:∀ n,K<n→s≠nameW n) (p:List UInt8):NamQ K (appendD d s p).2:=fun n hn=>by rw [append_other d (hs n hn)];exact h n hn
theorem NamQ.sync (h:NamQ K d) (s:ByteArray):NamQ K (syncD d s).2:=fun n hn=>by
 by_cases e:s=nameW n
 ·subst e
  rcases sync_cases d (nameW n) with ⟨_,e⟩ | ⟨_,f,e,_⟩
  ·rw [e];exact h n hn
  ·rw [h n hn] at e;cases e
 ·rw [sync_other d e];exact h n hn
theorem NamQ.cut (h:NamQ K d) (s:ByteArray) (m:Nat):NamQ K (cutD d s m).2:=fun n hn=>by
 by_cases e:s=nameW n
 ·subst e
  rcases cut_cases d (nameW n) m with ⟨_,e⟩ | ⟨_,f,e,_⟩
  ·rw [e];exact h n hn
  ·rw [h n hn] at e;cases e
 ·rw [cut_other d _ e];exact h n hn
theorem NamQ.remove (h:NamQ K d) (hs:SortD d.fs) (s:ByteArray):NamQ K (removeD d s).2:=fun n hn=>by
 by_cases e:s=nameW n
 ·subst e
  rcases remove_cases hs (nameW n) with ⟨_,e⟩ | ⟨_,e,_⟩
  ·rw [e];exact h n hn
  ·exact absurd (h n hn) e
 ·rw [remove_other d e];exact h n hn
theorem NamQ.crash (h:NamQ K d) (picks:List Int):NamQ K (crashD d picks):=fun n hn=>crash_none picks d.fs 0 (h n hn)
theorem NamQ.rename (h:NamQ K d) {s t:ByteArray} (hs:∀ n,s≠nameW n) (ht:∀ n,t≠nameW n):NamQ K (renameD d s t).2:=fun n hn=>by rw [rename_other d (hs n) (ht n)];exact h n hn
theorem freshS_ne (n:Nat):freshS≠nameW n:=freshS_nameW n
theorem nameP_ne (a n:Nat):nameP a≠nameW n:=fun e=>by
 have h:bytesOf (nameP a)=bytesOf (nameW n):=by rw [e]
 rw [nameW_bytes,nameP_bytes] at h;have h1:=congrArg (fun l=>l[0]?) h;simp [hdP,hdW] at h1
theorem NamQ.then' {r:Int×Dk} {f:Dk→Int×Dk} (h1:NamQ K r.2) (h2:NamQ K r.2→NamQ K (f r.2).2):NamQ K (thenD r f).2:=by
 unfold thenD;split
 ·exact h2 h1
 ·exact h1
theorem NamQ.write {m:Nat} (pi:PInv m d) (h:NamQ K d) (x:Hrd):NamQ K (writeP d x).2:=by
 unfold writeP;refine NamQ.then' ?_ fun h1=>?_
 ·split
  ·exact h.remove pi.l.sort _
  ·exact h
 refine NamQ.then' (h1.append (fun n _=>freshS_ne n) _) fun h2=>?_;exact NamQ.then' (h2.sync _) fun h3=>h3.rename freshS_ne (nameP_ne _)
theorem NamQ.removes:∀ (L:List Nat) (n:Nat) {m:Nat} {d:Dk},PInv m d→NamQ K d→NamQ K (removesD L n d).2
 | [],_,_,_,_,h=>h
 | k::L,n,m,d,pi,h=>by
  by_cases e:k=n
  ·rw [removesD,if_pos e];exact NamQ.removes L n pi h
  ·rw [removesD,if_neg e];unfold thenD;split
   ·exact NamQ.removes L n (pi.remove0 _) (h.remove pi.l.sort _)
   ·exact h.remove pi.l.sort _
theorem NamQ.drops (n:Nat):∀ (L:List ByteArray) {m:Nat} {d:Dk},PInv m d→NamQ K d→NamQ K (dropD n L d).2
 | [],_,_,_,h=>h
 | s::L,m,d,pi,h=>by
  rw [dropD];split
  ·unfold thenD;split
   ·exact NamQ.drops n L (pi.remove0 _) (h.remove pi.l.sort _)
   ·exact h.remove pi.l.sort _
  ·exact NamQ.drops n L pi h
theorem NamQ.clean {m:Nat} (pi:PInv m d) (h:NamQ K d):NamQ K (cleanW d).2:=by
 unfold cleanW cleanD;have hc:∀ n s,NamQ K (cutS d n s).2∧PInv m (cutS d n s).2:=fun n s=>by
  unfold cutS;split
  ·exact ⟨h.cut _ _,pi.cut0 _ _⟩
  ·exact ⟨h,pi⟩
 generalize pickN d=q;obtain ⟨h1,p1⟩:=hc q.1 q.2;unfold thenD;dsimp only
 split
 ·split
  ·split
   ·exact (NamQ.removes _ _ p1 h1).sync _
   ·exact NamQ.removes _ _ p1 h1
  ·exact NamQ.removes _ _ p1 h1
 ·exact h1
theorem NamQ.cleanP {m:Nat} (pi:PInv m d) (h:NamQ K d) (n:Nat):NamQ K (Proofs.YtgpgcnmnfnnkjaaGreatDoor.cleanP d n).2:=NamQ.drops n _ pi h
theorem NamQ.open (h:NamQ K d) {ws:Wl} (how:openW d=some ws):ws.n≤K:=by
 unfold openW at how
 split at how
 ·cases how
  show (pickN d).1≤K
  rcases pickN_cases d with e | ⟨n,f,_,hf,e,_⟩
  ·rw [e];exact Nat.zero_le _
  ·rw [e]
   rcases Nat.lt_or_ge K n with hlt | hge
   ·rw [h n hlt] at hf;cases hf
   ·exact hge
 ·cases how
theorem NamQ.openP {m:Nat} (pi:PInv m d) (h:NamQ K d):NamQ K (Proofs.YtgpgcnmnfnnkjaaGreatDoor.openP d).2.2∧∀ st,(Proofs.YtgpgcnmnfnnkjaaGreatDoor.openP d).2.1=some st→st.w.n≤K∧st.w.h.snap=sNone∧st.w.down=false∧st.down=false:=by
 unfold Proofs.YtgpgcnmnfnnkjaaGreatDoor.openP
 cases how:openW d with
 | none=>exact ⟨h.clean pi,fun st e=>by cases e⟩
 | some ws =>
  dsimp only;have hs:=open_snap how;have hk:=h.open how
  cases snapO (cleanW d).2 ws.h with
  | none=>exact ⟨h.clean pi,fun st e=>by cases e⟩
  | some s =>
   dsimp only;have hq:=(h.clean pi).cleanP pi.clean ws.h.base.toNat
   split
   ·exact ⟨hq,fun st e=>by cases e;exact ⟨hk,hs.1,hs.2,rfl⟩⟩
   ·exact ⟨hq,fun st e=>by cases e⟩
theorem NamQ.writes {n:Nat} (h:NamQ K d) (hn:n≤K) (b:List UInt8):NamQ K (writeD d n b).2:=by
 unfold writeD;exact NamQ.then' (h.append (fun a ha e=>by have:=nameW_inj e;omega) _) fun h1=>h1.sync _
theorem NamQ.lay {m n:Nat} (pi:PInv m d) (h:NamQ K d) (hn:n≤K) (x:Hrd):NamQ (K+1) (layW d n x).2.2∧(layW d n x).2.1≤K+1:=by
 unfold layW;have hw:=h.up.writes (show n+1≤K+1 by omega) (layB x);have pw:PInv (m+1) (writeD d (n+1) (layB x)).2:=by
  unfold writeD thenD
  split
  ·exact (pi.append _ _).sync0 _
  ·exact pi.append _ _
 dsimp only
 split
 ·split
  ·exact ⟨hw,by dsimp only;omega⟩
  ·exact ⟨hw.remove pw.l.sort _,by dsimp only;omega⟩
 ·exact ⟨hw,by dsimp only;omega⟩
theorem NamQ.saveR {m:Nat} (pi:PInv m d) (h:NamQ K d) {ws:Wl} (hn:ws.n≤K) (x:Hrd):NamQ (K+1) (Proofs.YtgpgcnmnfnnkjaaGreatDoor.saveR d ws x).2.2∧(Proofs.YtgpgcnmnfnnkjaaGreatDoor.saveR d ws x).2.1.n≤K+1:=by
 unfold Proofs.YtgpgcnmnfnnkjaaGreatDoor.saveR;have key:∀ r:Int×Nat×Dk,NamQ (K+1) r.2.2→r.2.1≤K+1→NamQ (K+1) (keepR ws x r).2.2∧(keepR ws x r).2.1.n≤K+1:=by
  intro r h1 h2;unfold keepR;split
  ·exact ⟨h1,h2⟩
  ·exact ⟨h1,by dsimp only;omega⟩
 split
 ·exact ⟨h.up,by dsimp only;omega⟩
 split
 ·exact ⟨h.up,by dsimp only;omega⟩
 split
 ·exact ⟨h.up,by dsimp only;omega⟩
 split
 ·exact key _ (h.writes hn _).up (by dsimp only;omega)
 split
 ·exact ⟨h.up,by dsimp only;omega⟩
 ·obtain ⟨h1,h2⟩:=h.lay pi hn x;exact key _ h1 h2
end
theorem saveR_down {d:Dk} {ws:Wl} {h:Hrd} (hr:rightH h=true) (hd:ws.down=false) (hn:ws.n<99999999999999):(saveR d ws h).2.1.down=decide ((saveR d ws h).1≠0):=by
 have key:∀ r:Int×Nat×Dk,(keepR ws h r).2.1.down=decide ((keepR ws h r).1≠0):=by
  intro r;unfold keepR
  by_cases e:r.1=0
  ·rw [if_pos e];rfl
  ·rw [if_neg e];exact (decide_eq_true e).symm
 unfold saveR;rw [if_neg (by rw [hr];simp),if_neg (by rw [hd];simp)]
 split
 ·exact hd
 split
 ·exact key _
 rw [if_neg (by omega)];exact key _
structure AlkS (a:Sto) (b:Wl) (sn:ByteArray):Prop where
 h:a.w.h=b.h
 snap:a.snap=sn
 down:a.down=b.down
 al:a.down=false→Alk a.w b
theorem allP_eqQ (d:Dk) (s:Sto) (h:Hrd) {E1:Int} {d1:Dk} (hp:(if wantsP s h then writeP d h else (0,d))=(E1,d1)) {E2:Int} {ws':Wl} {d2:Dk} (hq:saveW d1 s.w h=(E2,ws',d2)) {E3:Int} {d3:Dk} (hc:cleanP d2 h.base.toNat=(E3,d3)) :
 allP d s h=if E1≠0 then (E1,s,d1) else if E2≠0 then (E2,⟨ws',s.snap,s.down⟩,d2) else if h.base=s.w.h.base∧eqS h.snap s.snap=true then (0,⟨ws',h.snap,s.down⟩,d2) else (E3,⟨ws',h.snap,s.down⟩,d3):=by
 unfold allP;rw [hp];dsimp only;rw [hq];dsimp only;rw [hc]
theorem AlkS.saved {a a':Sto} {b b':Wl} {sn sn':ByteArray} {d da db:Dk} {h:Hrd} {Ea Eb:Int} {K m:Nat} (k:AlkS a b sn) (hs:b.h.snap=sNone) (pi:PInv m d) (hK:NamQ K d) (hn:b.n≤K) (hK2:K<99999999999999) (ha:saveP d a h=(Ea,a',da)) (hb:saveQ d b sn h=(Eb,b',sn',db)) :
 Ea=Eb∧da=db∧AlkS a' b' sn'∧b'.h.snap=sNone∧NamQ (K+1) db∧b'.n≤K+1:=by
 obtain ⟨k1,k2,k3,k4⟩:=k;obtain ⟨E1,d1,hp⟩:∃ E1 d1,(if wantsP ⟨b,sn,false⟩ h then writeP d h else (0,d))=(E1,d1):=⟨_,_,rfl⟩;have hwp:wantsP a h=wantsP ⟨b,sn,false⟩ h:=by unfold wantsP;rw [k1,k2]
 have hpa:(if wantsP a h then writeP d h else (0,d))=(E1,d1):=by rw [hwp];exact hp
 have pi1:PInv (m+1) d1:=by
  have hh:PInv (m+1) (if wantsP ⟨b,sn,false⟩ h then writeP d h else (0,d)).2:=by
   split
   ·exact pi.writeP h
   ·exact pi.up
  rw [hp] at hh;exact hh
 have hK1:NamQ K d1:=by
  have hh:NamQ K (if wantsP ⟨b,sn,false⟩ h then writeP d h else (0,d)).2:=by
   split
   ·exact hK.write pi h
   ·exact hK
  rw [hp] at hh;exact hh
 obtain ⟨E2,wA,dA,hsa⟩:∃ E2 wA dA,saveW d1 a.w h=(E2,wA,dA):=⟨_,_,_,rfl⟩;obtain ⟨F2,wB,dB,hsb⟩:∃ F2 wB dB,saveR d1 b h=(F2,wB,dB):=⟨_,_,_,rfl⟩;obtain ⟨E3,d3,hc⟩:∃ E3 d3,cleanP dB h.base.toNat=(E3,d3):=⟨_,_,rfl⟩;have hQ:=hb.symm.trans (saveQ_eq d b sn h hp hsb hc);unfold saveP at ha
 by_cases hr:rightH h=false
 ·rw [if_pos hr] at ha hQ;simp only [Prod.mk.injEq] at ha hQ
  obtain ⟨rfl,rfl,rfl⟩:=ha;obtain ⟨rfl,rfl,rfl,rfl⟩:=hQ;exact ⟨rfl,rfl,⟨k1,k2,k3,k4⟩,hs,hK.up,by omega⟩
 rw [if_neg hr] at ha hQ
 by_cases hd:b.down=true
 ·rw [if_pos (by rw [k3];exact hd)] at ha;rw [if_pos hd] at hQ;simp only [Prod.mk.injEq] at ha hQ
  obtain ⟨rfl,rfl,rfl⟩:=ha;obtain ⟨rfl,rfl,rfl,rfl⟩:=hQ;exact ⟨rfl,rfl,⟨k1,k2,k3,k4⟩,hs,hK.up,by omega⟩
 have hdb:b.down=false:=by simpa using hd
 have hda:a.down=false:=k3.trans hdb;rw [if_neg (by rw [hda];simp)] at ha;rw [if_neg hd] at hQ;obtain ⟨e1,e2,al,sn2⟩:=(k4 hda).saved hsa hsb hs;subst e1;subst e2;have hdn:=saveR_down (d:=d1) (ws:=b) (h:=h) (by simpa using hr) hdb (by omega);rw [hsb] at hdn;dsimp only at hdn;have hNK:=hK1.saveR pi1 hn h;rw [hsb] at hNK;obtain ⟨n1,n2⟩:=hNK;dsimp only at n1 n2;have pi2:PInv (m+2) dA:=by have h1:=pi1.save a.w h;rw [hsa] at h1;exact h1
 rw [allP_eqQ d a h hpa hsa hc] at ha;dsimp only at ha
 by_cases h1:E1=0
 case neg =>
  rw [if_pos h1] at ha hQ;simp only [Prod.mk.injEq] at ha hQ
  obtain ⟨rfl,rfl,rfl⟩:=ha;obtain ⟨rfl,rfl,rfl,rfl⟩:=hQ;exact ⟨rfl,rfl,⟨k1,k2,by dsimp only;exact decide_eq_true h1,fun q=>by dsimp only at q;rw [decide_eq_true h1] at q;cases q⟩,hs,hK1.up,by dsimp only;omega⟩
 rw [if_neg (fun q=>q h1)] at ha hQ
 by_cases h2:E2=0
 case neg =>
  rw [if_pos h2] at ha hQ;simp only [Prod.mk.injEq] at ha hQ
  obtain ⟨rfl,rfl,rfl⟩:=ha;obtain ⟨rfl,rfl,rfl,rfl⟩:=hQ;exact ⟨rfl,rfl,⟨al.h,k2,hdn.symm,fun q=>by dsimp only at q;rw [decide_eq_true h2] at q;cases q⟩,sn2,n1,n2⟩
 rw [if_neg (fun q=>q h2)] at ha hQ;have hdn0:wB.down=false:=hdn.trans (decide_eq_false (fun q=>q h2));have hcond:(h.base=a.w.h.base∧eqS h.snap a.snap=true)↔(h.base=b.h.base∧eqS h.snap sn=true):=by rw [k1,k2]
 by_cases h3:h.base=b.h.base∧eqS h.snap sn=true
 ·rw [if_pos (hcond.2 h3)] at ha;rw [if_pos h3] at hQ;simp only [Prod.mk.injEq] at ha hQ
  obtain ⟨rfl,rfl,rfl⟩:=ha;obtain ⟨rfl,rfl,rfl,rfl⟩:=hQ;exact ⟨rfl,rfl,⟨al.h,(eqS_iff _ _).1 h3.2,hdn0.symm,fun _=>al⟩,sn2,n1,n2⟩
 ·rw [if_neg (fun q=>h3 (hcond.1 q))] at ha;rw [if_neg h3] at hQ;have n3:NamQ (K+1) d3:=by have:=n1.cleanP pi2 h.base.toNat;rw [hc] at this;exact this
  by_cases h4:E3=0
  ·rw [if_pos h4] at hQ;simp only [Prod.mk.injEq] at ha hQ
   obtain ⟨rfl,rfl,rfl⟩:=ha;obtain ⟨rfl,rfl,rfl,rfl⟩:=hQ;exact ⟨rfl,rfl,⟨al.h,rfl,by dsimp only;rw [decide_eq_false (fun q=>q h4)];exact hdn0.symm,fun _=>al⟩,sn2,n3,n2⟩
  ·rw [if_neg h4] at hQ;simp only [Prod.mk.injEq] at ha hQ
   obtain ⟨rfl,rfl,rfl⟩:=ha;obtain ⟨rfl,rfl,rfl,rfl⟩:=hQ;exact ⟨rfl,rfl,⟨al.h,rfl,by dsimp only;exact decide_eq_true h4,fun q=>by dsimp only at q;rw [decide_eq_true h4] at q;cases q⟩,sn2,n3,n2⟩
end
section
open Go Go.RowKit Go.PlainAid
def hp1:Hrd:=⟨1,0,3,1,7,⟨#[97,98,99]⟩,[]⟩
def hp2:Hrd:=⟨1,0,5,1,7,⟨#[100,101]⟩,[]⟩
def hp3:Hrd:=⟨0,0,0,0,7,⟨#[120]⟩,[]⟩
def sP3:ByteArray:=⟨#[115,110,97,112,46,51]⟩
def sP5:ByteArray:=⟨#[115,110,97,112,46,53]⟩
def st0:Sto:=⟨wr0,ofBytes [],false⟩
theorem tp0:openP dk0=(0,some st0,dk0):=by kernel_rfl
def sp1:Int×Sto×Dk:=saveP dk0 st0 hp1
theorem tp1e:saveP dk0 st0 hp1=(0,sp1.2.1,sp1.2.2):=Prod.ext (show sp1.1=0 by kernel_rfl) rfl
theorem tp1n:sp1.2.2.fs.map (·.name)=[sP3,sW1]:=by kernel_rfl
def sp2:Int×Sto×Dk:=saveP sp1.2.2 sp1.2.1 hp2
theorem tp2e:saveP sp1.2.2 sp1.2.1 hp2=(0,sp2.2.1,sp2.2.2):=Prod.ext (show sp2.1=0 by kernel_rfl) rfl
def st2:Sto:=⟨⟨2,bareOf hp2,false⟩,ofBytes [100,101],false⟩
def dp3:Dk:=(openP sp2.2.2).2.2
theorem tp3e:openP sp2.2.2=(0,some st2,dp3):=Prod.ext (show (openP sp2.2.2).1=0 by kernel_rfl) (Prod.ext (show (openP sp2.2.2).2.1=some st2 by kernel_rfl) rfl)
theorem tp3n:dp3.fs.map (·.name)=[sP5,sW2]:=by kernel_rfl
def sp4:Int×Sto×Dk:=saveP dp3 st2 hp3
theorem tp4e:saveP dp3 st2 hp3=(1,sp4.2.1,sp4.2.2):=Prod.ext (show sp4.1=1 by kernel_rfl) rfl
def sp5:Int×Dk:=removeD sp4.2.2 sP5
theorem tp5e:removeD sp4.2.2 sP5=(0,sp5.2):=Prod.ext (show sp5.1=0 by kernel_rfl) rfl
def sp6:Int×Option Sto×Dk:=openP sp5.2
theorem tp6e:openP sp5.2=(4,none,sp6.2.2):=Prod.ext (show sp6.1=4 by kernel_rfl) (Prod.ext (show sp6.2.1=none by kernel_rfl) rfl)
theorem pp1:PInv 2 sp1.2.2:=PInv.zero.saveP _ _
theorem pp2:PInv 4 sp2.2.2:=pp1.saveP _ _
theorem pp3:PInv 4 dp3:=pp2.openP
theorem pp4:PInv 6 sp4.2.2:=pp3.saveP _ _
theorem pp5:PInv 6 sp5.2:=pp4.remove0 _
end
end Go.Proofs.YtgpgcnmnfnnkjaaGreatDoor
