import Derived.Test.YtgpgcnmnfnnkjaaGreatDoorGStorePlays39
set_option linter.unusedVariables false
set_option linter.unusedSimpArgs false
set_option maxRecDepth 100000
set_option maxHeartbeats 16000000
namespace Go.Proofs.YtgpgcnmnfnnkjaaGreatDoor
section
open Go Go.RowKit Go.PlainAid BigFrame
attribute [local go_sem] After.same
theorem Chg.gxB {w0 w w':World} {X:Nat→Prop} (h:Chg (Gx w0 X) w w') (hs:w0.heap.size≤w.heap.size):Below w0.heap.size w w':=h.below (fun _ hk=>hk.1) hs
theorem Rd.chgF {α:Type} {E:Enc α} {G:Nat→Prop} {w w':World} {v:Value} {l:List α} (h:Rd E w v l) (hc:Chg G w w') (hv:l≠[]→∀ k,v.ownBlock=some k→¬ G k):Rd E w' v l :=
 hc.cellsE E.pos h fun hne=>hv fun e=>hne (by rw [e];rfl)
def WroteP (w0 w:World) (X:Nat→Prop) (g gs gw:Nat) (v:Value) (st:Sto) (E:Int) (d':Dk) (e:Ending) (w':World):Prop:=e=.returned (.int .i64 E)∧DwS w0 X g d' w'∧StoV w' X g gs gw v st∧Chg (Gx w0 X) w w'
theorem stoWrite {w0 w:World} {X:Nat→Prop} {g gs gw:Nat} {d d':Dk} {v:Value} {st:Sto} (T0:∀ z,Below w0.heap.size w0 z→TabW z) (hd:DwS w0 X g d w) (hb0:Below w0.heap.size w0 w) {m:Nat} (pi:PInv m d) (hm:m≤890) (hs:StoV w X g gs gw v st) (h:Hrd) (u:Value) (hu:Rd etyE w u h.log) (hux:h.log≠[]→∀ k,u.ownBlock=some k→k<w0.heap.size∨X k)
 (hib0:0≤h.base) (hib1:h.base≤1099511627776) (hibt:In64 h.bterm) (hime:In64 h.members) (hsz:h.snap.size≤1000000) {E:Int} (he:writeP d h=(E,d')) :
 Calls Tryz.prog 113 #[.pointer (some ⟨gs,0,none⟩),hrdA h u] w (WroteP w0 w X g gs gw v st E d'):=by
 obtain ⟨p,cap,rfl⟩:=hu.shape;have hiba:In64 h.base:=⟨by omega,by omega⟩;replace hsz:h.snap.size≤1000000000:=by omega
 have ca:=below_alloc w (.cells #[.int .i64 h.term,.int .i64 h.vote,.int .i64 h.base,.int .i64 h.bterm,.int .i64 h.members,.string h.snap,.slice p h.log.length cap] 24);have ka:=Blk.new w #[.int .i64 h.term,.int .i64 h.vote,.int .i64 h.base,.int .i64 h.bterm,.int .i64 h.members,.string h.snap,.slice p h.log.length cap] 24;obtain ⟨X1,hX1⟩:∃ X1:Nat→Prop,X1=fun k=>X k∨k=w.heap.size:=⟨_,rfl⟩;have hdA:DwS w0 X1 g d (w.alloc (.cells #[.int .i64 h.term,.int .i64 h.vote,.int .i64 h.base,.int .i64 h.bterm,.int .i64 h.members,.string h.snap,.slice p h.log.length cap] 24)):=by rw [hX1];exact hd.alloc _
 have hx1:∀ k,X k→X1 k:=fun k hk=>by rw [hX1];exact .inl hk
 have hxH:X1 w.heap.size:=by rw [hX1];exact .inr rfl
 have hx1r:∀ k,X1 k→X k∨k=w.heap.size:=fun k hk=>by rw [hX1] at hk;exact hk
 clear hX1;have hsA:=hs.ext ca;have chA:Chg (Gx w0 X1) w (w.alloc (.cells #[.int .i64 h.term,.int .i64 h.vote,.int .i64 h.base,.int .i64 h.bterm,.int .i64 h.members,.string h.snap,.slice p h.log.length cap] 24)):=.of_below ca;have hs0:=hb0.size;have hmono:∀ {z z':World},Chg (Gx w0 X1) z z'→Chg (Gx w0 X) z z':=fun c=>c.mono fun k _ q=>⟨q.1,fun hx=>q.2 (hx1 k hx)⟩;have hufar:h.log≠[]→∀ j,(Value.slice p h.log.length cap).ownBlock=some j→¬ Gx w0 X1 j:=fun hne j hj q=>by
  rcases hux hne j hj with e | e
  ·have:=q.1;omega
  ·exact q.2 (hx1 j e)
 have hrd:writeP d h=thenD (if (readD d freshS).isSome then removeD d freshS else (0,d)) fun d =>
  thenD (appendD d freshS (snapB h)) fun d=>thenD (syncD d freshS) fun d=>renameD d freshS (nameP h.base.toNat):=rfl
 have Hwr:=Lib.hid (he.symm.trans hrd);clear he hrd;go_enter Tryz.func113,Tryz.ntmps113
 have q0:=hsA.c0;go_wp2_with fail
 refine (lRead hdA (pi.ok (by omega)) freshS rfl).mono ?_;rintro e w1 ⟨⟨r1,rfl,_⟩,b1⟩;have hd1:=hdA.ext b1;have hs1:=hsA.ext b1;have ka1:=ka.ext b1;have ch1:=chA.step (.of_below b1);clear hdA hsA ka chA q0;generalize (readD d freshS).isSome=there at *;generalize w.alloc (.cells #[.int .i64 h.term,.int .i64 h.vote,.int .i64 h.base,.int .i64 h.bterm,.int .i64 h.members,.string h.snap,.slice p h.log.length cap] 24)=wA at *;go_upto_if 18 with (fail)
 go_cut [] from 7 (fun wi=>∃ d1,Hid ((E,d')=thenD (appendD d1 freshS (snapB h)) fun d=>thenD (syncD d freshS) fun d=>renameD d freshS (nameP h.base.toNat))∧PInv m d1∧DwS w0 X1 g d1 wi∧StoV wi X g gs gw v st∧Blk wi w.heap.size #[.int .i64 h.term,.int .i64 h.vote,.int .i64 h.base,.int .i64 h.bterm,.int .i64 h.members,.string h.snap,.slice p h.log.length cap] 24∧Chg (Gx w0 X1) w wi)
 case first =>
  cases there with
  | false =>
   go_wp2_with fail
   go_meet
   exact ⟨d,Hwr,pi,hd1,hs1,ka1,ch1⟩
  | true =>
   obtain ⟨E1,d1,hrm⟩:∃ E1 d1,removeD d freshS=(E1,d1):=⟨_,_,rfl⟩;have hw1:=Hwr.out;rw [if_pos rfl,hrm] at hw1;have pi1:PInv m d1:=by have:=pi.remove0 freshS;rw [hrm] at this;exact this
   have q0:=hs1.c0;clear Hwr;go_wp2_with fail
   refine (lRemove hd1 (pi.ok (by omega)) hrm).mono ?_;rintro e w2 ⟨rfl,hd2,ch2⟩;have hs2:=hs1.chg (w':=w2) ch2 (fun k hk q=>q.2 (hx1 k hk));have ka2:=ch2.blk ka1 (fun q=>q.2 hxH);have ch02:=ch1.step ch2
   by_cases hE:E1=0
   ·subst hE;have Hw1:=Lib.hid hw1;clear hw1;go_wp2_with fail
    go_meet
    exact ⟨d1,Hw1,pi1,hd2,hs2,ka2,ch02⟩
   ·have hne:(E1 !=0)=true:=by simpa using hE
    unfold thenD at hw1;rw [if_neg hE] at hw1
    cases hw1
    go_wp2_with fail
    go_ret
    exact ⟨rfl,hd2.mono hx1,hs2,hmono ch02⟩
 case rest =>
 obtain ⟨d3,Hw2,pi3,hd3,hs3,ka3,ch3⟩:=hcut;obtain ⟨w3,hw3⟩:∃ z,z=wc:=⟨_,rfl⟩;subst hw3;clear hd1 hs1 ka1 ch1 Hwr b1 ca hs hd;obtain ⟨E4,d4,ha⟩:∃ E4 d4,appendD d3 freshS (snapB h)=(E4,d4):=⟨_,_,rfl⟩;have hw2:=Hw2.out;rw [ha] at hw2;have pi5:PInv (m+1) d4:=by have:=pi3.append freshS (snapB h);rw [ha] at this;exact this
 have Hw2':=Lib.hid hw2;clear hw2 Hw2;go_wp2_with fail
 refine wp_region_F (n:=7) (S:=fun w':World=>w'.cell? ⟨gs,0,none⟩=some (.pointer (some ⟨g,0,none⟩))∧w'.cell? ⟨w.heap.size,0,none⟩=some (.int .i64 h.term)∧w'.cell? ⟨w.heap.size,1,none⟩=some (.int .i64 h.vote)∧w'.cell? ⟨w.heap.size,2,none⟩=some (.int .i64 h.base)∧w'.cell? ⟨w.heap.size,3,none⟩=some (.int .i64 h.bterm)∧w'.cell? ⟨w.heap.size,4,none⟩=some (.int .i64 h.members)∧w'.cell? ⟨w.heap.size,5,none⟩=some (.string h.snap)∧w'.cell? ⟨w.heap.size,6,none⟩=some (.slice p h.log.length cap)) (by kernel_rfl) ?_;have hs3d:=hs3.ext (below_drew _ _);have ka3d:=ka3.drew
 have hHeld:(fun w':World=>w'.cell? ⟨gs,0,none⟩=some (.pointer (some ⟨g,0,none⟩))∧w'.cell? ⟨w.heap.size,0,none⟩=some (.int .i64 h.term)∧w'.cell? ⟨w.heap.size,1,none⟩=some (.int .i64 h.vote)∧w'.cell? ⟨w.heap.size,2,none⟩=some (.int .i64 h.base)∧w'.cell? ⟨w.heap.size,3,none⟩=some (.int .i64 h.bterm)∧w'.cell? ⟨w.heap.size,4,none⟩=some (.int .i64 h.members)∧w'.cell? ⟨w.heap.size,5,none⟩=some (.string h.snap)∧w'.cell? ⟨w.heap.size,6,none⟩=some (.slice p h.log.length cap)) w3.drew:=⟨hs3d.c0,ka3d.cell 0 _ rfl,ka3d.cell 1 _ rfl,ka3d.cell 2 _ rfl,ka3d.cell 3 _ rfl,ka3d.cell 4 _ rfl,ka3d.cell 5 _ rfl,ka3d.cell 6 _ rfl⟩
 refine tk ?_ 0 ?_ hHeld ?_;rotate_left
 ·rintro w ⟨_,_,_,_,_,_,_,_⟩;dsimp only [bare];go_simp<;>with_reducible rfl
 try simp only [lyB,lyP,lyA,lyZ,lyS]
 refine tk ?_ 1 ?_ hHeld ?_;rotate_left
 ·rintro w ⟨_,_,_,_,_,_,_,_⟩;dsimp only [bare];go_simp<;>with_reducible rfl
 try simp only [lyB,lyP,lyA,lyZ,lyS]
 refine tk ?_ 2 ?_ hHeld ?_;rotate_left
 ·rintro w ⟨_,_,_,_,_,_,_,_⟩;dsimp only [bare];go_simp<;>with_reducible rfl
 try simp only [lyB,lyP,lyA,lyZ,lyS]
 refine tk ?_ 3 ?_ hHeld ?_;rotate_left
 ·rintro w ⟨_,_,_,_,_,_,_,_⟩;dsimp only [bare];go_simp<;>with_reducible rfl
 try simp only [lyB,lyP,lyA,lyZ,lyS]
 refine tk ?_ 4 ?_ hHeld ?_;rotate_left
 ·rintro w ⟨_,_,_,_,_,_,_,_⟩;dsimp only [bare];go_simp<;>with_reducible rfl
 try simp only [lyB,lyP,lyA,lyZ,lyS]
 refine wpAnyF_one 5 _ _ _ rfl (by kernel_rfl) (fun K hK=>?_);dsimp only [bare];go_simp;refine (stoBytes h _ w3.drew (hu.chgF ch3.drew hufar) hiba hibt hime hsz).mono ?_;rintro e w4 ⟨r,rfl,own4,b4⟩;dsimp only;have bE:Below w3.heap.size w3 w4:=(below_drew _ _).trans b4;have ka4:=ka3.ext bE;have hs4:=hs3.ext bE;refine hK _ _ ⟨hs4.c0,ka4.cell 0 _ rfl,ka4.cell 1 _ rfl,ka4.cell 2 _ rfl,ka4.cell 3 _ rfl,ka4.cell 4 _ rfl,ka4.cell 5 _ rfl,ka4.cell 6 _ rfl⟩ (fun hHeld=>?_);clear hK K
 try simp only [lyB,lyP,lyA,lyZ,lyS]
 refine wpAnyF_one 6 _ _ _ rfl (by kernel_rfl) (fun K hK=>?_);dsimp only [bare];go_simp;obtain ⟨pr,cr,rfl⟩:=own4.bytes.shape;have hd4:=hd3.more (Y:=fun k=>X1 k∨(Value.slice pr (snapB h).length cr).ownBlock=some k) bE (fun k hk=>hk.imp id (fun e=>⟨(own4.lt k e).1,(own4.lt k e).2⟩));refine (lAppend hd4 (pi3.ok (by omega)) ha (by decide) own4.bytes (fun _ k hk=>.inr (.inr hk))).mono ?_;rintro e w5 ⟨rfl,hd5,ch5⟩;dsimp only;have ka5:=ch5.blk ka4 (fun q=>q.2 (.inl hxH));have hs5:=hs4.chg (w':=w5) ch5 (fun k hk q=>q.2 (.inl (hx1 k hk)));have hd5':=hd5.mono (Y:=X1) (fun k hk=>.inl hk)
 have ch05:Chg (Gx w0 X1) w w5:=(ch3.step (.of_below bE)).step (ch5.mono fun k _ q=>⟨q.1,fun hx=>q.2 (.inl hx)⟩);refine hK _ _ ⟨hs5.c0,ka5.cell 0 _ rfl,ka5.cell 1 _ rfl,ka5.cell 2 _ rfl,ka5.cell 3 _ rfl,ka5.cell 4 _ rfl,ka5.cell 5 _ rfl,ka5.cell 6 _ rfl⟩ (fun hHeld=>?_);clear hK K
 try simp only [lyB,lyP,lyA,lyZ,lyS]
 refine wpAnyF_end (some 8) (Op.assign (Operand.tmp 33)) 42 rfl (by kernel_rfl) (by kernel_rfl) (fun K hK=>?_);dsimp only [bare];go_simp;refine hK _ _ ?_;clear hK K
 try simp only [lyB,lyP,lyA,lyZ,lyS]
 have hw2:=Hw2'.out;unfold thenD at hw2
 by_cases hE:E4=0
 ·subst hE;rw [if_pos rfl] at hw2;obtain ⟨E5,d5,hsy⟩:∃ E5 d5,syncD d4 freshS=(E5,d5):=⟨_,_,rfl⟩;dsimp only at hw2;rw [hsy] at hw2;have pi6:PInv (m+1) d5:=by have:=pi5.sync0 freshS;rw [hsy] at this;exact this
  have Hw3:=Lib.hid hw2;clear hw2 Hw2';have q0:=hs5.c0;go_wp2_with fail
  refine (lSync hd5' (pi5.ok (by omega)) hsy).mono ?_;rintro e w6 ⟨rfl,hd6,ch6⟩;have hs6:=hs5.chg (w':=w6) ch6 (fun k hk q=>q.2 (hx1 k hk));have ka6:=ch6.blk ka5 (fun q=>q.2 hxH);have ch06:=ch05.step ch6;clear q0 hd5 hd5' hs5 ka5 ch05 hs4 ka4 hd4;replace pi5:=pi6;have hw3:=Hw3.out
  by_cases hE2:E5=0
  ·subst hE2;rw [if_pos rfl] at hw3;clear Hw3;go_wp2_with fail
   refine wp_region_F (n:=8) (S:=fun w':World=>w'.cell? ⟨gs,0,none⟩=some (.pointer (some ⟨g,0,none⟩))∧w'.cell? ⟨w.heap.size,2,none⟩=some (.int .i64 h.base)) (by kernel_rfl) ?_;have hs6d:=hs6.ext (below_drew _ _);have ka6d:=ka6.drew;have hHeld:(fun w':World=>w'.cell? ⟨gs,0,none⟩=some (.pointer (some ⟨g,0,none⟩))∧w'.cell? ⟨w.heap.size,2,none⟩=some (.int .i64 h.base)) w6.drew:=⟨hs6d.c0,ka6d.cell 2 _ rfl⟩;refine tk ?_ 0 ?_ hHeld ?_;rotate_left
   ·rintro w ⟨_,_⟩;dsimp only [bare];go_simp<;>with_reducible rfl
   try simp only [lyB,lyP,lyA,lyZ,lyS]
   refine tk ?_ 1 ?_ hHeld ?_;rotate_left
   ·rintro w ⟨_,_⟩;dsimp only [bare];go_simp<;>with_reducible rfl
   try simp only [lyB,lyP,lyA,lyZ,lyS]
   refine tk ?_ 2 ?_ hHeld ?_;rotate_left
   ·rintro w ⟨_,_⟩;dsimp only [bare];go_simp<;>with_reducible rfl
   try simp only [lyB,lyP,lyA,lyZ,lyS]
   refine tk ?_ 3 ?_ hHeld ?_;rotate_left
   ·rintro w ⟨_,_⟩;dsimp only [bare];go_simp<;>with_reducible rfl
   try simp only [lyB,lyP,lyA,lyZ,lyS]
   refine tk ?_ 4 ?_ hHeld ?_;rotate_left
   ·rintro w ⟨_,_⟩;dsimp only [bare];go_simp<;>with_reducible rfl
   try simp only [lyB,lyP,lyA,lyZ,lyS]
   refine tk ?_ 5 ?_ hHeld ?_;rotate_left
   ·rintro w ⟨_,_⟩;dsimp only [bare];go_simp<;>with_reducible rfl
   try simp only [lyB,lyP,lyA,lyZ,lyS]
   refine wpAnyF_one 6 _ _ _ rfl (by kernel_rfl) (fun K hK=>?_);dsimp only [bare];go_simp;refine (stoNamed h.base.toNat _ (by omega) (by omega) w6.drew (T0 _ (hb0.trans ((ch06.gxB hb0.size).drew.mono (Nat.le_refl _))))).mono ?_;rintro e w7 ⟨rfl,b7⟩;dsimp only;have bE7:Below w6.heap.size w6 w7:=(below_drew _ _).trans b7;have ka7:=ka6.ext bE7;have hs7:=hs6.ext bE7;have hd7:=hd6.ext bE7;refine hK _ _ ⟨hs7.c0,ka7.cell 2 _ rfl⟩ (fun hHeld=>?_);clear hK K
   try simp only [lyB,lyP,lyA,lyZ,lyS]
   refine wpAnyF_one 7 _ _ _ rfl (by kernel_rfl) (fun K hK=>?_);dsimp only [bare];go_simp;refine (lRename hd7 (pi5.ok (by omega)) hw3.symm (by have:=nameP_few (n:=h.base.toNat) (by omega);omega)).mono ?_;rintro e w8 ⟨rfl,hd8,ch8⟩;dsimp only;have ka8:=ch8.blk ka7 (fun q=>q.2 hxH);have hs8:=hs7.chg (w':=w8) ch8 (fun k hk q=>q.2 (hx1 k hk));have ch08:Chg (Gx w0 X1) w w8:=(ch06.step (.of_below bE7)).step ch8;refine hK _ _ ⟨hs8.c0,ka8.cell 2 _ rfl⟩ (fun hHeld=>?_);clear hK K
   try simp only [lyB,lyP,lyA,lyZ,lyS]
   refine wpAnyF_end (some 4) (Op.assign (Operand.tmp 52)) 42 rfl (by kernel_rfl) (by kernel_rfl) (fun K hK=>?_);dsimp only [bare];go_simp;refine hK _ _ ?_;clear hK K
   try simp only [lyB,lyP,lyA,lyZ,lyS]
   go_wp2_with fail
   go_ret
   exact ⟨rfl,hd8.mono hx1,hs8,hmono ch08⟩
  ·have hne:(E5 !=0)=true:=by simpa using hE2
   rw [if_neg hE2] at hw3
   cases hw3
   go_wp2_with fail
   go_ret
   exact ⟨rfl,hd6.mono hx1,hs6,hmono ch06⟩
 ·have hne:(E4 !=0)=true:=by simpa using hE
  rw [if_neg hE] at hw2
  cases hw2
  go_wp2_with fail
  go_ret
  exact ⟨rfl,hd5'.mono hx1,hs5,hmono ch05⟩
end
section
open Go Go.RowKit Go.PlainAid
theorem Frm.at_end (b:List UInt8) (a:Nat):Frm.errAt (b.take a) a≠0:=by
 unfold Frm.errAt
 split
 ·decide
 ·rw [Int.toNat_natCast,List.drop_of_length_le (by rw [List.length_take];omega)];decide
theorem pickW_cases (d:Dk):∀ l:List Nat,pickW d l=none∨∃ k ∈ l,pickW d l=some (k,readSeg (fileW d k))∧(readSeg (fileW d k)).whole=true
 | []=>.inl rfl
 | k::r=>by
  rw [show pickW d (k::r)=if (readSeg (fileW d k)).whole then some (k,readSeg (fileW d k)) else pickW d r from rfl]
  cases hw:(readSeg (fileW d k)).whole with
  | true=>rw [if_pos rfl];exact .inr ⟨k,List.mem_cons_self,rfl,hw⟩
  | false =>
   rw [if_neg (by decide)]
   rcases pickW_cases d r with h | ⟨a,ha,h⟩
   ·exact .inl h
   ·exact .inr ⟨a,List.mem_cons_of_mem _ ha,h⟩
theorem pickN_cases (d:Dk):pickN d=(0,sg0)∨∃ n f,okN n∧getF d.fs (nameW n)=some f∧pickN d=(n,readSeg f.data)∧(readSeg f.data).whole=true:=by
 have e:pickN d=(pickW d (segsD d).reverse).getD (0,sg0):=rfl
 rcases pickW_cases d (segsD d).reverse with h | ⟨k,hk,h1,h2⟩
 ·exact .inl (by rw [e,h];rfl)
 ·obtain ⟨k1,k2⟩:=(segs_iff d k).1 (List.mem_reverse.1 hk)
  cases hf:getF d.fs (nameW k) with
  | none=>exact absurd hf k2
  | some f =>
   have hd:=fileW_some hf;refine .inr ⟨k,f,k1,hf,?_,?_⟩
   ·rw [e,h1,hd];rfl
   ·rw [←hd];exact h2
end
section
open Go Go.RowKit Go.PlainAid BigFrame
attribute [local go_sem] After.same
theorem open_base {d:Dk} {ws:Wl} (h:openW d=some ws):0≤ws.h.base∧ws.h.base≤1099511627776:=by
 unfold openW at h
 split at h
 ·cases h
  show 0≤(openH d).base∧(openH d).base≤_
  unfold openH
  rcases pickN_cases d with e | ⟨n,f,hn,_,e,hw⟩
  ·rw [e,if_pos rfl];exact ⟨by decide,by decide⟩
  ·rw [e,if_neg (by have:=hn.1;dsimp only;omega)];have ok:=readSeg_ok f.data;obtain ⟨⟨a1,a2,a3,a4,a5,a6,a7,a8,_⟩,_⟩:=(bareH_all _).1 (ok.bare (ok.wh hw));exact ⟨a7,a8⟩
 ·cases h
def OpenedP (w0 w:World) (X:Nat→Prop) (g:Nat) (d':Dk) (E:Int) (o:Option Sto) (e:Ending) (w':World):Prop :=
 (match o with
 | none=>E≠0∧e=.returned (.tuple #[.pointer none,.int .i64 E])
 | some st=>∃ gs gw v X',e=.returned (.tuple #[.pointer (some ⟨gs,0,none⟩),.int .i64 0])∧w.heap.size≤gs∧w.heap.size≤gw∧(∀ k,X k→X' k)∧(∀ k,X' k→X k∨w.heap.size≤k)∧DwS w0 X' g d' w'∧StoV w' X' g gs gw v st∧∀ k,v.ownBlock=some k→w.heap.size≤k)
 ∧ DwS w0 X g d' w'∧Chg (Gx w0 X) w w'
theorem OpenedP.no {w0 w wi:World} {X Y:Nat→Prop} {g:Nat} {d':Dk} {E:Int} (hE:E≠0) (hY:∀ k,X k→Y k) (hd:DwS w0 Y g d' wi) (hc:Chg (Gx w0 X) w wi):OpenedP w0 w X g d' E none (.returned (.tuple #[.pointer none,.int .i64 E])) wi :=
 ⟨⟨hE,rfl⟩,hd.mono hY,hc⟩
theorem stoOpenNil (w:World):Calls Tryz.prog 30 #[.pointer none] w fun e w'=>e=.returned (.tuple #[.pointer none,.int .i64 1])∧w=w':=by
 go_enter Tryz.func30,Tryz.ntmps30
 go_wp2_with fail
 refine (walOpenNil w).mono ?_;rintro e w' ⟨rfl,rfl⟩;go_wp2_with fail
 refine bodyPost_ret (v:=.tuple #[.pointer none,.int .i64 1]) (by simp [results,Tryz.results30,go_sem]) rfl ?_;exact ⟨rfl,rfl⟩
theorem stoOpen {w0 w:World} {X:Nat→Prop} {g:Nat} {d d':Dk} (T0:∀ z,Below w0.heap.size w0 z→TabW z) (hd:DwS w0 X g d w) (hb0:Below w0.heap.size w0 w) {m:Nat} (pi:PInv m d) (hm:m≤300) {E:Int} {o:Option Sto} (he:openP d=(E,o,d')) :
 Calls Tryz.prog 30 #[.pointer (some ⟨g,0,none⟩)] w (OpenedP w0 w X g d' E o):=by
 have hcall:=walOpen T0 hd hb0 pi hm;unfold OpenedW at hcall;have pic:=pi.clean;have hXl:∀ k,X k→k<w.heap.size:=hd.2;have hs0:=hb0.size;have hop:openP d=match openW d with
  | none=>((cleanW d).1,none,(cleanW d).2)
  | some ws=>match snapO (cleanW d).2 ws.h with
   | none=>(4,none,(cleanW d).2)
   | some s=>if (cleanP (cleanW d).2 ws.h.base.toNat).1=0 then (0,some ⟨ws,ofBytes s,false⟩,(cleanP (cleanW d).2 ws.h.base.toNat).2)
    else ((cleanP (cleanW d).2 ws.h.base.toNat).1,none,(cleanP (cleanW d).2 ws.h.base.toNat).2):=rfl
 rw [he] at hop;have hbase:=fun ws=>open_base (d:=d) (ws:=ws);go_enter Tryz.func30,Tryz.ntmps30
 go_wp2_with fail
 refine hcall.mono ?_;rintro e w1 ⟨ho,hd1,ch1⟩;clear hcall he
 cases how:openW d with
 | none =>
  rw [how] at ho hop;obtain ⟨E1,hE1,e1,rfl⟩:=ho;dsimp only at hop;rw [←e1] at hop;simp only [Prod.mk.injEq] at hop
  obtain ⟨rfl,rfl,rfl⟩:=hop;have hi:(E !=0)=true:=by simpa using hE1
  have HE:=Lib.hid hE1;clear hE1 e1 how hbase;go_wp2_with fail
  refine bodyPost_ret (v:=.tuple #[.pointer none,.int .i64 E]) (by simp [results,Tryz.results30,go_sem]) rfl ?_;exact OpenedP.no HE.out (fun _ h=>h) hd1 ch1
 | some ws =>
  rw [how] at ho hop;obtain ⟨gw,v,X1,rfl,hgw,hx1,hx1r,hdw,hwv,hvw⟩:=ho;obtain ⟨hb1,hb2⟩:=hbase ws how;clear how hbase hd1;dsimp only at hop;generalize (cleanW d).2=d1 at *;have Hop:=Lib.hid hop;have hHB1:=Lib.hid hb1;have hHB2:=Lib.hid hb2;clear hop hb1 hb2;have hbW1:Below w0.heap.size w0 w1:=hb0.trans (ch1.gx hs0);have hsW1:=ch1.size;have hgl:=hwv.blk.lt;have caS:=below_alloc w1 (.cells #[.pointer (some ⟨g,0,none⟩),.pointer (some ⟨gw,0,none⟩),.string ⟨#[]⟩,.bool false] 111);have ksS:=Blk.new w1 #[.pointer (some ⟨g,0,none⟩),.pointer (some ⟨gw,0,none⟩),.string ⟨#[]⟩,.bool false] 111
  have hszS:(w1.alloc (.cells #[.pointer (some ⟨g,0,none⟩),.pointer (some ⟨gw,0,none⟩),.string ⟨#[]⟩,.bool false] 111)).heap.size=w1.heap.size+1:=by simp
  have hwvS:=hwv.ext caS
  have hcall:Calls Tryz.prog 21 #[.pointer (some ⟨gw,0,none⟩)] (w1.alloc (.cells #[.pointer (some ⟨g,0,none⟩),.pointer (some ⟨gw,0,none⟩),.string ⟨#[]⟩,.bool false] 111)) fun e w'=>∃ v',e=.returned (.agg #[.int .i64 ws.h.term,.int .i64 ws.h.vote,.int .i64 ws.h.base,.int .i64 ws.h.bterm,.int .i64 ws.h.members,.string ⟨#[]⟩,v'])∧OwnR etyE w' (w1.alloc (.cells #[.pointer (some ⟨g,0,none⟩),.pointer (some ⟨gw,0,none⟩),.string ⟨#[]⟩,.bool false] 111)).heap.size 73 v' ws.h.log∧Below (w1.alloc (.cells #[.pointer (some ⟨g,0,none⟩),.pointer (some ⟨gw,0,none⟩),.string ⟨#[]⟩,.bool false] 111)).heap.size (w1.alloc (.cells #[.pointer (some ⟨g,0,none⟩),.pointer (some ⟨gw,0,none⟩),.string ⟨#[]⟩,.bool false] 111)) w':=walHard hwvS
  go_wp2_with fail
  refine hcall.mono ?_;rintro e w3 ⟨v3,rfl,own3,b3⟩;clear hcall;obtain ⟨p3,c3,rfl⟩:=own3.rd.shape;have caH:=below_alloc w3 (.cells #[.int .i64 ws.h.term,.int .i64 ws.h.vote,.int .i64 ws.h.base,.int .i64 ws.h.bterm,.int .i64 ws.h.members,.string ⟨#[]⟩,.slice p3 ws.h.log.length c3] 24);have khH:=Blk.new w3 #[.int .i64 ws.h.term,.int .i64 ws.h.vote,.int .i64 ws.h.base,.int .i64 ws.h.bterm,.int .i64 ws.h.members,.string ⟨#[]⟩,.slice p3 ws.h.log.length c3] 24;have b3s:=b3.size
  have hszH:(w3.alloc (.cells #[.int .i64 ws.h.term,.int .i64 ws.h.vote,.int .i64 ws.h.base,.int .i64 ws.h.bterm,.int .i64 ws.h.members,.string ⟨#[]⟩,.slice p3 ws.h.log.length c3] 24)).heap.size=w3.heap.size+1:=by simp
  have bAll:Below w1.heap.size w1 (w3.alloc (.cells #[.int .i64 ws.h.term,.int .i64 ws.h.vote,.int .i64 ws.h.base,.int .i64 ws.h.bterm,.int .i64 ws.h.members,.string ⟨#[]⟩,.slice p3 ws.h.log.length c3] 24)):=(caS.trans (b3.mono (by omega))).trans (caH.mono (by omega));obtain ⟨X2,hX2⟩:∃ X2:Nat→Prop,X2=fun k=>X1 k∨k=w1.heap.size∨k=w3.heap.size:=⟨_,rfl⟩;have hx2:∀ k,X1 k→X2 k:=fun k hk=>by rw [hX2];exact .inl hk
  have hx2S:X2 w1.heap.size:=by rw [hX2];exact .inr (.inl rfl)
  have hx2H:X2 w3.heap.size:=by rw [hX2];exact .inr (.inr rfl)
  have hx2r:∀ k,X2 k→X k∨w.heap.size≤k:=fun k hk=>by
   rw [hX2] at hk
   rcases hk with hk | rfl | rfl
   ·exact hx1r k hk
   ·exact .inr hsW1
   ·exact .inr (by omega)
  have hd3:DwS w0 X2 g d1 (w3.alloc (.cells #[.int .i64 ws.h.term,.int .i64 ws.h.vote,.int .i64 ws.h.base,.int .i64 ws.h.bterm,.int .i64 ws.h.members,.string ⟨#[]⟩,.slice p3 ws.h.log.length c3] 24)):=by
   rw [hX2];refine hdw.more bAll (fun k hk=>?_)
   rcases hk with hk | rfl | rfl
   ·exact .inl hk
   ·exact .inr ⟨Nat.le_refl _,by omega⟩
   ·exact .inr ⟨by omega,by omega⟩
  clear hX2;have rd3:=own3.rd.ext caH;have st3:StoV (w3.alloc (.cells #[.int .i64 ws.h.term,.int .i64 ws.h.vote,.int .i64 ws.h.base,.int .i64 ws.h.bterm,.int .i64 ws.h.members,.string ⟨#[]⟩,.slice p3 ws.h.log.length c3] 24)) X2 g w1.heap.size gw v ⟨ws,ofBytes [],false⟩:=⟨(ksS.ext b3).ext caH,((hwvS.ext b3).ext caH).mono hx2,hx2S,by omega,fun e=>by have:=hwv.lX _ e;have:=hdw.2 _ this;omega⟩
  have ch3:Chg (Gx w0 X) w (w3.alloc (.cells #[.int .i64 ws.h.term,.int .i64 ws.h.vote,.int .i64 ws.h.base,.int .i64 ws.h.bterm,.int .i64 ws.h.members,.string ⟨#[]⟩,.slice p3 ws.h.log.length c3] 24)):=ch1.step (.of_below bAll);have hxX:∀ k,X k→X2 k:=fun k hk=>hx2 k (hx1 k hk);have hHs:w.heap.size≤w1.heap.size:=hsW1;clear own3 caS ksS hwvS b3 caH hdw hwv ch1 bAll;have q2:=khH.cell 2 _ rfl;go_upto_if 29 with (fail)
  generalize w3.alloc (.cells #[.int .i64 ws.h.term,.int .i64 ws.h.vote,.int .i64 ws.h.base,.int .i64 ws.h.bterm,.int .i64 ws.h.members,.string ⟨#[]⟩,.slice p3 ws.h.log.length c3] 24)=wB at *
  go_cut [] from 8 (fun wi=>∃ s,Hid (snapO d1 ws.h=some s)∧StoV wi X2 g w1.heap.size gw v ⟨ws,ofBytes s,false⟩∧Blk wi w3.heap.size #[.int .i64 ws.h.term,.int .i64 ws.h.vote,.int .i64 ws.h.base,.int .i64 ws.h.bterm,.int .i64 ws.h.members,.string ⟨#[]⟩,.slice p3 ws.h.log.length c3] 24∧DwS w0 X2 g d1 wi∧Chg (Gx w0 X) w wi)
  case first =>
   by_cases hz:ws.h.base=0
   ·have hzi:(ws.h.base !=0)=false:=by simp [hz]
    have hsn:snapO d1 ws.h=some []:=by unfold snapO;rw [if_pos hz]
    have Hsn:=Lib.hid hsn;clear hsn hz;go_wp2_with fail
    go_meet
    exact ⟨[],Hsn,st3,khH,hd3,ch3⟩
   ·have hzi:(ws.h.base !=0)=true:=by simpa using hz
    have hsn:snapO d1 ws.h=readP (fileP d1 ws.h.base.toNat) ws.h:=by unfold snapO;rw [if_neg hz]
    have Hsn:=Lib.hid hsn;have hn1:=hHB1.out;have hn2:=hHB2.out;have hbN:ws.h.base=(ws.h.base.toNat:Int):=by omega
    have hbN2:ws.h.base.toNat≤1099511627776:=by omega
    have hbn:=Lib.hid hbN;clear hsn hz hbN hn1 hn2;go_wp2_with fail
    refine (stoNamed ws.h.base.toNat _ hbn.out (by omega) wB (T0 _ (hb0.trans (ch3.gx hs0)))).mono ?_;rintro e w4 ⟨rfl,b4⟩;go_wp2_with fail
    refine (lRead (hd3.ext b4) (pic.ok (by omega)) (nameP ws.h.base.toNat) rfl).mono ?_;rintro e w5 ⟨⟨r5,rfl,own5⟩,b5⟩;have b45:=b4.trans (b5.mono b4.size);have hfw:fileP d1 ws.h.base.toNat=(readD d1 (nameP ws.h.base.toNat)).getD []:=rfl;rw [←hfw] at own5;have hfl:(fileP d1 ws.h.base.toNat).length≤4194304:=by
     rw [hfw,read_getF]
     cases hg:getF d1.fs (nameP ws.h.base.toNat) with
     | none=>simp
     | some f =>
      obtain ⟨j,hj,_,e1,_⟩:=get_at hg;have h1:=totD_mem (e1 ▸ List.getElem_mem hj:f ∈ d1.fs);have h2:=pic.l.tot
      show f.data.length≤_
      omega
    clear hfw;generalize fileP d1 ws.h.base.toNat=FB at *;generalize (readD d1 (nameP ws.h.base.toNat)).isSome=qb at *;have kh5:=khH.ext b45;have y0:=kh5.cell 0 _ rfl;have y1:=kh5.cell 1 _ rfl;have y2:=kh5.cell 2 _ rfl;have y3:=kh5.cell 3 _ rfl;have y4:=kh5.cell 4 _ rfl;have y5:=kh5.cell 5 _ rfl;have y6:=kh5.cell 6 _ rfl;have hrd:=stoRead r5 FB (bareOf ws.h) (.slice p3 ws.h.log.length c3) w5 own5.bytes (by omega) (rd3.ext b45);have hrp:readP FB (bareOf ws.h)=snapO d1 ws.h:=Hsn.out.symm;rw [hrp] at hrd;have Hrd:=Lib.hid hrd;clear hrp hrd Hsn;go_wp2_with fail
    refine Hrd.out.mono ?_;rintro e w6 ⟨hr,b6⟩;have b46:=b45.trans (b6.mono b45.size);have st6:=st3.ext b46;have kh6:=khH.ext b46;have hd6:=hd3.ext b46;have ch6:Chg (Gx w0 X) w w6:=ch3.step (.of_below b46);clear Hrd own5 kh5 y0 y1 y2 y3 y4 y5 y6 b4 b5 b45 b46 b6 st3 khH hd3 ch3
    cases hso:snapO d1 ws.h with
    | none =>
     rw [hso] at hr;obtain rfl:=hr;have hh:=Hop.out;rw [hso] at hh;simp only [Prod.mk.injEq] at hh
     obtain ⟨rfl,rfl,rfl⟩:=hh;clear hso;go_wp2_with fail
     refine bodyPost_ret (v:=.tuple #[.pointer none,.int .i64 4]) (by simp [results,Tryz.results30,go_sem]) rfl ?_;exact OpenedP.no (by decide) hxX hd6 ch6
    | some s =>
     rw [hso] at hr;obtain rfl:=hr;have Hso:=Lib.hid hso;clear hso;have f2:=st6.blk.frozen 2;have z2:=st6.c2;go_wp2_with fail
     go_meet
     have cS:=chg_cell w1.heap.size 2 (.string (ofBytes s)) w6;have ksC:=st6.blk.set 2 (.string (ofBytes s));have stC:StoV (w6.setCell ⟨w1.heap.size,2,none⟩ (.string (ofBytes s))) X2 g w1.heap.size gw v ⟨ws,ofBytes s,false⟩:=by
      refine ⟨ksC,st6.wv.only2 cS (fun e=>st6.ne e.symm) (fun k hk e=>st6.off (by rw [hk,e])),st6.inX,st6.ne,st6.off⟩
     exact ⟨s,Hso,stC,cS.blk kh6 (by omega),hd6.chgX cS (fun k hk=>.inl (by subst hk;exact hx2S)),ch6.step (cS.mono fun k hk e=>by subst e;exact ⟨by omega,fun hx=>by have:=hXl _ hx;omega⟩)⟩
  case rest =>
  obtain ⟨s,Hs,st7,kh7,hd7,ch7⟩:=hcut;obtain ⟨w7,hw7⟩:∃ z,z=wc:=⟨_,rfl⟩;subst hw7;clear st3 khH hd3 ch3 q2 rd3;have q2:=kh7.cell 2 _ rfl;obtain ⟨E2,d2,hcl⟩:∃ E2 d2,cleanP d1 ws.h.base.toNat=(E2,d2):=⟨_,_,rfl⟩;have hh:=Hop.out;rw [Hs.out,hcl] at hh;dsimp only at hh;have hn1:=hHB1.out;have hn2:=hHB2.out;have hbN:ws.h.base=(ws.h.base.toNat:Int):=by omega
  have hcall:=stoClean T0 hd7 (hb0.trans (ch7.gx hs0)) pic (by omega) ws.h.base.toNat ws.h.base hbN (by omega) hcl;clear hbN hn1 hn2 Hop;have Hh:=Lib.hid hh;clear hh;go_wp2_with fail
  refine hcall.mono ?_;rintro e w8 ⟨rfl,hd8,ch8⟩;have st8:=st7.keep ch8;have ch08:Chg (Gx w0 X) w w8:=ch7.step (ch8.mono fun k _ q=>⟨q.1,fun hx=>q.2 (hxX k hx)⟩);have hh:=Hh.out
  by_cases hE:E2=0
  ·subst hE;rw [if_pos rfl] at hh;simp only [Prod.mk.injEq] at hh
   obtain ⟨rfl,rfl,rfl⟩:=hh;go_wp2_with fail
   refine bodyPost_ret (v:=.tuple #[.pointer (some ⟨w1.heap.size,0,none⟩),.int .i64 0]) (by simp [results,Tryz.results30,go_sem]) rfl ?_;exact ⟨⟨w1.heap.size,gw,v,X2,rfl,hHs,hgw,hxX,hx2r,hd8,st8,hvw⟩,hd8.mono hxX,ch08⟩
  ·have hi:(E2 !=0)=true:=by simpa using hE
   rw [if_neg hE] at hh;simp only [Prod.mk.injEq] at hh
   obtain ⟨rfl,rfl,rfl⟩:=hh;have HE:=Lib.hid hE;clear hE;go_wp2_with fail
   refine bodyPost_ret (v:=.tuple #[.pointer none,.int .i64 E]) (by simp [results,Tryz.results30,go_sem]) rfl ?_;exact OpenedP.no HE.out hxX hd8 ch08
end
end Go.Proofs.YtgpgcnmnfnnkjaaGreatDoor
