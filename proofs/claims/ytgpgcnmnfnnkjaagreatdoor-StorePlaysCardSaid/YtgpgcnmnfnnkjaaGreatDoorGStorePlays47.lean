import Derived.Test.YtgpgcnmnfnnkjaaGreatDoorGStorePlays45
set_option linter.unusedVariables false
set_option linter.unusedSimpArgs false
set_option maxRecDepth 100000
set_option maxHeartbeats 16000000
namespace Go.Proofs.YtgpgcnmnfnnkjaaGreatDoor
section
open Go Go.RowKit Go.PlainAid BigFrame
attribute [local go_sem] After.same
theorem wp_region_after2 {P:Program} {id:Nat} {Q:Exit→Act→World→Prop} {a:Act} {W:World} {l m L:List Oper} (hl:l.append m=L) (hm:P.follows .mixedOrders=true) (hB:Region.lexB .any L.toArray=true)
 (h:wpQuiet P L.toArray (fun w'=>∃ x:After W,w'=x.1) (fun a'=>∀ w',(∃ x:After W,w'=x.1)→Q .normal a' w') L a):(Code.region id (l.append m).toArray true).wp P Q a W:=by
 subst hl;exact wp_region_after hm hB h
def RkSaved (w0 w:World) (X:Nat→Prop) (g gw:Nat) (v:Value) (E:Int) (ws':Wl) (d':Dk) (e:Ending) (w':World):Prop :=
 e=.returned (.int .i64 E)∧∃ X' v',(∀ k,X k→X' k)∧(∀ k,X' k→X k∨w.heap.size≤k)∧RfS w0 X' g d' w'∧RwV w' X' g gw v' ws'∧Chg (Gw w0 X gw) w w'∧(v'=v∨∀ k,v'.ownBlock=some k→w.heap.size≤k)
theorem same_is {x h:Hrd} (hs:x.snap=sNone):sameW x h=true↔x=bareOf h:=by
 rw [sameW_iff,same_iff]
 constructor
 ·rintro ⟨h1,h2,h3,h4,h5,h6,h7⟩;have h8:=commonE_all h6 h7;exact ⟨h1.symm,h2.symm,h3.symm,h4.symm,h5.symm,hs,h6.symm,by show commonE x.log h.log=_;rw [h8];exact commonE_self _⟩
 ·rintro ⟨h1,h2,h3,h4,h5,h6,h7,h8⟩;have h9:x.log=h.log:=commonE_all h7 h8;exact ⟨h1.symm,h2.symm,h3.symm,h4.symm,h5.symm,h7.symm,by rw [h9];exact commonE_self _⟩
open Classical in
theorem rkSameW {w:World} (x h:Hrd) (hs:x.snap=sNone) (u v:Value) (hu:Rd etyE w u x.log) (hv:Rd etyE w v h.log) :
 Calls Tryz.prog 20 #[hrdA x u,hrdA (bareOf h) v] w fun e w'=>e=.returned (.bool (sameW x h))∧Below w.heap.size w w':=by
 refine (refSame x (bareOf h) u v hu hv).mono ?_;rintro e w' ⟨rfl,hb⟩;have e1:decide (x=bareOf h)=sameW x h:=by rw [Bool.eq_iff_iff,decide_eq_true_iff];exact (same_is hs).symm
 exact ⟨by rw [e1],hb⟩
section
variable {w0 w w':World} {X:Nat→Prop} {g gw:Nat} {v:Value} {ws:Wl} {d:Dk}
theorem RkSaved.same {E:Int} (hd:RfS w0 X g d w) (hw:RwV w X g gw v ws) (hb:Below w.heap.size w w'):RkSaved w0 w X g gw v E ws d (.returned (.int .i64 E)) w' :=
 ⟨rfl,X,v,fun _ h=>h,fun _ h=>.inl h,hd.ext hb,hw.ext hb,.of_below hb,.inl rfl⟩
theorem RkSaved.of {wm:World} {E:Int} {ws':Wl} {d':Dk} {X2:Nat→Prop} {e:Ending} (hX:∀ k,X k→X2 k) (hXr:∀ k,X2 k→X k∨w.heap.size≤k) {u:Value} (hb:Below w.heap.size w wm) (hu:∀ k,u.ownBlock=some k→w.heap.size≤k) (h:RkDid w0 wm X2 g gw v u E ws' d' e w'):RkSaved w0 w X g gw v E ws' d' e w':=by
 obtain ⟨h1,h2,⟨v',h3,h5⟩,h4⟩:=h;exact ⟨h1,X2,v',hX,hXr,h2,h3,(Chg.of_below hb).step (h4.mono fun k _ hk=>by
  rcases hk with hk | hk
  ·exact .inl ⟨hk.1,fun hx=>hk.2 (hX k hx)⟩
  ·exact .inr hk),h5.imp id (fun e k hk=>hu k (by rw [←e];exact hk))⟩
theorem RkDid.keptB {w2:World} {d':Dk} {X2:Nat→Prop} {h:Hrd} {u:Value} (hd:RfS w0 X2 g d' w2) (hX:∀ k,X k→X2 k) (hv:RwV w2 X g gw v ws) (hc:Chg (Gx w0 X) w w2) (hl:Rd etyE w2 u h.log) (hx:h.log≠[]→∀ k,u.ownBlock=some k→X k) (ho:h.log≠[]→u.ownBlock≠some gw) (hf:h.log.length≤200) :
 RkDid w0 w X g gw v u 0 ⟨ws.n,bareOf h,ws.down⟩ d' (.returned (.int .i64 0)) (((((((w2.setCell ⟨gw,1,none⟩ (.int .i64 h.term)).setCell ⟨gw,2,none⟩ (.int .i64 h.vote)).setCell ⟨gw,3,none⟩ (.int .i64 h.base)).setCell ⟨gw,4,none⟩ (.int .i64 h.bterm)).setCell ⟨gw,5,none⟩ (.int .i64 h.members)).setCell ⟨gw,6,none⟩ (.string ⟨#[]⟩)).setCell ⟨gw,7,none⟩ u):=by
 obtain ⟨h2,c2⟩:=hv.fill (h:=bareOf h) (v':=u) hl hx ho hf;exact ⟨rfl,(hd.chgX c2 (fun k hk=>.inl (by rw [hk];exact hX _ hv.inX))).mono hX,⟨u,h2,.inr rfl⟩,(hc.mono fun k _ hk=>.inl hk).step (c2.mono fun k _ hk=>.inr hk)⟩
end
theorem rkSave {w0 w:World} {X:Nat→Prop} {g gw:Nat} {d d':Dk} {v:Value} {ws ws':Wl} (hd:RfS w0 X g d w) {m:Nat} (pi:PInv m d) (hm:m≤880) (hw:RwV w X g gw v ws) (hsn:ws.h.snap=sNone) (h:Hrd) (u:Value) (hu:Rd etyE w u h.log) {E:Int} (he:saveR d ws h=(E,ws',d')) :
 Calls Tryz.prog 12 #[.pointer (some ⟨gw,0,none⟩),hrdA h u] w (RkSaved w0 w X g gw v E ws' d'):=by
 obtain ⟨pu,cu,rfl⟩:=hu.shape;have he2:saveR d ws h=_:=rfl;unfold saveR at he2;rw [show (if rightH h=false then ((1:Int),ws,d) else if ws.down=true then (18,ws,d) else if 0<ws.n∧sameW ws.h h=true then (0,ws,d) else if anewW d ws h=false then keepR ws h ((writeD d ws.n (moreB ws.h h)).1,ws.n,(writeD d ws.n (moreB ws.h h)).2) else if 99999999999999≤ws.n then (14,ws,d) else keepR ws h (layW d ws.n h))=(E,ws',d') from he] at he2;have He:=Lib.hid he;have Hsn:=Lib.hid hsn;clear he he2 hsn;have hs0:=hd.size
 have ca:=below_alloc w (.cells #[.int .i64 h.term,.int .i64 h.vote,.int .i64 h.base,.int .i64 h.bterm,.int .i64 h.members,.string h.snap,.slice pu h.log.length cu] 24);have kh:=Blk.new w #[.int .i64 h.term,.int .i64 h.vote,.int .i64 h.base,.int .i64 h.bterm,.int .i64 h.members,.string h.snap,.slice pu h.log.length cu] 24;have hwl:=hw.blk.lt;have hsA:(w.alloc (.cells #[.int .i64 h.term,.int .i64 h.vote,.int .i64 h.base,.int .i64 h.bterm,.int .i64 h.members,.string h.snap,.slice pu h.log.length cu] 24)).heap.size=w.heap.size+1:=by simp
 have hwA:=hw.ext ca;have hdA:=hd.ext ca;have huA:=hu.ext ca;have hright:=refRight h (.slice pu h.log.length cu) (w.alloc (.cells #[.int .i64 h.term,.int .i64 h.vote,.int .i64 h.base,.int .i64 h.bterm,.int .i64 h.members,.string h.snap,.slice pu h.log.length cu] 24)) huA;have y0:=kh.cell 0 _ rfl;have y1:=kh.cell 1 _ rfl;have y2:=kh.cell 2 _ rfl;have y3:=kh.cell 3 _ rfl;have y4:=kh.cell 4 _ rfl;have y5:=kh.cell 5 _ rfl;have y6:=kh.cell 6 _ rfl;go_enter Tryz.func12,Tryz.ntmps12
 go_wp2_with fail
 generalize w.alloc (.cells #[.int .i64 h.term,.int .i64 h.vote,.int .i64 h.base,.int .i64 h.bterm,.int .i64 h.members,.string h.snap,.slice pu h.log.length cu] 24)=wA at *
 cases hr:rightH h with
 | false =>
  rw [hr] at hright;have hres:=He.out;unfold saveR at hres;rw [if_pos hr] at hres;obtain ⟨rfl,rfl,rfl⟩:E=1∧ws'=ws∧d'=d:=by simpa using hres.symm
  clear hres
  with_reducible refine hright.mono ?_
  rintro e w1 ⟨rfl,b1⟩;have hb:=ca.trans (b1.mono ca.size);go_wp2_with fail
  go_ret
  exact RkSaved.same hd hw hb
 | true =>
 rw [hr] at hright;have hres:=He.out;unfold saveR at hres;rw [if_neg (by rw [hr];simp)] at hres;obtain ⟨hin,hb0,hb1⟩:=HrdIn.of hr;have hfew:=hin.few
 with_reducible refine hright.mono ?_
 rintro e w1 ⟨rfl,b1⟩;have hw1:=hwA.ext b1;have hd1:=hdA.ext b1;have hu1:=huA.ext b1;have kh1:=kh.ext b1;have bw1:=ca.trans (b1.mono ca.size);have c9:=hw1.c9
 cases hdn:ws.down with
 | true =>
  rw [if_pos hdn] at hres;obtain ⟨rfl,rfl,rfl⟩:E=18∧ws'=ws∧d'=d:=by simpa using hres.symm
  rw [hdn] at c9;clear hres;go_wp2_with fail
  go_ret
  exact RkSaved.same hd hw bw1
 | false =>
 rw [if_neg (by rw [hdn];simp)] at hres;rw [hdn] at c9;have Hdn:=Lib.hid hdn;have Hres:=Lib.hid hres;clear hres hdn hright He hr;have hB1:=bw1.size;have hb1s:=b1.size;have hgl1:w.heap.size<w1.heap.size:=by omega
 have e5:=kh1.cell 5 _ rfl;have e6:w1.cell? ⟨w.heap.size,6,none⟩=some (.slice pu h.log.length cu):=kh1.cell 6 _ rfl;have f5:=kh1.frozen 5;have f6:=kh1.frozen 6;have chA:=chg_cell w.heap.size 5 (.string ⟨#[]⟩) w1;have khS:Blk (w1.setCell ⟨w.heap.size,5,none⟩ (.string ⟨#[]⟩)) w.heap.size #[.int .i64 h.term,.int .i64 h.vote,.int .i64 h.base,.int .i64 h.bterm,.int .i64 h.members,.string ⟨#[]⟩,.slice pu h.log.length cu] 24:=kh1.set 5 (.string ⟨#[]⟩);have hgu:h.log≠[]→(Value.slice pu h.log.length cu).ownBlock≠some w.heap.size:=fun hne e=>by have:=hu.ltE hne _ e;omega
 have huS:=hu1.chgE chA (fun hne k hk e=>hgu hne (by rw [hk,e]));have hwS:RwV (w1.setCell ⟨w.heap.size,5,none⟩ (.string ⟨#[]⟩)) X g gw v ws:=hw1.chg chA (fun k hk e=>by have:=hd.2 k hk;omega);have bS:Below w.heap.size w (w1.setCell ⟨w.heap.size,5,none⟩ (.string ⟨#[]⟩)):=bw1.setCell (p:=⟨w.heap.size,5,none⟩) (Nat.le_refl _) _;have bE:=below_alloc (w1.setCell ⟨w.heap.size,5,none⟩ (.string ⟨#[]⟩)) (.cells #[] 73);have bwE:=bS.trans (bE.mono bS.size);have hsS:(w1.setCell ⟨w.heap.size,5,none⟩ (.string ⟨#[]⟩)).heap.size=w1.heap.size:=by simp [World.setCell]
 have ownE:OwnR etyE ((w1.setCell ⟨w.heap.size,5,none⟩ (.string ⟨#[]⟩)).alloc (.cells #[] 73)) w1.heap.size 73 (.slice (some ⟨w1.heap.size,0,none⟩) 0 0) []:=OwnR.litAt etyE _ #[] 73 [] 0 w1.heap.size w1.heap.size hsS rfl rfl (Nat.zero_le _) (by omega);have huE:=huS.ext bE;have khE:=khS.ext bE;have hBE:w1.heap.size≤((w1.setCell ⟨w.heap.size,5,none⟩ (.string ⟨#[]⟩)).alloc (.cells #[] 73)).heap.size:=by have:=bE.size;omega
 go_upto_region 7 with ((first
  | (at_builtin;go_loud (refine wpList_appW tEty rfl rfl ownE rfl huE rfl (by simp only [List.length_nil];omega) hBE ?_;intro v3 w3 own3 g3 b3 hw3;replace own3:OwnR etyE w3 w1.heap.size 73 v3 h.log:=OwnR.of own3 (by simp) (by simp [Enc.all]);obtain ⟨p3,c3,rfl⟩:=own3.rd.shape;have kh3:=khE.below b3 hgl1;have j6:=kh3.cell 6 _ rfl;have z6:=kh3.frozen 6))
  | fail))
 have kh4:Blk (w3.setCell ⟨w.heap.size,6,none⟩ (.slice p3 h.log.length c3)) w.heap.size #[.int .i64 h.term,.int .i64 h.vote,.int .i64 h.base,.int .i64 h.bterm,.int .i64 h.members,.string ⟨#[]⟩,.slice p3 h.log.length c3] 24:=kh3.set 6 (.slice p3 h.log.length c3);have bw4:Below w.heap.size w (w3.setCell ⟨w.heap.size,6,none⟩ (.slice p3 h.log.length c3)):=(bwE.trans (b3.mono hB1)).setCell (p:=⟨w.heap.size,6,none⟩) (Nat.le_refl _) _
 have rl4:Rd etyE (w3.setCell ⟨w.heap.size,6,none⟩ (.slice p3 h.log.length c3)) (.slice p3 h.log.length c3) h.log:=own3.rd.chgE (chg_cell w.heap.size 6 _ w3) (fun hne k hk e=>by have:=(own3.lt k hk).1;omega);have ho4:∀ k,(Value.slice p3 h.log.length c3).ownBlock=some k→w1.heap.size≤k∧k<(w3.setCell ⟨w.heap.size,6,none⟩ (.slice p3 h.log.length c3)).heap.size:=fun k hk=>by have:=own3.lt k hk;simp [World.setCell];omega
 clear kh3 j6 z6 g3 b3 hw3 own3 khE huE ownE bwE bE bS hwS huS khS chA e5 e6 f5 f6 hu1 kh1 hd1 hw1 c9 hsS hBE;generalize w3.setCell ⟨w.heap.size,6,none⟩ (.slice p3 h.log.length c3)=w4 at *;have hsz4:=bw4.size;have hX'':∃ X2:Nat→Prop,X2=fun k=>X k∨(w.heap.size≤k∧k<w4.heap.size):=⟨_,rfl⟩;obtain ⟨X2,hX2⟩:=hX'';have hXl:∀ k,X k→X2 k:=fun k hk=>by rw [hX2];exact .inl hk
 have hXr:∀ k,X2 k→X k∨w.heap.size≤k:=fun k hk=>by rw [hX2] at hk;exact hk.imp id (·.1)
 have hXn:∀ k,w.heap.size≤k→k<w4.heap.size→X2 k:=fun k h1 h2=>by rw [hX2];exact .inr ⟨h1,h2⟩
 have hd4:RfS w0 X2 g d w4:=hd.more bw4 (fun k hk=>by rw [hX2] at hk;exact hk);have hw4:RwV w4 X2 g gw v ws:=(hw.ext bw4).mono hXl;have hgX:X2 w.heap.size:=hXn _ (Nat.le_refl _) kh4.lt;have h3X:∀ k,(Value.slice p3 h.log.length c3).ownBlock=some k→X2 k:=fun k hk=>hXn k (by have:=(ho4 k hk).1;omega) (ho4 k hk).2;have h3g:(Value.slice p3 h.log.length c3).ownBlock≠some gw:=fun e=>by have:=(ho4 _ e).1;omega
 have HoN:=Lib.hid (fun k (hk:(Value.slice p3 h.log.length c3).ownBlock=some k)=>(show w.heap.size≤k from by have:=(ho4 k hk).1;omega));have HXl:=Lib.hid hXl;have HXr:=Lib.hid hXr;have H3X:=Lib.hid h3X;have Hhd:=Lib.hid (And.intro hd hw);clear hX2 hXn hXl hXr h3X ho4 hdA hwA huA hd hw hu kh ca y0 y1 y2 y3 y4 y5 y6;obtain ⟨qv,cv,hqv⟩:=hw4.log.shape;subst hqv;have hsn2:=Hsn.out;obtain ⟨b38,hb38⟩:∃ b:Bool,(decide (0<ws.n) && sameW ws.h h)=b:=⟨_,rfl⟩
 go_cut [38] from 13 (fun q wi=>q=.bool b38∧Below w4.heap.size w4 wi)
 case first=>as_aux_lemma =>
  have hz8:∀ z:After w4,z.1.cell? ⟨gw,8,none⟩=some (.int .i64 (ws.n:Int)):=fun z=>(hw4.ext z.2).c8;have hz1:∀ z:After w4,z.1.cell? ⟨gw,1,none⟩=some (.int .i64 ws.h.term):=fun z=>(hw4.ext z.2).blk.cell 1 _ rfl;have hz2:∀ z:After w4,z.1.cell? ⟨gw,2,none⟩=some (.int .i64 ws.h.vote):=fun z=>(hw4.ext z.2).blk.cell 2 _ rfl;have hz3:∀ z:After w4,z.1.cell? ⟨gw,3,none⟩=some (.int .i64 ws.h.base):=fun z=>(hw4.ext z.2).blk.cell 3 _ rfl;have hz4:∀ z:After w4,z.1.cell? ⟨gw,4,none⟩=some (.int .i64 ws.h.bterm):=fun z=>(hw4.ext z.2).blk.cell 4 _ rfl
  have hz5:∀ z:After w4,z.1.cell? ⟨gw,5,none⟩=some (.int .i64 ws.h.members):=fun z=>(hw4.ext z.2).blk.cell 5 _ rfl;have hz6:∀ z:After w4,z.1.cell? ⟨gw,6,none⟩=some (.string ws.h.snap):=fun z=>(hw4.ext z.2).blk.cell 6 _ rfl;have hz7:∀ z:After w4,z.1.cell? ⟨gw,7,none⟩=some (.slice qv ws.h.log.length cv):=fun z=>(hw4.ext z.2).blk.cell 7 _ rfl;have hk0:∀ z:After w4,z.1.cell? ⟨w.heap.size,0,none⟩=some (.int .i64 h.term):=fun z=>(kh4.ext z.2).cell 0 _ rfl;have hk1:∀ z:After w4,z.1.cell? ⟨w.heap.size,1,none⟩=some (.int .i64 h.vote):=fun z=>(kh4.ext z.2).cell 1 _ rfl
  have hk2:∀ z:After w4,z.1.cell? ⟨w.heap.size,2,none⟩=some (.int .i64 h.base):=fun z=>(kh4.ext z.2).cell 2 _ rfl;have hk3:∀ z:After w4,z.1.cell? ⟨w.heap.size,3,none⟩=some (.int .i64 h.bterm):=fun z=>(kh4.ext z.2).cell 3 _ rfl;have hk4:∀ z:After w4,z.1.cell? ⟨w.heap.size,4,none⟩=some (.int .i64 h.members):=fun z=>(kh4.ext z.2).cell 4 _ rfl;have hk5:∀ z:After w4,z.1.cell? ⟨w.heap.size,5,none⟩=some (.string ⟨#[]⟩):=fun z=>(kh4.ext z.2).cell 5 _ rfl;have hk6:∀ z:After w4,z.1.cell? ⟨w.heap.size,6,none⟩=some (.slice p3 h.log.length c3):=fun z=>(kh4.ext z.2).cell 6 _ rfl
  have hcl:∀ z:After w4,Calls Tryz.prog 20 #[hrdA ws.h (.slice qv ws.h.log.length cv),.agg #[.int .i64 h.term,.int .i64 h.vote,.int .i64 h.base,.int .i64 h.bterm,.int .i64 h.members,.string ⟨#[]⟩,.slice p3 h.log.length c3]] z.1 fun e w'=>e=.returned (.bool (sameW ws.h h))∧∃ y:After w4,w'=y.1:=fun z =>
   z.call (rkSameW ws.h h hsn2 _ _ (hw4.ext z.2).log (rl4.ext z.2))
  have Hb:=Lib.hid hb38;generalize sameW ws.h h=sb at *;clear hb38 hsn2
  by_cases hn0:0<ws.n
  ·have hdec:decide (0<ws.n)=true:=decide_eq_true hn0;have hb2:sb=b38:=by rw [←Hb.out,hdec];rfl
   subst hb2;clear hn0 Hb hd4 hw4 kh4 rl4;refine wp_region_after (by kernel_rfl) (by kernel_rfl) ?_
   repeat (go_big_quiet_step (with_reducible exact hcl _))
   refine wpQuiet_nil ?_;rintro _ ⟨⟨w7,c7⟩,rfl⟩;go_wp2_with fail
   go_meet
   exact ⟨rfl,c7⟩
  ·have hdec:decide (0<ws.n)=false:=decide_eq_false hn0;have hb2:false=b38:=by rw [←Hb.out,hdec];rfl
   subst hb2;clear hn0 Hb hd4 hw4 kh4 rl4;refine wp_region_after (by kernel_rfl) (by kernel_rfl) ?_
   repeat (go_big_quiet_step (with_reducible exact hcl _))
   refine wpQuiet_nil ?_;rintro _ ⟨⟨w7,c7⟩,rfl⟩;go_wp2_with fail
   go_meet
   exact ⟨rfl,c7⟩
 case rest=>as_aux_lemma =>
 obtain ⟨rfl,b45⟩:=hcut;obtain ⟨w5,hw5e⟩:∃ z,z=wc:=⟨_,rfl⟩;subst hw5e;have hd5:=hd4.ext b45;have hw5:=hw4.ext b45;have kh5:=kh4.ext b45;have rl5:=rl4.ext b45;have bw5:=bw4.trans (b45.mono hsz4);clear hd4 hw4 kh4 rl4;have hsz5:=bw5.size;have hres:=Hres.out
 cases b38 with
 | true =>
  have hs:0<ws.n∧sameW ws.h h=true:=by simpa using hb38
  rw [if_pos hs] at hres;obtain ⟨rfl,rfl,rfl⟩:E=0∧ws'=ws∧d'=d:=by simpa using hres.symm
  clear hs hres hb38;go_wp2_with fail
  go_ret
  exact RkSaved.same Hhd.out.1 Hhd.out.2 bw5
 | false =>
 have hs:¬ (0<ws.n∧sameW ws.h h=true):=by
  rintro ⟨h1,h2⟩;rw [h2,decide_eq_true h1] at hb38
  cases hb38
 rw [if_neg hs] at hres;have Hres2:=Lib.hid hres;clear hs hres hb38 Hres hsn2;have hdg:=dec_few hw5.num;have hcat:=Lib.hid (name_cat ws.n);have hnum:=hw5.num;have c8:=hw5.c8;go_wp2_with fail
 refine (rkDigits ws.n _ rfl (by omega) w5).mono ?_;rintro e w6 ⟨rfl,b6⟩;have hd6:=hd5.ext b6;have hw6:=hw5.ext b6;have kh6:=kh5.ext b6;have rl6:=rl5.ext b6;have bw6:=bw5.trans (b6.mono hsz5);clear hd5 hw5 kh5 rl5 c8;have c0:=hw6.c0;have hrd:=rRead hd6 ((⟨#[119,97,108,46]⟩:ByteArray)++(⟨(Lib.decDigits (ws.n)).toArray⟩:ByteArray)) (o:=readD d (nameW ws.n)) (by rw [hcat.out]);have hfw:fileW d ws.n=(readD d (nameW ws.n)).getD []:=rfl;go_wp2_with fail
 refine hrd.mono ?_;rintro e w7 ⟨⟨r,rfl,hr⟩,rfl⟩;rw [←hfw] at hr;clear hrd hfw;generalize (readD d (nameW ws.n)).isSome=qb at *;obtain ⟨pr,cr,rfl⟩:=hr.shape;clear hr c0;have han:anewW d ws h=(decide (ws.n=0) || decide (8192<(fileW d ws.n).length) || decide (h.base≠ws.h.base) || decide (h.bterm≠ws.h.bterm) || decide (h.members≠ws.h.members) || decide (h.term<ws.h.term) || (decide (h.term=ws.h.term) && decide (ws.h.vote ≠ -1) && decide (h.vote≠ws.h.vote))):=rfl;have Han:=Lib.hid han;clear han;obtain ⟨aR,haR⟩:∃ b,anewW d ws h=b:=⟨_,rfl⟩;rw [haR] at Han Hres2;have HaR:=Lib.hid haR;clear haR
 generalize fileW d ws.n=FB at *;go_upto_region 11 with (fail)
 go_cut [131] from 54 (fun q wi=>q=.bool aR∧Below w6.heap.size w6 wi)
 case first=>as_aux_lemma =>
  have c1:∀ z:After w6,z.1.cell? ⟨gw,1,none⟩=some (.int .i64 ws.h.term):=fun z=>(hw6.ext z.2).blk.cell 1 _ rfl;have c2:∀ z:After w6,z.1.cell? ⟨gw,2,none⟩=some (.int .i64 ws.h.vote):=fun z=>(hw6.ext z.2).blk.cell 2 _ rfl;have c3:∀ z:After w6,z.1.cell? ⟨gw,3,none⟩=some (.int .i64 ws.h.base):=fun z=>(hw6.ext z.2).blk.cell 3 _ rfl;have c4:∀ z:After w6,z.1.cell? ⟨gw,4,none⟩=some (.int .i64 ws.h.bterm):=fun z=>(hw6.ext z.2).blk.cell 4 _ rfl;have c5:∀ z:After w6,z.1.cell? ⟨gw,5,none⟩=some (.int .i64 ws.h.members):=fun z=>(hw6.ext z.2).blk.cell 5 _ rfl
  have c8:∀ z:After w6,z.1.cell? ⟨gw,8,none⟩=some (.int .i64 (ws.n:Int)):=fun z=>(hw6.ext z.2).blk.cell 8 _ rfl;have a0:∀ z:After w6,z.1.cell? ⟨w.heap.size,0,none⟩=some (.int .i64 h.term):=fun z=>(kh6.ext z.2).cell 0 _ rfl;have a1:∀ z:After w6,z.1.cell? ⟨w.heap.size,1,none⟩=some (.int .i64 h.vote):=fun z=>(kh6.ext z.2).cell 1 _ rfl;have a2:∀ z:After w6,z.1.cell? ⟨w.heap.size,2,none⟩=some (.int .i64 h.base):=fun z=>(kh6.ext z.2).cell 2 _ rfl;have a3:∀ z:After w6,z.1.cell? ⟨w.heap.size,3,none⟩=some (.int .i64 h.bterm):=fun z=>(kh6.ext z.2).cell 3 _ rfl
  have a4:∀ z:After w6,z.1.cell? ⟨w.heap.size,4,none⟩=some (.int .i64 h.members):=fun z=>(kh6.ext z.2).cell 4 _ rfl;clear hd6 hw6 kh6 rl6 bw6;refine wp_region_after2 (by simp only [List.append];rfl) (by kernel_rfl) (by as_aux_lemma=>kernel_rfl) ?_
  by_cases q0:ws.n=0
  ·have r0:((ws.n:Int) == 0)=true:=by simp;first | omega | exact q0
   have Hr:=Lib.hid (show true=aR from (Han.out.trans (by simp [q0])).symm);clear q0;clear Han
   as_aux_lemma =>
    repeat (go_big_quiet_step (fail))
    refine wpQuiet_nil ?_;rintro _ ⟨⟨w7,c7⟩,rfl⟩;go_wp2_with fail
    go_meet
    exact ⟨by rw [←Hr.out],c7⟩
  ·have r0:((ws.n:Int) == 0)=false:=by simp;first | omega | exact q0
   by_cases q1:8192<FB.length
   ·have r1:(8192:Int)<(FB.length:Int):=by omega
    have Hr:=Lib.hid (show true=aR from (Han.out.trans (by simp [q0,q1])).symm);clear q0 q1;clear Han
    as_aux_lemma =>
     repeat (go_big_quiet_step (fail))
     refine wpQuiet_nil ?_;rintro _ ⟨⟨w7,c7⟩,rfl⟩;go_wp2_with fail
     go_meet
     exact ⟨by rw [←Hr.out],c7⟩
   ·have r1:¬ (8192:Int)<(FB.length:Int):=by omega
    by_cases q2:h.base≠ws.h.base
    ·have r2:(h.base !=ws.h.base)=true:=by simpa using q2
     have Hr:=Lib.hid (show true=aR from (Han.out.trans (by simp [q0,q1,q2])).symm);clear q0 q1 q2;clear Han
     as_aux_lemma =>
      repeat (go_big_quiet_step (fail))
      refine wpQuiet_nil ?_;rintro _ ⟨⟨w7,c7⟩,rfl⟩;go_wp2_with fail
      go_meet
      exact ⟨by rw [←Hr.out],c7⟩
    ·have r2:(h.base !=ws.h.base)=false:=by simpa using q2
     by_cases q3:h.bterm≠ws.h.bterm
     ·have r3:(h.bterm !=ws.h.bterm)=true:=by simpa using q3
      have Hr:=Lib.hid (show true=aR from (Han.out.trans (by simp [q0,q1,q2,q3])).symm);clear q0 q1 q2 q3;clear Han
      as_aux_lemma =>
       repeat (go_big_quiet_step (fail))
       refine wpQuiet_nil ?_;rintro _ ⟨⟨w7,c7⟩,rfl⟩;go_wp2_with fail
       go_meet
       exact ⟨by rw [←Hr.out],c7⟩
     ·have r3:(h.bterm !=ws.h.bterm)=false:=by simpa using q3
      by_cases q4:h.members≠ws.h.members
      ·have r4:(h.members !=ws.h.members)=true:=by simpa using q4
       have Hr:=Lib.hid (show true=aR from (Han.out.trans (by simp [q0,q1,q2,q3,q4])).symm);clear q0 q1 q2 q3 q4;clear Han
       as_aux_lemma =>
        repeat (go_big_quiet_step (fail))
        refine wpQuiet_nil ?_;rintro _ ⟨⟨w7,c7⟩,rfl⟩;go_wp2_with fail
        go_meet
        exact ⟨by rw [←Hr.out],c7⟩
      ·have r4:(h.members !=ws.h.members)=false:=by simpa using q4
       by_cases q5:h.term<ws.h.term
       ·have Hr:=Lib.hid (show true=aR from (Han.out.trans (by simp [q0,q1,q2,q3,q4,q5])).symm);clear q0 q1 q2 q3 q4;clear Han
        as_aux_lemma =>
         repeat (go_big_quiet_step (fail))
         refine wpQuiet_nil ?_;rintro _ ⟨⟨w7,c7⟩,rfl⟩;go_wp2_with fail
         go_meet
         exact ⟨by rw [←Hr.out],c7⟩
       ·by_cases q6:h.term=ws.h.term
        ·have r6:(h.term == ws.h.term)=true:=by simpa using q6
         by_cases q8:h.vote=ws.h.vote
         ·have r8:(h.vote !=ws.h.vote)=false:=by simpa using q8
          have Hr:=Lib.hid (show false=aR from (Han.out.trans (by simp [q0,q1,q2,q3,q4,q6,q8])).symm);clear q0 q1 q2 q3 q4 q6 q8;clear Han
          as_aux_lemma =>
           repeat (go_big_quiet_step (fail))
           refine wpQuiet_nil ?_;rintro _ ⟨⟨w7,c7⟩,rfl⟩;go_wp2_with fail
           go_meet
           exact ⟨by rw [←Hr.out],c7⟩
         ·have r8:(h.vote !=ws.h.vote)=true:=by simpa using q8
          by_cases q7:ws.h.vote = -1
          ·have r7:(ws.h.vote != -1)=false:=by simpa using q7
           have Hr:=Lib.hid (show false=aR from (Han.out.trans (by simp [q0,q1,q2,q3,q4,q6,q7])).symm);clear q0 q1 q2 q3 q4 q6 q7 q8;clear Han
           as_aux_lemma =>
            repeat (go_big_quiet_step (fail))
            refine wpQuiet_nil ?_;rintro _ ⟨⟨w7,c7⟩,rfl⟩;go_wp2_with fail
            go_meet
            exact ⟨by rw [←Hr.out],c7⟩
          ·have r7:(ws.h.vote != -1)=true:=by simpa using q7
           have Hr:=Lib.hid (show true=aR from (Han.out.trans (by simp [q0,q1,q2,q3,q4,q6,q7,q8])).symm);clear q0 q1 q2 q3 q4 q6 q7 q8;clear Han
           as_aux_lemma =>
            repeat (go_big_quiet_step (fail))
            refine wpQuiet_nil ?_;rintro _ ⟨⟨w7,c7⟩,rfl⟩;go_wp2_with fail
            go_meet
            exact ⟨by rw [←Hr.out],c7⟩
        ·have r6:(h.term == ws.h.term)=false:=by simpa using q6
         have Hr:=Lib.hid (show false=aR from (Han.out.trans (by simp [q0,q1,q2,q3,q4,q5,q6])).symm);clear q0 q1 q2 q3 q4 q6;clear Han
         as_aux_lemma =>
          repeat (go_big_quiet_step (fail))
          refine wpQuiet_nil ?_;rintro _ ⟨⟨w7,c7⟩,rfl⟩;go_wp2_with fail
          go_meet
          exact ⟨by rw [←Hr.out],c7⟩
 case rest=>as_aux_lemma =>
 obtain ⟨rfl,b68⟩:=hcut;obtain ⟨w8,hw8e⟩:∃ z,z=wc:=⟨_,rfl⟩;subst hw8e;have hsz6:=bw6.size;have hd8:=hd6.ext b68;have hw8:=hw6.ext b68;have kh8:=kh6.ext b68;have rl8:=rl6.ext b68;have bw8:=bw6.trans (b68.mono hsz6);clear hd6 hw6 kh6 rl6 Han b68 bw6;have haW:=HaR.out;have hres:=Hres2.out;clear Hres2 HaR Hhd;obtain ⟨⟨i11,i12⟩,⟨i21,i22⟩,⟨i31,i32⟩,⟨i41,i42⟩,⟨i51,i52⟩,_,ientry⟩:=id hin
 cases aR with
 | true =>
  have hal:anewR d ws (bareOf h)=(E,ws',d'):=by rw [if_neg (by simp)] at hres;exact hres
  clear hres;have y0:=kh8.cell 0 _ rfl;have y1:=kh8.cell 1 _ rfl;have y2:=kh8.cell 2 _ rfl;have y3:=kh8.cell 3 _ rfl;have y4:=kh8.cell 4 _ rfl;have y5:=kh8.cell 5 _ rfl;have y6:=kh8.cell 6 _ rfl;have Han:=Lib.hid (rkAnew hd8 pi (by omega) hw8 (bareOf h) ⟨⟨i11,i12⟩,⟨i21,i22⟩,⟨i31,i32⟩,⟨i41,i42⟩,⟨i51,i52⟩,hfew,ientry⟩ rfl Hdn.out hfew _ rl8 (fun _ k hk=>H3X.out k hk) (fun _=>h3g) hal);clear hd8 hw8 kh8 rl8 hal haW;go_wp2_with fail
  refine Han.out.mono ?_;rintro e w9 hdid;have hr:=hdid.1;subst hr;have Hfin:=Lib.hid (RkSaved.of HXl.out HXr.out bw8 HoN.out hdid);clear hdid;go_wp2_with fail
  go_ret
  exact Hfin.out
 | false =>
 rw [if_pos rfl] at hres;have HresF:=Lib.hid hres;clear hres haW;have hsz8:=bw8.size;obtain ⟨bV,hbV⟩:∃ b:Bool,((h.term !=ws.h.term) || (h.vote !=ws.h.vote))=b:=⟨_,rfl⟩;have HbV:=Lib.hid hbV;clear hbV;go_upto_region 14 with (fail)
 go_cut [152] from 135 (fun q wi=>q=.bool bV∧Below w8.heap.size w8 wi)
 case first=>as_aux_lemma =>
  have c1:∀ z:After w8,z.1.cell? ⟨gw,1,none⟩=some (.int .i64 ws.h.term):=fun z=>(hw8.ext z.2).blk.cell 1 _ rfl;have c2:∀ z:After w8,z.1.cell? ⟨gw,2,none⟩=some (.int .i64 ws.h.vote):=fun z=>(hw8.ext z.2).blk.cell 2 _ rfl;have a0:∀ z:After w8,z.1.cell? ⟨w.heap.size,0,none⟩=some (.int .i64 h.term):=fun z=>(kh8.ext z.2).cell 0 _ rfl;have a1:∀ z:After w8,z.1.cell? ⟨w.heap.size,1,none⟩=some (.int .i64 h.vote):=fun z=>(kh8.ext z.2).cell 1 _ rfl;clear hd8 hw8 kh8 rl8 bw8
  by_cases q1:h.term=ws.h.term
  ·have r1:(h.term !=ws.h.term)=false:=by simpa using q1
   by_cases q2:h.vote=ws.h.vote
   ·have r2:(h.vote !=ws.h.vote)=false:=by simpa using q2
    have Hr:=Lib.hid (show false=bV from by rw [←HbV.out,r1,r2];rfl);clear q1 q2 HbV;refine wp_region_after (by kernel_rfl) (by kernel_rfl) ?_
    repeat (go_big_quiet_step (fail))
    refine wpQuiet_nil ?_;rintro _ ⟨⟨w7,c7⟩,rfl⟩;go_wp2_with fail
    go_meet
    exact ⟨by rw [←Hr.out],c7⟩
   ·have r2:(h.vote !=ws.h.vote)=true:=by simpa using q2
    have Hr:=Lib.hid (show true=bV from by rw [←HbV.out,r1,r2];rfl);clear q1 q2 HbV;refine wp_region_after (by kernel_rfl) (by kernel_rfl) ?_
    repeat (go_big_quiet_step (fail))
    refine wpQuiet_nil ?_;rintro _ ⟨⟨w7,c7⟩,rfl⟩;go_wp2_with fail
    go_meet
    exact ⟨by rw [←Hr.out],c7⟩
  ·have r1:(h.term !=ws.h.term)=true:=by simpa using q1
   have Hr:=Lib.hid (show true=bV from by rw [←HbV.out,r1];rfl);clear q1 HbV;refine wp_region_after (by kernel_rfl) (by kernel_rfl) ?_
   repeat (go_big_quiet_step (fail))
   refine wpQuiet_nil ?_;rintro _ ⟨⟨w7,c7⟩,rfl⟩;go_wp2_with fail
   go_meet
   exact ⟨by rw [←Hr.out],c7⟩
 case rest=>as_aux_lemma =>
 obtain ⟨rfl,b89⟩:=hcut;obtain ⟨w9,hw9e⟩:∃ z,z=wc:=⟨_,rfl⟩;subst hw9e;have kh9:=kh8.ext b89;have bw9:=bw8.trans (b89.mono hsz8);have hsz9:=bw9.size;have hB89:=b89.size;go_upto_if 152 with (fail)
 go_cut [8] from 153 (fun o wi=>OwnB wi w8.heap.size 5 o (if bV then recB [4,h.term,h.vote] else [])∧Below w8.heap.size w8 wi)
 case first=>as_aux_lemma =>
  have y0:=kh9.cell 0 _ rfl;have y1:=kh9.cell 1 _ rfl;have y2:=kh9.cell 2 _ rfl;have y3:=kh9.cell 3 _ rfl;have y4:=kh9.cell 4 _ rfl;have y5:=kh9.cell 5 _ rfl;have y6:=kh9.cell 6 _ rfl;have kh9':=kh9;clear hd8 hw8 kh8 rl8 bw8 kh9 bw9
  cases bV with
  | false =>
   go_wp2_with fail
   go_meet
   exact ⟨OwnB.nil _ _ _,b89⟩
  | true =>
   have hi4:In64 4:=⟨by decide,by decide⟩;go_wp2_with fail
   have bL:=below_alloc w9 (.cells #[.int .i64 h.term,.int .i64 h.vote] 3);have lit:Rd intsE (w9.alloc (.cells #[.int .i64 h.term,.int .i64 h.vote] 3)) (.slice (some ⟨w9.heap.size,0,none⟩) 2 2) [h.term,h.vote]:=litI w9 #[.int .i64 h.term,.int .i64 h.vote] [h.term,h.vote] 2 _ rfl rfl rfl (by unfold maxLen;omega);refine (rkPut (.slice none 0 0) _ [] 4 [h.term,h.vote] _ (Bytes.nil _) lit (by simp) (by simp) hi4 (by intro y hy;simp only [List.mem_cons,List.not_mem_nil,or_false] at hy;rcases hy with rfl | rfl;exact ⟨i11,i12⟩;exact ⟨i21,i22⟩)).mono ?_;rintro e w10 ⟨q10,rfl,own10,b10⟩
   rw [List.nil_append] at own10;have h1:=own10.base (Nat.le_trans hB89 bL.size);have h2:=b89.trans ((bL.trans (b10.mono bL.size)).mono hB89);clear own10 b10;go_wp2_with fail
   go_meet
   exact ⟨h1,h2⟩
 case rest=>as_aux_lemma =>
 obtain ⟨own10,b8a⟩:=hcut;obtain ⟨w10,hw10e⟩:∃ z,z=wc:=⟨_,rfl⟩;subst hw10e;have kh10:=kh8.ext b8a;have rl10:=rl8.ext b8a;have hw10:=hw8.ext b8a;have hB8a:=b8a.size;clear kh9 bw9 hsz9 hB89 b89;have hVl:(if bV then recB [4,h.term,h.vote] else []).length≤100:=by
  have:=recB_le [4,h.term,h.vote];simp only [List.length_cons,List.length_nil] at this
  split
  ·omega
  ·simp
 obtain ⟨RV,hRV⟩:∃ z,z=(if bV then recB [4,h.term,h.vote] else []):=⟨_,rfl⟩;rw [←hRV] at own10 hVl;have HRV:=Lib.hid hRV;clear hRV;have hCle:=commonE_le h.log ws.h.log;have hmo:moreB ws.h h=(if h.term≠ws.h.term∨h.vote≠ws.h.vote then recB [4,h.term,h.vote] else [])++(if commonE h.log ws.h.log<ws.h.log.length then recB [5,h.base+commonE h.log ws.h.log] else [])++etysB (h.log.drop (commonE h.log ws.h.log)):=rfl
 have hat:∀ k,k≤commonE h.log ws.h.log→∀ (ha:k<h.log.length) (hb:k<ws.h.log.length),commonE h.log ws.h.log=if etyEq h.log[k] ws.h.log[k]=true then k+1+commonE (h.log.drop (k+1)) (ws.h.log.drop (k+1)) else k:=fun k hk ha hb=>commonE_at hk ha hb
 have Hmo:=Lib.hid hmo;have Hat:=Lib.hid hat;clear hmo hat;generalize commonE h.log ws.h.log=C at *;obtain ⟨po,co,hpo⟩:=own10.bytes.shape;subst hpo
 go_upto_block 0 with (fail)
 go_cut [9] from 160 (fun o wi=>o=.int .i64 (C:Int)∧Below w10.heap.size w10 wi)
 case first=>as_aux_lemma =>
  clear hd8 hw8 kh8 rl8 own10 HRV Hmo;go_wp2_with fail
  go_loopw [9] (fun i wr=>∃ k:Nat,k≤C∧i=.int .i64 k∧Below w10.heap.size w10 wr) (fun i _=>h.log.length - (intOf i).toNat)
  case atStart=>exact ⟨0,Nat.zero_le _,rfl,Below.refl _ _⟩
  case round =>
   obtain ⟨k,hk,rfl,hbw⟩:=hrel;have hi0:(0:Int)≤(k:Int):=by omega
   have hlr:∀ z:After wr,z.1.cell? ⟨w.heap.size,6,none⟩=some (.slice p3 h.log.length c3):=fun z=>((kh10.ext hbw).ext z.2).cell 6 _ rfl;have hls:∀ z:After wr,z.1.cell? ⟨gw,7,none⟩=some (.slice qv ws.h.log.length cv):=fun z=>((hw10.ext hbw).ext z.2).blk.cell 7 _ rfl;have hrr:=rl10.ext hbw;have hrs:=(hw10.ext hbw).log;clear hw10 kh10 rl10
   by_cases ha:k<h.log.length
   ·have ha1:(k:Int)<(h.log.length:Int):=by omega
    by_cases hb:k<ws.h.log.length
    ·have hb1:(k:Int)<(ws.h.log.length:Int):=by omega
     obtain ⟨ba,oa,rfl⟩:=Rd.blk hrr (by omega);obtain ⟨bb,ob,rfl⟩:=Rd.blk hrs (by omega);have a0:=fun z:After wr=>(ety3 (hrr.ext z.2) ha).1;have a1:=fun z:After wr=>(ety3 (hrr.ext z.2) ha).2.1;have a2:=fun z:After wr=>(ety3 (hrr.ext z.2) ha).2.2;have b0:=fun z:After wr=>(ety3 (hrs.ext z.2) hb).1;have b1:=fun z:After wr=>(ety3 (hrs.ext z.2) hb).2.1;have b2:=fun z:After wr=>(ety3 (hrs.ext z.2) hb).2.2;have hak:=Hat.out k hk ha hb;have Hak:=Lib.hid hak;clear hak Hat hrr hrs;generalize h.log[k]=x at *;generalize ws.h.log[k]=y at *;have heql:=fun (z:World)=>eql_ety x y z
     cases he:etyEq x y with
     | true =>
      rw [he] at heql Hak;have Hk1:=Lib.hid (show k+1≤C by have:=Hak.out;rw [if_pos rfl] at this;omega);clear he Hak;go_wp2_with fail
      refine wp_region_after (by kernel_rfl) (by kernel_rfl) ?_
      repeat (go_big_quiet_step (fail))
      refine wpQuiet_nil ?_;rintro _ ⟨⟨w11,c11⟩,rfl⟩;go_wp2_with fail
      go_roundw
      case rel=>exact ⟨k+1,Hk1.out,by go_num,hbw.trans (c11.mono hbw.size)⟩
      case measure=>simp [intOf];omega
     | false =>
      rw [he] at heql Hak;have Hke:=Lib.hid (show C=k by have:=Hak.out;rw [if_neg (by simp)] at this;exact this);clear he Hak;go_wp2_with fail
      refine wp_region_after (by kernel_rfl) (by kernel_rfl) ?_
      repeat (go_big_quiet_step (fail))
      refine wpQuiet_nil ?_;rintro _ ⟨⟨w11,c11⟩,rfl⟩;go_wp2_with fail
      go_meet
      exact ⟨by rw [Hke.out],hbw.trans (c11.mono hbw.size)⟩
    ·have hb1:¬ (k:Int)<(ws.h.log.length:Int):=by omega
     have hke:C=k:=by omega
     have Hke:=Lib.hid hke;clear hke hrr hrs;go_wp2_with fail
     refine wp_region_after (by kernel_rfl) (by kernel_rfl) ?_
     repeat (go_big_quiet_step (fail))
     refine wpQuiet_nil ?_;rintro _ ⟨⟨w11,c11⟩,rfl⟩;go_wp2_with fail
     go_meet
     exact ⟨by rw [Hke.out],hbw.trans (c11.mono hbw.size)⟩
   ·have ha1:¬ (k:Int)<(h.log.length:Int):=by omega
    have hke:C=k:=by omega
    have Hke:=Lib.hid hke;clear hke hrr hrs;go_wp2_with fail
    refine wp_region_after (by kernel_rfl) (by kernel_rfl) ?_
    repeat (go_big_quiet_step (fail))
    refine wpQuiet_nil ?_;rintro _ ⟨⟨w11,c11⟩,rfl⟩;go_wp2_with fail
    go_meet
    exact ⟨by rw [Hke.out],hbw.trans (c11.mono hbw.size)⟩
 case rest=>as_aux_lemma =>
 obtain ⟨rfl,b1b⟩:=hcut;obtain ⟨w11,hw11e⟩:∃ z,z=wc:=⟨_,rfl⟩;subst hw11e;have b8b:=b8a.trans (b1b.mono hB8a);have hB8b:=b8b.size;have own11:=own10.ext b1b;have kh11:=kh10.ext b1b;have rl11:=rl10.ext b1b;have hw11:=hw10.ext b1b;clear own10 kh10 rl10 hw10 Hat b1b b8a hB8a;obtain ⟨hCl,hCs⟩:=hCle;have hC200:(C:Int)≤200:=by omega
 have hC0:(0:Int)≤(C:Int):=by omega
 have hs1:(-9223372036854775808:Int)≤h.base+(C:Int):=by omega
 have hs2:h.base+(C:Int)≤9223372036854775807:=by omega
 obtain ⟨b3,hb3⟩:∃ b:Bool,decide (C<ws.h.log.length)=b:=⟨_,rfl⟩;go_upto_region 19 with (fail)
 go_cut [200] from 193 (fun q wi=>q=.bool b3∧Below w11.heap.size w11 wi)
 case first=>as_aux_lemma =>
  have c7:w11.cell? ⟨gw,7,none⟩=some (.slice qv ws.h.log.length cv):=hw11.blk.cell 7 _ rfl;clear hd8 hw8 kh8 rl8 own11 kh11 rl11 hw11 HRV Hmo HresF
  by_cases e3:C<ws.h.log.length
  ·have hi:(C:Int)<(ws.h.log.length:Int):=by omega
   have hb:true=b3:=by rw [←hb3,decide_eq_true e3]
   subst hb;clear hb3 e3;go_wp2_with fail
   go_meet
   exact ⟨rfl,Below.refl _ _⟩
  ·have hi:¬ (C:Int)<(ws.h.log.length:Int):=by omega
   have hb:false=b3:=by rw [←hb3,decide_eq_false e3]
   subst hb;clear hb3 e3;go_wp2_with fail
   go_meet
   exact ⟨rfl,Below.refl _ _⟩
 case rest=>as_aux_lemma =>
 obtain ⟨rfl,b1c⟩:=hcut;obtain ⟨w12,hw12e⟩:∃ z,z=wc:=⟨_,rfl⟩;subst hw12e;have b8c:=b8b.trans (b1c.mono hB8b);have hB8c:=b8c.size;have own12:=own11.ext b1c;have kh12:=kh11.ext b1c;clear own11 kh11 rl11 hw11 b1c b8b hB8b;have Hb3:=Lib.hid hb3;clear hb3;go_upto_if 200 with (fail)
 go_cut [8] from 201 (fun o wi=>OwnB wi w8.heap.size 5 o (RV++(if b3 then recB [5,h.base+(C:Int)] else []))∧Below w8.heap.size w8 wi)
 case first=>as_aux_lemma =>
  have y2:=kh12.cell 2 _ rfl;have bytes12:=own12.bytes;clear hd8 hw8 kh8 rl8 kh12 bw8 HRV Hmo HresF
  cases b3 with
  | false =>
   go_wp2_with fail
   go_meet
   exact ⟨by rw [if_neg (by simp),List.append_nil];exact own12,b8c⟩
  | true =>
   clear own12;have hi5:In64 5:=⟨by decide,by decide⟩;go_wp2_with fail
   have bL:=below_alloc w12 (.cells #[.int .i64 (h.base+(C:Int))] 3);have lit:Rd intsE (w12.alloc (.cells #[.int .i64 (h.base+(C:Int))] 3)) (.slice (some ⟨w12.heap.size,0,none⟩) 1 1) [h.base+(C:Int)]:=litI w12 #[.int .i64 (h.base+(C:Int))] [h.base+(C:Int)] 1 _ rfl rfl rfl (by unfold maxLen;omega);refine (rkPut (.slice po RV.length co) _ RV 5 [h.base+(C:Int)] _ (bytes12.ext bL) lit (by omega) (by simp) hi5 (by intro y hy;simp only [List.mem_cons,List.not_mem_nil,or_false] at hy;rw [hy];exact ⟨hs1,hs2⟩)).mono ?_;rintro e w13 ⟨q13,rfl,own13,b13⟩;have h1:=own13.base (Nat.le_trans hB8c bL.size)
   have h2:=b8c.trans ((bL.trans (b13.mono bL.size)).mono hB8c);clear own13 b13;go_wp2_with fail
   go_meet
   exact ⟨h1,h2⟩
 case rest=>as_aux_lemma =>
 obtain ⟨own13,b8d⟩:=hcut;obtain ⟨w13,hw13e⟩:∃ z,z=wc:=⟨_,rfl⟩;subst hw13e;have kh13:=kh8.ext b8d;have rl13:=rl8.ext b8d;have hB8d:=b8d.size;clear kh12 own12 b8c hB8c hs1 hs2;have hCC:(if b3 then recB [5,h.base+(C:Int)] else []).length≤100:=by
  have:=recB_le [5,h.base+(C:Int)];simp only [List.length_cons,List.length_nil] at this
  split
  ·omega
  ·simp
 obtain ⟨OF,hOF⟩:∃ z,z=RV++(if b3 then recB [5,h.base+(C:Int)] else []):=⟨_,rfl⟩;have hOFl:OF.length≤200:=by rw [hOF,List.length_append];omega
 rw [←hOF] at own13;have hbt:OF++etysB (h.log.drop C)=moreB ws.h h:=by
  rw [Hmo.out,hOF];have e1:(if h.term≠ws.h.term∨h.vote≠ws.h.vote then recB [4,h.term,h.vote] else [])=RV:=by rw [HRV.out, ←HbV.out];simp
  have e2:(if C<ws.h.log.length then recB [5,h.base+(C:Int)] else [])=(if b3 then recB [5,h.base+(C:Int)] else []):=by rw [←Hb3.out];simp
  rw [e1,e2]
 have hel:(OF++etysB (h.log.drop C)).length≤100000000:=by
  have h1:=etysB_le (l:=h.log.drop C) (fun x hx=>(ientry x (List.mem_of_mem_drop hx)).2.2);rw [List.length_append];rw [List.length_drop] at h1;omega
 have Hbt:=Lib.hid hbt;have Hel:=Lib.hid hel;clear hbt hel hOF HRV Hmo HbV Hb3 hCC hVl;obtain ⟨po2,co2,hpo2⟩:=own13.bytes.shape;subst hpo2
 go_upto_block 2 with (fail)
 go_cut [8] from 209 (fun o wi=>OwnB wi w8.heap.size 5 o (OF++etysB (h.log.drop C))∧Below w8.heap.size w8 wi)
 case first=>as_aux_lemma =>
  clear hd8 hw8 kh8 rl8 bw8 HresF;go_wp2_with fail
  go_loopw [8,10] (fun o i wr=>∃ k:Nat,C≤k∧k≤h.log.length∧i=.int .i64 k∧OwnB wr w8.heap.size 5 o (OF++etysB ((h.log.drop C).take (k - C)))∧Below w13.heap.size w13 wr) (fun _ i _=>h.log.length - (intOf i).toNat)
  case atStart=>exact ⟨C,Nat.le_refl _,hCl,rfl,by rw [Nat.sub_self,List.take_zero,show etysB []=[] from rfl,List.append_nil];exact own13,Below.refl _ _⟩
  case round =>
   obtain ⟨k,hCk,hk,rfl,own,hbw⟩:=hrel;have x6:=(kh13.ext hbw).cell 6 _ rfl;have hszr:=hbw.size;have b8r:=b8d.trans (hbw.mono hB8d);have hB8r:=b8r.size;clear own13;obtain ⟨pr2,cr2,rfl⟩:=own.bytes.shape
   by_cases hlt:k<h.log.length
   ·have hur:=rl13.ext hbw;obtain ⟨bb,off,rfl⟩:=Rd.blk hur (by omega);obtain ⟨z0,z1,z2⟩:=ety3 hur hlt;have hxin:=ientry h.log[k] (List.getElem_mem hlt);have hel:(OF++etysB ((h.log.drop C).take (k - C))).length≤1200000000:=by
     have h1:=etysB_le (l:=(h.log.drop C).take (k - C)) (fun x hx=>(ientry x (List.mem_of_mem_drop (List.mem_of_mem_take hx))).2.2);rw [List.length_append];rw [List.length_take,List.length_drop] at h1;omega
    have hst:OF++etysB ((h.log.drop C).take (k+1 - C))=(OF++etysB ((h.log.drop C).take (k - C)))++etyB h.log[k]:=by
     have hg:(h.log.drop C)[k - C]'(by rw [List.length_drop];omega)=h.log[k]:=by rw [List.getElem_drop];congr 1;omega
     rw [show k+1 - C=(k - C)+1 from by omega,List.take_succ_eq_append_getElem (by rw [List.length_drop];omega),etysB_snoc,hg,List.append_assoc]
    have Hst:=Lib.hid hst;have hi:(k:Int)<(h.log.length:Int):=by omega
    have hi0:(0:Int)≤(k:Int):=by omega
    clear hst;generalize h.log[k]=x at *;generalize OF++etysB ((h.log.drop C).take (k - C))=O at *;go_wp2_with fail
    have hpe:=rkPutEntry _ O x wr own.bytes (by omega) hxin;unfold etyV at hpe
    with_reducible refine hpe.mono ?_
    rintro e w3' ⟨q3,rfl,own3,b3'⟩;go_wp2_with fail
    go_roundw
    case rel=>exact ⟨k+1,by omega,by omega,by go_num,by rw [Hst.out];exact own3.base hB8r,hbw.trans (b3'.mono hszr)⟩
    case measure=>simp [intOf];omega
   ·have hke:k=h.log.length:=by omega
    have hi:¬ (k:Int)<(h.log.length:Int):=by omega
    have hown:OwnB wr w8.heap.size 5 (.slice pr2 (OF++etysB ((h.log.drop C).take (k - C))).length cr2) (OF++etysB (h.log.drop C)):=by
     have h1:=own;rw [hke,List.take_of_length_le (by rw [List.length_drop];omega)] at h1 ⊢;exact h1
    have Hown:=Lib.hid hown;clear hown hke own;go_wp2_with fail
    go_meet
    refine ⟨?_,b8r⟩;have h1:=Hown.out;rw [List.length_append] at h1;exact h1
 case rest=>as_aux_lemma =>
 obtain ⟨own14,b8e⟩:=hcut;obtain ⟨w14,hw14e⟩:∃ z,z=wc:=⟨_,rfl⟩;subst hw14e;rw [Hbt.out] at own14;have hel:=Hel.out;rw [Hbt.out] at hel;clear own13 kh13 rl13 b8d hB8d Hbt Hel;have hB8e:=b8e.size;have hX'':∃ X3:Nat→Prop,X3=fun k=>X2 k∨(w8.heap.size≤k∧k<w14.heap.size):=⟨_,rfl⟩;obtain ⟨X3,hX3⟩:=hX'';have hXl3:∀ k,X2 k→X3 k:=fun k hk=>by rw [hX3];exact .inl hk
 have hqX:=fun k hk=>(show X3 k from by have:=own14.lt k hk;rw [hX3];exact .inr this);have hd14:RfS w0 X3 g d w14:=hd8.more b8e (fun k hk=>by rw [hX3] at hk;exact hk);have hw14:=hw8.ext b8e;have kh14:=kh8.ext b8e;have rl14:=rl8.ext b8e;have HX3l:=Lib.hid hXl3;have hcm:∀ wz,Chg (Gx w0 X3) w14 wz→Chg (Gx w0 X2) w8 wz:=fun wz hc=>(Chg.of_below (F:=Gx w0 X2) b8e).step (hc.mono fun k _ hk=>⟨hk.1,fun h=>hk.2 (hXl3 k h)⟩);have Hcm:=Lib.hid hcm;clear hX3 hXl3 hcm hd8 hw8 kh8 rl8;obtain ⟨E1,D1,hap⟩:∃ E1 D1,appendD d (nameW ws.n) (moreB ws.h h)=(E1,D1):=⟨_,_,rfl⟩
 have hwr:writeD d ws.n (moreB ws.h h)=thenD (appendD d (nameW ws.n) (moreB ws.h h)) fun d=>syncD d (nameW ws.n):=rfl;rw [hap] at hwr;have pi1:PInv (m+1) D1:=by have:=pi.append (nameW ws.n) (moreB ws.h h);rw [hap] at this;exact this
 have hra:=rAppend hd14 (pi.ok (by omega)) (s:=((⟨#[119,97,108,46]⟩:ByteArray)++(⟨(Lib.decDigits (ws.n)).toArray⟩:ByteArray))) (p:=moreB ws.h h) (E:=E1) (d':=D1) (by rw [hcat.out];exact hap) (by rw [hcat.out,nameR_len];omega) (by omega) own14.bytes (fun _ k hk=>.inr (hqX k hk));have Hwr:=Lib.hid hwr;have d0:=hw14.c0;clear hwr hap;obtain ⟨pq,cq,hpq⟩:=own14.bytes.shape;subst hpq;clear own14 hqX;go_wp2_with fail
 with_reducible refine hra.mono ?_
 rintro e w15 ⟨rfl,hd15,ch15⟩;have hw15:=hw14.keep2 HX3l.out ch15;clear hra d0 hd14
 by_cases hE1:E1=0
 case neg =>
  have hi:(E1 !=0)=true:=by simpa using hE1
  have hwE:writeD d ws.n (moreB ws.h h)=(E1,D1):=Hwr.out.trans (if_neg hE1);have hres:E=E1∧ws'=⟨ws.n,ws.h,true⟩∧d'=D1:=by
   have h1:=HresF.out;rw [hwE] at h1;unfold keepR at h1;rw [if_neg hE1] at h1
   simpa using h1.symm
  obtain ⟨rfl,rfl,rfl⟩:=hres;have c9:=hw15.c9;have f9:=hw15.blk.frozen 9;have Hfin:=Lib.hid (RkSaved.of HXl.out HXr.out bw8 HoN.out (RkDid.down (u:=.slice p3 h.log.length c3) (E:=E) hd15 HX3l.out hw15 (Hcm.out _ ch15)));clear hw15 hd15 ch15 hE1 hw14 kh14 rl14;go_wp2_with fail
  go_ret
  exact Hfin.out
 subst hE1;obtain ⟨E2,D2,hsy⟩:∃ E2 D2,syncD D1 (nameW ws.n)=(E2,D2):=⟨_,_,rfl⟩;have hwE:writeD d ws.n (moreB ws.h h)=(E2,D2):=Hwr.out.trans ((if_pos rfl).trans hsy);have hrs:=rSync hd15 (pi1.ok (by omega)) (s:=((⟨#[119,97,108,46]⟩:ByteArray)++(⟨(Lib.decDigits (ws.n)).toArray⟩:ByteArray))) (E:=E2) (d':=D2) (by rw [hcat.out];exact hsy);have HwE:=Lib.hid hwE;have d0:=hw15.c0;clear hsy hwE Hwr;go_wp2_with fail
 with_reducible refine hrs.mono ?_
 rintro e w16 ⟨rfl,hd16,ch16⟩;have hw16:=hw15.keep2 HX3l.out ch16;have ch46:=ch15.step ch16;have kh16:=ch46.blk kh14 (fun hG=>hG.2 (HX3l.out _ hgX));have rl16:=rl14.chgE ch46 (fun hne k hk hG=>hG.2 (HX3l.out _ (H3X.out k hk)));clear hrs d0 hd15 hw15 hw14 ch15 ch16 kh14 rl14
 by_cases hE2:E2=0
 case neg =>
  have hi:(E2 !=0)=true:=by simpa using hE2
  have hres:E=E2∧ws'=⟨ws.n,ws.h,true⟩∧d'=D2:=by
   have h1:=HresF.out;rw [HwE.out] at h1;unfold keepR at h1;rw [if_neg hE2] at h1
   simpa using h1.symm
  obtain ⟨rfl,rfl,rfl⟩:=hres;have c9:=hw16.c9;have f9:=hw16.blk.frozen 9;have Hfin:=Lib.hid (RkSaved.of HXl.out HXr.out bw8 HoN.out (RkDid.down (u:=.slice p3 h.log.length c3) (E:=E) hd16 HX3l.out hw16 (Hcm.out _ ch46)));clear hw16 hd16 ch46 rl16 kh16 hE2;go_wp2_with fail
  go_ret
  exact Hfin.out
 subst hE2;have hres:E=0∧ws'=⟨ws.n,bareOf h,ws.down⟩∧d'=D2:=by
  have h1:=HresF.out;rw [HwE.out] at h1;unfold keepR at h1;rw [if_pos rfl] at h1;rw [Hdn.out]
  simpa using h1.symm
 obtain ⟨rfl,rfl,rfl⟩:=hres;have Hfin:=Lib.hid (RkSaved.of HXl.out HXr.out bw8 HoN.out (RkDid.keptB (h:=h) hd16 HX3l.out hw16 (Hcm.out _ ch46) rl16 (fun _ k hk=>H3X.out k hk) (fun _=>h3g) hfew));have y0:=kh16.cell 0 _ rfl;have y1:=kh16.cell 1 _ rfl;have y2:=kh16.cell 2 _ rfl;have y3:=kh16.cell 3 _ rfl;have y4:=kh16.cell 4 _ rfl;have y5:=kh16.cell 5 _ rfl;have y6:=kh16.cell 6 _ rfl;have x1:=hw16.blk.cell 1 _ rfl;have xf1:=hw16.blk.frozen 1;have x2:=hw16.blk.cell 2 _ rfl;have xf2:=hw16.blk.frozen 2;have x3:=hw16.blk.cell 3 _ rfl;have xf3:=hw16.blk.frozen 3;have x4:=hw16.blk.cell 4 _ rfl
 have xf4:=hw16.blk.frozen 4;have x5:=hw16.blk.cell 5 _ rfl;have xf5:=hw16.blk.frozen 5;have x6:=hw16.blk.cell 6 _ rfl;have xf6:=hw16.blk.frozen 6;have x7:=hw16.blk.cell 7 _ rfl;have xf7:=hw16.blk.frozen 7;clear hw16 hd16 ch46 rl16 kh16 HresF HwE;go_wp2_with fail
 go_ret
 exact Hfin.out
end
end Go.Proofs.YtgpgcnmnfnnkjaaGreatDoor
