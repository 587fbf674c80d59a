import Derived.Test.YtgpgcnmnfnnkjaaGreatDoorGStorePlays34
set_option linter.unusedVariables false
set_option linter.unusedSimpArgs false
set_option maxRecDepth 100000
set_option maxHeartbeats 16000000
namespace Go.Proofs.YtgpgcnmnfnnkjaaGreatDoor
section
open Go Go.RowKit Go.PlainAid BigFrame
attribute [local go_sem] After.same
structure Mk (w w':World) (r:Value) (l:List UInt8):Prop where
 byt:Bytes w' r l
 loc:∀ k,r.ownBlock=some k→w.heap.size≤k
theorem Mk.ext {w w' w2:World} {r:Value} {l:List UInt8} (h:Mk w w' r l) (hb:Below w'.heap.size w' w2):Mk w w2 r l:=⟨h.byt.ext hb,h.loc⟩

theorem walMore {w0 w:World} {X:Nat→Prop} {g gw:Nat} {d d':Dk} {v:Value} {ws:Wl} (T0:∀ z,Below w0.heap.size w0 z→TabW z) (hd:DwS w0 X g d w) (hb0:Below w0.heap.size w0 w) {m:Nat} (pi:PInv m d) (hm:m≤890) (hw:WalV w X g gw v ws) (h:Hrd) (hin:HrdIn h) (hbase:0≤h.base∧h.base≤1099511627776) (u:Value) (hu:Rd etyE w u h.log) {E:Int} (he:writeD d ws.n (moreB ws.h h)=(E,d')) :
 Calls Tryz.prog 72 #[.pointer (some ⟨gw,0,none⟩),hrdA h u] w (LaidW w0 w X g gw v ws E ws.n d'):=by
 obtain ⟨p,cap,rfl⟩:=hu.shape;obtain ⟨q,caq,rfl⟩:=hw.log.shape;have He:=Lib.hid he;obtain ⟨i1,i2,i3,i4,i5,i6,i7⟩:=hin;obtain ⟨hbs0,hbs1⟩:=hbase;have hgl:=hw.blk.lt;have hnum:=hw.num;have hHs:(w.alloc (.cells #[.int .i64 h.term,.int .i64 h.vote,.int .i64 h.base,.int .i64 h.bterm,.int .i64 h.members,.string h.snap,.slice p h.log.length cap] 24)).heap.size=w.heap.size+1:=by simp
 have c2:=hw.c2;have c3:=hw.c3;have hq:=fun (k:Nat)=>And.intro ((Blk.new w #[.int .i64 h.term,.int .i64 h.vote,.int .i64 h.base,.int .i64 h.bterm,.int .i64 h.members,.string h.snap,.slice p h.log.length cap] 24).drewN k) ((below_alloc w (.cells #[.int .i64 h.term,.int .i64 h.vote,.int .i64 h.base,.int .i64 h.bterm,.int .i64 h.members,.string h.snap,.slice p h.log.length cap] 24)).trans (below_drawn w.heap.size (w.alloc (.cells #[.int .i64 h.term,.int .i64 h.vote,.int .i64 h.base,.int .i64 h.bterm,.int .i64 h.members,.string h.snap,.slice p h.log.length cap] 24)) k));have Hq:=Lib.hid hq
 have hCle:=commonE_le h.log ws.h.log;have hmo:moreB ws.h h=(if h.term≠ws.h.term∨h.vote≠ws.h.vote then recB [4,h.term,h.vote] else [])++(if commonE h.log ws.h.log<ws.h.log.length then recB [5,h.base+commonE h.log ws.h.log] else [])++etysB (h.log.drop (commonE h.log ws.h.log)):=rfl;have Hmo:=Lib.hid hmo;have hcom:=fun (z:World) hz=>walCommon _ _ _ _ z (hu.ext hz) (hw.log.ext hz);clear hq he hmo;obtain ⟨C,hC⟩:∃ C,C=commonE h.log ws.h.log:=⟨_,rfl⟩;rw [←hC] at hCle Hmo hcom;clear hC
 by_cases e3:C<ws.h.log.length
 ·by_cases e1:h.term=ws.h.term
  ·by_cases e2:h.vote=ws.h.vote
   ·have hA:(if h.term≠ws.h.term∨h.vote≠ws.h.vote then recB [4,h.term,h.vote] else [])=[]:=if_neg (fun hx=>hx.elim (fun k=>k e1) (fun k=>k e2));have hB:(if C<ws.h.log.length then recB [5,h.base+C] else [])=recB [5,h.base+C]:=if_pos e3;have Hb:=Lib.hid (Hmo.out.trans (by rw [hA,hB]));have n1:(h.term !=ws.h.term)=false:=by simpa using e1
    have n2:(h.vote !=ws.h.vote)=false:=by simpa using e2
    have n3:(C:Int)<(ws.h.log.length:Int):=by omega
    clear hA hB e1 e2 e3 Hmo;go_enter Tryz.func72,Tryz.ntmps72
    go_wp2
    go_quiet (fail)
    obtain ⟨kq,bq⟩:=Hq.out nq
    try rw [World.drewN_drewN] at kq bq
    generalize (w.alloc (.cells #[.int .i64 h.term,.int .i64 h.vote,.int .i64 h.base,.int .i64 h.bterm,.int .i64 h.members,.string h.snap,.slice p h.log.length cap] 24)).drewN nq=wq at *;have kc:=kq;have bc:=bq;have mk:Mk w wq (.slice none 0 0) []:=⟨Bytes.nil wq,fun k hk=>by simp [Value.ownBlock] at hk⟩;have hOl:([]:List UInt8).length≤100:=by decide
    generalize wq=wc at *;have hcl:∀ z:After wc,Calls Tryz.prog 103 #[.slice p h.log.length cap,.slice q ws.h.log.length caq] z.1 fun e w'=>e=.returned (.int .i64 (C:Nat))∧∃ y:After wc,w'=y.1:=fun z=>z.call (hcom z.1 (bc.trans (z.2.mono bc.size)));have z6:∀ z:After wc,z.1.cell? ⟨w.heap.size,6,none⟩=some (.slice p h.log.length cap):=fun z=>(kc.ext z.2).cell 6 _ rfl;have z8:∀ z:After wc,z.1.cell? ⟨gw,8,none⟩=some (.slice q ws.h.log.length caq):=fun z=>(hw.ext (bc.trans (z.2.mono bc.size))).c8;go_wp2_with fail
    refine wp_region_after (by kernel_rfl) (by kernel_rfl) ?_
    repeat (go_big_quiet_step (exact hcl _))
    refine wpQuiet_nil ?_;rintro w7 ⟨⟨w8,c7⟩,hwz⟩;obtain rfl:w7=w8:=hwz;clear hcl z6 z8;have k7:=kc.ext c7;have b7:=bc.trans (c7.mono bc.size);have mk7:=mk.ext c7;have hw7:=hw.ext b7;have y8:=hw7.c8;clear mk kc;have x2:=k7.cell 2 _ rfl;have lit2:=litI w7 #[.int .i64 5,.int .i64 (h.base+C)] [5,h.base+C] 2 w7.heap.size rfl rfl rfl (by unfold maxLen;omega);have hcl2:=walNums _ [5,h.base+C] _ lit2 (by simp) (fun y hy=>by simp only [List.mem_cons,List.not_mem_nil,or_false] at hy;rcases hy with rfl | rfl;exact ⟨by decide,by decide⟩;exact ⟨by omega,by omega⟩)
    have bl2:=below_alloc w7 (.cells #[.int .i64 5,.int .i64 (h.base+C)] 3);have nl2:=numsB_le [5,h.base+C];simp only [List.length_cons,List.length_nil] at nl2
    have rl2:=recB_le [5,h.base+C];simp only [List.length_cons,List.length_nil] at rl2
    go_wp2_with fail
    refine hcl2.mono ?_;rintro e w9 ⟨r9,rfl,own9,b9⟩;have b79:=bl2.trans (b9.mono bl2.size);have mk9:=mk7.ext b79;go_wp2_with fail
    refine (walRecord _ r9 _ _ w9 mk9.byt own9.bytes (by omega) (by omega)).mono ?_;rintro e wA ⟨rA,rfl,ownA,bA⟩;have b7A:=b79.trans (bA.mono b79.size);have kF:=k7.ext b7A;have bF0:=b7.trans (b7A.mono b7.size);replace ownA:OwnB wA w9.heap.size 5 rA (([]:List UInt8)++recB [5,h.base+C]):=ownA;have mkF:Mk w wA rA (([]:List UInt8)++recB [5,h.base+C]):=⟨ownA.bytes,fun k hk=>by have:=(ownA.lt k hk).1;have:=b79.size;have:=b7.size;omega⟩;have hOF:(([]:List UInt8)++recB [5,h.base+C]).length≤1000:=by rw [List.length_append];omega
    clear lit2 hcl2 own9 b9 bl2 mk9 mk7 ownA bA;generalize wA=wF at *;generalize hRB:(([]:List UInt8)++recB [5,h.base+C])=OF at *;obtain ⟨prF,crF,hrF⟩:=mkF.byt.shape;have hwF:=hw.ext bF0;have hdF:=hd.ext bF0;have huF:=hu.ext bF0;have hsub:=run_sub_from tEty (P:=Tryz.prog) huF .i64 (C:Int) C rfl hCle.1;have rsub:=huF.sub C h.log.length hCle.1 (Nat.le_refl _);rw [show (h.log.drop C).take (h.log.length - C)=h.log.drop C from List.take_of_length_le (by rw [List.length_drop];exact Nat.le_refl _),show etyE.sz=3 from rfl] at rsub;generalize subV (.slice p h.log.length cap) C h.log.length 3=vS at *
    subst hrF;go_wp2_with fail
    refine wp_region_F (n:=12) (S:=fun w':World=>w'.cell? ⟨gw,1,none⟩=some (.int .i64 (ws.n:Int))∧w'.cell? ⟨w.heap.size,6,none⟩=some (.slice p h.log.length cap)) (by kernel_rfl) ?_;have hHeld:(fun w':World=>w'.cell? ⟨gw,1,none⟩=some (.int .i64 (ws.n:Int))∧w'.cell? ⟨w.heap.size,6,none⟩=some (.slice p h.log.length cap)) wF.drew:=⟨hwF.c1,kF.cell 6 _ rfl⟩;refine tk ?_ 0 ?_ hHeld ?_;rotate_left
    ·rintro w ⟨_,_⟩;dsimp only [bare];go_simp<;>with_reducible rfl
    try simp only [lyB,lyP,lyA,lyZ,lyS]
    refine tk ?_ 1 ?_ hHeld ?_;rotate_left
    ·rintro w ⟨_,_⟩;dsimp only [bare];go_simp<;>with_reducible rfl
    try simp only [lyB,lyP,lyA,lyZ,lyS]
    refine tk ?_ 2 ?_ hHeld ?_;rotate_left
    ·rintro w ⟨_,_⟩;dsimp only [bare];go_simp<;>with_reducible rfl
    try simp only [lyB,lyP,lyA,lyZ,lyS]
    refine tk ?_ 3 ?_ hHeld ?_;rotate_left
    ·rintro w ⟨_,_⟩;dsimp only [bare];go_simp<;>with_reducible rfl
    try simp only [lyB,lyP,lyA,lyZ,lyS]
    refine tk ?_ 4 ?_ hHeld ?_;rotate_left
    ·rintro w ⟨_,_⟩;dsimp only [bare];go_simp<;>with_reducible rfl
    try simp only [lyB,lyP,lyA,lyZ,lyS]
    refine tk ?_ 5 ?_ hHeld ?_;rotate_left
    ·rintro w ⟨_,_⟩;dsimp only [bare];go_simp<;>with_reducible rfl
    try simp only [lyB,lyP,lyA,lyZ,lyS]
    refine tk ?_ 6 ?_ hHeld ?_;rotate_left
    ·rintro w ⟨_,_⟩;dsimp only [bare];go_simp<;>with_reducible rfl
    try simp only [lyB,lyP,lyA,lyZ,lyS]
    refine tk ?_ 7 ?_ hHeld ?_;rotate_left
    ·rintro w ⟨_,_⟩;dsimp only [bare];go_simp<;>with_reducible rfl
    try simp only [lyB,lyP,lyA,lyZ,lyS]
    refine tk ?_ 8 ?_ hHeld ?_;rotate_left
    ·rintro w ⟨_,_⟩;dsimp only [bare];go_simp<;>with_reducible rfl
    try simp only [lyB,lyP,lyA,lyZ,lyS]
    refine tk ?_ 9 ?_ hHeld ?_;rotate_left
    ·rintro w ⟨_,_⟩;dsimp only [bare];go_simp<;>with_reducible rfl
    try simp only [lyB,lyP,lyA,lyZ,lyS]
    refine wpAnyF_one 10 _ _ _ rfl (by kernel_rfl) (fun K hK=>?_);dsimp only [bare];go_simp;have bD:=below_drew wF.heap.size wF;refine (walEntries _ vS OF (h.log.drop C) wF.drew (mkF.byt.ext bD) (rsub.ext bD) (by omega) (by rw [List.length_drop];omega) (fun x hx=>i7 x (List.mem_of_mem_drop hx))).mono ?_;rintro e wG ⟨rG,rfl,byG,locG,bG⟩;dsimp only;have bFG:Below wF.heap.size wF wG:=bD.trans bG;have hwG:=hwF.ext bFG;have kG:=kF.ext bFG;have b0G:=bF0.trans (bFG.mono bF0.size);refine hK _ _ ⟨hwG.c1,kG.cell 6 _ rfl⟩ (fun hHeld=>?_);clear hK K
    try simp only [lyB,lyP,lyA,lyZ,lyS]
    refine wpAnyF_one 11 _ _ _ rfl (by kernel_rfl) (fun K hK=>?_);dsimp only [bare];go_simp;have hbt:OF++etysB (h.log.drop C)=moreB ws.h h:=by first | exact Hb.out.symm | (have hz:=Hb.out;rw [List.append_nil] at hz;exact hz.symm) | (have hz:=Hb.out;rw [←hRB] at hz ⊢; exact hz.symm) | (rw [←hRB];exact Hb.out.symm)
    rw [hbt] at byG;have hlG:∀ k,moreB ws.h h≠[]→rG.ownBlock=some k→w.heap.size≤k∧k<wG.heap.size:=fun k hne hk=>by
     refine ⟨?_,?_⟩
     ·rcases locG k hk with e | e
      ·exact mkF.loc k e
      ·have:=bF0.size;have:wF.drew.heap.size=wF.heap.size:=rfl;omega
     ·exact Cells.lt byG (by rw [List.length_map];exact List.length_pos_iff.2 hne) k hk
    have hdG:DwS w0 (fun k=>X k∨((moreB ws.h h≠[]∧rG.ownBlock=some k)∨k=w.heap.size)) g d wG:=hd.more b0G (fun k hk=>hk.imp id (fun e=>e.elim (fun e=>hlG k e.1 e.2) (fun e=>by have:=kG.lt;omega)));have hwG':=hwG.mono (Y:=fun k=>X k∨((moreB ws.h h≠[]∧rG.ownBlock=some k)∨k=w.heap.size)) (fun k hk=>.inl hk);have hb0G:Below w0.heap.size w0 wG:=hb0.trans (b0G.mono hb0.size);refine (walWrite hdG pi (by omega) hwG' ws.n _ rfl (by omega) rG (moreB ws.h h) byG (fun hne k hk=>.inr (.inr (.inl ⟨hne,hk⟩))) (fun z hz=>T0 z (hb0G.trans (hz.gx hb0G.size))) He.out).mono ?_;rintro e wH ⟨rfl,hdH,hwH,chH⟩;dsimp only
    have hdH':=hdH.mono (Y:=X) (fun k hk=>.inl hk);have hwH':WalV wH X g gw _ ws:=hwG.chg chH (fun k hk hG=>hG.2 (.inl hk));have chE:Chg (Gw w0 X gw) w wH:=(Chg.of_below b0G).step (chH.toGw (fun k hk=>.inl hk));have kH:wH.cell? ⟨w.heap.size,6,none⟩=some (.slice p h.log.length cap):=(chH.blk kG (fun hG=>hG.2 (.inr (.inr rfl)))).cell 6 _ rfl;refine hK _ _ ⟨hwH'.c1,kH⟩ (fun hHeld=>?_);clear hK K
    try simp only [lyB,lyP,lyA,lyZ,lyS]
    refine wpAnyF_end (some 4) (Op.assign (Operand.tmp 68)) 42 rfl (by kernel_rfl) (by kernel_rfl) (fun K hK=>?_);dsimp only [bare];go_simp;refine hK _ _ ?_;clear hK K
    try simp only [lyB,lyP,lyA,lyZ,lyS]
    go_wp2_with fail
    go_ret
    exact ⟨rfl,hdH',hwH',chE⟩
   ·have hA:(if h.term≠ws.h.term∨h.vote≠ws.h.vote then recB [4,h.term,h.vote] else [])=recB [4,h.term,h.vote]:=if_pos (.inr e2);have hB:(if C<ws.h.log.length then recB [5,h.base+C] else [])=recB [5,h.base+C]:=if_pos e3;have Hb:=Lib.hid (Hmo.out.trans (by rw [hA,hB]));have n1:(h.term !=ws.h.term)=false:=by simpa using e1
    have n2:(h.vote !=ws.h.vote)=true:=by simpa using e2
    have n3:(C:Int)<(ws.h.log.length:Int):=by omega
    clear hA hB e1 e2 e3 Hmo;go_enter Tryz.func72,Tryz.ntmps72
    go_wp2
    go_quiet (fail)
    obtain ⟨kq,bq⟩:=Hq.out nq
    try rw [World.drewN_drewN] at kq bq
    generalize (w.alloc (.cells #[.int .i64 h.term,.int .i64 h.vote,.int .i64 h.base,.int .i64 h.bterm,.int .i64 h.members,.string h.snap,.slice p h.log.length cap] 24)).drewN nq=wq at *;have a0:=kq.cell 0 _ rfl;have a1:=kq.cell 1 _ rfl;have lit1:=litI wq #[.int .i64 4,.int .i64 h.term,.int .i64 h.vote] [4,h.term,h.vote] 3 wq.heap.size rfl rfl rfl (by unfold maxLen;omega);have hcl1:=walNums _ [4,h.term,h.vote] _ lit1 (by simp) (fun y hy=>by simp only [List.mem_cons,List.not_mem_nil,or_false] at hy;rcases hy with rfl | rfl | rfl;exact ⟨by decide,by decide⟩;exact i1;exact i2)
    have bl1:=below_alloc wq (.cells #[.int .i64 4,.int .i64 h.term,.int .i64 h.vote] 3);have nl1:=numsB_le [4,h.term,h.vote];simp only [List.length_cons,List.length_nil] at nl1
    have rl1:=recB_le [4,h.term,h.vote];simp only [List.length_cons,List.length_nil] at rl1
    go_wp2_with fail
    refine hcl1.mono ?_;rintro e w1 ⟨r1,rfl,own1,b1⟩;have bq1:=bl1.trans (b1.mono bl1.size);go_wp2_with fail
    refine (walRecord _ r1 [] _ w1 (Bytes.nil w1) own1.bytes (by simp) (by omega)).mono ?_;rintro e w2 ⟨r2,rfl,own2,b2⟩;have bq2:=bq1.trans (b2.mono bq1.size);have kc:=kq.ext bq2;have bc:=bq.trans (bq2.mono bq.size);replace own2:OwnB w2 w1.heap.size 5 r2 (recB [4,h.term,h.vote]):=own2;have mk:Mk w w2 r2 (recB [4,h.term,h.vote]):=⟨own2.bytes,fun k hk=>by have:=(own2.lt k hk).1;have:=bq1.size;have:=bq.size;omega⟩;have hOl:(recB [4,h.term,h.vote]).length≤100:=by omega
    generalize recB [4,h.term,h.vote]=OA at *;generalize w2=wc at *;clear lit1 hcl1 own1 own2 b1 b2 bl1;obtain ⟨pr2,cr2,rfl⟩:=mk.byt.shape;have hcl:∀ z:After wc,Calls Tryz.prog 103 #[.slice p h.log.length cap,.slice q ws.h.log.length caq] z.1 fun e w'=>e=.returned (.int .i64 (C:Nat))∧∃ y:After wc,w'=y.1:=fun z=>z.call (hcom z.1 (bc.trans (z.2.mono bc.size)));have z6:∀ z:After wc,z.1.cell? ⟨w.heap.size,6,none⟩=some (.slice p h.log.length cap):=fun z=>(kc.ext z.2).cell 6 _ rfl
    have z8:∀ z:After wc,z.1.cell? ⟨gw,8,none⟩=some (.slice q ws.h.log.length caq):=fun z=>(hw.ext (bc.trans (z.2.mono bc.size))).c8;go_wp2_with fail
    refine wp_region_after (by kernel_rfl) (by kernel_rfl) ?_
    repeat (go_big_quiet_step (exact hcl _))
    refine wpQuiet_nil ?_;rintro w7 ⟨⟨w8,c7⟩,hwz⟩;obtain rfl:w7=w8:=hwz;clear hcl z6 z8;have k7:=kc.ext c7;have b7:=bc.trans (c7.mono bc.size);have mk7:=mk.ext c7;have hw7:=hw.ext b7;have y8:=hw7.c8;clear mk kc;have x2:=k7.cell 2 _ rfl;have lit2:=litI w7 #[.int .i64 5,.int .i64 (h.base+C)] [5,h.base+C] 2 w7.heap.size rfl rfl rfl (by unfold maxLen;omega);have hcl2:=walNums _ [5,h.base+C] _ lit2 (by simp) (fun y hy=>by simp only [List.mem_cons,List.not_mem_nil,or_false] at hy;rcases hy with rfl | rfl;exact ⟨by decide,by decide⟩;exact ⟨by omega,by omega⟩)
    have bl2:=below_alloc w7 (.cells #[.int .i64 5,.int .i64 (h.base+C)] 3);have nl2:=numsB_le [5,h.base+C];simp only [List.length_cons,List.length_nil] at nl2
    have rl2:=recB_le [5,h.base+C];simp only [List.length_cons,List.length_nil] at rl2
    go_wp2_with fail
    refine hcl2.mono ?_;rintro e w9 ⟨r9,rfl,own9,b9⟩;have b79:=bl2.trans (b9.mono bl2.size);have mk9:=mk7.ext b79;go_wp2_with fail
    refine (walRecord _ r9 _ _ w9 mk9.byt own9.bytes (by omega) (by omega)).mono ?_;rintro e wA ⟨rA,rfl,ownA,bA⟩;have b7A:=b79.trans (bA.mono b79.size);have kF:=k7.ext b7A;have bF0:=b7.trans (b7A.mono b7.size);replace ownA:OwnB wA w9.heap.size 5 rA (OA++recB [5,h.base+C]):=ownA;have mkF:Mk w wA rA (OA++recB [5,h.base+C]):=⟨ownA.bytes,fun k hk=>by have:=(ownA.lt k hk).1;have:=b79.size;have:=b7.size;omega⟩;have hOF:(OA++recB [5,h.base+C]).length≤1000:=by rw [List.length_append];omega
    clear lit2 hcl2 own9 b9 bl2 mk9 mk7 ownA bA;generalize wA=wF at *;generalize hRB:(OA++recB [5,h.base+C])=OF at *;obtain ⟨prF,crF,hrF⟩:=mkF.byt.shape;have hwF:=hw.ext bF0;have hdF:=hd.ext bF0;have huF:=hu.ext bF0;have hsub:=run_sub_from tEty (P:=Tryz.prog) huF .i64 (C:Int) C rfl hCle.1;have rsub:=huF.sub C h.log.length hCle.1 (Nat.le_refl _);rw [show (h.log.drop C).take (h.log.length - C)=h.log.drop C from List.take_of_length_le (by rw [List.length_drop];exact Nat.le_refl _),show etyE.sz=3 from rfl] at rsub;generalize subV (.slice p h.log.length cap) C h.log.length 3=vS at *;subst hrF
    go_wp2_with fail
    refine wp_region_F (n:=12) (S:=fun w':World=>w'.cell? ⟨gw,1,none⟩=some (.int .i64 (ws.n:Int))∧w'.cell? ⟨w.heap.size,6,none⟩=some (.slice p h.log.length cap)) (by kernel_rfl) ?_;have hHeld:(fun w':World=>w'.cell? ⟨gw,1,none⟩=some (.int .i64 (ws.n:Int))∧w'.cell? ⟨w.heap.size,6,none⟩=some (.slice p h.log.length cap)) wF.drew:=⟨hwF.c1,kF.cell 6 _ rfl⟩;refine tk ?_ 0 ?_ hHeld ?_;rotate_left
    ·rintro w ⟨_,_⟩;dsimp only [bare];go_simp<;>with_reducible rfl
    try simp only [lyB,lyP,lyA,lyZ,lyS]
    refine tk ?_ 1 ?_ hHeld ?_;rotate_left
    ·rintro w ⟨_,_⟩;dsimp only [bare];go_simp<;>with_reducible rfl
    try simp only [lyB,lyP,lyA,lyZ,lyS]
    refine tk ?_ 2 ?_ hHeld ?_;rotate_left
    ·rintro w ⟨_,_⟩;dsimp only [bare];go_simp<;>with_reducible rfl
    try simp only [lyB,lyP,lyA,lyZ,lyS]
    refine tk ?_ 3 ?_ hHeld ?_;rotate_left
    ·rintro w ⟨_,_⟩;dsimp only [bare];go_simp<;>with_reducible rfl
    try simp only [lyB,lyP,lyA,lyZ,lyS]
    refine tk ?_ 4 ?_ hHeld ?_;rotate_left
    ·rintro w ⟨_,_⟩;dsimp only [bare];go_simp<;>with_reducible rfl
    try simp only [lyB,lyP,lyA,lyZ,lyS]
    refine tk ?_ 5 ?_ hHeld ?_;rotate_left
    ·rintro w ⟨_,_⟩;dsimp only [bare];go_simp<;>with_reducible rfl
    try simp only [lyB,lyP,lyA,lyZ,lyS]
    refine tk ?_ 6 ?_ hHeld ?_;rotate_left
    ·rintro w ⟨_,_⟩;dsimp only [bare];go_simp<;>with_reducible rfl
    try simp only [lyB,lyP,lyA,lyZ,lyS]
    refine tk ?_ 7 ?_ hHeld ?_;rotate_left
    ·rintro w ⟨_,_⟩;dsimp only [bare];go_simp<;>with_reducible rfl
    try simp only [lyB,lyP,lyA,lyZ,lyS]
    refine tk ?_ 8 ?_ hHeld ?_;rotate_left
    ·rintro w ⟨_,_⟩;dsimp only [bare];go_simp<;>with_reducible rfl
    try simp only [lyB,lyP,lyA,lyZ,lyS]
    refine tk ?_ 9 ?_ hHeld ?_;rotate_left
    ·rintro w ⟨_,_⟩;dsimp only [bare];go_simp<;>with_reducible rfl
    try simp only [lyB,lyP,lyA,lyZ,lyS]
    refine wpAnyF_one 10 _ _ _ rfl (by kernel_rfl) (fun K hK=>?_);dsimp only [bare];go_simp;have bD:=below_drew wF.heap.size wF;refine (walEntries _ vS OF (h.log.drop C) wF.drew (mkF.byt.ext bD) (rsub.ext bD) (by omega) (by rw [List.length_drop];omega) (fun x hx=>i7 x (List.mem_of_mem_drop hx))).mono ?_;rintro e wG ⟨rG,rfl,byG,locG,bG⟩;dsimp only;have bFG:Below wF.heap.size wF wG:=bD.trans bG;have hwG:=hwF.ext bFG;have kG:=kF.ext bFG;have b0G:=bF0.trans (bFG.mono bF0.size);refine hK _ _ ⟨hwG.c1,kG.cell 6 _ rfl⟩ (fun hHeld=>?_);clear hK K
    try simp only [lyB,lyP,lyA,lyZ,lyS]
    refine wpAnyF_one 11 _ _ _ rfl (by kernel_rfl) (fun K hK=>?_);dsimp only [bare];go_simp;have hbt:OF++etysB (h.log.drop C)=moreB ws.h h:=by first | exact Hb.out.symm | (have hz:=Hb.out;rw [List.append_nil] at hz;exact hz.symm) | (have hz:=Hb.out;rw [←hRB] at hz ⊢; exact hz.symm) | (rw [←hRB];exact Hb.out.symm)
    rw [hbt] at byG;have hlG:∀ k,moreB ws.h h≠[]→rG.ownBlock=some k→w.heap.size≤k∧k<wG.heap.size:=fun k hne hk=>by
     refine ⟨?_,?_⟩
     ·rcases locG k hk with e | e
      ·exact mkF.loc k e
      ·have:=bF0.size;have:wF.drew.heap.size=wF.heap.size:=rfl;omega
     ·exact Cells.lt byG (by rw [List.length_map];exact List.length_pos_iff.2 hne) k hk
    have hdG:DwS w0 (fun k=>X k∨((moreB ws.h h≠[]∧rG.ownBlock=some k)∨k=w.heap.size)) g d wG:=hd.more b0G (fun k hk=>hk.imp id (fun e=>e.elim (fun e=>hlG k e.1 e.2) (fun e=>by have:=kG.lt;omega)));have hwG':=hwG.mono (Y:=fun k=>X k∨((moreB ws.h h≠[]∧rG.ownBlock=some k)∨k=w.heap.size)) (fun k hk=>.inl hk);have hb0G:Below w0.heap.size w0 wG:=hb0.trans (b0G.mono hb0.size);refine (walWrite hdG pi (by omega) hwG' ws.n _ rfl (by omega) rG (moreB ws.h h) byG (fun hne k hk=>.inr (.inr (.inl ⟨hne,hk⟩))) (fun z hz=>T0 z (hb0G.trans (hz.gx hb0G.size))) He.out).mono ?_;rintro e wH ⟨rfl,hdH,hwH,chH⟩;dsimp only
    have hdH':=hdH.mono (Y:=X) (fun k hk=>.inl hk);have hwH':WalV wH X g gw _ ws:=hwG.chg chH (fun k hk hG=>hG.2 (.inl hk));have chE:Chg (Gw w0 X gw) w wH:=(Chg.of_below b0G).step (chH.toGw (fun k hk=>.inl hk));have kH:wH.cell? ⟨w.heap.size,6,none⟩=some (.slice p h.log.length cap):=(chH.blk kG (fun hG=>hG.2 (.inr (.inr rfl)))).cell 6 _ rfl;refine hK _ _ ⟨hwH'.c1,kH⟩ (fun hHeld=>?_);clear hK K
    try simp only [lyB,lyP,lyA,lyZ,lyS]
    refine wpAnyF_end (some 4) (Op.assign (Operand.tmp 68)) 42 rfl (by kernel_rfl) (by kernel_rfl) (fun K hK=>?_);dsimp only [bare];go_simp;refine hK _ _ ?_;clear hK K
    try simp only [lyB,lyP,lyA,lyZ,lyS]
    go_wp2_with fail
    go_ret
    exact ⟨rfl,hdH',hwH',chE⟩
  ·have hA:(if h.term≠ws.h.term∨h.vote≠ws.h.vote then recB [4,h.term,h.vote] else [])=recB [4,h.term,h.vote]:=if_pos (.inl e1);have hB:(if C<ws.h.log.length then recB [5,h.base+C] else [])=recB [5,h.base+C]:=if_pos e3;have Hb:=Lib.hid (Hmo.out.trans (by rw [hA,hB]));have n1:(h.term !=ws.h.term)=true:=by simpa using e1
   have n3:(C:Int)<(ws.h.log.length:Int):=by omega
   clear hA hB e1  e3 Hmo;go_enter Tryz.func72,Tryz.ntmps72
   go_wp2
   go_quiet (fail)
   obtain ⟨kq,bq⟩:=Hq.out nq
   try rw [World.drewN_drewN] at kq bq
   generalize (w.alloc (.cells #[.int .i64 h.term,.int .i64 h.vote,.int .i64 h.base,.int .i64 h.bterm,.int .i64 h.members,.string h.snap,.slice p h.log.length cap] 24)).drewN nq=wq at *;have a0:=kq.cell 0 _ rfl;have a1:=kq.cell 1 _ rfl;have lit1:=litI wq #[.int .i64 4,.int .i64 h.term,.int .i64 h.vote] [4,h.term,h.vote] 3 wq.heap.size rfl rfl rfl (by unfold maxLen;omega);have hcl1:=walNums _ [4,h.term,h.vote] _ lit1 (by simp) (fun y hy=>by simp only [List.mem_cons,List.not_mem_nil,or_false] at hy;rcases hy with rfl | rfl | rfl;exact ⟨by decide,by decide⟩;exact i1;exact i2)
   have bl1:=below_alloc wq (.cells #[.int .i64 4,.int .i64 h.term,.int .i64 h.vote] 3);have nl1:=numsB_le [4,h.term,h.vote];simp only [List.length_cons,List.length_nil] at nl1
   have rl1:=recB_le [4,h.term,h.vote];simp only [List.length_cons,List.length_nil] at rl1
   go_wp2_with fail
   refine hcl1.mono ?_;rintro e w1 ⟨r1,rfl,own1,b1⟩;have bq1:=bl1.trans (b1.mono bl1.size);go_wp2_with fail
   refine (walRecord _ r1 [] _ w1 (Bytes.nil w1) own1.bytes (by simp) (by omega)).mono ?_;rintro e w2 ⟨r2,rfl,own2,b2⟩;have bq2:=bq1.trans (b2.mono bq1.size);have kc:=kq.ext bq2;have bc:=bq.trans (bq2.mono bq.size);replace own2:OwnB w2 w1.heap.size 5 r2 (recB [4,h.term,h.vote]):=own2;have mk:Mk w w2 r2 (recB [4,h.term,h.vote]):=⟨own2.bytes,fun k hk=>by have:=(own2.lt k hk).1;have:=bq1.size;have:=bq.size;omega⟩;have hOl:(recB [4,h.term,h.vote]).length≤100:=by omega
   generalize recB [4,h.term,h.vote]=OA at *;generalize w2=wc at *;clear lit1 hcl1 own1 own2 b1 b2 bl1;obtain ⟨pr2,cr2,rfl⟩:=mk.byt.shape;have hcl:∀ z:After wc,Calls Tryz.prog 103 #[.slice p h.log.length cap,.slice q ws.h.log.length caq] z.1 fun e w'=>e=.returned (.int .i64 (C:Nat))∧∃ y:After wc,w'=y.1:=fun z=>z.call (hcom z.1 (bc.trans (z.2.mono bc.size)));have z6:∀ z:After wc,z.1.cell? ⟨w.heap.size,6,none⟩=some (.slice p h.log.length cap):=fun z=>(kc.ext z.2).cell 6 _ rfl
   have z8:∀ z:After wc,z.1.cell? ⟨gw,8,none⟩=some (.slice q ws.h.log.length caq):=fun z=>(hw.ext (bc.trans (z.2.mono bc.size))).c8;go_wp2_with fail
   refine wp_region_after (by kernel_rfl) (by kernel_rfl) ?_
   repeat (go_big_quiet_step (exact hcl _))
   refine wpQuiet_nil ?_;rintro w7 ⟨⟨w8,c7⟩,hwz⟩;obtain rfl:w7=w8:=hwz;clear hcl z6 z8;have k7:=kc.ext c7;have b7:=bc.trans (c7.mono bc.size);have mk7:=mk.ext c7;have hw7:=hw.ext b7;have y8:=hw7.c8;clear mk kc;have x2:=k7.cell 2 _ rfl;have lit2:=litI w7 #[.int .i64 5,.int .i64 (h.base+C)] [5,h.base+C] 2 w7.heap.size rfl rfl rfl (by unfold maxLen;omega);have hcl2:=walNums _ [5,h.base+C] _ lit2 (by simp) (fun y hy=>by simp only [List.mem_cons,List.not_mem_nil,or_false] at hy;rcases hy with rfl | rfl;exact ⟨by decide,by decide⟩;exact ⟨by omega,by omega⟩)
   have bl2:=below_alloc w7 (.cells #[.int .i64 5,.int .i64 (h.base+C)] 3);have nl2:=numsB_le [5,h.base+C];simp only [List.length_cons,List.length_nil] at nl2
   have rl2:=recB_le [5,h.base+C];simp only [List.length_cons,List.length_nil] at rl2
   go_wp2_with fail
   refine hcl2.mono ?_;rintro e w9 ⟨r9,rfl,own9,b9⟩;have b79:=bl2.trans (b9.mono bl2.size);have mk9:=mk7.ext b79;go_wp2_with fail
   refine (walRecord _ r9 _ _ w9 mk9.byt own9.bytes (by omega) (by omega)).mono ?_;rintro e wA ⟨rA,rfl,ownA,bA⟩;have b7A:=b79.trans (bA.mono b79.size);have kF:=k7.ext b7A;have bF0:=b7.trans (b7A.mono b7.size);replace ownA:OwnB wA w9.heap.size 5 rA (OA++recB [5,h.base+C]):=ownA;have mkF:Mk w wA rA (OA++recB [5,h.base+C]):=⟨ownA.bytes,fun k hk=>by have:=(ownA.lt k hk).1;have:=b79.size;have:=b7.size;omega⟩;have hOF:(OA++recB [5,h.base+C]).length≤1000:=by rw [List.length_append];omega
   clear lit2 hcl2 own9 b9 bl2 mk9 mk7 ownA bA;generalize wA=wF at *;generalize hRB:(OA++recB [5,h.base+C])=OF at *;obtain ⟨prF,crF,hrF⟩:=mkF.byt.shape;have hwF:=hw.ext bF0;have hdF:=hd.ext bF0;have huF:=hu.ext bF0;have hsub:=run_sub_from tEty (P:=Tryz.prog) huF .i64 (C:Int) C rfl hCle.1;have rsub:=huF.sub C h.log.length hCle.1 (Nat.le_refl _);rw [show (h.log.drop C).take (h.log.length - C)=h.log.drop C from List.take_of_length_le (by rw [List.length_drop];exact Nat.le_refl _),show etyE.sz=3 from rfl] at rsub;generalize subV (.slice p h.log.length cap) C h.log.length 3=vS at *;subst hrF
   go_wp2_with fail
   refine wp_region_F (n:=12) (S:=fun w':World=>w'.cell? ⟨gw,1,none⟩=some (.int .i64 (ws.n:Int))∧w'.cell? ⟨w.heap.size,6,none⟩=some (.slice p h.log.length cap)) (by kernel_rfl) ?_;have hHeld:(fun w':World=>w'.cell? ⟨gw,1,none⟩=some (.int .i64 (ws.n:Int))∧w'.cell? ⟨w.heap.size,6,none⟩=some (.slice p h.log.length cap)) wF.drew:=⟨hwF.c1,kF.cell 6 _ rfl⟩;refine tk ?_ 0 ?_ hHeld ?_;rotate_left
   ·rintro w ⟨_,_⟩;dsimp only [bare];go_simp<;>with_reducible rfl
   try simp only [lyB,lyP,lyA,lyZ,lyS]
   refine tk ?_ 1 ?_ hHeld ?_;rotate_left
   ·rintro w ⟨_,_⟩;dsimp only [bare];go_simp<;>with_reducible rfl
   try simp only [lyB,lyP,lyA,lyZ,lyS]
   refine tk ?_ 2 ?_ hHeld ?_;rotate_left
   ·rintro w ⟨_,_⟩;dsimp only [bare];go_simp<;>with_reducible rfl
   try simp only [lyB,lyP,lyA,lyZ,lyS]
   refine tk ?_ 3 ?_ hHeld ?_;rotate_left
   ·rintro w ⟨_,_⟩;dsimp only [bare];go_simp<;>with_reducible rfl
   try simp only [lyB,lyP,lyA,lyZ,lyS]
   refine tk ?_ 4 ?_ hHeld ?_;rotate_left
   ·rintro w ⟨_,_⟩;dsimp only [bare];go_simp<;>with_reducible rfl
   try simp only [lyB,lyP,lyA,lyZ,lyS]
   refine tk ?_ 5 ?_ hHeld ?_;rotate_left
   ·rintro w ⟨_,_⟩;dsimp only [bare];go_simp<;>with_reducible rfl
   try simp only [lyB,lyP,lyA,lyZ,lyS]
   refine tk ?_ 6 ?_ hHeld ?_;rotate_left
   ·rintro w ⟨_,_⟩;dsimp only [bare];go_simp<;>with_reducible rfl
   try simp only [lyB,lyP,lyA,lyZ,lyS]
   refine tk ?_ 7 ?_ hHeld ?_;rotate_left
   ·rintro w ⟨_,_⟩;dsimp only [bare];go_simp<;>with_reducible rfl
   try simp only [lyB,lyP,lyA,lyZ,lyS]
   refine tk ?_ 8 ?_ hHeld ?_;rotate_left
   ·rintro w ⟨_,_⟩;dsimp only [bare];go_simp<;>with_reducible rfl
   try simp only [lyB,lyP,lyA,lyZ,lyS]
   refine tk ?_ 9 ?_ hHeld ?_;rotate_left
   ·rintro w ⟨_,_⟩;dsimp only [bare];go_simp<;>with_reducible rfl
   try simp only [lyB,lyP,lyA,lyZ,lyS]
   refine wpAnyF_one 10 _ _ _ rfl (by kernel_rfl) (fun K hK=>?_);dsimp only [bare];go_simp;have bD:=below_drew wF.heap.size wF;refine (walEntries _ vS OF (h.log.drop C) wF.drew (mkF.byt.ext bD) (rsub.ext bD) (by omega) (by rw [List.length_drop];omega) (fun x hx=>i7 x (List.mem_of_mem_drop hx))).mono ?_;rintro e wG ⟨rG,rfl,byG,locG,bG⟩;dsimp only;have bFG:Below wF.heap.size wF wG:=bD.trans bG;have hwG:=hwF.ext bFG;have kG:=kF.ext bFG;have b0G:=bF0.trans (bFG.mono bF0.size);refine hK _ _ ⟨hwG.c1,kG.cell 6 _ rfl⟩ (fun hHeld=>?_);clear hK K
   try simp only [lyB,lyP,lyA,lyZ,lyS]
   refine wpAnyF_one 11 _ _ _ rfl (by kernel_rfl) (fun K hK=>?_);dsimp only [bare];go_simp;have hbt:OF++etysB (h.log.drop C)=moreB ws.h h:=by first | exact Hb.out.symm | (have hz:=Hb.out;rw [List.append_nil] at hz;exact hz.symm) | (have hz:=Hb.out;rw [←hRB] at hz ⊢; exact hz.symm) | (rw [←hRB];exact Hb.out.symm)
   rw [hbt] at byG;have hlG:∀ k,moreB ws.h h≠[]→rG.ownBlock=some k→w.heap.size≤k∧k<wG.heap.size:=fun k hne hk=>by
    refine ⟨?_,?_⟩
    ·rcases locG k hk with e | e
     ·exact mkF.loc k e
     ·have:=bF0.size;have:wF.drew.heap.size=wF.heap.size:=rfl;omega
    ·exact Cells.lt byG (by rw [List.length_map];exact List.length_pos_iff.2 hne) k hk
   have hdG:DwS w0 (fun k=>X k∨((moreB ws.h h≠[]∧rG.ownBlock=some k)∨k=w.heap.size)) g d wG:=hd.more b0G (fun k hk=>hk.imp id (fun e=>e.elim (fun e=>hlG k e.1 e.2) (fun e=>by have:=kG.lt;omega)));have hwG':=hwG.mono (Y:=fun k=>X k∨((moreB ws.h h≠[]∧rG.ownBlock=some k)∨k=w.heap.size)) (fun k hk=>.inl hk);have hb0G:Below w0.heap.size w0 wG:=hb0.trans (b0G.mono hb0.size);refine (walWrite hdG pi (by omega) hwG' ws.n _ rfl (by omega) rG (moreB ws.h h) byG (fun hne k hk=>.inr (.inr (.inl ⟨hne,hk⟩))) (fun z hz=>T0 z (hb0G.trans (hz.gx hb0G.size))) He.out).mono ?_;rintro e wH ⟨rfl,hdH,hwH,chH⟩;dsimp only
   have hdH':=hdH.mono (Y:=X) (fun k hk=>.inl hk);have hwH':WalV wH X g gw _ ws:=hwG.chg chH (fun k hk hG=>hG.2 (.inl hk));have chE:Chg (Gw w0 X gw) w wH:=(Chg.of_below b0G).step (chH.toGw (fun k hk=>.inl hk));have kH:wH.cell? ⟨w.heap.size,6,none⟩=some (.slice p h.log.length cap):=(chH.blk kG (fun hG=>hG.2 (.inr (.inr rfl)))).cell 6 _ rfl;refine hK _ _ ⟨hwH'.c1,kH⟩ (fun hHeld=>?_);clear hK K
   try simp only [lyB,lyP,lyA,lyZ,lyS]
   refine wpAnyF_end (some 4) (Op.assign (Operand.tmp 68)) 42 rfl (by kernel_rfl) (by kernel_rfl) (fun K hK=>?_);dsimp only [bare];go_simp;refine hK _ _ ?_;clear hK K
   try simp only [lyB,lyP,lyA,lyZ,lyS]
   go_wp2_with fail
   go_ret
   exact ⟨rfl,hdH',hwH',chE⟩
 ·by_cases e1:h.term=ws.h.term
  ·by_cases e2:h.vote=ws.h.vote
   ·have hA:(if h.term≠ws.h.term∨h.vote≠ws.h.vote then recB [4,h.term,h.vote] else [])=[]:=if_neg (fun hx=>hx.elim (fun k=>k e1) (fun k=>k e2));have hB:(if C<ws.h.log.length then recB [5,h.base+C] else [])=[]:=if_neg e3;have Hb:=Lib.hid (Hmo.out.trans (by rw [hA,hB]));have n1:(h.term !=ws.h.term)=false:=by simpa using e1
    have n2:(h.vote !=ws.h.vote)=false:=by simpa using e2
    have n3:¬ (C:Int)<(ws.h.log.length:Int):=by omega
    clear hA hB e1 e2 e3 Hmo;go_enter Tryz.func72,Tryz.ntmps72
    go_wp2
    go_quiet (fail)
    obtain ⟨kq,bq⟩:=Hq.out nq
    try rw [World.drewN_drewN] at kq bq
    generalize (w.alloc (.cells #[.int .i64 h.term,.int .i64 h.vote,.int .i64 h.base,.int .i64 h.bterm,.int .i64 h.members,.string h.snap,.slice p h.log.length cap] 24)).drewN nq=wq at *;have kc:=kq;have bc:=bq;have mk:Mk w wq (.slice none 0 0) []:=⟨Bytes.nil wq,fun k hk=>by simp [Value.ownBlock] at hk⟩;have hOl:([]:List UInt8).length≤100:=by decide
    generalize wq=wc at *;have hcl:∀ z:After wc,Calls Tryz.prog 103 #[.slice p h.log.length cap,.slice q ws.h.log.length caq] z.1 fun e w'=>e=.returned (.int .i64 (C:Nat))∧∃ y:After wc,w'=y.1:=fun z=>z.call (hcom z.1 (bc.trans (z.2.mono bc.size)));have z6:∀ z:After wc,z.1.cell? ⟨w.heap.size,6,none⟩=some (.slice p h.log.length cap):=fun z=>(kc.ext z.2).cell 6 _ rfl;have z8:∀ z:After wc,z.1.cell? ⟨gw,8,none⟩=some (.slice q ws.h.log.length caq):=fun z=>(hw.ext (bc.trans (z.2.mono bc.size))).c8;go_wp2_with fail
    refine wp_region_after (by kernel_rfl) (by kernel_rfl) ?_
    repeat (go_big_quiet_step (exact hcl _))
    refine wpQuiet_nil ?_;rintro w7 ⟨⟨w8,c7⟩,hwz⟩;obtain rfl:w7=w8:=hwz;clear hcl z6 z8;have k7:=kc.ext c7;have b7:=bc.trans (c7.mono bc.size);have mk7:=mk.ext c7;have hw7:=hw.ext b7;have y8:=hw7.c8;clear mk kc;have kF:=k7;have bF0:=b7;have mkF:=mk7;have hOF:(([]:List UInt8)).length≤1000:=by omega
    generalize w7=wF at *;generalize hRB:([]:List UInt8)=OF at *;have hwF:=hw.ext bF0;have hdF:=hd.ext bF0;have huF:=hu.ext bF0;have hsub:=run_sub_from tEty (P:=Tryz.prog) huF .i64 (C:Int) C rfl hCle.1;have rsub:=huF.sub C h.log.length hCle.1 (Nat.le_refl _);rw [show (h.log.drop C).take (h.log.length - C)=h.log.drop C from List.take_of_length_le (by rw [List.length_drop];exact Nat.le_refl _),show etyE.sz=3 from rfl] at rsub;generalize subV (.slice p h.log.length cap) C h.log.length 3=vS at *;go_wp2_with fail
    refine wp_region_F (n:=12) (S:=fun w':World=>w'.cell? ⟨gw,1,none⟩=some (.int .i64 (ws.n:Int))∧w'.cell? ⟨w.heap.size,6,none⟩=some (.slice p h.log.length cap)) (by kernel_rfl) ?_;have hHeld:(fun w':World=>w'.cell? ⟨gw,1,none⟩=some (.int .i64 (ws.n:Int))∧w'.cell? ⟨w.heap.size,6,none⟩=some (.slice p h.log.length cap)) wF.drew:=⟨hwF.c1,kF.cell 6 _ rfl⟩;refine tk ?_ 0 ?_ hHeld ?_;rotate_left
    ·rintro w ⟨_,_⟩;dsimp only [bare];go_simp<;>with_reducible rfl
    try simp only [lyB,lyP,lyA,lyZ,lyS]
    refine tk ?_ 1 ?_ hHeld ?_;rotate_left
    ·rintro w ⟨_,_⟩;dsimp only [bare];go_simp<;>with_reducible rfl
    try simp only [lyB,lyP,lyA,lyZ,lyS]
    refine tk ?_ 2 ?_ hHeld ?_;rotate_left
    ·rintro w ⟨_,_⟩;dsimp only [bare];go_simp<;>with_reducible rfl
    try simp only [lyB,lyP,lyA,lyZ,lyS]
    refine tk ?_ 3 ?_ hHeld ?_;rotate_left
    ·rintro w ⟨_,_⟩;dsimp only [bare];go_simp<;>with_reducible rfl
    try simp only [lyB,lyP,lyA,lyZ,lyS]
    refine tk ?_ 4 ?_ hHeld ?_;rotate_left
    ·rintro w ⟨_,_⟩;dsimp only [bare];go_simp<;>with_reducible rfl
    try simp only [lyB,lyP,lyA,lyZ,lyS]
    refine tk ?_ 5 ?_ hHeld ?_;rotate_left
    ·rintro w ⟨_,_⟩;dsimp only [bare];go_simp<;>with_reducible rfl
    try simp only [lyB,lyP,lyA,lyZ,lyS]
    refine tk ?_ 6 ?_ hHeld ?_;rotate_left
    ·rintro w ⟨_,_⟩;dsimp only [bare];go_simp<;>with_reducible rfl
    try simp only [lyB,lyP,lyA,lyZ,lyS]
    refine tk ?_ 7 ?_ hHeld ?_;rotate_left
    ·rintro w ⟨_,_⟩;dsimp only [bare];go_simp<;>with_reducible rfl
    try simp only [lyB,lyP,lyA,lyZ,lyS]
    refine tk ?_ 8 ?_ hHeld ?_;rotate_left
    ·rintro w ⟨_,_⟩;dsimp only [bare];go_simp<;>with_reducible rfl
    try simp only [lyB,lyP,lyA,lyZ,lyS]
    refine tk ?_ 9 ?_ hHeld ?_;rotate_left
    ·rintro w ⟨_,_⟩;dsimp only [bare];go_simp<;>with_reducible rfl
    try simp only [lyB,lyP,lyA,lyZ,lyS]
    refine wpAnyF_one 10 _ _ _ rfl (by kernel_rfl) (fun K hK=>?_);dsimp only [bare];go_simp;have bD:=below_drew wF.heap.size wF;refine (walEntries _ vS OF (h.log.drop C) wF.drew (mkF.byt.ext bD) (rsub.ext bD) (by omega) (by rw [List.length_drop];omega) (fun x hx=>i7 x (List.mem_of_mem_drop hx))).mono ?_;rintro e wG ⟨rG,rfl,byG,locG,bG⟩;dsimp only;have bFG:Below wF.heap.size wF wG:=bD.trans bG;have hwG:=hwF.ext bFG;have kG:=kF.ext bFG;have b0G:=bF0.trans (bFG.mono bF0.size);refine hK _ _ ⟨hwG.c1,kG.cell 6 _ rfl⟩ (fun hHeld=>?_);clear hK K
    try simp only [lyB,lyP,lyA,lyZ,lyS]
    refine wpAnyF_one 11 _ _ _ rfl (by kernel_rfl) (fun K hK=>?_);dsimp only [bare];go_simp;have hbt:OF++etysB (h.log.drop C)=moreB ws.h h:=by first | exact Hb.out.symm | (have hz:=Hb.out;rw [List.append_nil] at hz;exact hz.symm) | (have hz:=Hb.out;rw [←hRB] at hz ⊢; exact hz.symm) | (rw [←hRB];exact Hb.out.symm)
    rw [hbt] at byG;have hlG:∀ k,moreB ws.h h≠[]→rG.ownBlock=some k→w.heap.size≤k∧k<wG.heap.size:=fun k hne hk=>by
     refine ⟨?_,?_⟩
     ·rcases locG k hk with e | e
      ·exact mkF.loc k e
      ·have:=bF0.size;have:wF.drew.heap.size=wF.heap.size:=rfl;omega
     ·exact Cells.lt byG (by rw [List.length_map];exact List.length_pos_iff.2 hne) k hk
    have hdG:DwS w0 (fun k=>X k∨((moreB ws.h h≠[]∧rG.ownBlock=some k)∨k=w.heap.size)) g d wG:=hd.more b0G (fun k hk=>hk.imp id (fun e=>e.elim (fun e=>hlG k e.1 e.2) (fun e=>by have:=kG.lt;omega)));have hwG':=hwG.mono (Y:=fun k=>X k∨((moreB ws.h h≠[]∧rG.ownBlock=some k)∨k=w.heap.size)) (fun k hk=>.inl hk);have hb0G:Below w0.heap.size w0 wG:=hb0.trans (b0G.mono hb0.size);refine (walWrite hdG pi (by omega) hwG' ws.n _ rfl (by omega) rG (moreB ws.h h) byG (fun hne k hk=>.inr (.inr (.inl ⟨hne,hk⟩))) (fun z hz=>T0 z (hb0G.trans (hz.gx hb0G.size))) He.out).mono ?_;rintro e wH ⟨rfl,hdH,hwH,chH⟩;dsimp only
    have hdH':=hdH.mono (Y:=X) (fun k hk=>.inl hk);have hwH':WalV wH X g gw _ ws:=hwG.chg chH (fun k hk hG=>hG.2 (.inl hk));have chE:Chg (Gw w0 X gw) w wH:=(Chg.of_below b0G).step (chH.toGw (fun k hk=>.inl hk));have kH:wH.cell? ⟨w.heap.size,6,none⟩=some (.slice p h.log.length cap):=(chH.blk kG (fun hG=>hG.2 (.inr (.inr rfl)))).cell 6 _ rfl;refine hK _ _ ⟨hwH'.c1,kH⟩ (fun hHeld=>?_);clear hK K
    try simp only [lyB,lyP,lyA,lyZ,lyS]
    refine wpAnyF_end (some 4) (Op.assign (Operand.tmp 68)) 42 rfl (by kernel_rfl) (by kernel_rfl) (fun K hK=>?_);dsimp only [bare];go_simp;refine hK _ _ ?_;clear hK K
    try simp only [lyB,lyP,lyA,lyZ,lyS]
    go_wp2_with fail
    go_ret
    exact ⟨rfl,hdH',hwH',chE⟩
   ·have hA:(if h.term≠ws.h.term∨h.vote≠ws.h.vote then recB [4,h.term,h.vote] else [])=recB [4,h.term,h.vote]:=if_pos (.inr e2);have hB:(if C<ws.h.log.length then recB [5,h.base+C] else [])=[]:=if_neg e3;have Hb:=Lib.hid (Hmo.out.trans (by rw [hA,hB]));have n1:(h.term !=ws.h.term)=false:=by simpa using e1
    have n2:(h.vote !=ws.h.vote)=true:=by simpa using e2
    have n3:¬ (C:Int)<(ws.h.log.length:Int):=by omega
    clear hA hB e1 e2 e3 Hmo;go_enter Tryz.func72,Tryz.ntmps72
    go_wp2
    go_quiet (fail)
    obtain ⟨kq,bq⟩:=Hq.out nq
    try rw [World.drewN_drewN] at kq bq
    generalize (w.alloc (.cells #[.int .i64 h.term,.int .i64 h.vote,.int .i64 h.base,.int .i64 h.bterm,.int .i64 h.members,.string h.snap,.slice p h.log.length cap] 24)).drewN nq=wq at *;have a0:=kq.cell 0 _ rfl;have a1:=kq.cell 1 _ rfl;have lit1:=litI wq #[.int .i64 4,.int .i64 h.term,.int .i64 h.vote] [4,h.term,h.vote] 3 wq.heap.size rfl rfl rfl (by unfold maxLen;omega);have hcl1:=walNums _ [4,h.term,h.vote] _ lit1 (by simp) (fun y hy=>by simp only [List.mem_cons,List.not_mem_nil,or_false] at hy;rcases hy with rfl | rfl | rfl;exact ⟨by decide,by decide⟩;exact i1;exact i2)
    have bl1:=below_alloc wq (.cells #[.int .i64 4,.int .i64 h.term,.int .i64 h.vote] 3);have nl1:=numsB_le [4,h.term,h.vote];simp only [List.length_cons,List.length_nil] at nl1
    have rl1:=recB_le [4,h.term,h.vote];simp only [List.length_cons,List.length_nil] at rl1
    go_wp2_with fail
    refine hcl1.mono ?_;rintro e w1 ⟨r1,rfl,own1,b1⟩;have bq1:=bl1.trans (b1.mono bl1.size);go_wp2_with fail
    refine (walRecord _ r1 [] _ w1 (Bytes.nil w1) own1.bytes (by simp) (by omega)).mono ?_;rintro e w2 ⟨r2,rfl,own2,b2⟩;have bq2:=bq1.trans (b2.mono bq1.size);have kc:=kq.ext bq2;have bc:=bq.trans (bq2.mono bq.size);replace own2:OwnB w2 w1.heap.size 5 r2 (recB [4,h.term,h.vote]):=own2;have mk:Mk w w2 r2 (recB [4,h.term,h.vote]):=⟨own2.bytes,fun k hk=>by have:=(own2.lt k hk).1;have:=bq1.size;have:=bq.size;omega⟩;have hOl:(recB [4,h.term,h.vote]).length≤100:=by omega
    generalize recB [4,h.term,h.vote]=OA at *;generalize w2=wc at *;clear lit1 hcl1 own1 own2 b1 b2 bl1;obtain ⟨pr2,cr2,rfl⟩:=mk.byt.shape;have hcl:∀ z:After wc,Calls Tryz.prog 103 #[.slice p h.log.length cap,.slice q ws.h.log.length caq] z.1 fun e w'=>e=.returned (.int .i64 (C:Nat))∧∃ y:After wc,w'=y.1:=fun z=>z.call (hcom z.1 (bc.trans (z.2.mono bc.size)));have z6:∀ z:After wc,z.1.cell? ⟨w.heap.size,6,none⟩=some (.slice p h.log.length cap):=fun z=>(kc.ext z.2).cell 6 _ rfl
    have z8:∀ z:After wc,z.1.cell? ⟨gw,8,none⟩=some (.slice q ws.h.log.length caq):=fun z=>(hw.ext (bc.trans (z.2.mono bc.size))).c8;go_wp2_with fail
    refine wp_region_after (by kernel_rfl) (by kernel_rfl) ?_
    repeat (go_big_quiet_step (exact hcl _))
    refine wpQuiet_nil ?_;rintro w7 ⟨⟨w8,c7⟩,hwz⟩;obtain rfl:w7=w8:=hwz;clear hcl z6 z8;have k7:=kc.ext c7;have b7:=bc.trans (c7.mono bc.size);have mk7:=mk.ext c7;have hw7:=hw.ext b7;have y8:=hw7.c8;clear mk kc;have kF:=k7;have bF0:=b7;have mkF:=mk7;have hOF:(OA).length≤1000:=by omega
    generalize w7=wF at *;generalize hRB:OA=OF at *;have hwF:=hw.ext bF0;have hdF:=hd.ext bF0;have huF:=hu.ext bF0;have hsub:=run_sub_from tEty (P:=Tryz.prog) huF .i64 (C:Int) C rfl hCle.1;have rsub:=huF.sub C h.log.length hCle.1 (Nat.le_refl _);rw [show (h.log.drop C).take (h.log.length - C)=h.log.drop C from List.take_of_length_le (by rw [List.length_drop];exact Nat.le_refl _),show etyE.sz=3 from rfl] at rsub;generalize subV (.slice p h.log.length cap) C h.log.length 3=vS at *;go_wp2_with fail
    refine wp_region_F (n:=12) (S:=fun w':World=>w'.cell? ⟨gw,1,none⟩=some (.int .i64 (ws.n:Int))∧w'.cell? ⟨w.heap.size,6,none⟩=some (.slice p h.log.length cap)) (by kernel_rfl) ?_;have hHeld:(fun w':World=>w'.cell? ⟨gw,1,none⟩=some (.int .i64 (ws.n:Int))∧w'.cell? ⟨w.heap.size,6,none⟩=some (.slice p h.log.length cap)) wF.drew:=⟨hwF.c1,kF.cell 6 _ rfl⟩;refine tk ?_ 0 ?_ hHeld ?_;rotate_left
    ·rintro w ⟨_,_⟩;dsimp only [bare];go_simp<;>with_reducible rfl
    try simp only [lyB,lyP,lyA,lyZ,lyS]
    refine tk ?_ 1 ?_ hHeld ?_;rotate_left
    ·rintro w ⟨_,_⟩;dsimp only [bare];go_simp<;>with_reducible rfl
    try simp only [lyB,lyP,lyA,lyZ,lyS]
    refine tk ?_ 2 ?_ hHeld ?_;rotate_left
    ·rintro w ⟨_,_⟩;dsimp only [bare];go_simp<;>with_reducible rfl
    try simp only [lyB,lyP,lyA,lyZ,lyS]
    refine tk ?_ 3 ?_ hHeld ?_;rotate_left
    ·rintro w ⟨_,_⟩;dsimp only [bare];go_simp<;>with_reducible rfl
    try simp only [lyB,lyP,lyA,lyZ,lyS]
    refine tk ?_ 4 ?_ hHeld ?_;rotate_left
    ·rintro w ⟨_,_⟩;dsimp only [bare];go_simp<;>with_reducible rfl
    try simp only [lyB,lyP,lyA,lyZ,lyS]
    refine tk ?_ 5 ?_ hHeld ?_;rotate_left
    ·rintro w ⟨_,_⟩;dsimp only [bare];go_simp<;>with_reducible rfl
    try simp only [lyB,lyP,lyA,lyZ,lyS]
    refine tk ?_ 6 ?_ hHeld ?_;rotate_left
    ·rintro w ⟨_,_⟩;dsimp only [bare];go_simp<;>with_reducible rfl
    try simp only [lyB,lyP,lyA,lyZ,lyS]
    refine tk ?_ 7 ?_ hHeld ?_;rotate_left
    ·rintro w ⟨_,_⟩;dsimp only [bare];go_simp<;>with_reducible rfl
    try simp only [lyB,lyP,lyA,lyZ,lyS]
    refine tk ?_ 8 ?_ hHeld ?_;rotate_left
    ·rintro w ⟨_,_⟩;dsimp only [bare];go_simp<;>with_reducible rfl
    try simp only [lyB,lyP,lyA,lyZ,lyS]
    refine tk ?_ 9 ?_ hHeld ?_;rotate_left
    ·rintro w ⟨_,_⟩;dsimp only [bare];go_simp<;>with_reducible rfl
    try simp only [lyB,lyP,lyA,lyZ,lyS]
    refine wpAnyF_one 10 _ _ _ rfl (by kernel_rfl) (fun K hK=>?_);dsimp only [bare];go_simp;have bD:=below_drew wF.heap.size wF;refine (walEntries _ vS OF (h.log.drop C) wF.drew (mkF.byt.ext bD) (rsub.ext bD) (by omega) (by rw [List.length_drop];omega) (fun x hx=>i7 x (List.mem_of_mem_drop hx))).mono ?_;rintro e wG ⟨rG,rfl,byG,locG,bG⟩;dsimp only;have bFG:Below wF.heap.size wF wG:=bD.trans bG;have hwG:=hwF.ext bFG;have kG:=kF.ext bFG;have b0G:=bF0.trans (bFG.mono bF0.size);refine hK _ _ ⟨hwG.c1,kG.cell 6 _ rfl⟩ (fun hHeld=>?_);clear hK K
    try simp only [lyB,lyP,lyA,lyZ,lyS]
    refine wpAnyF_one 11 _ _ _ rfl (by kernel_rfl) (fun K hK=>?_);dsimp only [bare];go_simp;have hbt:OF++etysB (h.log.drop C)=moreB ws.h h:=by first | exact Hb.out.symm | (have hz:=Hb.out;rw [List.append_nil] at hz;exact hz.symm) | (have hz:=Hb.out;rw [←hRB] at hz ⊢; exact hz.symm) | (rw [←hRB];exact by have:=Hb.out;rw [List.append_nil] at this;exact this.symm)
    rw [hbt] at byG;have hlG:∀ k,moreB ws.h h≠[]→rG.ownBlock=some k→w.heap.size≤k∧k<wG.heap.size:=fun k hne hk=>by
     refine ⟨?_,?_⟩
     ·rcases locG k hk with e | e
      ·exact mkF.loc k e
      ·have:=bF0.size;have:wF.drew.heap.size=wF.heap.size:=rfl;omega
     ·exact Cells.lt byG (by rw [List.length_map];exact List.length_pos_iff.2 hne) k hk
    have hdG:DwS w0 (fun k=>X k∨((moreB ws.h h≠[]∧rG.ownBlock=some k)∨k=w.heap.size)) g d wG:=hd.more b0G (fun k hk=>hk.imp id (fun e=>e.elim (fun e=>hlG k e.1 e.2) (fun e=>by have:=kG.lt;omega)));have hwG':=hwG.mono (Y:=fun k=>X k∨((moreB ws.h h≠[]∧rG.ownBlock=some k)∨k=w.heap.size)) (fun k hk=>.inl hk);have hb0G:Below w0.heap.size w0 wG:=hb0.trans (b0G.mono hb0.size);refine (walWrite hdG pi (by omega) hwG' ws.n _ rfl (by omega) rG (moreB ws.h h) byG (fun hne k hk=>.inr (.inr (.inl ⟨hne,hk⟩))) (fun z hz=>T0 z (hb0G.trans (hz.gx hb0G.size))) He.out).mono ?_;rintro e wH ⟨rfl,hdH,hwH,chH⟩;dsimp only
    have hdH':=hdH.mono (Y:=X) (fun k hk=>.inl hk);have hwH':WalV wH X g gw _ ws:=hwG.chg chH (fun k hk hG=>hG.2 (.inl hk));have chE:Chg (Gw w0 X gw) w wH:=(Chg.of_below b0G).step (chH.toGw (fun k hk=>.inl hk));have kH:wH.cell? ⟨w.heap.size,6,none⟩=some (.slice p h.log.length cap):=(chH.blk kG (fun hG=>hG.2 (.inr (.inr rfl)))).cell 6 _ rfl;refine hK _ _ ⟨hwH'.c1,kH⟩ (fun hHeld=>?_);clear hK K
    try simp only [lyB,lyP,lyA,lyZ,lyS]
    refine wpAnyF_end (some 4) (Op.assign (Operand.tmp 68)) 42 rfl (by kernel_rfl) (by kernel_rfl) (fun K hK=>?_);dsimp only [bare];go_simp;refine hK _ _ ?_;clear hK K
    try simp only [lyB,lyP,lyA,lyZ,lyS]
    go_wp2_with fail
    go_ret
    exact ⟨rfl,hdH',hwH',chE⟩
  ·have hA:(if h.term≠ws.h.term∨h.vote≠ws.h.vote then recB [4,h.term,h.vote] else [])=recB [4,h.term,h.vote]:=if_pos (.inl e1);have hB:(if C<ws.h.log.length then recB [5,h.base+C] else [])=[]:=if_neg e3;have Hb:=Lib.hid (Hmo.out.trans (by rw [hA,hB]));have n1:(h.term !=ws.h.term)=true:=by simpa using e1
   have n3:¬ (C:Int)<(ws.h.log.length:Int):=by omega
   clear hA hB e1  e3 Hmo;go_enter Tryz.func72,Tryz.ntmps72
   go_wp2
   go_quiet (fail)
   obtain ⟨kq,bq⟩:=Hq.out nq
   try rw [World.drewN_drewN] at kq bq
   generalize (w.alloc (.cells #[.int .i64 h.term,.int .i64 h.vote,.int .i64 h.base,.int .i64 h.bterm,.int .i64 h.members,.string h.snap,.slice p h.log.length cap] 24)).drewN nq=wq at *;have a0:=kq.cell 0 _ rfl;have a1:=kq.cell 1 _ rfl;have lit1:=litI wq #[.int .i64 4,.int .i64 h.term,.int .i64 h.vote] [4,h.term,h.vote] 3 wq.heap.size rfl rfl rfl (by unfold maxLen;omega);have hcl1:=walNums _ [4,h.term,h.vote] _ lit1 (by simp) (fun y hy=>by simp only [List.mem_cons,List.not_mem_nil,or_false] at hy;rcases hy with rfl | rfl | rfl;exact ⟨by decide,by decide⟩;exact i1;exact i2)
   have bl1:=below_alloc wq (.cells #[.int .i64 4,.int .i64 h.term,.int .i64 h.vote] 3);have nl1:=numsB_le [4,h.term,h.vote];simp only [List.length_cons,List.length_nil] at nl1
   have rl1:=recB_le [4,h.term,h.vote];simp only [List.length_cons,List.length_nil] at rl1
   go_wp2_with fail
   refine hcl1.mono ?_;rintro e w1 ⟨r1,rfl,own1,b1⟩;have bq1:=bl1.trans (b1.mono bl1.size);go_wp2_with fail
   refine (walRecord _ r1 [] _ w1 (Bytes.nil w1) own1.bytes (by simp) (by omega)).mono ?_;rintro e w2 ⟨r2,rfl,own2,b2⟩;have bq2:=bq1.trans (b2.mono bq1.size);have kc:=kq.ext bq2;have bc:=bq.trans (bq2.mono bq.size);replace own2:OwnB w2 w1.heap.size 5 r2 (recB [4,h.term,h.vote]):=own2;have mk:Mk w w2 r2 (recB [4,h.term,h.vote]):=⟨own2.bytes,fun k hk=>by have:=(own2.lt k hk).1;have:=bq1.size;have:=bq.size;omega⟩;have hOl:(recB [4,h.term,h.vote]).length≤100:=by omega
   generalize recB [4,h.term,h.vote]=OA at *;generalize w2=wc at *;clear lit1 hcl1 own1 own2 b1 b2 bl1;obtain ⟨pr2,cr2,rfl⟩:=mk.byt.shape;have hcl:∀ z:After wc,Calls Tryz.prog 103 #[.slice p h.log.length cap,.slice q ws.h.log.length caq] z.1 fun e w'=>e=.returned (.int .i64 (C:Nat))∧∃ y:After wc,w'=y.1:=fun z=>z.call (hcom z.1 (bc.trans (z.2.mono bc.size)));have z6:∀ z:After wc,z.1.cell? ⟨w.heap.size,6,none⟩=some (.slice p h.log.length cap):=fun z=>(kc.ext z.2).cell 6 _ rfl
   have z8:∀ z:After wc,z.1.cell? ⟨gw,8,none⟩=some (.slice q ws.h.log.length caq):=fun z=>(hw.ext (bc.trans (z.2.mono bc.size))).c8;go_wp2_with fail
   refine wp_region_after (by kernel_rfl) (by kernel_rfl) ?_
   repeat (go_big_quiet_step (exact hcl _))
   refine wpQuiet_nil ?_;rintro w7 ⟨⟨w8,c7⟩,hwz⟩;obtain rfl:w7=w8:=hwz;clear hcl z6 z8;have k7:=kc.ext c7;have b7:=bc.trans (c7.mono bc.size);have mk7:=mk.ext c7;have hw7:=hw.ext b7;have y8:=hw7.c8;clear mk kc;have kF:=k7;have bF0:=b7;have mkF:=mk7;have hOF:(OA).length≤1000:=by omega
   generalize w7=wF at *;generalize hRB:OA=OF at *;have hwF:=hw.ext bF0;have hdF:=hd.ext bF0;have huF:=hu.ext bF0;have hsub:=run_sub_from tEty (P:=Tryz.prog) huF .i64 (C:Int) C rfl hCle.1;have rsub:=huF.sub C h.log.length hCle.1 (Nat.le_refl _);rw [show (h.log.drop C).take (h.log.length - C)=h.log.drop C from List.take_of_length_le (by rw [List.length_drop];exact Nat.le_refl _),show etyE.sz=3 from rfl] at rsub;generalize subV (.slice p h.log.length cap) C h.log.length 3=vS at *;go_wp2_with fail
   refine wp_region_F (n:=12) (S:=fun w':World=>w'.cell? ⟨gw,1,none⟩=some (.int .i64 (ws.n:Int))∧w'.cell? ⟨w.heap.size,6,none⟩=some (.slice p h.log.length cap)) (by kernel_rfl) ?_;have hHeld:(fun w':World=>w'.cell? ⟨gw,1,none⟩=some (.int .i64 (ws.n:Int))∧w'.cell? ⟨w.heap.size,6,none⟩=some (.slice p h.log.length cap)) wF.drew:=⟨hwF.c1,kF.cell 6 _ rfl⟩;refine tk ?_ 0 ?_ hHeld ?_;rotate_left
   ·rintro w ⟨_,_⟩;dsimp only [bare];go_simp<;>with_reducible rfl
   try simp only [lyB,lyP,lyA,lyZ,lyS]
   refine tk ?_ 1 ?_ hHeld ?_;rotate_left
   ·rintro w ⟨_,_⟩;dsimp only [bare];go_simp<;>with_reducible rfl
   try simp only [lyB,lyP,lyA,lyZ,lyS]
   refine tk ?_ 2 ?_ hHeld ?_;rotate_left
   ·rintro w ⟨_,_⟩;dsimp only [bare];go_simp<;>with_reducible rfl
   try simp only [lyB,lyP,lyA,lyZ,lyS]
   refine tk ?_ 3 ?_ hHeld ?_;rotate_left
   ·rintro w ⟨_,_⟩;dsimp only [bare];go_simp<;>with_reducible rfl
   try simp only [lyB,lyP,lyA,lyZ,lyS]
   refine tk ?_ 4 ?_ hHeld ?_;rotate_left
   ·rintro w ⟨_,_⟩;dsimp only [bare];go_simp<;>with_reducible rfl
   try simp only [lyB,lyP,lyA,lyZ,lyS]
   refine tk ?_ 5 ?_ hHeld ?_;rotate_left
   ·rintro w ⟨_,_⟩;dsimp only [bare];go_simp<;>with_reducible rfl
   try simp only [lyB,lyP,lyA,lyZ,lyS]
   refine tk ?_ 6 ?_ hHeld ?_;rotate_left
   ·rintro w ⟨_,_⟩;dsimp only [bare];go_simp<;>with_reducible rfl
   try simp only [lyB,lyP,lyA,lyZ,lyS]
   refine tk ?_ 7 ?_ hHeld ?_;rotate_left
   ·rintro w ⟨_,_⟩;dsimp only [bare];go_simp<;>with_reducible rfl
   try simp only [lyB,lyP,lyA,lyZ,lyS]
   refine tk ?_ 8 ?_ hHeld ?_;rotate_left
   ·rintro w ⟨_,_⟩;dsimp only [bare];go_simp<;>with_reducible rfl
   try simp only [lyB,lyP,lyA,lyZ,lyS]
   refine tk ?_ 9 ?_ hHeld ?_;rotate_left
   ·rintro w ⟨_,_⟩;dsimp only [bare];go_simp<;>with_reducible rfl
   try simp only [lyB,lyP,lyA,lyZ,lyS]
   refine wpAnyF_one 10 _ _ _ rfl (by kernel_rfl) (fun K hK=>?_);dsimp only [bare];go_simp;have bD:=below_drew wF.heap.size wF;refine (walEntries _ vS OF (h.log.drop C) wF.drew (mkF.byt.ext bD) (rsub.ext bD) (by omega) (by rw [List.length_drop];omega) (fun x hx=>i7 x (List.mem_of_mem_drop hx))).mono ?_;rintro e wG ⟨rG,rfl,byG,locG,bG⟩;dsimp only;have bFG:Below wF.heap.size wF wG:=bD.trans bG;have hwG:=hwF.ext bFG;have kG:=kF.ext bFG;have b0G:=bF0.trans (bFG.mono bF0.size);refine hK _ _ ⟨hwG.c1,kG.cell 6 _ rfl⟩ (fun hHeld=>?_);clear hK K
   try simp only [lyB,lyP,lyA,lyZ,lyS]
   refine wpAnyF_one 11 _ _ _ rfl (by kernel_rfl) (fun K hK=>?_);dsimp only [bare];go_simp;have hbt:OF++etysB (h.log.drop C)=moreB ws.h h:=by first | exact Hb.out.symm | (have hz:=Hb.out;rw [List.append_nil] at hz;exact hz.symm) | (have hz:=Hb.out;rw [←hRB] at hz ⊢; exact hz.symm) | (rw [←hRB];exact by have:=Hb.out;rw [List.append_nil] at this;exact this.symm)
   rw [hbt] at byG;have hlG:∀ k,moreB ws.h h≠[]→rG.ownBlock=some k→w.heap.size≤k∧k<wG.heap.size:=fun k hne hk=>by
    refine ⟨?_,?_⟩
    ·rcases locG k hk with e | e
     ·exact mkF.loc k e
     ·have:=bF0.size;have:wF.drew.heap.size=wF.heap.size:=rfl;omega
    ·exact Cells.lt byG (by rw [List.length_map];exact List.length_pos_iff.2 hne) k hk
   have hdG:DwS w0 (fun k=>X k∨((moreB ws.h h≠[]∧rG.ownBlock=some k)∨k=w.heap.size)) g d wG:=hd.more b0G (fun k hk=>hk.imp id (fun e=>e.elim (fun e=>hlG k e.1 e.2) (fun e=>by have:=kG.lt;omega)));have hwG':=hwG.mono (Y:=fun k=>X k∨((moreB ws.h h≠[]∧rG.ownBlock=some k)∨k=w.heap.size)) (fun k hk=>.inl hk);have hb0G:Below w0.heap.size w0 wG:=hb0.trans (b0G.mono hb0.size);refine (walWrite hdG pi (by omega) hwG' ws.n _ rfl (by omega) rG (moreB ws.h h) byG (fun hne k hk=>.inr (.inr (.inl ⟨hne,hk⟩))) (fun z hz=>T0 z (hb0G.trans (hz.gx hb0G.size))) He.out).mono ?_;rintro e wH ⟨rfl,hdH,hwH,chH⟩;dsimp only
   have hdH':=hdH.mono (Y:=X) (fun k hk=>.inl hk);have hwH':WalV wH X g gw _ ws:=hwG.chg chH (fun k hk hG=>hG.2 (.inl hk));have chE:Chg (Gw w0 X gw) w wH:=(Chg.of_below b0G).step (chH.toGw (fun k hk=>.inl hk));have kH:wH.cell? ⟨w.heap.size,6,none⟩=some (.slice p h.log.length cap):=(chH.blk kG (fun hG=>hG.2 (.inr (.inr rfl)))).cell 6 _ rfl;refine hK _ _ ⟨hwH'.c1,kH⟩ (fun hHeld=>?_);clear hK K
   try simp only [lyB,lyP,lyA,lyZ,lyS]
   refine wpAnyF_end (some 4) (Op.assign (Operand.tmp 68)) 42 rfl (by kernel_rfl) (by kernel_rfl) (fun K hK=>?_);dsimp only [bare];go_simp;refine hK _ _ ?_;clear hK K
   try simp only [lyB,lyP,lyA,lyZ,lyS]
   go_wp2_with fail
   go_ret
   exact ⟨rfl,hdH',hwH',chE⟩
end
end Go.Proofs.YtgpgcnmnfnnkjaaGreatDoor
