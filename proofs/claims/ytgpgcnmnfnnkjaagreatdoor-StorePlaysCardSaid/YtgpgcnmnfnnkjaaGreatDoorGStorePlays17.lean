import Derived.Test.YtgpgcnmnfnnkjaaGreatDoorGStorePlays16
set_option linter.unusedVariables false
set_option linter.unusedSimpArgs false
set_option maxRecDepth 100000
set_option maxHeartbeats 16000000
namespace Go.Proofs.YtgpgcnmnfnnkjaaGreatDoor
section
open Go Go.RowKit BigFrame Go.PlainAid
attribute [local go_sem] After.same
section
variable {P:Program} {t e:TypeId} {bytes:Nat} {w:World} {ops:Array Oper} {o:Oper} {a:Act}
theorem step_appB {K:Act→World→Prop} {Q:Exit→Act→World→Prop} {X:Prop} (T:SlT P t e 1 bytes) (hgd:o.guard=none) {s y:Operand} (ho:o.op=.call { callee:=.builtin .append,args:=#[s,y],argTypes:=#[t,t] })
 {B:Nat} {v:Value} {l:List UInt8} (own:OwnB w B e v l) (hs:a.eval s=v)
 {x:Value} {m:List UInt8} (src:Bytes w x m) (hx:a.eval y=x) (hbytes:(l.length+m.length) * bytes≤140737488355328) (hB:B≤w.heap.size)
 (h:∀ v' w',OwnB w' B e v' (l++m)→w.grownBy w' v.ownBlock→Below B w w'→K (a.put o.dst v') w'):if Region.wanted o (yielded ops a.tmps)=true then Oper.wp P o a w K Q else X:=by
 have hw:Region.wanted o (yielded ops a.tmps)=true:=by simp [Region.wanted,hgd]
 rw [if_pos hw];obtain ⟨v',w',hr,h2,h3,h4⟩:=run_app T o.type own src hbytes hB;unfold Oper.wp execOp;simp only [ho,resolve,invoke,builtin,Sem.run_bind,Sem.run_pure,Result.andThen_ok,List.map_toArray,List.map_cons,List.map_nil,hs,hx,hr]
 exact h v' w' (OwnB.snoc h2) h3 h4
end
theorem emptyB (w:World) (e:TypeId) (B H:Nat) (hH:w.heap.size=H) (hB:B≤w.heap.size):OwnB (w.alloc (.cells #[] e)) B e (.slice (some ⟨H,0,none⟩) 0 0) []:=by subst hH;exact Own.lit w #[] e 0 B rfl (by simp) (Nat.zero_le _) hB
theorem placeBy_app {α:Type} {p : α→Bool} {y : α} {b:List α} (hy:p y=true):∀ (a:List α) (k:Nat),(∀ x ∈ a,p x=false)→placeBy p (a++y::b) k=((k+a.length:Nat):Int)
 | [],k,_=>by rw [List.nil_append,placeBy,if_pos hy];simp
 | x::a,k,h=>by
  rw [List.cons_append,placeBy,if_neg (by rw [h x (by simp)];simp),placeBy_app hy a (k+1) fun z hz=>h z (by simp [hz])];rw [List.length_cons];congr 1;omega
theorem posD_le (l:List Fil) (s:ByteArray):posD l s≤l.length:=by unfold posD;exact (List.takeWhile_sublist _).length_le
theorem RefV.seqU' {F:Nat→Prop} {w w1 w2:World} {g:Nat} {v:Value} {d:Dk} {l':List Fil} {ys:List Ent} (h:RefV w2 (FF (FF F w w1) w1 w2) g v (.int .i64 d.left) (.bool d.off) ys∧Chg (FF F w w1) w1 w2) (h0:∀ k,F k→k<w.heap.size) (c:Chg F w w1) (hy:ys.map Ent.fil=l'):RefAt w2 (FF F w w2) g { d with fs:=l' }∧Chg F w w2 :=
 ⟨(RefV.seqU h h0 c).1.atFs hy,(RefV.seqU h h0 c).2⟩
theorem idx_put {l:List Fil} {s:ByteArray} {p:List UInt8} {n:Nat} (h:∀ x ∈ l,hasN s x=false):idxD (putD l ⟨s,p,n⟩) s=(posD l s:Int):=by
 unfold idxD putD;rw [placeBy_app (show hasN s ⟨s,p,n⟩=true from eqS_refl s) _ 0 fun x hx=>h x (List.mem_of_mem_take hx)];have:=posD_le l s;rw [List.length_take]
 show ((0+min (posD l s) l.length:Nat):Int)=_
 rw [Nat.min_eq_left this,Nat.zero_add]
theorem refAppend {F:Nat→Prop} {g:Nat} {d:Dk} {w:World} (hd:RefAt w F g d) (ok:OkD d) (hfs:d.fs.length≤999999) (s:ByteArray) (hs:s.size≤4611686018427387904) (vp:Value) (p:List UInt8) (hpb:p.length≤4611686018427387904) (hp:Bytes w vp p) (hpF:p≠[]→∀ k,vp.ownBlock=some k→¬ F k) :
 Calls Tryz.prog 18 #[.pointer (some ⟨g,0,none⟩),.string s,vp] w fun e w'=>e=.returned (.int .i64 (appendD d s p).1)∧UndR w F g (appendD d s p).2 w':=by
 have hlt:=hd.lt;obtain ⟨pp,cp,rfl,hp1,hp2,_,_⟩:=hp.form;unfold maxLen at hp2;have hplen:p.length≤9223372036854775807:=by omega
 have hp0:(0:Int)≤(p.length:Int):=by omega
 have hT:=ok.tot;have Hp:=Lib.hid hp;have HpF:=Lib.hid hpF;obtain ⟨v0,ys0,hv0,hy0⟩:=id hd;have c2:=hv0.blk.cell 2 _ rfl;have Hd:=Lib.hid hd;clear hd hp hpF hv0 hy0
 cases hoff:d.off with
 | true =>
  have hr:appendD d s p=(18,d):=by unfold appendD;rw [if_pos hoff]
  rw [hr];rw [hoff] at c2;clear hr hoff;go_enter Tryz.func18,Tryz.ntmps18
  go_wp2
  go_ret
  exact ⟨rfl,UndR.start Hd.out⟩
 | false =>
  rw [hoff] at c2;have hnam:=refNamed s w hs
  cases hnm:namedD s with
  | false =>
   have hr:appendD d s p=(19,d):=by unfold appendD;rw [if_neg (by rw [hoff];decide),if_pos hnm]
   rw [hr];rw [hnm] at hnam;clear hr hnm hoff;go_enter Tryz.func18,Tryz.ntmps18
   go_wp2_with (go_at_call 57;refine hnam.mono ?_;rintro e w' ⟨rfl,rfl⟩)
   go_ret
   exact ⟨rfl,UndR.start Hd.out⟩
  | true =>
   rw [hnm] at hnam;have htot:=refTotal Hd.out (Nat.le_trans hT (by decide))
   by_cases hfull:4194304<totD d.fs+p.length
   ·have hr:appendD d s p=(14,d):=by unfold appendD;rw [if_neg (by rw [hoff];decide),if_neg (by rw [hnm];decide),if_pos hfull]
    rw [hr];have hi:(4194304:Int)<(totD d.fs:Int)+(p.length:Int):=by omega
    by_cases hbig:(totD d.fs:Int)+(p.length:Int)≤9223372036854775807
    ·have hi0:(0:Int)≤(totD d.fs:Int):=by omega
     have hi1:(totD d.fs:Int)≤4194304:=by omega
     generalize totD d.fs=T at *;clear hr hnm hoff;go_enter Tryz.func18,Tryz.ntmps18
     go_wp2_with fail
     refine hnam.mono ?_;rintro e w' ⟨rfl,rfl⟩;go_wp2_with fail
     refine htot.mono ?_;rintro e w' ⟨rfl,rfl⟩;go_wp2_with fail
     go_ret
     exact ⟨rfl,UndR.start Hd.out⟩
    ·exfalso
     exact hbig (by omega)
   ·have hr:appendD d s p=stepD d (addD s p):=by unfold appendD;rw [if_neg (by rw [hoff];decide),if_neg (by rw [hnm];decide),if_neg hfull]
    have hi:¬ (4194304:Int)<(totD d.fs:Int)+(p.length:Int):=by omega
    have hi0:(0:Int)≤(totD d.fs:Int):=by omega
    have hi1:(totD d.fs:Int)≤4194304:=by omega
    have hfull2:totD d.fs+p.length≤4194304:=by omega
    have HR:Hid (((powD d).1=false→appendD d s p=(18,(powD d).2))∧((powD d).1=true→appendD d s p=(0,{ (powD d).2 with fs:=addD s p d.fs }))):=⟨fun h=>by rw [hr];exact stepD_no h,fun h=>by rw [hr];exact stepD_yes h⟩;have Htm:=Lib.hid (totD_mD d.fs s);have Hml:=Lib.hid (mD_length d.fs s);have Hadd:=Lib.hid (addD_eq s p d.fs);have Hmd:Hid (mD d.fs s=if idxD d.fs s<0 then putD d.fs ⟨s,[],0⟩ else d.fs):=rfl;have Hpf:=Lib.hid (powD_fs d);have hpow:=refPower Hd.out ok.lo ok.hi;obtain ⟨j,hj,hix⟩:=mD_has d.fs s;have Hix:=Lib.hid hix
    have hput:Hid ((idxD d.fs s<0→(posD d.fs s:Int)=(j:Int))∧(0≤idxD d.fs s→idxD d.fs s=(j:Int))):=by
     refine ⟨fun hx=>?_,fun hx=>?_⟩
     ·have e:=hix;unfold mD at e;rw [if_pos hx] at e
      rcases idxD_spec d.fs s with ⟨_,h2⟩ | ⟨i,_,h1,_⟩
      ·rw [←e,idx_put h2]
      ·omega
     ·have e:=hix;unfold mD at e;rw [if_neg (by omega)] at e;exact e
    clear hr hnm hoff hfull hix;generalize totD d.fs=T at *;go_enter Tryz.func18,Tryz.ntmps18
    go_wp2_with fail
    refine hnam.mono ?_;rintro e w' ⟨rfl,rfl⟩;go_wp2_with fail
    refine htot.mono ?_;rintro e w' ⟨rfl,rfl⟩;go_wp2_with fail
    refine hpow.mono ?_;rintro e w2 ⟨rfl,hd2,ch2⟩;clear hpow htot hnam c2
    cases hpw:(powD d).1 with
    | false =>
     have hs:=HR.out.1 hpw;have Hs:=Lib.hid hs;have undB:=UndR.of hd2 ch2 hlt;clear hs hpw hd2 ch2;go_wp2_with fail
     go_ret
     exact ⟨by rw [Hs.out]<;>rfl,by rw [Hs.out];exact undB⟩
    | true =>
     have hs:=HR.out.2 hpw;have Hs:=Lib.hid hs;clear hs hpw;generalize hd1e:(powD d).2=d1 at *;clear hd1e;have hat:=refAt s w2 hd2;rw [Hpf.out] at hat;generalize mD d.fs s=m at *;go_upto_if 32 with ((go_at_call 51;refine hat.mono ?_;rintro e w3 ⟨rfl,rfl⟩))
     go_cut [7] from 28 (fun q wi=>q=.int .i64 (j:Int)∧UndR w F g { d1 with fs:=m } wi)
     case first =>
      by_cases hx:idxD d.fs s<0
      ·obtain ⟨v2,ys2,hv2,hy2⟩:=id hd2;have hyl:ys2.length≤1000000:=by have h:=congrArg List.length hy2;rw [List.length_map,Hpf.out] at h;omega
       have hmk:=refMake hv2 hyl s;have hpe:=hput.out.1 hx;have Hpe:Hid (((posD (ys2.map Ent.fil) s:Nat):Int)=(j:Int)):=by show _=_;rw [hy2,Hpf.out];exact hpe
       rw [Hpe.out] at hmk;have Hmm:Hid (∀ W,RefX W (FF F w2 W) g (.int .i64 d1.left) (.bool d1.off) (insE ys2 ⟨s,none,0,[],0⟩)∧Chg F w2 W→UndR w F g { d1 with fs:=m } W):=fun W hW=>by
        obtain ⟨⟨v,hX⟩,hc⟩:=hW;refine UndR.back ⟨⟨v,_,hX,?_⟩,hc⟩ ch2 hlt;rw [insE_fil,hy2,Hpf.out,Hmd.out,if_pos hx];rfl
       clear hv2 hy2 hpe hd2;generalize idxD d.fs s=x at *;go_wp2_with fail
       refine hmk.mono ?_;rintro e w4 ⟨rfl,hX,hc⟩;have undE:=Hmm.out w4 ⟨hX,hc⟩;clear hmk hX hc;go_wp2_with fail
       go_meet
       exact ⟨rfl,undE⟩
      ·have hxe:=hput.out.2 (by omega);have undC:UndR w F g { d1 with fs:=m } w2:=by
        refine UndR.of ?_ ch2 hlt;have e1:({ d1 with fs:=m }:Dk)=d1:=by rw [Hmd.out,if_neg (by omega), ←Hpf.out]
        rw [e1];exact hd2
       have UndC:=Lib.hid undC;rw [hxe];have hj0:¬ (j:Int)<0:=by omega
       clear hxe hx undC hat hd2 ch2;go_wp2_with fail
       go_meet
       exact ⟨rfl,UndC.out⟩
     case rest =>
      obtain ⟨rfl,undE⟩:=hcut;obtain ⟨w4,hw4⟩:∃ z,z=wc:=⟨_,rfl⟩;subst hw4;clear hd2 hat;obtain ⟨v4,ys4,hv4,hy4⟩:=undE.1;have hml:=Hml.out;have hyl:=congrArg List.length hy4;rw [List.length_map] at hyl;have hjy:j<ys4.length:=by rw [hyl];exact hj
      have hys:ys4.length≤1000000:=by rw [hyl];show m.length≤_;omega
      obtain ⟨gv,cap,rfl,_,_,hq1,hq2⟩:=hv4.fil.row.head (by omega);unfold maxLen at hq2;have k0:=hv4.blk.cell 0 _ rfl;have k1:=hv4.fil.row.cellAt rfl j hjy 1 (by decide);have hji:(j:Int)<(ys4.length:Int):=by omega
      have hj0:(0:Int)≤(j:Int):=by omega
      have Hy4:Hid (ys4.map Ent.fil=m):=hy4;have hmem:ys4[j] ∈ ys4:=List.getElem_mem hjy;have hdat:=hv4.fil.data _ hmem;have hp4:Bytes w4 (.slice pp p.length cp) p:=undE.2.cellsE Nat.one_pos Hp.out (fun he=>HpF.out (fun e=>he (by rw [e];rfl)));have hdl:(ys4[j]).data.length+p.length≤4194304:=by
       have h1:=totD_mem (l:=m) (f:=(ys4[j]).fil) (by rw [←Hy4.out];exact List.mem_map.2 ⟨_,hmem,rfl⟩);have h2:(ys4[j]).fil.data.length=(ys4[j]).data.length:=rfl;rw [Htm.out] at h1;omega
      have fr1:=hv4.fil.row.frozenAt rfl (j * 3+1);clear hy4 hmem hyl;have k1e:w4.cell? ⟨gv,j * 3+1,none⟩=some (.slice ys4[j].p ys4[j].data.length ys4[j].c):=k1;clear k1;have hdat':Bytes w4 (.slice ys4[j].p ys4[j].data.length ys4[j].c) ys4[j].data:=hdat.bytes;have bD:=below_drew w4.heap.size w4;have hc1:Hid ((([]:List UInt8).length+(ys4[j]).data.length) * 1≤140737488355328):=by show _≤_;simp only [List.length_nil];omega
      have hc2:Hid ((([]++(ys4[j]).data).length+p.length) * 1≤140737488355328):=by show _≤_;simp only [List.nil_append];omega
      go_wp2_with fail
      refine wp_region_F (n:=19) (S:=fun w'=>w'.cell? ⟨g,0,none⟩=some (.slice (some ⟨gv,0,none⟩) ys4.length cap)∧w'.cell? ⟨gv,j * 3+1,none⟩=some (.slice ys4[j].p ys4[j].data.length ys4[j].c)) (by kernel_rfl) ?_;have hHeld:(fun w':World=>w'.cell? ⟨g,0,none⟩=some (.slice (some ⟨gv,0,none⟩) ys4.length cap)∧w'.cell? ⟨gv,j * 3+1,none⟩=some (.slice ys4[j].p ys4[j].data.length ys4[j].c)) w4.drew:=⟨k0,k1e⟩;refine tk ?_ 0 ?_ hHeld ?_;rotate_left
      ·rintro w ⟨_,_⟩;dsimp only [bare];go_simp<;>with_reducible rfl
      try simp only [lyB,lyP,lyA,lyZ,lyS]
      refine tk ?_ 1 ?_ hHeld ?_;rotate_left
      ·rintro w ⟨_,_⟩;dsimp only [bare];go_simp<;>with_reducible rfl
      try simp only [lyB,lyP,lyA,lyZ,lyS]
      refine tk ?_ 2 ?_ hHeld ?_;rotate_left
      ·rintro w ⟨_,_⟩;dsimp only [bare];go_simp<;>with_reducible rfl
      try simp only [lyB,lyP,lyA,lyZ,lyS]
      refine tk ?_ 3 ?_ hHeld ?_;rotate_left
      ·rintro w ⟨_,_⟩;dsimp only [bare];go_simp<;>with_reducible rfl
      try simp only [lyB,lyP,lyA,lyZ,lyS]
      refine tk ?_ 4 ?_ hHeld ?_;rotate_left
      ·rintro w ⟨_,_⟩;dsimp only [bare];go_simp<;>with_reducible rfl
      try simp only [lyB,lyP,lyA,lyZ,lyS]
      refine tk ?_ 6 ?_ hHeld ?_;rotate_left
      ·rintro w ⟨_,_⟩;dsimp only [bare];go_simp<;>with_reducible rfl
      try simp only [lyB,lyP,lyA,lyZ,lyS]
      refine tk ?_ 7 ?_ hHeld ?_;rotate_left
      ·rintro w ⟨_,_⟩;dsimp only [bare];go_simp<;>with_reducible rfl
      try simp only [lyB,lyP,lyA,lyZ,lyS]
      refine tk ?_ 8 ?_ hHeld ?_;rotate_left
      ·rintro w ⟨_,_⟩;dsimp only [bare];go_simp<;>with_reducible rfl
      try simp only [lyB,lyP,lyA,lyZ,lyS]
      refine tk ?_ 9 ?_ hHeld ?_;rotate_left
      ·rintro w ⟨_,_⟩;dsimp only [bare];go_simp<;>with_reducible rfl
      try simp only [lyB,lyP,lyA,lyZ,lyS]
      refine tk ?_ 10 ?_ hHeld ?_;rotate_left
      ·rintro w ⟨_,_⟩;dsimp only [bare];go_simp<;>with_reducible rfl
      try simp only [lyB,lyP,lyA,lyZ,lyS]
      refine tk ?_ 11 ?_ hHeld ?_;rotate_left
      ·rintro w ⟨_,_⟩;dsimp only [bare];go_simp<;>with_reducible rfl
      try simp only [lyB,lyP,lyA,lyZ,lyS]
      refine tk ?_ 12 ?_ hHeld ?_;rotate_left
      ·rintro w ⟨_,_⟩;dsimp only [bare];go_simp<;>with_reducible rfl
      try simp only [lyB,lyP,lyA,lyZ,lyS]
      refine tk ?_ 13 ?_ hHeld ?_;rotate_left
      ·rintro w ⟨_,_⟩;dsimp only [bare];go_simp<;>with_reducible rfl
      try simp only [lyB,lyP,lyA,lyZ,lyS]
      refine tk ?_ 15 ?_ hHeld ?_;rotate_left
      ·rintro w ⟨_,_⟩;dsimp only [bare];go_simp<;>with_reducible rfl
      try simp only [lyB,lyP,lyA,lyZ,lyS]
      refine wpAnyF_one 5 _ _ _ rfl (by kernel_rfl) (fun K hK=>?_);have ownE:=emptyB w4.drew 5 w4.heap.size w4.drew.heap.size rfl bD.size;have bE:=bD.trans ((below_alloc w4.drew (.cells #[] 5)).mono bD.size);dsimp only [bare];go_simp;refine hK _ _ ⟨(hv4.ext bE).blk.cell 0 _ rfl,(hv4.ext bE).fil.row.cellAt rfl j hjy 1 (by decide)⟩ (fun hHeld=>?_);clear hK K
      try simp only [lyB,lyP,lyA,lyZ,lyS]
      refine wpAnyF_one 14 _ _ _ rfl (by kernel_rfl) (fun K hK=>?_);refine step_appB (s:=.tmp 41) (y:=.tmp 49) (B:=w4.heap.size) (l:=[]) (m:=ys4[j].data) tU8 rfl rfl ownE (by simp [Act.eval,Act.put]) (hdat'.ext bE) (by simp [Act.eval,Act.put]) hc1.out bE.size ?_;intro v8 w8 own8 g8 b8;have bF:=bE.trans b8;refine hK _ _ ⟨(hv4.ext bF).blk.cell 0 _ rfl,(hv4.ext bF).fil.row.cellAt rfl j hjy 1 (by decide)⟩ (fun hHeld=>?_);clear hK K
      try simp only [lyB,lyP,lyA,lyZ,lyS]
      refine wpAnyF_one 16 _ _ _ rfl (by kernel_rfl) (fun K hK=>?_);refine step_appB (s:=.tmp 50) (y:=.tmp 51) (B:=w4.heap.size) (l:=[]++ys4[j].data) (m:=p) tU8 rfl rfl own8 (by simp [Act.eval,Act.put]) (hp4.ext bF) (by simp [Act.eval,Act.put]) hc2.out bF.size ?_;intro v9 w9 own9 g9 b9;have bG:=bF.trans b9;refine hK _ _ ⟨(hv4.ext bG).blk.cell 0 _ rfl,(hv4.ext bG).fil.row.cellAt rfl j hjy 1 (by decide)⟩ (fun hHeld=>?_);clear hK K
      try simp only [lyB,lyP,lyA,lyZ,lyS]
      refine tk ?_ 17 ?_ hHeld ?_;rotate_left
      ·rintro w ⟨_,_⟩;dsimp only [bare];go_simp<;>with_reducible rfl
      try simp only [lyB,lyP,lyA,lyZ,lyS]
      refine tk ?_ 18 ?_ hHeld ?_;rotate_left
      ·rintro w ⟨_,_⟩;dsimp only [bare];go_simp<;>with_reducible rfl
      try simp only [lyB,lyP,lyA,lyZ,lyS]
      have own12:OwnB w9 w4.heap.size 5 v9 (ys4[j].data++p):=by have h:=own9;rw [List.nil_append] at h;exact h
      obtain ⟨p6,c6,hv6⟩:=own12.bytes.shapeN (n:=ys4[j].data.length+p.length) List.length_append;subst hv6;obtain ⟨y,hy⟩:∃ y,ys4[j]=y:=⟨_,rfl⟩;rw [hy] at own12;have hya:(⟨y.name,p6,c6,y.data++p,y.kept⟩:Ent).v=.slice p6 (y.data.length+p.length) c6:=by unfold Ent.v;rw [List.length_append]
      have ow:OwnB w9 0 5 (⟨y.name,p6,c6,y.data++p,y.kept⟩:Ent).v (y.data++p):=by rw [hya, ←hy];rw [←hy] at own12;exact Own.base own12 (Nat.zero_le _)
      have hv9:=hv4.ext bG;have hst:=hv9.fil.row.stored rfl j hjy 1 (by decide) (.slice p6 (y.data.length+p.length) c6) rfl ⟨y.name,p6,c6,y.data++p,y.kept⟩ (by rw [hy];show [_,_,_]=_;rw [show (⟨y.name,p6,c6,y.data++p,y.kept⟩:Ent).data.length=y.data.length+p.length from List.length_append];rfl);have hset:=hv4.setEnt hjy (y:=⟨y.name,p6,c6,y.data++p,y.kept⟩) (Chg.of_below bG) ow (.inr fun n hn=>by rw [hya, ←hy] at hn;rw [←hy] at own12;exact (OwnB.lt own12 n hn).1) hst.1 hst.2;have hfin:=RefV.seqU hset hlt undE.2;have hres:(ys4.set j ⟨y.name,p6,c6,y.data++p,y.kept⟩).map Ent.fil=addD s p d.fs:=by
       rw [map_set_fil,Hy4.out,Hadd.out,Hix.out,Int.toNat_natCast,updD_at hj];have e2:m[j]=y.fil:=by rw [←hy];simp only [←Hy4.out,List.getElem_map]
       rw [e2];rfl
      have Hfin:Hid (UndR w F g { d1 with fs:=addD s p d.fs } _):=⟨hfin.1.atFs hres,hfin.2⟩;have fr2:=hv9.fil.row.frozenAt rfl (j * 3+1);rw [←hy] at Hfin;clear hres hfin hset hst hv9 ow hya own12 hy own8 own9 ownE hv4;refine wpAnyF_end (none) (Op.store 26 (Operand.tmp 54) (Operand.tmp 52)) 0 rfl (by kernel_rfl) (by kernel_rfl) (fun K hK=>?_);dsimp only [bare];go_simp;refine hK _ _ ?_;clear hK K
      try simp only [lyB,lyP,lyA,lyZ,lyS]
      go_wp2_with fail
      go_ret
      exact ⟨by rw [Hs.out]<;>rfl,by rw [Hs.out];exact Hfin.out⟩
theorem refCut {F:Nat→Prop} {g:Nat} {d:Dk} {w:World} (hd:RefAt w F g d) (ok:OkD d) (hfs:d.fs.length≤1000000) (s:ByteArray) (n:Int) :
 Calls Tryz.prog 45 #[.pointer (some ⟨g,0,none⟩),.string s,.int .i64 n] w fun e w'=>e=.returned (.int .i64 (cutD d s n).1)∧UndR w F g (cutD d s n).2 w':=by
 have hlt:=hd.lt;have hT:=ok.tot;have hat:=refAt s w hd;obtain ⟨v0,ys0,hv0,hy0⟩:=id hd;have c2:=hv0.blk.cell 2 _ rfl;have Hd:=Lib.hid hd;clear hd hv0 hy0
 cases hoff:d.off with
 | true =>
  rw [hoff] at c2;generalize hxx:idxD d.fs s=x at *;clear hxx;have hr:cutD d s n=(18,d):=by unfold cutD;rw [if_neg (fun h=>by rw [known_off hoff] at h;exact absurd h.1 (by decide))];exact onD_err (known_off hoff) (by decide)
  rw [hr];clear hr;go_enter Tryz.func45,Tryz.ntmps45
  go_wp2_with (go_at_call 51;refine hat.mono ?_;rintro e w' ⟨rfl,rfl⟩)
  go_ret
  exact ⟨rfl,UndR.start Hd.out⟩
 | false =>
  rw [hoff] at c2
  rcases idxD_spec d.fs s with ⟨hx,_⟩ | ⟨j,hj,hx,_,_⟩
  ·rw [hx] at hat;have hr:cutD d s n=(11,d):=by unfold cutD;rw [if_neg (fun h=>by rw [known_none hoff hx] at h;exact absurd h.1 (by decide))];exact onD_err (known_none hoff hx) (by decide)
   rw [hr];clear hr;go_enter Tryz.func45,Tryz.ntmps45
   go_wp2_with (go_at_call 51;refine hat.mono ?_;rintro e w' ⟨rfl,rfl⟩)
   go_ret
   exact ⟨rfl,UndR.start Hd.out⟩
  ·rw [hx] at hat;obtain ⟨va,ysa,hva,hya⟩:=id Hd.out;have hyl:=congrArg List.length hya;rw [List.length_map] at hyl;have hjya:j<ysa.length:=by rw [hyl];exact hj
   have hysa:ysa.length≤1000000:=by rw [hyl];exact hfs
   obtain ⟨gva,capa,rfl,_,_,hqa1,hqa2⟩:=hva.fil.row.head (by omega);unfold maxLen at hqa2;have hjia:(j:Int)<(ysa.length:Int):=by omega
   have hj0a:(0:Int)≤(j:Int):=by omega
   have hfja:d.fs[j]?=some (ysa[j]).fil:=by rw [←hya,List.getElem?_map,List.getElem?_eq_getElem hjya];rfl
   have hle:((d.fs[(idxD d.fs s).toNat]?).map fun f=>(f.data.length:Int)).getD 0=((ysa[j]).data.length:Int):=by rw [hx,Int.toNat_natCast,hfja];rfl
   have hcut:cutD d s n=if n<0∨((ysa[j]).data.length:Int)<n then (1,d) else onD d s fun l k=>updD l k fun f=>⟨f.name,f.data.take n.toNat,min f.kept n.toNat⟩:=by
    unfold cutD;rw [hle,known_at hoff hx];simp
   have ka:=hva.blk.cell 0 _ rfl;have kb:w.cell? ⟨gva,j * 3+1,none⟩=some (.slice ysa[j].p ysa[j].data.length ysa[j].c):=hva.fil.row.cellAt rfl j hjya 1 (by decide);have Hlen:Hid (∀ h:j<d.fs.length,d.fs[j].data.length=(ysa[j]).data.length):=fun h=>by simp only [←hya,List.getElem_map];rfl
   have hfj:Hid (∀ h:j<d.fs.length,True):=fun _=>trivial;clear hva hya hfja hle hyl;generalize ysa[j]=ya at *;have hdla:(0:Int)≤(ya.data.length:Int):=by omega
   by_cases hn0:n<0
   ·rw [if_pos (.inl hn0)] at hcut;have Hcut:=Lib.hid hcut;clear hcut;go_enter Tryz.func45,Tryz.ntmps45
    go_wp2_with (go_at_call 51;refine hat.mono ?_;rintro e w' ⟨rfl,rfl⟩)
    go_ret
    exact ⟨by rw [Hcut.out]<;>rfl,by rw [Hcut.out];exact UndR.start Hd.out⟩
   ·by_cases hnl:(ya.data.length:Int)<n
    ·rw [if_pos (.inr hnl)] at hcut;have Hcut:=Lib.hid hcut;clear hcut;go_enter Tryz.func45,Tryz.ntmps45
     go_wp2_with (go_at_call 51;refine hat.mono ?_;rintro e w' ⟨rfl,rfl⟩)
     go_ret
     exact ⟨by rw [Hcut.out]<;>rfl,by rw [Hcut.out];exact UndR.start Hd.out⟩
    ·rw [if_neg (fun h=>h.elim hn0 hnl)] at hcut;obtain ⟨m,rfl⟩:∃ m:Nat,n=(m:Int):=⟨n.toNat,by omega⟩;have hml:m≤d.fs[j].data.length:=by rw [Hlen.out hj];omega
     have hr:cutD d s (m:Int)=stepD d fun l=>updD l j fun f=>⟨f.name,f.data.take m,min f.kept m⟩:=by rw [hcut];exact onD_yes (known_at hoff hx) hx
     have HR:Hid (((powD d).1=false→cutD d s (m:Int)=(18,(powD d).2))∧((powD d).1=true→cutD d s (m:Int)=(0,{ (powD d).2 with fs:=updD d.fs j fun f=>⟨f.name,f.data.take m,min f.kept m⟩ }))):=⟨fun h=>by rw [hr];exact stepD_no h,fun h=>by rw [hr];exact stepD_yes h⟩;have Hml:=Lib.hid hml;have hm0:(0:Int)≤(m:Int):=by omega
     clear hn0 hcut hr hx hoff hml;have Hpf:=Lib.hid (powD_fs d);have hpow:=refPower Hd.out ok.lo ok.hi;go_enter Tryz.func45,Tryz.ntmps45
     go_wp2_with fail
     refine hat.mono ?_;rintro e w' ⟨rfl,rfl⟩;go_wp2_with fail
     refine hpow.mono ?_;rintro e w2 ⟨rfl,hd2,ch2⟩;clear hpow
     cases hpw:(powD d).1 with
     | false =>
      have hs:=HR.out.1 hpw;have Hs:=Lib.hid hs;have undB:=UndR.of hd2 ch2 hlt;clear hs hpw hd2 ch2;go_wp2_with fail
      go_ret
      exact ⟨by rw [Hs.out]<;>rfl,by rw [Hs.out];exact undB⟩
     | true =>
      have hs:=HR.out.2 hpw;have Hs:=Lib.hid hs;clear hs hpw;generalize hd1e:(powD d).2=d1 at *;clear hd1e;obtain ⟨v2,ys2,hv2,hy2⟩:=hd2;have hyd:ys2.map Ent.fil=d.fs:=by rw [hy2,Hpf.out]
      have Hyd:=Lib.hid hyd;have hjy:j<ys2.length:=by have h:=congrArg List.length hyd;rw [List.length_map] at h;omega
      have hys:ys2.length≤1000000:=by have h:=congrArg List.length hyd;rw [List.length_map] at h;omega
      obtain ⟨gv,cap,rfl,_,_,hq1,hq2⟩:=hv2.fil.row.head (by omega);unfold maxLen at hq2;have k0:=hv2.blk.cell 0 _ rfl;have z0:=hv2.blk.frozen 0;have hji:(j:Int)<(ys2.length:Int):=by omega
      have hj0:(0:Int)≤(j:Int):=by omega
      clear hy2 hyd;have hmem:ys2[j] ∈ ys2:=List.getElem_mem hjy;have hdat:=hv2.fil.data _ hmem;have hdl:(ys2[j]).data.length≤4194304:=by
       have h1:=totD_mem (l:=d.fs) (f:=(ys2[j]).fil) (by rw [←Hyd.out];exact List.mem_map.2 ⟨_,hmem,rfl⟩);have h2:(ys2[j]).fil.data.length=(ys2[j]).data.length:=rfl;omega
      have c21:w2.cell? ⟨gv,j * 3+1,none⟩=some (.slice ys2[j].p ys2[j].data.length ys2[j].c):=hv2.fil.row.cellAt rfl j hjy 1 (by decide);have c22:w2.cell? ⟨gv,j * 3+2,none⟩=some (.int .i64 ((ys2[j]).kept:Int)):=hv2.fil.row.cellAt rfl j hjy 2 (by decide);have f21:=hv2.fil.row.frozenAt rfl (j * 3+1);have f22:=hv2.fil.row.frozenAt rfl (j * 3+2);obtain ⟨y,hy⟩:∃ y,ys2[j]=y:=⟨_,rfl⟩;have Hy:=Lib.hid hy;have hfj:Hid (∀ h:j<d.fs.length,d.fs[j]=y.fil):=fun h=>by rw [←hy];simp only [←Hyd.out,List.getElem_map]
      rw [hy] at hdat hdl c21 c22;have hml:m≤y.data.length:=by have h1:=Hml.out;rw [hfj.out hj] at h1;exact h1
      have hA:=run_sub_to tU8 (P:=Tryz.prog) (show Bytes w2 (.slice y.p y.data.length y.c) y.data from hdat.bytes) .i64 (m:Int) m rfl hml;have rA:=(show Bytes w2 (.slice y.p y.data.length y.c) y.data from hdat.bytes).sub 0 m (by omega) hml;rw [show (y.data.drop 0).take (m - 0)=y.data.take m from by simp] at rA;generalize subV (.slice y.p y.data.length y.c) 0 m 1=vA at *;have hc1:Hid ((([]:List UInt8).length+(y.data.take m).length) * 1≤140737488355328):=by show _≤_;simp only [List.length_nil,List.length_take];omega
      have bD:=below_drew w2.heap.size w2;clear ka kb hnl hjia hj0a hmem;have c21':=fun b (hb:Below w2.heap.size w2 b)=>(show b.cell? ⟨gv,j * 3+1,none⟩=some (.slice y.p y.data.length y.c) by rw [←hy];exact (hv2.ext hb).fil.row.cellAt rfl j hjy 1 (by decide));go_wp2_with fail
      refine wp_region_F (n:=19) (S:=fun w'=>w'.cell? ⟨g,0,none⟩=some (.slice (some ⟨gv,0,none⟩) ys2.length cap)∧w'.cell? ⟨gv,j * 3+1,none⟩=some (.slice y.p y.data.length y.c)) (by kernel_rfl) ?_;have hHeld:(fun w':World=>w'.cell? ⟨g,0,none⟩=some (.slice (some ⟨gv,0,none⟩) ys2.length cap)∧w'.cell? ⟨gv,j * 3+1,none⟩=some (.slice y.p y.data.length y.c)) w2.drew:=⟨k0,c21⟩;refine tk ?_ 0 ?_ hHeld ?_;rotate_left
      ·rintro w ⟨_,_⟩;dsimp only [bare];go_simp<;>with_reducible rfl
      try simp only [lyB,lyP,lyA,lyZ,lyS]
      refine tk ?_ 1 ?_ hHeld ?_;rotate_left
      ·rintro w ⟨_,_⟩;dsimp only [bare];go_simp<;>with_reducible rfl
      try simp only [lyB,lyP,lyA,lyZ,lyS]
      refine tk ?_ 2 ?_ hHeld ?_;rotate_left
      ·rintro w ⟨_,_⟩;dsimp only [bare];go_simp<;>with_reducible rfl
      try simp only [lyB,lyP,lyA,lyZ,lyS]
      refine tk ?_ 3 ?_ hHeld ?_;rotate_left
      ·rintro w ⟨_,_⟩;dsimp only [bare];go_simp<;>with_reducible rfl
      try simp only [lyB,lyP,lyA,lyZ,lyS]
      refine tk ?_ 4 ?_ hHeld ?_;rotate_left
      ·rintro w ⟨_,_⟩;dsimp only [bare];go_simp<;>with_reducible rfl
      try simp only [lyB,lyP,lyA,lyZ,lyS]
      refine tk ?_ 6 ?_ hHeld ?_;rotate_left
      ·rintro w ⟨_,_⟩;dsimp only [bare];go_simp<;>with_reducible rfl
      try simp only [lyB,lyP,lyA,lyZ,lyS]
      refine tk ?_ 7 ?_ hHeld ?_;rotate_left
      ·rintro w ⟨_,_⟩;dsimp only [bare];go_simp<;>with_reducible rfl
      try simp only [lyB,lyP,lyA,lyZ,lyS]
      refine tk ?_ 8 ?_ hHeld ?_;rotate_left
      ·rintro w ⟨_,_⟩;dsimp only [bare];go_simp<;>with_reducible rfl
      try simp only [lyB,lyP,lyA,lyZ,lyS]
      refine tk ?_ 9 ?_ hHeld ?_;rotate_left
      ·rintro w ⟨_,_⟩;dsimp only [bare];go_simp<;>with_reducible rfl
      try simp only [lyB,lyP,lyA,lyZ,lyS]
      refine tk ?_ 10 ?_ hHeld ?_;rotate_left
      ·rintro w ⟨_,_⟩;dsimp only [bare];go_simp<;>with_reducible rfl
      try simp only [lyB,lyP,lyA,lyZ,lyS]
      refine tk ?_ 11 ?_ hHeld ?_;rotate_left
      ·rintro w ⟨_,_⟩;dsimp only [bare];go_simp<;>with_reducible rfl
      try simp only [lyB,lyP,lyA,lyZ,lyS]
      refine tk ?_ 12 ?_ hHeld ?_;rotate_left
      ·rintro w ⟨_,_⟩;dsimp only [bare];go_simp<;>with_reducible rfl
      try simp only [lyB,lyP,lyA,lyZ,lyS]
      refine tk ?_ 13 ?_ hHeld ?_;rotate_left
      ·rintro w ⟨_,_⟩;dsimp only [bare];go_simp<;>with_reducible rfl
      try simp only [lyB,lyP,lyA,lyZ,lyS]
      refine tk ?_ 14 ?_ hHeld ?_;rotate_left
      ·rintro w ⟨_,_⟩;dsimp only [bare];go_simp<;>with_reducible rfl
      try simp only [lyB,lyP,lyA,lyZ,lyS]
      refine tk ?_ 15 ?_ hHeld ?_;rotate_left
      ·rintro w ⟨_,_⟩;dsimp only [bare];go_simp<;>with_reducible rfl
      try simp only [lyB,lyP,lyA,lyZ,lyS]
      refine wpAnyF_one 5 _ _ _ rfl (by kernel_rfl) (fun K hK=>?_);have ownE:=emptyB w2.drew 5 w2.heap.size w2.drew.heap.size rfl bD.size;have bE:=bD.trans ((below_alloc w2.drew (.cells #[] 5)).mono bD.size);dsimp only [bare];go_simp;refine hK _ _ ⟨(hv2.ext bE).blk.cell 0 _ rfl,c21' _ bE⟩ (fun hHeld=>?_);clear hK K
      try simp only [lyB,lyP,lyA,lyZ,lyS]
      refine wpAnyF_one 16 _ _ _ rfl (by kernel_rfl) (fun K hK=>?_);refine step_appB (s:=.tmp 44) (y:=.tmp 54) (B:=w2.heap.size) (l:=[]) (m:=y.data.take m) tU8 rfl rfl ownE (by simp [Act.eval,Act.put]) (rA.ext bE) (by simp [Act.eval,Act.put]) hc1.out bE.size ?_;intro v8 w8 own8 g8 b8;have bF:=bE.trans b8;refine hK _ _ ⟨(hv2.ext bF).blk.cell 0 _ rfl,c21' _ bF⟩ (fun hHeld=>?_);clear hK K
      try simp only [lyB,lyP,lyA,lyZ,lyS]
      refine tk ?_ 17 ?_ hHeld ?_;rotate_left
      ·rintro w ⟨_,_⟩;dsimp only [bare];go_simp<;>with_reducible rfl
      try simp only [lyB,lyP,lyA,lyZ,lyS]
      refine tk ?_ 18 ?_ hHeld ?_;rotate_left
      ·rintro w ⟨_,_⟩;dsimp only [bare];go_simp<;>with_reducible rfl
      try simp only [lyB,lyP,lyA,lyZ,lyS]
      have own12:OwnB w8 w2.heap.size 5 v8 (y.data.take m):=by have h:=own8;rw [List.nil_append] at h;exact h
      have htl:(y.data.take m).length=m:=by rw [List.length_take];omega
      obtain ⟨p6,c6,rfl⟩:=own12.bytes.shapeN htl;have hya:(⟨y.name,p6,c6,y.data.take m,y.kept⟩:Ent).v=.slice p6 m c6:=by unfold Ent.v;rw [htl]
      have ow:OwnB w8 0 5 (⟨y.name,p6,c6,y.data.take m,y.kept⟩:Ent).v (y.data.take m):=by rw [hya];exact Own.base own12 (Nat.zero_le _)
      have hv9:=hv2.ext bF;have hst:=hv9.fil.row.stored rfl j hjy 1 (by decide) (.slice p6 m c6) rfl ⟨y.name,p6,c6,y.data.take m,y.kept⟩ (by rw [hy];show [_,_,_]=_;rw [show (⟨y.name,p6,c6,y.data.take m,y.kept⟩:Ent).data.length=m from htl];rfl);have hset:=hv2.setEnt hjy (y:=⟨y.name,p6,c6,y.data.take m,y.kept⟩) (Chg.of_below bF) ow (.inr fun n hn=>by rw [hya] at hn;exact (OwnB.lt own12 n hn).1) hst.1 hst.2;have fr2:=hv9.fil.row.frozenAt rfl (j * 3+1);have c40:=hset.1.blk.cell 0 _ rfl;have hlen3:(ys2.set j ⟨y.name,p6,c6,y.data.take m,y.kept⟩).length=ys2.length:=List.length_set;have Hset:=Lib.hid hset
      clear hset hst hv9 ow hya own12 own8 ownE c40;refine wpAnyF_end (none) (Op.store 26 (Operand.tmp 57) (Operand.tmp 55)) 0 rfl (by kernel_rfl) (by kernel_rfl) (fun K hK=>?_);dsimp only [bare];go_simp;refine hK _ _ ?_;clear hK K
      try simp only [lyB,lyP,lyA,lyZ,lyS]
      have hset:=Hset.out;rw [show entE.sz=3 from rfl] at hset;clear Hset;generalize (World.setCell w8 ⟨gv,j * 3+1,none⟩ (.slice p6 m c6))=w3 at *;obtain ⟨z,hz⟩:∃ z,(⟨y.name,p6,c6,y.data.take m,y.kept⟩:Ent)=z:=⟨_,rfl⟩;rw [hz] at hset hlen3;obtain ⟨ys3,hys3⟩:∃ l,ys2.set j z=l:=⟨_,rfl⟩;rw [hys3] at hset hlen3;have hj3:j<ys3.length:=by omega
      have hz3:ys3[j]=z:=by subst hys3;exact List.getElem_set_self _
      obtain ⟨hv3,ch3⟩:=hset;have c30:=hv3.blk.cell 0 _ rfl;have c32:w3.cell? ⟨gv,j * 3+2,none⟩=some (.int .i64 (y.kept:Int)):=by
       have h:=hv3.fil.row.cellAt hlen3.symm j hj3 2 (by decide);rw [hz3, ←hz] at h;exact h
      have fr3:=hv3.fil.row.frozenAt hlen3.symm (j * 3+2);have hdz:OwnB w3 0 5 z.v z.data:=by have h:=hv3.fil.data _ (List.getElem_mem hj3);rw [hz3] at h;exact h
      have hst2:=hv3.fil.row.drew.stored hlen3.symm j hj3 2 (by decide) (.int .i64 ((min y.kept m:Nat):Int)) rfl ⟨z.name,z.p,z.c,z.data,min y.kept m⟩ (by rw [hz3];rfl);have hset2:=hv3.drew.setEnt hj3 (y:=⟨z.name,z.p,z.c,z.data,min y.kept m⟩) (Chg.refl _ _) (by exact hdz) (.inl (by rw [hz3];rfl)) hst2.1 hst2.2;have hres:(ys3.set j ⟨z.name,z.p,z.c,z.data,min y.kept m⟩).map Ent.fil=updD d.fs j fun f=>⟨f.name,f.data.take m,min f.kept m⟩:=by
       rw [←hys3,List.set_set,map_set_fil,Hyd.out,updD_at hj,hfj.out hj, ←hz];rfl
      have hfin:=UndR.back (RefV.seqU' hset2 hv2.lt ch3.drew hres) ch2 hlt;have Hfin:=Lib.hid hfin;clear hfin hset2 hst2 hdz hv3 ch3 hres hys3 hz3 hz
      by_cases hmk:m<y.kept
      ·have hmn:min y.kept m=m:=Nat.min_eq_right (Nat.le_of_lt hmk);rw [hmn] at Hfin;have hmk2:(m:Int)<(y.kept:Int):=by omega
       clear hmn;go_wp2_with fail
       go_still_tail 17,(by kernel_rfl)
       change wpList _ _ _ _ _ w3.drew
       go_wp2_with fail
       go_ret
       exact ⟨by rw [Hs.out]<;>rfl,by rw [Hs.out];exact Hfin.out⟩
      ·have hmn:min y.kept m=y.kept:=Nat.min_eq_left (by omega);rw [hmn] at Hfin;have hmk3:y.kept≤m:=by omega
       clear hmn;go_wp2_with fail
       go_still_tail 17,(by kernel_rfl)
       change wpList _ _ _ _ _ w3.drew
       go_wp2_with fail
       go_ret
       exact ⟨by rw [Hs.out]<;>rfl,by rw [Hs.out];exact Hfin.out⟩
end
section
open Go Go.RowKit Go.PlainAid
def SortD (l:List Fil):Prop:=l.Pairwise fun a b=>ltS a.name b.name=true
def getF (l:List Fil) (s:ByteArray):Option Fil:=l.find? (hasN s)
theorem hasN_iff {s:ByteArray} {f:Fil}:hasN s f=true↔f.name=s:=eqS_iff _ _
theorem hasN_no {s:ByteArray} {f:Fil} (h:f.name≠s):hasN s f=false:=by
 rw [Bool.eq_false_iff];exact fun h2=>h (hasN_iff.1 h2)
theorem find_idx (l:List Fil) (s:ByteArray):(idxD l s = -1∧getF l s=none)∨∃ j,∃ h:j<l.length,idxD l s=(j:Int)∧getF l s=some l[j]∧l[j].name=s:=by
 rcases idxD_spec l s with ⟨h1,h2⟩ | ⟨j,hj,h1,h2,h3⟩
 ·exact .inl ⟨h1,List.find?_eq_none.2 fun x hx=>by rw [h2 x hx];decide⟩
 ·refine .inr ⟨j,hj,h1,?_,hasN_iff.1 h2⟩;unfold getF;have e:l=l.take j++l[j]::l.drop (j+1):=by rw [←List.drop_eq_getElem_cons hj,List.take_append_drop]
  have hn:(l.take j).find? (hasN s)=none:=List.find?_eq_none.2 fun x hx=>by
   obtain ⟨i,hi,rfl⟩:=List.getElem_of_mem hx;rw [List.length_take] at hi;rw [List.getElem_take,h3 i (by omega) (by omega)];simp
  have e2:l.find? (hasN s)=(l.take j++l[j]::l.drop (j+1)).find? (hasN s):=by rw [←e]
  rw [e2,List.find?_append,hn,Option.none_or,List.find?_cons,h2]
theorem read_getF (d:Dk) (s:ByteArray):readD d s=(getF d.fs s).map (·.data):=by
 unfold readD
 rcases find_idx d.fs s with ⟨h1,h2⟩ | ⟨j,hj,h1,h2,_⟩
 ·rw [if_pos (by omega),h2];rfl
 ·rw [if_neg (by omega),h1,h2,Int.toNat_natCast,List.getElem?_eq_getElem hj]
theorem idx_neg_iff (l:List Fil) (s:ByteArray):idxD l s<0↔getF l s=none:=by
 rcases find_idx l s with ⟨h1,h2⟩ | ⟨j,hj,h1,h2,_⟩
 ·rw [h1,h2];simp
 ·rw [h1,h2];simp
theorem moveD_at0 {l:List Fil} {k:Nat} (h:k<l.length) (sn:ByteArray):moveD sn l k=putD (if 0≤idxD (delD l k) sn then delD (delD l k) (idxD (delD l k) sn).toNat else delD l k) ⟨sn,l[k].data,l[k].kept⟩:=by
 unfold moveD;rw [List.getElem?_eq_getElem h]
theorem get_mid {s:ByteArray} {x:Fil} (l1 l2:List Fil) (h:x.name≠s):getF (l1++x::l2) s=getF (l1++l2) s:=by
 unfold getF;rw [List.find?_append,List.find?_append,List.find?_cons,hasN_no h]
theorem get_put {s:ByteArray} {x:Fil} (l:List Fil) (h:x.name≠s):getF (putD l x) s=getF l s:=by
 unfold putD;rw [get_mid _ _ h,List.take_append_drop]
theorem get_del {s:ByteArray} {l:List Fil} {k:Nat} (hk:k<l.length) (h:l[k].name≠s):getF (delD l k) s=getF l s:=by
 unfold delD;rw [←get_mid (l.take k) (l.drop (k+1)) h, ←List.drop_eq_getElem_cons hk,List.take_append_drop]
theorem get_set {s:ByteArray} {l:List Fil} {k:Nat} {y:Fil} (hk:k<l.length) (h:l[k].name≠s) (hy:y.name≠s):getF (l.set k y) s=getF l s:=by
 rw [List.set_eq_take_append_cons_drop,if_pos hk,get_mid _ _ hy, ←get_mid (l.take k) (l.drop (k+1)) h, ←List.drop_eq_getElem_cons hk,List.take_append_drop]
theorem get_upd {s t:ByteArray} {l:List Fil} {f:Fil→Fil} {j:Nat} (hj:j<l.length) (hn:l[j].name=t) (h:t≠s) (hf:∀ x,(f x).name=x.name):getF (updD l j f) s=getF l s:=by
 rw [updD_at hj,get_set hj (by rw [hn];exact h) (by rw [hf,hn];exact h)]
theorem get_mD {s t:ByteArray} (l:List Fil) (h:t≠s):getF (mD l t) s=getF l s:=by
 unfold mD;split
 ·exact get_put l h
 ·rfl
theorem mD_at (l:List Fil) (t:ByteArray):∃ j,∃ h:j<(mD l t).length,idxD (mD l t) t=(j:Int)∧(mD l t)[j].name=t:=by
 obtain ⟨j,hj,h1⟩:=mD_has l t
 rcases find_idx (mD l t) t with ⟨h2,_⟩ | ⟨i,hi,h2,_,h3⟩
 ·omega
 ·exact ⟨i,hi,h2,h3⟩
theorem get_addD {s t:ByteArray} {p:List UInt8} (l:List Fil) (h:t≠s):getF (addD t p l) s=getF l s:=by
 rw [addD_eq];obtain ⟨j,hj,h1,h2⟩:=mD_at l t;rw [h1,Int.toNat_natCast,get_upd (f:=fun f=>⟨f.name,f.data++p,f.kept⟩) hj h2 h (fun _=>rfl),get_mD l h]
theorem append_other {s t:ByteArray} {p:List UInt8} (d:Dk) (h:t≠s):getF (appendD d t p).2.fs s=getF d.fs s:=by
 unfold appendD
 split
 ·rfl
 ·split
  ·rfl
  ·split
   ·rfl
   ·unfold stepD;split
    ·exact get_addD d.fs h
    ·rw [powD_fs]
theorem onD_other {s t:ByteArray} {f:List Fil→Nat→List Fil} (d:Dk) (hf:∀ j (hj:j<d.fs.length),d.fs[j].name=t→getF (f d.fs j) s=getF d.fs s):getF (onD d t f).2.fs s=getF d.fs s:=by
 unfold onD
 split
 ·rfl
 ·rename_i hk
  unfold stepD;split
  ·rcases find_idx d.fs t with ⟨h1,_⟩ | ⟨j,hj,h1,_,h2⟩
   ·exfalso;apply hk;unfold knownD;split
    ·decide
    ·rw [if_pos (by omega)];decide
   ·show getF (f d.fs (idxD d.fs t).toNat) s=_
    rw [h1,Int.toNat_natCast];exact hf j hj h2
  ·rw [powD_fs]
theorem sync_other {s t:ByteArray} (d:Dk) (h:t≠s):getF (syncD d t).2.fs s=getF d.fs s:=onD_other d fun _ hj hn=>get_upd hj hn h fun _=>rfl
theorem remove_other {s t:ByteArray} (d:Dk) (h:t≠s):getF (removeD d t).2.fs s=getF d.fs s:=onD_other d fun _ hj hn=>get_del hj (by rw [hn];exact h)
theorem rename_other {s t u:ByteArray} (d:Dk) (h:t≠s) (h2:u≠s):getF (renameD d t u).2.fs s=getF d.fs s:=by
 unfold renameD
 split
 ·rfl
 ·refine onD_other d fun j hj hn=>?_
  split
  ·rfl
  ·rw [moveD_at0 hj,get_put _ h2]
   split
   ·rcases find_idx (delD d.fs j) u with ⟨h3,_⟩ | ⟨i,hi,h3,_,h4⟩
    ·omega
    ·rw [h3,Int.toNat_natCast,get_del hi (by rw [h4];exact h2),get_del hj (by rw [hn];exact h)]
   ·exact get_del hj (by rw [hn];exact h)
theorem posD_spec (l:List Fil) (s:ByteArray):(∀ i (h:i<l.length),i<posD l s→ltS l[i].name s=true)∧(∀ h:posD l s<l.length,ltS l[posD l s].name s=false)∧posD l s≤l.length:=by
 unfold posD
 induction l with
 | nil=>exact ⟨fun i h=>by simp at h,fun h=>by simp at h,by simp⟩
 | cons x r ih =>
  obtain ⟨i1,i2,i3⟩:=ih
  cases hx:ltS x.name s with
  | false =>
   have e:(List.takeWhile (fun f=>ltS f.name s) (x::r)).length=0:=by rw [List.takeWhile_cons,hx];rfl
   refine ⟨fun i h hi=>by omega,fun h=>?_,by omega⟩;simp only [e,List.getElem_cons_zero];exact hx
  | true =>
   have e:(List.takeWhile (fun f=>ltS f.name s) (x::r)).length=(List.takeWhile (fun f=>ltS f.name s) r).length+1:=by rw [List.takeWhile_cons,hx];rfl
   refine ⟨fun i h hi=>?_,fun h=>?_,by rw [e];simp;exact i3⟩
   ·cases i with
    | zero=>exact hx
    | succ i=>simp only [List.getElem_cons_succ];exact i1 i (by simpa using h) (by omega)
   ·simp only [e,List.getElem_cons_succ]
    exact i2 (by rw [e] at h;simpa using h)
theorem SortD.del {l:List Fil} (h:SortD l) (k:Nat):SortD (delD l k):=List.Pairwise.sublist (del_sub l k) h
theorem SortD.set {l:List Fil} (h:SortD l) {k:Nat} (hk:k<l.length) {y:Fil} (hy:y.name=l[k].name):SortD (l.set k y):=by
 unfold SortD at *;rw [List.pairwise_iff_getElem] at *;intro i j hi hj hij;rw [List.length_set] at hi hj;have g:∀ m (hm:m<l.length),((l.set k y)[m]'(by rw [List.length_set];exact hm)).name=l[m].name:=fun m hm=>by
  rw [List.getElem_set];split
  ·rename_i e;subst e;exact hy
  ·rfl
 rw [g i hi,g j hj];exact h i j hi hj hij
theorem get_none {l:List Fil} {s:ByteArray} (h:getF l s=none):∀ x ∈ l,x.name≠s:=fun x hx e=>by
 have:=List.find?_eq_none.1 h x hx;rw [hasN_iff.2 e] at this;simp at this
theorem SortD.put {l:List Fil} (h:SortD l) {x:Fil} (hn:getF l x.name=none):SortD (putD l x):=by
 obtain ⟨p1,p2,p3⟩:=posD_spec l x.name;have hne:=get_none hn;have hs:=h;unfold SortD at h hs ⊢;unfold putD;rw [←List.take_append_drop (posD l x.name) l,List.pairwise_append] at h;rw [List.pairwise_iff_getElem] at hs;have hgt:∀ a ∈ l.drop (posD l x.name),ltS x.name a.name=true:=fun a ha=>by
  obtain ⟨i,hi,rfl⟩:=List.getElem_of_mem ha;rw [List.length_drop] at hi;rw [List.getElem_drop];have hp:posD l x.name<l.length:=by omega
  have h0:ltS x.name l[posD l x.name].name=true:=by
   cases hq:ltS x.name l[posD l x.name].name with
   | true=>rfl
   | false=>exact absurd (ltS_total (p2 hp) hq) (hne _ (List.getElem_mem hp))
  rcases Nat.eq_zero_or_pos i with hi0 | hi0
  ·subst hi0;exact h0
  ·exact ltS_trans h0 (hs _ _ hp (by omega) (by omega))
 rw [List.pairwise_append];refine ⟨h.1,?_,fun a ha b hb=>?_⟩
 ·rw [List.pairwise_cons];exact ⟨hgt,h.2.1⟩
 ·have hax:ltS a.name x.name=true:=by
   obtain ⟨i,hi,rfl⟩:=List.getElem_of_mem ha;rw [List.length_take] at hi;rw [List.getElem_take];exact p1 i (by omega) (by omega)
  rcases List.mem_cons.1 hb with rfl | hb
  ·exact hax
  ·exact h.2.2 a ha b hb
theorem SortD.mD {l:List Fil} (h:SortD l) (s:ByteArray):SortD (mD l s):=by
 unfold Go.Proofs.YtgpgcnmnfnnkjaaGreatDoor.mD;split
 ·rename_i hx;exact h.put ((idx_neg_iff _ _).1 hx)
 ·exact h
theorem SortD.addD {l:List Fil} (h:SortD l) (s:ByteArray) (p:List UInt8):SortD (addD s p l):=by
 rw [addD_eq];obtain ⟨j,hj,h1,_⟩:=mD_at l s;rw [h1,Int.toNat_natCast,updD_at hj];exact (h.mD s).set hj rfl
theorem SortD.idx {l:List Fil} (h:SortD l) {k:Nat} (hk:k<l.length):idxD l l[k].name=(k:Int):=by
 rcases find_idx l l[k].name with ⟨_,h2⟩ | ⟨j,hj,h1,_,h2⟩
 ·exact absurd rfl (get_none h2 _ (List.getElem_mem hk))
 ·have e:j=k:=by
   unfold SortD at h;rw [List.pairwise_iff_getElem] at h
   rcases Nat.lt_trichotomy j k with hl | hl | hl
   ·exact absurd h2 (ltS_ne (h j k hj hk hl))
   ·exact hl
   ·exact absurd h2.symm (ltS_ne (h k j hk hj hl))
  rw [h1,e]
theorem SortD.get {l:List Fil} (h:SortD l) {k:Nat} (hk:k<l.length):getF l l[k].name=some l[k]:=by
 rcases find_idx l l[k].name with ⟨_,h2⟩ | ⟨j,hj,h1,h3,_⟩
 ·exact absurd rfl (get_none h2 _ (List.getElem_mem hk))
 ·have e:=h.idx hk;rw [h1] at e;have:j=k:=by omega
  subst this;exact h3
theorem get_at {l:List Fil} {s:ByteArray} {f:Fil} (h:getF l s=some f):∃ j,∃ hj:j<l.length,idxD l s=(j:Int)∧l[j]=f∧f.name=s:=by
 rcases find_idx l s with ⟨_,h2⟩ | ⟨j,hj,h1,h2,h3⟩
 ·rw [h2] at h;cases h
 ·rw [h2] at h;cases h;exact ⟨j,hj,h1,rfl,h3⟩
theorem get_upd_self {l:List Fil} {s:ByteArray} {f:Fil} (h:getF l s=some f) {g:Fil→Fil} (hg:∀ x,(g x).name=x.name):getF (updD l (idxD l s).toNat g) s=some (g f):=by
 obtain ⟨j,hj,h1,h2,h3⟩:=get_at h;rw [h1,Int.toNat_natCast,updD_at hj,h2]
 rcases idxD_spec l s with ⟨h4,_⟩ | ⟨i,hi,h4,_,h5⟩
 ·omega
 ·have:i=j:=by omega
  subst this;unfold getF;rw [List.set_eq_take_append_cons_drop,if_pos hj,List.find?_append,List.find?_cons,hasN_iff.2 (by rw [hg,h3])];have hn:(l.take i).find? (hasN s)=none:=List.find?_eq_none.2 fun x hx=>by
   obtain ⟨m,hm,rfl⟩:=List.getElem_of_mem hx;rw [List.length_take] at hm;rw [List.getElem_take,h5 m (by omega) (by omega)];simp
  rw [hn];rfl
structure OnD (d:Dk):Prop where
 off:d.off=false
 left:d.left = -1
theorem OnD.pow {d:Dk} (h:OnD d):powD d=(true,d):=by
 rw [powD_eq,h.left];have e:(⟨d.fs,powO d.off (-1),powL (-1)⟩:Dk)=d:=by
  obtain ⟨fs,off,left⟩:=d;have h1:off=false:=h.off;have h2:left = -1:=h.left;subst h1;subst h2;rfl
 rw [e];rfl
theorem OnD.step {d:Dk} (h:OnD d) (f:List Fil→List Fil):stepD d f=(0,{ d with fs:=f d.fs }):=by unfold stepD;rw [h.pow];rfl
theorem OnD.fs {d:Dk} (h:OnD d) (l:List Fil):OnD { d with fs:=l }:=⟨h.off,h.left⟩
theorem OnD.on {d:Dk} (h:OnD d) (s:ByteArray) (f:List Fil→Nat→List Fil):onD d s f=if idxD d.fs s<0 then (11,d) else (0,{ d with fs:=f d.fs (idxD d.fs s).toNat }):=by
 unfold onD knownD;rw [if_neg (show ¬ d.off=true by rw [h.off];decide)]
 split
 ·rename_i h1;rw [if_pos (show (11:Int)≠0 by decide)]
 ·rw [if_neg (fun h=>h rfl),h.step]
theorem totD_addD (s:ByteArray) (p:List UInt8) (l:List Fil):totD (addD s p l)=totD l+p.length:=by
 rw [addD_eq];obtain ⟨j,hj,h1,_⟩:=mD_at l s;rw [h1,Int.toNat_natCast,updD_at hj];have h2:=totD_set hj (⟨(mD l s)[j].name,(mD l s)[j].data++p,(mD l s)[j].kept⟩:Fil);rw [totD_mD] at h2;have h3:(⟨(mD l s)[j].name,(mD l s)[j].data++p,(mD l s)[j].kept⟩:Fil).data.length=(mD l s)[j].data.length+p.length:=List.length_append;omega
theorem addD_length (s:ByteArray) (p:List UInt8) (l:List Fil):(addD s p l).length≤l.length+1:=by
 rw [addD_eq];obtain ⟨j,hj,h1,_⟩:=mD_at l s;rw [h1,Int.toNat_natCast,updD_at hj,List.length_set];exact mD_length l s
theorem putD_sub {l:List Fil} {x y:Fil} (h:y ∈ putD l x):y=x∨y ∈ l:=by
 unfold putD at h
 rcases List.mem_append.1 h with h | h
 ·exact .inr (List.mem_of_mem_take h)
 ·rcases List.mem_cons.1 h with h | h
  ·exact .inl h
  ·exact .inr (List.mem_of_mem_drop h)
theorem kept_mD {l:List Fil} (h:∀ f ∈ l,f.kept≤f.data.length) (s:ByteArray):∀ f ∈ mD l s,f.kept≤f.data.length:=fun f hf=>by
 unfold mD at hf
 split at hf
 ·rcases putD_sub hf with rfl | hf
  ·exact Nat.zero_le _
  ·exact h f hf
 ·exact h f hf
theorem kept_set {l:List Fil} (h:∀ f ∈ l,f.kept≤f.data.length) {k:Nat} {y:Fil} (hy:y.kept≤y.data.length):∀ f ∈ l.set k y,f.kept≤f.data.length:=fun f hf=>by
 rcases List.mem_or_eq_of_mem_set hf with hf | rfl
 ·exact h f hf
 ·exact hy
theorem kept_addD {l:List Fil} (h:∀ f ∈ l,f.kept≤f.data.length) (s:ByteArray) (p:List UInt8):∀ f ∈ addD s p l,f.kept≤f.data.length:=by
 rw [addD_eq];obtain ⟨j,hj,h1,_⟩:=mD_at l s;rw [h1,Int.toNat_natCast,updD_at hj];refine kept_set (kept_mD h s) ?_;have h2:=kept_mD h s _ (List.getElem_mem hj)
 show (mD l s)[j].kept≤((mD l s)[j].data++p).length
 rw [List.length_append];omega
theorem delD_sub {l:List Fil} {k:Nat} {y:Fil} (h:y ∈ delD l k):y ∈ l:=(del_sub l k).subset h
theorem totD_del (l:List Fil) (k:Nat):totD (delD l k)≤totD l:=by
 rcases Nat.lt_or_ge k l.length with h | h
 ·have e:l=l.take k++l[k]::l.drop (k+1):=by rw [←List.drop_eq_getElem_cons h,List.take_append_drop]
  have h3:totD l=totD (l.take k)+(l[k].data.length+totD (l.drop (k+1))):=by
   conv=>lhs;rw [e]
   rw [totD_append,totD_cons]
  unfold delD;rw [totD_append];omega
 ·unfold delD;rw [List.take_of_length_le h,List.drop_of_length_le (by omega),List.append_nil];exact Nat.le_refl _
theorem delD_length (l:List Fil) (k:Nat):(delD l k).length≤l.length:=by unfold delD;rw [List.length_append,List.length_take,List.length_drop];omega
end
end Go.Proofs.YtgpgcnmnfnnkjaaGreatDoor
