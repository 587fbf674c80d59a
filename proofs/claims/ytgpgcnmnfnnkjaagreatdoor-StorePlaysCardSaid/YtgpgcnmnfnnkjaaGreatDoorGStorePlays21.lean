import Derived.Test.YtgpgcnmnfnnkjaaGreatDoorGStorePlays18
import Derived.Test.YtgpgcnmnfnnkjaaGreatDoorGStorePlays20
set_option linter.unusedVariables false
set_option linter.unusedSimpArgs false
set_option maxRecDepth 100000
set_option maxHeartbeats 16000000
namespace Go.Proofs.YtgpgcnmnfnnkjaaGreatDoor
section
open Go Go.RowKit BigFrame Go.PlainAid
attribute [local go_sem] After.same
attribute [local go_sem] xor255_u8
theorem refCrash {F:Nat→Prop} {g:Nat} {d:Dk} {w:World} (hd:RefAt w F g d) (ok:OkD d) (hfs:d.fs.length≤1000000) (vp:Value) (picks:List Int) (hp:Rd intsE w vp picks) (hpF:picks≠[]→∀ k,vp.ownBlock=some k→¬ F k) (hpm:∀ x ∈ picks,x≤9223372036854775807) :
 Calls Tryz.prog 29 #[.pointer (some ⟨g,0,none⟩),vp] w fun e w'=>e=.returned (.tuple #[])∧UndR w F g (crashD d picks) w':=by
 have hlt:=hd.lt;obtain ⟨pp,cp,rfl,hp1,hp2,_,_⟩:=hp.form;unfold maxLen at hp2;obtain ⟨v,ys,hv,hy⟩:=hd;have hyl:ys.length=d.fs.length:=by rw [←hy,List.length_map]
 have hys:ys.length≤1000000:=by rw [hyl];exact hfs
 have s1:=hv.setCell 2 (.bool false) rfl;have s2:=s1.1.setCell 1 (.int .i64 (-1)) rfl;have c1:=hv.blk.cell 1 _ rfl;have c2:=hv.blk.cell 2 _ rfl;have f1:=hv.blk.frozen 1;have f2:=hv.blk.frozen 2;have chA:Chg F w ((w.setCell ⟨g,2,none⟩ (.bool false)).setCell ⟨g,1,none⟩ (.int .i64 (-1))):=(s1.2.step s2.2).mono fun k _ hk=>by rw [hk];exact hv.inG
 have hvA:RefV _ (FF F w ((w.setCell ⟨g,2,none⟩ (.bool false)).setCell ⟨g,1,none⟩ (.int .i64 (-1)))) g v (.int .i64 (-1)) (.bool false) ys:=s2.1.ff chA.size;have HvA:=Lib.hid hvA;have ChA:=Lib.hid chA;have Hp:=Lib.hid hp;have HpF:=Lib.hid hpF;have Hpm:=Lib.hid hpm;have Hy:=Lib.hid hy;have Hyl:=Lib.hid hyl;have hok1:=ok.tot;have Hok2:=Lib.hid ok.kept;obtain ⟨pv,cap,rfl,hq1,hq2,_,_⟩:=hv.fil.row.rd.form;unfold maxLen at hq2;clear s1 s2 hvA chA hv hy hp hpF hpm ok hyl;go_enter Tryz.func29,Tryz.ntmps29
 go_upto_block 0 with (fail)
 clear c1 c2 f1 f2;generalize hwA:(w.setCell ⟨g,2,none⟩ (.bool false)).setCell ⟨g,1,none⟩ (.int .i64 (-1))=wA at *;clear hwA;go_wp2_with fail
 go_loopw [4] (fun i wr=>∃ (k:Nat) (zs:List Ent),k≤ys.length∧i=.int .i64 k∧RefV wr (FF F w wr) g (.slice pv ys.length cap) (.int .i64 (-1)) (.bool false) zs∧Hid (zs.map Ent.fil=crS picks d.fs k)∧Hid (zs.length=ys.length)∧Chg F w wr) (fun i _=>ys.length - (intOf i).toNat)
 case atStart=>exact ⟨0,ys,by omega,rfl,HvA.out,by show _=_;rw [crS_zero];exact Hy.out,rfl,ChA.out⟩
 case round =>
  clear HvA ChA;obtain ⟨k,zs,hk,rfl,hv,hzf,hzl,ch⟩:=hrel;have hk0:(0:Int)≤(k:Int):=by omega
  have k0:=hv.blk.cell 0 _ rfl
  by_cases hlt2:k<ys.length
  ·have hi:(k:Int)<(ys.length:Int):=by omega
   have hkz:k<zs.length:=by have:=hzl.out;omega
   have hkd:k<d.fs.length:=by rw [←Hyl.out];exact hlt2
   obtain ⟨gv,cap',hsh,_,hgv,hq3,hq4⟩:=hv.fil.row.head (by omega);rw [hzl.out] at hsh;simp only [Value.slice.injEq,true_and] at hsh
   obtain ⟨rfl,rfl⟩:=hsh;clear hq3 hq4;have hmem:zs[k] ∈ zs:=List.getElem_mem hkz;have hdat:=hv.fil.data _ hmem;have row0:=hv.fil.row;have c1:wr.cell? ⟨gv,k * 3+1,none⟩=some (.slice zs[k].p zs[k].data.length zs[k].c):=row0.cellAt hzl.out.symm k hkz 1 (by decide);have c2:wr.cell? ⟨gv,k * 3+2,none⟩=some (.int .i64 ((zs[k]).kept:Int)):=row0.cellAt hzl.out.symm k hkz 2 (by decide);have hfz:(zs[k]).fil=d.fs[k]:=by
    have h1:k<(crS picks d.fs k).length:=by rw [crS_length _ _ (Nat.le_of_lt hkd)];exact hkd
    have h2:=crS_at picks d.fs hkd h1;rw [←h2];simp only [←hzf.out,List.getElem_map]
   have hkl:(zs[k]).kept≤(zs[k]).data.length:=by
    have h1:=Hok2.out (zs[k]).fil (by rw [hfz];exact List.getElem_mem hkd);exact h1
   have hdl:(zs[k]).data.length≤4194304:=by
    have h1:=totD_mem (l:=d.fs) (f:=(zs[k]).fil) (by rw [hfz];exact List.getElem_mem hkd);have h2:(zs[k]).fil.data.length=(zs[k]).data.length:=rfl;omega
   have hstp:=Lib.hid (crS_step picks d.fs hkd);have Hv:=Lib.hid hv;obtain ⟨y,hy⟩:∃ y,zs[k]=y:=⟨_,rfl⟩;have HY:=Lib.hid hy;rw [hy] at hdat c1 c2 hfz hkl hdl;have Hfz:=Lib.hid hfz;have hgl:=hv.lt g hv.inG;have Hdat:=Lib.hid hdat;obtain ⟨u,hu⟩:∃ u,y.data.length=y.kept+u:=⟨y.data.length - y.kept,by omega⟩;have HT:=Lib.hid (tornD_eq (pick:=pk picks k) (f:=y.fil) hu);obtain ⟨P,hP⟩:∃ P,(pk picks k).toNat=P:=⟨_,rfl⟩;rw [hP] at HT;have hPk:pk picks k≤9223372036854775807:=by
    unfold pk
    by_cases hpk:k<picks.length
    ·rw [List.getElem?_eq_getElem hpk];exact Hpm.out _ (List.getElem_mem hpk)
    ·rw [List.getElem?_eq_none (by omega)];decide
   have hPm:(P:Int)≤9223372036854775807:=by omega
   have he5:(y.data.length:Int) - (y.kept:Int)=(u:Int):=by omega
   have hul:(u:Int)≤4194304:=by omega
   have hu0:(0:Int)≤(u:Int):=by omega
   have Hu:=Lib.hid hu;have HP:=Lib.hid hP;have E5:=Lib.hid he5;have hcpk:Hid (∀ hpk:k<picks.length,∃ pb po,pp=some ⟨pb,po,none⟩∧wr.cell? ⟨pb,po+k,none⟩=some (.int .i64 picks[k])):=fun hpk=>by
    obtain ⟨pb,po,rfl⟩:=Rd.blk Hp.out (by omega);refine ⟨pb,po,rfl,?_⟩;have h1:Rd intsE wr (.slice (some ⟨pb,po,none⟩) picks.length cp) picks:=ch.cells Hp.out (HpF.out (fun e=>by rw [e] at hpk;simp at hpk));have h2:=h1.at_ hpk 0 (by decide);have h3:po+(k * intsE.sz+0)=po+k:=by show po+(k * 1+0)=_;omega
    rw [h3] at h2;exact h2
   clear hy hmem hfz hv row0 hu hP he5 hPk hdat;go_upto_region 5 with (fail)
   go_cut [35] from 25 (fun q wi=>q=.bool (decide (0<P))∧wi=wr)
   case first =>
    by_cases hpk:k<picks.length
    ·have hpi:(k:Int)<(picks.length:Int):=by omega
     obtain ⟨pb,po,rfl,hcp⟩:=hcpk.out hpk;have hpe:pk picks k=picks[k]:=by unfold pk;rw [List.getElem?_eq_getElem hpk];rfl
     have hPe:P=(picks[k]).toNat:=by rw [←hpe,HP.out]
     have HPe:=Lib.hid hPe;clear hpe hPe;generalize picks[k]=pick at *
     by_cases hpos:0<pick
     ·have Hq:Hid (0<P):=by show _<_;rw [HPe.out];omega
      go_wp2_with fail
      go_meet
      exact ⟨by rw [decide_eq_true Hq.out],rfl⟩
     ·have Hq:Hid (¬ 0<P):=by show ¬ _<_;rw [HPe.out];omega
      go_wp2_with fail
      go_meet
      exact ⟨by rw [decide_eq_false Hq.out],rfl⟩
    ·have hpi:¬ (k:Int)<(picks.length:Int):=by omega
     have Hq:Hid (¬ 0<P):=by show ¬ _<_;rw [←HP.out];unfold pk;rw [List.getElem?_eq_none (by omega)];decide
     go_wp2_with fail
     go_meet
     exact ⟨by rw [decide_eq_false Hq.out],rfl⟩
   case rest =>
   obtain ⟨rfl,rfl⟩:=hcut;obtain ⟨wr,hwr⟩:∃ z,z=wc:=⟨_,rfl⟩;subst hwr;go_upto_if 35 with (fail)
   go_cut [5] from 35 (fun q wi=>q=.int .i64 (P:Int)∧wi=wr)
   case first =>
    by_cases hpos:0<P
    ·rw [decide_eq_true hpos];have hpk:k<picks.length:=by
      rcases Nat.lt_or_ge k picks.length with h | h
      ·exact h
      ·exfalso
       have h2:=HP.out;unfold pk at h2;rw [List.getElem?_eq_none (by omega)] at h2;have h3:P=0:=by rw [←h2];rfl
       omega
     have hpi:(k:Int)<(picks.length:Int):=by omega
     obtain ⟨pb,po,rfl,hcp⟩:=hcpk.out hpk;have hpe:pk picks k=picks[k]:=by unfold pk;rw [List.getElem?_eq_getElem hpk];rfl
     have hPe:picks[k]=(P:Int):=by rw [←hpe];have:=HP.out;omega
     rw [hPe] at hcp;clear hpe hPe;go_wp2_with fail
     go_meet
     exact ⟨rfl,rfl⟩
    ·rw [decide_eq_false hpos];have Hq:Hid (P=0):=by show _=_;omega
     clear hpos;go_wp2_with fail
     go_meet
     exact ⟨by rw [Hq.out];rfl,rfl⟩
   case rest =>
   obtain ⟨rfl,rfl⟩:=hcut;obtain ⟨wr,hwr⟩:∃ z,z=wc:=⟨_,rfl⟩;subst hwr;have e5:=E5.out;go_wp2_with fail
   go_quiet (fail)
   go_upto_region 9 with (fail)
   generalize hwq:World.drewN wr _=wq at *;have bq:Below wr.heap.size wr wq:=by rw [←hwq];exact below_drawn _ _ _
   have hvq:=Hv.out.ext bq;have hdq:=Hdat.out.ext bq;have c1q:wq.cell? ⟨gv,k * 3+1,none⟩=some (.slice y.p y.data.length y.c):=(bq.cell (p:=⟨gv,k * 3+1,none⟩) hgv).trans c1;have c2q:wq.cell? ⟨gv,k * 3+2,none⟩=some (.int .i64 (y.kept:Int)):=(bq.cell (p:=⟨gv,k * 3+2,none⟩) hgv).trans c2;clear hwq c1 c2 e5 k0
   go_cut [8] from 56 (fun q wi=>q=.int .i64 ((P % (u+1):Nat):Int)∧wi=wq)
   case first =>
    have e6:(P:Int) % ((u:Int)+1)=((P % (u+1):Nat):Int):=by rw [Int.natCast_emod];rfl
    have E6:=Lib.hid e6;clear e6;go_wp2_with fail
    go_meet
    refine ⟨?_,rfl⟩;rw [←E6.out]
   case rest =>
   obtain ⟨rfl,rfl⟩:=hcut;obtain ⟨wq,hwq⟩:∃ z,z=wc:=⟨_,rfl⟩;subst hwq;obtain ⟨st,hst⟩:∃ st,P % (u+1)=st:=⟨_,rfl⟩;obtain ⟨Q,hQ⟩:∃ Q,P / (u+1)=Q:=⟨_,rfl⟩;have hstu:st≤u:=by have h:P % (u+1)<u+1:=Nat.mod_lt _ (Nat.succ_pos _);rw [hst] at h;omega
   have hle:y.kept+st≤y.data.length:=by have:=Hu.out;omega
   obtain ⟨L,hL⟩:∃ L,y.data.take (y.kept+st)=L:=⟨_,rfl⟩;obtain ⟨N,hN⟩:∃ N,L.length=N:=⟨_,rfl⟩;have hLl:N=y.kept+st:=by rw [←hN, ←hL,List.length_take];omega
   have hB:tornB P u y.kept y.data=if 0<st∧Q % 2=1 then flipLast L else L:=by unfold tornB;rw [hst,hQ,hL]
   have HB:=Lib.hid hB;have hQP:(Q:Int)≤(P:Int):=by rw [←hQ];exact Int.ofNat_le.2 (Nat.div_le_self _ _)
   have hQ0:(0:Int)≤(Q:Int):=by omega
   have hQm:(Q:Int)≤9223372036854775807:=by omega
   have hqe:(P:Int) / ((u:Int)+1)=(Q:Int):=by rw [←hQ,Int.natCast_ediv];rfl
   have Hqe:=Lib.hid hqe;rw [hst];have hbv:Bytes wq (.slice y.p y.data.length y.c) y.data:=hdq.bytes;have hA:=run_sub_to tU8 (P:=Tryz.prog) hbv .i64 ((y.kept:Int)+(st:Int)) (y.kept+st) (by omega) hle;have rA:=hbv.sub 0 (y.kept+st) (by omega) hle;rw [show (y.data.drop 0).take (y.kept+st - 0)=L from by rw [←hL];simp] at rA;generalize subV (.slice y.p y.data.length y.c) 0 (y.kept+st) 1=vA at *;have hkst:(y.kept:Int)+(st:Int)≤4194304:=by omega
   have hst0:(0:Int)≤(st:Int):=by omega
   have hky0:(0:Int)≤(y.kept:Int):=by omega
   have hwr2:IntKind.wrap .i64 ((y.kept:Int)+(st:Int))=(y.kept:Int)+(st:Int):=by rw [IntKind.wrap_i64];omega
   have hc1:Hid ((([]:List UInt8).length+L.length) * 1≤140737488355328):=by show _≤_;simp only [List.length_nil];omega
   have bD:=below_drew wq.heap.size wq;have HLl:=Lib.hid hLl;have HN:=Lib.hid hN;clear hst hQ hL hB hqe hLl hbv hN;go_wp2_with fail
   refine wp_region_F (n:=13) (S:=fun w'=>w'.cell? ⟨gv,k * 3+1,none⟩=some (.slice y.p y.data.length y.c)∧w'.cell? ⟨gv,k * 3+2,none⟩=some (.int .i64 (y.kept:Int))) (by kernel_rfl) ?_;have hHeld:(fun w':World=>w'.cell? ⟨gv,k * 3+1,none⟩=some (.slice y.p y.data.length y.c)∧w'.cell? ⟨gv,k * 3+2,none⟩=some (.int .i64 (y.kept:Int))) wq.drew:=⟨c1q,c2q⟩;have hgq:gv<wq.heap.size:=Nat.lt_of_lt_of_le hgv bq.size;refine tk ?_ 1 ?_ hHeld ?_;rotate_left
   ·rintro w ⟨_,_⟩;dsimp only [bare];go_simp<;>with_reducible rfl
   try simp only [lyB,lyP,lyA,lyZ,lyS]
   refine tk ?_ 2 ?_ hHeld ?_;rotate_left
   ·rintro w ⟨_,_⟩;dsimp only [bare];go_simp<;>with_reducible rfl
   try simp only [lyB,lyP,lyA,lyZ,lyS]
   refine tk ?_ 3 ?_ hHeld ?_;rotate_left
   ·rintro w ⟨_,_⟩;dsimp only [bare];go_simp<;>with_reducible rfl
   try simp only [lyB,lyP,lyA,lyZ,lyS]
   refine tk ?_ 4 ?_ hHeld ?_;rotate_left
   ·rintro w ⟨_,_⟩;dsimp only [bare];go_simp<;>with_reducible rfl
   try simp only [lyB,lyP,lyA,lyZ,lyS]
   refine tk ?_ 5 ?_ hHeld ?_;rotate_left
   ·rintro w ⟨_,_⟩;dsimp only [bare];go_simp<;>with_reducible rfl
   try simp only [lyB,lyP,lyA,lyZ,lyS]
   refine tk ?_ 6 ?_ hHeld ?_;rotate_left
   ·rintro w ⟨_,_⟩;dsimp only [bare];go_simp<;>with_reducible rfl
   try simp only [lyB,lyP,lyA,lyZ,lyS]
   refine tk ?_ 7 ?_ hHeld ?_;rotate_left
   ·rintro w ⟨_,_⟩;dsimp only [bare];go_simp<;>with_reducible rfl
   try simp only [lyB,lyP,lyA,lyZ,lyS]
   refine tk ?_ 8 ?_ hHeld ?_;rotate_left
   ·rintro w ⟨_,_⟩;dsimp only [bare];go_simp<;>with_reducible rfl
   try simp only [lyB,lyP,lyA,lyZ,lyS]
   refine tk ?_ 9 ?_ hHeld ?_;rotate_left
   ·rintro w ⟨_,_⟩;dsimp only [bare];go_simp<;>with_reducible rfl
   try simp only [lyB,lyP,lyA,lyZ,lyS]
   refine tk ?_ 10 ?_ hHeld ?_;rotate_left
   ·rintro w ⟨_,_⟩;dsimp only [bare];go_simp<;>with_reducible rfl
   try simp only [lyB,lyP,lyA,lyZ,lyS]
   refine tk ?_ 11 ?_ hHeld ?_;rotate_left
   ·rintro w ⟨_,_⟩;dsimp only [bare];go_simp<;>with_reducible rfl
   try simp only [lyB,lyP,lyA,lyZ,lyS]
   refine wpAnyF_one 0 _ _ _ rfl (by kernel_rfl) (fun K hK=>?_);have ownE:=emptyB wq.drew 5 wq.heap.size wq.drew.heap.size rfl bD.size;have bE:=bD.trans ((below_alloc wq.drew (.cells #[] 5)).mono bD.size);dsimp only [bare];go_simp;refine hK _ _ ⟨((bE).cell (p:=⟨gv,k * 3+1,none⟩) hgq).trans c1q,((bE).cell (p:=⟨gv,k * 3+2,none⟩) hgq).trans c2q⟩ (fun hHeld=>?_);clear hK K
   try simp only [lyB,lyP,lyA,lyZ,lyS]
   refine wpAnyF_one 12 _ _ _ rfl (by kernel_rfl) (fun K hK=>?_);refine step_appB (s:=.tmp 60) (y:=.tmp 71) (B:=wq.heap.size) (l:=[]) (m:=L) tU8 rfl rfl ownE (by simp [Act.eval,Act.put]) (rA.ext bE) (by simp [Act.eval,Act.put]) hc1.out bE.size ?_;intro v8 w8 own8 g8 b8;have bF:=bE.trans b8;refine hK _ _ ⟨((bF).cell (p:=⟨gv,k * 3+1,none⟩) hgq).trans c1q,((bF).cell (p:=⟨gv,k * 3+2,none⟩) hgq).trans c2q⟩ (fun hHeld=>?_);clear hK K
   try simp only [lyB,lyP,lyA,lyZ,lyS]
   have own9:OwnB w8 wq.heap.size 5 v8 L:=by have h:=own8;rw [List.nil_append] at h;exact h
   obtain ⟨p6,c6,rfl⟩:=own9.bytes.shapeN HN.out;have bZ:Below wr.heap.size wr w8:=bq.trans (bF.mono bq.size);have own9:=Own.base own9 bq.size;have hNm:N≤4194304:=by have:=HLl.out;omega
   refine wpAnyF_end (some 9) (Op.assign (Operand.tmp 72)) 26 rfl (by kernel_rfl) (by kernel_rfl) (fun K hK=>?_);dsimp only [bare];go_simp;refine hK _ _ ?_;clear hK K
   try simp only [lyB,lyP,lyA,lyZ,lyS]
   clear ownE own8 g8 b8 bE bF bD rA hA hvq hdq c1q c2q hHeld hwr2 hc1 bq hgq;go_upto_region 11 with (fail)
   go_cut [82] from 73 (fun q wi=>q=.bool (decide (0<st∧Q % 2=1))∧wi=w8)
   case first =>
    by_cases h0:0<st
    ·have hi3:(0:Int)<(st:Int):=by omega
     have e8:=Hqe.out
     by_cases hq:Q % 2=1
     ·have hq2:(((Q:Int) % 2) == 1)=true:=by simp;omega
      have hd:=Lib.hid (decide_eq_true (And.intro h0 hq));clear hq h0;go_wp2_with fail
      go_meet
      exact ⟨by rw [hd.out],rfl⟩
     ·have hq2:(((Q:Int) % 2) == 1)=false:=by simp;omega
      have hd:=Lib.hid (decide_eq_false (fun h:0<st∧Q % 2=1=>hq h.2));clear hq h0;go_wp2_with fail
      go_meet
      exact ⟨by rw [hd.out],rfl⟩
    ·have hi3:¬ (0:Int)<(st:Int):=by omega
     have hd:=Lib.hid (decide_eq_false (fun h:0<st∧Q % 2=1=>h0 h.1));clear h0;go_wp2_with fail
     go_meet
     exact ⟨by rw [hd.out],rfl⟩
   case rest =>
   obtain ⟨rfl,rfl⟩:=hcut;obtain ⟨w8,hw8⟩:∃ z,z=wc:=⟨_,rfl⟩;subst hw8;go_upto_if 82 with (fail)
   go_cut [] from 82 (fun wi=>∃ L',L'.length=N∧tornB P u y.kept y.data=L'∧OwnB wi wr.heap.size 5 (.slice p6 N c6) L'∧Below wr.heap.size wr wi)
   case first =>
    by_cases hc:0<st∧Q % 2=1
    ·have hB:=HB.out;rw [if_pos hc] at hB;rw [decide_eq_true hc];obtain ⟨m,hm⟩:∃ m,N=m+1:=⟨N - 1,by have:=HLl.out;omega⟩;have hmL:L.length=m+1:=by rw [HN.out,hm]
     rw [flipLast_at hmL] at hB;have HB2:=Lib.hid hB;have hm2:m<L.length:=by omega
     obtain ⟨g6,cc,hsh,hg1,hg2,hg3,hg4⟩:=OwnB.head own9 (by omega);rw [HN.out] at hsh;simp only [Value.slice.injEq,true_and] at hsh
     obtain ⟨rfl,rfl⟩:=hsh;have hst8:=OwnB.stored own9 HN.out.symm m (L[m] ^^^ 255);have cm:=OwnB.cellAt own9 HN.out.symm m hm2;have fm:=OwnB.frozenAt own9 HN.out.symm m;have hb8:=bZ.trans (below_grown hst8.2 bZ.size (fun k h=>by cases h;omega));have Hall:=Lib.hid (And.intro hst8.1 hb8);have hm0:(0:Int)≤(m:Int):=by omega
     have hmb:(m:Int)≤4194304:=by omega
     generalize L[m]=x at *;clear hst8 hb8 own9 hB hg3 hc hm2 hg4 hmL;subst hm;go_wp2_with fail
     go_meet
     exact ⟨_,by rw [List.length_set];exact HN.out,HB2.out,Hall.out.1,Hall.out.2⟩
    ·have hB:=HB.out;rw [if_neg hc] at hB;rw [decide_eq_false hc];have HB2:=Lib.hid hB;have Own9:=Lib.hid own9;clear hB hc own9;go_wp2_with fail
     go_meet
     exact ⟨L,HN.out,HB2.out,Own9.out,bZ⟩
   case rest =>
   obtain ⟨L',hL',hBt,own,bi⟩:=hcut;clear own9 bZ;obtain ⟨wi,hwi⟩:∃ z,z=wc:=⟨_,rfl⟩;subst hwi;have hvi:=Hv.out.ext bi;have rowi:=hvi.fil.row;have hzk:zs[k]=y:=HY.out;have hst1:=rowi.stored hzl.out.symm k hkz 1 (by decide) (.slice p6 N c6) rfl ⟨y.name,p6,c6,L',y.kept⟩ (by rw [hzk];show [_,_,_]=_;rw [show (⟨y.name,p6,c6,L',y.kept⟩:Ent).data.length=N from hL'];rfl)
   have hst2:=hst1.1.stored (by rw [List.length_set];exact hzl.out.symm) k (by simpa using hkz) 2 (by decide) (.int .i64 (N:Int)) rfl ⟨y.name,p6,c6,L',L'.length⟩ (by rw [List.getElem_set_self];show [_,_,_]=_;rw [show (⟨y.name,p6,c6,L',L'.length⟩:Ent).kept=N from hL'];rfl);rw [List.set_set] at hst2;have ow:OwnB wi wr.heap.size 5 (⟨y.name,p6,c6,L',L'.length⟩:Ent).v L':=by unfold Ent.v;rw [hL'];exact own
   have hset:=Hv.out.setEnt (n:=ys.length) (w1:=wi) hkz (y:=⟨y.name,p6,c6,L',L'.length⟩) (Chg.of_below bi) (Own.base ow (Nat.zero_le _)) (.inr fun n hn=>(OwnB.lt ow n hn).1) hst2.1 (grown_tr hst1.2 hst2.2);have hfin:=RefV.seqU hset hlt ch;have hzt:(⟨y.name,p6,c6,L',L'.length⟩:Ent).fil=tornD (pk picks k) y.fil:=by
    rw [HT.out]
    show (⟨y.name,L',L'.length⟩:Fil)=⟨y.name,tornB P u y.kept y.data,(tornB P u y.kept y.data).length⟩
    rw [hBt]
   have hmap:(zs.set k ⟨y.name,p6,c6,L',L'.length⟩).map Ent.fil=crS picks d.fs (k+1):=by rw [map_set_fil,hzf.out,hzt,Hfz.out];exact hstp.out
   have Hfin:=Lib.hid hfin;have Hmap:=Lib.hid hmap;have Hlen:Hid ((zs.set k ⟨y.name,p6,c6,L',L'.length⟩).length=ys.length):=by show _=_;rw [List.length_set];exact hzl.out
   have i1:wi.cell? ⟨gv,k * 3+1,none⟩=some (.slice y.p y.data.length y.c):=by have h:=rowi.cellAt hzl.out.symm k hkz 1 (by decide);rw [hzk] at h;exact h
   have i2:wi.cell? ⟨gv,k * 3+2,none⟩=some (.int .i64 (y.kept:Int)):=by have h:=rowi.cellAt hzl.out.symm k hkz 2 (by decide);rw [hzk] at h;exact h
   have q1:=rowi.frozenAt hzl.out.symm (k * 3+1);have q2:=rowi.frozenAt hzl.out.symm (k * 3+2);clear hst1 hst2 hset hfin hzt hmap hvi rowi ow own hBt hL' hzk Hv;go_wp2_with fail
   go_roundw
   case rel=>first | exact ⟨k+1,_,by omega,by go_num,Hfin.out.1,Hmap.out,Hlen.out,Hfin.out.2⟩ | ((repeat apply Exists.intro);exact ⟨⟨k+1,_,by omega,by go_num,Hfin.out.1,Hmap.out,Hlen.out,Hfin.out.2⟩,rfl⟩)
   case measure=>simp [intOf];omega
  ·have hi:¬ (k:Int)<(ys.length:Int):=by omega
   have hend:=crS_end picks d.fs (k:=k) (by rw [←Hyl.out];omega);have hz:zs.map Ent.fil=(crashD d picks).fs:=by rw [hzf.out,hend];rfl
   have Hz:=Lib.hid hz;clear hend hz;go_wp2_with fail
   go_end0
   exact ⟨rfl,⟨_,zs,hv,Hz.out⟩,ch⟩
end
section
open Go Go.RowKit BigFrame Go.PlainAid
def RfS (w0:World) (X:Nat→Prop) (g:Nat) (d:Dk) (w:World):Prop:=(∃ F,RefAt w F g d∧∀ k,F k→Gx w0 X k)∧(∀ k,X k→k<w.heap.size)
section
variable {w0 w w':World} {X Y:Nat→Prop} {g:Nat} {d d':Dk}
theorem RfS.size (h:RfS w0 X g d w):w0.heap.size≤w.heap.size:=by
 obtain ⟨⟨F,h1,h2⟩,_⟩:=h;have:=(h2 g h1.inG).1;have:=h1.lt g h1.inG;omega
theorem RfS.und {F:Nat→Prop} (h1:RefAt w F g d) (h2:∀ k,F k→Gx w0 X k) (hx:∀ k,X k→k<w.heap.size) (h:UndR w F g d' w'):RfS w0 X g d' w'∧Chg (Gx w0 X) w w':=by
 have hs:w0.heap.size≤w.heap.size:=RfS.size ⟨⟨F,h1,h2⟩,hx⟩;refine ⟨⟨⟨_,h.1,fun k hk=>?_⟩,fun k hk=>Nat.lt_of_lt_of_le (hx k hk) h.2.size⟩,h.2.mono fun k _ hk=>h2 k hk⟩
 rcases hk with hk | hk
 ·exact h2 k hk
 ·exact ⟨by omega,fun hX=>by have:=hx k hX;omega⟩
theorem RfS.ext (h:RfS w0 X g d w) (hb:Below w.heap.size w w'):RfS w0 X g d w':=by
 obtain ⟨⟨F,h1,h2⟩,h3⟩:=h;exact ⟨⟨F,h1.ext hb,h2⟩,fun k hk=>Nat.lt_of_lt_of_le (h3 k hk) hb.size⟩
theorem RfS.drewN (h:RfS w0 X g d w) (n:Nat):RfS w0 X g d (w.drewN n):=h.ext (below_drawn _ _ _)
theorem RfS.mono (h:RfS w0 X g d w) (hy:∀ k,Y k→X k):RfS w0 Y g d w:=by
 obtain ⟨⟨F,h1,h2⟩,h3⟩:=h;exact ⟨⟨F,h1,fun k hk=>⟨(h2 k hk).1,fun hY=>(h2 k hk).2 (hy k hY)⟩⟩,fun k hk=>h3 k (hy k hk)⟩
theorem RfS.more (h:RfS w0 X g d w) (hb:Below w.heap.size w w') (hy:∀ k,Y k→X k∨(w.heap.size≤k∧k<w'.heap.size)):RfS w0 Y g d w':=by
 obtain ⟨⟨F,h1,h2⟩,h3⟩:=h;refine ⟨⟨F,h1.ext hb,fun k hk=>⟨(h2 k hk).1,fun hY=>?_⟩⟩,fun k hk=>?_⟩
 ·rcases hy k hY with h | h
  ·exact (h2 k hk).2 h
  ·have:=h1.lt k hk;omega
 ·rcases hy k hk with h | h
  ·exact Nat.lt_of_lt_of_le (h3 k h) hb.size
  ·exact h.2
theorem RfS.alloc (h:RfS w0 X g d w) (o:Obj):RfS w0 (fun k=>X k∨k=w.heap.size) g d (w.alloc o) :=
 h.more (below_alloc _ _) fun k hk=>hk.imp id fun e=>by subst e;exact ⟨Nat.le_refl _,by simp⟩
theorem RfS.chgX {G:Nat→Prop} (h:RfS w0 X g d w) (hc:Chg G w w') (hG:∀ k,G k→X k∨k<w0.heap.size):RfS w0 X g d w':=by
 obtain ⟨⟨F,h1,h2⟩,h3⟩:=h;refine ⟨⟨F,h1.chg hc fun k hk hg=>?_,h2⟩,fun k hk=>Nat.lt_of_lt_of_le (h3 k hk) hc.size⟩;obtain ⟨a,b⟩:=h2 k hk
 rcases hG k hg with h | h
 ·exact b h
 ·omega
theorem rNew (w0 w:World) (hs:w0.heap.size≤w.heap.size) (X:Nat→Prop) (hx:∀ k,X k→k<w.heap.size):Calls Tryz.prog 10 #[] w fun e w'=>e=.returned (.pointer (some ⟨w.heap.size,0,none⟩))∧RfS w0 X w.heap.size dk0 w'∧Below w.heap.size w w' :=
 (refNew w).mono fun _ w' ⟨h1,h2,h3⟩=>⟨h1,⟨⟨_,h2,fun k hk=>⟨by have:=hk.1;omega,fun hX=>by have:=hk.1;have:=hx k hX;omega⟩⟩,fun k hk=>Nat.lt_of_lt_of_le (hx k hk) h3.size⟩,h3⟩
theorem rAppend (h:RfS w0 X g d w) (ok:okD d=true) {s:ByteArray} {p:List UInt8} {E:Int} (he:appendD d s p=(E,d')) (hs:s.size≤4611686018427387904) (hpb:p.length≤4611686018427387904) {vp:Value} (hp:Bytes w vp p) (hv:p≠[]→∀ k,vp.ownBlock=some k→k<w0.heap.size∨X k) :
 Calls Tryz.prog 18 #[.pointer (some ⟨g,0,none⟩),.string s,vp] w fun e w'=>e=.returned (.int .i64 E)∧RfS w0 X g d' w'∧Chg (Gx w0 X) w w':=by
 obtain ⟨⟨F,h1,h2⟩,h3⟩:=h;obtain ⟨o1,o2⟩:=okD_spec ok;refine (refAppend h1 o1 o2 s hs vp p hpb hp (fun he k hk hF=>Chg.gxO (hv he) k hk (h2 k hF))).mono ?_;rintro e w' ⟨rfl,hu⟩;rw [he] at hu ⊢;exact ⟨rfl,RfS.und h1 h2 h3 hu⟩
theorem rSync (h:RfS w0 X g d w) (ok:okD d=true) {s:ByteArray} {E:Int} (he:syncD d s=(E,d')) :
 Calls Tryz.prog 47 #[.pointer (some ⟨g,0,none⟩),.string s] w fun e w'=>e=.returned (.int .i64 E)∧RfS w0 X g d' w'∧Chg (Gx w0 X) w w':=by
 obtain ⟨⟨F,h1,h2⟩,h3⟩:=h;obtain ⟨o1,o2⟩:=okD_spec ok;refine (refSync h1 o1 (by omega) s).mono ?_;rintro e w' ⟨rfl,hu⟩;rw [he] at hu ⊢;exact ⟨rfl,RfS.und h1 h2 h3 hu⟩
theorem rCut (h:RfS w0 X g d w) (ok:okD d=true) {s:ByteArray} {n E:Int} (he:cutD d s n=(E,d')) :
 Calls Tryz.prog 45 #[.pointer (some ⟨g,0,none⟩),.string s,.int .i64 n] w fun e w'=>e=.returned (.int .i64 E)∧RfS w0 X g d' w'∧Chg (Gx w0 X) w w':=by
 obtain ⟨⟨F,h1,h2⟩,h3⟩:=h;obtain ⟨o1,o2⟩:=okD_spec ok;refine (refCut h1 o1 (by omega) s n).mono ?_;rintro e w' ⟨rfl,hu⟩;rw [he] at hu ⊢;exact ⟨rfl,RfS.und h1 h2 h3 hu⟩
theorem rRename (h:RfS w0 X g d w) (ok:okD d=true) {s sn:ByteArray} {E:Int} (he:renameR d s sn=(E,d')) (hs:sn.size≤4611686018427387904) :
 Calls Tryz.prog 119 #[.pointer (some ⟨g,0,none⟩),.string s,.string sn] w fun e w'=>e=.returned (.int .i64 E)∧RfS w0 X g d' w'∧Chg (Gx w0 X) w w':=by
 obtain ⟨⟨F,h1,h2⟩,h3⟩:=h;obtain ⟨o1,o2⟩:=okD_spec ok;refine (refRename h1 o1 (by omega) s sn hs).mono ?_;rintro e w' ⟨rfl,hu⟩;rw [he] at hu ⊢;exact ⟨rfl,RfS.und h1 h2 h3 hu⟩
theorem rRemove (h:RfS w0 X g d w) (ok:okD d=true) {s:ByteArray} {E:Int} (he:removeD d s=(E,d')) :
 Calls Tryz.prog 46 #[.pointer (some ⟨g,0,none⟩),.string s] w fun e w'=>e=.returned (.int .i64 E)∧RfS w0 X g d' w'∧Chg (Gx w0 X) w w':=by
 obtain ⟨⟨F,h1,h2⟩,h3⟩:=h;obtain ⟨o1,o2⟩:=okD_spec ok;refine (refRemove h1 o1 (by omega) s).mono ?_;rintro e w' ⟨rfl,hu⟩;rw [he] at hu ⊢;exact ⟨rfl,RfS.und h1 h2 h3 hu⟩
theorem rArm (h:RfS w0 X g d w) (n:Int):Calls Tryz.prog 27 #[.pointer (some ⟨g,0,none⟩),.int .i64 n] w fun e w'=>e=.returned (.tuple #[])∧RfS w0 X g (armD d n) w'∧Chg (Gx w0 X) w w':=by
 obtain ⟨⟨F,h1,h2⟩,h3⟩:=h;refine (refArm h1 n).mono ?_;rintro e w' ⟨rfl,hu,hc⟩;exact ⟨rfl,RfS.und h1 h2 h3 ⟨hu.ff hc.size,hc⟩⟩
theorem rCrash (h:RfS w0 X g d w) (ok:okD d=true) {picks:List Int} (he:crashD d picks=d') {vp:Value} (hp:Rd intsE w vp picks) (hv:picks≠[]→∀ k,vp.ownBlock=some k→k<w0.heap.size∨X k) (hm:∀ x ∈ picks,x≤9223372036854775807) :
 Calls Tryz.prog 29 #[.pointer (some ⟨g,0,none⟩),vp] w fun e w'=>e=.returned (.tuple #[])∧RfS w0 X g d' w'∧Chg (Gx w0 X) w w':=by
 obtain ⟨⟨F,h1,h2⟩,h3⟩:=h;obtain ⟨o1,o2⟩:=okD_spec ok;refine (refCrash h1 o1 (by omega) vp picks hp (fun he k hk hF=>Chg.gxO (hv he) k hk (h2 k hF)) hm).mono ?_;rintro e w' ⟨rfl,hu⟩;rw [he] at hu;exact ⟨rfl,RfS.und h1 h2 h3 hu⟩
theorem rRead (h:RfS w0 X g d w) (s:ByteArray) {o:Option (List UInt8)} (he:readD d s=o):Calls Tryz.prog 14 #[.pointer (some ⟨g,0,none⟩),.string s] w fun e w'=>(∃ r,e=.returned (.tuple #[r,.bool o.isSome])∧Bytes w' r (o.getD []))∧w=w':=by
 obtain ⟨⟨F,h1,h2⟩,h3⟩:=h;subst he;exact refRead h1 s
theorem rNames (h:RfS w0 X g d w) (ok:okD d=true):Calls Tryz.prog 13 #[.pointer (some ⟨g,0,none⟩)] w fun e w'=>(∃ r,e=.returned r∧OwnR strE w' w.heap.size 9 r (d.fs.map (·.name)))∧Below w.heap.size w w':=by
 obtain ⟨⟨F,h1,h2⟩,h3⟩:=h;refine (refNames h1 (okD_spec ok).1.len).mono ?_;rintro e w' ⟨r,rfl,h5,h6⟩;exact ⟨⟨r,rfl,h5⟩,h6⟩
end
end
section
open Go Go.RowKit Go.PlainAid
theorem flipLast_length (l:List UInt8):(flipLast l).length=l.length:=by unfold flipLast;split<;>simp
theorem tornB_le (P u k:Nat) (l:List UInt8):(tornB P u k l).length≤l.length:=by
 unfold tornB;split
 ·rw [flipLast_length,List.length_take];omega
 ·rw [List.length_take];omega
theorem tornD_le {pick:Int} {f:Fil} (h:f.kept≤f.data.length):(tornD pick f).data.length≤f.data.length:=by
 rw [tornD_eq (u:=f.data.length - f.kept) (by omega)];exact tornB_le _ _ _ _
theorem crash_tot (picks:List Int):∀ (l:List Fil) (i:Nat),(∀ f ∈ l,f.kept≤f.data.length)→totD (crashTo picks l i)≤totD l∧∀ f ∈ crashTo picks l i,f.kept≤f.data.length
 | [],_,_=>⟨Nat.le_refl _,fun f hf=>by cases hf⟩
 | x::r,i,h=>by
  obtain ⟨h1,h2⟩:=crash_tot picks r (i+1) fun f hf=>h f (by simp [hf]);have h3:=tornD_le (pick:=(picks[i]?).getD 0) (h x (by simp));rw [crashTo];refine ⟨by rw [totD_cons,totD_cons];omega,fun f hf=>?_⟩
  rcases List.mem_cons.1 hf with rfl | hf
  ·exact Nat.le_refl _
  ·exact h2 f hf
structure LInv (k:Nat) (l:List Fil):Prop where
 sort:SortD l
 nam:∀ f ∈ l,namedD f.name=true
 kept:∀ f ∈ l,f.kept≤f.data.length
 tot:totD l≤4194304
 len:l.length≤k
structure PInv (k:Nat) (d:Dk):Prop where
 l:LInv k d.fs
 lo : -1≤d.left
 hi:d.left≤9223372036854775807
theorem PInv.ok {k:Nat} {d:Dk} (h:PInv k d) (hk:k≤1000):okD d=true :=
 okD_of ⟨by have:=h.l.len;omega,h.l.tot,h.l.kept,h.lo,h.hi⟩ (by have:=h.l.len;omega)
theorem PInv.zero:PInv 0 dk0:=⟨⟨List.Pairwise.nil,by simp [dk0],by simp [dk0],by simp [dk0,totD],by simp [dk0]⟩,by decide,by decide⟩
theorem LInv.up {k:Nat} {l:List Fil} (h:LInv k l):LInv (k+1) l:=⟨h.sort,h.nam,h.kept,h.tot,by have:=h.len;omega⟩
theorem PInv.up {k:Nat} {d:Dk} (h:PInv k d):PInv (k+1) d:=⟨h.l.up,h.lo,h.hi⟩
theorem PInv.pow {k:Nat} {d:Dk} (h:PInv k d):PInv k (powD d).2:=by
 have ok:=(OkD.pow (d:=⟨[],d.off,d.left⟩) ⟨by simp,by simp [totD],by simp,h.lo,h.hi⟩);have e:(powD d).2.left=(powD ⟨[],d.off,d.left⟩).2.left:=by unfold powD;dsimp only;split<;>rfl
 exact ⟨by rw [powD_fs];exact h.l,by rw [e];exact ok.lo,by rw [e];exact ok.hi⟩
theorem PInv.step {k:Nat} {d:Dk} (h:PInv k d) {f:List Fil→List Fil} (hf:LInv (k+1) (f d.fs)):PInv (k+1) (stepD d f).2:=by
 have hp:=h.pow;unfold stepD
 split
 ·exact ⟨hf,hp.lo,hp.hi⟩
 ·exact hp.up
theorem PInv.on {k:Nat} {d:Dk} (h:PInv k d) {s:ByteArray} {f:List Fil→Nat→List Fil} (hf:∀ j,j<d.fs.length→LInv (k+1) (f d.fs j)):PInv (k+1) (onD d s f).2:=by
 rcases knownD_spec d s with ⟨h1,_⟩ | ⟨j,hj,h1,h2⟩
 ·rw [onD_no h1];exact h.up
 ·rw [onD_yes h1 h2];exact h.step (f:=fun l=>f l j) (hf j hj)
theorem LInv.set {k:Nat} {l:List Fil} (h:LInv k l) {j:Nat} (hj:j<l.length) {y:Fil} (hn:y.name=l[j].name) (hk:y.kept≤y.data.length) (ht:y.data.length≤l[j].data.length):LInv (k+1) (l.set j y):=by
 refine ⟨h.sort.set hj hn,fun f hf=>?_,fun f hf=>?_,?_,by rw [List.length_set];have:=h.len;omega⟩
 ·rcases List.mem_or_eq_of_mem_set hf with hf | rfl
  ·exact h.nam f hf
  ·rw [hn];exact h.nam _ (List.getElem_mem hj)
 ·rcases List.mem_or_eq_of_mem_set hf with hf | rfl
  ·exact h.kept f hf
  ·exact hk
 ·have h1:=totD_set hj y;have:=h.tot;omega
theorem LInv.del {k:Nat} {l:List Fil} (h:LInv k l) (j:Nat):LInv k (delD l j) :=
 ⟨h.sort.del j,fun f hf=>h.nam f (delD_sub hf),fun f hf=>h.kept f (delD_sub hf),Nat.le_trans (totD_del _ _) h.tot,Nat.le_trans (delD_length _ _) h.len⟩
theorem LInv.mD {k:Nat} {l:List Fil} (h:LInv k l) {s:ByteArray} (hs:namedD s=true):LInv (k+1) (mD l s):=by
 refine ⟨h.sort.mD s,?_,?_,by rw [totD_mD];exact h.tot,by have h1:=mD_length l s;have h2:=h.len;omega⟩
 ·intro f hf;unfold Proofs.YtgpgcnmnfnnkjaaGreatDoor.mD at hf
  split at hf
  ·rcases putD_sub hf with rfl | hf
   ·exact hs
   ·exact h.nam f hf
  ·exact h.nam f hf
 ·intro f hf;unfold Proofs.YtgpgcnmnfnnkjaaGreatDoor.mD at hf
  split at hf
  ·rcases putD_sub hf with rfl | hf
   ·exact Nat.zero_le _
   ·exact h.kept f hf
  ·exact h.kept f hf
theorem LInv.add {k:Nat} {l:List Fil} (h:LInv k l) {s:ByteArray} {p:List UInt8} (hs:namedD s=true) (ht:totD l+p.length≤4194304):LInv (k+1) (addD s p l):=by
 have hm:=h.mD hs;obtain ⟨j,hj,hix⟩:=mD_has l s;refine ⟨h.sort.addD s p,?_,kept_addD h.kept s p,by rw [totD_addD];exact ht,by have h1:=addD_length s p l;have h2:=h.len;omega⟩;intro f hf;rw [addD_eq,hix,Int.toNat_natCast,updD_at hj] at hf
 rcases List.mem_or_eq_of_mem_set hf with hf | rfl
 ·exact hm.nam f hf
 ·exact hm.nam ((Proofs.YtgpgcnmnfnnkjaaGreatDoor.mD l s)[j]) (List.getElem_mem hj)
theorem crash_names (picks:List Int):∀ (l:List Fil) (i:Nat),(crashTo picks l i).map (·.name)=l.map (·.name)
 | [],_=>rfl
 | x::r,i=>by rw [crashTo,List.map_cons,List.map_cons,crash_names picks r (i+1)];rfl
theorem sort_names {l m:List Fil} (e:m.map (·.name)=l.map (·.name)) (h:SortD l):SortD m:=by
 unfold SortD at *;have h1:(l.map (·.name)).Pairwise fun a b=>ltS a b=true:=List.pairwise_map.2 h;rw [←e] at h1;exact List.pairwise_map.1 h1
theorem LInv.crash {k:Nat} {l:List Fil} (h:LInv k l) (picks:List Int):LInv k (crashTo picks l 0):=by
 obtain ⟨h1,h2⟩:=crash_tot picks l 0 h.kept;have e:=crash_names picks l 0;refine ⟨sort_names e h.sort,fun f hf=>?_,h2,Nat.le_trans h1 h.tot,by rw [crashTo_length];exact h.len⟩;have hm:f.name ∈ (crashTo picks l 0).map (·.name):=List.mem_map.2 ⟨f,hf,rfl⟩;rw [e] at hm;obtain ⟨f',hf',e'⟩:=List.mem_map.1 hm;rw [←e'];exact h.nam f' hf'
section
variable {k:Nat} {d:Dk}
theorem PInv.append (h:PInv k d) (s:ByteArray) (p:List UInt8):PInv (k+1) (appendD d s p).2:=by
 unfold appendD
 split
 ·exact h.up
 ·split
  ·exact h.up
  ·rename_i h1 h2
   split
   ·exact h.up
   ·exact h.step (f:=addD s p) (h.l.add (by cases hn:namedD s;exact absurd hn h2;rfl) (by omega))
theorem PInv.sync (h:PInv k d) (s:ByteArray):PInv (k+1) (syncD d s).2 :=
 h.on fun j hj=>by rw [updD_at hj];exact h.l.set hj rfl (Nat.le_refl _) (Nat.le_refl _)
theorem PInv.cut (h:PInv k d) (s:ByteArray) (n:Int):PInv (k+1) (cutD d s n).2:=by
 unfold cutD
 split
 ·exact h.up
 ·refine h.on fun j hj=>?_;rw [updD_at hj];have hk:=h.l.kept _ (List.getElem_mem hj);exact h.l.set hj rfl (by show min _ _≤(List.take _ _).length;rw [List.length_take];omega) (by show (List.take _ _).length≤_;rw [List.length_take];omega)
theorem PInv.remove (h:PInv k d) (s:ByteArray):PInv (k+1) (removeD d s).2:=h.on fun j _=>(h.l.del j).up
end
end
end Go.Proofs.YtgpgcnmnfnnkjaaGreatDoor
