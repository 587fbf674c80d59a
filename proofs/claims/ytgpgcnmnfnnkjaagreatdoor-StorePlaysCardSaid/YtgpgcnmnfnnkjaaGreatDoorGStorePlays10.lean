import Derived.Test.YtgpgcnmnfnnkjaaGreatDoorGStorePlays9
set_option linter.unusedVariables false
set_option linter.unusedSimpArgs false
set_option maxRecDepth 100000
set_option maxHeartbeats 16000000
namespace Go.Proofs.YtgpgcnmnfnnkjaaGreatDoor
section
open Go Go.RowKit

theorem insFil_end (B:Nat) (v:Value) (l:List Ent) (x:Ent) (w:World) (own:OwnR entE w B 96 v l) (vx:Value) (hx:Rd entE w vx [x])
 (hbytes:(l.length+1) * 48≤140737488355328) (hB:B≤w.heap.size) :
 Calls Tryz.prog 95 #[v,.int .i64 (l.length:Int),vx] w fun e w' =>
  ∃ v',e=.returned v'∧OwnR entE w' B 96 v' (l++[x])∧w.grownBy w' v.ownBlock∧Below B w w'∧(v'.ownBlock=v.ownBlock∨v'.ownBlock=some w.heap.size):=by
 have hs:=run_sub_from tFil (P:=Tryz.prog) own.rd .i64 (l.length:Int) l.length rfl (Nat.le_refl _);obtain ⟨px,cx,rfl⟩:=hx.shapeN (n:=1) rfl;obtain ⟨p,cap,rfl⟩:=own.rd.shape;go_enter Tryz.func95,Tryz.ntmps95
 go_wp2_with (first
  | (at_builtin;refine wpList_appW tFil rfl rfl own rfl hx rfl (by simpa using hbytes) hB ?_;intro v6 w6 own6 g6 b6 h6)
  | fail)
 go_ret
 exact ⟨v6,rfl,OwnR.of own6 (by simp) (by rw [entE.all_append]),g6,b6,h6⟩

theorem insFil_shift (B g cap vb k:Nat) (l:List Ent) (x:Ent) (w:World) (cur:Array Value) (hg:w.heap[g]?=some (.cells cur 96 (0,0))) (hcur:cur.size=cap * 3) (htake:cur.toList.take (l.length * 3)=entE.all l)
 (hvb:w.heap[vb]?=some (.cells (entE.enc x).toArray 96 (0,0))) (hne:vb≠g) (hk:k<l.length) (hroom:l.length+1≤cap) (hmax:cap≤maxLen) (hB:B≤g) :
 Calls Tryz.prog 95 #[.slice (some ⟨g,0,none⟩) l.length cap,.int .i64 (k:Int),.slice (some ⟨vb,0,none⟩) 1 1] w fun e w' =>
  ∃ v',e=.returned v'∧OwnR entE w' B 96 v' (l.take k++x::l.drop k)∧w.grownBy w' (some g)∧v'.ownBlock=some g:=by
 unfold maxLen at hmax;have hs1:=run_sl_from tFil (P:=Tryz.prog) g l.length cap .i64 (k:Int) k rfl (by omega) (by omega) (by omega);have hs2:=run_sl_to tFil (P:=Tryz.prog) g l.length cap .i64 ((l.length:Int)+1) (l.length+1) (by omega) hroom (by omega);have hs3:=run_sl_from tFil (P:=Tryz.prog) g (l.length+1) cap .i64 ((k:Int)+1) (k+1) (by omega) (by omega) hroom (by omega);rw [show l.length+1 - (k+1)=l.length - k from by omega] at hs3;have hov:∀ lb cb,(callFunc 123 #[.slice (some ⟨vb,0,none⟩) 1 1,.slice (some ⟨g,(k+1) * 3,none⟩) lb cb]).run Tryz.prog w=.ok (.value (.bool false)) w:=fun lb cb=>by
  rw [run_callFunc_extern Tryz.func123 (by kernel_rfl) (by kernel_rfl) (by kernel_rfl) (e:=Extern.SlicesOverlaps.overlaps #[88,88] #[4]) (by kernel_rfl),
   Lib.run_overlaps_apart w 88 4 96 Tryz.underlying88 3 (run_size tFil) ⟨vb,0,none⟩ ⟨g,(k+1) * 3,none⟩ 1 1 lb cb hne _ _ _ _ (by simp [World.shape?,hvb];exact ⟨rfl,rfl⟩) (by simp [World.shape?,hg];exact ⟨rfl,rfl⟩) (by rw [hcur];omega) (by simp [World.frozen?,hvb]) (by simp [World.frozen?,hvb])]
  rfl
 have hs4:=run_sl_from tFil (P:=Tryz.prog) g (l.length+1) cap .i64 (k:Int) k rfl (by omega) hroom (by omega);have hz2:¬ ((k:Int)=(l.length:Int)):=by omega
 have hr:¬ ((cap:Int)<(l.length:Int)+1):=by omega
 go_enter Tryz.func95,Tryz.ntmps95
 have hall:∀ j u,(entE.all l)[j]?=some u→w.cell? ⟨g,j,none⟩=some u:=fun j u hu=>by
  rw [←htake,List.getElem?_take] at hu
  split at hu
  ·simp only [World.cell?,hg];simpa using hu
  ·cases hu
 have hl1:(entE.all (l.drop k)).length=(l.length - k) * 3:=by rw [entE.all_length,List.length_drop];rfl
 have c1:(entE.all (l.drop k)).length=Nat.min (l.length+1 - k) (l.length - k) * 3:=by rw [hl1];congr 1;exact (Nat.min_eq_right (by omega)).symm
 have c2:∀ j u,(entE.all (l.drop k))[j]?=some u→w.cell? ((⟨g,k * 3,none⟩:Addr).add j)=some u:=fun j u hu=>by
  rw [addr_add _ rfl];rw [←entE.all_drop,List.getElem?_drop] at hu;exact hall _ _ hu
 have c3:(k+1) * 3+(entE.all (l.drop k)).length≤cur.size:=by rw [hl1,hcur];omega
 go_wp2_with (simp only [hov])
 have hw1:IntKind.i64.wrap ((k:Int)+1)=(k:Int)+1:=by rw [IntKind.wrap_i64];omega
 have hb1:(0:Int)≤(k:Int)+1:=by omega
 have hb2:(k:Int)+1≤(l.length:Int)+1:=by omega
 have htn:((k:Int)+1).toNat=k+1:=by omega
 have hb3:¬ (cap=k+1):=by omega
 have hb4:(k:Int)≤(l.length:Int)+1:=by omega
 have hb5:¬ (cap=k):=by omega
 go_region_law (refine step_copyK tFil rfl rfl g ((k+1) * 3) (l.length - k) (cap - (k+1)) ⟨g,k * 3,none⟩ (l.length+1 - k) (cap - k) (by simp [Act.eval,Act.put]) (by simp [Act.eval,Act.put]) cur _ hg (entE.all (l.drop k)) c1 c2 c3 (entE.all_oneCell _) ?_)
 clear hov hs1 hs2 hs3 hs4 hw1 htn c1 c2 hb3 hb5;obtain ⟨w1,hw1⟩:∃ w1,w1=w.drew.setRow g (splice cur.toList ((k+1) * 3) (entE.all (l.drop k))).toArray:=⟨_,rfl⟩;have hgrow1:w.grownBy w1 (some g):=by rw [hw1];have h:=grown_setRow w.drew g (splice cur.toList ((k+1) * 3) (entE.all (l.drop k))).toArray;exact ⟨h.os,h.tape,h.output,h.size,h.block⟩
 have hg1:w1.heap[g]?=some (.cells (splice cur.toList ((k+1) * 3) (entE.all (l.drop k))).toArray 96 (0,0)):=by rw [hw1];exact setRow_heap w.drew g cur _ _ _ hg
 have hv1:∀ j u,(entE.enc x)[j]?=some u→w1.cell? ((⟨vb,0,none⟩:Addr).add j)=some u:=fun j u hu=>by
  rw [addr_add _ rfl,Nat.zero_add];refine hgrow1.cell (a:=⟨vb,j,none⟩) ?_ (by intro e;exact hne (Option.some.inj e));simp only [World.cell?,hvb];simpa using hu
 rw [←hw1];clear hw1;have hlen2:(splice cur.toList ((k+1) * 3) (entE.all (l.drop k))).length=cur.size:=by rw [length_splice _ _ _ (by simpa using c3)];simp
 have hfin:=splice_splice (L:=cur.toList) (cs:=entE.all (l.drop k)) (es:=entE.enc x) (a:=k * 3) (b:=(k+1) * 3) (by rw [entE.len];show k * 3+3=_;omega) (by simp;rw [hcur];omega);rw [show (k+1) * 3+(entE.all (l.drop k)).length=(l.length+1) * 3 from by rw [hl1];omega] at hfin;have hres:=ins_cells entE cur.toList l x k (by omega) (ins_take entE _ _ _ (by omega) htake);have Hfin:=Lib.hid hfin;have Hres:=Lib.hid hres;clear hfin hres htake;have hx1:Nat.min 1 (l.length+1 - k)=1:=Nat.min_eq_left (by omega);have c4:(entE.enc x).length=Nat.min 1 (l.length+1 - k) * 3:=by rw [hx1,entE.len];rfl
 have c5:k * 3+(entE.enc x).length≤(splice cur.toList ((k+1) * 3) (entE.all (l.drop k))).toArray.size:=by rw [List.size_toArray,hlen2,entE.len,hcur];show k * 3+3≤_;omega
 have hx0:entE.all [x]=entE.enc x:=entE.all_one x;generalize splice cur.toList ((k+1) * 3) (entE.all (l.drop k))=cur1 at *;generalize hex:entE.enc x=xs at *;clear hall hl1 hr;go_wp2_with (refine wpList_copyK tFil rfl rfl g (k * 3) (l.length+1 - k) (cap - k) ⟨vb,0,none⟩ 1 1 (by first | rfl | simp [Act.eval,Act.put]) (by first | rfl | simp [Act.eval,Act.put]) cur1.toArray _ hg1 xs c4 hv1 c5 (by rw [←hex];exact entE.one x) ?_)
 have hg2:=setRow_heap w1 g cur1.toArray (splice cur1 (k * 3) xs).toArray _ _ hg1;have hgrow2:=grown_setRow w1 g (splice cur1 (k * 3) xs).toArray;have hl2:(splice cur1 (k * 3) xs).length=cap * 3:=by rw [length_splice _ _ _ (by simpa using c5),hlen2,hcur]
 go_ret
 refine ⟨_,rfl,OwnR.of (n:=l.length+1) ⟨⟨?_,.inr ⟨g,cap,_,rfl,hB,hg2,hroom,by unfold maxLen;omega,by rw [List.size_toArray,hl2];rfl,?_⟩⟩,entE.all_oneCell _⟩ (by simp;omega) rfl,grown_tr hgrow1 hgrow2,rfl⟩
 ·rw [entE.all_length];congr 1;simp;omega
 ·rw [Hfin.out];exact Hres.out

theorem insFil_grow (B g vb k:Nat) (l:List Ent) (x:Ent) (w:World) (hl:∀ j u,(entE.all l)[j]?=some u→w.cell? ⟨g,j,none⟩=some u)
 (hvb:w.heap[vb]?=some (.cells (entE.enc x).toArray 96 (0,0))) (hk:k<l.length) (hbytes:(l.length+1) * 48≤140737488355328) (hB:B≤w.heap.size) :
 Calls Tryz.prog 95 #[.slice (some ⟨g,0,none⟩) l.length l.length,.int .i64 (k:Int),.slice (some ⟨vb,0,none⟩) 1 1] w fun e w' =>
  ∃ v',e=.returned v'∧OwnR entE w' B 96 v' (l.take k++x::l.drop k)∧Below w.heap.size w w':=by
 have hs1:=run_sl_from tFil (P:=Tryz.prog) g l.length l.length .i64 (k:Int) k rfl (by omega) (by omega) (by omega);have hs2:=run_sl_to tFil (P:=Tryz.prog) g l.length l.length .i64 (k:Int) k rfl (by omega) (by omega);have hz2:¬ ((k:Int)=(l.length:Int)):=by omega
 have hbl:vb<w.heap.size:=(Array.getElem?_eq_some_iff.1 hvb).1;have hgl:g<w.heap.size:=by
  have h0:0<(entE.all l).length:=by rw [entE.all_length];show 0<l.length * 3;omega
  exact World.block_lt_of_cell? w ⟨g,0,none⟩ (hl 0 _ (List.getElem?_eq_getElem h0))
 have hlk:(entE.all (l.take k)).length=k * 3:=by rw [entE.all_length,List.length_take,Nat.min_eq_left (by omega)];rfl
 have hlk2:(entE.all (l.drop k)).length=(l.length - k) * 3:=by rw [entE.all_length,List.length_drop];rfl
 obtain ⟨cap,zs,hrun,hcap,hmax,hzs⟩:=run_appMk tFil (P:=Tryz.prog) Tryz.underlying3 w 88 ⟨g,0,none⟩ k l.length (l.length+1 - k) .i64 (entE.all (l.take k)) hlk (fun j u hu=>by
  rw [addr_add _ rfl,Nat.zero_add];rw [←entE.all_take,List.getElem?_take] at hu
  split at hu
  ·exact hl j u hu
  ·cases hu) (by omega) (by omega) (by omega)
 rw [show k+(l.length+1 - k)=l.length+1 from by omega,show ((l.length+1 - k:Nat):Int)=(l.length:Int)+1 - (k:Int) from by omega] at hrun;rw [show k+(l.length+1 - k)=l.length+1 from by omega] at hcap;obtain ⟨N,hN⟩:∃ N,N=w.heap.size:=⟨_,rfl⟩;obtain ⟨L,hL⟩:∃ L,L=entE.all (l.take k)++zs:=⟨_,rfl⟩;obtain ⟨w1,hw1⟩:∃ w1,w1=w.drew.alloc (.cells (entE.all (l.take k)++zs).toArray 96):=⟨_,rfl⟩;have hb1:Below w.heap.size w w1:=by rw [hw1];exact (below_drew _ w).trans (below_alloc w.drew _)
 have hg1:w1.heap[N]?=some (.cells L.toArray 96 (0,0)):=by
  rw [hw1,hL,hN];show (w.heap.push _)[w.heap.size]?=_;simp
 have hLl:L.length=cap * 3:=by rw [hL,List.length_append,hlk,hzs];omega
 have hLk:L.take (k * 3)=entE.all (l.take k):=by rw [hL, ←hlk,List.take_left]
 rw [←hw1, ←hN] at hrun;have hv1:∀ j u,(entE.enc x)[j]?=some u→w1.cell? ((⟨vb,0,none⟩:Addr).add j)=some u:=fun j u hu=>by
  rw [addr_add _ rfl,Nat.zero_add,hb1.cell (p:=⟨vb,j,none⟩) hbl];simp only [World.cell?,hvb];simpa using hu
 have hl1:∀ j u,(entE.all l)[j]?=some u→w1.cell? ⟨g,j,none⟩=some u:=fun j u hu=>by
  rw [hb1.cell (p:=⟨g,j,none⟩) hgl];exact hl j u hu
 have hres:=ins_cells entE L l x k (by omega) hLk;have hfin:=splice_splice' (L:=L) (cs:=entE.all (l.drop k)) (es:=entE.enc x) (a:=k * 3) (b:=(k+1) * 3) (by rw [entE.len];show k * 3+3=_;omega) (by omega);rw [show (k+1) * 3+(entE.all (l.drop k)).length=(l.length+1) * 3 from by rw [hlk2];omega] at hfin;have Hfin:=Lib.hid hfin;have Hres:=Lib.hid hres;have hgN:g≠N:=by omega
 have hvN:vb≠N:=by omega
 have c4:(entE.enc x).length=Nat.min 1 (l.length+1 - k) * 3:=by rw [show Nat.min 1 (l.length+1 - k)=1 from Nat.min_eq_left (by omega),entE.len];rfl
 have c5:k * 3+(entE.enc x).length≤L.toArray.size:=by rw [List.size_toArray,entE.len,hLl];show k * 3+3≤_;omega
 have c1:(entE.all (l.drop k)).length=Nat.min (l.length - k) (l.length - k) * 3:=by rw [hlk2];congr 1;exact (Nat.min_self _).symm
 have c2:∀ W:World,w1.grownBy W (some N)→∀ j u,(entE.all (l.drop k))[j]?=some u→W.cell? ((⟨g,k * 3,none⟩:Addr).add j)=some u:=fun W hW j u hu=>by
  rw [addr_add _ rfl];rw [←entE.all_drop,List.getElem?_drop] at hu;exact hW.cell (a:=⟨g,k * 3+j,none⟩) (hl1 _ _ hu) (by intro e;exact hgN (Option.some.inj e))
 have C2:=Lib.hid c2;have hlen2:(splice L (k * 3) (entE.enc x)).length=L.length:=length_splice _ _ _ (by simpa using c5);have c3:(k+1) * 3+(entE.all (l.drop k)).length≤(splice L (k * 3) (entE.enc x)).toArray.size:=by rw [List.size_toArray,hlen2,hLl,hlk2];omega
 have hbx:=entE.one x;obtain ⟨L2,hL2⟩:∃ L2,L2=splice L (k * 3) (entE.enc x):=⟨_,rfl⟩;obtain ⟨w2,hw2⟩:∃ w2,w2=w1.setRow N (splice L (k * 3) (entE.enc x)).toArray:=⟨_,rfl⟩;have hg2:w2.heap[N]?=some (.cells L2.toArray 96 (0,0)):=by rw [hw2,hL2];exact setRow_heap w1 N L.toArray (splice L (k * 3) (entE.enc x)).toArray _ _ hg1
 have hgr2:w1.grownBy w2 (some N):=by rw [hw2];exact grown_setRow w1 N _
 rw [←hL2] at c3;have Hw2:=Lib.hid (hw2.symm);have HL2:=Lib.hid hL2;have HN:=Lib.hid hN;unfold maxLen at hmax;generalize entE.enc x=xs at *;clear hw1 hw2 hL2 hfin hres hLk hL hlk hlk2 hzs hl hvb c2 hlen2 hN hl1;go_enter Tryz.func95,Tryz.ntmps95
 go_wp2_with (first
  | (at_builtin;refine Lib.wpList_append_run _ rfl _ _ _ _ rfl _ _ rfl rfl _ _ hrun ?_)
  | (refine wpList_copyK tFil rfl rfl N (k * 3) (l.length+1 - k) (cap - k) ⟨vb,0,none⟩ 1 1 (by first | rfl | simp [Act.eval,Act.put]) (by first | rfl | simp [Act.eval,Act.put]) L.toArray _ hg1 xs c4 hv1 c5 hbx ?_;rw [show L.toArray.toList=L from rfl,Hw2.out]))
 have hw1:IntKind.i64.wrap ((k:Int)+1)=(k:Int)+1:=by rw [IntKind.wrap_i64];omega
 have hb1':(0:Int)≤(k:Int)+1:=by omega
 have hb2:(k:Int)+1≤(l.length:Int)+1:=by omega
 have htn:((k:Int)+1).toNat=k+1:=by omega
 have hb3:¬ (cap=k+1):=by omega
 have hb4:(k:Int)≤(l.length:Int):=by omega
 have hb5:¬ (l.length=k):=by omega
 have c2:=C2.out w2.drew (grown_drew hgr2)
 go_region_law (refine step_copyK tFil rfl rfl N ((k+1) * 3) (l.length - k) (cap - (k+1)) ⟨g,k * 3,none⟩ (l.length - k) (l.length - k) (by simp [Act.eval,Act.put]) (by simp [Act.eval,Act.put]) L2.toArray _ hg2 (entE.all (l.drop k)) c1 c2 c3 (entE.all_oneCell _) ?_)
 obtain ⟨L3,hL3⟩:∃ L3,L3=splice L2 ((k+1) * 3) (entE.all (l.drop k)):=⟨_,rfl⟩;obtain ⟨w3,hw3⟩:∃ w3,w3=w2.drew.setRow N (splice L2.toArray.toList ((k+1) * 3) (entE.all (l.drop k))).toArray:=⟨_,rfl⟩;have hg3:w3.heap[N]?=some (.cells L3.toArray 96 (0,0)):=by rw [hw3,hL3];exact setRow_heap w2.drew N L2.toArray _ _ _ hg2
 have hgr3:w2.grownBy w3 (some N):=by rw [hw3];have h:=grown_setRow w2.drew N (splice L2.toArray.toList ((k+1) * 3) (entE.all (l.drop k))).toArray;exact ⟨h.os,h.tape,h.output,h.size,h.block⟩
 have hL3l:L3.length=cap * 3:=by
  have e2:L2.length=L.length:=by rw [HL2.out];exact length_splice _ _ _ (by simpa using c5)
  rw [hL3,length_splice _ _ _ (by simpa using c3),e2,hLl]
 have hfin:L3.take ((l.length+1) * 3)=entE.all (l.take k++x::l.drop k):=by rw [hL3,HL2.out,Hfin.out];exact Hres.out
 have Hf:=Lib.hid hfin;rw [←hw3];clear hw3 hL3 hfin c1 c2 c3 hrun;go_wp2_with fail
 go_ret
 have hb3:Below w.heap.size w w3:=hb1.grown (grown_tr hgr2 hgr3) hb1.size (fun k hk=>by cases hk;have:=HN.out;omega);refine ⟨_,rfl,OwnR.of (n:=l.length+1) ⟨⟨?_,.inr ⟨N,cap,_,rfl,by have:=HN.out;omega,hg3,hcap,by unfold maxLen;omega,by rw [List.size_toArray,hL3l];rfl,?_⟩⟩,entE.all_oneCell _⟩ (by simp;omega) rfl,hb3⟩
 ·rw [entE.all_length];congr 1;simp;omega
 ·exact Hf.out

theorem insFil (B vb k:Nat) (v:Value) (l:List Ent) (x:Ent) (w:World) (own:OwnR entE w B 96 v l) (hvb:w.heap[vb]?=some (.cells (entE.enc x).toArray 96 (0,0))) (hne:v.ownBlock≠some vb)
 (hk:k≤l.length) (hbytes:(l.length+1) * 48≤140737488355328) (hB:B≤w.heap.size) :
 Calls Tryz.prog 95 #[v,.int .i64 (k:Int),.slice (some ⟨vb,0,none⟩) 1 1] w fun e w' =>
  ∃ v',e=.returned v'∧OwnR entE w' B 96 v' (l.take k++x::l.drop k)∧w.grownBy w' v.ownBlock∧Below B w w'∧(v'.ownBlock=v.ownBlock∨∀ n,v'.ownBlock=some n→w.heap.size≤n):=by
 rcases Nat.lt_or_ge k l.length with hlt | hge
 ·obtain ⟨⟨h1,h2⟩,h3⟩:=own
  rcases h2 with ⟨rfl,h⟩ | ⟨g,cap,cur,rfl,hb,hg,hn,hm,hs,ht⟩
  ·omega
  ·have hne':vb≠g:=fun e=>hne (by rw [e];rfl);have hgl:=(Array.getElem?_eq_some_iff.1 hg).1;have ht':cur.toList.take (l.length * 3)=entE.all l:=ht
   rcases Nat.lt_or_ge l.length cap with hroom | hfull
   ·refine (insFil_shift B g cap vb k l x w cur hg hs ht' hvb hne' hlt hroom hm hb).mono ?_;rintro e w' ⟨v',he,own',hgr,hwh⟩;exact ⟨v',he,own',hgr,below_grown hgr hB (fun k hk=>by cases hk;exact hb),.inl hwh⟩
   ·obtain rfl:cap=l.length:=by omega
    have hall:∀ j u,(entE.all l)[j]?=some u→w.cell? ⟨g,j,none⟩=some u:=fun j u hu=>by
     rw [←ht',List.getElem?_take] at hu
     split at hu
     ·simp only [World.cell?,hg];simpa using hu
     ·cases hu
    refine (insFil_grow w.heap.size g vb k l x w hall hvb hlt hbytes (Nat.le_refl _)).mono ?_;rintro e w' ⟨v',he,own',hbel⟩;exact ⟨v',he,own'.base hB,grown_below hbel,hbel.mono hB,.inr fun n hn=>(own'.lt n hn).1⟩
 ·obtain rfl:k=l.length:=by omega
  have hx:Rd entE w (.slice (some ⟨vb,0,none⟩) 1 1) [x]:=by
   refine ⟨by rw [entE.all_length],entE.all_oneCell _,_,1,rfl,Nat.le_refl _,by unfold maxLen;omega,fun h=>(by cases h),fun a ha _=>?_⟩
   cases ha
   refine ⟨rfl,fun i u hu=>?_⟩;rw [entE.all_one] at hu;simp only [World.cell?,hvb,Nat.zero_add];simpa using hu
  refine (insFil_end B v l x w own _ hx hbytes hB).mono ?_;rintro e w' ⟨v',he,own',hgr,hbel,hwh⟩;rw [List.take_of_length_le (Nat.le_refl _),List.drop_of_length_le (Nat.le_refl _)];exact ⟨v',he,own',hgr,hbel,hwh.imp id fun h n hn=>by rw [h] at hn;cases hn;exact Nat.le_refl _⟩

end
section
open Go Go.RowKit
theorem run_sl_btw {P:Program} {t e:TypeId} {sz bytes:Nat} (T:SlT P t e sz bytes) (g n cap:Nat) (k k':IntKind) (I J:Int) (i j:Nat) (hI:I=(i:Int)) (hJ:J=(j:Int)) (hij:i≤j) (hj:j≤cap) (hic:i<cap) (w:World) :
 (Instr.slice t (.slice (some ⟨g,0,none⟩) n cap) (some (.int k I)) (some (.int k' J)) none).run P w=.ok (.slice (some ⟨g,i * sz,none⟩) (j - i) (cap - i)) w:=by
 subst hI;subst hJ;obtain ⟨q,z,hq,hz,hs,hby,hzs⟩:=T.info;have hne:¬ cap=i:=by omega
 simp [Instr.slice,run_underlying T.under,Instr.sliceBounds,Instr.sliceBound,asIntOf,hij,hj,hne,sizeOf,typeInfo,hq,hs,Addr.add]
 exact fun h=>h.symm
section
variable {α:Type} {E:Enc α}
theorem zero_all (E:Enc α) (z0 : α) (z:Array Value) (hz:E.enc z0=z.toList) (n:Nat):(Builtin.zeroCells z n).toList=E.all (List.replicate n z0):=by
 have hl:z.size=E.sz:=by have:=E.len z0;rw [hz] at this;simpa using this
 rw [←made_all E z0 z hz n];unfold Builtin.zeroCells madeCells;rw [hl]
theorem run_clearR {P:Program} {t e:TypeId} {bytes:Nat} (T:SlT P t e E.sz bytes) (z0 : α) (z:Value) (hv:∀ w,(zeroValue e).run P w=.ok z w) (hz:E.enc z0=z.cells.toList) (ty:TypeId) (g o c:Nat) (w:World)
 (hc:∀ j,j<E.sz→(w.cell? ⟨g,o+j,none⟩).isSome=true) (hf:∀ j,j<E.sz→w.frozen? ⟨g,o+j,none⟩=false) :
 (Builtin.clear_ #[t] ty #[.slice (some ⟨g,o,none⟩) 1 c]).run P w=.ok (.tuple #[]) (w.setCells g o (E.enc z0)):=by
 have hzc:(Builtin.zeroCells z.cells 1).toList=E.enc z0:=by rw [zero_all E z0 z.cells hz 1];simp [Enc.all]
 have hst:=run_storeCells_cells (P:=P) g o (E.enc z0) 0 w (by rw [E.len];simpa using hc) (by rw [E.len];simpa using hf) (E.one z0);simp only [Nat.add_zero] at hst
 simp [Builtin.clear_,run_underlying T.under,hv,hzc,hst]
theorem Own.cut {w:World} {B:Nat} {e:TypeId} {sz g n cap:Nat} {xs:List Value} (h:Own w B e sz (.slice (some ⟨g,0,none⟩) n cap) n xs) (m:Nat) (hm:m≤n):Own w B e sz (.slice (some ⟨g,0,none⟩) m cap) m (xs.take (m * sz)):=by
 have hk:m * sz≤n * sz:=Nat.mul_le_mul_right _ hm;obtain ⟨⟨h1,h2⟩,h3⟩:=h;refine ⟨⟨by rw [List.length_take];omega,?_⟩,fun u hu=>h3 u (List.mem_of_mem_take hu)⟩
 rcases h2 with ⟨h',_⟩ | ⟨g',cap',cur,h',hb,hg,hn,hcm,hcs,ht⟩
 ·simp at h'
 ·simp only [Value.slice.injEq,Option.some.injEq,Addr.mk.injEq,and_true,true_and] at h'
  obtain ⟨rfl,rfl⟩:=h';exact .inr ⟨g,cap,cur,rfl,hb,hg,by omega,hcm,hcs,by rw [←ht,List.take_take,Nat.min_eq_left hk]⟩
theorem del_cells (E:Enc α) (l:List α) (k m:Nat) (hl:l.length=k+1+m) (zs:List Value) :
 (putAt (putAt (E.all l) (k * E.sz) (E.all (l.drop (k+1)))) ((k+m) * E.sz) zs).take ((k+m) * E.sz)=E.all (l.take k++l.drop (k+1)):=by
 have hk:(E.all (l.take k)).length=k * E.sz:=by rw [E.all_length,List.length_take,Nat.min_eq_left (by omega)]
 have hd:(E.all (l.drop (k+1))).length=m * E.sz:=by rw [E.all_length,List.length_drop,hl];congr 1;omega
 have hn:(E.all l).length=(k+1+m) * E.sz:=by rw [E.all_length,hl]
 have e1:(k+m) * E.sz=k * E.sz+m * E.sz:=Nat.add_mul _ _ _;have e2:(k+1+m) * E.sz=k * E.sz+E.sz+m * E.sz:=by rw [Nat.add_mul,Nat.add_mul,Nat.one_mul]
 apply List.ext_getElem?
 intro i;rw [List.getElem?_take,E.all_append]
 by_cases hi:i<(k+m) * E.sz
 ·rw [if_pos hi,putAt_get,if_neg (by omega),putAt_get,hd,hn]
  by_cases h2:i<k * E.sz
  ·rw [if_neg (by omega),List.getElem?_append_left (by omega), ←E.all_take,List.getElem?_take,if_pos h2]
  ·rw [if_pos (by omega),List.getElem?_append_right (by omega),hk]
 ·rw [if_neg hi,List.getElem?_eq_none];rw [List.length_append];omega
end
end
section
open Go Go.RowKit

def ent0:Ent:=⟨⟨#[]⟩,none,0,[],0⟩
theorem delFil_core (B g cap k m:Nat) (l:List Ent) (w:World) (hl:l.length=k+1+m) (own:OwnR entE w B 96 (.slice (some ⟨g,0,none⟩) (k+1+m) cap) l) (hcap:k+1+m≤cap) (hmax:cap≤maxLen) (hB:B≤g) :
 Calls Tryz.prog 115 #[.slice (some ⟨g,0,none⟩) (k+1+m) cap,.int .i64 (k:Int),.int .i64 ((k:Int)+1)] w fun e w' =>
  e=.returned (.slice (some ⟨g,0,none⟩) (k+m) cap)∧OwnR entE w' B 96 (.slice (some ⟨g,0,none⟩) (k+m) cap) (l.take k++l.drop (k+1))∧w.grownBy w' (some g):=by
 have own':Own w B 96 3 (.slice (some ⟨g,0,none⟩) (k+1+m) cap) (k+1+m) (entE.all l):=by
  have h:OwnR entE w B 96 (.slice (some ⟨g,0,none⟩) l.length cap) l:=by rw [hl];exact own
  have h2:Own w B 96 3 (.slice (some ⟨g,0,none⟩) l.length cap) l.length (entE.all l):=h;rw [hl] at h2;exact h2
 unfold maxLen at hmax;obtain ⟨i0,z0,hi0,hz0,hs0,hb0,hzs0⟩:=tFil.info;obtain ⟨news,hnews⟩:∃ news,news=entE.all (l.drop (k+1)):=⟨_,rfl⟩;have hlen:news.length=m * 3:=by rw [hnews,entE.all_length,List.length_drop,hl];congr 1;omega
 have hall:∀ j u,(entE.all l)[j]?=some u→w.cell? ⟨g,j,none⟩=some u:=fun j u hu=>by have h:=own'.1.cells (g:=g) rfl j u hu;rw [addr_add _ rfl,Nat.zero_add] at h;exact h
 have hlall:(entE.all l).length=(k+1+m) * 3:=by rw [entE.all_length,hl];rfl
 have hfz:∀ j,w.frozen? ⟨g,j,none⟩=false:=fun j=>own'.frozenAt j;obtain ⟨A,hA,hsrc⟩:∃ A:Addr,(∀ w',(Instr.slice 88 (.slice (some ⟨g,0,none⟩) (k+1+m) cap) (some (.int .i64 ((k:Int)+1))) none none).run Tryz.prog w'=.ok (.slice (some A) m (cap - (k+1))) w')∧Hid (∀ j u,news[j]?=some u→w.drew.cell? (A.add j)=some u):=by
  by_cases hc:cap=k+1
  ·have hm0:m=0:=by omega
   subst hm0;refine ⟨⟨g,0,none⟩,fun w'=>?_,fun j u hu=>?_⟩
   ·have h:=run_sub_from tFil own'.cells .i64 ((k:Int)+1) (k+1) (by omega) (by omega) w';rw [h];simp [subV,subP,hc]
   ·have:news=[]:=List.length_eq_zero_iff.1 (by omega);rw [this] at hu;simp at hu
  ·refine ⟨⟨g,(k+1) * 3,none⟩,fun w'=>?_,fun j u hu=>?_⟩
   ·have h:=run_sl_from tFil (P:=Tryz.prog) g (k+1+m) cap .i64 ((k:Int)+1) (k+1) (by omega) (by omega) (by omega) (by omega) w';rw [h];rw [show k+1+m - (k+1)=m from by omega]
   ·rw [hnews, ←entE.all_drop,List.getElem?_drop] at hu
    show w.cell? _=_
    rw [addr_add _ rfl];exact hall _ _ hu
 have hs2:=run_sl_to tFil (P:=Tryz.prog) g (k+1+m) cap .i64 (k:Int) k rfl (by omega) (by omega);have s2:Hid (∀ u ∈ news,u.oneCell'=true):=by show ∀ _,_;rw [hnews];exact entE.all_oneCell _
 have s3:Hid (∀ t,t<news.length→(w.drew.cell? ⟨g,0+k * 3+t,none⟩).isSome=true∧w.drew.frozen? ⟨g,0+k * 3+t,none⟩=false):=by
  intro t ht;rw [hlen] at ht;refine ⟨?_,hfz _⟩;have hlt:0+k * 3+t<(entE.all l).length:=by rw [hlall];omega
  show (w.cell? _).isSome=true
  rw [hall _ _ (List.getElem?_eq_getElem hlt)];rfl
 obtain ⟨W1,hW1⟩:∃ W1,W1=w.drew.setCells g (0+k * 3) news:=⟨_,rfl⟩;have hst:=Own.storedAll own'.drew (k * 3) news s2.out;rw [Nat.zero_add] at hW1;rw [←hW1] at hst;obtain ⟨own1,gr1⟩:=hst;have hs6:=run_sl_btw tFil (P:=Tryz.prog) g (k+m) cap .i64 .i64 ((k:Int)+(m:Int)) ((k:Int)+1+(m:Int)) (k+m) (k+1+m) (by omega) (by omega) (by omega) (by omega) (by omega);rw [show k+1+m - (k+m)=1 from by omega] at hs6;have hpl:(putAt (entE.all l) (k * 3) news).length=(k+1+m) * 3:=by rw [putAt_length,hlall]
 have hcl:∀ ty,(Builtin.clear_ #[88] ty #[.slice (some ⟨g,(k+m) * 3,none⟩) 1 (cap - (k+m))]).run Tryz.prog W1=.ok (.tuple #[]) (W1.setCells g ((k+m) * 3) (entE.enc ent0)):=fun ty =>
  run_clearR tFil ent0 (.agg #[.string ⟨#[]⟩,.slice none 0 0,.int .i64 0]) Tryz.zeroValue96 rfl ty g ((k+m) * 3) _ W1 (fun j hj=>by
   have hj5:j<3:=hj;have hlt:(k+m) * 3+j<(putAt (entE.all l) (k * 3) news).length:=by rw [hpl];omega
   rw [own1.cellAt _ hlt];rfl) (fun j _=>own1.frozenAt _)
 obtain ⟨own2,gr2⟩:=Own.storedAll own1 ((k+m) * 3) (entE.enc ent0) (entE.one _);have own3:=Own.cut own2 (k+m) (by omega);have hfin:=del_cells entE l k m hl (entE.enc ent0);have hfin':(putAt (putAt (entE.all l) (k * 3) news) ((k+m) * 3) (entE.enc ent0)).take ((k+m) * 3)=entE.all (l.take k++l.drop (k+1)):=by rw [hnews];exact hfin
 rw [hfin'] at own3;have hll:(l.take k++l.drop (k+1)).length=k+m:=by simp;omega
 have own4:OwnR entE (W1.setCells g ((k+m) * 3) (entE.enc ent0)) B 96 (.slice (some ⟨g,0,none⟩) (k+m) cap) (l.take k++l.drop (k+1)):=OwnR.of own3 hll.symm rfl;have gr4:w.grownBy (W1.setCells g ((k+m) * 3) (entE.enc ent0)) (some g):=grown_tr (grown_tr (grown_drew (World.grownBy.refl w (some g))) gr1) gr2;generalize W1.setCells g ((k+m) * 3) (entE.enc ent0)=W2 at *;have HW1:Hid (w.drew.setCells g (0+k * 3) news=W1):=by show _=_;rw [Nat.zero_add,hW1]
 have Hlen:=Lib.hid hlen;clear own1 gr1 own2 gr2 own3 hfin hfin' hW1 hall hfz hpl hnews hlen hlall hll own' own hl;have hk1:(k:Int)≤(k:Int)+1:=by omega
 have hk2:(k:Int)+1≤(k:Int)+1+(m:Int):=by omega
 have hk3:(k:Int)+1+(m:Int)≤(cap:Int):=by omega
 have hne:¬ (k:Int)=(k:Int)+1:=by omega
 go_enter Tryz.func115,Tryz.ntmps115
 go_wp2_with fail
 go_region_law (refine step_append_room rfl (.tmp 22) (.tmp 25) 88 rfl 96 i0 3 tFil.under hi0 hs0 g 0 k cap (by simp [Act.eval,Act.put]) A m (cap - (k+1)) news (by simp [Act.eval,Act.put]) Hlen.out hsrc.out s2.out (by omega) s3.out ?_;rw [HW1.out])
 go_wp2
 go_ret
 exact ⟨rfl,own4,gr4⟩

theorem delFil (B k:Nat) (v:Value) (l:List Ent) (w:World) (own:OwnR entE w B 96 v l) (hk:k<l.length) (hB:B≤w.heap.size) :
 Calls Tryz.prog 115 #[v,.int .i64 (k:Int),.int .i64 ((k:Int)+1)] w fun e w' =>
  ∃ v',e=.returned v'∧OwnR entE w' B 96 v' (l.take k++l.drop (k+1))∧w.grownBy w' v.ownBlock∧Below B w w'∧v'.ownBlock=v.ownBlock:=by
 obtain ⟨g,cap,rfl,h1,h2,h3,h4⟩:=own.head (by omega);obtain ⟨m,hm⟩:∃ m,l.length=k+1+m:=⟨l.length - (k+1),by omega⟩;have own':OwnR entE w B 96 (.slice (some ⟨g,0,none⟩) (k+1+m) cap) l:=by rw [←hm];exact own
 rw [hm];refine (delFil_core B g cap k m l w hm own' (by omega) h4 h1).mono ?_;rintro e w' ⟨he,own2,gr⟩;exact ⟨_,he,own2,gr,below_grown gr hB (fun b hb=>by cases hb;exact h1),rfl⟩
end
end Go.Proofs.YtgpgcnmnfnnkjaaGreatDoor
