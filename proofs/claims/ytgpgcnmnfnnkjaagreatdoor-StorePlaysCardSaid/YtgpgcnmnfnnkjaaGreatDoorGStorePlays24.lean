import Derived.Test.YtgpgcnmnfnnkjaaGreatDoorGStorePlays23
set_option linter.unusedVariables false
set_option linter.unusedSimpArgs false
set_option maxRecDepth 100000
set_option maxHeartbeats 16000000
namespace Go.Proofs.YtgpgcnmnfnnkjaaGreatDoor
section
open Go Go.RowKit Go.PlainAid
attribute [local go_sem] After.same

theorem segShorter {w:World} {B g:Nat} {v:Value} {s:Sg} (h:SegV w B g v s) (hbase:s.whole=true→0≤s.h.base) (n:Int) (hn:In64 n) :
 Calls Tryz.prog 133 #[.pointer (some ⟨g,0,none⟩),.int .i64 n] w fun e w'=>e=.returned (.bool (shorterS s n).isSome)∧SegAt w' B g ((shorterS s n).getD s)∧Below B w w':=by
 obtain ⟨n1,n2⟩:=hn;have c8:=h.c8;have c2:=h.c2;have hd:shorterS s n=if s.whole=true∧s.h.base≤n∧n - s.h.base≤s.h.log.length then some { s with h:={ s.h with log:=s.h.log.take (n - s.h.base).toNat } } else none:=rfl
 have Hd:=Lib.hid hd;clear hd;have hfew:=h.few
 rcases (Bool.eq_false_or_eq_true s.whole).symm with hw | hw
 ·skip
  rw [hw] at c8;have e:shorterS s n=none:=Hd.out.trans (if_neg (fun h=>by rw [hw] at h;simp at h));rw [e];clear e;go_enter Tryz.func133,Tryz.ntmps133
  go_wp2
  go_quiet (fail)
  go_wp2
  go_ret
  exact ⟨rfl,⟨v,h.ext (below_drawn _ _ _)⟩,below_drawn _ _ _⟩
 ·skip
  rw [hw] at c8;have hb0:=hbase hw;obtain ⟨p0,c0,rfl⟩:=h.log.rd.shape;have c6:=h.c6;have hwr:s.h.base≤n→IntKind.i64.wrap (n - s.h.base)=n - s.h.base:=fun h=>by rw [IntKind.wrap_i64];omega
  by_cases hc:s.h.base≤n∧n - s.h.base≤s.h.log.length
  ·have e:shorterS s n=some { s with h:={ s.h with log:=s.h.log.take (n - s.h.base).toNat } }:=Hd.out.trans (if_pos ⟨hw,hc⟩);rw [e];clear e;obtain ⟨m,hm⟩:∃ m:Nat,n - s.h.base=(m:Int):=⟨(n - s.h.base).toNat,by omega⟩;have hmt:(n - s.h.base).toNat=m:=by omega
   rw [hmt];have hml:m≤s.h.log.length:=by omega
   obtain ⟨p,c,hv,hsub,hown⟩:=cutE h.log hml;simp only [Value.slice.injEq,true_and] at hv
   obtain ⟨rfl,rfl⟩:=hv;have hsl:=run_sub_to tEty (P:=Tryz.prog) h.log.rd .i64 (n - s.h.base) m hm hml;rw [hsub] at hsl;have hml2:(s.h.log.take m).length=m:=by rw [List.length_take];omega
   have hend:∀ k,SegV ((w.drewN k).setCell ⟨g,6,none⟩ (.slice p0 m c0)) B g (.slice p0 m c0) { s with h:={ s.h with log:=s.h.log.take m } }:=fun k =>
    ⟨(h.ext (below_drawn _ _ _)).blk.set 6 (.slice p0 m c0),(chg_cell g 6 _ (w.drewN k)).ownR hown (fun j hj e=>h.off (by subst e;exact (own_len _ _ _ _).trans hj)),(fun e=>h.off ((own_len _ _ _ _).trans e)),h.low,by show (s.h.log.take m).length≤200;omega⟩
   have hbel:∀ k,Below B w ((w.drewN k).setCell ⟨g,6,none⟩ (.slice p0 m c0)):=fun k=>(below_drawn B w k).setCell (p:=⟨g,6,none⟩) h.low _;have Hend:=Lib.hid (And.intro hend hbel);have f6:=h.blk.frozen 6;have hc1:=hc.1;have hwr1:=hwr hc.1;have hc2:=hc.2;have Hm:=Lib.hid hm;clear hm hwr hw hc hmt hend hbel hown hsub;go_enter Tryz.func133,Tryz.ntmps133
   go_wp2
   go_quiet (fail)
   go_wp2_with fail
   refine wp_region_F (n:=17) (S:=fun w'=>w'.cell? ⟨g,6,none⟩=some (.slice p0 s.h.log.length c0)∧w'.cell? ⟨g,2,none⟩=some (.int .i64 s.h.base)) (by kernel_rfl) ?_;have hHeld:(fun w':World=>w'.cell? ⟨g,6,none⟩=some (.slice p0 s.h.log.length c0)∧w'.cell? ⟨g,2,none⟩=some (.int .i64 s.h.base)) (w.drewN nq).drew:=⟨c6,c2⟩;refine tk ?_ 0 ?_ hHeld ?_;rotate_left
   ·rintro w ⟨_,_⟩;dsimp only [bare];go_simp<;>with_reducible rfl
   try simp only [lyB,lyP,lyA,lyZ,lyS]
   refine tk ?_ 1 ?_ hHeld ?_;rotate_left
   ·rintro w ⟨_,_⟩;dsimp only [bare];go_simp<;>with_reducible rfl
   try simp only [lyB,lyP,lyA,lyZ,lyS]
   refine tk ?_ 2 ?_ hHeld ?_;rotate_left
   ·rintro w ⟨_,_⟩;dsimp only [bare];go_simp<;>with_reducible rfl
   try simp only [lyB,lyP,lyA,lyZ,lyS]
   refine tk ?_ 3 ?_ hHeld ?_;rotate_left
   ·rintro w ⟨_,_⟩;dsimp only [bare];go_simp<;>with_reducible rfl
   try simp only [lyB,lyP,lyA,lyZ,lyS]
   refine tk ?_ 4 ?_ hHeld ?_;rotate_left
   ·rintro w ⟨_,_⟩;dsimp only [bare];go_simp<;>with_reducible rfl
   try simp only [lyB,lyP,lyA,lyZ,lyS]
   refine tk ?_ 5 ?_ hHeld ?_;rotate_left
   ·rintro w ⟨_,_⟩;dsimp only [bare];go_simp<;>with_reducible rfl
   try simp only [lyB,lyP,lyA,lyZ,lyS]
   refine tk ?_ 6 ?_ hHeld ?_;rotate_left
   ·rintro w ⟨_,_⟩;dsimp only [bare];go_simp<;>with_reducible rfl
   try simp only [lyB,lyP,lyA,lyZ,lyS]
   refine tk ?_ 7 ?_ hHeld ?_;rotate_left
   ·rintro w ⟨_,_⟩;dsimp only [bare];go_simp<;>with_reducible rfl
   try simp only [lyB,lyP,lyA,lyZ,lyS]
   refine tk ?_ 8 ?_ hHeld ?_;rotate_left
   ·rintro w ⟨_,_⟩;dsimp only [bare];go_simp<;>with_reducible rfl
   try simp only [lyB,lyP,lyA,lyZ,lyS]
   refine tk ?_ 9 ?_ hHeld ?_;rotate_left
   ·rintro w ⟨_,_⟩;dsimp only [bare];go_simp<;>with_reducible rfl
   try simp only [lyB,lyP,lyA,lyZ,lyS]
   refine tk ?_ 10 ?_ hHeld ?_;rotate_left
   ·rintro w ⟨_,_⟩;dsimp only [bare];go_simp<;>with_reducible rfl
   try simp only [lyB,lyP,lyA,lyZ,lyS]
   refine tk ?_ 11 ?_ hHeld ?_;rotate_left
   ·rintro w ⟨_,_⟩;dsimp only [bare];go_simp<;>with_reducible rfl
   try simp only [lyB,lyP,lyA,lyZ,lyS]
   refine tk ?_ 12 ?_ hHeld ?_;rotate_left
   ·rintro w ⟨_,_⟩;dsimp only [bare];go_simp<;>with_reducible rfl
   try simp only [lyB,lyP,lyA,lyZ,lyS]
   refine tk ?_ 13 ?_ hHeld ?_;rotate_left
   ·rintro w ⟨_,_⟩;dsimp only [bare];go_simp<;>with_reducible rfl
   try simp only [lyB,lyP,lyA,lyZ,lyS]
   refine tk ?_ 14 ?_ hHeld ?_;rotate_left
   ·rintro w ⟨_,_⟩;dsimp only [bare];go_simp<;>with_reducible rfl
   try simp only [lyB,lyP,lyA,lyZ,lyS]
   refine tk ?_ 15 ?_ hHeld ?_;rotate_left
   ·rintro w ⟨_,_⟩;dsimp only [bare];go_simp<;>with_reducible rfl
   try simp only [lyB,lyP,lyA,lyZ,lyS]
   refine tk ?_ 16 ?_ hHeld ?_;rotate_left
   ·rintro w ⟨_,_⟩;dsimp only [bare];go_simp<;>with_reducible rfl
   try simp only [lyB,lyP,lyA,lyZ,lyS]
   refine wpAnyF_end (none) (Op.store 22 (Operand.tmp 51) (Operand.tmp 48)) 0 rfl (by kernel_rfl) (by kernel_rfl) (fun K hK=>?_);dsimp only [bare];go_simp;refine hK _ _ ?_;clear hK K
   try simp only [lyB,lyP,lyA,lyZ,lyS]
   go_wp2_with fail
   go_ret
   exact ⟨rfl,⟨_,Hend.out.1 (nq+1)⟩,Hend.out.2 (nq+1)⟩
  ·have e:shorterS s n=none:=Hd.out.trans (if_neg (fun h=>hc h.2));rw [e];clear e;have hc':n<s.h.base∨(s.h.base≤n∧(s.h.log.length:Int)<n - s.h.base):=by omega
   clear hc
   rcases hc' with hc | ⟨hc,hc2⟩
   all_goals
    try have hwr1:=hwr hc
    clear hwr hw;go_enter Tryz.func133,Tryz.ntmps133
    go_wp2
    go_quiet (fail)
    go_wp2
    go_ret
    exact ⟨rfl,⟨_,h.ext (below_drawn _ _ _)⟩,below_drawn _ _ _⟩
end
section
open Go Go.RowKit Go.PlainAid
attribute [local go_sem] After.same

theorem segA_fill (s:Sg) (v:Value) (x:Hrd):(((((((((segA s v).setIfInBounds 0 (.int .i64 x.term)).setIfInBounds 1 (.int .i64 x.vote)).setIfInBounds 2 (.int .i64 x.base)).setIfInBounds 3 (.int .i64 x.bterm)).setIfInBounds 4 (.int .i64 x.members)).setIfInBounds 5 (.string x.snap)).setIfInBounds 6 (.slice none 0 0)).setIfInBounds 7 (.bool true))=segA { s with h:=x,begun:=true } (.slice none 0 0):=by kernel_rfl
theorem SegV.fill {w:World} {B g:Nat} {v:Value} {s:Sg} (h:SegV w B g v s) {x:Hrd} (hx:x.log=[]):SegV ((((((((w.setCell ⟨g,0,none⟩ (.int .i64 x.term)).setCell ⟨g,1,none⟩ (.int .i64 x.vote)).setCell ⟨g,2,none⟩ (.int .i64 x.base)).setCell ⟨g,3,none⟩ (.int .i64 x.bterm)).setCell ⟨g,4,none⟩ (.int .i64 x.members)).setCell ⟨g,5,none⟩ (.string x.snap)).setCell ⟨g,6,none⟩ (.slice none 0 0)).setCell ⟨g,7,none⟩ (.bool true)) B g (.slice none 0 0) { s with h:=x,begun:=true }∧Below B w ((((((((w.setCell ⟨g,0,none⟩ (.int .i64 x.term)).setCell ⟨g,1,none⟩ (.int .i64 x.vote)).setCell ⟨g,2,none⟩ (.int .i64 x.base)).setCell ⟨g,3,none⟩ (.int .i64 x.bterm)).setCell ⟨g,4,none⟩ (.int .i64 x.members)).setCell ⟨g,5,none⟩ (.string x.snap)).setCell ⟨g,6,none⟩ (.slice none 0 0)).setCell ⟨g,7,none⟩ (.bool true)) :=
 ⟨⟨segA_fill s v x ▸ ((((((((h.blk.set 0 (.int .i64 x.term)).set 1 (.int .i64 x.vote)).set 2 (.int .i64 x.base)).set 3 (.int .i64 x.bterm)).set 4 (.int .i64 x.members)).set 5 (.string x.snap)).set 6 (.slice none 0 0)).set 7 (.bool true)),by show OwnR etyE _ _ _ _ x.log;rw [hx];exact OwnR.nil _ _ _,by simp [Value.ownBlock],h.low,by show x.log.length≤200;rw [hx];decide⟩,(((((((((Below.refl B w).setCell (p:=⟨g,0,none⟩) h.low (.int .i64 x.term)).setCell (p:=⟨g,1,none⟩) h.low (.int .i64 x.vote)).setCell (p:=⟨g,2,none⟩) h.low (.int .i64 x.base)).setCell (p:=⟨g,3,none⟩) h.low (.int .i64 x.bterm)).setCell (p:=⟨g,4,none⟩) h.low (.int .i64 x.members)).setCell (p:=⟨g,5,none⟩) h.low (.string x.snap)).setCell (p:=⟨g,6,none⟩) h.low (.slice none 0 0)).setCell (p:=⟨g,7,none⟩) h.low (.bool true))⟩
theorem segBegan {w:World} {B g:Nat} {v:Value} {s:Sg} (h:SegV w B g v s) (x:Hrd) (hx:x.log=[]) :
 Calls Tryz.prog 129 #[.pointer (some ⟨g,0,none⟩),hrdA x (.slice none 0 0)] w fun e w'=>e=.returned (.bool (beganS s x).isSome)∧SegAt w' B g ((beganS s x).getD s)∧Below B w w':=by
 have c7:=h.c7;have hl:=h.lt;have hBw:B≤w.heap.size:=by omega
 have ca:=below_alloc w (.cells #[.int .i64 x.term,.int .i64 x.vote,.int .i64 x.base,.int .i64 x.bterm,.int .i64 x.members,.string x.snap,.slice none 0 0] 24);have hne:g≠w.heap.size:=by omega
 have hcall:=walBare x (.slice none 0 0) (w.alloc (.cells #[.int .i64 x.term,.int .i64 x.vote,.int .i64 x.base,.int .i64 x.bterm,.int .i64 x.members,.string x.snap,.slice none 0 0] 24)) (by rw [hx];exact Rd.nil _);have hd:beganS s x=if s.begun=false∧bareH x=true then some { s with h:=x,begun:=true } else none:=rfl
 have Hd:=Lib.hid hd;have h2:=h.ext ca;have kb:=Blk.new w #[.int .i64 x.term,.int .i64 x.vote,.int .i64 x.base,.int .i64 x.bterm,.int .i64 x.members,.string x.snap,.slice none 0 0] 24;clear hd
 cases hb:s.begun with
 | true =>
  rw [hb] at c7;have e:beganS s x=none:=Hd.out.trans (if_neg (fun h=>by rw [hb] at h;simp at h));rw [e];clear e hcall kb;go_enter Tryz.func129,Tryz.ntmps129
  go_wp2_with fail
  go_ret
  exact ⟨rfl,⟨v,h2⟩,ca.mono hBw⟩
 | false =>
  rw [hb] at c7
  cases hr:bareH x with
  | false =>
   have e:beganS s x=none:=Hd.out.trans (if_neg (fun h=>by rw [hr] at h;simp at h));rw [e];rw [hr] at hcall;clear e kb;go_enter Tryz.func129,Tryz.ntmps129
   go_wp2_with fail
   refine hcall.mono ?_;rintro e w2 ⟨rfl,b2⟩;go_wp2_with fail
   go_ret
   exact ⟨rfl,⟨v,h2.ext b2⟩,(ca.trans (b2.mono (by simp))).mono hBw⟩
  | true =>
   have e:beganS s x=some { s with h:=x,begun:=true }:=Hd.out.trans (if_pos ⟨hb,hr⟩);rw [e];rw [hr] at hcall;clear e;go_enter Tryz.func129,Tryz.ntmps129
   go_wp2_with fail
   refine hcall.mono ?_;rintro e w2 ⟨rfl,b2⟩;have h3:=h2.ext b2;have b02:=(ca.trans (b2.mono (by simp))).mono hBw;have k2:=kb.ext b2;have kc0:=k2.cell 0 _ rfl;have f0:=h3.blk.frozen 0;have kc1:=k2.cell 1 _ rfl;have f1:=h3.blk.frozen 1;have kc2:=k2.cell 2 _ rfl;have f2:=h3.blk.frozen 2;have kc3:=k2.cell 3 _ rfl;have f3:=h3.blk.frozen 3;have kc4:=k2.cell 4 _ rfl;have f4:=h3.blk.frozen 4;have kc5:=k2.cell 5 _ rfl;have f5:=h3.blk.frozen 5;have kc6:=k2.cell 6 _ rfl;have f6:=h3.blk.frozen 6;have f7:=h3.blk.frozen 7;have d0:=h3.c0;have d1:=h3.c1;have d2:=h3.c2;have d3:=h3.c3;have d4:=h3.c4
   have d5:=h3.c5;have d6:=h3.c6;have d7:=h3.c7;have Hy:=Lib.hid (h3.fill hx);clear kb k2 hcall ca h2;go_wp2_with fail
   go_ret
   exact ⟨rfl,⟨_,Hy.out.1⟩,b02.trans Hy.out.2⟩
end
section
open Go Go.RowKit Go.PlainAid
attribute [local go_sem] After.same
theorem lastT_some {l:List Ety} {b:Int} {m:Nat} (h:l.length=m+1):lastT l b=(l[m]'(by omega)).term:=by
 have e:l.getLast?=some (l[m]'(by omega)):=by
  rw [List.getLast?_eq_getElem?,show l.length - 1=m from by omega];exact List.getElem?_eq_getElem _
 unfold lastT;rw [e]
theorem lastT_none {l:List Ety} {b:Int} (h:l.length=0):lastT l b=b:=by
 rw [List.length_eq_zero_iff.1 h];rfl
theorem SegV.grow {w w':World} {B g:Nat} {v v':Value} {s:Sg} {x:Ety} (h:SegV w B g v s) (hg:w.grownBy w' v.ownBlock) (hb:Below B w w') (own:OwnR etyE w' B 73 v' (s.h.log++[x])) (hw:v'.ownBlock=v.ownBlock∨v'.ownBlock=some w.heap.size) (hf:s.h.log.length<200) :
 SegV (w'.setCell ⟨g,6,none⟩ v') B g v' { s with h:={ s.h with log:=s.h.log++[x] } }∧Below B w (w'.setCell ⟨g,6,none⟩ v'):=by
 have hoff:v'.ownBlock≠some g:=by
  rcases hw with e | e
  ·rw [e];exact h.off
  ·rw [e];intro hq;cases hq;exact Nat.lt_irrefl _ h.blk.lt
 exact ⟨⟨(h.blk.grown hg h.off).set 6 v',(chg_cell g 6 _ w').ownR own (fun k hk e=>hoff (by rw [hk,e])),hoff,h.low,by show (s.h.log++[x]).length≤200;rw [List.length_append,List.length_singleton];omega⟩,hb.setCell (p:=⟨g,6,none⟩) h.low v'⟩

section
variable {P:Program} {t e:TypeId} {sz bytes:Nat} {w:World} {ops:Array Oper} {o:Oper} {a:Act} {α:Type} {E:Enc α}
theorem step_appRW {K:Act→World→Prop} {Q:Exit→Act→World→Prop} {X:Prop} (T:SlT P t e E.sz bytes) (hgd:o.guard=none) {s y:Operand} (ho:o.op=.call { callee:=.builtin .append,args:=#[s,y],argTypes:=#[t,t] })
 {B:Nat} {v:Value} {l:List α} (own:OwnR E w B e v l) (hs:a.eval s=v)
 {x:Value} {m:List α} (src:Rd E w x m) (hx:a.eval y=x) (hbytes:(l.length+m.length) * bytes≤140737488355328) (hB:B≤w.heap.size)
 (h:∀ v' w',OwnR E w' B e v' (l++m)→w.grownBy w' v.ownBlock→Below B w w'→(v'.ownBlock=v.ownBlock∨v'.ownBlock=some w.heap.size)→K (a.put o.dst v') w'):if Region.wanted o (yielded ops a.tmps)=true then Oper.wp P o a w K Q else X:=by
 have hw:Region.wanted o (yielded ops a.tmps)=true:=by simp [Region.wanted,hgd]
 rw [if_pos hw];obtain ⟨v',w',hr,h2,h3,h4⟩:=run_app T o.type own src hbytes hB;have h5:=run_app_where T o.type own src hbytes v' w' hr;unfold Oper.wp execOp;simp only [ho,resolve,invoke,builtin,Sem.run_bind,Sem.run_pure,Result.andThen_ok,List.map_toArray,List.map_cons,List.map_nil,hs,hx,hr]
 exact h v' w' (OwnR.snoc h2) h3 h4 h5
end
theorem segGrown {w:World} {B g:Nat} {v:Value} {s:Sg} (h:SegV w B g v s) (hb0:0≤s.h.base) (hb1:s.h.base≤1099511627776) (x:Ety) :
 Calls Tryz.prog 130 #[.pointer (some ⟨g,0,none⟩),etyV x] w fun e w'=>e=.returned (.bool (grownS s x).isSome)∧SegAt w' B g ((grownS s x).getD s)∧Below B w w':=by
 have hl:=h.lt;have hBw:B≤w.heap.size:=by omega
 have hfew:=h.few;have ca:=below_alloc w (.cells #[.int .i64 x.term,.int .i64 x.members,.string x.data] 73);have kb:=Blk.new w #[.int .i64 x.term,.int .i64 x.members,.string x.data] 73;have hW1:(w.alloc (.cells #[.int .i64 x.term,.int .i64 x.members,.string x.data] 73)).heap.size=w.heap.size+1:=by simp
 have h2:=h.ext ca;have hd:grownS s x=if s.h.log.length<200∧s.h.base+s.h.log.length<1099511627776∧fitsE x (lastT s.h.log s.h.bterm) s.h.term=true then some { s with h:={ s.h with log:=s.h.log++[x] } } else none:=rfl
 have Hd:=Lib.hid hd;clear hd;obtain ⟨p,c,rfl⟩:=h.log.rd.shape;have hT:(s.h.log.length=0∧lastT s.h.log s.h.bterm=s.h.bterm)∨∃ (m bb off:Nat) (t:Int),s.h.log.length=m+1∧p=some ⟨bb,off,none⟩∧lastT s.h.log s.h.bterm=t∧w.cell? ⟨bb,off+m * 3,none⟩=some (.int .i64 t)∧bb<w.heap.size:=by
  rcases Nat.eq_zero_or_pos s.h.log.length with h0 | h0
  ·exact .inl ⟨h0,lastT_none h0⟩
  ·obtain ⟨bb,off,rfl⟩:=Rd.blk h.log.rd h0;obtain ⟨m,hm⟩:∃ m,s.h.log.length=m+1:=⟨s.h.log.length - 1,by omega⟩;exact .inr ⟨m,bb,off,_,hm,rfl,lastT_some hm,(ety3 h.log.rd (show m<s.h.log.length by omega)).1,(h.log.lt bb rfl).2⟩
 have hcl:∀ (T:Int) (z:After (w.alloc (.cells #[.int .i64 x.term,.int .i64 x.members,.string x.data] 73))),lastT s.h.log s.h.bterm=T→Calls Tryz.prog 102 #[.agg #[.int .i64 x.term,.int .i64 x.members,.string x.data],.int .i64 T,.int .i64 s.h.term] z.1 fun e w'=>e=.returned (.bool (fitsE x T s.h.term))∧∃ y:After (w.alloc (.cells #[.int .i64 x.term,.int .i64 x.members,.string x.data] 73)),w'=y.1:=fun T z _=>z.call (walFits x T s.h.term z.1)
 have z0:∀ z:After (w.alloc (.cells #[.int .i64 x.term,.int .i64 x.members,.string x.data] 73)),z.1.cell? ⟨g,0,none⟩=some (.int .i64 s.h.term):=fun z=>(h2.ext z.2).c0;have z2:∀ z:After (w.alloc (.cells #[.int .i64 x.term,.int .i64 x.members,.string x.data] 73)),z.1.cell? ⟨g,2,none⟩=some (.int .i64 s.h.base):=fun z=>(h2.ext z.2).c2;have zx0:∀ z:After (w.alloc (.cells #[.int .i64 x.term,.int .i64 x.members,.string x.data] 73)),z.1.cell? ⟨w.heap.size,0,none⟩=some (.int .i64 x.term):=fun z=>(kb.ext z.2).cell 0 _ rfl
 have zx1:∀ z:After (w.alloc (.cells #[.int .i64 x.term,.int .i64 x.members,.string x.data] 73)),z.1.cell? ⟨w.heap.size,1,none⟩=some (.int .i64 x.members):=fun z=>(kb.ext z.2).cell 1 _ rfl;have zx2:∀ z:After (w.alloc (.cells #[.int .i64 x.term,.int .i64 x.members,.string x.data] 73)),z.1.cell? ⟨w.heap.size,2,none⟩=some (.string x.data):=fun z=>(kb.ext z.2).cell 2 _ rfl;have z6:∀ z:After (w.alloc (.cells #[.int .i64 x.term,.int .i64 x.members,.string x.data] 73)),z.1.cell? ⟨g,6,none⟩=some (.slice p s.h.log.length c):=fun z=>(h2.ext z.2).c6;have c0:=h.c0;have c2:=h.c2;have c3:=h.c3;have c6:=h.c6
 have hnw:g≠w.heap.size:=by omega
 have hend:∀ w7,Below (w.alloc (.cells #[.int .i64 x.term,.int .i64 x.members,.string x.data] 73)).heap.size (w.alloc (.cells #[.int .i64 x.term,.int .i64 x.members,.string x.data] 73)) w7→SegV w7 B g (.slice p s.h.log.length c) s∧Blk w7 w.heap.size #[.int .i64 x.term,.int .i64 x.members,.string x.data] 73∧Below B w w7:=fun w7 c7=>⟨h2.ext c7,kb.ext c7,(ca.mono hBw).trans (c7.mono (by rw [hW1];omega))⟩;have Hend:=Lib.hid hend;have hvN:=Lib.hid (fun k hk=>(h.log.lt k hk).2);clear hend h2 kb h;unfold etyV;have enter:∀ (T:Int),lastT s.h.log s.h.bterm=T→True:=fun _ _=>trivial
 rcases hT with ⟨h0,hT⟩ | ⟨m,bb,off,T,hm,rfl,hT,cT,hbw⟩
 ·rw [hT] at Hd;have hcl:=fun z=>hcl s.h.bterm z hT;rw [h0] at hfew Hd c6 z6;have hwr:IntKind.i64.wrap s.h.base=s.h.base:=by rw [IntKind.wrap_i64];omega
  by_cases q1:0<200
  ·by_cases q2:s.h.base+((0:Nat):Int)<1099511627776
   ·cases q3:fitsE x s.h.bterm s.h.term with
    | false =>
     have e:grownS s x=none:=Hd.out.trans (if_neg (fun h=>by rw [q3] at h;simp at h));rw [e];rw [q3] at hcl;have qi2:decide ((1099511627776:Int)≤s.h.base)=false:=decide_eq_false (by omega);clear e;go_enter Tryz.func130,Tryz.ntmps130
     go_wp2_with fail
     generalize w.alloc (.cells #[.int .i64 x.term,.int .i64 x.members,.string x.data] 73)=W at *;refine wp_region_after (by kernel_rfl) (by kernel_rfl) ?_
     repeat (go_big_quiet_step (exact hcl _))
     refine wpQuiet_nil ?_;rintro w7 ⟨⟨w8,c7⟩,hw⟩;obtain rfl:w7=w8:=hw;obtain ⟨h7,k7,b7⟩:=Hend.out w7 c7;clear hcl z0 z2 z6 zx0 zx1 zx2;go_wp2_with fail
     go_ret
     exact ⟨rfl,⟨_,h7⟩,b7⟩
    | true =>
     have e:grownS s x=some { s with h:={ s.h with log:=s.h.log++[x] } }:=Hd.out.trans (if_pos ⟨q1,q2,q3⟩);rw [e];rw [q3] at hcl;have qi2:decide ((1099511627776:Int)≤s.h.base)=false:=decide_eq_false (by omega);clear e;go_enter Tryz.func130,Tryz.ntmps130
     go_wp2_with fail
     generalize w.alloc (.cells #[.int .i64 x.term,.int .i64 x.members,.string x.data] 73)=W at *;refine wp_region_after (by kernel_rfl) (by kernel_rfl) ?_
     repeat (go_big_quiet_step (exact hcl _))
     refine wpQuiet_nil ?_;rintro w7 ⟨⟨w8,c7⟩,hw⟩;obtain rfl:w7=w8:=hw;obtain ⟨h7,k7,b7⟩:=Hend.out w7 c7;have y0:=k7.cell 0 _ rfl;have y1:=k7.cell 1 _ rfl;have y2:=k7.cell 2 _ rfl;have y6:=h7.c6;rw [h0] at y6;have own:=h7.log;have hs7:=h7.lt;clear hcl z0 z2 z6 zx0 zx1 zx2 c0 c2 c3 c6;go_wp2_with fail
     refine wp_region_F (n:=12) (S:=fun w':World=>w'.cell? ⟨g,6,none⟩=some (.slice p 0 c)∧(w'.cell? ⟨w.heap.size,0,none⟩=some (.int .i64 x.term)∧(w'.cell? ⟨w.heap.size,1,none⟩=some (.int .i64 x.members)∧w'.cell? ⟨w.heap.size,2,none⟩=some (.string x.data)))) (by kernel_rfl) ?_;have hHeld:(fun w':World=>w'.cell? ⟨g,6,none⟩=some (.slice p 0 c)∧(w'.cell? ⟨w.heap.size,0,none⟩=some (.int .i64 x.term)∧(w'.cell? ⟨w.heap.size,1,none⟩=some (.int .i64 x.members)∧w'.cell? ⟨w.heap.size,2,none⟩=some (.string x.data)))) w7.drew:=⟨y6,y0,y1,y2⟩;refine tk ?_ 0 ?_ hHeld ?_;rotate_left
     ·rintro w ⟨_,_,_,_⟩;dsimp only [bare];go_simp<;>with_reducible rfl
     try simp only [lyB,lyP,lyA,lyZ,lyS]
     refine tk ?_ 1 ?_ hHeld ?_;rotate_left
     ·rintro w ⟨_,_,_,_⟩;dsimp only [bare];go_simp<;>with_reducible rfl
     try simp only [lyB,lyP,lyA,lyZ,lyS]
     refine tk ?_ 2 ?_ hHeld ?_;rotate_left
     ·rintro w ⟨_,_,_,_⟩;dsimp only [bare];go_simp<;>with_reducible rfl
     try simp only [lyB,lyP,lyA,lyZ,lyS]
     refine tk ?_ 3 ?_ hHeld ?_;rotate_left
     ·rintro w ⟨_,_,_,_⟩;dsimp only [bare];go_simp<;>with_reducible rfl
     try simp only [lyB,lyP,lyA,lyZ,lyS]
     refine tk ?_ 4 ?_ hHeld ?_;rotate_left
     ·rintro w ⟨_,_,_,_⟩;dsimp only [bare];go_simp<;>with_reducible rfl
     try simp only [lyB,lyP,lyA,lyZ,lyS]
     refine tk ?_ 5 ?_ hHeld ?_;rotate_left
     ·rintro w ⟨_,_,_,_⟩;dsimp only [bare];go_simp<;>with_reducible rfl
     try simp only [lyB,lyP,lyA,lyZ,lyS]
     refine tk ?_ 6 ?_ hHeld ?_;rotate_left
     ·rintro w ⟨_,_,_,_⟩;dsimp only [bare];go_simp<;>with_reducible rfl
     try simp only [lyB,lyP,lyA,lyZ,lyS]
     refine wpAnyF_one 7 _ _ _ rfl (by kernel_rfl) (fun K hK=>?_);dsimp only [bare];go_simp;obtain ⟨w8,hw8⟩:∃ z,z=(w7.alloc (.cells #[.int .i64 x.term,.int .i64 x.members,.string x.data] 73)).drew:=⟨_,rfl⟩;have bE:Below w7.heap.size w7 w8:=by rw [hw8];exact (below_alloc w7 _).drew
     have lit:OwnR etyE w8 0 73 (.slice (some ⟨w7.heap.size,0,none⟩) 1 1) [x]:=by rw [hw8];exact (OwnR.litAt etyE w7 #[.int .i64 x.term,.int .i64 x.members,.string x.data] 73 [x] 1 0 w7.heap.size rfl rfl rfl (by unfold maxLen;omega) (Nat.zero_le _)).drew
     rw [←hw8];clear hw8;have h8:=h7.ext bE;have k8:=k7.ext bE;refine hK _ _ ⟨by have:=h8.c6;rw [h0] at this;exact this,k8.cell 0 _ rfl,k8.cell 1 _ rfl,k8.cell 2 _ rfl⟩ (fun hHeld=>?_);clear hK K
     try simp only [lyB,lyP,lyA,lyZ,lyS]
     refine wpAnyF_one 8 _ _ _ rfl (by kernel_rfl) (fun K hK=>?_);refine step_appRW (E:=etyE) (s:=.tmp 68) (y:=.tmp 70) (B:=B) (l:=s.h.log) (m:=[x]) tEty rfl rfl h8.log (by simp [Act.eval,Act.put,h0]) lit.rd (by simp [Act.eval,Act.put]) (by simp;omega) (by have:=h8.lt;omega) ?_;intro v9 w9 own9 g9 b9 at9;have k9:=h8.blk.grown g9 h8.off;have s9:=h8.grow g9 b9 own9 at9 (by rw [h0];omega);have x9:w9.cell? ⟨w.heap.size,0,none⟩=some (.int .i64 x.term)∧w9.cell? ⟨w.heap.size,1,none⟩=some (.int .i64 x.members)∧w9.cell? ⟨w.heap.size,2,none⟩=some (.string x.data):=by
      have hk:=k8.grown g9 (fun e=>absurd (hvN.out _ e) (Nat.lt_irrefl _));exact ⟨hk.cell 0 _ rfl,hk.cell 1 _ rfl,hk.cell 2 _ rfl⟩
     refine hK _ _ ⟨by have:=k9.cell 6 _ rfl;rw [h0] at this;exact this,x9.1,x9.2.1,x9.2.2⟩ (fun hHeld=>?_);clear hK K
     try simp only [lyB,lyP,lyA,lyZ,lyS]
     refine tk ?_ 9 ?_ hHeld ?_;rotate_left
     ·rintro w ⟨_,_,_,_⟩;dsimp only [bare];go_simp<;>with_reducible rfl
     try simp only [lyB,lyP,lyA,lyZ,lyS]
     refine tk ?_ 10 ?_ hHeld ?_;rotate_left
     ·rintro w ⟨_,_,_,_⟩;dsimp only [bare];go_simp<;>with_reducible rfl
     try simp only [lyB,lyP,lyA,lyZ,lyS]
     refine tk ?_ 11 ?_ hHeld ?_;rotate_left
     ·rintro w ⟨_,_,_,_⟩;dsimp only [bare];go_simp<;>with_reducible rfl
     try simp only [lyB,lyP,lyA,lyZ,lyS]
     have f9:=k9.frozen 6;have y9:=k9.cell 6 _ rfl;have S9:=Lib.hid (And.intro s9.1 (b7.trans ((bE.mono (by have:=h7.lt;omega)).trans s9.2)));obtain ⟨p9,q9,hv9⟩:=own9.rd.shape;generalize (s.h.log++[x]).length=n9 at hv9;subst hv9;clear s9 own9 at9 g9 k9 h8 k8 lit hHeld x9;refine wpAnyF_end (none) (Op.store 22 (Operand.tmp 74) (Operand.tmp 71)) 0 rfl (by kernel_rfl) (by kernel_rfl) (fun K hK=>?_);dsimp only [bare];go_simp;refine hK _ _ ?_;clear hK K
     try simp only [lyB,lyP,lyA,lyZ,lyS]
     go_wp2_with fail
     go_ret
     exact ⟨rfl,⟨_,S9.out.1⟩,S9.out.2⟩
   ·have e:grownS s x=none:=Hd.out.trans (if_neg (fun h=>q2 h.2.1));rw [e];have qi2:decide ((1099511627776:Int)≤s.h.base)=true:=decide_eq_true (by omega);clear e

    go_enter Tryz.func130,Tryz.ntmps130
    go_wp2_with fail
    generalize w.alloc (.cells #[.int .i64 x.term,.int .i64 x.members,.string x.data] 73)=W at *;refine wp_region_after (by kernel_rfl) (by kernel_rfl) ?_
    repeat (go_big_quiet_step (exact hcl _))
    refine wpQuiet_nil ?_;rintro w7 ⟨⟨w8,c7⟩,hw⟩;obtain rfl:w7=w8:=hw;obtain ⟨h7,k7,b7⟩:=Hend.out w7 c7;clear hcl z0 z2 z6 zx0 zx1 zx2;go_wp2_with fail
    go_ret
    exact ⟨rfl,⟨_,h7⟩,b7⟩
  ·exact absurd (by decide) q1
 ·rw [hT] at Hd;have hcl:=fun z=>hcl T z hT;rw [hm] at hfew Hd c6 z6;have cT2:(w.alloc (.cells #[.int .i64 x.term,.int .i64 x.members,.string x.data] 73)).cell? ⟨bb,off+m * 3,none⟩=some (.int .i64 T):=by rw [ca.cell (p:=⟨bb,off+m * 3,none⟩) (by show bb<_;omega)];exact cT
  have hwr:IntKind.i64.wrap (s.h.base+((m:Int)+1))=s.h.base+((m:Int)+1):=by rw [IntKind.wrap_i64];omega
  by_cases q1:(m+1)<200
  ·by_cases q2:s.h.base+(((m+1):Nat):Int)<1099511627776
   ·cases q3:fitsE x T s.h.term with
    | false =>
     have e:grownS s x=none:=Hd.out.trans (if_neg (fun h=>by rw [q3] at h;simp at h));rw [e];rw [q3] at hcl;have qi2:decide ((1099511627776:Int)≤s.h.base+((m:Int)+1))=false:=decide_eq_false (by omega);clear e;have qi1:decide ((200:Int)≤((m:Int)+1))=false:=decide_eq_false (by omega);go_enter Tryz.func130,Tryz.ntmps130
     go_wp2_with fail
     generalize w.alloc (.cells #[.int .i64 x.term,.int .i64 x.members,.string x.data] 73)=W at *;refine wp_region_after (by kernel_rfl) (by kernel_rfl) ?_
     repeat (go_big_quiet_step (exact hcl _))
     refine wpQuiet_nil ?_;rintro w7 ⟨⟨w8,c7⟩,hw⟩;obtain rfl:w7=w8:=hw;obtain ⟨h7,k7,b7⟩:=Hend.out w7 c7;clear hcl z0 z2 z6 zx0 zx1 zx2;go_wp2_with fail
     go_ret
     exact ⟨rfl,⟨_,h7⟩,b7⟩
    | true =>
     have e:grownS s x=some { s with h:={ s.h with log:=s.h.log++[x] } }:=Hd.out.trans (if_pos ⟨q1,q2,q3⟩);rw [e];rw [q3] at hcl;have qi2:decide ((1099511627776:Int)≤s.h.base+((m:Int)+1))=false:=decide_eq_false (by omega);clear e;have qi1:decide ((200:Int)≤((m:Int)+1))=false:=decide_eq_false (by omega);go_enter Tryz.func130,Tryz.ntmps130
     go_wp2_with fail
     generalize w.alloc (.cells #[.int .i64 x.term,.int .i64 x.members,.string x.data] 73)=W at *;refine wp_region_after (by kernel_rfl) (by kernel_rfl) ?_
     repeat (go_big_quiet_step (exact hcl _))
     refine wpQuiet_nil ?_;rintro w7 ⟨⟨w8,c7⟩,hw⟩;obtain rfl:w7=w8:=hw;obtain ⟨h7,k7,b7⟩:=Hend.out w7 c7;have y0:=k7.cell 0 _ rfl;have y1:=k7.cell 1 _ rfl;have y2:=k7.cell 2 _ rfl;have y6:=h7.c6;rw [hm] at y6;have own:=h7.log;have hs7:=h7.lt;clear hcl z0 z2 z6 zx0 zx1 zx2 c0 c2 c3 c6;go_wp2_with fail
     refine wp_region_F (n:=12) (S:=fun w':World=>w'.cell? ⟨g,6,none⟩=some (.slice (some ⟨bb,off,none⟩) (m+1) c)∧(w'.cell? ⟨w.heap.size,0,none⟩=some (.int .i64 x.term)∧(w'.cell? ⟨w.heap.size,1,none⟩=some (.int .i64 x.members)∧w'.cell? ⟨w.heap.size,2,none⟩=some (.string x.data)))) (by kernel_rfl) ?_;have hHeld:(fun w':World=>w'.cell? ⟨g,6,none⟩=some (.slice (some ⟨bb,off,none⟩) (m+1) c)∧(w'.cell? ⟨w.heap.size,0,none⟩=some (.int .i64 x.term)∧(w'.cell? ⟨w.heap.size,1,none⟩=some (.int .i64 x.members)∧w'.cell? ⟨w.heap.size,2,none⟩=some (.string x.data)))) w7.drew:=⟨y6,y0,y1,y2⟩
     refine tk ?_ 0 ?_ hHeld ?_;rotate_left
     ·rintro w ⟨_,_,_,_⟩;dsimp only [bare];go_simp<;>with_reducible rfl
     try simp only [lyB,lyP,lyA,lyZ,lyS]
     refine tk ?_ 1 ?_ hHeld ?_;rotate_left
     ·rintro w ⟨_,_,_,_⟩;dsimp only [bare];go_simp<;>with_reducible rfl
     try simp only [lyB,lyP,lyA,lyZ,lyS]
     refine tk ?_ 2 ?_ hHeld ?_;rotate_left
     ·rintro w ⟨_,_,_,_⟩;dsimp only [bare];go_simp<;>with_reducible rfl
     try simp only [lyB,lyP,lyA,lyZ,lyS]
     refine tk ?_ 3 ?_ hHeld ?_;rotate_left
     ·rintro w ⟨_,_,_,_⟩;dsimp only [bare];go_simp<;>with_reducible rfl
     try simp only [lyB,lyP,lyA,lyZ,lyS]
     refine tk ?_ 4 ?_ hHeld ?_;rotate_left
     ·rintro w ⟨_,_,_,_⟩;dsimp only [bare];go_simp<;>with_reducible rfl
     try simp only [lyB,lyP,lyA,lyZ,lyS]
     refine tk ?_ 5 ?_ hHeld ?_;rotate_left
     ·rintro w ⟨_,_,_,_⟩;dsimp only [bare];go_simp<;>with_reducible rfl
     try simp only [lyB,lyP,lyA,lyZ,lyS]
     refine tk ?_ 6 ?_ hHeld ?_;rotate_left
     ·rintro w ⟨_,_,_,_⟩;dsimp only [bare];go_simp<;>with_reducible rfl
     try simp only [lyB,lyP,lyA,lyZ,lyS]
     refine wpAnyF_one 7 _ _ _ rfl (by kernel_rfl) (fun K hK=>?_);dsimp only [bare];go_simp;obtain ⟨w8,hw8⟩:∃ z,z=(w7.alloc (.cells #[.int .i64 x.term,.int .i64 x.members,.string x.data] 73)).drew:=⟨_,rfl⟩;have bE:Below w7.heap.size w7 w8:=by rw [hw8];exact (below_alloc w7 _).drew
     have lit:OwnR etyE w8 0 73 (.slice (some ⟨w7.heap.size,0,none⟩) 1 1) [x]:=by rw [hw8];exact (OwnR.litAt etyE w7 #[.int .i64 x.term,.int .i64 x.members,.string x.data] 73 [x] 1 0 w7.heap.size rfl rfl rfl (by unfold maxLen;omega) (Nat.zero_le _)).drew
     rw [←hw8];clear hw8;have h8:=h7.ext bE;have k8:=k7.ext bE;refine hK _ _ ⟨by have:=h8.c6;rw [hm] at this;exact this,k8.cell 0 _ rfl,k8.cell 1 _ rfl,k8.cell 2 _ rfl⟩ (fun hHeld=>?_);clear hK K
     try simp only [lyB,lyP,lyA,lyZ,lyS]
     refine wpAnyF_one 8 _ _ _ rfl (by kernel_rfl) (fun K hK=>?_);refine step_appRW (E:=etyE) (s:=.tmp 68) (y:=.tmp 70) (B:=B) (l:=s.h.log) (m:=[x]) tEty rfl rfl h8.log (by simp [Act.eval,Act.put,hm]) lit.rd (by simp [Act.eval,Act.put]) (by simp;omega) (by have:=h8.lt;omega) ?_;intro v9 w9 own9 g9 b9 at9;have k9:=h8.blk.grown g9 h8.off;have s9:=h8.grow g9 b9 own9 at9 (by rw [hm];omega);have x9:w9.cell? ⟨w.heap.size,0,none⟩=some (.int .i64 x.term)∧w9.cell? ⟨w.heap.size,1,none⟩=some (.int .i64 x.members)∧w9.cell? ⟨w.heap.size,2,none⟩=some (.string x.data):=by
      have hk:=k8.grown g9 (fun e=>absurd (hvN.out _ e) (Nat.lt_irrefl _));exact ⟨hk.cell 0 _ rfl,hk.cell 1 _ rfl,hk.cell 2 _ rfl⟩
     refine hK _ _ ⟨by have:=k9.cell 6 _ rfl;rw [hm] at this;exact this,x9.1,x9.2.1,x9.2.2⟩ (fun hHeld=>?_);clear hK K
     try simp only [lyB,lyP,lyA,lyZ,lyS]
     refine tk ?_ 9 ?_ hHeld ?_;rotate_left
     ·rintro w ⟨_,_,_,_⟩;dsimp only [bare];go_simp<;>with_reducible rfl
     try simp only [lyB,lyP,lyA,lyZ,lyS]
     refine tk ?_ 10 ?_ hHeld ?_;rotate_left
     ·rintro w ⟨_,_,_,_⟩;dsimp only [bare];go_simp<;>with_reducible rfl
     try simp only [lyB,lyP,lyA,lyZ,lyS]
     refine tk ?_ 11 ?_ hHeld ?_;rotate_left
     ·rintro w ⟨_,_,_,_⟩;dsimp only [bare];go_simp<;>with_reducible rfl
     try simp only [lyB,lyP,lyA,lyZ,lyS]
     have f9:=k9.frozen 6;have y9:=k9.cell 6 _ rfl;have S9:=Lib.hid (And.intro s9.1 (b7.trans ((bE.mono (by have:=h7.lt;omega)).trans s9.2)));obtain ⟨p9,q9,hv9⟩:=own9.rd.shape;generalize (s.h.log++[x]).length=n9 at hv9;subst hv9;clear s9 own9 at9 g9 k9 h8 k8 lit hHeld x9;refine wpAnyF_end (none) (Op.store 22 (Operand.tmp 74) (Operand.tmp 71)) 0 rfl (by kernel_rfl) (by kernel_rfl) (fun K hK=>?_);dsimp only [bare];go_simp;refine hK _ _ ?_;clear hK K
     try simp only [lyB,lyP,lyA,lyZ,lyS]
     go_wp2_with fail
     go_ret
     exact ⟨rfl,⟨_,S9.out.1⟩,S9.out.2⟩
   ·have e:grownS s x=none:=Hd.out.trans (if_neg (fun h=>q2 h.2.1));rw [e];have qi2:decide ((1099511627776:Int)≤s.h.base+((m:Int)+1))=true:=decide_eq_true (by omega);clear e;have qi1:decide ((200:Int)≤((m:Int)+1))=false:=decide_eq_false (by omega);go_enter Tryz.func130,Tryz.ntmps130
    go_wp2_with fail
    generalize w.alloc (.cells #[.int .i64 x.term,.int .i64 x.members,.string x.data] 73)=W at *;refine wp_region_after (by kernel_rfl) (by kernel_rfl) ?_
    repeat (go_big_quiet_step (exact hcl _))
    refine wpQuiet_nil ?_;rintro w7 ⟨⟨w8,c7⟩,hw⟩;obtain rfl:w7=w8:=hw;obtain ⟨h7,k7,b7⟩:=Hend.out w7 c7;clear hcl z0 z2 z6 zx0 zx1 zx2;go_wp2_with fail
    go_ret
    exact ⟨rfl,⟨_,h7⟩,b7⟩
  ·have e:grownS s x=none:=Hd.out.trans (if_neg (fun h=>q1 h.1));rw [e];have qi1:decide ((200:Int)≤((m:Int)+1))=true:=decide_eq_true (by omega);clear e;go_enter Tryz.func130,Tryz.ntmps130
   go_wp2_with fail
   generalize w.alloc (.cells #[.int .i64 x.term,.int .i64 x.members,.string x.data] 73)=W at *;refine wp_region_after (by kernel_rfl) (by kernel_rfl) ?_
   repeat (go_big_quiet_step (exact hcl _))
   refine wpQuiet_nil ?_;rintro w7 ⟨⟨w8,c7⟩,hw⟩;obtain rfl:w7=w8:=hw;obtain ⟨h7,k7,b7⟩:=Hend.out w7 c7;clear hcl z0 z2 z6 zx0 zx1 zx2;go_wp2_with fail
   go_ret
   exact ⟨rfl,⟨_,h7⟩,b7⟩
end
section
open Go Go.RowKit Go.PlainAid
structure TkW (w0 w:World) (B g gr:Nat) (v vr:Value) (s:Sg) (r:Rdr):Prop where
 seg:SegV w B g v s
 rdr:RdrAt w gr vr r
 low:B≤gr
 ng:g≠gr
 nv:v.ownBlock≠some gr
 bel:Below B w0 w
 start:B≤w0.heap.size
section
variable {w0 w w':World} {B g gr:Nat} {v vr:Value} {s:Sg} {r:Rdr}
theorem TkW.ext (h:TkW w0 w B g gr v vr s r) (hb:Below w.heap.size w w'):TkW w0 w' B g gr v vr s r :=
 ⟨h.seg.ext hb,h.rdr.ext hb,h.low,h.ng,h.nv,h.bel.trans (hb.mono (Nat.le_trans h.start h.bel.size)),h.start⟩
theorem TkW.read (h:TkW w0 w B g gr v vr s r) {r':Rdr} (hr:RdrAt w' gr vr r') (hc:Chg (fun k=>k=gr) w w'):TkW w0 w' B g gr v vr s r' :=
 ⟨h.seg.chg hc h.ng (fun k hk e=>h.nv (by rw [hk,e])),hr,h.low,h.ng,h.nv,h.bel.trans (hc.below (fun k hk=>by rw [hk];exact h.low) (Nat.le_trans h.start h.bel.size)),h.start⟩
theorem TkW.num (h:TkW w0 w B g gr v vr s r) :
 Calls Tryz.prog 109 #[.pointer (some ⟨gr,0,none⟩)] w fun x w'=>x=.returned (.int .i64 (rNum r).1)∧TkW w0 w' B g gr v vr s (rNum r).2∧Chg (fun k=>k=gr) w w' :=
 (rdrNum gr vr r w h.rdr).mono fun _ _ ⟨h1,h2,h3⟩=>⟨h1,h.read h2 h3,h3⟩
theorem TkW.text (h:TkW w0 w B g gr v vr s r) (most:Int) :
 Calls Tryz.prog 110 #[.pointer (some ⟨gr,0,none⟩),.int .i64 most] w fun x w'=>x=.returned (.string ⟨(rText most r).1.toArray⟩)∧TkW w0 w' B g gr v vr s (rText most r).2∧Chg (fun k=>k=gr) w w' :=
 (rdrText gr vr r most w h.rdr).mono fun _ _ ⟨h1,h2,h3⟩=>⟨h1,h.read h2 h3,h3⟩
theorem TkW.fin (h:TkW w0 w B g gr v vr s r) :
 Calls Tryz.prog 111 #[.pointer (some ⟨gr,0,none⟩)] w fun x w'=>x=.returned (.int .i64 (rEnd r).1)∧TkW w0 w' B g gr v vr s (rEnd r).2∧Chg (fun k=>k=gr) w w' :=
 (rdrEnd gr vr r w h.rdr).mono fun _ _ ⟨h1,h2,h3⟩=>⟨h1,h.read h2 h3,h3⟩
end
structure TkH (w0 w:World) (B g gr:Nat) (v vr:Value) (s:Sg) (r:Rdr) (H:Nat) (cs:Array Value) (t:TypeId):Prop where
 tk:TkW w0 w B g gr v vr s r
 blk:Blk w H cs t
 lowH:B≤H
 nH:g≠H∧gr≠H∧v.ownBlock≠some H∧vr.ownBlock≠some H
section
variable {w0 w w':World} {B g gr H:Nat} {v vr:Value} {s:Sg} {r:Rdr} {cs:Array Value} {t:TypeId}
theorem TkW.alloc (h:TkW w0 w B g gr v vr s r) (hvr:∀ k,vr.ownBlock=some k→k<w.heap.size) (cs:Array Value) (t:TypeId):TkH w0 (w.alloc (.cells cs t)) B g gr v vr s r w.heap.size cs t:=by
 have h1:=h.seg.blk.lt;have h2:=h.rdr.blk.lt;exact ⟨h.ext (below_alloc _ _),Blk.new _ _ _,Nat.le_trans h.start h.bel.size,by omega,by omega,fun e=>by have:=(h.seg.log.lt _ e).2;omega,fun e=>by have:=hvr _ e;omega⟩
theorem TkH.read (h:TkH w0 w B g gr v vr s r H cs t) {r':Rdr} (hr:TkW w0 w' B g gr v vr s r') (hc:Chg (fun k=>k=gr) w w'):TkH w0 w' B g gr v vr s r' H cs t :=
 ⟨hr,hc.blk h.blk (fun e=>h.nH.2.1 e.symm),h.lowH,h.nH⟩
theorem TkH.num (h:TkH w0 w B g gr v vr s r H cs t) :
 Calls Tryz.prog 109 #[.pointer (some ⟨gr,0,none⟩)] w fun x w'=>x=.returned (.int .i64 (rNum r).1)∧TkH w0 w' B g gr v vr s (rNum r).2 H cs t:=h.tk.num.mono fun _ _ ⟨h1,h2,h3⟩=>⟨h1,h.read h2 h3⟩
theorem TkH.text (h:TkH w0 w B g gr v vr s r H cs t) (most:Int) :
 Calls Tryz.prog 110 #[.pointer (some ⟨gr,0,none⟩),.int .i64 most] w fun x w'=>x=.returned (.string ⟨(rText most r).1.toArray⟩)∧TkH w0 w' B g gr v vr s (rText most r).2 H cs t:=(h.tk.text most).mono fun _ _ ⟨h1,h2,h3⟩=>⟨h1,h.read h2 h3⟩
theorem TkH.fin (h:TkH w0 w B g gr v vr s r H cs t) :
 Calls Tryz.prog 111 #[.pointer (some ⟨gr,0,none⟩)] w fun x w'=>x=.returned (.int .i64 (rEnd r).1)∧TkH w0 w' B g gr v vr s (rEnd r).2 H cs t:=h.tk.fin.mono fun _ _ ⟨h1,h2,h3⟩=>⟨h1,h.read h2 h3⟩
theorem TkH.set (h:TkH w0 w B g gr v vr s r H cs t) (i:Nat) (u:Value):TkH w0 (w.setCell ⟨H,i,none⟩ u) B g gr v vr s r H (cs.setIfInBounds i u) t:=by
 have hc:=chg_cell H i u w;obtain ⟨n1,n2,n3,n4⟩:=h.nH;exact ⟨⟨h.tk.seg.chg hc n1 (fun k hk e=>n3 (by rw [hk,e])),h.tk.rdr.chg hc n2 (fun k hk e=>n4 (by rw [hk,e])),h.tk.low,h.tk.ng,h.tk.nv,h.tk.bel.setCell (p:=⟨H,i,none⟩) h.lowH u,h.tk.start⟩,h.blk.set i u,h.lowH,h.nH⟩
end
theorem rNum_in (r:Rdr):In64 (rNum r).1:=rNum_fits r
theorem takeS_none {s:Sg} {p:List UInt8} (h:parseR p=none):takeS s p=none:=by unfold takeS;rw [h];rfl
theorem takeS_some {s:Sg} {p:List UInt8} {x:Rec} (h:parseR p=some x):takeS s p=stepS s x:=by unfold takeS;rw [h];rfl
theorem parse_kind {p:List UInt8} (h:(rNum (rd0 p)).2.err≠0):(rNum (rd0 p)).1=0:=by
 have:∀ r:Rdr,(rNum r).2.err≠0→(rNum r).1=0:=fun r h=>by
  unfold rNum at *
  split at h
  ·split at h
   ·exact absurd rfl h
   ·split<;>rfl
  ·split<;>first | rfl | contradiction
 exact this _ h
end
end Go.Proofs.YtgpgcnmnfnnkjaaGreatDoor
