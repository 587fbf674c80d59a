import Derived.Test.YtgpgcnmnfnnkjaaGreatDoorGStorePlays1
import Derived.Lib.AppendZeros
import Derived.Lib.Overlaps
import Derived.Laws.Externs
import Derived.Deep.RegionLaw
set_option linter.unusedVariables false
set_option linter.unusedSimpArgs false
set_option maxRecDepth 100000
set_option maxHeartbeats 16000000
namespace Go.Proofs.YtgpgcnmnfnnkjaaGreatDoor
section
open Go Go.RowKit

section
variable {P:Program} {t e:TypeId} {sz bytes:Nat}
theorem run_copyK (T:SlT P t e sz bytes) (w:World) (t' ty:TypeId) (g o dLen dCap:Nat) (a:Addr) (sLen sCap:Nat) (cur:Array Value) (te:TypeId) (cs:List Value)
 (hg:w.heap[g]?=some (.cells cur te (0,0))) (hn:cs.length=Nat.min sLen dLen * sz)
 (hsrc:∀ j v,cs[j]?=some v→w.cell? (a.add j)=some v) (hfit:o+cs.length≤cur.size) (h1:∀ v ∈ cs,v.oneCell'=true) :
 (Builtin.copy_ #[t,t'] ty #[.slice (some ⟨g,o,none⟩) dLen dCap,.slice (some a) sLen sCap]).run P w =
  .ok (goInt (Nat.min sLen dLen)) (w.setRow g (splice cur.toList o cs).toArray):=by
 obtain ⟨i,z,hi,hz,hs,hby,hzs⟩:=T.info;have hl:=run_loadCells_list (P:=P) w a cs hsrc;have hst:=run_storeCells_at P g o te cs 0 cur w hg (by simpa using hfit) h1;simp [Builtin.copy_,run_underlying T.under,Builtin.lenOf,Builtin.firstCells,sizeOf,typeInfo,hi,hs, ←hn,hl,hst,splice]

theorem wpList_copyK {ops:Array Oper} {rest:List Oper} {o:Oper} {a:Act} {w:World} {Q:Exit→Act→World→Prop} (T:SlT P t e sz bytes) (hgd:o.guard=none) {d s:Operand} {t':TypeId}
 (ho:o.op=.call { callee:=.builtin .copy,args:=#[d,s],argTypes:=#[t,t'] }) (g off dLen dCap:Nat) (ad:Addr) (sLen sCap:Nat) (hd:a.eval d=.slice (some ⟨g,off,none⟩) dLen dCap) (hs:a.eval s=.slice (some ad) sLen sCap)
 (cur:Array Value) (te:TypeId) (hg:w.heap[g]?=some (.cells cur te (0,0))) (cs:List Value) (hn:cs.length=Nat.min sLen dLen * sz)
 (hsrc:∀ j v,cs[j]?=some v→w.cell? (ad.add j)=some v) (hfit:off+cs.length≤cur.size) (h1:∀ v ∈ cs,v.oneCell'=true)
 (h:wpList P ops Q rest (a.put o.dst (goInt (Nat.min sLen dLen))) (w.setRow g (splice cur.toList off cs).toArray)):wpList P ops Q (o::rest) a w:=by
 refine wpList_plain hgd fun K hK=>?_;have hrun:=run_copyK (P:=P) T w t' o.type g off dLen dCap ad sLen sCap cur te cs hg hn hsrc hfit h1;unfold Oper.wp;simp [execOp,ho,resolve,invoke,builtin,hd,hs,hrun,Result.andThen]
 exact hK _ _ h

theorem step_copyK {ops:Array Oper} {o:Oper} {a:Act} {w:World} {K:Act→World→Prop} {Q:Exit→Act→World→Prop} {E:Prop} (T:SlT P t e sz bytes) (hgd:o.guard=none) {d s:Operand} {t':TypeId}
 (ho:o.op=.call { callee:=.builtin .copy,args:=#[d,s],argTypes:=#[t,t'] }) (g off dLen dCap:Nat) (ad:Addr) (sLen sCap:Nat) (hd:a.eval d=.slice (some ⟨g,off,none⟩) dLen dCap) (hs:a.eval s=.slice (some ad) sLen sCap)
 (cur:Array Value) (te:TypeId) (hg:w.heap[g]?=some (.cells cur te (0,0))) (cs:List Value) (hn:cs.length=Nat.min sLen dLen * sz)
 (hsrc:∀ j v,cs[j]?=some v→w.cell? (ad.add j)=some v) (hfit:off+cs.length≤cur.size) (h1:∀ v ∈ cs,v.oneCell'=true)
 (h:K (a.put o.dst (goInt (Nat.min sLen dLen))) (w.setRow g (splice cur.toList off cs).toArray)):if Region.wanted o (yielded ops a.tmps)=true then Oper.wp P o a w K Q else E:=by
 have hw:Region.wanted o (yielded ops a.tmps)=true:=by simp [Region.wanted,hgd]
 rw [if_pos hw];have hrun:=run_copyK (P:=P) T w t' o.type g off dLen dCap ad sLen sCap cur te cs hg hn hsrc hfit h1;unfold Oper.wp;simp [execOp,ho,resolve,invoke,builtin,hd,hs,hrun,Result.andThen]
 exact h

theorem run_appMk (T:SlT P t e sz bytes) {tn:TypeId} {kn:IntKind} (htn:P.underlying tn=some (.int kn)) (w:World) (ty:TypeId) (b:Addr) (sLen sCap n:Nat) (k:IntKind) (olds:List Value) (hlo:olds.length=sLen * sz)
 (holds:∀ j v,olds[j]?=some v→w.cell? (b.add j)=some v) (hroom:sCap<sLen+n) (hn:0<n) (hbytes:(sLen+n) * bytes≤140737488355328) :
 ∃ cap zs,(Builtin.append_ #[t,tn] ty #[.slice (some b) sLen sCap,.int k (n:Int)]).run P w =
  .ok (.slice (some ⟨w.heap.size,0,none⟩) (sLen+n) cap) (w.drew.alloc (.cells (olds++zs).toArray e))∧sLen+n≤cap∧cap≤maxLen∧zs.length=(cap - sLen) * sz:=by
 have hmax:=T.max hbytes;obtain ⟨i,z,hi,hz,hs,hby,hzs⟩:=T.info;subst hs;subst hby;have hge:=grownCap_ge w (sLen+n) sCap e;have hle:=grownCap_le_maxLen w (sLen+n) sCap e hmax;have hno:¬ (sLen+n≤sCap):=by omega
 have hn0:n≠0:=by omega
 have hn48:(n:Int) * (i.bytes:Int)≤281474976710656:=by
  have h1:n * i.bytes≤(sLen+n) * i.bytes:=Nat.mul_le_mul_right _ (by omega);rw [←Int.natCast_mul];omega
 have h48i:¬ (281474976710656<(n:Int) * (i.bytes:Int)):=by omega
 have hw:IntKind.i64.wrap (n:Int)=n:=by unfold maxLen at hmax;rw [IntKind.wrap_i64];omega
 have hneg:¬ ((n:Int)<0):=by omega
 have h63':¬ (9223372036854775807<((sLen:Int)+(n:Int))):=by unfold maxLen at hmax;omega
 have h48':¬ (281474976710656<Builtin.nextslicecap (sLen+n) sCap * i.bytes):=by have:=growslice_fits (old:=sCap) (by omega) hbytes;omega
 have hns:¬ (n * i.size=0):=Nat.mul_ne_zero hn0 (by have:=T.pos;omega);have hfo:=run_firstCells_some (P:=P) w.drew i.size sLen b sLen sCap olds hlo (by simpa using holds);refine ⟨grownCap w (sLen+n) sCap e,(Builtin.zeroCells z.cells n).toList++(Builtin.zeroCells z.cells (grownCap w (sLen+n) sCap e - (sLen+n))).toList,?_,hge,hle,?_⟩
 ·simp [Builtin.append_,run_underlying T.under,run_underlying htn,sizeOf,typeInfo,zeroValue,hi,hz,asInt,asIntOf,hw,hn0,hneg,hns,hno,h63',h48',h48i,Question.forced,hfo,newRow,grownCap]
  congr 2
  apply Array.ext'
  simp
 ·rw [List.length_append,Array.length_toList,Array.length_toList,size_zeroCells,size_zeroCells,hzs, ←Nat.add_mul]
  congr 1;omega
end

theorem splice_splice {L cs es:List Value} {a b:Nat} (hab:a+es.length=b) (hb:b≤L.length):splice (splice L b cs) a es=L.take a++(es++(cs++L.drop (b+cs.length))):=by
 have h1:(splice L b cs).take a=L.take a:=by
  unfold splice;rw [List.take_append_of_le_length (by simp;omega),List.take_take];congr 1;omega
 have h2:(splice L b cs).drop b=cs++L.drop (b+cs.length):=by
  unfold splice;rw [List.drop_append_of_le_length (by simp;omega),List.drop_of_length_le (by simp;omega),List.nil_append]
 conv=>lhs;unfold splice
 have h3:List.take a (List.take b L++(cs++List.drop (b+cs.length) L))=L.take a:=h1;have h4:List.drop (a+es.length) (List.take b L++(cs++List.drop (b+cs.length) L))=cs++L.drop (b+cs.length):=by rw [hab];exact h2
 rw [h3,h4]
theorem splice_splice' {L cs es:List Value} {a b:Nat} (hab:a+es.length=b) (hb:b≤L.length):splice (splice L a es) b cs=L.take a++(es++(cs++L.drop (b+cs.length))):=by
 have h1:(splice L a es).take b=L.take a++es:=by
  unfold splice;rw [←List.append_assoc,List.take_append_of_le_length (by simp;omega),List.take_of_length_le (by simp;omega)]
 have h2:(splice L a es).drop (b+cs.length)=L.drop (b+cs.length):=by
  unfold splice;rw [←List.append_assoc,List.drop_append,List.drop_of_length_le (by simp;omega),List.nil_append,List.drop_drop]
  congr 1;simp;omega
 have h3:splice (splice L a es) b cs=(splice L a es).take b++(cs++(splice L a es).drop (b+cs.length)):=rfl;rw [h3,h1,h2,List.append_assoc]
end
section
open Go Go.RowKit

theorem run_sl_from {P:Program} {t e:TypeId} {sz bytes:Nat} (T:SlT P t e sz bytes) (g n cap:Nat) (k:IntKind) (I:Int) (i:Nat) (hI:I=(i:Int)) (hi:i≤n) (hc:n≤cap) (hic:i<cap) (w:World) :
 (Instr.slice t (.slice (some ⟨g,0,none⟩) n cap) (some (.int k I)) none none).run P w=.ok (.slice (some ⟨g,i * sz,none⟩) (n - i) (cap - i)) w:=by
 subst hI;obtain ⟨j,z,hj,hz,hs,hby,hzs⟩:=T.info;have hne:¬ cap=i:=by omega
 simp [Instr.slice,run_underlying T.under,Instr.sliceBounds,Instr.sliceBound,asIntOf,hi,hne,sizeOf,typeInfo,hj,hs,Addr.add]
 exact fun h=>h.symm
theorem run_sl_to {P:Program} {t e:TypeId} {sz bytes:Nat} (T:SlT P t e sz bytes) (g n cap:Nat) (k:IntKind) (J:Int) (j:Nat) (hJ:J=(j:Int)) (hj:j≤cap) (hp:0<cap) (w:World) :
 (Instr.slice t (.slice (some ⟨g,0,none⟩) n cap) none (some (.int k J)) none).run P w=.ok (.slice (some ⟨g,0,none⟩) j cap) w:=by
 subst hJ;obtain ⟨i,z,hi,hz,hs,hby,hzs⟩:=T.info;simp [Instr.slice,run_underlying T.under,Instr.sliceBounds,Instr.sliceBound,asIntOf,hj,sizeOf,typeInfo,hi,hs,Addr.add]

theorem run_size {P:Program} {t e:TypeId} {sz bytes:Nat} (T:SlT P t e sz bytes) (w:World):(Go.sizeOf e).run P w=.ok sz w:=by
 obtain ⟨i,z,hi,hz,hs,hby,hzs⟩:=T.info;simp [sizeOf,typeInfo,hi,hs]
theorem ins_take {α:Type} (E:Enc α) (cur:List Value) (l:List α) (k:Nat) (hk:k≤l.length) (htake:cur.take (l.length * E.sz)=E.all l):cur.take (k * E.sz)=E.all (l.take k):=by
 rw [←E.all_take, ←htake,List.take_take];congr 1;have:k * E.sz≤l.length * E.sz:=Nat.mul_le_mul_right _ hk;omega
theorem ins_cells {α:Type} (E:Enc α) (cur:List Value) (l:List α) (x : α) (k:Nat) (hk:k≤l.length) (h1:cur.take (k * E.sz)=E.all (l.take k)) :
 (cur.take (k * E.sz)++(E.enc x++(E.all (l.drop k)++cur.drop ((l.length+1) * E.sz)))).take ((l.length+1) * E.sz)=E.all (l.take k++x::l.drop k):=by
 have hlen:(E.all (l.take k++x::l.drop k)).length=(l.length+1) * E.sz:=by
  rw [E.all_length];congr 1;simp;omega
 rw [h1, ←List.append_assoc, ←List.append_assoc, ←hlen];rw [show E.all (l.take k)++E.enc x++E.all (l.drop k)=E.all (l.take k++x::l.drop k) from by rw [E.all_append,E.all_cons,List.append_assoc]];rw [List.take_append_of_le_length (Nat.le_refl _),List.take_of_length_le (Nat.le_refl _)]

theorem grown_setRow (w:World) (g:Nat) (cs:Array Value):w.grownBy (w.setRow g cs) (some g):=⟨rfl,rfl,rfl,by simp [World.setRow],fun k _ hk=>setRow_other w g k cs (fun e=>hk (by rw [e]))⟩

end
end Go.Proofs.YtgpgcnmnfnnkjaaGreatDoor
