import Derived.WalkKit
import Derived.LoopTactic
import Derived.Outline
import Derived.Lib.Hide
import Derived.Laws.AppendOwn
import Derived.Laws.OwnMore
import Derived.OwnWalk
import Derived.Below
import Derived.Deep.Draws
import Derived.Laws.CopyOwn
import Derived.Laws.BytesArg
import Derived.KernelRfl
import Derived.Test.YtgpgcnmnfnnkjaaGreatDoorRows
import Derived.ProofKit
import Derived.OpenShut
import Derived.ShutString
import Derived.ChangeOld
import Derived.SizedLaws
import Derived.JoinedCond
import Derived.Deep.CondSized
import Derived.ChangeMaps5
import Derived.BigQuiet
set_option linter.unusedVariables false
set_option linter.unusedSimpArgs false
set_option maxRecDepth 100000
set_option maxHeartbeats 16000000
namespace Go.Proofs.YtgpgcnmnfnnkjaaGreatDoor
section
open Go Go.RowKit

theorem ret_int {k:IntKind} {a b:Int} (h:a=b):Ending.returned (.int k a)=.returned (.int k b):=by rw [h]
theorem ret_bool {a b:Bool} (h:a=b):Ending.returned (.bool a)=.returned (.bool b):=by rw [h]

def Cells (w:World) (sz:Nat) (v:Value) (n:Nat) (cs:List Value):Prop :=
 cs.length=n * sz∧(∀ u ∈ cs,u.oneCell'=true)∧∃ p cap,v=.slice p n cap∧n≤cap∧cap≤maxLen∧(p=none→cap=0) ∧
  ∀ a,p=some a→0<n→a.spot=none∧∀ i u,cs[i]?=some u→w.cell? ⟨a.block,a.off+i,none⟩=some u

def Own (w:World) (B:Nat) (e:TypeId) (sz:Nat) (v:Value) (n:Nat) (xs:List Value):Prop :=
 w.ownsRow B e sz v n xs∧∀ u ∈ xs,u.oneCell'=true

structure SlT (P:Program) (t e:TypeId) (sz bytes:Nat):Prop where
 under:P.underlying t=some (.slice e)
 info:∃ i z,P.info? e=some i∧i.zero=some z∧i.size=sz∧i.bytes=bytes∧z.cells.size=sz
 pos:0<sz
 posb:0<bytes

theorem SlT.mk' {P:Program} {t e:TypeId} {sz bytes:Nat} {z:Value} (h1:P.underlying t=some (.slice e))
 (h2:(P.info? e).map (fun i=>(i.zero,i.size,i.bytes))=some (some z,sz,bytes)) (h3:z.cells.size=sz) (h4:0<sz) (h5:0<bytes):SlT P t e sz bytes:=by
 obtain ⟨i,a,b,c,d⟩:=info_parts h2;exact ⟨h1,⟨i,z,a,b,c,d,h3⟩,h4,h5⟩

theorem addr_eta {a:Addr} (h:a.spot=none):a=⟨a.block,a.off,none⟩:=by cases a;simp at h;simp [h]
theorem addr_add (a:Addr) (h:a.spot=none) (j:Nat):a.add j=⟨a.block,a.off+j,none⟩:=by
 cases a;simp at h;subst h;unfold Addr.add;split<;>simp_all

section
variable {w w':World} {B sz n:Nat} {v:Value} {cs:List Value} {e:TypeId}

theorem Cells.nil (w:World) (sz:Nat):Cells w sz (.slice none 0 0) 0 [] :=
 ⟨by simp,by simp,none,0,rfl,Nat.le_refl _,Nat.zero_le _,fun _=>rfl,fun _ h _=>by cases h⟩

theorem Cells.len (h:Cells w sz v n cs):cs.length=n * sz:=h.1
theorem Cells.le (h:Cells w sz v n cs):n≤maxLen:=by obtain ⟨_,_,p,cap,_,h1,h2,_⟩:=h;omega

theorem Cells.form (h:Cells w sz v n cs):∃ p cap,v=.slice p n cap∧n≤cap∧cap≤maxLen∧(p=none→cap=0) ∧
 (0<n→∃ b off,p=some ⟨b,off,none⟩∧∀ i u,cs[i]?=some u→w.cell? ⟨b,off+i,none⟩=some u):=by
 obtain ⟨h1,_,p,cap,rfl,h2,h3,h4,h5⟩:=h;refine ⟨p,cap,rfl,h2,h3,h4,fun hc=>?_⟩
 cases p with
 | none=>have:=h4 rfl;omega
 | some a =>
  obtain ⟨h6,h7⟩:=h5 a rfl hc;exact ⟨a.block,a.off,by rw [←addr_eta h6],h7⟩

theorem Cells.pos (h:Cells w sz v n cs) {i:Nat} {u:Value} (hu:cs[i]?=some u):0<n:=by
 have h1:=h.1;have:=(List.getElem?_eq_some_iff.1 hu).1
 rcases Nat.eq_zero_or_pos n with h0 | h0
 ·subst h0;omega
 ·exact h0
theorem Cells.lt (h:Cells w sz v n cs) (hp:0<cs.length):∀ k,v.ownBlock=some k→k<w.heap.size:=by
 have hn:=h.pos (List.getElem?_eq_getElem hp);obtain ⟨h1,_,p,cap,rfl,h2,h3,h4,h5⟩:=h;intro k hk
 cases p with
 | none=>simp [Value.ownBlock] at hk
 | some a =>
  simp [Value.ownBlock] at hk;subst hk
  exact World.block_lt_of_cell? w ⟨a.block,a.off+0,none⟩ ((h5 a rfl hn).2 0 cs[0] (List.getElem?_eq_getElem hp))

theorem Cells.below (h:Cells w sz v n cs) (hb:Below B w w') (hB:∀ k,v.ownBlock=some k→k<B):Cells w' sz v n cs:=by
 obtain ⟨h1,h0,p,cap,rfl,h2,h3,h4,h5⟩:=h;refine ⟨h1,h0,p,cap,rfl,h2,h3,h4,fun a ha hn=>⟨(h5 a ha hn).1,fun i u hu=>?_⟩⟩;subst ha;have:=hb.cell (p:=⟨a.block,a.off+i,none⟩) (hB a.block rfl);rw [this];exact (h5 a rfl hn).2 i u hu

theorem Cells.ext (h:Cells w sz v n cs) (hb:Below w.heap.size w w'):Cells w' sz v n cs:=by
 rcases Nat.eq_zero_or_pos cs.length with hz | hp
 ·obtain ⟨h1,h0,p,cap,rfl,h2,h3,h4,h5⟩:=h;have:cs=[]:=List.length_eq_zero_iff.1 hz;subst this;exact ⟨h1,h0,p,cap,rfl,h2,h3,h4,fun a ha hn=>⟨(h5 a ha hn).1,fun i u hu=>by simp at hu⟩⟩
 ·exact h.below hb (h.lt hp)

theorem Cells.grown {row:Option Nat} (h:Cells w sz v n cs) (hg:w.grownBy w' row) (hne:v.ownBlock=none∨v.ownBlock≠row):Cells w' sz v n cs:=by
 obtain ⟨h1,h0,p,cap,rfl,h2,h3,h4,h5⟩:=h;refine ⟨h1,h0,p,cap,rfl,h2,h3,h4,fun a ha hn=>⟨(h5 a ha hn).1,fun i u hu=>?_⟩⟩;subst ha;exact hg.cell (a:=⟨a.block,a.off+i,none⟩) ((h5 a rfl hn).2 i u hu) (by simpa [Value.ownBlock] using hne)

theorem below_drawn (B:Nat) (w:World) (k:Nat):Below B w (w.drewN k):=⟨rfl,rfl,rfl,Nat.le_refl _,fun _ _=>rfl⟩
theorem Own.drew {xs:List Value} (h:Own w B e sz v n xs):Own w.drew B e sz v n xs:=h

theorem Own.nil (w:World) (B:Nat) (e:TypeId) (sz:Nat):Own w B e sz (.slice none 0 0) 0 []:=⟨World.ownsRow_nil w B e sz,by simp⟩

theorem Own.cells {xs:List Value} (h:Own w B e sz v n xs):Cells w sz v n xs:=by
 obtain ⟨⟨h1,h2⟩,h0⟩:=h;refine ⟨h1,h0,?_⟩
 rcases h2 with ⟨rfl,rfl⟩ | ⟨g,cap,cur,rfl,hb,hg,hn,hm,hs,ht⟩
 ·exact ⟨none,0,rfl,Nat.le_refl _,Nat.zero_le _,fun _=>rfl,fun _ h _=>by cases h⟩
 ·refine ⟨_,cap,rfl,hn,hm,fun h=>(by cases h),fun a ha _=>?_⟩
  cases ha
  refine ⟨rfl,fun i u hu=>?_⟩;subst ht;have hi:i<n * sz:=by
   have:=(List.getElem?_eq_some_iff.1 hu).1;rw [List.length_take] at this;omega
  rw [List.getElem?_take,if_pos hi] at hu;simp only [World.cell?,hg,Nat.zero_add]
  simpa using hu

theorem Own.len {xs:List Value} (h:Own w B e sz v n xs):xs.length=n * sz:=h.1.1
theorem Own.lt {xs:List Value} (h:Own w B e sz v n xs):∀ k,v.ownBlock=some k→B≤k∧k<w.heap.size:=h.1.lt
theorem Own.grown {xs:List Value} {row:Option Nat} (h:Own w B e sz v n xs) (hg:w.grownBy w' row) (hne:v.ownBlock=none∨v.ownBlock≠row):Own w' B e sz v n xs:=⟨h.1.kept hg hne,h.2⟩

theorem grown_of_below (hb:Below w.heap.size w w'):w.grownBy w' none:=⟨hb.os,hb.tape,hb.output,hb.size,fun k hk _=>hb.block k hk⟩

theorem Own.ext {xs:List Value} (h:Own w B e sz v n xs) (hb:Below w.heap.size w w'):Own w' B e sz v n xs :=
 h.grown (grown_of_below hb) (by cases hq:v.ownBlock<;>simp)

theorem Own.base {xs:List Value} {B':Nat} (h:Own w B e sz v n xs) (hB:B'≤B):Own w B' e sz v n xs:=by
 obtain ⟨⟨h1,h2⟩,h0⟩:=h;refine ⟨⟨h1,?_⟩,h0⟩
 rcases h2 with h2 | ⟨g,cap,cur,hv,hb,r⟩
 ·exact .inl h2
 ·exact .inr ⟨g,cap,cur,hv,Nat.le_trans hB hb,r⟩

theorem below_grown {row:Option Nat} (hg:w.grownBy w' row) (hB:B≤w.heap.size) (hr:∀ k,row=some k→B≤k):Below B w w':=(Below.refl B w).grown hg hB hr

end

theorem SlT.max {P:Program} {t e:TypeId} {sz bytes:Nat} (T:SlT P t e sz bytes) {k:Nat} (h:k * bytes≤140737488355328):k≤maxLen:=by
 have h5:=T.posb;have:k * 1≤k * bytes:=Nat.mul_le_mul_left k h5;unfold maxLen;omega

theorem run_app {P:Program} {t e:TypeId} {sz bytes:Nat} (T:SlT P t e sz bytes) {w:World} (ty:TypeId) {B n:Nat} {v:Value} {xs:List Value} (own:Own w B e sz v n xs)
 {m:Nat} {x:Value} {news:List Value} (src:Cells w sz x m news) (hbytes:(n+m) * bytes≤140737488355328) (hB:B≤w.heap.size) :
 ∃ v' w',(Builtin.append_ #[t,t] ty #[v,x]).run P w=.ok v' w'∧Own w' B e sz v' (n+m) (xs++news)∧w.grownBy w' v.ownBlock∧Below B w w':=by
 have hmax:=T.max hbytes;obtain ⟨i,z,hi,hz,hs,hby,hzs⟩:=T.info;obtain ⟨c1,c0,p,cap,rfl,c2,c3,c4,c5⟩:=src;have hall:∀ u ∈ xs++news,u.oneCell'=true:=by
  intro u hu;rcases List.mem_append.1 hu with h | h
  ·exact own.2 u h
  ·exact c0 u h
 cases p with
 | none =>
  have hc:=c4 rfl;subst hc;have hm:m=0:=by omega
  subst hm;have hn:news=[]:=List.length_eq_zero_iff.1 (by simpa using c1);subst hn;refine ⟨v,w,run_append_owned_none w B t ty e i sz T.under hi v n xs own.1,?_,World.grownBy.refl _ _,Below.refl _ _⟩
  simpa using own
 | some a =>
  have hpos:∀ {j:Nat} {u:Value},news[j]?=some u→0<m:=fun {j u} hu=>by
   have:=(List.getElem?_eq_some_iff.1 hu).1
   rcases Nat.eq_zero_or_pos m with h0 | h0
   ·subst h0;omega
   ·exact h0
  obtain ⟨v',w',hr,h2,h3,_⟩:=run_append_own (P:=P) w B t ty e i z sz bytes T.under hi hz hs hby hzs T.pos v n xs own.1 a m cap news c1
   (fun j u hu=>by obtain ⟨c6,c7⟩:=c5 a rfl (hpos hu);rw [addr_add a c6];exact c7 j u hu) c0 hmax hbytes hB
  exact ⟨v',w',hr,⟨h2,hall⟩,h3,below_grown h3 hB fun k hk=>(own.1.lt k hk).1⟩

theorem run_app_where {P:Program} {t e:TypeId} {sz bytes:Nat} (T:SlT P t e sz bytes) {w:World} (ty:TypeId) {B n:Nat} {v:Value} {xs:List Value} (own:Own w B e sz v n xs)
 {m:Nat} {x:Value} {news:List Value} (src:Cells w sz x m news) (hbytes:(n+m) * bytes≤140737488355328) :
 ∀ v' w',(Builtin.append_ #[t,t] ty #[v,x]).run P w=.ok v' w'→v'.ownBlock=v.ownBlock∨v'.ownBlock=some w.heap.size:=by
 intro v' w' hrun;have hmax:=T.max hbytes;have hsmall:n+m≤9223372036854775807:=by unfold maxLen at hmax;omega
 obtain ⟨i,z,hi,hz,hs,hby,hzs⟩:=T.info;subst hs;subst hby;obtain ⟨c1,c0,p,cap,rfl,c2,c3,c4,c5⟩:=src;have hpos:∀ {j:Nat} {u:Value},news[j]?=some u→0<m:=fun {j u} hu=>by
  have:=(List.getElem?_eq_some_iff.1 hu).1
  rcases Nat.eq_zero_or_pos m with h0 | h0
  ·subst h0;omega
  ·exact h0
 cases p with
 | none =>
  have hc:=c4 rfl;subst hc;have hm:m=0:=by omega
  subst hm;rw [run_append_owned_none w B t ty e i i.size T.under hi v n xs own.1] at hrun
  cases hrun;exact .inl rfl
 | some a =>
  have hnews:∀ j u,news[j]?=some u→w.cell? (a.add j)=some u:=fun j u hu=>by obtain ⟨c6,c7⟩:=c5 a rfl (hpos hu);rw [addr_add a c6];exact c7 j u hu
  rcases own.1.2 with ⟨rfl,rfl⟩ | ⟨g,cap',cur,rfl,hbg,hg,hnc,hcm,hcs,htake⟩
  ·by_cases hm:m=0
   ·subst hm;have hn:news=[]:=List.length_eq_zero_iff.1 (by simpa using c1);subst hn;simp [Builtin.append_,run_underlying T.under,sizeOf,typeInfo,hi,Builtin.lenOf,Builtin.firstCells,loadCells,loadCellsFrom] at hrun
    exact .inl (by rw [←hrun.1])
   ·rw [run_append_nil (P:=P) w t ty e i z T.under hi hz a m cap news c1 hnews (by omega) (by omega) (by have hb:=hbytes;simp only [Nat.zero_add] at hb;omega)] at hrun
    cases hrun;exact .inr rfl
  ·by_cases hroom:n+m≤cap'
   ·have hfit:n * i.size+news.length≤cur.size:=by rw [c1,hcs, ←Nat.add_mul];exact Nat.mul_le_mul_right _ hroom
    rw [run_append_room (P:=P) w t ty e i T.under hi g n cap' cur hg a m cap news c1 hnews c0 hroom hfit] at hrun
    cases hrun;exact .inl rfl
   ·have holds:∀ j u,xs[j]?=some u→w.cell? ((⟨g,0,none⟩:Addr).add j)=some u:=own.1.cells (g:=g) rfl;rw [run_append_grow (P:=P) w t ty e i z T.under hi hz ⟨g,0,none⟩ n cap' xs own.1.1 holds a m cap news c1 hnews (by omega) (by omega) (growslice_fits (by omega) hbytes)] at hrun
    cases hrun;exact .inr rfl

section
variable {P:Program} {t e:TypeId} {sz bytes:Nat} {w:World} {ops:Array Oper} {rest:List Oper} {o:Oper} {a:Act} {Q:Exit→Act→World→Prop}

theorem wpList_appW (T:SlT P t e sz bytes) (hgd:o.guard=none) {s y:Operand} (ho:o.op=.call { callee:=.builtin .append,args:=#[s,y],argTypes:=#[t,t] })
 {B n:Nat} {v:Value} {xs:List Value} (own:Own w B e sz v n xs) (hs:a.eval s=v)
 {m:Nat} {x:Value} {news:List Value} (src:Cells w sz x m news) (hx:a.eval y=x) (hbytes:(n+m) * bytes≤140737488355328) (hB:B≤w.heap.size)
 (h:∀ v' w',Own w' B e sz v' (n+m) (xs++news)→w.grownBy w' v.ownBlock→Below B w w'→(v'.ownBlock=v.ownBlock∨v'.ownBlock=some w.heap.size)→wpList P ops Q rest (a.put o.dst v') w'):wpList P ops Q (o::rest) a w:=by
 obtain ⟨v',w',hr,h2,h3,h4⟩:=run_app T o.type own src hbytes hB;have h5:=run_app_where T o.type own src hbytes v' w' hr;refine wpList_plain hgd fun K hK=>?_;unfold Oper.wp execOp;simp only [ho,resolve,invoke,builtin,Sem.run_bind,Sem.run_pure,Result.andThen_ok,List.map_toArray,List.map_cons,List.map_nil,hs,hx,hr]
 exact hK _ _ (h v' w' h2 h3 h4 h5)

theorem wpList_app (T:SlT P t e sz bytes) (hgd:o.guard=none) {s y:Operand} (ho:o.op=.call { callee:=.builtin .append,args:=#[s,y],argTypes:=#[t,t] })
 {B n:Nat} {v:Value} {xs:List Value} (own:Own w B e sz v n xs) (hs:a.eval s=v)
 {m:Nat} {x:Value} {news:List Value} (src:Cells w sz x m news) (hx:a.eval y=x) (hbytes:(n+m) * bytes≤140737488355328) (hB:B≤w.heap.size)
 (h:∀ v' w',Own w' B e sz v' (n+m) (xs++news)→w.grownBy w' v.ownBlock→Below B w w'→wpList P ops Q rest (a.put o.dst v') w'):wpList P ops Q (o::rest) a w:=by
 obtain ⟨v',w',hr,h2,h3,h4⟩:=run_app T o.type own src hbytes hB;refine wpList_plain hgd fun K hK=>?_;unfold Oper.wp execOp;simp only [ho,resolve,invoke,builtin,Sem.run_bind,Sem.run_pure,Result.andThen_ok,List.map_toArray,List.map_cons,List.map_nil,hs,hx,hr]
 exact hK _ _ (h v' w' h2 h3 h4)

theorem wpList_mk (T:SlT P t e sz bytes) (hgd:o.guard=none) {l c:Operand} (ho:o.op=Op.makeSlice t l c) (B:Nat) {kl kc:IntKind} {C:Int} (n:Nat)
 (hl:a.eval l=.int kl 0) (hc:a.eval c=.int kc C) (hC:C=(n:Int)) (hbytes:n * bytes≤281474976710656) (hn:n≤maxLen) (hB:B≤w.heap.size)
 (h:∀ v' w',Own w' B e sz v' 0 []→w.grownBy w' none→Below w.heap.size w w'→wpList P ops Q rest (a.put o.dst v') w'):wpList P ops Q (o::rest) a w:=by
 obtain ⟨i,z,hi,hz,hs,hby,hzs⟩:=T.info;exact wpList_make_own w hgd l c t ho B e i z sz T.under hi hz hs kl kc C n hl hc hC (by rw [hby,Nat.mul_comm];exact hbytes) hn hB
  fun w' h1 h2=>h _ w' ⟨h1,by simp⟩ h2 (below_grown h2 (Nat.le_refl _) fun k hk=>by cases hk)

end

theorem Own.cellAt {w:World} {B:Nat} {e:TypeId} {sz g n cap:Nat} {xs:List Value} (h:Own w B e sz (.slice (some ⟨g,0,none⟩) n cap) n xs) (j:Nat) (hj:j<xs.length):w.cell? ⟨g,j,none⟩=some xs[j]:=by
 have:=h.1.cellAt j (by rw [←h.len];exact hj);rw [this];exact List.getElem?_eq_getElem hj
theorem Own.frozenAt {w:World} {B:Nat} {e:TypeId} {sz g n cap:Nat} {xs:List Value} (h:Own w B e sz (.slice (some ⟨g,0,none⟩) n cap) n xs) (j:Nat):w.frozen? ⟨g,j,none⟩=false:=h.1.frozenAt j
theorem Own.stored {w:World} {B:Nat} {e:TypeId} {sz g n cap:Nat} {xs:List Value} (h:Own w B e sz (.slice (some ⟨g,0,none⟩) n cap) n xs) (j:Nat) (u:Value) (hu:u.oneCell'=true) :
 Own (w.setCell ⟨g,j,none⟩ u) B e sz (.slice (some ⟨g,0,none⟩) n cap) n (xs.set j u)∧w.grownBy (w.setCell ⟨g,j,none⟩ u) (some g):=by
 obtain ⟨h1,h2⟩:=h.1.stored j u;refine ⟨⟨h1,fun x hx=>?_⟩,h2⟩
 rcases List.mem_or_eq_of_mem_set hx with hx | hx
 ·exact h.2 x hx
 ·rw [hx];exact hu
theorem Own.head {w:World} {B:Nat} {e:TypeId} {sz n:Nat} {v:Value} {xs:List Value} (h:Own w B e sz v n xs):(v=.slice none 0 0∧n=0)∨∃ g cap,v=.slice (some ⟨g,0,none⟩) n cap∧B≤g∧g<w.heap.size∧n≤cap∧cap≤maxLen:=by
 rcases h.1.2 with h1 | ⟨g,cap,cur,hv,hb,hg,hn,hm,_⟩
 ·exact .inl h1
 ·exact .inr ⟨g,cap,hv,hb,(Array.getElem?_eq_some_iff.1 hg).1,hn,hm⟩

def subP (p:Option Addr) (cap i sz:Nat):Option Addr:=if cap=i then p else p.map (·.add (i * sz))
def subV:Value→Nat→Nat→Nat→Value
 | .slice p _ cap,i,j,sz=>.slice (subP p cap i sz) (j - i) (cap - i)
 | v,_,_,_=>v

section
variable {P:Program} {t e:TypeId} {sz bytes:Nat} (T:SlT P t e sz bytes) {w:World} {n:Nat} {v:Value} {cs:List Value}
include T
theorem run_sub_to (h:Cells w sz v n cs) (k:IntKind) (J:Int) (j:Nat) (hJ:J=(j:Int)) (hj:j≤n) (w':World) :
 (Instr.slice t v none (some (.int k J)) none).run P w'=.ok (subV v 0 j sz) w':=by
 subst hJ;obtain ⟨i,z,hi,hz,hs,hby,hzs⟩:=T.info;obtain ⟨_,_,p,cap,rfl,c2,_⟩:=h;have:j≤cap:=by omega
 simp [Instr.slice,run_underlying T.under,Instr.sliceBounds,Instr.sliceBound,asIntOf,this,subV,subP,sizeOf,typeInfo,hi,hs]
theorem run_sub_from (h:Cells w sz v n cs) (k:IntKind) (I:Int) (i:Nat) (hI:I=(i:Int)) (hj:i≤n) (w':World) :
 (Instr.slice t v (some (.int k I)) none none).run P w'=.ok (subV v i n sz) w':=by
 subst hI;obtain ⟨i,z,hi,hz,hs,hby,hzs⟩:=T.info;obtain ⟨_,_,p,cap,rfl,c2,_⟩:=h;simp [Instr.slice,run_underlying T.under,Instr.sliceBounds,Instr.sliceBound,asIntOf,hj,subV,subP,sizeOf,typeInfo,hi,hs]
theorem run_sub (h:Cells w sz v n cs) (k k':IntKind) (I J:Int) (i j:Nat) (hI:I=(i:Int)) (hJ:J=(j:Int)) (hi':i≤j) (hj:j≤n) (w':World) :
 (Instr.slice t v (some (.int k I)) (some (.int k' J)) none).run P w'=.ok (subV v i j sz) w':=by
 subst hI;subst hJ;obtain ⟨i,z,hi,hz,hs,hby,hzs⟩:=T.info;obtain ⟨_,_,p,cap,rfl,c2,_⟩:=h;have:j≤cap:=by omega
 simp [Instr.slice,run_underlying T.under,Instr.sliceBounds,Instr.sliceBound,asIntOf,hi',this,subV,subP,sizeOf,typeInfo,hi,hs]
end

theorem Cells.sub {w:World} {sz n:Nat} {v:Value} {cs:List Value} (h:Cells w sz v n cs) (hsz:0<sz) (i j:Nat) (hi:i≤j) (hj:j≤n) :
 Cells w sz (subV v i j sz) (j - i) ((cs.drop (i * sz)).take ((j - i) * sz)):=by
 obtain ⟨c1,c0,p,cap,rfl,c2,c3,c4,c5⟩:=h;have hk:j * sz≤n * sz:=Nat.mul_le_mul_right _ hj;have hk':i * sz≤j * sz:=Nat.mul_le_mul_right _ hi;have hlen:((cs.drop (i * sz)).take ((j - i) * sz)).length=(j - i) * sz:=by
  rw [List.length_take,List.length_drop,c1,Nat.sub_mul];omega
 refine ⟨hlen,fun u hu=>c0 u (List.mem_of_mem_drop (List.mem_of_mem_take hu)),subP p cap i sz,cap - i,rfl,by omega,by omega,?_,?_⟩
 ·intro hp;unfold subP at hp
  split at hp
  ·omega
  ·have:=c4 (by simpa using hp);omega
 ·intro a ha hn;unfold subP at ha
  split at ha
  ·omega
  ·cases p with
   | none=>simp at ha
   | some a0 =>
    simp at ha;subst ha
    obtain ⟨c6,c7⟩:=c5 a0 rfl (by omega);rw [addr_add a0 c6];refine ⟨rfl,fun q u hu=>?_⟩;have hq:=(List.getElem?_eq_some_iff.1 hu).1;rw [hlen] at hq;rw [List.getElem?_take,if_pos hq,List.getElem?_drop] at hu;have:=c7 (i * sz+q) u hu;simp only
    rw [Nat.add_assoc];exact this

theorem Own.lit (w:World) (cs:Array Value) (e:TypeId) {sz:Nat} (n B:Nat) (hs:cs.size=n * sz) (h1:∀ u ∈ cs.toList,u.oneCell'=true) (hm:n≤maxLen) (hB:B≤w.heap.size) :
 Own (w.alloc (.cells cs e)) B e sz (.slice (some ⟨w.heap.size,0,none⟩) n n) n cs.toList:=⟨World.ownsRow_lit w cs n hB hm hs,h1⟩
theorem below_drew (B:Nat) (w:World):Below B w w.drew:=(Below.refl B w).drew
theorem below_alloc (w:World) (o:Obj):Below w.heap.size w (w.alloc o):=(Below.refl _ _).alloc (Nat.le_refl _) _

@[reducible] def byteV (x:UInt8):Value:=.int .u8 (x.toNat:Int)
def Bytes (w:World) (v:Value) (l:List UInt8):Prop:=Cells w 1 v l.length (l.map byteV)
def OwnB (w:World) (B:Nat) (e:TypeId) (v:Value) (l:List UInt8):Prop:=Own w B e 1 v l.length (l.map byteV)

section
variable {w w':World} {v:Value} {l:List UInt8} {B:Nat} {e:TypeId}
theorem Bytes.nil (w:World):Bytes w (.slice none 0 0) []:=Cells.nil w 1
theorem Bytes.drewN (h:Bytes w v l) (k:Nat):Bytes (w.drewN k) v l:=h
theorem Bytes.ext (h:Bytes w v l) (hb:Below w.heap.size w w'):Bytes w' v l:=Cells.ext h hb
theorem OwnB.bytes (h:OwnB w B e v l):Bytes w v l:=Own.cells h
theorem OwnB.ext (h:OwnB w B e v l) (hb:Below w.heap.size w w'):OwnB w' B e v l:=Own.ext h hb
theorem Bytes.shape (h:Bytes w v l):∃ p cap,v=.slice p l.length cap:=by obtain ⟨_,_,p,cap,h,_⟩:=h;exact ⟨p,cap,by simpa using h⟩
theorem Bytes.shapeN (h:Bytes w v l) {n:Nat} (hn:l.length=n):∃ p cap,v=.slice p n cap:=by subst hn;exact h.shape
theorem Bytes.form (h:Bytes w v l):∃ p cap,v=.slice p l.length cap∧l.length≤cap∧cap≤maxLen∧(p=none→cap=0) ∧
 (0<l.length→∃ b off,p=some ⟨b,off,none⟩∧∀ i (hi:i<l.length),w.cell? ⟨b,off+i,none⟩=some (.int .u8 (l[i].toNat:Int))):=by
 obtain ⟨p,cap,h1,h2,h3,h4,h5⟩:=Cells.form h;refine ⟨p,cap,h1,h2,h3,h4,fun hc=>?_⟩;obtain ⟨b,off,h6,h7⟩:=h5 hc;exact ⟨b,off,h6,fun i hi=>h7 i _ (by simp [hi,byteV])⟩
theorem Bytes.sub (h:Bytes w v l) (i j:Nat) (hi:i≤j) (hj:j≤l.length):Bytes w (subV v i j 1) ((l.drop i).take (j - i)):=by
 have h1:=Cells.sub h Nat.one_pos i j hi hj;have e1:((l.drop i).take (j - i)).length=j - i:=by rw [List.length_take,List.length_drop];omega
 unfold Bytes;rw [e1,List.map_take,List.map_drop]
 simpa using h1
theorem litBytes (w:World) (l:List UInt8) (e:TypeId) (fz:Nat×Nat) (hm:l.length≤maxLen:=by unfold maxLen;decide):Bytes (w.alloc (.cells (l.map byteV).toArray e fz)) (.slice (some ⟨w.heap.size,0,none⟩) l.length l.length) l:=by
 refine ⟨by simp,fun u hu=>?_,_,l.length,rfl,Nat.le_refl _,hm,fun h=>(by cases h),fun a ha _=>?_⟩
 ·obtain ⟨x,_,rfl⟩:=List.mem_map.1 hu;rfl
 ·cases ha
  refine ⟨rfl,fun i u hu=>?_⟩;have hg:(w.alloc (.cells (l.map byteV).toArray e fz)).heap[w.heap.size]?=some (.cells (l.map byteV).toArray e fz):=by
   show (w.heap.push _)[w.heap.size]?=_;simp
  simp only [World.cell?,hg,Nat.zero_add]
  simpa using hu
theorem bytes_string (l:List UInt8):strOfNums (l.map fun x=>(x.toNat:Int))=⟨l.toArray⟩:=by
 unfold strOfNums
 congr 2
 rw [List.map_map]
 conv=>rhs;rw [←List.map_id l]
 apply List.map_congr_left
 intro x _;simp
theorem run_bytes_string {P:Program} {src e dst:TypeId} (hs:P.underlying src=some (.slice e)) (he:P.underlying e=some (.int .u8)) (hd:P.underlying dst=some .string) (h:Bytes w v l) :
 (convert src dst v).run P w=.ok (.string ⟨l.toArray⟩) w:=by
 obtain ⟨p,cap,rfl,h1,h2,h3,h4⟩:=h.form
 rcases Nat.eq_zero_or_pos l.length with hz | hp
 ·have:l=[]:=List.length_eq_zero_iff.1 hz;subst this
  cases p with
  | none=>exact run_convert_bytes_nil w src e hs he _ _ dst hd
  | some a =>
   rw [List.length_nil,run_convert_bytes_string w src dst e _ 0 cap hs he hd,run_bytesToString w _ 0 cap [] (by
    have:=run_loadCells_list (P:=P) w a [] (fun j v hj=>by simp at hj)
    simpa using this)]
   rfl
 ·obtain ⟨b,off,rfl,hc⟩:=h4 hp;have:=run_convert_bytes_arg w (P:=P) src e hs he b off l.length cap (l.map fun x=>(x.toNat:Int)) (by simp) (fun i hi=>by rw [hc i hi];simp [hi]) dst hd;rw [this,bytes_string]
theorem OwnB.of {n:Nat} {xs:List Value} (h:Own w B e 1 v n xs) (hn:n=l.length) (hx:xs=l.map byteV):OwnB w B e v l:=by subst hn;subst hx;exact h
theorem OwnB.head (h:OwnB w B e v l) (hl:0<l.length):∃ g cap,v=.slice (some ⟨g,0,none⟩) l.length cap∧B≤g∧g<w.heap.size∧l.length≤cap∧cap≤maxLen:=by
 rcases Own.head h with ⟨_,h⟩ | h
 ·omega
 ·exact h
theorem OwnB.cellAt {g n cap:Nat} (h:OwnB w B e (.slice (some ⟨g,0,none⟩) n cap) l) (hn:n=l.length) (i:Nat) (hi:i<l.length):w.cell? ⟨g,i,none⟩=some (.int .u8 (l[i].toNat:Int)):=by
 subst hn;have:=Own.cellAt h i (by simpa using hi);rw [this];simp [byteV]
theorem OwnB.frozenAt {g n cap:Nat} (h:OwnB w B e (.slice (some ⟨g,0,none⟩) n cap) l) (hn:n=l.length) (i:Nat):w.frozen? ⟨g,i,none⟩=false:=by
 subst hn;exact Own.frozenAt h i
theorem OwnB.stored {g n cap:Nat} (h:OwnB w B e (.slice (some ⟨g,0,none⟩) n cap) l) (hn:n=l.length) (i:Nat) (x:UInt8) :
 OwnB (w.setCell ⟨g,i,none⟩ (.int .u8 (x.toNat:Int))) B e (.slice (some ⟨g,0,none⟩) n cap) (l.set i x)∧w.grownBy (w.setCell ⟨g,i,none⟩ (.int .u8 (x.toNat:Int))) (some g):=by
 subst hn;obtain ⟨h1,h2⟩:=Own.stored h i (byteV x) rfl;refine ⟨?_,h2⟩;unfold OwnB;rw [List.map_set,List.length_set];exact h1
theorem OwnB.aside {g n cap:Nat} {row:Option Nat} (h:OwnB w B e (.slice (some ⟨g,0,none⟩) n cap) l) (hg:w.grownBy w' row) (hne:∀ k,row=some k→k≠g):OwnB w' B e (.slice (some ⟨g,0,none⟩) n cap) l :=
 Own.grown h hg (.inr (by intro e;exact hne g e.symm rfl))
theorem OwnB.lt (h:OwnB w B e v l):∀ k,v.ownBlock=some k→B≤k∧k<w.heap.size:=Own.lt h
theorem OwnB.nil (w:World) (B:Nat) (e:TypeId):OwnB w B e (.slice none 0 0) []:=Own.nil w B e 1
theorem OwnB.snoc {l':List UInt8} (h:Own w B e 1 v (l.length+l'.length) (l.map byteV++l'.map byteV)):OwnB w B e v (l++l'):=by
 unfold OwnB;rw [List.length_append,List.map_append];exact h
end

end
section
open Go Go.RowKit Go.ChangeShapes Go.WideShapes Go.ChangeAt

theorem rowOwn:ownKnob Tryz.prog.godebug=none:=by kernel_rfl
theorem rowLaid:laidOutB Tryz.prog=true:=by kernel_rfl

def DLen {H:Type} (d:DataW H) (n:Nat):Prop:=(d=.nil∧n=0)∨∃ es sp,d=.slice es sp∧es.length=n

theorem bytes_of_ints {W:World} {x:Addr} {len cap:Nat} {zs:List Int} (hl:len≤cap) (hm:cap≤maxLen) (hz:zs.length=cap)
 (hcell:∀ i,i<zs.length→W.cell? (x.add i)=some (.int .u8 (zs.getD i 0))) (hwz:∀ n ∈ zs,(Lit.int .u8 n).wf=true):∃ l:List UInt8,Bytes W (.slice (some x) len cap) l∧l.length=len:=by
 have hlen:(zs.take len).length=len:=by rw [List.length_take];omega
 have hb:∀ z ∈ zs,0≤z∧z<256:=fun z hz=>by
  have:=hwz z hz;simp [Lit.wf,IntKind.min,IntKind.max,IntKind.bits,IntKind.signed] at this;omega
 refine ⟨(zs.take len).map fun z=>UInt8.ofNat z.toNat,?_,by rw [List.length_map,hlen]⟩;refine ⟨by simp,fun u hu=>?_,some x,cap,by rw [List.length_map,hlen],by rw [List.length_map,hlen];omega,hm,fun h=>(by cases h),fun a ha hn=>?_⟩
 ·obtain ⟨y,_,rfl⟩:=List.mem_map.1 hu;rfl
 ·cases ha
  rw [List.length_map,hlen] at hn;have hz0:0<zs.length:=by omega
  have hs:x.spot=none:=by
   have:=hcell 0 hz0;rw [show x.add 0=x from by simp [Addr.add]] at this;unfold World.cell? at this
   split at this
   ·by_cases hsp:x.spot.isSome=true
    ·rw [if_pos hsp] at this;cases this
    ·simpa using hsp
   ·cases this
  refine ⟨hs,fun i u hu=>?_⟩;simp only [List.getElem?_map] at hu
  rw [List.getElem?_take] at hu
  split at hu
  ·rename_i hi
   have hiz:i<zs.length:=by omega
   rw [List.getElem?_eq_getElem hiz] at hu;simp at hu
   subst hu;have:=hcell i hiz;rw [addr_add x hs] at this;rw [this];have hb':=hb zs[i] (List.getElem_mem _);simp [List.getD,hiz,byteV]
   omega
  ·simp at hu

theorem open_bytes {H:Type} {enc:TypeId×Value→H} {P:Program} {W:World} {t e:TypeId} {base:Nat} {v:Value} {d:DataW H} {p:List MemPlace}
 (hu:P.underlying t=some (.slice e)) (he:P.underlying e=some (.int .u8)) (hc:P.cellsOf e=1) (hok:Value.okWide P W .any base t v)
 (h:DataW.Trod enc P W 0 (fun _=>true) true t v d p):∃ l:List UInt8,Bytes W v l∧DLen d l.length:=by
 obtain ⟨a,len,cap,rfl⟩:=okWide_slice hu hok;obtain ⟨fuel,hf⟩:=h
 rcases open_ints hu he hc hf with ⟨hcs,hx⟩ | ⟨x,l,c,zs,hcs,_,hl,hm,hz,hx,hcell,hwz⟩
 ·simp [Value.cells] at hcs
  obtain ⟨rfl,rfl,rfl⟩:=hcs;simp only [Prod.mk.injEq] at hx
  exact ⟨[],Bytes.nil W,.inl ⟨hx.1,rfl⟩⟩
 ·simp [Value.cells] at hcs
  obtain ⟨rfl,rfl,rfl⟩:=hcs;simp only [Prod.mk.injEq] at hx
  simp at hz
  obtain ⟨l,h1,h2⟩:=bytes_of_ints hl hm hz hcell hwz;refine ⟨l,h1,.inr ⟨_,_,hx.1,?_⟩⟩;rw [h2];simp [lits];omega

theorem open_u32 {H:Type} {enc:TypeId×Value→H} {P:Program} {W:World} {t:TypeId} {base:Nat} {v:Value} {d:DataW H} {p:List MemPlace}
 (hu:P.underlying t=some (.int .u32)) (hok:Value.okWide P W .any base t v)
 (h:DataW.Trod enc P W 0 (fun _=>true) true t v d p):∃ c:BitVec 32,v=.int .u32 (c.toNat:Int):=by
 obtain ⟨x,rfl,rfl,rfl,wx⟩:=open_int hu hok h;have hb:0≤x∧x<4294967296:=by simp [Lit.wf,IntKind.min,IntKind.max,IntKind.bits,IntKind.signed] at wx;omega
 refine ⟨BitVec.ofNat 32 x.toNat,?_⟩;rw [BitVec.toNat_ofNat,Nat.mod_eq_of_lt (by omega)]
 congr 1;omega

theorem open_i64 {H:Type} {enc:TypeId×Value→H} {P:Program} {W:World} {t:TypeId} {base:Nat} {v:Value} {d:DataW H} {p:List MemPlace}
 (hu:P.underlying t=some (.int .i64)) (hok:Value.okWide P W .any base t v)
 (h:DataW.Trod enc P W 0 (fun _=>true) true t v d p):∃ x:Int,v=.int .i64 x ∧ -9223372036854775808≤x∧x≤9223372036854775807:=by
 obtain ⟨x,rfl,rfl,rfl,wx⟩:=open_int hu hok h;refine ⟨x,rfl,?_⟩;simp [Lit.wf,IntKind.min,IntKind.max,IntKind.bits,IntKind.signed] at wx;omega

theorem sized_dlen {H:Type} {P:Program} {ts:List TypeId} {ds:List (DataW H)} (h:(DataW.weightsEach P ts ds).all (· ≤ reachBytes)=true) {j:Nat} {t e:TypeId} {d:DataW H} {n:Nat} {bytes:Nat} (hd:DLen d n)
 (ht:ts[j]?=some t) (hj:ds[j]?=some d) (hu:P.underlying t=some (.slice e)) (hb:P.bytesOf e=bytes):n * bytes≤140737488351232:=by
 rcases hd with ⟨rfl,rfl⟩ | ⟨es,sp,rfl,rfl⟩
 ·omega
 ·have:=sized_slice h ht hj hu;rw [hb,Nat.add_mul] at this;simp only [reachBytes] at this
  omega

theorem bulk_one_le {H:Type} (d:DataW H):1≤Rows.uptoBulk d:=by
 cases d with
 | lit l=>cases l<;>simp [Rows.uptoBulk]
 | _=>simp [Rows.uptoBulk]
theorem bulk_length_le {H:Type} (l:List (DataW H)):l.length≤Rows.uptoBulkAll l:=by
 induction l with
 | nil=>simp [Rows.uptoBulkAll]
 | cons x r ih=>have:=bulk_one_le x;simp only [Rows.uptoBulkAll,List.length_cons];omega
theorem bulk_dlen {H:Type} {d:DataW H} {n:Nat} (h:DLen d n):n+1≤Rows.uptoBulk d:=by
 rcases h with ⟨rfl,rfl⟩ | ⟨es,sp,rfl,rfl⟩
 ·simp [Rows.uptoBulk]
 ·have:=bulk_length_le es;simp only [Rows.uptoBulk];omega

theorem open_string1 {H:Type} {enc:TypeId×Value→H} {P:Program} {W:World} {t:TypeId} {base:Nat} {v:Value} {d:DataW H} {p:List MemPlace}
 (hu:P.underlying t=some .string) (hok:Value.okWide P W .any base t v)
 (h:DataW.Trod enc P W 0 (fun _=>true) true t v d p):∃ s:ByteArray,d=.lit (.string s.data.toList)∧v=.string s:=by
 obtain ⟨s,h1,h2,_,_⟩:=Go.ChangeMaps.open_string hu hok h;exact ⟨s,h2,h1⟩
theorem open_bool1 {H:Type} {enc:TypeId×Value→H} {P:Program} {W:World} {t:TypeId} {base:Nat} {v:Value} {d:DataW H} {p:List MemPlace}
 (hu:P.underlying t=some .bool) (hok:Value.okWide P W .any base t v)
 (h:DataW.Trod enc P W 0 (fun _=>true) true t v d p):∃ b:Bool,v=.bool b:=by
 obtain ⟨b,h1,_⟩:=open_bool hu hok h;exact ⟨b,h1⟩
theorem sized_str {H:Type} {P:Program} {ts:List TypeId} {ds:List (DataW H)} (h:(DataW.weightsEach P ts ds).all (· ≤ reachBytes)=true) {j:Nat} {t:TypeId} {d:DataW H} {s:ByteArray} (hd:d=.lit (.string s.data.toList))
 (ht:ts[j]?=some t) (hj:ds[j]?=some d):s.size≤140737488351232:=by
 subst hd;have:=sized_string h ht hj;simp only [reachBytes] at this
 have e:s.size=s.data.toList.length:=(Array.length_toList (xs:=s.data)).symm;omega
theorem bulk_string {H:Type} {d:DataW H} {s:ByteArray} (hd:d=.lit (.string s.data.toList)):s.size≤Rows.uptoBulk d:=by
 subst hd;have e:s.size=s.data.toList.length:=(Array.length_toList (xs:=s.data)).symm;simp only [Rows.uptoBulk];omega

end
section
open Go Go.RowKit

theorem grown_tr {a b c:World} {row:Option Nat} (h1:a.grownBy b row) (h2:b.grownBy c row):a.grownBy c row :=
 ⟨h2.os.trans h1.os,h2.tape.trans h1.tape,h2.output.trans h1.output,Nat.le_trans h1.size h2.size,fun k hk hne=>(h2.block k (Nat.lt_of_lt_of_le hk h1.size) hne).trans (h1.block k hk hne)⟩
theorem grown_below {a b:World} {row:Option Nat} (h:Below a.heap.size a b):a.grownBy b row:=⟨h.os,h.tape,h.output,h.size,fun k hk _=>h.block k hk⟩
theorem grown_drew {a b:World} {row:Option Nat} (h:a.grownBy b row):a.grownBy b.drew row:=⟨h.os,h.tape,h.output,h.size,h.block⟩
structure Enc (α:Type) where
 sz:Nat
 enc : α→List Value
 len:∀ x,(enc x).length=sz
 one:∀ x,∀ v ∈ enc x,v.oneCell'=true
 pos:0<sz

def Enc.all {α:Type} (E:Enc α) (l:List α):List Value:=l.flatMap E.enc
section
variable {α:Type} (E:Enc α)
theorem Enc.all_append (l m:List α):E.all (l++m)=E.all l++E.all m:=by unfold Enc.all;rw [List.flatMap_append]
theorem Enc.all_cons (x : α) (l:List α):E.all (x::l)=E.enc x++E.all l:=by unfold Enc.all;rw [List.flatMap_cons]
theorem Enc.all_one (x : α):E.all [x]=E.enc x:=by unfold Enc.all;simp
theorem Enc.all_length (l:List α):(E.all l).length=l.length * E.sz:=by
 induction l with
 | nil=>simp [Enc.all]
 | cons x l ih=>rw [E.all_cons,List.length_append,ih,E.len,List.length_cons,Nat.add_mul];omega
theorem Enc.all_oneCell (l:List α):∀ v ∈ E.all l,v.oneCell'=true:=fun v hv=>by
 obtain ⟨x,_,h⟩:=List.mem_flatMap.1 hv;exact E.one x v h
theorem Enc.all_get (l:List α) (i:Nat) (hi:i<l.length) (j:Nat) (hj:j<E.sz):(E.all l)[i * E.sz+j]?=(E.enc l[i])[j]?:=by
 induction l generalizing i with
 | nil=>simp at hi
 | cons x l ih =>
  rw [E.all_cons]
  cases i with
  | zero=>rw [Nat.zero_mul,Nat.zero_add,List.getElem?_append_left (by rw [E.len];exact hj)];rfl
  | succ i =>
   rw [List.getElem?_append_right (by rw [E.len,Nat.succ_mul];omega),E.len,show (i+1) * E.sz+j - E.sz=i * E.sz+j from by rw [Nat.succ_mul];omega];rw [ih i (by simpa using hi)];rfl
theorem Enc.all_take (l:List α) (i:Nat):(E.all l).take (i * E.sz)=E.all (l.take i):=by
 induction l generalizing i with
 | nil=>simp [Enc.all]
 | cons x l ih =>
  cases i with
  | zero=>simp [Enc.all]
  | succ i =>
   rw [E.all_cons,List.take_succ_cons,E.all_cons,Nat.succ_mul,Nat.add_comm,List.take_append];rw [List.take_of_length_le (by rw [E.len];omega),E.len,show E.sz+i * E.sz - E.sz=i * E.sz from by omega,ih]
theorem Enc.all_drop (l:List α) (i:Nat):(E.all l).drop (i * E.sz)=E.all (l.drop i):=by
 induction l generalizing i with
 | nil=>simp [Enc.all]
 | cons x l ih =>
  cases i with
  | zero=>simp
  | succ i =>
   rw [E.all_cons,List.drop_succ_cons,Nat.succ_mul,Nat.add_comm, ←List.drop_drop];rw [List.drop_append_of_le_length (by rw [E.len];omega),show (E.enc x).drop E.sz=[] from List.drop_of_length_le (by rw [E.len];omega),List.nil_append,ih]
theorem Enc.all_sub (l:List α) (i j:Nat):((E.all l).drop (i * E.sz)).take ((j - i) * E.sz)=E.all ((l.drop i).take (j - i)):=by
 rw [E.all_drop,E.all_take]
theorem Enc.all_set (l:List α) (i:Nat) (hi:i<l.length) (j:Nat) (hj:j<E.sz) (u:Value) (y : α) (hy:E.enc y=(E.enc l[i]).set j u):(E.all l).set (i * E.sz+j) u=E.all (l.set i y):=by
 induction l generalizing i with
 | nil=>simp at hi
 | cons x l ih =>
  cases i with
  | zero =>
   rw [Nat.zero_mul,Nat.zero_add,E.all_cons,List.set_append_left _ _ (by rw [E.len];exact hj),List.set_cons_zero,E.all_cons,hy];rfl
  | succ i =>
   rw [E.all_cons,List.set_append_right _ _ (by rw [E.len,Nat.succ_mul];omega),E.len,show (i+1) * E.sz+j - E.sz=i * E.sz+j from by rw [Nat.succ_mul];omega,List.set_cons_succ,E.all_cons];rw [ih i (by simpa using hi) hy]

def Rd (w:World) (v:Value) (l:List α):Prop:=Cells w E.sz v l.length (E.all l)
def OwnR (w:World) (B:Nat) (e:TypeId) (v:Value) (l:List α):Prop:=Own w B e E.sz v l.length (E.all l)

variable {E} {w w':World} {v:Value} {l m:List α} {B:Nat} {e:TypeId}
theorem Rd.nil (w:World):Rd E w (.slice none 0 0) []:=Cells.nil w E.sz
theorem Rd.drewN (h:Rd E w v l) (k:Nat):Rd E (w.drewN k) v l:=h
theorem Rd.drew (h:Rd E w v l):Rd E w.drew v l:=h
theorem Rd.ext (h:Rd E w v l) (hb:Below w.heap.size w w'):Rd E w' v l:=Cells.ext h hb
theorem Rd.le (h:Rd E w v l):l.length≤maxLen:=Cells.le h
theorem Rd.shape (h:Rd E w v l):∃ p cap,v=.slice p l.length cap:=by obtain ⟨_,_,p,cap,h,_⟩:=h;exact ⟨p,cap,h⟩
theorem Rd.shapeN (h:Rd E w v l) {n:Nat} (hn:l.length=n):∃ p cap,v=.slice p n cap:=by subst hn;exact h.shape
theorem Rd.form (h:Rd E w v l):∃ p cap,v=.slice p l.length cap∧l.length≤cap∧cap≤maxLen∧(p=none→cap=0) ∧
 (0<l.length→∃ b off,p=some ⟨b,off,none⟩∧∀ i (hi:i<l.length) j (hj:j<E.sz),w.cell? ⟨b,off+(i * E.sz+j),none⟩=(E.enc l[i])[j]?):=by
 obtain ⟨p,cap,h1,h2,h3,h4,h5⟩:=Cells.form h;refine ⟨p,cap,h1,h2,h3,h4,fun hc=>?_⟩;obtain ⟨b,off,h6,h7⟩:=h5 hc;refine ⟨b,off,h6,fun i hi j hj=>?_⟩;have e1:=E.all_get l i hi j hj;have hj':j<(E.enc l[i]).length:=by rw [E.len];exact hj
 rw [List.getElem?_eq_getElem hj'] at e1 ⊢;exact h7 _ _ e1
theorem Rd.sub (h:Rd E w v l) (i j:Nat) (hi:i≤j) (hj:j≤l.length):Rd E w (subV v i j E.sz) ((l.drop i).take (j - i)):=by
 have h1:=Cells.sub h E.pos i j hi hj;rw [E.all_sub] at h1;have e1:((l.drop i).take (j - i)).length=j - i:=by rw [List.length_take,List.length_drop];omega
 unfold Rd;rw [e1];exact h1
theorem OwnR.rd (h:OwnR E w B e v l):Rd E w v l:=Own.cells h
theorem OwnR.nil (w:World) (B:Nat) (e:TypeId):OwnR E w B e (.slice none 0 0) []:=Own.nil w B e E.sz
theorem OwnR.drew (h:OwnR E w B e v l):OwnR E w.drew B e v l:=h
theorem OwnR.ext (h:OwnR E w B e v l) (hb:Below w.heap.size w w'):OwnR E w' B e v l:=Own.ext h hb
theorem OwnR.lt (h:OwnR E w B e v l):∀ k,v.ownBlock=some k→B≤k∧k<w.heap.size:=Own.lt h
theorem OwnR.base {B':Nat} (h:OwnR E w B e v l) (hB:B'≤B):OwnR E w B' e v l:=Own.base h hB
theorem OwnR.grown {row:Option Nat} (h:OwnR E w B e v l) (hg:w.grownBy w' row) (hne:v.ownBlock=none∨v.ownBlock≠row):OwnR E w' B e v l:=Own.grown h hg hne
theorem OwnR.snoc (h:Own w B e E.sz v (l.length+m.length) (E.all l++E.all m)):OwnR E w B e v (l++m):=by
 unfold OwnR;rw [List.length_append,E.all_append];exact h
theorem OwnR.of {n:Nat} {xs:List Value} (h:Own w B e E.sz v n xs) (hn:n=l.length) (hx:xs=E.all l):OwnR E w B e v l:=by subst hn;subst hx;exact h
theorem OwnR.head (h:OwnR E w B e v l) (hl:0<l.length):∃ g cap,v=.slice (some ⟨g,0,none⟩) l.length cap∧B≤g∧g<w.heap.size∧l.length≤cap∧cap≤maxLen:=by
 rcases Own.head h with ⟨_,h⟩ | h
 ·omega
 ·exact h
theorem OwnR.cellAt {g n cap:Nat} (h:OwnR E w B e (.slice (some ⟨g,0,none⟩) n cap) l) (hn:n=l.length) (i:Nat) (hi:i<l.length) (j:Nat) (hj:j<E.sz) :
 w.cell? ⟨g,i * E.sz+j,none⟩=(E.enc l[i])[j]?:=by
 subst hn;have e1:=E.all_get l i hi j hj;have hlt:i * E.sz+j<(E.all l).length:=by
  rw [E.all_length];have:(i+1) * E.sz≤l.length * E.sz:=Nat.mul_le_mul_right _ hi;rw [Nat.succ_mul] at this;omega
 have:=Own.cellAt h (i * E.sz+j) hlt;rw [this, ←e1,List.getElem?_eq_getElem hlt]
theorem OwnR.frozenAt {g n cap:Nat} (h:OwnR E w B e (.slice (some ⟨g,0,none⟩) n cap) l) (hn:n=l.length) (i:Nat):w.frozen? ⟨g,i,none⟩=false:=by
 subst hn;exact Own.frozenAt h i
theorem OwnR.stored {g n cap:Nat} (h:OwnR E w B e (.slice (some ⟨g,0,none⟩) n cap) l) (hn:n=l.length) (i:Nat) (hi:i<l.length) (j:Nat) (hj:j<E.sz) (u:Value) (hu:u.oneCell'=true) (y : α) (hy:E.enc y=(E.enc l[i]).set j u) :
 OwnR E (w.setCell ⟨g,i * E.sz+j,none⟩ u) B e (.slice (some ⟨g,0,none⟩) n cap) (l.set i y)∧w.grownBy (w.setCell ⟨g,i * E.sz+j,none⟩ u) (some g):=by
 subst hn;obtain ⟨h1,h2⟩:=Own.stored h (i * E.sz+j) u hu;refine ⟨?_,h2⟩;rw [E.all_set l i hi j hj u y hy] at h1;unfold OwnR;rw [List.length_set];exact h1
theorem Rd.grown {row:Option Nat} (h:Rd E w v l) (hg:w.grownBy w' row) (hne:v.ownBlock=none∨v.ownBlock≠row):Rd E w' v l:=Cells.grown h hg hne
end

def intsE:Enc Int:=⟨1,fun x=>[.int .i64 x],fun _=>rfl,fun _ v hv=>by simp only [List.mem_singleton] at hv;subst hv;rfl,Nat.one_pos⟩
end
section
open Go Go.RowKit
def ltS (a b:ByteArray):Bool:=Op.bytesLess a.toList b.toList
def eqS (a b:ByteArray):Bool:=a.toList == b.toList
theorem sl_irrefl (x:List UInt8):Op.bytesLess x x=false:=by
 induction x with
 | nil=>rfl
 | cons a x ih=>simp [Op.bytesLess,ih]
theorem sl_trans:∀ {x y z:List UInt8},Op.bytesLess x y=true→Op.bytesLess y z=true→Op.bytesLess x z=true
 | _,[],_,h,_=>by simp [Op.bytesLess] at h
 | _,_::_,[],_,h=>by simp [Op.bytesLess] at h
 | [],_::_,_::_,_,_=>rfl
 | a::x,b::y,c::z,h1,h2=>by
  simp only [Op.bytesLess,Bool.or_eq_true,Bool.and_eq_true,decide_eq_true_eq,beq_iff_eq] at h1 h2 ⊢
  rcases h1 with h1 | ⟨rfl,h1⟩
  ·rcases h2 with h2 | ⟨rfl,h2⟩
   ·exact .inl (UInt8.lt_trans h1 h2)
   ·exact .inl h1
  ·rcases h2 with h2 | ⟨rfl,h2⟩
   ·exact .inl h2
   ·exact .inr ⟨rfl,sl_trans h1 h2⟩
theorem sl_total:∀ {x y:List UInt8},Op.bytesLess x y=false→Op.bytesLess y x=false→x=y
 | [],[],_,_=>rfl
 | [],_::_,h,_=>by simp [Op.bytesLess] at h
 | _::_,[],_,h=>by simp [Op.bytesLess] at h
 | a::x,b::y,h1,h2=>by
  simp only [Op.bytesLess,Bool.or_eq_false_iff,Bool.and_eq_false_iff,decide_eq_false_iff_not,beq_eq_false_iff_ne] at h1 h2
  have hab:a=b:=UInt8.le_antisymm (UInt8.not_lt.1 h2.1) (UInt8.not_lt.1 h1.1);subst hab;have e1:Op.bytesLess x y=false:=by rcases h1.2 with h | h;exact absurd rfl h;exact h
  have e2:Op.bytesLess y x=false:=by rcases h2.2 with h | h;exact absurd rfl h;exact h
  rw [sl_total e1 e2]
theorem eqS_iff (a b:ByteArray):eqS a b=true↔a=b:=by
 unfold eqS
 constructor
 ·intro h;have h1:a.toList=b.toList:=by simpa using h
  rw [ByteArray.toList_eq,ByteArray.toList_eq] at h1;exact ByteArray.ext (Array.ext' h1)
 ·rintro rfl;simp
theorem eqS_refl (a:ByteArray):eqS a a=true:=(eqS_iff _ _).2 rfl
theorem ltS_irrefl (a:ByteArray):ltS a a=false:=sl_irrefl _
theorem ltS_trans {a b c:ByteArray} (h1:ltS a b=true) (h2:ltS b c=true):ltS a c=true:=sl_trans h1 h2
theorem ltS_total {a b:ByteArray} (h1:ltS a b=false) (h2:ltS b a=false):a=b:=by
 have h:=sl_total h1 h2;rw [ByteArray.toList_eq,ByteArray.toList_eq] at h;exact ByteArray.ext (Array.ext' h)
theorem ltS_ne {a b:ByteArray} (h:ltS a b=true):a≠b:=by rintro rfl;rw [ltS_irrefl] at h;cases h
theorem ltS_asym {a b:ByteArray} (h:ltS a b=true):ltS b a=false:=by
 rw [Bool.eq_false_iff];intro h2;have:=ltS_trans h h2;rw [ltS_irrefl] at this;cases this
end
section
open Go Go.RowKit

def After (W:World):Type:={ w':World // Below W.heap.size W w' }
instance {W:World}:Nonempty (After W):=⟨⟨W,Below.refl _ _⟩⟩
theorem After.same {W:World} (x:After W):(∃ y:After W,x.1=y.1)=True:=eq_true ⟨x,rfl⟩
theorem wp_region_after {P:Program} {id:Nat} {Q:Exit→Act→World→Prop} {a:Act} {W:World} {l:List Oper} (hm:P.follows .mixedOrders=true) (hB:Region.lexB .any l.toArray=true)
 (h:wpQuiet P l.toArray (fun w'=>∃ x:After W,w'=x.1) (fun a'=>∀ w',(∃ x:After W,w'=x.1)→Q .normal a' w') l a):(Code.region id l.toArray true).wp P Q a W :=
 wp_region_quiet (C:=fun w'=>∃ x:After W,w'=x.1) hm hB ⟨⟨W.drew,below_drew _ _⟩,rfl⟩ (by simpa using h)
theorem After.call {P:Program} {f:FuncId} {args:Array Value} {W:World} {v:Value} (x:After W)
 (h:Calls P f args x.1 fun e w'=>e=.returned v∧Below x.1.heap.size x.1 w'):Calls P f args x.1 fun e w'=>e=.returned v∧∃ y:After W,w'=y.1 :=
 h.mono fun _ w' ⟨he,hb⟩=>⟨he,⟨w',x.2.trans (hb.mono x.2.size)⟩,rfl⟩
end
end Go.Proofs.YtgpgcnmnfnnkjaaGreatDoor
