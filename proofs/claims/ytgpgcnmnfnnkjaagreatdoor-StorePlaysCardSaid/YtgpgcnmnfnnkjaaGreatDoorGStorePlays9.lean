import Derived.Test.YtgpgcnmnfnnkjaaGreatDoorGStorePlays7
import Derived.Laws.IdiomCopy
import Derived.PlainAid
set_option linter.unusedVariables false
set_option linter.unusedSimpArgs false
set_option maxRecDepth 100000
set_option maxHeartbeats 16000000
namespace Go.Proofs.YtgpgcnmnfnnkjaaGreatDoor
section
open Go Go.RowKit

def Blk (w:World) (g:Nat) (cs:Array Value) (t:TypeId):Prop:=w.heap[g]?=some (.cells cs t (0,0))
theorem Blk.cell {w:World} {g:Nat} {cs:Array Value} {t:TypeId} (h:Blk w g cs t) (i:Nat) (v:Value) (hv:cs[i]?=some v):w.cell? ⟨g,i,none⟩=some v:=by
 unfold Blk at h;simp only [World.cell?,h];simpa using hv
theorem Blk.frozen {w:World} {g:Nat} {cs:Array Value} {t:TypeId} (h:Blk w g cs t) (i:Nat):w.frozen? ⟨g,i,none⟩=false:=by
 unfold Blk at h;simp [World.frozen?,h]
theorem Blk.set {w:World} {g:Nat} {cs:Array Value} {t:TypeId} (h:Blk w g cs t) (i:Nat) (v:Value):Blk (w.setCell ⟨g,i,none⟩ v) g (cs.setIfInBounds i v) t:=by
 unfold Blk at *;rw [setCell_eq_setRow w g i cs t (0,0) v h];exact setRow_heap w g cs _ _ _ h
theorem Blk.new (w:World) (cs:Array Value) (t:TypeId):Blk (w.alloc (.cells cs t)) w.heap.size cs t:=by
 show (w.heap.push _)[w.heap.size]?=_;simp
theorem Blk.lt {w:World} {g:Nat} {cs:Array Value} {t:TypeId} (h:Blk w g cs t):g<w.heap.size:=(Array.getElem?_eq_some_iff.1 h).1
theorem Blk.below {w w':World} {g B:Nat} {cs:Array Value} {t:TypeId} (h:Blk w g cs t) (hb:Below B w w') (hg:g<B):Blk w' g cs t:=by
 unfold Blk at *; rw [hb.block g hg];exact h
theorem Blk.ext {w w':World} {g:Nat} {cs:Array Value} {t:TypeId} (h:Blk w g cs t) (hb:Below w.heap.size w w'):Blk w' g cs t:=h.below hb h.lt
theorem Blk.grown {w w':World} {g:Nat} {cs:Array Value} {t:TypeId} {row:Option Nat} (h:Blk w g cs t) (hg:w.grownBy w' row) (hne:row≠some g):Blk w' g cs t:=by
 have hl:=h.lt;unfold Blk at *; rw [hg.block g hl (fun e=>hne e.symm)];exact h
theorem Blk.drew {w:World} {g:Nat} {cs:Array Value} {t:TypeId} (h:Blk w g cs t):Blk w.drew g cs t:=h
theorem Blk.drewN {w:World} {g:Nat} {cs:Array Value} {t:TypeId} (h:Blk w g cs t) (n:Nat):Blk (w.drewN n) g cs t:=h

def putAt:List Value→Nat→List Value→List Value
 | xs,_,[]=>xs
 | xs,o,v::r=>putAt (xs.set o v) (o+1) r
theorem putAt_length (xs:List Value) (o:Nat) (vs:List Value):(putAt xs o vs).length=xs.length:=by
 induction vs generalizing xs o with
 | nil=>rfl
 | cons v r ih=>rw [putAt,ih,List.length_set]
theorem putAt_get (xs:List Value) (o:Nat) (vs:List Value) (i:Nat):(putAt xs o vs)[i]?=if o≤i∧i<o+vs.length∧i<xs.length then vs[i - o]? else xs[i]?:=by
 induction vs generalizing xs o with
 | nil=>simp [putAt];intro h1 h2;omega
 | cons v r ih =>
  rw [putAt,ih,List.length_set]
  by_cases h:o+1≤i∧i<o+1+r.length∧i<xs.length
  ·rw [if_pos h,if_pos (by simp;omega)];rw [show i - o=(i - (o+1))+1 from by omega];rfl
  ·rw [if_neg h,List.getElem?_set]
   by_cases h2:o=i
   ·subst h2
    by_cases h3:o<xs.length
    ·rw [if_pos rfl,if_pos h3,if_pos (by simp;omega)];simp
    ·rw [if_pos rfl,if_neg h3,if_neg (by omega),List.getElem?_eq_none (by omega)]
   ·rw [if_neg h2,if_neg (by simp;omega)]

section
variable {α:Type} {E:Enc α}
theorem Enc.all_get' (E:Enc α) (l:List α) (k:Nat):(E.all l)[k]?=(l[k / E.sz]?).bind fun x=>(E.enc x)[k % E.sz]?:=by
 have hp:=E.pos
 rcases Nat.lt_or_ge (k / E.sz) l.length with h | h
 ·have e:=E.all_get l (k / E.sz) h (k % E.sz) (Nat.mod_lt _ hp);rw [Nat.mul_comm,Nat.div_add_mod] at e;rw [e,List.getElem?_eq_getElem h];rfl
 ·rw [List.getElem?_eq_none h,List.getElem?_eq_none]
  ·rfl
  ·rw [E.all_length];exact (Nat.le_div_iff_mul_le hp).1 h
theorem Enc.all_put (E:Enc α) (l:List α) (i:Nat) (hi:i<l.length) (y : α):putAt (E.all l) (i * E.sz) (E.enc y)=E.all (l.set i y):=by
 have hp:=E.pos
 apply List.ext_getElem?
 intro k;rw [putAt_get,E.len,E.all_get',E.all_get',List.getElem?_set,E.all_length];have hdm:=Nat.div_add_mod k E.sz;have hml:=Nat.mod_lt k hp
 by_cases h:i=k / E.sz
 ·subst h;rw [Nat.mul_comm] at hdm;have hlt:k<l.length * E.sz:=by
   have:(k / E.sz+1) * E.sz≤l.length * E.sz:=Nat.mul_le_mul_right _ hi;rw [Nat.succ_mul] at this;omega
  rw [if_pos rfl,if_pos hi,if_pos (by omega),show k - k / E.sz * E.sz=k % E.sz from by omega];rfl
 ·rw [if_neg h,if_neg];rintro ⟨a,b,_⟩
  apply h
  have h1:i≤k / E.sz:=(Nat.le_div_iff_mul_le hp).2 a;have h2:k / E.sz<i+1:=by rw [Nat.div_lt_iff_lt_mul hp,Nat.succ_mul];exact b
  omega

theorem Own.storedAll {w:World} {B:Nat} {e:TypeId} {sz g n cap:Nat} {xs:List Value} (h:Own w B e sz (.slice (some ⟨g,0,none⟩) n cap) n xs) (o:Nat) (vs:List Value) (hv:∀ v ∈ vs,v.oneCell'=true) :
 Own (w.setCells g o vs) B e sz (.slice (some ⟨g,0,none⟩) n cap) n (putAt xs o vs)∧w.grownBy (w.setCells g o vs) (some g):=by
 induction vs generalizing w xs o with
 | nil=>exact ⟨h,World.grownBy.refl _ _⟩
 | cons v r ih =>
  obtain ⟨h1,h2⟩:=Own.stored h o v (hv v (by simp));obtain ⟨h3,h4⟩:=ih h1 (o+1) (fun x hx=>hv x (by simp [hx]));exact ⟨h3,grown_tr h2 h4⟩
theorem OwnR.put {w:World} {B:Nat} {e:TypeId} {g n cap:Nat} {l:List α} (h:OwnR E w B e (.slice (some ⟨g,0,none⟩) n cap) l) (hn:n=l.length) (i:Nat) (hi:i<l.length) (y : α) :
 OwnR E (w.setCells g (i * E.sz) (E.enc y)) B e (.slice (some ⟨g,0,none⟩) n cap) (l.set i y)∧w.grownBy (w.setCells g (i * E.sz) (E.enc y)) (some g):=by
 subst hn;obtain ⟨h1,h2⟩:=Own.storedAll h (i * E.sz) (E.enc y) (E.one y);rw [E.all_put l i hi y] at h1;refine ⟨?_,h2⟩;unfold OwnR;rw [List.length_set];exact h1

theorem made_all (E:Enc α) (z0 : α) (z:Array Value) (hz:E.enc z0=z.toList) (n:Nat):(madeCells z (n * E.sz)).toList=E.all (List.replicate n z0):=by
 have hp:=E.pos;have hl:z.size=E.sz:=by have:=E.len z0;rw [hz] at this;simpa using this
 apply List.ext_getElem?
 intro k;rw [E.all_get']
 by_cases h:k<n * E.sz
 ·have h1:k / E.sz<n:=by rw [Nat.div_lt_iff_lt_mul hp];exact h
  have h2:k % E.sz<z.size:=by rw [hl];exact Nat.mod_lt _ hp
  rw [List.getElem?_replicate,if_pos h1];simp only [Option.bind_some,hz,madeCells,hl]
  simp only [Array.toList_map,Array.toList_range,List.getElem?_map,List.getElem?_range h,Option.map_some]
  rw [Array.getElem?_toList,getElem!_pos z (k % E.sz) h2,Array.getElem?_eq_getElem h2]
 ·have h1:¬ k / E.sz<n:=by rw [Nat.div_lt_iff_lt_mul hp];exact h
  rw [List.getElem?_replicate,if_neg h1,List.getElem?_eq_none]
  ·rfl
  ·simp [madeCells];omega

section
variable {P:Program} {t e:TypeId} {bytes:Nat} {w:World} {ops:Array Oper} {rest:List Oper} {o:Oper} {a:Act} {Q:Exit→Act→World→Prop}
theorem wpList_appR (T:SlT P t e E.sz bytes) (hgd:o.guard=none) {s y:Operand} (ho:o.op=.call { callee:=.builtin .append,args:=#[s,y],argTypes:=#[t,t] })
 {B:Nat} {v:Value} {l:List α} (own:OwnR E w B e v l) (hs:a.eval s=v)
 {x:Value} {m:List α} (src:Rd E w x m) (hx:a.eval y=x) (hbytes:(l.length+m.length) * bytes≤140737488355328) (hB:B≤w.heap.size)
 (h:∀ v' w',OwnR E w' B e v' (l++m)→w.grownBy w' v.ownBlock→Below B w w'→wpList P ops Q rest (a.put o.dst v') w'):wpList P ops Q (o::rest) a w :=
 wpList_app T hgd ho own hs src hx hbytes hB fun v' w' h1 h2 h3=>h v' w' (OwnR.snoc h1) h2 h3
theorem step_appR {K:Act→World→Prop} {Q:Exit→Act→World→Prop} {X:Prop} (T:SlT P t e E.sz bytes) (hgd:o.guard=none) {s y:Operand} (ho:o.op=.call { callee:=.builtin .append,args:=#[s,y],argTypes:=#[t,t] })
 {B:Nat} {v:Value} {l:List α} (own:OwnR E w B e v l) (hs:a.eval s=v)
 {x:Value} {m:List α} (src:Rd E w x m) (hx:a.eval y=x) (hbytes:(l.length+m.length) * bytes≤140737488355328) (hB:B≤w.heap.size)
 (h:∀ v' w',OwnR E w' B e v' (l++m)→w.grownBy w' v.ownBlock→Below B w w'→K (a.put o.dst v') w'):if Region.wanted o (yielded ops a.tmps)=true then Oper.wp P o a w K Q else X:=by
 have hw:Region.wanted o (yielded ops a.tmps)=true:=by simp [Region.wanted,hgd]
 rw [if_pos hw];obtain ⟨v',w',hr,h2,h3,h4⟩:=run_app T o.type own src hbytes hB;unfold Oper.wp execOp;simp only [ho,resolve,invoke,builtin,Sem.run_bind,Sem.run_pure,Result.andThen_ok,List.map_toArray,List.map_cons,List.map_nil,hs,hx,hr]
 exact h v' w' (OwnR.snoc h2) h3 h4
end
theorem OwnR.lit (E:Enc α) (w:World) (cs:Array Value) (e:TypeId) (l:List α) (B:Nat) (hs:cs.toList=E.all l) (hm:l.length≤maxLen) (hB:B≤w.heap.size) :
 OwnR E (w.alloc (.cells cs e)) B e (.slice (some ⟨w.heap.size,0,none⟩) l.length l.length) l:=by
 have h:=Own.lit w cs e (sz:=E.sz) l.length B (by rw [←Array.length_toList,hs,E.all_length]) (by rw [hs];exact E.all_oneCell _) hm hB;rw [hs] at h;exact h
theorem OwnR.litAt (E:Enc α) (w:World) (cs:Array Value) (e:TypeId) (l:List α) (n B H:Nat) (hH:w.heap.size=H) (hn:l.length=n) (hs:cs.toList=E.all l) (hm:n≤maxLen) (hB:B≤w.heap.size) :
 OwnR E (w.alloc (.cells cs e)) B e (.slice (some ⟨H,0,none⟩) n n) l:=by
 subst hH;subst hn;exact OwnR.lit E w cs e l B hs hm hB
end
end
section
open Go Go.RowKit
structure Chg (F:Nat→Prop) (w w':World):Prop where
 os:w'.os=w.os
 tape:w'.tape=w.tape
 output:w'.output=w.output
 size:w.heap.size≤w'.heap.size
 block:∀ k,k<w.heap.size→¬ F k→w'.heap[k]?=w.heap[k]?
section
variable {F G:Nat→Prop} {w w' w'':World}
theorem Chg.refl (F:Nat→Prop) (w:World):Chg F w w:=⟨rfl,rfl,rfl,Nat.le_refl _,fun _ _ _=>rfl⟩
theorem Chg.trans (h:Chg F w w') (h2:Chg G w' w'') (hg:∀ k,k<w.heap.size→G k→F k):Chg F w w'' :=
 ⟨h2.os.trans h.os,h2.tape.trans h.tape,h2.output.trans h.output,Nat.le_trans h.size h2.size,
  fun k hk hn=>(h2.block k (Nat.lt_of_lt_of_le hk h.size) (fun hG=>hn (hg k hk hG))).trans (h.block k hk hn)⟩
theorem Chg.step (h:Chg F w w') (h2:Chg F w' w''):Chg F w w'':=h.trans h2 fun _ _ h=>h
theorem Chg.mono (h:Chg F w w') (hg:∀ k,k<w.heap.size→F k→G k):Chg G w w':=⟨h.os,h.tape,h.output,h.size,fun k hk hn=>h.block k hk (fun hF=>hn (hg k hk hF))⟩
theorem Chg.of_below (h:Below w.heap.size w w'):Chg F w w':=⟨h.os,h.tape,h.output,h.size,fun k hk _=>h.block k hk⟩
theorem Chg.of_grown {row:Option Nat} (h:w.grownBy w' row) (hr:∀ k,row=some k→F k):Chg F w w':=⟨h.os,h.tape,h.output,h.size,fun k hk hn=>h.block k hk (fun e=>hn (hr k e.symm))⟩
theorem Chg.alloc (h:Chg F w w') (o:Obj):Chg F w (w'.alloc o):=h.step (.of_below (below_alloc w' o))
theorem Chg.drew (h:Chg F w w'):Chg F w w'.drew:=⟨h.os,h.tape,h.output,h.size,h.block⟩
theorem Chg.setCell (h:Chg F w w') {p:Addr} (hp:F p.block) (u:Value):Chg F w (w'.setCell p u) :=
 h.trans (G:=F) ⟨rfl,rfl,rfl,by simp [World.setCell],fun k _ hn=>Below.heap_setCell _ _ _ _ (fun e=>hn (e ▸ hp))⟩ fun _ _ h=>h
theorem Chg.below {B:Nat} (h:Chg F w w') (hB:∀ k,F k→B≤k) (hw:B≤w.heap.size):Below B w w' :=
 ⟨h.os,h.tape,h.output,h.size,fun k hk=>h.block k (by omega) (fun hF=>by have:=hB k hF;omega)⟩
theorem Chg.blk (h:Chg F w w') {g:Nat} {cs:Array Value} {t:TypeId} (hb:Blk w g cs t) (hg:¬ F g):Blk w' g cs t:=by
 have hl:=hb.lt;unfold Blk at *;rw [h.block g hl hg];exact hb
theorem Chg.own (h:Chg F w w') {B:Nat} {e:TypeId} {sz n:Nat} {v:Value} {xs:List Value} (ho:Own w B e sz v n xs) (hv:∀ k,v.ownBlock=some k→¬ F k):Own w' B e sz v n xs:=by
 refine ⟨⟨ho.1.1,?_⟩,ho.2⟩
 rcases ho.1.2 with hn | ⟨g,cap,cur,rfl,hb,hgg,rest⟩
 ·exact .inl hn
 ·refine .inr ⟨g,cap,cur,rfl,hb,?_,rest⟩;rw [h.block g (Array.getElem?_eq_some_iff.1 hgg).1 (hv g rfl)];exact hgg
theorem Chg.ownR {α:Type} {E:Enc α} (h:Chg F w w') {B:Nat} {e:TypeId} {v:Value} {l:List α} (ho:OwnR E w B e v l) (hv:∀ k,v.ownBlock=some k→¬ F k):OwnR E w' B e v l:=h.own ho hv
theorem Chg.ownB (h:Chg F w w') {B:Nat} {e:TypeId} {v:Value} {l:List UInt8} (ho:OwnB w B e v l) (hv:∀ k,v.ownBlock=some k→¬ F k):OwnB w' B e v l:=h.own ho hv
theorem Chg.cells (h:Chg F w w') {sz n:Nat} {v:Value} {cs:List Value} (hc:Cells w sz v n cs) (hv:∀ k,v.ownBlock=some k→¬ F k):Cells w' sz v n cs:=by
 obtain ⟨h1,h0,p,cap,rfl,h2,h3,h4,h5⟩:=hc;refine ⟨h1,h0,p,cap,rfl,h2,h3,h4,fun a ha hn=>⟨(h5 a ha hn).1,fun i u hu=>?_⟩⟩;subst ha;have hq:=(h5 a rfl hn).2 i u hu;have hlt:=World.block_lt_of_cell? w _ hq;have hb:=World.cell?_of_block (a:=⟨a.block,a.off+i,none⟩) (h.block a.block hlt (hv a.block rfl));exact hb.trans hq
theorem Cells.empty {sz:Nat} {v:Value} {n:Nat} (h:Cells w sz v n []) (hsz:0<sz):Cells w' sz v n []:=by
 obtain ⟨h1,h0,p,cap,rfl,h2,h3,h4,h5⟩:=h;have hn:n=0:=by
  rcases Nat.eq_zero_or_pos n with h | h
  ·exact h
  ·have:=Nat.mul_pos h hsz;simp at h1;omega
 subst hn;exact ⟨by simp,by simp,p,cap,rfl,h2,h3,h4,fun a _ h=>by omega⟩
theorem Chg.cellsE (h:Chg F w w') {sz n:Nat} {v:Value} {cs:List Value} (hsz:0<sz) (hc:Cells w sz v n cs) (hv:cs≠[]→∀ k,v.ownBlock=some k→¬ F k):Cells w' sz v n cs:=by
 by_cases he:cs=[]
 ·subst he;exact hc.empty hsz
 ·exact h.cells hc (hv he)
end
end
section
open Go Go.RowKit Go.PlainAid

def placeBy {α:Type} (p : α→Bool):List α→Nat→Int
 | [],_ => -1
 | x::r,k=>if p x then (k:Int) else placeBy p r (k+1)
section
variable {α:Type} {p : α→Bool} {l:List α}
theorem placeBy_spec (p : α→Bool) (l:List α) (k:Nat):(placeBy p l k = -1∧∀ x ∈ l,p x=false)∨∃ j,∃ h:j<l.length,placeBy p l k=((k+j:Nat):Int)∧p l[j]=true∧∀ i (h':i<l.length),i<j→p l[i]=false:=by
 induction l generalizing k with
 | nil=>exact .inl ⟨rfl,fun x hx=>by simp at hx⟩
 | cons x r ih =>
  cases hx:p x with
  | true=>exact .inr ⟨0,by simp,by simp [placeBy,hx],by simpa using hx,fun i _ h=>by omega⟩
  | false =>
   rcases ih (k+1) with ⟨h1,h2⟩ | ⟨j,h,h1,h2,h3⟩
   ·refine .inl ⟨by simp [placeBy,hx,h1],fun y hy=>?_⟩
    rcases List.mem_cons.1 hy with rfl | hy
    ·exact hx
    ·exact h2 y hy
   ·refine .inr ⟨j+1,by simpa using h,?_,by simpa using h2,fun i h' hi=>?_⟩
    ·simp only [placeBy,hx,Bool.false_eq_true,if_false];rw [h1];congr 1;omega
    ·cases i with
     | zero=>simpa using hx
     | succ i=>simpa using h3 i (by simpa using h') (by omega)
theorem placeBy_hit {k:Nat} (h:k<l.length) (hp:p l[k]=true):placeBy p (l.drop k) k=k:=by
 rw [List.drop_eq_getElem_cons h,placeBy,if_pos hp]
theorem placeBy_miss {k:Nat} (h:k<l.length) (hp:p l[k]=false):placeBy p (l.drop k) k=placeBy p (l.drop (k+1)) (k+1):=by
 rw [List.drop_eq_getElem_cons h,placeBy,if_neg (by rw [hp];simp)]
theorem placeBy_end {k:Nat} (h:l.length≤k):placeBy p (l.drop k) k = -1:=by rw [List.drop_of_length_le h];rfl
theorem placeBy_map {β:Type} (f : β → α) (q : β→Bool) (hq:∀ y,q y=p (f y)):∀ (m:List β) (k:Nat),placeBy q m k=placeBy p (m.map f) k
 | [],_=>rfl
 | y::m,k=>by rw [List.map_cons,placeBy,placeBy,hq,placeBy_map f q hq m (k+1)]
end

structure Fil where
 name:ByteArray
 data:List UInt8
 kept:Nat
structure Dk where
 fs:List Fil
 off:Bool
 left:Int
def hasN (s:ByteArray) (f:Fil):Bool:=eqS f.name s
def idxD (l:List Fil) (s:ByteArray):Int:=placeBy (hasN s) l 0
def posD (l:List Fil) (s:ByteArray):Nat:=(l.takeWhile fun f=>ltS f.name s).length
def putD (l:List Fil) (f:Fil):List Fil:=l.take (posD l f.name)++f::l.drop (posD l f.name)
def delD (l:List Fil) (k:Nat):List Fil:=l.take k++l.drop (k+1)
def totD (l:List Fil):Nat:=(l.map fun f=>f.data.length).sum
def okB (s:ByteArray) (k:Nat):Bool:=decide (33≤bt s k) && decide (bt s k≤126)
def allB (s:ByteArray):Nat→Nat→Bool
 | 0,_=>true
 | n+1,k=>okB s k && allB s n (k+1)
def namedD (s:ByteArray):Bool:=(decide (1≤s.size) && decide (s.size≤24)) && allB s s.size 0
theorem allB_step {s:ByteArray} {k:Nat} (h:k<s.size):allB s (s.size - k) k=(okB s k && allB s (s.size - (k+1)) (k+1)):=by
 rw [show s.size - k=(s.size - (k+1))+1 from by omega];rfl
theorem allB_end {s:ByteArray} {k:Nat} (h:s.size≤k):allB s (s.size - k) k=true:=by rw [show s.size - k=0 from by omega];rfl
def updD (l:List Fil) (k:Nat) (f:Fil→Fil):List Fil:=match l[k]? with
 | some x=>l.set k (f x)
 | none=>l
def powD (d:Dk):Bool×Dk:=if d.left=0 then (false,{ d with off:=true }) else (true,{ d with left:=if 0<d.left then d.left - 1 else d.left })
def stepD (d:Dk) (f:List Fil→List Fil):Int×Dk:=if (powD d).1 then (0,{ (powD d).2 with fs:=f d.fs }) else (18,(powD d).2)
def knownD (d:Dk) (s:ByteArray):Int×Int:=if d.off then (0,18) else if idxD d.fs s<0 then (0,11) else (idxD d.fs s,0)
def addD (s:ByteArray) (p:List UInt8) (l:List Fil):List Fil :=
 let m:=if idxD l s<0 then putD l ⟨s,[],0⟩ else l
 updD m (idxD m s).toNat fun f=>⟨f.name,f.data++p,f.kept⟩
def appendD (d:Dk) (s:ByteArray) (p:List UInt8):Int×Dk :=
 if d.off then (18,d) else if namedD s=false then (19,d) else if 4194304<totD d.fs+p.length then (14,d) else stepD d (addD s p)
def onD (d:Dk) (s:ByteArray) (f:List Fil→Nat→List Fil):Int×Dk :=
 if (knownD d s).2≠0 then ((knownD d s).2,d) else stepD d fun l=>f l (idxD d.fs s).toNat
def syncD (d:Dk) (s:ByteArray):Int×Dk:=onD d s fun l k=>updD l k fun f=>⟨f.name,f.data,f.data.length⟩
def cutD (d:Dk) (s:ByteArray) (n:Int):Int×Dk :=
 if (knownD d s).2=0∧(n<0∨(((d.fs[(idxD d.fs s).toNat]?).map fun f=>(f.data.length:Int)).getD 0)<n) then (1,d)
 else onD d s fun l k=>updD l k fun f=>⟨f.name,f.data.take n.toNat,min f.kept n.toNat⟩
def removeD (d:Dk) (s:ByteArray):Int×Dk:=onD d s delD
def moveD (to:ByteArray) (l:List Fil) (k:Nat):List Fil:=match l[k]? with
 | none=>l
 | some f =>
  let m:=delD l k
  putD (if 0≤idxD m to then delD m (idxD m to).toNat else m) ⟨to,f.data,f.kept⟩
def renameD (d:Dk) (s to:ByteArray):Int×Dk :=
 if d.off=false∧namedD to=false then (19,d) else onD d s fun l k=>if eqS s to then l else moveD to l k
def readD (d:Dk) (s:ByteArray):Option (List UInt8):=if idxD d.fs s<0 then none else (d.fs[(idxD d.fs s).toNat]?).map (·.data)
def armD (d:Dk) (n:Int):Dk:={ d with left:=if n<0 then -1 else n }
def flipLast (l:List UInt8):List UInt8:=match l[l.length - 1]? with
 | some x=>l.set (l.length - 1) (x ^^^ 255)
 | none=>l
def tornD (pick:Int) (f:Fil):Fil :=
 let u:=f.data.length - f.kept
 let stay:=pick.toNat % (u+1)
 let b:=f.data.take (f.kept+stay)
 let b':=if 0<stay∧pick.toNat / (u+1) % 2=1 then flipLast b else b
 ⟨f.name,b',b'.length⟩
def crashTo (picks:List Int):List Fil→Nat→List Fil
 | [],_=>[]
 | f::r,i=>tornD ((picks[i]?).getD 0) f::crashTo picks r (i+1)
def crashD (d:Dk) (picks:List Int):Dk:=⟨crashTo picks d.fs 0,false, -1⟩
def dk0:Dk:=⟨[],false, -1⟩

structure Ent where
 name:ByteArray
 p:Option Addr
 c:Nat
 data:List UInt8
 kept:Nat
def Ent.v (y:Ent):Value:=.slice y.p y.data.length y.c
def Ent.fil (y:Ent):Fil:=⟨y.name,y.data,y.kept⟩
def entE:Enc Ent:=⟨3,fun y=>[.string y.name,.slice y.p y.data.length y.c,.int .i64 (y.kept:Int)],fun _=>rfl,fun _ v hv=>by
 simp only [List.mem_cons,List.not_mem_nil,or_false] at hv
 rcases hv with rfl | rfl | rfl<;>rfl,by decide⟩
theorem tFil:SlT Tryz.prog 88 96 3 48:=SlT.mk' (z:=.agg #[.string ⟨#[]⟩,.slice none 0 0,.int .i64 0]) Tryz.underlying88 (by kernel_rfl) rfl (by decide) (by decide)
theorem tU8:SlT Tryz.prog 26 5 1 1:=SlT.mk' (z:=.int .u8 0) Tryz.underlying26 (by kernel_rfl) rfl (by decide) (by decide)

def Apart (a b:Value):Prop:=∀ k,a.ownBlock=some k→b.ownBlock≠some k
theorem Apart.symm {a b:Value} (h:Apart a b):Apart b a:=fun k h1 h2=>h k h2 h1
structure Files (w:World) (F:Nat→Prop) (e:TypeId) (v:Value) (ys:List Ent):Prop where
 row:OwnR entE w 0 e v ys
 data:∀ y ∈ ys,OwnB w 0 5 y.v y.data
 apart:ys.Pairwise (fun a b=>Apart a.v b.v)
 off:∀ y ∈ ys,Apart v y.v
 inV:∀ k,v.ownBlock=some k→F k
 inF:∀ y ∈ ys,∀ k,y.v.ownBlock=some k→F k

def FF (F:Nat→Prop) (w w':World):Nat→Prop:=fun k=>F k∨(w.heap.size≤k∧k<w'.heap.size)
section
variable {F G:Nat→Prop} {w w' w1 w2:World} {e:TypeId} {v:Value} {ys:List Ent}
theorem Chg.seq (h:Chg F w w1) (h2:Chg (FF F w w1) w1 w2):Chg F w w2:=h.trans h2 fun k hk hg=>by
 rcases hg with h | h
 ·exact h
 ·omega
theorem FF.seq (h1:w1.heap.size≤w2.heap.size) (h0:w.heap.size≤w1.heap.size) {k:Nat} (h:FF (FF F w w1) w1 w2 k):FF F w w2 k:=by
 rcases h with (h | h) | h
 ·exact .inl h
 ·exact .inr ⟨h.1,by omega⟩
 ·exact .inr ⟨by omega,h.2⟩
theorem Files.mono (h:Files w F e v ys) (hg:∀ k,F k→G k):Files w G e v ys:=⟨h.row,h.data,h.apart,h.off,fun k hk=>hg k (h.inV k hk),fun y hy k hk=>hg k (h.inF y hy k hk)⟩
theorem Files.chg (h:Files w F e v ys) (hc:Chg G w w') (hd:∀ k,F k→¬ G k):Files w' F e v ys :=
 ⟨hc.ownR h.row fun k hk=>hd k (h.inV k hk),fun y hy=>hc.ownB (h.data y hy) fun k hk=>hd k (h.inF y hy k hk),h.apart,h.off,h.inV,h.inF⟩
theorem Files.ext (h:Files w F e v ys) (hb:Below w.heap.size w w'):Files w' F e v ys:=h.chg (G:=fun _=>False) (.of_below hb) fun _ _ h=>h
end

structure DiskAt (w:World) (F:Nat→Prop) (g:Nat) (d:Dk):Prop where
 ex:∃ v ys,Blk w g #[v,.bool d.off,.bool (decide (0≤d.left)),.int .i64 (max d.left 0)] 90∧Files w F 96 v ys∧v.ownBlock≠some g∧(∀ y ∈ ys,y.v.ownBlock≠some g)∧ys.map Ent.fil=d.fs
 inG:F g
 lt:∀ k,F k→k<w.heap.size
section
variable {F G:Nat→Prop} {w w' w1 w2:World} {g:Nat} {d:Dk}
theorem DiskAt.chg (h:DiskAt w F g d) (hc:Chg G w w') (hd:∀ k,F k→¬ G k):DiskAt w' F g d:=by
 obtain ⟨⟨v,ys,h1,h2,h3,h4,h5⟩,h6,h7⟩:=h;exact ⟨⟨v,ys,hc.blk h1 (hd g h6),h2.chg hc hd,h3,h4,h5⟩,h6,fun k hk=>Nat.lt_of_lt_of_le (h7 k hk) hc.size⟩
theorem DiskAt.ext (h:DiskAt w F g d) (hb:Below w.heap.size w w'):DiskAt w' F g d:=h.chg (G:=fun _=>False) (.of_below hb) fun _ _ h=>h
theorem DiskAt.mono (h:DiskAt w F g d) (hg:∀ k,F k→G k) (hl:∀ k,G k→k<w.heap.size):DiskAt w G g d:=by
 obtain ⟨⟨v,ys,h1,h2,h3,h4,h5⟩,h6,h7⟩:=h;exact ⟨⟨v,ys,h1,h2.mono hg,h3,h4,h5⟩,hg g h6,hl⟩
theorem FF_lt {F:Nat→Prop} {w w':World} (hl:∀ k,F k→k<w.heap.size) (hs:w.heap.size≤w'.heap.size):∀ k,FF F w w' k→k<w'.heap.size:=fun k hk=>by
 rcases hk with h | h
 ·exact Nat.lt_of_lt_of_le (hl k h) hs
 ·exact h.2
theorem DiskAt.ff (h:DiskAt w1 F g d) (hs:w.heap.size≤w1.heap.size):DiskAt w1 (FF F w w1) g d:=h.mono (fun _=>.inl) fun k hk=>by
 rcases hk with h' | h'
 ·exact h.lt k h'
 ·exact h'.2
theorem DiskAt.seq (h:DiskAt w2 (FF (FF F w w1) w1 w2) g d) (h0:∀ k,F k→k<w.heap.size) (h1:w1.heap.size≤w2.heap.size) (h2:w.heap.size≤w1.heap.size):DiskAt w2 (FF F w w2) g d :=
 h.mono (fun _ hk=>FF.seq h1 h2 hk) (FF_lt h0 (by omega))
end
end
section
open Go Go.RowKit Go.PlainAid

structure DiskV (w:World) (F:Nat→Prop) (g:Nat) (v o a l:Value) (ys:List Ent):Prop where
 blk:Blk w g #[v,o,a,l] 90
 fil:Files w F 96 v ys
 vg:v.ownBlock≠some g
 yg:∀ y ∈ ys,y.v.ownBlock≠some g
 inG:F g
 lt:∀ k,F k→k<w.heap.size
structure OkD (d:Dk):Prop where
 len:d.fs.length≤1000000
 tot:totD d.fs≤4194304
 kept:∀ f ∈ d.fs,f.kept≤f.data.length
 lo : -1≤d.left
 hi:d.left≤9223372036854775807
section
variable {F G:Nat→Prop} {w w' w1 w2:World} {g:Nat} {v o a l:Value} {ys zs:List Ent}
theorem DiskV.at_ {d:Dk} (h:DiskV w F g v (.bool d.off) (.bool (decide (0≤d.left))) (.int .i64 (max d.left 0)) ys) (hy:ys.map Ent.fil=d.fs):DiskAt w F g d:=⟨⟨v,ys,h.blk,h.fil,h.vg,h.yg,hy⟩,h.inG,h.lt⟩
theorem DiskAt.open_ {d:Dk} (h:DiskAt w F g d):∃ v ys,DiskV w F g v (.bool d.off) (.bool (decide (0≤d.left))) (.int .i64 (max d.left 0)) ys∧ys.map Ent.fil=d.fs:=by
 obtain ⟨⟨v,ys,h1,h2,h3,h4,h5⟩,h6,h7⟩:=h;exact ⟨v,ys,⟨h1,h2,h3,h4,h6,h7⟩,h5⟩
theorem DiskV.chg (h:DiskV w F g v o a l ys) (hc:Chg G w w') (hd:∀ k,F k→¬ G k):DiskV w' F g v o a l ys :=
 ⟨hc.blk h.blk (hd g h.inG),h.fil.chg hc hd,h.vg,h.yg,h.inG,fun k hk=>Nat.lt_of_lt_of_le (h.lt k hk) hc.size⟩
theorem DiskV.ext (h:DiskV w F g v o a l ys) (hb:Below w.heap.size w w'):DiskV w' F g v o a l ys:=h.chg (G:=fun _=>False) (.of_below hb) fun _ _ h=>h
theorem DiskV.drew (h:DiskV w F g v o a l ys):DiskV w.drew F g v o a l ys:=h.ext ((Below.refl _ _).drew)
theorem DiskV.mono (h:DiskV w F g v o a l ys) (hg:∀ k,F k→G k) (hl:∀ k,G k→k<w.heap.size):DiskV w G g v o a l ys:=⟨h.blk,h.fil.mono hg,h.vg,h.yg,hg g h.inG,hl⟩
theorem DiskV.ff (h:DiskV w1 F g v o a l ys) (hs:w.heap.size≤w1.heap.size):DiskV w1 (FF F w w1) g v o a l ys:=h.mono (fun _=>.inl) fun k hk=>by
 rcases hk with h' | h'
 ·exact h.lt k h'
 ·exact h'.2
theorem DiskV.len_eq {d:Dk} (hy:ys.map Ent.fil=d.fs):ys.length=d.fs.length:=by rw [←hy,List.length_map]
theorem DiskV.setCell (h:DiskV w F g v o a l ys) (i:Nat) (u:Value) {o' a' l':Value} (he:(#[v,o,a,l]:Array Value).setIfInBounds i u=#[v,o',a',l']) :
 DiskV (w.setCell ⟨g,i,none⟩ u) F g v o' a' l' ys∧Chg (fun k=>k=g) w (w.setCell ⟨g,i,none⟩ u):=by
 have hc:Chg (fun k=>k=g) w (w.setCell ⟨g,i,none⟩ u):=Chg.setCell (F:=fun k=>k=g) (Chg.refl _ w) (p:=⟨g,i,none⟩) rfl u;have hb:=h.blk.set i u;rw [he] at hb;refine ⟨⟨hb,⟨?_,?_,h.fil.apart,h.fil.off,h.fil.inV,h.fil.inF⟩,h.vg,h.yg,h.inG,fun k hk=>Nat.lt_of_lt_of_le (h.lt k hk) hc.size⟩,hc⟩
 ·exact hc.ownR h.fil.row fun k hk e=>h.vg (by rw [hk,e])
 ·exact fun y hy=>hc.ownB (h.fil.data y hy) fun k hk e=>h.yg y hy (by rw [hk,e])
structure Datas (w:World) (F:Nat→Prop) (g:Nat) (v:Value) (zs:List Ent):Prop where
 data:∀ y ∈ zs,OwnB w 0 5 y.v y.data
 apart:zs.Pairwise (fun a b=>Apart a.v b.v)
 off:∀ y ∈ zs,Apart v y.v
 inF:∀ y ∈ zs,∀ k,y.v.ownBlock=some k→F k
 yg:∀ y ∈ zs,y.v.ownBlock≠some g
theorem DiskV.datas (h:DiskV w F g v o a l ys):Datas w F g v ys:=⟨h.fil.data,h.fil.apart,h.fil.off,h.fil.inF,h.yg⟩
theorem Datas.sub (h:Datas w F g v ys) (hs:zs.Sublist ys):Datas w F g v zs :=
 ⟨fun y hy=>h.data y (hs.subset hy),h.apart.sublist hs,fun y hy=>h.off y (hs.subset hy),fun y hy=>h.inF y (hs.subset hy),fun y hy=>h.yg y (hs.subset hy)⟩
theorem Datas.ins (h:Datas w F g v ys) {y:Ent} (k:Nat) (h1:OwnB w 0 5 y.v y.data) (h2:∀ x ∈ ys,Apart y.v x.v) (h3:Apart v y.v) (h4:∀ k,y.v.ownBlock=some k→F k) (h5:y.v.ownBlock≠some g):Datas w F g v (ys.take k++y::ys.drop k):=by
 have hm:∀ x,x ∈ ys.take k++y::ys.drop k→x=y∨x ∈ ys:=fun x hx=>by
  rcases List.mem_append.1 hx with hx | hx
  ·exact .inr (List.mem_of_mem_take hx)
  ·rcases List.mem_cons.1 hx with hx | hx
   ·exact .inl hx
   ·exact .inr (List.mem_of_mem_drop hx)
 refine ⟨fun x hx=>?_,?_,fun x hx=>?_,fun x hx=>?_,fun x hx=>?_⟩
 ·rcases hm x hx with rfl | hx
  ·exact h1
  ·exact h.data x hx
 ·have hp:=h.apart;rw [←List.take_append_drop k ys,List.pairwise_append] at hp;rw [List.pairwise_append];refine ⟨hp.1,?_,fun x hx z hz=>?_⟩
  ·rw [List.pairwise_cons];exact ⟨fun z hz=>h2 z (List.mem_of_mem_drop hz),hp.2.1⟩
  ·rcases List.mem_cons.1 hz with rfl | hz
   ·exact (h2 x (List.mem_of_mem_take hx)).symm
   ·exact hp.2.2 x hx z hz
 ·rcases hm x hx with rfl | hx
  ·exact h3
  ·exact h.off x hx
 ·rcases hm x hx with rfl | hx
  ·exact h4
  ·exact h.inF x hx
 ·rcases hm x hx with rfl | hx
  ·exact h5
  ·exact h.yg x hx
theorem DiskV.putRow (h:DiskV w F g v o a l ys) (hg:w.grownBy w1 v.ownBlock) {v1:Value} (own:OwnR entE w1 0 96 v1 zs) (hv:v1.ownBlock=v.ownBlock∨∀ n,v1.ownBlock=some n→w.heap.size≤n) (hz:Datas w F g v zs) :
 DiskV (w1.setCell ⟨g,0,none⟩ v1) (FF F w (w1.setCell ⟨g,0,none⟩ v1)) g v1 o a l zs∧Chg F w (w1.setCell ⟨g,0,none⟩ v1):=by
 have c1:Chg F w w1:=.of_grown hg h.fil.inV;have hc:Chg F w (w1.setCell ⟨g,0,none⟩ v1):=c1.setCell h.inG v1;have hs:(w1.setCell ⟨g,0,none⟩ v1).heap.size=w1.heap.size:=by simp [World.setCell]
 have hb1:Blk w1 g #[v,o,a,l] 90:=h.blk.grown hg h.vg;have hgl:g<w.heap.size:=h.lt g h.inG;have hv1g:v1.ownBlock≠some g:=by
  intro e
  rcases hv with hv | hv
  ·exact h.vg (by rw [←hv,e])
  ·have:=hv g e;omega
 have hcg:Chg (fun k=>k=g) w1 (w1.setCell ⟨g,0,none⟩ v1):=Chg.setCell (F:=fun k=>k=g) (Chg.refl _ w1) (p:=⟨g,0,none⟩) rfl v1;refine ⟨⟨hb1.set 0 v1,⟨?_,?_,hz.apart,?_,?_,?_⟩,hv1g,hz.yg,.inl h.inG,?_⟩,hc⟩
 ·exact hcg.ownR own fun k hk e=>hv1g (by rw [hk,e])
 ·intro y hy;refine hcg.ownB ?_ fun k hk e=>hz.yg y hy (by rw [hk,e]);refine Own.grown (hz.data y hy) hg ?_
  cases hq:y.v.ownBlock with
  | none=>exact .inl rfl
  | some k=>exact .inr fun e=>(hz.off y hy).symm k hq e.symm
 ·intro y hy k hk
  rcases hv with hv | hv
  ·exact hz.off y hy k (by rw [←hv,hk])
  ·intro e;have h1:=hv k hk;have h2:=h.lt k (hz.inF y hy k e);omega
 ·intro k hk
  rcases hv with hv | hv
  ·exact .inl (h.fil.inV k (by rw [←hv,hk]))
  ·exact .inr ⟨hv k hk,by rw [hs];exact (OwnR.lt own k hk).2⟩
 ·exact fun y hy k hk=>.inl (hz.inF y hy k hk)
 ·intro k hk
  rcases hk with hk | hk
  ·exact Nat.lt_of_lt_of_le (h.lt k hk) hc.size
  ·exact hk.2
theorem DiskV.setEnt {gv n cap:Nat} (h:DiskV w F g (.slice (some ⟨gv,0,none⟩) n cap) o a l ys) {k:Nat} (hk:k<ys.length) {y:Ent} (c:Chg (fun b=>ys[k].v.ownBlock=some b) w w1) (ow:OwnB w1 0 5 y.v y.data)
 (hw:y.v.ownBlock=ys[k].v.ownBlock∨∀ n,y.v.ownBlock=some n→w.heap.size≤n) (row:OwnR entE w2 0 96 (.slice (some ⟨gv,0,none⟩) n cap) (ys.set k y)) (hg:w1.grownBy w2 (some gv)) :
 DiskV w2 (FF F w w2) g (.slice (some ⟨gv,0,none⟩) n cap) o a l (ys.set k y)∧Chg F w w2:=by
 have hmem:ys[k] ∈ ys:=List.getElem_mem hk;have c1:Chg F w w1:=c.mono fun b _ hb=>h.fil.inF _ hmem b hb;have c2:Chg (fun b=>b=gv) w1 w2:=.of_grown hg fun b hb=>by cases hb;rfl
 have hFv:F gv:=h.fil.inV gv rfl;have hc:Chg F w w2:=c1.trans c2 fun b _ hb=>by rw [hb];exact hFv
 have hgl:g<w.heap.size:=h.lt g h.inG;have hgvl:gv<w.heap.size:=h.lt gv hFv;have hvg:gv≠g:=fun e=>h.vg (by rw [e];rfl);have hyk:=h.yg _ hmem;have hyg:y.v.ownBlock≠some g:=by
  intro e
  rcases hw with hw | hw
  ·exact hyk (by rw [←hw,e])
  ·have:=hw g e;omega
 have hyv:y.v.ownBlock≠some gv:=by
  intro e
  rcases hw with hw | hw
  ·exact h.fil.off _ hmem gv rfl (by rw [←hw,e])
  ·have:=hw gv e;omega
 have hnew:∀ (j:Nat) (hj:j<ys.length),j≠k→Apart ys[j].v y.v:=fun j hj hjk b hb e=>by
  rcases hw with hw | hw
  ·have h1:Apart ys[j].v ys[k].v:=by
    rcases Nat.lt_or_gt_of_ne hjk with hlt | hgt
    ·exact List.pairwise_iff_getElem.1 h.fil.apart j k hj hk hlt
    ·exact (List.pairwise_iff_getElem.1 h.fil.apart k j hk hj hgt).symm
   exact h1 b hb (by rw [←hw,e])
  ·have h1:=hw b e;have h2:=h.lt b (h.fil.inF _ (List.getElem_mem hj) b hb);omega
 have hof:∀ z ∈ ys.set k y,z=y∨∃ (j:Nat) (hj:j<ys.length),j≠k∧z=ys[j]:=fun z hz=>by
  obtain ⟨j,hj,rfl⟩:=List.getElem_of_mem hz;rw [List.length_set] at hj;rw [List.getElem_set]
  by_cases e:k=j
  ·rw [if_pos e];exact .inl rfl
  ·rw [if_neg e];exact .inr ⟨j,hj,fun h=>e h.symm,rfl⟩
 refine ⟨⟨?_,⟨row,?_,?_,?_,?_,?_⟩,h.vg,?_,.inl h.inG,?_⟩,hc⟩
 ·exact c2.blk (c.blk h.blk (fun e=>hyk e)) (fun e=>hvg e.symm)
 ·intro z hz
  rcases hof z hz with rfl | ⟨j,hj,hjk,rfl⟩
  ·exact c2.ownB ow fun b hb e=>hyv (by rw [hb,e])
  ·refine c2.ownB (c.ownB (h.fil.data _ (List.getElem_mem hj)) fun b hb e=>?_) fun b hb e=>?_
   ·rcases Nat.lt_or_gt_of_ne hjk with hlt | hgt
    ·exact List.pairwise_iff_getElem.1 h.fil.apart j k hj hk hlt b hb e
    ·exact (List.pairwise_iff_getElem.1 h.fil.apart k j hk hj hgt) b e hb
   ·subst e;exact h.fil.off _ (List.getElem_mem hj) b rfl hb
 ·rw [List.pairwise_iff_getElem];intro i j hi hj hij;rw [List.length_set] at hi hj;rw [List.getElem_set,List.getElem_set]
  by_cases e1:k=i
  ·have e2:¬ k=j:=by omega
   rw [if_pos e1,if_neg e2];exact (hnew j hj (by omega)).symm
  ·rw [if_neg e1]
   by_cases e2:k=j
   ·rw [if_pos e2];exact hnew i hi (by omega)
   ·rw [if_neg e2];exact List.pairwise_iff_getElem.1 h.fil.apart i j hi hj hij
 ·intro z hz
  rcases hof z hz with rfl | ⟨j,hj,hjk,rfl⟩
  ·intro b hb e;cases hb;exact hyv e
  ·exact h.fil.off _ (List.getElem_mem hj)
 ·exact fun b hb=>.inl (h.fil.inV b hb)
 ·intro z hz b hb
  rcases hof z hz with rfl | ⟨j,hj,hjk,rfl⟩
  ·rcases hw with hw | hw
   ·exact .inl (h.fil.inF _ hmem b (by rw [←hw,hb]))
   ·exact .inr ⟨hw b hb,Nat.lt_of_lt_of_le (Own.lt ow b hb).2 c2.size⟩
  ·exact .inl (h.fil.inF _ (List.getElem_mem hj) b hb)
 ·intro z hz
  rcases hof z hz with rfl | ⟨j,hj,hjk,rfl⟩
  ·exact hyg
  ·exact h.yg _ (List.getElem_mem hj)
 ·intro b hb
  rcases hb with hb | hb
  ·exact Nat.lt_of_lt_of_le (h.lt b hb) hc.size
  ·exact hb.2
end
theorem takeWhile_at {α:Type} {p : α→Bool} {l:List α} {k:Nat} (hk:k≤l.length) (h1:∀ i (h:i<l.length),i<k→p l[i]=true) (h2:∀ h:k<l.length,p l[k]=false):(l.takeWhile p).length=k:=by
 induction l generalizing k with
 | nil=>simp at hk;simp [hk]
 | cons x r ih =>
  cases k with
  | zero =>
   have:=h2 (by simp);simp only [List.getElem_cons_zero] at this
   rw [List.takeWhile_cons,this];rfl
  | succ k =>
   have h0:=h1 0 (by simp) (by omega);simp only [List.getElem_cons_zero] at h0
   rw [List.takeWhile_cons,h0];simp only [if_true,List.length_cons]
   rw [ih (by simpa using hk) (fun i h hi=>h1 (i+1) (by simpa using h) (by omega)) (fun h=>h2 (by simpa using h))]
theorem posD_at {l:List Fil} {s:ByteArray} {k:Nat} (hk:k≤l.length) (h1:∀ i (h:i<l.length),i<k→ltS l[i].name s=true) (h2:∀ h:k<l.length,ltS l[k].name s=false):posD l s=k :=
 takeWhile_at hk h1 h2
theorem fil_get {ys:List Ent} {k:Nat} (h:k<(ys.map Ent.fil).length):(ys.map Ent.fil)[k]=(ys[k]'(by simpa using h)).fil:=by simp
theorem totD_cons (f:Fil) (l:List Fil):totD (f::l)=f.data.length+totD l:=by simp [totD]
theorem totD_append (l m:List Fil):totD (l++m)=totD l+totD m:=by simp [totD,List.sum_append]
theorem totD_take {l:List Fil} {k:Nat} (h:k<l.length):totD (l.take (k+1))=totD (l.take k)+l[k].data.length:=by
 rw [List.take_succ_eq_append_getElem h,totD_append];simp [totD]
theorem totD_take_le (l:List Fil) (k:Nat):totD (l.take k)≤totD l:=by
 have h:=totD_append (l.take k) (l.drop k);rw [List.take_append_drop] at h;omega
theorem totD_mem {l:List Fil} {f:Fil} (h:f ∈ l):f.data.length≤totD l:=by
 induction l with
 | nil=>simp at h
 | cons x r ih =>
  rw [totD_cons]
  rcases List.mem_cons.1 h with rfl | h
  ·omega
  ·have:=ih h;omega
end
end Go.Proofs.YtgpgcnmnfnnkjaaGreatDoor
