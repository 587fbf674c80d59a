import Derived.Test.YtgpgcnmnfnnkjaaGreatDoorGStorePlays1
import Derived.StillTail
import Derived.Deep.RegionHeld3
import Derived.Deep.Slices
set_option linter.unusedVariables false
set_option linter.unusedSimpArgs false
set_option maxRecDepth 100000
set_option maxHeartbeats 16000000
namespace Go.Proofs.YtgpgcnmnfnnkjaaGreatDoor
section
open Go
section
variable {P:Program} {ops:Array Oper} {Q:Exit→Act→World→Prop} {md:Region.Mode} {S:World→Prop}
def wpAnyF (P:Program) (md:Region.Mode) (ops:Array Oper) (Q:Exit→Act→World→Prop) (S:World→Prop) (n:Nat):Nat→Array Bool→Act→World→Prop
 | 0,listed,a,w=>Region.ready md ops listed=[]∧Q .normal a w
 | f+1,listed,a,w =>
  (Region.ready md ops listed=[]→Q .normal a w) ∧
  ∀ i ∈ Region.ready md ops listed,wpOp P ops Q i (fun a' w'=>(i<n→S w')∧wpAnyF P md ops Q S n f (listed.setIfInBounds i true) a' w') a w
theorem wpAny_of_F {n:Nat}:∀ (f:Nat) (listed:Array Bool) (a:Act) (w:World),wpAnyF P md ops Q S n f listed a w→wpAny P md ops Q f listed a w
 | 0,_,_,_,h=>h
 | f+1,_,_,_,h=>⟨h.1,fun i hi=>wpOp_mono (fun a' w' h'=>wpAny_of_F f _ a' w' h'.2) (h.2 i hi)⟩
theorem wpAnyF_first {n i:Nat} {oi:Oper} {v:Value} (hi:ops[i]?=some oi) (hsel:∀ (j:Nat) (o:Oper) cs b,ops[j]?=some o→o.op≠.select cs b)
 (hs:Region.sinkB md ops n=true) (hc:Region.chainB md ops n=true) (hn:n<ops.size) (hin:i<n)
 (hQ:∀ c a w,Q (.panic c) (a.put oi.dst v) w→Q (.panic c) a w) :
 ∀ (f:Nat) (listed:Array Bool) (a:Act) (w:World),HeadInv md ops n listed →
  (∀ j oj,ops[j]?=some oj→j≠i→listed.getD j true=false→(∀ e ∈ oj.after,Region.binds md e=true→e.on≠i)→oi.apart ops oj=true) →
  i ∈ Region.ready md ops listed→YieldsIf P ops S oi v a→S w →
  wpAnyF P md ops Q S n f (listed.setIfInBounds i true) (a.put oi.dst v) w→wpAnyF P md ops Q S n (f+1) listed a w:=by
 intro f
 induction f with
 | zero =>
  intro listed a w inv _ hr hy hS H;refine ⟨fun h=>(by rw [h] at hr;cases hr),fun j hj=>?_⟩
  by_cases hji:j=i
  ·subst hji;exact hy.wpOp hi hS ⟨fun _=>hS,H⟩
  ·have:=ready_mono hj hji;rw [H.1] at this
   cases this
 | succ f ih =>
  intro listed a w inv hfree hr hy hS H;have hun:=(mem_ready.1 hr).1;refine ⟨fun h=>(by rw [h] at hr;cases hr),fun j hj=>?_⟩;have hjn:j<n:=by
   rcases Nat.lt_or_ge j n with h | h
   ·exact h
   ·exact absurd hj (tail_waits hs hc hn inv _ i rfl hin hun j h)
  by_cases hji:j=i
  ·subst hji;exact hy.wpOp hi hS ⟨fun _=>hS,H⟩
  ·have h1:=H.2 j (ready_mono hj hji);obtain ⟨hjun,oj,hoj,hall⟩:=mem_ready.1 hj;have hnot:∀ e ∈ oj.after,Region.binds md e=true→e.on≠i:=fun e he hb heq=>by
    have h1:=hall e he hb;rw [heq,getD_both hun] at h1
    cases h1
   have h2:=wpOp_putIf hoj (hfree j oj hoj hji hjun hnot) (fun cs b=>hsel i oi cs b hi) (fun cs b=>hsel j oj cs b hoj) hQ hy h1;have hfree':∀ k ok,ops[k]?=some ok→k≠i→(listed.setIfInBounds j true).getD k true=false →
    (∀ e ∈ ok.after,Region.binds md e=true→e.on≠i)→oi.apart ops ok=true:=fun k ok hk hki hun hno=>by
    refine hfree k ok hk hki ?_ hno
    by_cases hjk:j=k
    ·subst hjk;exact hjun
    ·rw [getD_set_ne true hjk] at hun;exact hun
   refine wpOp_mono (fun a' w' h3=>⟨h3.2.1,ih (listed.setIfInBounds j true) a' w' (inv.set hj hjn) hfree' (ready_mono hr (Ne.symm hji)) h3.1 (h3.2.1 hjn) ?_⟩) h2;rw [Array.setIfInBounds_comm _ _ hji];exact h3.2.2
def headB (md:Region.Mode) (ops:Array Oper) (n:Nat) (listed:Array Bool):Bool :=
 decide (listed.size=ops.size) && ((List.range ops.size).all (fun j => !listed.getD j false || ((ops[j]?).map (·.after.all fun e => !Region.binds md e || listed.getD e.on false)).getD true) && (List.range ops.size).all (fun t=>decide (t<n) || !listed.getD t true))
theorem headB_spec {n:Nat} {listed:Array Bool} (h:headB md ops n listed=true):HeadInv md ops n listed:=by
 simp only [headB,Bool.and_eq_true,decide_eq_true_eq,List.all_eq_true,List.mem_range,Bool.or_eq_true,Bool.not_eq_true'] at h
 obtain ⟨h1,h2,h3⟩:=h;refine ⟨h1,fun j oj hj hl e he hb=>?_,fun t ht ht'=>?_⟩
 ·have hjs:j<ops.size:=(Array.getElem?_eq_some_iff.1 hj).1
  rcases h2 j hjs with h | h
  ·rw [hl] at h;cases h
  ·rw [hj] at h;simp only [Option.map_some,Option.getD_some,Array.all_eq_true,Bool.or_eq_true,Bool.not_eq_true'] at h
   obtain ⟨k,hk,rfl⟩:=Array.getElem_of_mem he
   rcases h k hk with h | h
   ·rw [hb] at h;cases h
   ·exact h
 ·rcases h3 t ht' with h | h
  ·omega
  ·exact h
theorem wpAnyF_take {n i:Nat} {oi:Oper} {v:Value} {f:Nat} {listed:Array Bool} {a:Act} {w:World} (hi:ops[i]?=some oi)
 (hl:(Region.noSelect ops && (Region.sinkB md ops n && (Region.chainB md ops n && decide (n<ops.size))))=true) (hin:i<n) (hh:headB md ops n listed=true)
 (hf:Region.free md ops listed i=true) (hr:(Region.ready md ops listed).contains i=true)
 (hQ:∀ c a w,Q (.panic c) (a.put oi.dst v) w→Q (.panic c) a w) (hy:YieldsIf P ops S oi v a) (hS:S w)
 (h:wpAnyF P md ops Q S n f (listed.setIfInBounds i true) (a.put oi.dst v) w):wpAnyF P md ops Q S n (f+1) listed a w:=by
 simp only [Bool.and_eq_true,decide_eq_true_eq] at hl
 exact wpAnyF_first hi (Region.noSelect_spec hl.1) hl.2.1 hl.2.2.1 hl.2.2.2 hin hQ f listed a w (headB_spec hh) (Region.free_spec hi hf) (by simpa using hr) hy hS h
theorem wpAnyF_all {n:Nat} {rs:List Nat} {f:Nat} {listed:Array Bool} {a:Act} {w:World} (hr:Region.ready md ops listed=rs) (hne:rs≠[])
 (h:∀ i ∈ rs,wpOp P ops Q i (fun a' w'=>(i<n→S w')∧wpAnyF P md ops Q S n f (listed.setIfInBounds i true) a' w') a w):wpAnyF P md ops Q S n (f+1) listed a w :=
 ⟨fun h0=>absurd (hr ▸ h0) hne,hr ▸ h⟩
theorem wpAnyF_done {n:Nat} {listed:Array Bool} {a:Act} {w:World} (hr:Region.ready md ops listed=[]) (h:Q .normal a w) :
 ∀ f,wpAnyF P md ops Q S n f listed a w
 | 0=>⟨hr,h⟩
 | _+1=>⟨fun _=>h,by rw [hr];simp⟩
theorem wp_region_F {id n:Nat} {a:Act} {w:World} (hm:P.follows .mixedOrders=true)
 (h:wpAnyF P .any ops Q S n ops.size (Array.replicate ops.size false) a w.drew):(Code.region id ops true).wp P Q a w :=
 wp_region_any hm (wpAny_of_F _ _ _ _ h)
theorem wpAnyF_last {n:Nat} {o:Oper} {f:Nat} {listed:Array Bool} {a:Act} {w:World} (hr:Region.ready md ops listed=[n]) (ho:ops[n]?=some o) (hd:Region.ready md ops (listed.setIfInBounds n true)=[])
 (h:∀ K:Act→World→Prop,(∀ a w,Q .normal a w→K a w)→if Region.wanted o (yielded ops a.tmps)=true then Oper.wp P o a w K Q else K (a.put o.dst undef) w):wpAnyF P md ops Q S n (f+1) listed a w :=
 wpAnyF_all hr (by simp) fun i hi=>by
  simp only [List.mem_cons,List.not_mem_nil,or_false] at hi
  subst hi;exact wpOp_step ho fun K' hK=>h K' (fun a w hq=>hK a w ⟨fun hh=>absurd hh (Nat.lt_irrefl _),wpAnyF_done hd hq f⟩)
end
end
section
open Go
section
variable {P:Program} {ops:Array Oper} {Q:Exit→Act→World→Prop} {md:Region.Mode} {S:World→Prop}
def bare (dst : Option Tmp) (op : Op) (ty : TypeId) : Oper := ⟨dst, op, ty, "", #[], none⟩
def lookB (ops:Array Oper) (i:Nat):Option (Option Tmp×Op×TypeId×Option (Nat×Bool)):=(ops[i]?).map fun o=>(o.dst,o.op,o.type,o.guard)
theorem look_at {i:Nat} {dst:Option Tmp} {op:Op} {ty:TypeId} (h:lookB ops i=some (dst,op,ty,none)):∃ oi,ops[i]?=some oi∧oi.dst=dst∧oi.guard=none∧(∀ ρ,execOp ρ oi=execOp ρ (bare dst op ty)):=by
 unfold lookB at h
 cases ho:ops[i]? with
 | none=>rw [ho] at h;cases h
 | some oi =>
  rw [ho] at h
  cases oi with
  | mk d o t p af g =>
   simp only [Option.map_some,Option.some.injEq,Prod.mk.injEq] at h
   obtain ⟨rfl,rfl,rfl,rfl⟩:=h;exact ⟨_,rfl,rfl,rfl,fun ρ=>by unfold execOp bare;rfl⟩
def takeB (md:Region.Mode) (ops:Array Oper) (n i:Nat) (listed:Array Bool):Bool :=
 (Region.noSelect ops && (Region.sinkB md ops n && (Region.chainB md ops n && decide (n<ops.size)))) && (decide (i<n) && (headB md ops n listed && (Region.free md ops listed i && (Region.ready md ops listed).contains i)))
theorem wpAnyF_tk {n:Nat} (i:Nat) (dst:Option Tmp) (op:Op) (ty:TypeId) {v:Value} {f:Nat} {listed:Array Bool} {a:Act} {w:World} (hi:lookB ops i=some (dst,op,ty,none))
 (hb:takeB md ops n i listed=true) (hQ:∀ c a w,Q (.panic c) (a.put dst v) w→Q (.panic c) a w)
 (hy:∀ w,S w→(execOp a.eval (bare dst op ty)).run P w=.ok (.value v) w) (hS:S w)
 (h:wpAnyF P md ops Q S n f (listed.setIfInBounds i true) (a.put dst v) w):wpAnyF P md ops Q S n (f+1) listed a w:=by
 obtain ⟨oi,h0,rfl,hg,hx⟩:=look_at hi;unfold takeB at hb;simp only [Bool.and_eq_true] at hb
 obtain ⟨⟨b1,b2,b3,b4⟩,h2,h3,h4,h5⟩:=hb;exact wpAnyF_take h0 (by simp only [b1,b2,b3,b4,Bool.and_true]) (by simpa using h2) h3 h4 h5 hQ (.inl ⟨by simp [Region.wanted,hg],fun w hs=>by rw [hx];exact hy w hs⟩) hS h
theorem bare_wp {oi:Oper} {dst:Option Tmp} {op:Op} {ty:TypeId} {a:Act} {w:World} {K:Act→World→Prop} (hd:oi.dst=dst) (hg:oi.guard=none) (hx:∀ ρ,execOp ρ oi=execOp ρ (bare dst op ty))
 {X:Prop} (h:if Region.wanted (bare dst op ty) (yielded ops a.tmps)=true then Oper.wp P (bare dst op ty) a w K Q else X):if Region.wanted oi (yielded ops a.tmps)=true then Oper.wp P oi a w K Q else K (a.put oi.dst undef) w:=by
 rw [if_pos (by simp [Region.wanted,hg])];rw [if_pos (by simp [Region.wanted,bare])] at h;unfold Oper.wp at *;rw [hx];subst hd;exact h
theorem wpAnyF_one {n:Nat} (i:Nat) (dst:Option Tmp) (op:Op) (ty:TypeId) {f:Nat} {listed:Array Bool} {a:Act} {w:World} (hi:lookB ops i=some (dst,op,ty,none)) (hr:Region.ready md ops listed=[i])
 (h:∀ K:Act→World→Prop,(∀ a' w',S w'→(S w'→wpAnyF P md ops Q S n f (listed.setIfInBounds i true) a' w')→K a' w')→if Region.wanted (bare dst op ty) (yielded ops a.tmps)=true then Oper.wp P (bare dst op ty) a w K Q else False):wpAnyF P md ops Q S n (f+1) listed a w:=by
 obtain ⟨oi,h0,hd,hg,hx⟩:=look_at hi;exact wpAnyF_all hr (by simp) fun j hj=>by
  simp only [List.mem_cons,List.not_mem_nil,or_false] at hj
  subst hj;exact wpOp_step h0 fun K' hK=>bare_wp hd hg hx (h K' (fun a w hs hq=>hK a w ⟨fun _=>hs,hq hs⟩))
theorem wpAnyF_two {n:Nat} (i j:Nat) (dst:Option Tmp) (op:Op) (ty:TypeId) (dst':Option Tmp) (op':Op) (ty':TypeId) {f:Nat} {listed:Array Bool} {a:Act} {w:World} (hi:lookB ops i=some (dst,op,ty,none)) (hj:lookB ops j=some (dst',op',ty',none)) (hr:Region.ready md ops listed=[i,j])
 (h:∀ K:Act→World→Prop,(∀ a' w',S w'→(S w'→wpAnyF P md ops Q S n f (listed.setIfInBounds i true) a' w')→K a' w')→if Region.wanted (bare dst op ty) (yielded ops a.tmps)=true then Oper.wp P (bare dst op ty) a w K Q else False)
 (h':∀ K:Act→World→Prop,(∀ a' w',S w'→(S w'→wpAnyF P md ops Q S n f (listed.setIfInBounds j true) a' w')→K a' w')→if Region.wanted (bare dst' op' ty') (yielded ops a.tmps)=true then Oper.wp P (bare dst' op' ty') a w K Q else False):wpAnyF P md ops Q S n (f+1) listed a w:=by
 obtain ⟨oi,h0,hd,hg,hx⟩:=look_at hi;obtain ⟨oj,h0',hd',hg',hx'⟩:=look_at hj;exact wpAnyF_all hr (by simp) fun m hm=>by
  simp only [List.mem_cons,List.not_mem_nil,or_false] at hm
  rcases hm with rfl | rfl
  ·exact wpOp_step h0 fun K' hK=>bare_wp hd hg hx (h K' (fun a w hs hq=>hK a w ⟨fun _=>hs,hq hs⟩))
  ·exact wpOp_step h0' fun K' hK=>bare_wp hd' hg' hx' (h' K' (fun a w hs hq=>hK a w ⟨fun _=>hs,hq hs⟩))
theorem wpAnyF_end {n:Nat} (dst:Option Tmp) (op:Op) (ty:TypeId) {f:Nat} {listed:Array Bool} {a:Act} {w:World} (hi:lookB ops n=some (dst,op,ty,none)) (hr:Region.ready md ops listed=[n]) (hdn:Region.ready md ops (listed.setIfInBounds n true)=[])
 (h:∀ K:Act→World→Prop,(∀ a w,Q .normal a w→K a w)→if Region.wanted (bare dst op ty) (yielded ops a.tmps)=true then Oper.wp P (bare dst op ty) a w K Q else False):wpAnyF P md ops Q S n (f+1) listed a w:=by
 obtain ⟨oi,h0,hd,hg,hx⟩:=look_at hi;exact wpAnyF_last hr h0 hdn fun K hK=>bare_wp hd hg hx (h K hK)
end
theorem lyA {α : Type _} {l : List α} {i : Nat} {a : α} : l.toArray.setIfInBounds i a = (l.set i a).toArray := List.setIfInBounds_toArray ..
theorem lyZ {α : Type _} {x a : α} {l : List α} : (x :: l).set 0 a = a :: l := rfl
theorem lyS {α : Type _} {x a : α} {l : List α} {n : Nat} : (x :: l).set (n + 1) a = x :: l.set n a := rfl
theorem lyB (d : Option Tmp) (o : Op) (t : TypeId) : bare d o t = ⟨d, o, t, "", #[], none⟩ := rfl
theorem lyP (a : Act) (v : Value) (d : Tmp) : a.put (some d) v = { tmps := a.tmps.setIfInBounds d v, defers := a.defers } := rfl
theorem tk {P : Program} {ops : Array Oper} {Q : Exit → Act → World → Prop} {md : Region.Mode} {S : World → Prop} {n : Nat} {dst : Option Tmp} {op : Op} {ty : TypeId} (v : Value) (i : Nat) {f : Nat} {listed : Array Bool} {a : Act} {w : World}
    (hy : ∀ w, S w → (execOp a.eval (bare dst op ty)).run P w = .ok (.value v) w) (hS : S w)
    (h : wpAnyF P md ops Q S n f (listed.setIfInBounds i true) (a.put dst v) w) (hi : lookB ops i = some (dst, op, ty, none) := by rfl)
    (hb : takeB md ops n i listed = true := by kernel_rfl) (hQ : ∀ c a w, Q (.panic c) (a.put dst v) w → Q (.panic c) a w := by exact fun _ _ _ h => h) : wpAnyF P md ops Q S n (f + 1) listed a w :=
  wpAnyF_tk i dst op ty hi hb hQ hy hS h
end
section
open Go Go.RowKit
theorem wpList_of_quiet {P:Program} {ops:Array Oper} {C:World→Prop} {K:Act→Prop} {Q:Exit→Act→World→Prop} (hK:∀ a w,C w→K a→Q .normal a w):∀ (rest:List Oper) (a:Act) (w:World),C w→wpQuiet P ops C K rest a→wpList P ops Q rest a w
 | [],a,w,hw,h=>hK a w hw h
 | o::rest,a,w,hw,h=>by
  unfold wpQuiet at h;unfold wpList
  split
  ·rename_i hq
   rw [if_pos hq] at h;exact .inl (Oper.wp_of_quiet hw (fun a' w' hw' h'=>wpList_of_quiet hK rest a' w' hw' h') h)
  ·rename_i hq
   rw [if_neg hq] at h;exact wpList_of_quiet hK rest _ w hw h
theorem wp_region_plain {P:Program} {id:Nat} {Q:Exit→Act→World→Prop} {a:Act} {W:World} {l:List Oper}
 (h:wpQuiet P l.toArray (fun w'=>w'=W) (fun a'=>Q .normal a' W) l a):(Code.region id l.toArray false).wp P Q a W :=
 wp_region_lit (wpList_of_quiet (C:=fun w'=>w'=W) (K:=fun a'=>Q .normal a' W) (fun a w hw h=>by subst hw;exact h) l a W rfl h)
theorem wp_region_plain2 {P:Program} {id:Nat} {Q:Exit→Act→World→Prop} {a:Act} {W:World} {l' l:List Oper} (hl:l'=l)
 (h:wpQuiet P l.toArray (fun w'=>w'=W) (fun a'=>Q .normal a' W) l a):(Code.region id l'.toArray false).wp P Q a W:=by
 subst hl;exact wp_region_plain h
end
section
open Go Go.RowKit Go.ChangeShapes Go.WideShapes Go.ChangeAt

theorem spot_none {W:World} {x:Addr} {v:Value} (h:W.cell? (x.add 0)=some v):x.spot=none:=by
 rw [show x.add 0=x from by simp [Addr.add]] at h;unfold World.cell? at h
 split at h
 ·by_cases hsp:x.spot.isSome=true
  ·rw [if_pos hsp] at h;cases h
  ·simpa using hsp
 ·cases h

end
section
open Go Go.RowKit Go.ChangeShapes Go.WideShapes Go.ChangeAt Go.Deep

def InSlice {H:Type} (P:Program) (t e:TypeId) (d dx:DataW H):Prop:=∀ n ∈ dx.weights P e,n ∈ d.weights P t
theorem weightsAll_mem {H:Type} {P:Program} {e:TypeId} {l:List (DataW H)} {d:DataW H} (hd:d ∈ l):∀ n ∈ d.weights P e,n ∈ DataW.weightsAll P e l:=by
 intro n hn
 induction l with
 | nil=>cases hd
 | cons x l ih =>
  simp only [DataW.weightsAll,List.mem_append]
  rcases List.mem_cons.1 hd with rfl | h
  ·exact .inl hn
  ·exact .inr (ih h)

theorem open_rd_core {α:Type} (E:Enc α) {H:Type} {enc:TypeId×Value→H} {P:Program} {W:World} {t e:TypeId} {fuel0:Nat} {cs0:List Value} {y0:DataW H×List MemPlace}
 (hu:P.underlying t=some (.slice e)) (hC:P.cellsOf e=E.sz) (G : α→DataW H→Prop)
 (elem:∀ fuel cs y,DataW.trod enc P W 0 (fun _=>true) true fuel e cs=some y→∃ x,cs=E.enc x∧G x y.1)
 (hf:DataW.trod enc P W 0 (fun _=>true) true fuel0 t cs0=some y0) :
 ∃ (v:Value) (l:List α),cs0=[v]∧Rd E W v l∧DLen y0.1 l.length∧∀ x ∈ l,∃ dx,G x dx∧InSlice P t e y0.1 dx:=by
 rcases open_slice hu hf with ⟨hcs,hx⟩ | ⟨a,len0,cap0,m,n,D,Pl,hcs,_,hl,hm,hmm,hx,hi⟩
 ·subst hx;exact ⟨_,[],hcs,Rd.nil W,.inl ⟨rfl,rfl⟩,by simp⟩
 ·subst hx;simp at hmm
  have hlm:len0≤m:=by omega
  have hel:∀ i,i<len0→∃ x,G x (D i)∧∀ j,j<E.sz→W.cell? (a.add (i * E.sz+j))=(E.enc x)[j]?:=fun i hlt=>by
   obtain ⟨cs',hc,ht⟩:=hi i (by omega);obtain ⟨x,rfl,hg⟩:=elem _ _ _ ht;rw [hC] at hc;obtain ⟨_,_,hat⟩:=World.cells?_some hc;exact ⟨x,hg,fun j hj=>by rw [←Go.Deep.add_add];exact hat j hj⟩
  have hex:∃ l:List α,l.length=len0∧∀ i (h:i<l.length),G l[i] (D i)∧∀ j,j<E.sz→W.cell? (a.add (i * E.sz+j))=(E.enc l[i])[j]?:=by
   clear hi hmm hl hm hlm hf hcs
   induction len0 with
   | zero=>exact ⟨[],rfl,fun i h=>by simp at h⟩
   | succ k ih =>
    obtain ⟨l,h1,h2⟩:=ih (fun i hlt=>hel i (by omega));obtain ⟨x,h3,h4⟩:=hel k (by omega);refine ⟨l++[x],by simp [h1],fun i hlt=>?_⟩
    by_cases hik:i<l.length
    ·rw [List.getElem_append_left hik];exact h2 i hik
    ·obtain rfl:i=k:=by simp at hlt;omega
     rw [List.getElem_append_right (by omega)];simp only [h1,Nat.sub_self,List.getElem_cons_zero]
     exact ⟨h3,h4⟩
  obtain ⟨l,h1,h2⟩:=hex;refine ⟨_,l,hcs,?_,.inr ⟨_,_,rfl,by simp [h1]⟩,fun x hx'=>?_⟩
  ·unfold Rd;rw [h1];refine ⟨by rw [E.all_length,h1],E.all_oneCell _,some a,cap0,rfl,hl,hm,fun h=>(by cases h),fun a' ha hn=>?_⟩
   cases ha
   have hpos:=E.pos;have h0:0<l.length:=by omega
   have hs:a.spot=none:=by
    have h3:=(h2 0 h0).2 0 hpos;have hj:0<(E.enc l[0]).length:=by rw [E.len];exact hpos
    rw [List.getElem?_eq_getElem hj,Nat.zero_mul,Nat.zero_add] at h3;exact spot_none h3
   refine ⟨hs,fun i u hu'=>?_⟩;have hlt:=(List.getElem?_eq_some_iff.1 hu').1;rw [E.all_length] at hlt;have hdm:=Nat.div_add_mod i E.sz;have hq:i / E.sz<l.length:=by rw [Nat.div_lt_iff_lt_mul hpos];exact hlt
   have hr:=Nat.mod_lt i hpos;have h3:=(h2 (i / E.sz) hq).2 (i % E.sz) hr;have h4:=E.all_get l (i / E.sz) hq (i % E.sz) hr;rw [Nat.mul_comm,hdm] at h4;rw [Nat.mul_comm,hdm, ←h4,hu',addr_add a hs] at h3;exact h3
  ·obtain ⟨i,hlt,rfl⟩:=List.getElem_of_mem hx';refine ⟨D i,(h2 i hlt).1,fun n hn=>?_⟩;simp only [DataW.weights,hu,List.mem_cons,List.mem_append]
   exact .inr (.inl (weightsAll_mem (List.mem_map.2 ⟨i,by simp;omega,rfl⟩) n hn))

theorem open_rd {α:Type} (E:Enc α) {H:Type} {enc:TypeId×Value→H} {P:Program} {W:World} {t e:TypeId} {base:Nat} {v:Value} {d:DataW H} {p:List MemPlace}
 (hu:P.underlying t=some (.slice e)) (hC:P.cellsOf e=E.sz) (G : α→DataW H→Prop)
 (elem:∀ fuel cs y,DataW.trod enc P W 0 (fun _=>true) true fuel e cs=some y→∃ x,cs=E.enc x∧G x y.1)
 (hok:Value.okWide P W .any base t v) (h:DataW.Trod enc P W 0 (fun _=>true) true t v d p) :
 ∃ l:List α,Rd E W v l∧DLen d l.length∧∀ x ∈ l,∃ dx,G x dx∧InSlice P t e d dx:=by
 obtain ⟨a0,len0,cap0,rfl⟩:=okWide_slice hu hok;obtain ⟨fuel,hf⟩:=h;obtain ⟨v',l,hcs,h1,h2,h3⟩:=open_rd_core E hu hC G elem hf;have e1:v'=.slice a0 len0 cap0:=by simpa [Value.cells] using hcs.symm
 subst e1;exact ⟨l,h1,h2,h3⟩

theorem weigh_string {H:Type} {P:Program} {t:TypeId} {s:ByteArray}:s.size ∈ (DataW.lit (.string s.data.toList):DataW H).weights P t:=by
 simp only [DataW.weights,List.mem_singleton]
 exact (Array.length_toList (xs:=s.data)).symm
theorem weigh_field {H:Type} {P:Program} {t:TypeId} {fs:Array Field} {parts:List (DataW H)} (hs:P.underlying t=some (.struct fs)) {j:Nat} {f:Field} {d:DataW H} (hf:fs[j]?=some f) (hd:parts[j]?=some d):∀ n ∈ d.weights P f.type,n ∈ (DataW.agg parts).weights P t:=by
 intro n hn;simp only [DataW.weights,hs]
 exact DataW.weights_mem_each (j:=j) (by rw [List.getElem?_map, ←Array.getElem?_toList] at *; simp [hf]) hd n hn
theorem reach_of {H:Type} {P:Program} {ts:List TypeId} {ds:List (DataW H)} (h:(DataW.weightsEach P ts ds).all (· ≤ reachBytes)=true) {j:Nat} {t:TypeId} {d:DataW H} (ht:ts[j]?=some t) (hd:ds[j]?=some d) {n:Nat} (hn:n ∈ d.weights P t):n≤140737488351232:=by
 have:=List.all_eq_true.1 h _ (DataW.weights_mem_each ht hd n hn);have h2:=of_decide_eq_true this;exact h2
end
section
open Go
section
variable {P:Program} {ops:Array Oper} {Q:Exit→Act→World→Prop} {md:Region.Mode} {S:World→Prop}
def gbare (g : Option (Nat × Bool)) : Oper := ⟨none, .move (.const (.bool true)), 0, "", #[], g⟩
theorem wanted_g {o:Oper} {g:Option (Nat×Bool)} (h:o.guard=g) (y:Nat→Option Bool):Region.wanted o y=Region.wanted (gbare g) y:=by
 unfold Region.wanted gbare;rw [h]
theorem look_atG {i:Nat} {dst:Option Tmp} {op:Op} {ty:TypeId} {g:Option (Nat×Bool)} (h:lookB ops i=some (dst,op,ty,g)):∃ oi,ops[i]?=some oi∧oi.dst=dst∧oi.guard=g∧(∀ ρ,execOp ρ oi=execOp ρ (bare dst op ty)):=by
 unfold lookB at h
 cases ho:ops[i]? with
 | none=>rw [ho] at h;cases h
 | some oi =>
  rw [ho] at h
  cases oi with
  | mk d o t p af g =>
   simp only [Option.map_some,Option.some.injEq,Prod.mk.injEq] at h
   obtain ⟨rfl,rfl,rfl,rfl⟩:=h;exact ⟨_,rfl,rfl,rfl,fun ρ=>by unfold execOp bare;rfl⟩
theorem wpAnyF_tg {n:Nat} (i:Nat) (dst:Option Tmp) (op:Op) (ty:TypeId) (g:Option (Nat×Bool)) {v:Value} {f:Nat} {listed:Array Bool} {a:Act} {w:World} (hi:lookB ops i=some (dst,op,ty,g))
 (hb:takeB md ops n i listed=true) (hw:Region.wanted (gbare g) (yielded ops a.tmps)=true) (hQ:∀ c a w,Q (.panic c) (a.put dst v) w→Q (.panic c) a w)
 (hy:∀ w,S w→(execOp a.eval (bare dst op ty)).run P w=.ok (.value v) w) (hS:S w)
 (h:wpAnyF P md ops Q S n f (listed.setIfInBounds i true) (a.put dst v) w):wpAnyF P md ops Q S n (f+1) listed a w:=by
 obtain ⟨oi,h0,rfl,hg,hx⟩:=look_atG hi;unfold takeB at hb;simp only [Bool.and_eq_true] at hb
 obtain ⟨⟨b1,b2,b3,b4⟩,h2,h3,h4,h5⟩:=hb;exact wpAnyF_take h0 (by simp only [b1,b2,b3,b4,Bool.and_true]) (by simpa using h2) h3 h4 h5 hQ (.inl ⟨by rw [wanted_g hg];exact hw,fun w hs=>by rw [hx];exact hy w hs⟩) hS h
theorem wpAnyF_sk {n:Nat} (i:Nat) (dst:Option Tmp) (op:Op) (ty:TypeId) (g:Option (Nat×Bool)) {f:Nat} {listed:Array Bool} {a:Act} {w:World} (hi:lookB ops i=some (dst,op,ty,g))
 (hb:takeB md ops n i listed=true) (hw:Region.wanted (gbare g) (yielded ops a.tmps)=false) (hQ:∀ c a w,Q (.panic c) (a.put dst undef) w→Q (.panic c) a w) (hS:S w)
 (h:wpAnyF P md ops Q S n f (listed.setIfInBounds i true) (a.put dst undef) w):wpAnyF P md ops Q S n (f+1) listed a w:=by
 obtain ⟨oi,h0,rfl,hg,hx⟩:=look_atG hi;unfold takeB at hb;simp only [Bool.and_eq_true] at hb
 obtain ⟨⟨b1,b2,b3,b4⟩,h2,h3,h4,h5⟩:=hb;exact wpAnyF_take h0 (by simp only [b1,b2,b3,b4,Bool.and_true]) (by simpa using h2) h3 h4 h5 hQ (.inr ⟨by rw [wanted_g hg];exact hw,rfl⟩) hS h
theorem wpAnyF_og {n:Nat} (i:Nat) (dst:Option Tmp) (op:Op) (ty:TypeId) (g:Option (Nat×Bool)) {f:Nat} {listed:Array Bool} {a:Act} {w:World} (hi:lookB ops i=some (dst,op,ty,g)) (hr:Region.ready md ops listed=[i]) (hw:Region.wanted (gbare g) (yielded ops a.tmps)=true)
 (h:∀ K:Act→World→Prop,(∀ a' w',S w'→(S w'→wpAnyF P md ops Q S n f (listed.setIfInBounds i true) a' w')→K a' w')→if Region.wanted (bare dst op ty) (yielded ops a.tmps)=true then Oper.wp P (bare dst op ty) a w K Q else False):wpAnyF P md ops Q S n (f+1) listed a w:=by
 obtain ⟨oi,h0,hd,hg,hx⟩:=look_atG hi;exact wpAnyF_all hr (by simp) fun j hj=>by
  simp only [List.mem_cons,List.not_mem_nil,or_false] at hj
  subst hj;exact wpOp_step h0 fun K' hK=>by
   have h2:=h K' (fun a w hs hq=>hK a w ⟨fun _=>hs,hq hs⟩);rw [if_pos (by rw [wanted_g hg];exact hw)];rw [if_pos (by simp [Region.wanted,bare])] at h2;unfold Oper.wp at *;rw [hx];subst hd;exact h2
end
end
end Go.Proofs.YtgpgcnmnfnnkjaaGreatDoor
