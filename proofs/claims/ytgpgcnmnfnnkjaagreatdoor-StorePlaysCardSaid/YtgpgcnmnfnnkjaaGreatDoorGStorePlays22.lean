import Derived.Test.YtgpgcnmnfnnkjaaGreatDoorGStorePlays11
import Derived.Test.YtgpgcnmnfnnkjaaGreatDoorGStorePlays21
set_option linter.unusedVariables false
set_option linter.unusedSimpArgs false
set_option maxRecDepth 100000
set_option maxHeartbeats 16000000
namespace Go.Proofs.YtgpgcnmnfnnkjaaGreatDoor
section
open Go Go.RowKit Go.PlainAid
theorem LInv.more {k m:Nat} {l:List Fil} (h:LInv k l) (hm:k≤m):LInv m l:=⟨h.sort,h.nam,h.kept,h.tot,by have:=h.len;omega⟩
theorem PInv.more {k m:Nat} {d:Dk} (h:PInv k d) (hm:k≤m):PInv m d:=⟨h.l.more hm,h.lo,h.hi⟩
theorem PInv.step0 {k:Nat} {d:Dk} (h:PInv k d) {f:List Fil→List Fil} (hf:LInv k (f d.fs)):PInv k (stepD d f).2:=by
 have hp:=h.pow;unfold stepD
 split
 ·exact ⟨hf,hp.lo,hp.hi⟩
 ·exact hp
theorem PInv.on0 {k:Nat} {d:Dk} (h:PInv k d) {s:ByteArray} {f:List Fil→Nat→List Fil} (hf:∀ j,j<d.fs.length→LInv k (f d.fs j)):PInv k (onD d s f).2:=by
 rcases knownD_spec d s with ⟨h1,_⟩ | ⟨j,hj,h1,h2⟩
 ·rw [onD_no h1];exact h
 ·rw [onD_yes h1 h2];exact h.step0 (f:=fun l=>f l j) (hf j hj)
theorem PInv.len0 {k:Nat} {d':Dk} (h:PInv (k+1) d') (hl:d'.fs.length≤k):PInv k d':=⟨⟨h.l.sort,h.l.nam,h.l.kept,h.l.tot,hl⟩,h.lo,h.hi⟩
theorem stepD_len {d:Dk} {f:List Fil→List Fil} (hf:(f d.fs).length≤d.fs.length):(stepD d f).2.fs.length≤d.fs.length:=by
 unfold stepD
 split
 ·exact hf
 ·rw [powD_fs];exact Nat.le_refl _
theorem onD_len {d:Dk} {s:ByteArray} {f:List Fil→Nat→List Fil} (hf:∀ j,(f d.fs j).length≤d.fs.length):(onD d s f).2.fs.length≤d.fs.length:=by
 rcases knownD_spec d s with ⟨h1,_⟩ | ⟨j,hj,h1,h2⟩
 ·rw [onD_no h1];exact Nat.le_refl _
 ·rw [onD_yes h1 h2];exact stepD_len (f:=fun l=>f l j) (hf j)
theorem PInv.remove0 {k:Nat} {d:Dk} (h:PInv k d) (s:ByteArray):PInv k (removeD d s).2:=h.on0 fun j _=>h.l.del j
theorem updD_len (l:List Fil) (k:Nat) (f:Fil→Fil):(updD l k f).length≤l.length:=by
 unfold updD;split<;>simp
theorem syncD_len (d:Dk) (s:ByteArray):(syncD d s).2.fs.length≤d.fs.length:=by
 unfold syncD;exact onD_len fun j=>updD_len _ _ _
theorem cutD_len (d:Dk) (s:ByteArray) (n:Int):(cutD d s n).2.fs.length≤d.fs.length:=by
 unfold cutD
 split
 ·exact Nat.le_refl _
 ·exact onD_len fun j=>updD_len _ _ _
theorem PInv.sync0 {k:Nat} {d:Dk} (h:PInv k d) (s:ByteArray):PInv k (syncD d s).2:=(PInv.sync h s).len0 (Nat.le_trans (syncD_len d s) h.l.len)
theorem PInv.cut0 {k:Nat} {d:Dk} (h:PInv k d) (s:ByteArray) (n:Int):PInv k (cutD d s n).2:=(PInv.cut h s n).len0 (Nat.le_trans (cutD_len d s n) h.l.len)
theorem PInv.then {k:Nat} {r:Int×Dk} {f:Dk→Int×Dk} (h:PInv k r.2) (hf:∀ d,PInv k d→PInv k (f d).2):PInv k (thenD r f).2:=by
 unfold thenD;split
 ·exact hf _ h
 ·exact h
theorem PInv.removes {k:Nat}:∀ (l:List Nat) (n:Nat) (d:Dk),PInv k d→PInv k (removesD l n d).2
 | [],_,_,h=>h
 | x::r,n,d,h=>by
  rw [removesD];split
  ·exact PInv.removes r n d h
  ·exact (h.remove0 _).then fun d h=>PInv.removes r n d h
theorem PInv.cutS {k:Nat} {d:Dk} (h:PInv k d) (n:Nat) (s:Sg):PInv k (Proofs.YtgpgcnmnfnnkjaaGreatDoor.cutS d n s).2:=by
 unfold Proofs.YtgpgcnmnfnnkjaaGreatDoor.cutS;split
 ·exact h.cut0 _ _
 ·exact h
theorem PInv.clean {k:Nat} {d:Dk} (h:PInv k d):PInv k (cleanW d).2:=by
 unfold cleanW cleanD;refine (h.cutS _ _).then fun d h=>(PInv.removes _ _ _ h).then fun d h=>?_
 split
 ·exact h.sync0 _
 ·exact h
theorem PInv.write {k:Nat} {d:Dk} (h:PInv k d) (n:Nat) (b:List UInt8):PInv (k+1) (writeD d n b).2:=by
 unfold writeD;exact (h.append _ _).then fun d h=>h.sync0 _
theorem PInv.lay {k:Nat} {d:Dk} (h:PInv k d) (n:Nat) (x:Hrd):PInv (k+1) (layW d n x).2.2:=by
 unfold layW;dsimp only;have h1:=h.write (n+1) (layB x)
 split
 ·split
  ·exact h1
  ·exact h1.remove0 _
 ·exact h1
theorem PInv.keepW {k:Nat} {w:Wl} {h:Hrd} {r:Int×Nat×Dk} (p:PInv k r.2.2):PInv k (Proofs.YtgpgcnmnfnnkjaaGreatDoor.keepW w h r).2.2:=by
 unfold Proofs.YtgpgcnmnfnnkjaaGreatDoor.keepW;split<;>exact p
theorem PInv.save {k:Nat} {d:Dk} (p:PInv k d) (w:Wl) (h:Hrd):PInv (k+1) (saveW d w h).2.2:=by
 unfold saveW
 repeat' (first | exact p.up | exact PInv.keepW (p.write _ _) | exact PInv.keepW (p.lay _ _) | split)
end
section
open Go Go.RowKit Go.PlainAid
theorem stepD_cases (d:Dk) (f:List Fil→List Fil):((stepD d f).1=18∧(stepD d f).2.fs=d.fs)∨((stepD d f).1=0∧(stepD d f).2.fs=f d.fs):=by
 cases h:(powD d).1 with
 | true=>rw [stepD_yes h];exact .inr ⟨rfl,rfl⟩
 | false=>rw [stepD_no h];exact .inl ⟨rfl,powD_fs d⟩
theorem onD_cases (d:Dk) (s:ByteArray) (f:List Fil→Nat→List Fil):((onD d s f).1≠0∧(onD d s f).2.fs=d.fs)∨((onD d s f).1=0∧∃ j,∃ hj:j<d.fs.length,idxD d.fs s=(j:Int)∧getF d.fs s=some d.fs[j]∧d.fs[j].name=s∧(onD d s f).2.fs=f d.fs j):=by
 rcases knownD_spec d s with ⟨h1,_⟩ | ⟨j,hj,h1,h2⟩
 ·rw [onD_no h1];exact .inl ⟨h1,rfl⟩
 ·rw [onD_yes h1 h2]
  rcases stepD_cases d (fun l=>f l j) with ⟨e1,e2⟩ | ⟨e1,e2⟩
  ·exact .inl ⟨by rw [e1];decide,e2⟩
  ·rcases find_idx d.fs s with ⟨q1,_⟩ | ⟨i,hi,q1,q2,q3⟩
   ·omega
   ·have:i=j:=by omega
    subst this;exact .inr ⟨e1,i,hi,h2,q2,q3,e2⟩
theorem get_del_self {l:List Fil} (hs:SortD l) {j:Nat} (hj:j<l.length) {s:ByteArray} (hn:l[j].name=s):getF (delD l j) s=none:=by
 cases h:getF (delD l j) s with
 | none=>rfl
 | some f =>
  exfalso
  obtain ⟨i,hi,_,e,en⟩:=get_at h;have hlen:(delD l j).length=l.length - 1:=by unfold delD;rw [List.length_append,List.length_take,List.length_drop];omega
  have hidx:=hs.idx hj;rw [hn] at hidx;have he:(delD l j)[i]?=some f:=by rw [List.getElem?_eq_getElem hi,e]
  unfold delD at he;have fin:∀ k,k≠j→l[k]?=some f→False:=fun k hk hq=>by
   obtain ⟨hkl,hkf⟩:=List.getElem?_eq_some_iff.1 hq;have h3:=hs.idx hkl;rw [hkf,en,hidx] at h3;omega
  by_cases hij:i<j
  ·rw [List.getElem?_append_left (by rw [List.length_take];omega),List.getElem?_take,if_pos hij] at he;exact fin i (by omega) he
  ·rw [List.getElem?_append_right (by rw [List.length_take];omega),List.getElem?_drop,List.length_take] at he;exact fin _ (by omega) he
theorem upd_self {l:List Fil} {s:ByteArray} {j:Nat} (hj:j<l.length) (hx:idxD l s=(j:Int)) (hg:getF l s=some l[j]) {g:Fil→Fil} (hn:∀ x,(g x).name=x.name):getF (updD l j g) s=some (g l[j]):=by
 have:=get_upd_self hg hn
 rwa [hx,Int.toNat_natCast] at this
theorem sync_cases (d:Dk) (s:ByteArray):((syncD d s).1≠0∧(syncD d s).2.fs=d.fs)∨((syncD d s).1=0∧∃ f,getF d.fs s=some f∧f.name=s∧getF (syncD d s).2.fs s=some ⟨s,f.data,f.data.length⟩):=by
 unfold syncD
 rcases onD_cases d s (fun l k=>updD l k fun f=>⟨f.name,f.data,f.data.length⟩) with h | ⟨h,j,hj,h1,h2,h3,h4⟩
 ·exact .inl h
 ·refine .inr ⟨h,d.fs[j],h2,h3,?_⟩;rw [h4,upd_self (g:=fun f=>⟨f.name,f.data,f.data.length⟩) hj h1 h2 (fun _=>rfl)];rw [h3]
theorem cut_cases (d:Dk) (s:ByteArray) (n:Nat):((cutD d s n).1≠0∧(cutD d s n).2.fs=d.fs)∨((cutD d s n).1=0∧∃ f,getF d.fs s=some f∧f.name=s∧getF (cutD d s n).2.fs s=some ⟨s,f.data.take n,min f.kept n⟩):=by
 unfold cutD
 split
 ·exact .inl ⟨by simp,rfl⟩
 ·rcases onD_cases d s (fun l k=>updD l k fun f=>⟨f.name,f.data.take (n:Int).toNat,min f.kept (n:Int).toNat⟩) with h | ⟨h,j,hj,h1,h2,h3,h4⟩
  ·exact .inl h
  ·refine .inr ⟨h,d.fs[j],h2,h3,?_⟩;rw [h4,upd_self (g:=fun f=>⟨f.name,f.data.take (n:Int).toNat,min f.kept (n:Int).toNat⟩) hj h1 h2 (fun _=>rfl)];rw [h3,Int.toNat_natCast]
theorem remove_cases {d:Dk} (hs:SortD d.fs) (s:ByteArray):((removeD d s).1≠0∧(removeD d s).2.fs=d.fs)∨((removeD d s).1=0∧getF d.fs s≠none∧getF (removeD d s).2.fs s=none):=by
 unfold removeD
 rcases onD_cases d s delD with h | ⟨h,j,hj,h1,h2,h3,h4⟩
 ·exact .inl h
 ·exact .inr ⟨h,by rw [h2];simp,by rw [h4];exact get_del_self hs hj h3⟩
theorem cut_other {s t:ByteArray} (d:Dk) (n:Int) (h:t≠s):getF (cutD d t n).2.fs s=getF d.fs s:=by
 unfold cutD
 split
 ·rfl
 ·exact onD_other d fun _ hj hn=>get_upd hj hn h fun _=>rfl
theorem crash_none (picks:List Int) {s:ByteArray}:∀ (l:List Fil) (i:Nat),getF l s=none→getF (crashTo picks l i) s=none
 | [],_,_=>rfl
 | x::r,i,h=>by
  unfold getF at h ⊢;rw [crashTo,List.find?_cons];rw [List.find?_cons] at h;have e:hasN s (tornD ((picks[i]?).getD 0) x)=hasN s x:=rfl;rw [e]
  cases hx:hasN s x with
  | true=>rw [hx] at h;cases h
  | false=>rw [hx] at h;exact crash_none picks r (i+1) h
theorem PInv.crash0 {k:Nat} {d:Dk} (h:PInv k d) (picks:List Int):PInv k (crashD d picks):=⟨h.l.crash picks,by show (-1:Int) ≤ -1;decide,by show (-1:Int)≤_;decide⟩
theorem PInv.arm0 {k:Nat} {d:Dk} (h:PInv k d) {n:Int} (hn:n≤9223372036854775807):PInv k (armD d n):=by
 refine ⟨h.l,?_,?_⟩
 ·show -1≤if n<0 then -1 else n;split<;>omega
 ·show (if n<0 then -1 else n)≤_;split<;>omega
end
section
open Go Go.RowKit Go.PlainAid
def Torn (tl T:List UInt8):Prop:=∃ n,n≤tl.length∧(T=tl.take n∨(0<n∧T=flipLast (tl.take n)))
theorem Torn.nil {T:List UInt8} (h:Torn [] T):T=[]:=by
 obtain ⟨n,hn,h | ⟨h0,h⟩⟩:=h
 ·rw [h];simp
 ·simp at hn;omega
theorem flipLast_app {a b:List UInt8} (h:b≠[]):flipLast (a++b)=a++flipLast b:=by
 have hp:0<b.length:=List.length_pos_iff.2 h;rw [flipLast_at (l:=a++b) (m:=a.length+(b.length - 1)) (by rw [List.length_append];omega),flipLast_at (l:=b) (m:=b.length - 1) (by omega)];rw [List.set_append_right _ _ (by omega),Nat.add_sub_cancel_left,List.getElem_append_right (by omega)]
 congr 3
 congr 1
 simp
theorem torn_file (pick:Int) (s:ByteArray) (kp tl:List UInt8):∃ T,Torn tl T∧tornD pick ⟨s,kp++tl,kp.length⟩=⟨s,kp++T,(kp++T).length⟩:=by
 rw [tornD_eq (f:=⟨s,kp++tl,kp.length⟩) (u:=tl.length) (by simp)];have hst:pick.toNat % (tl.length+1)<tl.length+1:=Nat.mod_lt _ (Nat.succ_pos _);have hL:(kp++tl).take (kp.length+pick.toNat % (tl.length+1))=kp++tl.take (pick.toNat % (tl.length+1)):=by
  rw [List.take_append,List.take_of_length_le (by omega),Nat.add_sub_cancel_left]
 by_cases hc:0<pick.toNat % (tl.length+1)∧pick.toNat / (tl.length+1) % 2=1
 ·have hne:tl.take (pick.toNat % (tl.length+1))≠[]:=fun e=>by
   have:=congrArg List.length e;rw [List.length_take,List.length_nil] at this;omega
  have e:tornB pick.toNat tl.length kp.length (kp++tl)=kp++flipLast (tl.take (pick.toNat % (tl.length+1))):=by
   unfold tornB;rw [if_pos hc,hL,flipLast_app hne]
  refine ⟨flipLast (tl.take (pick.toNat % (tl.length+1))),⟨_,by omega,.inr ⟨hc.1,rfl⟩⟩,?_⟩;dsimp only;rw [e]
 ·have e:tornB pick.toNat tl.length kp.length (kp++tl)=kp++tl.take (pick.toNat % (tl.length+1)):=by
   unfold tornB;rw [if_neg hc,hL]
  refine ⟨tl.take (pick.toNat % (tl.length+1)),⟨_,by omega,.inl rfl⟩,?_⟩;dsimp only;rw [e]
theorem torn_full (pick:Int) (s:ByteArray) (b:List UInt8):tornD pick ⟨s,b,b.length⟩=⟨s,b,b.length⟩:=by
 obtain ⟨T,h1,h2⟩:=torn_file pick s b [];rw [List.append_nil] at h2;rw [h2,h1.nil,List.append_nil]
end
section
open Go Go.RowKit Go.PlainAid
def hr1:Hrd:=⟨1,0,0,0,7,sNone,[]⟩
def hr2:Hrd:=⟨1,0,0,0,7,sNone,[⟨1,0,⟨#[120]⟩⟩]⟩
def hr3:Hrd:=⟨1,0,1,1,7,⟨#[115]⟩,[]⟩
def hr4:Hrd:=⟨0,9,0,0,7,sNone,[]⟩
def sW1:ByteArray:=⟨#[119,97,108,46,49]⟩
def sW2:ByteArray:=⟨#[119,97,108,46,50]⟩
def wr0:Wl:=⟨0,hrdV,false⟩
end
end Go.Proofs.YtgpgcnmnfnnkjaaGreatDoor
