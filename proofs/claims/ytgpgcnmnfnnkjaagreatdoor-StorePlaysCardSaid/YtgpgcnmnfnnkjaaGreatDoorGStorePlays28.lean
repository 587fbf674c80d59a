import Derived.Test.YtgpgcnmnfnnkjaaGreatDoorGStorePlays22
import Derived.Test.YtgpgcnmnfnnkjaaGreatDoorGStorePlays27
set_option linter.unusedVariables false
set_option linter.unusedSimpArgs false
set_option maxRecDepth 100000
set_option maxHeartbeats 16000000
namespace Go.Proofs.YtgpgcnmnfnnkjaaGreatDoor
section
open Go Go.RowKit Go.PlainAid
theorem insW_mem (out:List Nat) (n x:Nat):x ∈ insW out n↔x=n∨x ∈ out:=by
 unfold insW
 constructor
 ·intro h
  rcases List.mem_append.1 h with h | h
  ·exact .inr (List.mem_of_mem_take h)
  ·rcases List.mem_cons.1 h with h | h
   ·exact .inl h
   ·exact .inr (List.mem_of_mem_drop h)
 ·intro h
  rcases h with rfl | h
  ·simp
  ·rw [←List.take_append_drop (posR out n out.length) out] at h
   rcases List.mem_append.1 h with h | h
   ·exact List.mem_append.2 (.inl h)
   ·exact List.mem_append.2 (.inr (List.mem_cons_of_mem _ h))
theorem segs_mem:∀ (l:List ByteArray) (out:List Nat) (n:Nat),n ∈ l.foldl segStep out↔n ∈ out∨(n≠0∧∃ s ∈ l,numW s=n)
 | [],out,n=>by simp
 | s::l,out,n=>by
  rw [List.foldl_cons,segs_mem l];unfold segStep
  constructor
  ·rintro (h | ⟨h0,t,ht,hn⟩)
   ·split at h
    ·exact .inl h
    ·rename_i hz
     rcases (insW_mem _ _ _).1 h with rfl | h
     ·exact .inr ⟨hz,s,by simp,rfl⟩
     ·exact .inl h
   ·exact .inr ⟨h0,t,by simp [ht],hn⟩
  ·rintro (h | ⟨h0,t,ht,hn⟩)
   ·split
    ·exact .inl h
    ·exact .inl ((insW_mem _ _ _).2 (.inr h))
   ·rcases List.mem_cons.1 ht with rfl | ht
    ·rw [if_neg (by rw [hn];exact h0)];exact .inl ((insW_mem _ _ _).2 (.inl hn.symm))
    ·exact .inr ⟨h0,t,ht,hn⟩
theorem posR_spec (out:List Nat) (n:Nat):∀ k,(∀ i,posR out n k≤i→i<k→n<out.getD i 0)∧(0<posR out n k→out.getD (posR out n k - 1) 0≤n)
 | 0=>⟨fun i h1 h2=>by omega,fun h=>by simp [posR] at h⟩
 | k+1=>by
  obtain ⟨h1,h2⟩:=posR_spec out n k;rw [posR]
  split
  ·rename_i hc
   refine ⟨fun i i1 i2=>?_,h2⟩
   by_cases e:i=k
   ·subst e;exact hc
   ·exact h1 i i1 (by omega)
  ·rename_i hc
   exact ⟨fun i i1 i2=>by omega,fun _=>by rw [Nat.add_sub_cancel];omega⟩
def RiseN (l:List Nat):Prop:=l.Pairwise (· ≤ ·)
theorem getD_at {l:List Nat} {i:Nat} (h:i<l.length):l.getD i 0=l[i]:=by rw [List.getD_eq_getElem?_getD,List.getElem?_eq_getElem h];rfl
theorem insW_rise {out:List Nat} (h:RiseN out) (n:Nat):RiseN (insW out n):=by
 obtain ⟨h1,h2⟩:=posR_spec out n out.length;have hle:=posR_le out n out.length;unfold insW RiseN at *;generalize posR out n out.length=p at *;have hp:=h;rw [List.pairwise_iff_getElem] at hp;rw [List.pairwise_append];have hlo:∀ a ∈ out.take p,a≤n:=fun a ha=>by
  obtain ⟨i,hi,rfl⟩:=List.getElem_of_mem ha;rw [List.length_take] at hi;rw [List.getElem_take];have h3:=h2 (by omega);rw [getD_at (by omega)] at h3
  by_cases e:i=p - 1
  ·subst e;exact h3
  ·exact Nat.le_trans (hp i (p - 1) (by omega) (by omega) (by omega)) h3
 have hhi:∀ b ∈ out.drop p,n≤b:=fun b hb=>by
  obtain ⟨i,hi,rfl⟩:=List.getElem_of_mem hb;rw [List.length_drop] at hi;rw [List.getElem_drop];have:=h1 (p+i) (by omega) (by omega);rw [getD_at (by omega)] at this;omega
 refine ⟨h.sublist (List.take_sublist _ _),List.pairwise_cons.2 ⟨hhi,h.sublist (List.drop_sublist _ _)⟩,fun a ha b hb=>?_⟩
 rcases List.mem_cons.1 hb with rfl | hb
 ·exact hlo a ha
 ·exact Nat.le_trans (hlo a ha) (hhi b hb)
theorem segs_rise:∀ (l:List ByteArray) (out:List Nat),RiseN out→RiseN (l.foldl segStep out)
 | [],out,h=>h
 | s::l,out,h=>by
  rw [List.foldl_cons];refine segs_rise l _ ?_;unfold segStep
  split
  ·exact h
  ·exact insW_rise h _
def segsD (d:Dk):List Nat:=segsW (d.fs.map (·.name))
theorem get_mem {l:List Fil} {s:ByteArray}:getF l s≠none↔∃ f ∈ l,f.name=s:=by
 constructor
 ·intro h
  cases hf:getF l s with
  | none=>exact absurd hf h
  | some f =>
   obtain ⟨j,hj,_,e,en⟩:=get_at hf;exact ⟨f,e ▸ List.getElem_mem hj,en⟩
 ·rintro ⟨f,hf,rfl⟩ h;exact get_none h f hf rfl
theorem segs_iff (d:Dk) (n:Nat):n ∈ segsD d↔okN n∧getF d.fs (nameW n)≠none:=by
 unfold segsD segsW;rw [segs_mem,get_mem]
 constructor
 ·rintro (h | ⟨h0,s,hs,hn⟩)
  ·cases h
  ·obtain ⟨f,hf,rfl⟩:=List.mem_map.1 hs;have hz:numW f.name≠0:=by rw [hn];exact h0
   obtain ⟨h1,h2⟩:=name_num hz;rw [hn] at h1 h2;exact ⟨h1,f,hf,h2⟩
 ·rintro ⟨h1,f,hf,e⟩;exact .inr ⟨by have:=h1.1;omega,f.name,List.mem_map.2 ⟨f,hf,rfl⟩,by rw [e];exact numW_name h1⟩
theorem fileW_get (d:Dk) (n:Nat):fileW d n=((getF d.fs (nameW n)).map (·.data)).getD []:=by unfold fileW;rw [read_getF]
theorem fileW_some {d:Dk} {n:Nat} {f:Fil} (h:getF d.fs (nameW n)=some f):fileW d n=f.data:=by rw [fileW_get,h];rfl
theorem pickW_spec (d:Dk) (n:Nat):∀ (l:List Nat),n ∈ l→(l.Pairwise fun a b=>b≤a)→(readSeg (fileW d n)).whole=true→(∀ k ∈ l,n<k→(readSeg (fileW d k)).whole=false)→pickW d l=some (n,readSeg (fileW d n))
 | [],h,_,_,_=>by cases h
 | k::r,h,hs,hw,hno=>by
  rw [show pickW d (k::r)=if (readSeg (fileW d k)).whole then some (k,readSeg (fileW d k)) else pickW d r from rfl];rw [List.pairwise_cons] at hs
  by_cases e:k=n
  ·subst e;rw [if_pos hw]
  ·have hr:n ∈ r:=by
    rcases List.mem_cons.1 h with h | h
    ·exact absurd h.symm e
    ·exact h
   have hlt:=hs.1 n hr;rw [if_neg (by rw [hno k (by simp) (by omega)];decide)];exact pickW_spec d n r hr hs.2 hw fun x hx=>hno x (by simp [hx])
theorem pickN_spec {d:Dk} {n:Nat} (hn:okN n) {f:Fil} (hf:getF d.fs (nameW n)=some f) (hw:(readSeg f.data).whole=true) (hno:∀ k,okN k→n<k→∀ g,getF d.fs (nameW k)=some g→(readSeg g.data).whole=false):pickN d=(n,readSeg f.data):=by
 have e:=fileW_some hf;have h1:n ∈ (segsD d).reverse:=List.mem_reverse.2 ((segs_iff d n).2 ⟨hn,by rw [hf];simp⟩);have h2:(segsD d).reverse.Pairwise fun a b=>b≤a:=List.pairwise_reverse.2 (segs_rise _ [] List.Pairwise.nil);have h3:=pickW_spec d n _ h1 h2 (by rw [e];exact hw) fun k hk hlt=>by
  obtain ⟨k1,k2⟩:=(segs_iff d k).1 (List.mem_reverse.1 hk)
  cases hg:getF d.fs (nameW k) with
  | none=>exact absurd hg k2
  | some g=>rw [fileW_some hg];exact hno k k1 hlt g hg
 unfold pickN
 show (pickW d (segsD d).reverse).getD (0,sg0)=_
 rw [h3,e];rfl
end
section
open Go Go.RowKit Go.PlainAid
theorem stoNamed (n : Nat) (N : Int) (hN : N = (n : Int)) (hn : n ≤ 9223372036854775807) (w : World) (htab : Lib.TabIs Tryz.prog w "internal/strconv.uint64pow10" .u64 Lib.pow10Tab) :
 Calls Tryz.prog 75 #[.int .i64 N] w fun e w'=>e=.returned (.string (nameP n))∧Below w.heap.size w w':=by
 subst hN;go_enter Tryz.func75,Tryz.ntmps75
 go_wp2_with fail
 refine (Tryz.strconv_Itoa (n:Int) (by omega) (by omega) w htab).mono ?_;rintro e w1 ⟨rfl,k,os,rfl⟩;rw [itoa_nat];have hlen:=digits_le 18 n (by omega);go_wp2_with fail
 go_ret
 exact ⟨by unfold nameP hdP;congr 2,Lib.below_grow _ w (Nat.le_refl _) k os⟩
theorem nameP_few {n:Nat} (h:n≤9223372036854775807):(nameP n).size≤24:=by
 have:=digits_le 18 n (by omega)
 show ((hdP++Lib.decDigits n).toArray).size≤24
 simp [hdP];omega
theorem all_cons {c:UInt8} (r:List UInt8) (h:digB c=true):(c::r).all digB=r.all digB:=by rw [List.all_cons,h,Bool.true_and]
theorem all_bad {c:UInt8} (r:List UInt8) (h:¬ digB c=true):(c::r).all digB=false:=by
 cases hc:digB c
 ·rw [List.all_cons,hc,Bool.false_and]
 ·exact absurd hc h
theorem ret_boolP {a b:Bool} (h:a=b):Ending.returned (.bool a)=.returned (.bool b):=by rw [h]
theorem stoNumbered (l:List UInt8) (w:World) :
 Calls Tryz.prog 112 #[.string ⟨l.toArray⟩] w fun e w'=>e=.returned (.bool (numbB l))∧Below w.heap.size w w':=by
 have hsz:=str_size l;have hn:numbB l=if l.length≤5∨l.take 5≠hdP∨19<l.length∨l[5]?=some 48 then false else (l.drop 5).all digB:=by
  unfold numbB
  split
  ·rename_i h
   rcases h with h | h | h | h<;>rw [decide_eq_true h]<;>simp
  ·rename_i h
   rw [decide_eq_false (fun q=>h (.inl q)),decide_eq_false (fun q=>h (.inr (.inl q))),decide_eq_false (fun q=>h (.inr (.inr (.inl q)))),decide_eq_false (fun q=>h (.inr (.inr (.inr q))))];simp
 have Hn:=Lib.hid hn;clear hn;generalize numbB l=R at *
 by_cases h1:l.length≤5
 ·have Hr:=Lib.hid (show R=false from Hn.out.trans (if_pos (.inl h1)));have hi:(l.length:Int)≤5:=by omega
  go_enter Tryz.func112,Tryz.ntmps112
  go_wp2
  go_ret
  exact ⟨ret_boolP Hr.out.symm,Below.refl _ _⟩
 ·have hi:¬ (l.length:Int)≤5:=by omega
  have hto:=run_strTo (P:=Tryz.prog) Tryz.underlying9 l 5 5 rfl (by omega);have hfr:=run_strFrom (P:=Tryz.prog) Tryz.underlying9 l 5 5 rfl (by omega);have h4s:5<(⟨l.toArray⟩:ByteArray).size:=by rw [hsz];omega
  have h4e:(⟨l.toArray⟩:ByteArray)[5]'h4s=l[5]'(by omega):=str_at l 5 h4s;have h4g:l[5]?=some (l[5]'(by omega)):=List.getElem?_eq_getElem _
  by_cases hall:l.take 5=hdP∧¬ 19<l.length∧(l[5]'(by omega)).toNat≠48
  ·obtain ⟨e2,e3,e4⟩:=hall;have hr:R=(l.drop 5).all digB:=Hn.out.trans (if_neg (by
    rintro (h | h | h | h)
    ·exact h1 h
    ·exact h e2
    ·exact e3 h
    ·rw [h4g] at h;exact e4 (by rw [Option.some.inj h];rfl)))
   have Hr:=Lib.hid hr;have e2':l.take 5=[115,110,97,112,46]:=e2;have e3':¬ (19:Int)<(l.length:Int):=by omega
   have e4':((((⟨l.toArray⟩:ByteArray)[5]'h4s).toNat:Int) == 48)=false:=by rw [h4e];simp;omega
   clear hr e2 e4 Hn h4g h4e;generalize l.drop 5=d at *;have hds:=str_size d;have hat:=fun i h=>str_at d i h;go_enter Tryz.func112,Tryz.ntmps112
   go_wp2
   go_loopw [4] (fun r w'=>∃ (pos:Nat),w'=w.iter ⟨d.toArray⟩ pos∧pos≤d.length∧Hid ((d.drop pos).all digB=d.all digB)) (fun _ w'=>d.length - w'.iterPos w.heap.size)
   case atStart=>exact ⟨0,rfl,by omega,rfl⟩
   case round =>
    obtain ⟨pos,rfl,hpl,hdg⟩:=hrel
    by_cases hp:pos<d.length
    ·have hps:pos<(⟨d.toArray⟩:ByteArray).size:=by rw [hds];exact hp
     have hdc:=List.drop_eq_getElem_cons hp;have hge:(⟨d.toArray⟩:ByteArray)[pos]'hps=d[pos]:=hat pos hps;have hdg2:=hdg.out;rw [hdc] at hdg2;have hnx:∀ ty,(Instr.next (.pointer (some ⟨w.heap.size,0,none⟩)) true ty).run Tryz.prog (w.iter ⟨d.toArray⟩ pos)=.ok (.tuple #[.bool true,.int .i64 pos,.int .i32 (Utf8.decode ⟨d.toArray⟩ pos).1]) (w.iter ⟨d.toArray⟩ (pos+(Utf8.decode ⟨d.toArray⟩ pos).2)):=fun ty=>run_next_any w ⟨d.toArray⟩ pos ty hps
     by_cases hb:digB d[pos]=true
     ·rw [all_cons _ hb] at hdg2;obtain ⟨q1,q2⟩:=(digB_iff _).1 hb;rw [decode_ascii _ pos hps (by rw [hge];omega),hge] at hnx;have Hd2:=Lib.hid hdg2;clear hdg hdg2 hdc hb hge;generalize d[pos]=c at *;go_wp2_with fail
      go_roundw
      case rel=>exact ⟨pos+1,rfl,by omega,Hd2.out⟩
      case measure=>simp;omega
     ·rw [all_bad _ hb] at hdg2;have hz:R=false:=Hr.out.trans hdg2.symm;have hbad:((Utf8.decode ⟨d.toArray⟩ pos).1:Int)<48∨(57:Int)<((Utf8.decode ⟨d.toArray⟩ pos).1:Int):=by
       rcases Nat.lt_or_ge d[pos].toNat 128 with h | h
       ·rw [decode_ascii _ pos hps (by rw [hge];exact h),hge]
        show ((d[pos].toNat:Nat):Int)<48∨_
        rcases Nat.lt_or_ge d[pos].toNat 48 with h5 | h5
        ·left;omega
        ·right
         rcases Nat.lt_or_ge 57 d[pos].toNat with h6 | h6
         ·show (57:Int)<((d[pos].toNat:Nat):Int);omega
         ·exact absurd ((digB_iff d[pos]).2 ⟨h5,h6⟩) hb
       ·have:=(decode_high _ pos hps (by rw [hge];exact h)).1;omega
      have Hz:=Lib.hid hz;clear hdg hdg2 hdc hb hge hz;generalize Utf8.decode ⟨d.toArray⟩ pos=dc at *
      rcases hbad with hbad | hbad
      ·go_wp2_with fail
       go_ret
       exact ⟨ret_boolP Hz.out.symm,below_alloc w _⟩
      ·have hb2:¬ (dc.1:Int)<48:=by omega
       go_wp2_with fail
       go_ret
       exact ⟨ret_boolP Hz.out.symm,below_alloc w _⟩
    ·have hpe:pos=d.length:=by omega
     have hps:¬ pos<(⟨d.toArray⟩:ByteArray).size:=by rw [hds];exact hp
     have hdg2:=hdg.out;rw [List.drop_of_length_le (by omega)] at hdg2;have hz:R=true:=Hr.out.trans hdg2.symm;have Hz:=Lib.hid hz;have hne:=fun ty=>run_next_end (P:=Tryz.prog) w ⟨d.toArray⟩ pos ty hps;clear hdg hdg2 hz hpe;go_wp2
     go_ret
     exact ⟨ret_boolP Hz.out.symm,below_alloc w _⟩
  ·have hr:R=false:=Hn.out.trans (if_pos (by
    by_cases a1:l.take 5=hdP
    ·by_cases a2:19<l.length
     ·exact .inr (.inr (.inl a2))
     ·refine .inr (.inr (.inr ?_));rw [h4g];have a3:(l[5]'(by omega)).toNat=48:=Decidable.not_not.1 (fun a3=>hall ⟨a1,a2,a3⟩)
      congr 1
      exact UInt8.toNat_inj.1 a3
    ·exact .inr (.inl a1)))
   have Hr:=Lib.hid hr;clear hr Hn
   by_cases a1:l.take 5=hdP
   ·have e2':l.take 5=[115,110,97,112,46]:=a1
    by_cases a2:19<l.length
    ·have e3':(19:Int)<(l.length:Int):=by omega
     go_enter Tryz.func112,Tryz.ntmps112
     go_wp2
     go_ret
     exact ⟨ret_boolP Hr.out.symm,Below.refl _ _⟩
    ·have a3:(l[5]'(by omega)).toNat=48:=Decidable.not_not.1 (fun a3=>hall ⟨a1,a2,a3⟩);have e3':¬ (19:Int)<(l.length:Int):=by omega
     have e4':((((⟨l.toArray⟩:ByteArray)[5]'h4s).toNat:Int) == 48)=true:=by rw [h4e];simp;omega
     clear h4e h4g a3 a1 hall;go_enter Tryz.func112,Tryz.ntmps112
     go_wp2
     go_ret
     exact ⟨ret_boolP Hr.out.symm,Below.refl _ _⟩
   ·have e2':¬ l.take 5=[115,110,97,112,46]:=a1;go_enter Tryz.func112,Tryz.ntmps112
    go_wp2
    go_ret
    exact ⟨ret_boolP Hr.out.symm,Below.refl _ _⟩
theorem stoNumberedS (s:ByteArray) (w:World):Calls Tryz.prog 112 #[.string s] w fun e w'=>e=.returned (.bool (numbS s))∧Below w.heap.size w w':=stoNumbered s.data.toList w
end
section
open Go Go.RowKit Go.PlainAid BigFrame
attribute [local go_sem] After.same
def sizesE (l:List Ety):Nat:=(l.map fun x=>x.data.size).sum
def smallH (h:Hrd):Bool:=decide (h.log.length≤40) && decide (h.snap.size+sizesE h.log≤9000)
theorem sizesE_snoc {l:List Ety} {k:Nat} (h:k<l.length):sizesE (l.take (k+1))=sizesE (l.take k)+l[k].data.size:=by
 unfold sizesE;rw [List.take_succ_eq_append_getElem h,List.map_append,List.sum_append];simp
theorem sizesE_take (l:List Ety) (k:Nat):sizesE (l.take k)≤sizesE l:=by
 conv=>rhs;rw [←List.take_append_drop k l]
 unfold sizesE;rw [List.map_append,List.sum_append];omega
theorem refSmall (h:Hrd) (v:Value) (w:World) (hv:Rd etyE w v h.log) (hsz:h.snap.size≤281474976710656) (hdz:∀ x ∈ h.log,x.data.size≤281474976710656) :
 Calls Tryz.prog 8 #[hrdA h v] w fun e w'=>e=.returned (.bool (smallH h))∧Below w.heap.size w w':=by
 obtain ⟨p,cap,rfl⟩:=hv.shape;have hmax:=hv.le;unfold maxLen at hmax;have hS:smallH h=(decide (h.log.length≤40) && decide (h.snap.size+sizesE h.log≤9000)):=rfl;have HS:=Lib.hid hS;have Hdz:=Lib.hid hdz;clear hS hdz;generalize smallH h=B at *;have bW:=below_alloc w (.cells #[.int .i64 h.term,.int .i64 h.vote,.int .i64 h.base,.int .i64 h.bterm,.int .i64 h.members,.string h.snap,.slice p h.log.length cap] 24);have kA:=Blk.new w #[.int .i64 h.term,.int .i64 h.vote,.int .i64 h.base,.int .i64 h.bterm,.int .i64 h.members,.string h.snap,.slice p h.log.length cap] 24
 by_cases h40:h.log.length≤40
 case neg =>
  have hi:(40:Int)<(h.log.length:Int):=by omega
  have Hr:=Lib.hid (show false=B by rw [HS.out,decide_eq_false h40];rfl);clear h40 HS kA;go_enter Tryz.func8,Tryz.ntmps8
  go_wp2
  go_ret
  exact ⟨ret_bool Hr.out,bW⟩
 have hi:¬ (40:Int)<(h.log.length:Int):=by omega
 have H40:=Lib.hid h40;clear h40;have hvW:=hv.ext bW;have x6:=kA.cell 6 _ rfl;go_enter Tryz.func8,Tryz.ntmps8
 go_wp2
 have hW:(w.alloc (.cells #[.int .i64 h.term,.int .i64 h.vote,.int .i64 h.base,.int .i64 h.bterm,.int .i64 h.members,.string h.snap,.slice p h.log.length cap] 24)).heap.size=w.heap.size+1:=by simp
 generalize hZ:w.alloc (.cells #[.int .i64 h.term,.int .i64 h.vote,.int .i64 h.base,.int .i64 h.bterm,.int .i64 h.members,.string h.snap,.slice p h.log.length cap] 24)=W at *;clear hZ kA hv
 go_loopw [3,4] (fun b i wr=>∃ k:Nat,k≤h.log.length∧i=.int .i64 k∧b=.int .i64 ((h.snap.size+sizesE (h.log.take k):Nat):Int)∧(0<k→h.snap.size+sizesE (h.log.take k)≤9000)∧wr=W) (fun _ i _=>h.log.length - (intOf i).toNat)
 case atStart=>exact ⟨0,by omega,rfl,by simp [sizesE],by omega,rfl⟩
 case round =>
  obtain ⟨k,hk,rfl,rfl,hle,rfl⟩:=hrel
  by_cases hlt:k<h.log.length
  ·obtain ⟨bb,off,rfl⟩:=Rd.blk hvW (by omega);obtain ⟨c0,c1,c2⟩:=ety3 hvW hlt;have hi1:(k:Int)<(h.log.length:Int):=by omega
   have hi0:(0:Int)≤(k:Int):=by omega
   have hsn:=sizesE_snoc hlt;have hst:=sizesE_take h.log (k+1);have hs3:h.log[k].data.size≤281474976710656:=Hdz.out _ (List.getElem_mem hlt);have Hsn:=Lib.hid hsn;have hb0:h.snap.size+sizesE (h.log.take k)≤281474976710656:=by
    rcases Nat.eq_zero_or_pos k with q | q
    ·subst q;simpa [sizesE] using hsz
    ·have:=hle q;omega
   clear hsn hle;generalize h.log[k]=x at *;generalize sizesE (h.log.take k)=S at *
   by_cases h9:h.snap.size+S+x.data.size≤9000
   ·have h9i:¬ (9000:Int)<((h.snap.size+S:Nat):Int)+(x.data.size:Int):=by omega
    have Hq:=Lib.hid (show h.snap.size+sizesE (h.log.take (k+1))≤9000 by rw [Hsn.out];omega);have Hs:=Lib.hid (show ((h.snap.size+S:Nat):Int)+(x.data.size:Int)=((h.snap.size+sizesE (h.log.take (k+1)):Nat):Int) by rw [Hsn.out];omega);have hr1:((h.snap.size+S:Nat):Int)+(x.data.size:Int)≤9223372036854775807:=by omega
    have hr0:(0:Int)≤((h.snap.size+S:Nat):Int):=by omega
    go_wp2
    go_roundw
    case rel=>exact ⟨k+1,by omega,by go_num,by rw [←Hs.out];go_num,fun _=>Hq.out,trivial⟩
    case measure=>simp [intOf];omega
   ·have h9i:(9000:Int)<((h.snap.size+S:Nat):Int)+(x.data.size:Int):=by omega
    have hr1:((h.snap.size+S:Nat):Int)+(x.data.size:Int)≤9223372036854775807:=by omega
    have hr0:(0:Int)≤((h.snap.size+S:Nat):Int):=by omega
    have Hr:=Lib.hid (show false=B by rw [HS.out,decide_eq_false (by rw [Hsn.out] at hst;omega:¬ h.snap.size+sizesE h.log≤9000),Bool.and_false]);go_wp2
    go_ret
    exact ⟨ret_bool Hr.out,bW⟩
  ·have hke:k=h.log.length:=by omega
   have hi1:¬ (k:Int)<(h.log.length:Int):=by omega
   have Hr:=Lib.hid (show decide (((h.snap.size+sizesE (h.log.take k):Nat):Int)≤9000)=B by rw [HS.out,decide_eq_true H40.out,Bool.true_and,hke,List.take_length,decide_eq_decide];omega);clear hke;go_wp2
   all_goals
    go_ret
    refine ⟨ret_bool ?_,bW⟩;rw [←Hr.out]
    first | rfl | (simp;omega) | simp_all
end
section
open Go Go.RowKit Go.PlainAid
def saveQ (d:Dk) (ws:Wl) (sn:ByteArray) (h:Hrd):Int×Wl×ByteArray×Dk :=
 if rightH h=false then (1,ws,sn,d) else if ws.down=true then (18,ws,sn,d) else
 let p:=if wantsP ⟨ws,sn,false⟩ h then writeP d h else (0,d)
 if p.1≠0 then (p.1,{ ws with down:=true },sn,p.2) else
 let q:=saveR p.2 ws h
 if q.1≠0 then (q.1,q.2.1,sn,q.2.2) else
 if h.base=ws.h.base∧eqS h.snap sn=true then (0,q.2.1,sn,q.2.2) else
 let c:=cleanP q.2.2 h.base.toNat
 (c.1,if c.1=0 then q.2.1 else { q.2.1 with down:=true },h.snap,c.2)
theorem saveQ_eq (d:Dk) (ws:Wl) (sn:ByteArray) (h:Hrd) {E1:Int} {d1:Dk} (hp:(if wantsP ⟨ws,sn,false⟩ h then writeP d h else (0,d))=(E1,d1)) {E2:Int} {ws':Wl} {d2:Dk} (hq:saveR d1 ws h=(E2,ws',d2)) {E3:Int} {d3:Dk} (hc:cleanP d2 h.base.toNat=(E3,d3)) :
 saveQ d ws sn h=if rightH h=false then (1,ws,sn,d) else if ws.down=true then (18,ws,sn,d) else if E1≠0 then (E1,{ ws with down:=true },sn,d1) else if E2≠0 then (E2,ws',sn,d2) else if h.base=ws.h.base∧eqS h.snap sn=true then (0,ws',sn,d2) else (E3,if E3=0 then ws' else { ws' with down:=true },h.snap,d3):=by
 unfold saveQ;rw [hp];dsimp only;rw [hq];dsimp only;rw [hc]
end
section
open Go Go.RowKit Go.PlainAid
theorem pickN_ok (d:Dk):SgOk (pickN d).2:=by
 unfold pickN;generalize (segsW (d.fs.map (·.name))).reverse=l;have key:∀ l:List Nat,SgOk ((pickW d l).getD (0,sg0)).2:=by
  intro l
  induction l with
  | nil=>exact SgOk.zero
  | cons k r ih =>
   rw [pickW]
   split
   ·exact readSeg_ok _
   ·exact ih
 exact key l
theorem open_snap {d:Dk} {ws:Wl} (h:openW d=some ws):ws.h.snap=sNone∧ws.down=false:=by
 unfold openW at h
 split at h
 ·cases h
  refine ⟨?_,rfl⟩
  show (openH d).snap=sNone
  unfold openH
  split
  ·rfl
  ·exact (pickN_ok d).snap
 ·cases h
theorem keepR_snap {w:Wl} {h:Hrd} {r:Int×Nat×Dk} (hs:w.h.snap=sNone):(keepR w h r).2.1.h.snap=sNone:=by
 unfold keepR;split
 ·rfl
 ·exact hs
theorem saveR_snap {d:Dk} {w:Wl} (h:Hrd) (hs:w.h.snap=sNone):(saveR d w h).2.1.h.snap=sNone:=by
 unfold saveR
 repeat' split
 all_goals first | exact hs | exact keepR_snap hs
theorem Alk.saved {a b a' b':Wl} {d da db:Dk} {h:Hrd} {Ea Eb:Int} (k:Alk a b) (ha:saveW d a h=(Ea,a',da)) (hb:saveR d b h=(Eb,b',db)) (hs:b.h.snap=sNone):Ea=Eb∧da=db∧Alk a' b'∧b'.h.snap=sNone:=by
 obtain ⟨h1,h2,h3⟩:=save_alk d h k;have h4:=saveR_snap (d:=d) h hs;rw [ha,hb] at h1 h2 h3;rw [hb] at h4;exact ⟨h1,h2,h3,h4⟩
end
section
open Go Go.RowKit Go.PlainAid BigFrame
structure AskL where
 kind:Int
 n:Int
 h:Hrd
 hp:Option Addr
 hc:Nat
 pp:Option Addr
 pc:Nat
 picks:List Int
def AskL.vh (x:AskL):Value:=.slice x.hp x.h.log.length x.hc
def AskL.vp (x:AskL):Value:=.slice x.pp x.picks.length x.pc
@[reducible] def aslA (x:AskL):Array Value:=#[.int .i64 x.kind,.int .i64 x.n,.int .i64 x.h.term,.int .i64 x.h.vote,.int .i64 x.h.base,.int .i64 x.h.bterm,.int .i64 x.h.members,.string x.h.snap,.slice x.hp x.h.log.length x.hc,.slice x.pp x.picks.length x.pc]
structure AskLOk (w:World) (x:AskL):Prop where
 log:Rd etyE w x.vh x.h.log
 picks:Rd intsE w x.vp x.picks
 hi:∀ z ∈ x.picks,z≤9223372036854775807
 few:x.h.log.length * 32≤140737488355328
 snap:x.h.snap.size≤140737488355328
 data:∀ y ∈ x.h.log,y.data.size≤140737488355328
 n64 : -9223372036854775808≤x.n∧x.n≤9223372036854775807
theorem AskLOk.ext {w w':World} {x:AskL} (h:AskLOk w x) (hb:Below w.heap.size w w'):AskLOk w' x:=⟨h.log.ext hb,h.picks.ext hb,h.hi,h.few,h.snap,h.data,h.n64⟩
end
end Go.Proofs.YtgpgcnmnfnnkjaaGreatDoor
