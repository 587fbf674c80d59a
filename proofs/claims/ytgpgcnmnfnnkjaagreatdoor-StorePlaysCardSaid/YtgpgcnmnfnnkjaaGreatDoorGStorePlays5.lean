import Derived.Test.YtgpgcnmnfnnkjaaGreatDoorGStorePlays4
set_option linter.unusedVariables false
set_option linter.unusedSimpArgs false
set_option maxRecDepth 100000
set_option maxHeartbeats 16000000
namespace Go.Proofs.YtgpgcnmnfnnkjaaGreatDoor
section
open Go Go.RowKit

theorem bytes_drew {w:World} {v:Value} {l:List UInt8} (h:Bytes w v l):Bytes w.drew v l:=h

theorem refNext1 (v:Value) (b:List UInt8) (at':Int) (w:World) (hv:Bytes w v b) (hb:b.length≤70368744177664) (h:at'<0∨(b.length:Int)<at') :
 Calls Tryz.prog 85 #[v,.int .i64 at'] w fun e w'=>∃ r,e=.returned (.tuple #[r,.int .i64 (Frm.toAt b at'),.int .i64 (Frm.errAt b at':Nat)])∧OwnB w' w.heap.size 5 r (Frm.payAt b at')∧Below w.heap.size w w':=by
 obtain ⟨p0,c0,rfl⟩:=hv.shape;have e1:Frm.errAt b at'=1:=by unfold Frm.errAt;rw [if_pos h]
 have e2:Frm.toAt b at'=0:=by unfold Frm.toAt;rw [e1];rfl
 have e3:Frm.payAt b at'=[]:=by unfold Frm.payAt;rw [e1];rfl
 rw [e1,e2,e3];clear e1 e2 e3
 rcases h with h | h
 ·go_enter Tryz.func85,Tryz.ntmps85
  go_wp2
  go_ret3
  exact ⟨_,rfl,OwnB.nil _ _ _,Below.refl _ _⟩
 ·have h0:¬ at'<0:=by omega
  go_enter Tryz.func85,Tryz.ntmps85
  go_wp2
  go_ret3
  exact ⟨_,rfl,OwnB.nil _ _ _,Below.refl _ _⟩

theorem refNext2 (v:Value) (b:List UInt8) (a:Nat) (w:World) (hv:Bytes w v b) (hb:b.length≤70368744177664) (ha:a≤b.length) :
 Calls Tryz.prog 85 #[v,.int .i64 (a:Int)] w fun e w'=>∃ r,e=.returned (.tuple #[r,.int .i64 (Frm.toAt b a),.int .i64 (Frm.errAt b a:Nat)])∧OwnB w' w.heap.size 5 r (Frm.payAt b a)∧Below w.heap.size w w':=by
 have hsl:=run_sub_from tBytesF (P:=Tryz.prog) hv .i64 (a:Int) a rfl ha;have hr:=hv.sub a b.length ha (Nat.le_refl _);have e0:(b.drop a).take (b.length - a)=b.drop a:=List.take_of_length_le (by simp);rw [e0] at hr;obtain ⟨pr,cr,hpr⟩:=hr.shape;rw [hpr] at hsl hr;have hgd:¬ (b.length:Int)<(a:Int):=by omega
 have hgd0:¬ (a:Int)<0:=by omega
 have hrl:(b.drop a).length=b.length - a:=by simp
 obtain ⟨p0,c0,rfl⟩:=hv.shape;clear hpr e0
 by_cases h4:(b.drop a).length<4
 ·obtain ⟨e1,e2,e3⟩:=next_bad ha (by decide) (err_short h4);rw [e1,e2,e3];have h5:(b.length:Int) - (a:Int)<4:=by omega
  clear e1 e2 e3 hrl h4;go_enter Tryz.func85,Tryz.ntmps85
  go_wp2
  go_ret3
  exact ⟨_,rfl,OwnB.nil _ _ _,Below.refl _ _⟩
 ·have h5:¬ (b.length:Int) - (a:Int)<4:=by omega
  by_cases h2:Frm.len (b.drop a)=0∨131072<Frm.len (b.drop a)
  ·obtain ⟨e1,e2,e3⟩:=next_bad ha (by decide) (err_form h4 h2);rw [e1,e2,e3];have Hrl:=Lib.hid hrl;clear e1 e2 e3 hrl;generalize b.drop a=r at *;have h2':(((Crc.num r).toNat:Int) == 0)=true∨((((Crc.num r).toNat:Int) == 0)=false∧131072<((Crc.num r).toNat:Int)):=by
    unfold Frm.len at h2
    by_cases hz:(Crc.num r).toNat=0
    ·left;simp [hz]
    ·right;constructor
     ·simp;omega
     ·omega
   clear h2
   rcases h2' with h2 | ⟨h2,h3⟩
   all_goals
    go_enter Tryz.func85,Tryz.ntmps85
    go_wp2_with fail
    with_reducible refine (refNumber _ r _ hr (by omega)).mono ?_
    rintro e w1 ⟨rfl,n,rfl⟩;go_wp2
    go_ret3
    exact ⟨_,rfl,OwnB.nil _ _ _,below_drawn _ _ _⟩
  ·have h2a:1≤Frm.len (b.drop a)∧Frm.len (b.drop a)≤131072:=by omega
   by_cases h3:(b.drop a).length<Frm.len (b.drop a)+8
   ·obtain ⟨e1,e2,e3⟩:=next_bad ha (by decide) (err_short2 h4 h2 h3);rw [e1,e2,e3];have Hrl:=Lib.hid hrl;have hs0:(b.length:Int) - (a:Int) - 4<(Frm.len (b.drop a):Int)+4:=by omega
    clear e1 e2 e3 h2 hrl;generalize b.drop a=r at *;have hz:(((Crc.num r).toNat:Int) == 0)=false:=by unfold Frm.len at h2a;simp;omega
    have hg:¬ 131072<((Crc.num r).toNat:Int):=by unfold Frm.len at h2a;omega
    have hs:(b.length:Int) - (a:Int) - 4<((Crc.num r).toNat:Int)+4:=hs0;clear hs0;unfold Frm.len at h2a;go_enter Tryz.func85,Tryz.ntmps85
    go_wp2_with fail
    with_reducible refine (refNumber _ r _ hr (by omega)).mono ?_
    rintro e w1 ⟨rfl,n,rfl⟩;go_wp2
    go_ret3
    exact ⟨_,rfl,OwnB.nil _ _ _,below_drawn _ _ _⟩
   ·have hlast:=err_last h4 h2 h3;have hbad:=fun (h:Frm.err (b.drop a)=6)=>next_bad ha (by decide) h;have hok:=fun (h:Frm.err (b.drop a)=0)=>next_ok ha h;have hs0:¬ (b.length:Int) - (a:Int) - 4<(Frm.len (b.drop a):Int)+4:=by omega
    have t1:=run_sub tBytesF (P:=Tryz.prog) hv .i64 .i64 (a:Int) ((a:Int)+4+(Frm.len (b.drop a):Int)) a (a+4+Frm.len (b.drop a)) rfl (by omega) (by omega) (by omega);have t2:=run_sub_from tBytesF (P:=Tryz.prog) hv .i64 ((a:Int)+4+(Frm.len (b.drop a):Int)) (a+4+Frm.len (b.drop a)) (by omega) (by omega);have t3:=run_sub tBytesF (P:=Tryz.prog) hv .i64 .i64 ((a:Int)+4) ((a:Int)+4+(Frm.len (b.drop a):Int)) (a+4) (a+4+Frm.len (b.drop a)) (by omega) (by omega) (by omega) (by omega);have g1:=hv.sub a (a+4+Frm.len (b.drop a)) (by omega) (by omega)
    have g2:=hv.sub (a+4+Frm.len (b.drop a)) b.length (by omega) (by omega);have g3:=hv.sub (a+4) (a+4+Frm.len (b.drop a)) (by omega) (by omega);have e1:(b.drop a).take (a+4+Frm.len (b.drop a) - a)=(b.drop a).take (4+Frm.len (b.drop a)):=by congr 1;omega
    have e2:(b.drop (a+4+Frm.len (b.drop a))).take (b.length - (a+4+Frm.len (b.drop a)))=(b.drop a).drop (4+Frm.len (b.drop a)):=by
     rw [List.take_of_length_le (by simp),List.drop_drop];congr 1;omega
    have e3:(b.drop (a+4)).take (a+4+Frm.len (b.drop a) - (a+4))=Frm.pay (b.drop a):=by
     unfold Frm.pay;rw [List.drop_drop];congr 1;omega
    rw [e1] at g1;rw [e2] at g2;rw [e3] at g3;have hl2:4≤((b.drop a).drop (4+Frm.len (b.drop a))).length:=by rw [List.length_drop];omega
    have hpl:(Frm.pay (b.drop a)).length≤b.length:=by unfold Frm.pay;rw [List.length_take,List.length_drop];omega
    have Hrl:=Lib.hid hrl;clear e1 e2 e3 h2 h3 hrl;generalize hrr:b.drop a=r at *;have hz:(((Crc.num r).toNat:Int) == 0)=false:=by unfold Frm.len at h2a;simp;omega
    have hg:¬ 131072<((Crc.num r).toNat:Int):=by unfold Frm.len at h2a;omega
    generalize subV _ a _ 1=v1 at *;generalize subV _ (a+4+Frm.len r) b.length 1=v2 at *;generalize subV _ (a+4) _ 1=v3 at *;obtain ⟨a1,c1,rfl⟩:=g1.shape;obtain ⟨a2,c2,rfl⟩:=g2.shape;obtain ⟨a3,c3,rfl⟩:=g3.shape;have Hlast:=Lib.hid hlast;clear hlast hrr;generalize hxx:Crc.on 0#32 (r.take (4+Frm.len r))=x at *;generalize hyy:Crc.num (r.drop (4+Frm.len r))=y at *;have Hxx:=Lib.hid hxx;have Hyy:=Lib.hid hyy;clear hxx hyy;generalize r.take (4+Frm.len r)=r1 at *;generalize r.drop (4+Frm.len r)=r2 at *;generalize hpp:Frm.pay r=rp at *;clear hpp;have Hbad:=Lib.hid hbad;have Hok:=Lib.hid hok
    have hs:¬ (b.length:Int) - (a:Int) - 4<((Crc.num r).toNat:Int)+4:=hs0;unfold Frm.len at t1 t2 t3 h2a;clear hbad hok hv hs0;have w0:IntKind.i64.wrap ((a:Int)+4)=(a:Int)+4:=by rw [IntKind.wrap_i64];omega
    have w1':IntKind.i64.wrap ((a:Int)+4+((Crc.num r).toNat:Int))=(a:Int)+4+((Crc.num r).toNat:Int):=by rw [IntKind.wrap_i64];omega
    go_enter Tryz.func85,Tryz.ntmps85
    go_wp2_with fail
    with_reducible refine (refNumber _ r _ hr (by omega)).mono ?_
    rintro e w1 ⟨rfl,n,hw1⟩;have b1:Below w.heap.size w w1:=by subst hw1;exact below_drawn _ _ _
    have g1':=g1.ext b1;have g2':=g2.ext b1;have g3':=g3.ext b1;clear hw1 g1 g2 g3 hr;go_wp2
    go_region_held3 (fun _=>True) (exact trivial) ((first
     | (go_at_call 121;(with_reducible refine (refOn0 _ r1 _ (bytes_drew g1')).mono ?_);(rintro e w2 ⟨rfl,rfl⟩;rw [Hxx.out]))
     | (go_at_call 120;(with_reducible refine (refNumber _ r2 _ (bytes_drew g2') hl2).mono ?_);(rintro e w3 ⟨rfl,n3,hw3⟩;(replace hw3:Below w1.heap.size w1 w3:=by rw [hw3];exact (below_drew _ _).trans (below_drawn _ _ _));rw [Hyy.out]))))
    have g3'':=g3'.ext hw3;have b03:=b1.trans (hw3.mono b1.size);have hs03:=b03.size;clear hw3 t1 t2 g1' g2' g3' w0 w1';go_wp2_with (first
     | (at_builtin;refine wpList_app tBytesF rfl rfl (Own.lit _ #[] _ 0 w.heap.size rfl (by simp) (Nat.zero_le _) hs03) rfl (Cells.ext g3'' (below_alloc _ _)) rfl (by omega) (by simp;omega) ?_;intro v4 w4 own4 g4 b4)
     | fail)
    ·go_ret3
     have hne:((x.toNat:Int) !=(y.toNat:Int))=true:=by assumption
     have he:Frm.err r=6:=by rw [Hlast.out,if_neg (fun h=>by rw [h] at hne;simp at hne)]
     obtain ⟨e1,e2,e3⟩:=Hbad.out he;rw [e1,e2,e3];exact ⟨_,rfl,OwnB.nil _ _ _,b03⟩
    ·go_ret3
     have hne:((x.toNat:Int) !=(y.toNat:Int))=false:=by assumption
     have he:Frm.err r=0:=by rw [Hlast.out,if_pos (BitVec.eq_of_toNat_eq (by simp at hne;omega))]
     obtain ⟨e1,e2,e3⟩:=Hok.out he;rw [e1,e2,e3];exact ⟨_,ret3i rfl (by unfold Frm.len;omega) rfl,OwnB.of own4 (by simp) (by simp),b03.trans (((below_alloc _ _).mono hs03).trans b4)⟩

theorem refNext (v:Value) (b:List UInt8) (at':Int) (w:World) (hv:Bytes w v b) (hb:b.length≤70368744177664) :
 Calls Tryz.prog 85 #[v,.int .i64 at'] w fun e w'=>∃ r,e=.returned (.tuple #[r,.int .i64 (Frm.toAt b at'),.int .i64 (Frm.errAt b at':Nat)])∧OwnB w' w.heap.size 5 r (Frm.payAt b at')∧Below w.heap.size w w':=by
 by_cases h:at'<0∨(b.length:Int)<at'
 ·exact refNext1 v b at' w hv hb h
 ·obtain ⟨a,rfl⟩:=Int.eq_ofNat_of_zero_le (show 0≤at' by omega);exact refNext2 v b a w hv hb (by omega)

end
section
open Go Go.RowKit
namespace Frm

theorem one_none {p:List UInt8} (h:none' p=true):one p=[]:=by unfold one;rw [h];rfl
theorem none_iff (p:List UInt8):none' p=false↔1≤p.length∧p.length≤131072:=by
 unfold none'
 by_cases h1:p.length<1
 ·rw [decide_eq_true h1];simp;omega
 ·rw [decide_eq_false h1]
  by_cases h2:131072<p.length
  ·rw [decide_eq_true h2];simp;omega
  ·rw [decide_eq_false h2];simp;omega
theorem one_some {p:List UInt8} (h:none' p=false):one p=Crc.seal' (head p++p):=by
 unfold one Crc.seal';rw [h];rfl
theorem head_length (p:List UInt8):(head p).length=4:=rfl
theorem one_length {p:List UInt8} (h:none' p=false):(one p).length=p.length+8:=by
 rw [one_some h,Crc.seal_length,List.length_append,head_length];omega
theorem one_shape {p:List UInt8} (h:none' p=false):one p=head p++(p++Crc.le4 (Crc.on 0#32 (head p++p))):=by
 rw [one_some h];unfold Crc.seal';rw [List.append_assoc]
theorem num_head (p:List UInt8) (hp:p.length≤131072) (r:List UInt8):len (head p++r)=p.length:=by
 unfold len head;rw [num_append (by rw [Crc.le4_length];omega),Crc.num_le4,BitVec.toNat_ofNat,Nat.mod_eq_of_lt (by omega)]

theorem whole {p:List UInt8} (h:none' p=false) (r:List UInt8):err (one p++r)=0∧len (one p++r)=p.length∧pay (one p++r)=p∧(one p++r).drop (p.length+8)=r:=by
 obtain ⟨h1,h2⟩:=(none_iff p).1 h;have hs:=one_shape h;have hol:=one_length h;have hlen:len (one p++r)=p.length:=by rw [hs,List.append_assoc];exact num_head p h2 _
 have hle:=Crc.le4_length (Crc.on 0#32 (head p++p));refine ⟨?_,hlen,?_,?_⟩
 ·unfold err;have ht:(one p++r).length=p.length+8+r.length:=by rw [List.length_append,hol]
  rw [if_neg (by omega),if_neg (by omega),if_neg (by omega),hlen];have e1:(one p++r).take (4+p.length)=head p++p:=by
   rw [hs, ←List.append_assoc,List.append_assoc];rw [List.take_left' (by rw [List.length_append,head_length])]
  have e2:(one p++r).drop (4+p.length)=Crc.le4 (Crc.on 0#32 (head p++p))++r:=by
   rw [hs, ←List.append_assoc,List.append_assoc];rw [List.drop_left' (by rw [List.length_append,head_length])]
  rw [e1,e2,num_append (by rw [hle];omega),Crc.num_le4,if_pos rfl]
 ·unfold pay;rw [hlen,hs];have e2:(head p++(p++Crc.le4 (Crc.on 0#32 (head p++p)))++r).drop 4=p++(Crc.le4 (Crc.on 0#32 (head p++p))++r):=by
   rw [List.append_assoc,List.drop_left' (head_length p),List.append_assoc]
  rw [e2,List.take_left' rfl]
 ·rw [List.drop_left' hol]
theorem cut {p:List UInt8} (h:none' p=false) (k:Nat) (hk:k<p.length+8):err ((one p).take k)≠0:=by
 obtain ⟨h1,h2⟩:=(none_iff p).1 h;have hol:=one_length h;have hl:((one p).take k).length=k:=by rw [List.length_take];omega
 unfold err
 by_cases h4:k<4
 ·rw [if_pos (by omega)];omega
 ·have hlen:len ((one p).take k)=p.length:=by
   have:len ((one p).take k)=len (one p):=by unfold len;rw [num_take (by omega) (by omega)]
   rw [this,one_shape h];exact num_head p h2 _
  rw [if_neg (by omega),if_neg (by omega),if_pos (by omega)];omega

end Frm
end
section
open Go Go.RowKit
namespace Frm

def cat (K:List (List UInt8)):List UInt8:=K.flatMap one
def good (K:List (List UInt8)):Prop:=∀ p ∈ K,none' p=false
end Frm
end
end Go.Proofs.YtgpgcnmnfnnkjaaGreatDoor
