import Derived.Test.YtgpgcnmnfnnkjaaGreatDoorGStorePlays19
import Derived.Test.YtgpgcnmnfnnkjaaGreatDoorGStorePlays27
import Derived.Test.YtgpgcnmnfnnkjaaGreatDoorGStorePlays25
set_option linter.unusedVariables false
set_option linter.unusedSimpArgs false
set_option maxRecDepth 100000
set_option maxHeartbeats 16000000
namespace Go.Proofs.YtgpgcnmnfnnkjaaGreatDoor
section
open Go Go.RowKit Go.PlainAid
theorem dec_step (k:Nat):Lib.decDigits k=(if k<10 then [] else Lib.decDigits (k / 10))++[UInt8.ofNat (48+k % 10)]:=by
 rw [Lib.decDigits]
 by_cases h:k<10
 ·rw [dif_pos h,if_pos h,Nat.mod_eq_of_lt h];rfl
 ·rw [dif_neg h,if_neg h]
theorem str_cat (a b:List UInt8):(⟨a.toArray⟩:ByteArray)++(⟨b.toArray⟩:ByteArray)=⟨(a++b).toArray⟩:=by
 apply ByteArray.ext;simp
theorem str_empty (l:List UInt8):(⟨l.toArray⟩:ByteArray).toList=l:=by rw [ByteArray.toList_eq]
theorem str_one {w:World} {H:Nat} (hH:w.heap.size=H) (c:UInt8):∀ t,(convert 26 9 (.slice (some ⟨H,0,none⟩) 1 1)).run Tryz.prog (w.alloc (.cells #[.int .u8 (c.toNat:Int)] t))=Result.ok (Value.string ⟨[c].toArray⟩) (w.alloc (.cells #[.int .u8 (c.toNat:Int)] t)):=fun t =>
 run_bytes_string (P:=Tryz.prog) Tryz.underlying26 Tryz.underlying5 Tryz.underlying9 (byte_lit c w t H hH)
def strN:Value→Nat
 | .string b=>b.size
 | _=>0
theorem rkDigits (n:Nat) (N:Int) (hN:N=(n:Int)) (hn:n≤9223372036854775807) (w:World) :
 Calls Tryz.prog 43 #[.int .i64 N] w fun e w'=>e=.returned (.string ⟨(Lib.decDigits n).toArray⟩)∧Below w.heap.size w w':=by
 subst hN;have hDl:=digits_le 18 n (by omega);generalize hD:Lib.decDigits n=D at *;have HD:=Lib.hid hD;clear hD;go_enter Tryz.func43,Tryz.ntmps43
 go_wp2
 go_loopw [3,0] (fun s k wr=>∃ (m:Nat) (L:List UInt8),k=.int .i64 (m:Int)∧s=.string ⟨L.toArray⟩∧m≤n∧Hid (if m=0∧L≠[] then L=D else Lib.decDigits m++L=D)∧Below w.heap.size w wr) (fun s k _=>2 * (intOf k).toNat+(1 - strN s))
 case atStart=>exact ⟨n,[],rfl,rfl,Nat.le_refl _,by show if _ then _ else _;rw [if_neg (fun h=>h.2 rfl),List.append_nil];exact HD.out,Below.refl _ _⟩
 case round =>
  obtain ⟨m,L,rfl,rfl,hm,hL,hb⟩:=hrel;have hsL:=str_empty L;have hsz:=str_size L
  by_cases hgo:m=0∧L≠[]
  ·have hl:=hL.out;rw [if_pos hgo] at hl;obtain ⟨rfl,h2⟩:=hgo;subst hl;have e1:L.isEmpty=false:=by cases L;exact absurd rfl h2;rfl
   clear hL h2;go_wp2
   go_ret
   exact ⟨rfl,hb⟩
  ·have hl:=hL.out;rw [if_neg hgo,dec_step m] at hl;have hs2:=hb.size;have hlit:=str_one (w:=wr) rfl (UInt8.ofNat (48+m % 10));have hdg:(UInt8.ofNat (48+m % 10)).toNat=48+m % 10:=by rw [UInt8.toNat_ofNat'];have:=Nat.mod_lt m (show 0<10 by decide);omega
   have hnx:Hid (if m / 10=0∧(UInt8.ofNat (48+m % 10)::L)≠[] then (UInt8.ofNat (48+m % 10)::L)=D else Lib.decDigits (m / 10)++(UInt8.ofNat (48+m % 10)::L)=D):=by
    show if _ then _ else _
    by_cases h10:m<10
    ·rw [if_pos ⟨by omega,by simp⟩];rw [if_pos h10] at hl;exact hl
    ·rw [if_neg (fun h=>h10 (by omega))];rw [if_neg h10,List.append_assoc] at hl;exact hl
   have hms:(if m / 10=0 then 0 else 0)=0:=by simp
   have hgo2:0<m∨L=[]:=by
    rcases Nat.eq_zero_or_pos m with h | h
    ·right;cases L with
     | nil=>rfl
     | cons a b=>exact absurd ⟨h,by simp⟩ hgo
    ·exact .inl h
   have hLl:L.length≤19:=by
    have h1:=congrArg List.length hl;rw [List.length_append] at h1;omega
   clear hl hL HD;have hcat:=str_cat [UInt8.ofNat (48+m % 10)] L;rw [List.singleton_append] at hcat;have Hcat:=Lib.hid hcat;clear hcat;have hlt10:=Nat.mod_lt m (show 0<10 by decide);rw [hdg,show ((48+m % 10:Nat):Int)=48+(m:Int) % 10 from by omega] at hlit;clear hdg;generalize UInt8.ofNat (48+m % 10)=c at *
   rcases hgo2 with hpos | hnil
   ·have hpi:(0:Int)<(m:Int):=by omega
    go_wp2
    go_roundw
    case rel=>exact ⟨m / 10,c::L,by go_num,congrArg Value.string Hcat.out,by omega,hnx,hb.trans (below_alloc _ _ |>.mono hs2)⟩
    case measure=>simp only [intOf,strN,Hcat.out,str_size];simp;omega
   ·subst hnil
    by_cases hpos:0<m
    ·have hpi:(0:Int)<(m:Int):=by omega
     go_wp2
     go_roundw
     case rel=>exact ⟨m / 10,[c],by go_num,congrArg Value.string Hcat.out,by omega,hnx,hb.trans (below_alloc _ _ |>.mono hs2)⟩
     case measure=>simp only [intOf,strN,Hcat.out,str_size];simp;omega
    ·have hpi:¬ (0:Int)<(m:Int):=by omega
     go_wp2
     go_roundw
     case rel=>exact ⟨m / 10,[c],by go_num,congrArg Value.string Hcat.out,by omega,hnx,hb.trans (below_alloc _ _ |>.mono hs2)⟩
     case measure=>simp only [intOf,strN,Hcat.out,str_size];simp;omega

def digsR:List UInt8→Nat→Int
 | [],n=>(n:Int)
 | c::r,n=>if digB c then digsR r (10 * n+(c.toNat - 48)) else -1
def numR (hd l:List UInt8):Int:=if l.length≤hd.length∨l.take hd.length≠hd∨14<l.length - hd.length∨l[hd.length]?=some 48 then -1 else digsR (l.drop hd.length) 0
def hdS:List UInt8:=[115,110,97,112,46]
theorem digsR_cons {c:UInt8} (r:List UInt8) (n:Nat) (h:digB c=true):digsR (c::r) n=digsR r (10 * n+(c.toNat - 48)):=by rw [digsR,if_pos h]
theorem digsR_bad {c:UInt8} (r:List UInt8) (n:Nat) (h:¬ digB c=true):digsR (c::r) n = -1:=by rw [digsR,if_neg h]

theorem rkNumberedW (l:List UInt8) (hlmax:l.length≤4611686018427387904) (w:World) :
 Calls Tryz.prog 84 #[.string ⟨l.toArray⟩,.string ⟨#[119,97,108,46]⟩] w fun e w'=>e=.returned (.int .i64 (numR hdW l))∧w=w':=by
 have hsz:=str_size l;have hsH:(⟨#[119,97,108,46]⟩:ByteArray).size=4:=rfl;have hn:numR hdW l=if l.length≤4∨l.take 4≠hdW∨14<l.length - 4∨l[4]?=some 48 then -1 else digsR (l.drop 4) 0:=rfl
 have Hn:=Lib.hid hn;clear hn;generalize numR hdW l=R at *
 by_cases h1:l.length≤4
 ·have Hr:=Lib.hid (show R = -1 from Hn.out.trans (if_pos (.inl h1)));have hi:(l.length:Int)≤4:=by omega
  go_enter Tryz.func84,Tryz.ntmps84
  go_wp2
  go_ret
  exact ⟨by rw [Hr.out];rfl,rfl⟩
 ·have hi:¬ (l.length:Int)≤4:=by omega
  have hto:=run_strTo (P:=Tryz.prog) Tryz.underlying9 l 4 4 rfl (by omega);have h4s:4<(⟨l.toArray⟩:ByteArray).size:=by rw [hsz];omega
  have h4e:(⟨l.toArray⟩:ByteArray)[4]'h4s=l[4]'(by omega):=str_at l 4 h4s;have h4g:l[4]?=some (l[4]'(by omega)):=List.getElem?_eq_getElem _
  by_cases hall:l.take 4=hdW∧¬ 14<l.length - 4∧(l[4]'(by omega)).toNat≠48
  ·obtain ⟨e2,e3,e4⟩:=hall;have hr:R=digsR (l.drop 4) 0:=Hn.out.trans (if_neg (by
    rintro (h | h | h | h)
    ·exact h1 h
    ·exact h e2
    ·exact e3 h
    ·rw [h4g] at h;exact e4 (by rw [Option.some.inj h];rfl)))
   have Hr:=Lib.hid hr;have e2':l.take 4=[119,97,108,46]:=e2;have e3':¬ (14:Int)<(l.length:Int) - 4:=by omega
   have e4':((((⟨l.toArray⟩:ByteArray)[4]'h4s).toNat:Int) == 48)=false:=by rw [h4e];simp;omega
   have hdl:(l.drop 4).length≤14:=by rw [List.length_drop];omega
   have hat:=Lib.hid (fun i h=>str_at l i h);clear hr e2 e4 Hn h4g h4e;go_enter Tryz.func84,Tryz.ntmps84
   go_wp2
   clear e2' e3' e4' hto
   go_loopw [5,6] (fun n i w'=>∃ (pos acc:Nat),w'=w∧n=.int .i64 (acc:Int)∧i=.int .i64 (((pos+4:Nat)):Int)∧pos+4≤l.length∧acc<10 ^ pos∧Hid (digsR (l.drop (pos+4)) acc=R)) (fun _ i _=>l.length - (intOf i).toNat)
   case atStart=>exact ⟨0,0,rfl,rfl,rfl,by omega,by decide,Hr.out.symm⟩
   case round =>
    obtain ⟨pos,acc,rfl,rfl,rfl,hpl,hacc,hdg⟩:=hrel
    by_cases hp:pos+4<l.length
    ·have hps:pos+4<(⟨l.toArray⟩:ByteArray).size:=by rw [hsz];exact hp
     have hdc:=List.drop_eq_getElem_cons hp;have hge:(⟨l.toArray⟩:ByteArray)[pos+4]'hps=l[pos+4]:=hat.out _ hps;have hdg2:=hdg.out;rw [hdc] at hdg2;have hpi:((pos+4:Nat):Int)<(l.length:Int):=by omega
     have hp0:(0:Int)≤((pos+4:Nat):Int):=by omega
     have hcl:=(l[pos+4]).toNat_lt;generalize hc:l[pos+4]=c at *
     by_cases hb:digB c=true
     ·rw [digsR_cons _ _ hb] at hdg2;obtain ⟨q1,q2⟩:=(digB_iff _).1 hb;have hacc2:10 * acc+(c.toNat - 48)<10 ^ (pos+1):=by rw [Nat.pow_succ];omega
      have hp14:10 ^ (pos+1)≤10 ^ 14:=Nat.pow_le_pow_right (by decide) (by rw [List.length_drop] at hdl;omega);have h14:(10:Nat) ^ 14=100000000000000:=by decide
      have Hd2:=Lib.hid hdg2;have Hacc:=Lib.hid hacc2;have hsmall:10 * acc+9≤1000000000000000:=by rw [h14] at hp14;rw [Nat.pow_succ] at hp14;omega
      have b1:¬ (c.toNat:Int)<48:=by omega
      have b2:¬ (57:Int)<(c.toNat:Int):=by omega
      clear hdg hdg2 hacc hacc2 hp14 h14 hdc hb Hr hc;go_wp2_with fail
      go_roundw
      case rel=>exact ⟨pos+1,10 * acc+(c.toNat - 48),by first | rfl | trivial,by go_num,by go_num,by omega,Hacc.out,by show digsR (l.drop (pos+1+4)) _=_;rw [show pos+1+4=pos+4+1 from by omega];exact Hd2.out⟩
      case measure=>simp [intOf];omega
     ·rw [digsR_bad _ _ hb] at hdg2;have Hz:=Lib.hid hdg2;have hbad:(c.toNat:Int)<48∨(57:Int)<(c.toNat:Int):=by
       rcases Nat.lt_or_ge c.toNat 48 with h5 | h5
       ·left;omega
       ·right
        rcases Nat.lt_or_ge 57 c.toNat with h6 | h6
        ·omega
        ·exact absurd ((digB_iff c).2 ⟨h5,h6⟩) hb
      clear hdg hdg2 hacc hdc hb Hr hc
      rcases hbad with hbad | hbad
      ·go_wp2_with fail
       go_ret
       exact ⟨by rw [←Hz.out];rfl,rfl⟩
      ·have hb2:¬ (c.toNat:Int)<48:=by omega
       go_wp2_with fail
       go_ret
       exact ⟨by rw [←Hz.out];rfl,rfl⟩
    ·have hpi:¬ ((pos+4:Nat):Int)<(l.length:Int):=by omega
     have hdg2:=hdg.out;rw [List.drop_of_length_le (by omega),digsR] at hdg2;have Hz:=Lib.hid hdg2;clear hdg hdg2 hacc Hr;go_wp2
     go_ret
     exact ⟨ret_int Hz.out,rfl⟩
  ·have hr:R = -1:=Hn.out.trans (if_pos (by
    by_cases a1:l.take 4=hdW
    ·by_cases a2:14<l.length - 4
     ·exact .inr (.inr (.inl a2))
     ·refine .inr (.inr (.inr ?_));rw [h4g];have a3:(l[4]'(by omega)).toNat=48:=Decidable.not_not.1 (fun a3=>hall ⟨a1,a2,a3⟩)
      congr 1
      exact UInt8.toNat_inj.1 a3
    ·exact .inr (.inl a1)))
   have Hr:=Lib.hid hr;clear hr Hn
   by_cases a1:l.take 4=hdW
   ·have e2':l.take 4=[119,97,108,46]:=a1
    by_cases a2:14<l.length - 4
    ·have e3':(14:Int)<(l.length:Int) - 4:=by omega
     clear a1 hall;go_enter Tryz.func84,Tryz.ntmps84
     go_wp2
     go_ret
     exact ⟨by rw [Hr.out];rfl,rfl⟩
    ·have a3:(l[4]'(by omega)).toNat=48:=Decidable.not_not.1 (fun a3=>hall ⟨a1,a2,a3⟩);have e3':¬ (14:Int)<(l.length:Int) - 4:=by omega
     have e4':((((⟨l.toArray⟩:ByteArray)[4]'h4s).toNat:Int) == 48)=true:=by rw [h4e];simp;omega
     clear h4e h4g a3 a1 hall;go_enter Tryz.func84,Tryz.ntmps84
     go_wp2
     go_ret
     exact ⟨by rw [Hr.out];rfl,rfl⟩
   ·have e2':¬ l.take 4=[119,97,108,46]:=a1;clear a1 hall;go_enter Tryz.func84,Tryz.ntmps84
    go_wp2
    go_ret
    exact ⟨by rw [Hr.out];rfl,rfl⟩

theorem rkNumberedS (l:List UInt8) (hlmax:l.length≤4611686018427387904) (w:World) :
 Calls Tryz.prog 84 #[.string ⟨l.toArray⟩,.string ⟨#[115,110,97,112,46]⟩] w fun e w'=>e=.returned (.int .i64 (numR hdS l))∧w=w':=by
 have hsz:=str_size l;have hsH:(⟨#[115,110,97,112,46]⟩:ByteArray).size=5:=rfl;have hn:numR hdS l=if l.length≤5∨l.take 5≠hdS∨14<l.length - 5∨l[5]?=some 48 then -1 else digsR (l.drop 5) 0:=rfl
 have Hn:=Lib.hid hn;clear hn;generalize numR hdS l=R at *
 by_cases h1:l.length≤5
 ·have Hr:=Lib.hid (show R = -1 from Hn.out.trans (if_pos (.inl h1)));have hi:(l.length:Int)≤5:=by omega
  go_enter Tryz.func84,Tryz.ntmps84
  go_wp2
  go_ret
  exact ⟨by rw [Hr.out];rfl,rfl⟩
 ·have hi:¬ (l.length:Int)≤5:=by omega
  have hto:=run_strTo (P:=Tryz.prog) Tryz.underlying9 l 5 5 rfl (by omega);have h4s:5<(⟨l.toArray⟩:ByteArray).size:=by rw [hsz];omega
  have h4e:(⟨l.toArray⟩:ByteArray)[5]'h4s=l[5]'(by omega):=str_at l 5 h4s;have h4g:l[5]?=some (l[5]'(by omega)):=List.getElem?_eq_getElem _
  by_cases hall:l.take 5=hdS∧¬ 14<l.length - 5∧(l[5]'(by omega)).toNat≠48
  ·obtain ⟨e2,e3,e4⟩:=hall;have hr:R=digsR (l.drop 5) 0:=Hn.out.trans (if_neg (by
    rintro (h | h | h | h)
    ·exact h1 h
    ·exact h e2
    ·exact e3 h
    ·rw [h4g] at h;exact e4 (by rw [Option.some.inj h];rfl)))
   have Hr:=Lib.hid hr;have e2':l.take 5=[115,110,97,112,46]:=e2;have e3':¬ (14:Int)<(l.length:Int) - 5:=by omega
   have e4':((((⟨l.toArray⟩:ByteArray)[5]'h4s).toNat:Int) == 48)=false:=by rw [h4e];simp;omega
   have hdl:(l.drop 5).length≤14:=by rw [List.length_drop];omega
   have hat:=Lib.hid (fun i h=>str_at l i h);clear hr e2 e4 Hn h4g h4e;go_enter Tryz.func84,Tryz.ntmps84
   go_wp2
   clear e2' e3' e4' hto
   go_loopw [5,6] (fun n i w'=>∃ (pos acc:Nat),w'=w∧n=.int .i64 (acc:Int)∧i=.int .i64 (((pos+5:Nat)):Int)∧pos+5≤l.length∧acc<10 ^ pos∧Hid (digsR (l.drop (pos+5)) acc=R)) (fun _ i _=>l.length - (intOf i).toNat)
   case atStart=>exact ⟨0,0,rfl,rfl,rfl,by omega,by decide,Hr.out.symm⟩
   case round =>
    obtain ⟨pos,acc,rfl,rfl,rfl,hpl,hacc,hdg⟩:=hrel
    by_cases hp:pos+5<l.length
    ·have hps:pos+5<(⟨l.toArray⟩:ByteArray).size:=by rw [hsz];exact hp
     have hdc:=List.drop_eq_getElem_cons hp;have hge:(⟨l.toArray⟩:ByteArray)[pos+5]'hps=l[pos+5]:=hat.out _ hps;have hdg2:=hdg.out;rw [hdc] at hdg2;have hpi:((pos+5:Nat):Int)<(l.length:Int):=by omega
     have hp0:(0:Int)≤((pos+5:Nat):Int):=by omega
     have hcl:=(l[pos+5]).toNat_lt;generalize hc:l[pos+5]=c at *
     by_cases hb:digB c=true
     ·rw [digsR_cons _ _ hb] at hdg2;obtain ⟨q1,q2⟩:=(digB_iff _).1 hb;have hacc2:10 * acc+(c.toNat - 48)<10 ^ (pos+1):=by rw [Nat.pow_succ];omega
      have hp14:10 ^ (pos+1)≤10 ^ 14:=Nat.pow_le_pow_right (by decide) (by rw [List.length_drop] at hdl;omega);have h14:(10:Nat) ^ 14=100000000000000:=by decide
      have Hd2:=Lib.hid hdg2;have Hacc:=Lib.hid hacc2;have hsmall:10 * acc+9≤1000000000000000:=by rw [h14] at hp14;rw [Nat.pow_succ] at hp14;omega
      have b1:¬ (c.toNat:Int)<48:=by omega
      have b2:¬ (57:Int)<(c.toNat:Int):=by omega
      clear hdg hdg2 hacc hacc2 hp14 h14 hdc hb Hr hc;go_wp2_with fail
      go_roundw
      case rel=>exact ⟨pos+1,10 * acc+(c.toNat - 48),by first | rfl | trivial,by go_num,by go_num,by omega,Hacc.out,by show digsR (l.drop (pos+1+5)) _=_;rw [show pos+1+5=pos+5+1 from by omega];exact Hd2.out⟩
      case measure=>simp [intOf];omega
     ·rw [digsR_bad _ _ hb] at hdg2;have Hz:=Lib.hid hdg2;have hbad:(c.toNat:Int)<48∨(57:Int)<(c.toNat:Int):=by
       rcases Nat.lt_or_ge c.toNat 48 with h5 | h5
       ·left;omega
       ·right
        rcases Nat.lt_or_ge 57 c.toNat with h6 | h6
        ·omega
        ·exact absurd ((digB_iff c).2 ⟨h5,h6⟩) hb
      clear hdg hdg2 hacc hdc hb Hr hc
      rcases hbad with hbad | hbad
      ·go_wp2_with fail
       go_ret
       exact ⟨by rw [←Hz.out];rfl,rfl⟩
      ·have hb2:¬ (c.toNat:Int)<48:=by omega
       go_wp2_with fail
       go_ret
       exact ⟨by rw [←Hz.out];rfl,rfl⟩
    ·have hpi:¬ ((pos+5:Nat):Int)<(l.length:Int):=by omega
     have hdg2:=hdg.out;rw [List.drop_of_length_le (by omega),digsR] at hdg2;have Hz:=Lib.hid hdg2;clear hdg hdg2 hacc Hr;go_wp2
     go_ret
     exact ⟨ret_int Hz.out,rfl⟩
  ·have hr:R = -1:=Hn.out.trans (if_pos (by
    by_cases a1:l.take 5=hdS
    ·by_cases a2:14<l.length - 5
     ·exact .inr (.inr (.inl a2))
     ·refine .inr (.inr (.inr ?_));rw [h4g];have a3:(l[5]'(by omega)).toNat=48:=Decidable.not_not.1 (fun a3=>hall ⟨a1,a2,a3⟩)
      congr 1
      exact UInt8.toNat_inj.1 a3
    ·exact .inr (.inl a1)))
   have Hr:=Lib.hid hr;clear hr Hn
   by_cases a1:l.take 5=hdS
   ·have e2':l.take 5=[115,110,97,112,46]:=a1
    by_cases a2:14<l.length - 5
    ·have e3':(14:Int)<(l.length:Int) - 5:=by omega
     clear a1 hall;go_enter Tryz.func84,Tryz.ntmps84
     go_wp2
     go_ret
     exact ⟨by rw [Hr.out];rfl,rfl⟩
    ·have a3:(l[5]'(by omega)).toNat=48:=Decidable.not_not.1 (fun a3=>hall ⟨a1,a2,a3⟩);have e3':¬ (14:Int)<(l.length:Int) - 5:=by omega
     have e4':((((⟨l.toArray⟩:ByteArray)[5]'h4s).toNat:Int) == 48)=true:=by rw [h4e];simp;omega
     clear h4e h4g a3 a1 hall;go_enter Tryz.func84,Tryz.ntmps84
     go_wp2
     go_ret
     exact ⟨by rw [Hr.out];rfl,rfl⟩
   ·have e2':¬ l.take 5=[115,110,97,112,46]:=a1;clear a1 hall;go_enter Tryz.func84,Tryz.ntmps84
    go_wp2
    go_ret
    exact ⟨by rw [Hr.out];rfl,rfl⟩

end
section
open Go Go.RowKit Go.PlainAid
theorem rkPut (v vl:Value) (b:List UInt8) (K:Int) (l:List Int) (w:World) (hv:Bytes w v b) (hl:Rd intsE w vl l) (hb:b.length≤2000000000) (hll:l.length≤1000) (hk:In64 K) (hr:∀ x ∈ l,In64 x) :
 Calls Tryz.prog 49 #[v,.int .i64 K,vl] w fun e w'=>∃ q,e=.returned q∧OwnB w' w.heap.size 5 q (b++recB (K::l))∧Below w.heap.size w w':=by
 obtain ⟨p,cap,rfl⟩:=hl.shape;obtain ⟨hk1,hk2⟩:=hk;go_enter Tryz.func49,Tryz.ntmps49
 go_wp2_with fail
 with_reducible refine (rkNum (.slice none 0 0) [] K w (Bytes.nil w) (by simp) hk1 hk2).mono ?_
 rintro e w1 ⟨q1,rfl,own1,b1⟩;rw [List.nil_append] at own1;have hs1:=b1.size;have hK:=numB_le K;go_wp2_with fail
 go_loopw [7,8] (fun o i wr=>∃ k:Nat,k≤l.length∧i=.int .i64 k∧OwnB wr w.heap.size 5 o (numB K++numsB (l.take k))∧Below w.heap.size w wr) (fun _ i _=>l.length - (intOf i).toNat)
 case atStart=>exact ⟨0,by omega,rfl,by simpa [numsB] using own1,b1⟩
 case round =>
  obtain ⟨k,hkl,rfl,own,hbw⟩:=hrel;have hsz:=hbw.size;have hnl:=numsB_le (l.take k);rw [List.length_take,Nat.min_eq_left hkl] at hnl
  by_cases hlt:k<l.length
  ·have hlr:=hl.ext hbw;obtain ⟨bb,off,rfl⟩:=Rd.blk hlr (by omega);have c0:wr.cell? ⟨bb,off+k,none⟩=some (.int .i64 l[k]):=by have:=hlr.at_ hlt 0 (by decide);simpa [intsE] using this
   obtain ⟨hin1,hin2⟩:=hr l[k] (List.getElem_mem hlt);have hst:numB K++numsB (l.take (k+1))=(numB K++numsB (l.take k))++numB l[k]:=by rw [List.take_succ_eq_append_getElem hlt,numsB_snoc,List.append_assoc]
   have Hst:=Lib.hid hst;have hi:(k:Int)<(l.length:Int):=by omega
   have hi0:(0:Int)≤(k:Int):=by omega
   have hol:(numB K++numsB (l.take k)).length≤35184372088000:=by rw [List.length_append];omega
   clear hst;generalize l[k]=y at *;generalize numB K++numsB (l.take k)=O at *;obtain ⟨po,co,rfl⟩:=own.bytes.shape;go_wp2_with fail
   refine (rkNum _ O y wr own.bytes hol hin1 hin2).mono ?_;rintro e w3 ⟨q3,rfl,own3,b3⟩;go_wp2_with fail
   go_roundw
   case rel=>exact ⟨k+1,by omega,by go_num,by rw [Hst.out];exact own3.base hsz,hbw.trans (b3.mono hsz)⟩
   case measure=>simp [intOf];omega
  ·have hi:¬ (k:Int)<(l.length:Int):=by omega
   have hke:k=l.length:=by omega
   have hfin:numB K++numsB (l.take k)=numsB (K::l):=by rw [hke,List.take_of_length_le (Nat.le_refl _)];rfl
   rw [hfin] at own;have hfl:=numsB_le (K::l);rw [List.length_cons] at hfl;clear hfin hke hnl;obtain ⟨po,co,rfl⟩:=own.bytes.shape;go_wp2_with fail
   refine (refFrame v _ b (numsB (K::l)) wr (hv.ext hbw) own.bytes (by omega) (by omega)).mono ?_;rintro e w3 ⟨q3,rfl,own3,b3⟩;go_wp2_with fail
   go_ret
   exact ⟨_,rfl,own3.base hsz,hbw.trans (b3.mono hsz)⟩
theorem rkPutEntry (v:Value) (b:List UInt8) (x:Ety) (w:World) (hv:Bytes w v b) (hb:b.length≤2000000000) (hin:EtyIn x) :
 Calls Tryz.prog 50 #[v,etyV x] w fun e w'=>∃ q,e=.returned q∧OwnB w' w.heap.size 5 q (b++etyB x)∧Below w.heap.size w w':=by
 obtain ⟨⟨i11,i12⟩,⟨i21,i22⟩,i3⟩:=hin;obtain ⟨pv,cv,rfl⟩:=hv.shape;unfold etyV;have kx:=Blk.new w #[.int .i64 x.term,.int .i64 x.members,.string x.data] 73;have ca:=below_alloc w (.cells #[.int .i64 x.term,.int .i64 x.members,.string x.data] 73);have hoW:=hv.ext ca;go_enter Tryz.func50,Tryz.ntmps50
 go_wp2_with fail
 generalize w.alloc (.cells #[.int .i64 x.term,.int .i64 x.members,.string x.data] 73)=W at *;have bD:=below_drew W.heap.size W;refine wp_region_F (n:=12) (S:=fun w':World=>w'.cell? ⟨w.heap.size,0,none⟩=some (.int .i64 x.term)∧(w'.cell? ⟨w.heap.size,1,none⟩=some (.int .i64 x.members)∧w'.cell? ⟨w.heap.size,2,none⟩=some (.string x.data))) (by kernel_rfl) ?_
 have hHeld:(fun w':World=>w'.cell? ⟨w.heap.size,0,none⟩=some (.int .i64 x.term)∧(w'.cell? ⟨w.heap.size,1,none⟩=some (.int .i64 x.members)∧w'.cell? ⟨w.heap.size,2,none⟩=some (.string x.data))) W.drew:=⟨kx.cell 0 _ rfl,kx.cell 1 _ rfl,kx.cell 2 _ rfl⟩;refine tk ?_ 0 ?_ hHeld ?_;rotate_left
 ·rintro w ⟨_,_,_⟩;dsimp only [bare];go_simp<;>with_reducible rfl
 try simp only [lyB,lyP,lyA,lyZ,lyS]
 refine tk ?_ 2 ?_ hHeld ?_;rotate_left
 ·rintro w ⟨_,_,_⟩;dsimp only [bare];go_simp<;>with_reducible rfl
 try simp only [lyB,lyP,lyA,lyZ,lyS]
 refine tk ?_ 3 ?_ hHeld ?_;rotate_left
 ·rintro w ⟨_,_,_⟩;dsimp only [bare];go_simp<;>with_reducible rfl
 try simp only [lyB,lyP,lyA,lyZ,lyS]
 refine tk ?_ 5 ?_ hHeld ?_;rotate_left
 ·rintro w ⟨_,_,_⟩;dsimp only [bare];go_simp<;>with_reducible rfl
 try simp only [lyB,lyP,lyA,lyZ,lyS]
 refine tk ?_ 6 ?_ hHeld ?_;rotate_left
 ·rintro w ⟨_,_,_⟩;dsimp only [bare];go_simp<;>with_reducible rfl
 try simp only [lyB,lyP,lyA,lyZ,lyS]
 refine tk ?_ 8 ?_ hHeld ?_;rotate_left
 ·rintro w ⟨_,_,_⟩;dsimp only [bare];go_simp<;>with_reducible rfl
 try simp only [lyB,lyP,lyA,lyZ,lyS]
 refine tk ?_ 9 ?_ hHeld ?_;rotate_left
 ·rintro w ⟨_,_,_⟩;dsimp only [bare];go_simp<;>with_reducible rfl
 try simp only [lyB,lyP,lyA,lyZ,lyS]
 have k0:=kx.drew;refine wpAnyF_one 1 _ _ _ rfl (by kernel_rfl) (fun K hK=>?_);dsimp only [bare];go_simp;refine (rkNum (.slice none 0 0) [] 2 W.drew (Bytes.nil _) (by simp) (by decide) (by decide)).mono ?_;rintro e w1 ⟨r1,rfl,own1,b1⟩;dsimp only;rw [List.nil_append] at own1;have k1:=k0.ext b1;have bA:=bD.trans (b1.mono bD.size);have n1:=numB_le 2;refine hK _ _ ⟨k1.cell 0 _ rfl,k1.cell 1 _ rfl,k1.cell 2 _ rfl⟩ (fun hHeld=>?_);clear hK K
 try simp only [lyB,lyP,lyA,lyZ,lyS]
 refine wpAnyF_one 4 _ _ _ rfl (by kernel_rfl) (fun K hK=>?_);dsimp only [bare];go_simp;refine (rkNum r1 _ x.term w1 own1.bytes (by omega) i11 i12).mono ?_;rintro e w2 ⟨r2,rfl,own2,b2⟩;dsimp only;have k2:=k1.ext b2;have bB:=bA.trans (b2.mono bA.size);have n2:=numB_le x.term;refine hK _ _ ⟨k2.cell 0 _ rfl,k2.cell 1 _ rfl,k2.cell 2 _ rfl⟩ (fun hHeld=>?_);clear hK K
 try simp only [lyB,lyP,lyA,lyZ,lyS]
 refine wpAnyF_one 7 _ _ _ rfl (by kernel_rfl) (fun K hK=>?_);dsimp only [bare];go_simp;refine (rkNum r2 _ x.members w2 own2.bytes (by rw [List.length_append];omega) i21 i22).mono ?_;rintro e w3 ⟨r3,rfl,own3,b3⟩;dsimp only;have k3:=k2.ext b3;have bC:=bB.trans (b3.mono bB.size);have n3:=numB_le x.members;refine hK _ _ ⟨k3.cell 0 _ rfl,k3.cell 1 _ rfl,k3.cell 2 _ rfl⟩ (fun hHeld=>?_);clear hK K
 try simp only [lyB,lyP,lyA,lyZ,lyS]
 refine wpAnyF_one 10 _ _ _ rfl (by kernel_rfl) (fun K hK=>?_);dsimp only [bare];go_simp;refine (rkText r3 _ x.data w3 own3.bytes (by simp only [List.length_append];omega)).mono ?_;rintro e w4 ⟨r4,rfl,own4,b4⟩;dsimp only;have k4:=k3.ext b4;have bE:=bC.trans (b4.mono bC.size);have n4:(textB x.data.data.toList).length≤10+x.data.size:=by
  unfold textB;rw [List.length_append];have:=numB_le (x.data.data.toList.length:Int);have h4:x.data.data.toList.length=x.data.size:=by simp
  omega
 refine hK _ _ ⟨k4.cell 0 _ rfl,k4.cell 1 _ rfl,k4.cell 2 _ rfl⟩ (fun hHeld=>?_);clear hK K
 try simp only [lyB,lyP,lyA,lyZ,lyS]
 refine wpAnyF_one 11 _ _ _ rfl (by kernel_rfl) (fun K hK=>?_);dsimp only [bare];go_simp;refine (refFrame _ r4 b _ w4 (hoW.ext bE) own4.bytes (by omega) (by simp only [List.length_append];omega)).mono ?_;rintro e w5 ⟨r5,rfl,own5,b5⟩;dsimp only;have k5:=k4.ext b5;have bF:=bE.trans (b5.mono bE.size);refine hK _ _ ⟨k5.cell 0 _ rfl,k5.cell 1 _ rfl,k5.cell 2 _ rfl⟩ (fun hHeld=>?_);clear hK K
 try simp only [lyB,lyP,lyA,lyZ,lyS]
 refine wpAnyF_end (some 4) (Op.assign (Operand.tmp 16)) 26 rfl (by kernel_rfl) (by kernel_rfl) (fun K hK=>?_);dsimp only [bare];go_simp;refine hK _ _ ?_;clear hK K
 try simp only [lyB,lyP,lyA,lyZ,lyS]
 have hall:=ca.trans (bF.mono ca.size);have hle:=Nat.le_trans ca.size bE.size;have hfin:Frm.put b (numB 2++numB x.term++numB x.members++textB x.data.data.toList)=b++etyB x:=by unfold Frm.put etyB;simp [numsB,bytesOf]
 rw [hfin] at own5;clear hfin;go_wp2_with fail
 go_ret
 exact ⟨_,rfl,own5.base hle,hall⟩
end
section
open Go Go.RowKit Go.PlainAid BigFrame
@[reducible] def hrdC (h:Hrd) (v:Value):Array Value:=#[.int .i64 h.term,.int .i64 h.vote,.int .i64 h.base,.int .i64 h.bterm,.int .i64 h.members,.string h.snap,v]
structure HdV (w:World) (g:Nat) (v:Value) (h:Hrd):Prop where
 blk:Blk w g (hrdC h v) 24
 log:Rd etyE w v h.log
 off:v.ownBlock≠some g
section
variable {w w':World} {g:Nat} {v v':Value} {h x:Hrd}
theorem HdV.chg {G:Nat→Prop} (k:HdV w g v h) (hc:Chg G w w') (hg:¬ G g) (hv:∀ k,v.ownBlock=some k→¬ G k):HdV w' g v h:=⟨hc.blk k.blk hg,hc.cells k.log hv,k.off⟩
theorem HdV.ext (k:HdV w g v h) (hb:Below w.heap.size w w'):HdV w' g v h:=k.chg (G:=fun _=>False) (.of_below hb) id fun _ _=>id
theorem HdV.c (k:HdV w g v h):w.cell? ⟨g,0,none⟩=some (.int .i64 h.term)∧w.cell? ⟨g,1,none⟩=some (.int .i64 h.vote)∧w.cell? ⟨g,2,none⟩=some (.int .i64 h.base)∧w.cell? ⟨g,3,none⟩=some (.int .i64 h.bterm)∧w.cell? ⟨g,4,none⟩=some (.int .i64 h.members)∧w.cell? ⟨g,5,none⟩=some (.string h.snap)∧w.cell? ⟨g,6,none⟩=some v :=
 ⟨k.blk.cell 0 _ rfl,k.blk.cell 1 _ rfl,k.blk.cell 2 _ rfl,k.blk.cell 3 _ rfl,k.blk.cell 4 _ rfl,k.blk.cell 5 _ rfl,k.blk.cell 6 _ rfl⟩
theorem hrdC_fill:(((((((hrdC h v).setIfInBounds 0 (.int .i64 x.term)).setIfInBounds 1 (.int .i64 x.vote)).setIfInBounds 2 (.int .i64 x.base)).setIfInBounds 3 (.int .i64 x.bterm)).setIfInBounds 4 (.int .i64 x.members)).setIfInBounds 5 (.string x.snap)).setIfInBounds 6 v'=hrdC x v':=by kernel_rfl
theorem HdV.fill (k:HdV w g v h) (hl:Rd etyE w v' x.log) (ho:v'.ownBlock≠some g):HdV (((((((w.setCell ⟨g,0,none⟩ (.int .i64 x.term)).setCell ⟨g,1,none⟩ (.int .i64 x.vote)).setCell ⟨g,2,none⟩ (.int .i64 x.base)).setCell ⟨g,3,none⟩ (.int .i64 x.bterm)).setCell ⟨g,4,none⟩ (.int .i64 x.members)).setCell ⟨g,5,none⟩ (.string x.snap)).setCell ⟨g,6,none⟩ v') g v' x∧Chg (fun k=>k=g) w (((((((w.setCell ⟨g,0,none⟩ (.int .i64 x.term)).setCell ⟨g,1,none⟩ (.int .i64 x.vote)).setCell ⟨g,2,none⟩ (.int .i64 x.base)).setCell ⟨g,3,none⟩ (.int .i64 x.bterm)).setCell ⟨g,4,none⟩ (.int .i64 x.members)).setCell ⟨g,5,none⟩ (.string x.snap)).setCell ⟨g,6,none⟩ v'):=by
 have hc:Chg (fun k=>k=g) w (((((((w.setCell ⟨g,0,none⟩ (.int .i64 x.term)).setCell ⟨g,1,none⟩ (.int .i64 x.vote)).setCell ⟨g,2,none⟩ (.int .i64 x.base)).setCell ⟨g,3,none⟩ (.int .i64 x.bterm)).setCell ⟨g,4,none⟩ (.int .i64 x.members)).setCell ⟨g,5,none⟩ (.string x.snap)).setCell ⟨g,6,none⟩ v'):=(((((((Chg.refl (fun k=>k=g) w).setCell (p:=⟨g,0,none⟩) rfl (.int .i64 x.term)).setCell (p:=⟨g,1,none⟩) rfl (.int .i64 x.vote)).setCell (p:=⟨g,2,none⟩) rfl (.int .i64 x.base)).setCell (p:=⟨g,3,none⟩) rfl (.int .i64 x.bterm)).setCell (p:=⟨g,4,none⟩) rfl (.int .i64 x.members)).setCell (p:=⟨g,5,none⟩) rfl (.string x.snap)).setCell (p:=⟨g,6,none⟩) rfl v'
 refine ⟨⟨?_,hc.cells hl (fun k hk e=>ho (by rw [hk,e])),ho⟩,hc⟩;rw [←hrdC_fill (v:=v) (h:=h)];exact (((((((k.blk.set 0 (.int .i64 x.term)).set 1 (.int .i64 x.vote)).set 2 (.int .i64 x.base)).set 3 (.int .i64 x.bterm)).set 4 (.int .i64 x.members)).set 5 (.string x.snap)).set 6 v')
end
structure TkD (w0 w:World) (gr gg:Nat) (vr v2:Value) (r:Rdr) (cs:Array Value) (l2:List Ety):Prop where
 rdr:RkAt w gr vr r
 blk:Blk w gg cs 24
 own:OwnR etyE w w0.heap.size 73 v2 l2
 n1:gr≠gg
 n2:vr.ownBlock≠some gg
 n3:v2.ownBlock≠some gr
 n4:v2.ownBlock≠some gg
 n5:∀ k,vr.ownBlock=some k→v2.ownBlock≠some k
 lr:w0.heap.size≤gr
 lg:w0.heap.size≤gg
 bel:Below w0.heap.size w0 w
section
variable {w0 w w':World} {gr gg:Nat} {vr v2:Value} {r r':Rdr} {cs:Array Value} {l2:List Ety}
theorem TkD.ext (h:TkD w0 w gr gg vr v2 r cs l2) (hb:Below w.heap.size w w'):TkD w0 w' gr gg vr v2 r cs l2 :=
 ⟨h.rdr.ext hb,h.blk.ext hb,h.own.ext hb,h.n1,h.n2,h.n3,h.n4,h.n5,h.lr,h.lg,h.bel.trans (hb.mono h.bel.size)⟩
theorem TkD.read (h:TkD w0 w gr gg vr v2 r cs l2) (hr:RkAt w' gr vr r') (hc:Chg (fun k=>k=gr) w w'):TkD w0 w' gr gg vr v2 r' cs l2 :=
 ⟨hr,hc.blk h.blk h.n1.symm,hc.ownR h.own (fun k hk e=>h.n3 (by rw [hk,e])),h.n1,h.n2,h.n3,h.n4,h.n5,h.lr,h.lg,h.bel.trans (hc.below (fun k hk=>by rw [hk];exact h.lr) h.bel.size)⟩
theorem TkD.set (h:TkD w0 w gr gg vr v2 r cs l2) (i:Nat) (u:Value):TkD w0 (w.setCell ⟨gg,i,none⟩ u) gr gg vr v2 r (cs.setIfInBounds i u) l2:=by
 have hc:=chg_cell gg i u w;exact ⟨h.rdr.chg hc h.n1 (fun k hk e=>h.n2 (by rw [hk,e])),h.blk.set i u,hc.ownR h.own (fun k hk e=>h.n4 (by rw [hk,e])),h.n1,h.n2,h.n3,h.n4,h.n5,h.lr,h.lg,h.bel.setCell (p:=⟨gg,i,none⟩) h.lg u⟩
theorem TkD.other (h:TkD w0 w gr gg vr v2 r cs l2) {ge:Nat} (hc:Chg (fun k=>k=ge) w w') (h1:gr≠ge) (h2:gg≠ge) (h3:vr.ownBlock≠some ge) (h4:v2.ownBlock≠some ge) (h5:w0.heap.size≤ge):TkD w0 w' gr gg vr v2 r cs l2 :=
 ⟨h.rdr.chg hc h1 (fun k hk e=>h3 (by rw [hk,e])),hc.blk h.blk h2,hc.ownR h.own (fun k hk e=>h4 (by rw [hk,e])),h.n1,h.n2,h.n3,h.n4,h.n5,h.lr,h.lg,h.bel.trans (hc.below (fun k hk=>by rw [hk];exact h5) h.bel.size)⟩
theorem TkD.log (h:TkD w0 w gr gg vr v2 r cs l2) {v3:Value} {l3:List Ety} (own:OwnR etyE w w0.heap.size 73 v3 l3) (n3:v3.ownBlock≠some gr) (n4:v3.ownBlock≠some gg) (n5:∀ k,vr.ownBlock=some k→v3.ownBlock≠some k):TkD w0 w gr gg vr v3 r cs l3 :=
 ⟨h.rdr,h.blk,own,h.n1,h.n2,n3,n4,n5,h.lr,h.lg,h.bel⟩
theorem TkD.app (h:TkD w0 w gr gg vr v2 r cs l2) (hvr:∀ k,vr.ownBlock=some k→k<w.heap.size) {v3:Value} {l3:List Ety} (hg:w.grownBy w' v2.ownBlock) (hb:Below w0.heap.size w w') (own:OwnR etyE w' w0.heap.size 73 v3 l3) (hw:v3.ownBlock=v2.ownBlock∨v3.ownBlock=some w.heap.size):TkD w0 w' gr gg vr v3 r cs l3:=by
 have hc:Chg (fun k=>v2.ownBlock=some k) w w':=.of_grown hg fun k hk=>hk;have h1:=h.rdr.blk.lt;have h2:=h.blk.lt;refine ⟨h.rdr.chg hc h.n3 (fun k hk e=>h.n5 k hk e),hc.blk h.blk h.n4,own,h.n1,h.n2,?_,?_,fun k hk=>?_,h.lr,h.lg,h.bel.trans hb⟩
 ·rcases hw with hw | hw
  ·rw [hw];exact h.n3
  ·rw [hw];intro e;cases e;omega
 ·rcases hw with hw | hw
  ·rw [hw];exact h.n4
  ·rw [hw];intro e;cases e;omega
 ·rcases hw with hw | hw
  ·rw [hw];exact h.n5 k hk
  ·rw [hw];intro e;cases e;have:=hvr _ hk;omega
theorem TkD.num (h:TkD w0 w gr gg vr v2 r cs l2) :
 Calls Tryz.prog 87 #[.pointer (some ⟨gr,0,none⟩)] w fun x w'=>x=.returned (.int .i64 (rNum r).1)∧TkD w0 w' gr gg vr v2 (rNum r).2 cs l2∧Chg (fun k=>k=gr) w w' :=
 (rkRNum gr vr r w h.rdr).mono fun _ _ ⟨h1,h2,h3⟩=>⟨h1,h.read h2 h3,h3⟩
theorem TkD.text (h:TkD w0 w gr gg vr v2 r cs l2) (most:Int) :
 Calls Tryz.prog 116 #[.pointer (some ⟨gr,0,none⟩),.int .i64 most] w fun x w'=>x=.returned (.string ⟨(rText most r).1.toArray⟩)∧TkD w0 w' gr gg vr v2 (rText most r).2 cs l2∧Chg (fun k=>k=gr) w w' :=
 (rkRText gr vr r most w h.rdr).mono fun _ _ ⟨h1,h2,h3⟩=>⟨h1,h.read h2 h3,h3⟩
theorem TkD.fin (h:TkD w0 w gr gg vr v2 r cs l2) :
 Calls Tryz.prog 117 #[.pointer (some ⟨gr,0,none⟩)] w fun x w'=>x=.returned (.int .i64 (rEnd r).1)∧TkD w0 w' gr gg vr v2 (rEnd r).2 cs l2∧Chg (fun k=>k=gr) w w' :=
 (rkEnd gr vr r w h.rdr).mono fun _ _ ⟨h1,h2,h3⟩=>⟨h1,h.read h2 h3,h3⟩
end
def sX:ByteArray:=⟨#[120]⟩
def withX (h:Hrd):Hrd:={ h with snap:=if h.base=0 then sNone else sX }
theorem right_x (h:Hrd):rightH (withX h)=bareH h:=by
 have e:bareH (withX h)=bareH h:=rfl;unfold rightH;rw [e];unfold withX
 by_cases hb:h.base=0
 ·rw [if_pos hb,decide_eq_true hb];simp [sNone,ByteArray.size]
 ·rw [if_neg hb,decide_eq_false hb];simp [sX,ByteArray.size]
def begR (p:List UInt8):Option Hrd:=match parseR p with
 | some (.beg g)=>if bareH g then some g else none
 | _=>none
theorem begR_no {p:List UInt8} (h:parseR p=none):begR p=none:=by unfold begR;rw [h]
theorem begR_yes {p:List UInt8} {g:Hrd} (h:parseR p=some (.beg g)):begR p=if bareH g then some g else none:=by unfold begR;rw [h]
def BegsR (w:World) (B gh:Nat) (h:Hrd) (p:List UInt8) (e:Ending) (w':World):Prop :=
 e=.returned (.int .i64 (if (begR p).isSome then 1 else 0))∧(∃ v,HdV w' gh v ((begR p).getD h)∧∀ k,v.ownBlock=some k→B≤k)∧Below B w w'

theorem rkBegun {w:World} {B gh:Nat} {vh:Value} {h:Hrd} (hd:HdV w gh vh h) (hB0:B≤gh) (hv0:∀ k,vh.ownBlock=some k→B≤k) (vp:Value) (p:List UInt8) (hp:Bytes w vp p) (hpl:p.length≤35184372088000) (hk:(rNum (rd0 p)).1=1) :
 Calls Tryz.prog 88 #[.pointer (some ⟨gh,0,none⟩),vp] w (BegsR w B gh h p):=by
 have hpk:=parse_k hk;have hgl:=hd.blk.lt;go_enter Tryz.func88,Tryz.ntmps88
 go_wp2_with fail
 refine (rkRead vp p w hp hpl).mono ?_;rintro e w1 ⟨gr,vr,rfl,hr,hgr,hvr,b1⟩;have grl:=hr.blk.lt;go_wp2_with fail
 refine (rkRNum gr vr (rd0 p) w1 hr).mono ?_;rintro e w2 ⟨rfl,hr2,ch2⟩;go_wp2_with fail
 refine (rkRNum gr vr _ w2 hr2).mono ?_;rintro e w3 ⟨rfl,hr3,ch3⟩;have ch23:=ch2.step ch3;have b3:Below w.heap.size w w3:=b1.trans (ch23.below (fun k hk=>by rw [hk];exact hgr) b1.size);have hs13:=ch23.size;clear ch2 ch3 hr hr2;generalize hq0:rNum (rd0 p)=q0 at *;obtain ⟨kd,r1⟩:=q0;dsimp only at *;generalize hq1:rNum r1=q1 at *;obtain ⟨n1,r2⟩:=q1;dsimp only at *;have Q1:=Lib.hid hq1;subst hk;replace hpk:parseR p=recBeg r1:=hpk.trans (if_pos trivial);have Hpk:=Lib.hid hpk;clear hpk hq1 hq0
 have T3:TkD w (w3.alloc (.cells #[.int .i64 n1,.int .i64 0,.int .i64 0,.int .i64 0,.int .i64 0,.string ⟨#[]⟩,.slice none 0 0] 24)) gr w3.heap.size vr (.slice none 0 0) r2 #[.int .i64 n1,.int .i64 0,.int .i64 0,.int .i64 0,.int .i64 0,.string ⟨#[]⟩,.slice none 0 0] [] :=
  ⟨hr3.ext (below_alloc _ _),Blk.new _ _ _,OwnR.nil _ _ _,by omega,(fun e=>by have:=(hvr _ e).2;omega),by simp [Value.ownBlock],by simp [Value.ownBlock],by simp [Value.ownBlock],hgr,b3.size,b3.trans ((below_alloc _ _).mono b3.size)⟩
 have hgg:w3.heap.size ≥ w.heap.size:=b3.size;go_wp2_with fail
 generalize w3.alloc (.cells #[.int .i64 n1,.int .i64 0,.int .i64 0,.int .i64 0,.int .i64 0,.string ⟨#[]⟩,.slice none 0 0] 24)=w4 at *;generalize w3.heap.size=gg at *;clear hr3 b3 hs13 ch23 hvr b1;refine T3.num.mono ?_;rintro e x1 ⟨rfl,S1,_⟩;generalize hq2:rNum r2=q2 at *;obtain ⟨n2,r3⟩:=q2;dsimp only at *;have Q2:=Lib.hid hq2;have y1:=S1.blk.cell 1 _ rfl;have z1:=S1.blk.frozen 1;have U1:=S1.set 1 (.int .i64 n2);clear hq2;go_wp2_with fail
 generalize x1.setCell ⟨gg,1,none⟩ (.int .i64 n2)=w5 at *;clear y1 z1 S1 T3;refine U1.num.mono ?_;rintro e x2 ⟨rfl,S2,_⟩;generalize hq3:rNum r3=q3 at *;obtain ⟨n3,r4⟩:=q3;dsimp only at *;have Q3:=Lib.hid hq3;have y2:=S2.blk.cell 2 _ rfl;have z2:=S2.blk.frozen 2;have U2:=S2.set 2 (.int .i64 n3);clear hq3;go_wp2_with fail
 generalize x2.setCell ⟨gg,2,none⟩ (.int .i64 n3)=w6 at *;clear y2 z2 S2 U1;refine U2.num.mono ?_;rintro e x3 ⟨rfl,S3,_⟩;generalize hq4:rNum r4=q4 at *;obtain ⟨n4,r5⟩:=q4;dsimp only at *;have Q4:=Lib.hid hq4;have y3:=S3.blk.cell 3 _ rfl;have z3:=S3.blk.frozen 3;have U3:=S3.set 3 (.int .i64 n4);clear hq4;go_wp2_with fail
 generalize x3.setCell ⟨gg,3,none⟩ (.int .i64 n4)=w7 at *;clear y3 z3 S3 U2;refine U3.num.mono ?_;rintro e x4 ⟨rfl,S4,_⟩;generalize hq5:rNum r5=q5 at *;obtain ⟨n5,r6⟩:=q5;dsimp only at *;have Q5:=Lib.hid hq5;have y4:=S4.blk.cell 4 _ rfl;have z4:=S4.blk.frozen 4;have U4:=S4.set 4 (.int .i64 n5);clear hq5;obtain ⟨gx,hgx⟩:∃ gx:Hrd,gx=(⟨n1,n2,n3,n4,n5,sNone,[]⟩:Hrd):=⟨_,rfl⟩;have hpar:(rEnd r6).1=0→begR p=if bareH gx then some gx else none:=fun he=>by
  rw [hgx];refine begR_yes (Hpk.out.trans ?_);unfold recBeg;rw [Q1.out];dsimp only;rw [Q2.out];dsimp only;rw [Q3.out];dsimp only;rw [Q4.out];dsimp only;rw [Q5.out];exact ended_ok he
 have hpno:¬ (rEnd r6).1=0→begR p=none:=fun he=>begR_no (by
  rw [Hpk.out];unfold recBeg;rw [Q1.out];dsimp only;rw [Q2.out];dsimp only;rw [Q3.out];dsimp only;rw [Q4.out];dsimp only;rw [Q5.out];exact ended_no he)
 have Hpar:=Lib.hid hpar;have Hpno:=Lib.hid hpno;have Hgx:=Lib.hid hgx;clear hpar hpno Hpk Q1 Q2 Q3 Q4 Q5 S4 U3 hgx;replace U4:TkD w (x4.setCell ⟨gg,4,none⟩ (.int .i64 n5)) gr gg vr (.slice none 0 0) r6 #[.int .i64 n1,.int .i64 n2,.int .i64 n3,.int .i64 n4,.int .i64 n5,.string ⟨#[]⟩,.slice none 0 0] []:=U4;have e2:=U4.blk.cell 2 _ rfl;have e5:=U4.blk.cell 5 _ rfl;have g5:=U4.blk.frozen 5;have e0:=U4.blk.cell 0 _ rfl
 by_cases hz:n3=0
 ·have hzi:(n3 !=0)=false:=by simpa using hz
  have hwx:withX gx=⟨n1,n2,n3,n4,n5,⟨#[]⟩,[]⟩:=by rw [Hgx.out];unfold withX;rw [if_pos hz];rfl
  have T5:=U4;clear U4 hz;go_wp2_with fail
  generalize x4.setCell ⟨gg,4,none⟩ (.int .i64 n5)=w9 at *;clear e0 e2 e5 g5 y4 z4;have hgl2:=T5.bel.size;have hright:=fun (z:World)=>refRight (withX gx) (.slice none 0 0) z (by rw [hwx];exact Rd.nil _);rw [hwx] at hright;have hrx:rightH ⟨n1,n2,n3,n4,n5,⟨#[]⟩,[]⟩=bareH gx:=by rw [←hwx];exact right_x gx
  rw [hrx] at hright;clear hrx hwx
  with_reducible refine T5.fin.mono ?_
  rintro e x5 ⟨rfl,S5,_⟩;have c0:=S5.blk.cell 0 _ rfl;have c1:=S5.blk.cell 1 _ rfl;have c2:=S5.blk.cell 2 _ rfl;have c3:=S5.blk.cell 3 _ rfl;have c4:=S5.blk.cell 4 _ rfl;have c5:=S5.blk.cell 5 _ rfl;have c6:=S5.blk.cell 6 _ rfl;clear T5
  by_cases hE:(rEnd r6).1=0
  ·have hez:((rEnd r6).1 !=0)=false:=by simpa using hE
   have hbeg:=Lib.hid (Hpar.out hE);go_wp2_with fail
   cases hB:bareH gx with
   | false =>
    rw [hB] at hright
    with_reducible refine (hright x5).mono ?_
    rintro e x6 ⟨rfl,b6⟩;go_wp2_with fail
    go_ret
    have hbl:=S5.bel.trans (b6.mono S5.bel.size);have hbn:=hbeg.out;rw [hB] at hbn;unfold BegsR;rw [hbn];exact ⟨rfl,⟨_,hd.ext hbl,hv0⟩,hbl.mono (by omega)⟩
   | true =>
    rw [hB] at hright
    with_reducible refine (hright x5).mono ?_
    rintro e x6 ⟨rfl,b6⟩;have S6:=S5.ext b6;have d5:=S6.blk.cell 5 _ rfl;have j5:=S6.blk.frozen 5;have S7:TkD w (x6.setCell ⟨gg,5,none⟩ (.string ⟨#[]⟩)) gr gg vr (.slice none 0 0) (rEnd r6).2 #[.int .i64 n1,.int .i64 n2,.int .i64 n3,.int .i64 n4,.int .i64 n5,.string ⟨#[]⟩,.slice none 0 0] []:=S6.set 5 (.string ⟨#[]⟩);have hd7:=hd.ext S7.bel;have q0:=S7.blk.cell 0 _ rfl;have q1:=S7.blk.cell 1 _ rfl;have q2:=S7.blk.cell 2 _ rfl;have q3:=S7.blk.cell 3 _ rfl;have q4:=S7.blk.cell 4 _ rfl;have q5:=S7.blk.cell 5 _ rfl;have q6:=S7.blk.cell 6 _ rfl;have k0:=hd7.blk.cell 0 _ rfl;have j0:=hd7.blk.frozen 0
    have k1:=hd7.blk.cell 1 _ rfl;have j1:=hd7.blk.frozen 1;have k2:=hd7.blk.cell 2 _ rfl;have j2:=hd7.blk.frozen 2;have k3:=hd7.blk.cell 3 _ rfl;have j3:=hd7.blk.frozen 3;have k4:=hd7.blk.cell 4 _ rfl;have j4:=hd7.blk.frozen 4;have k5:=hd7.blk.cell 5 _ rfl;have jj5:=hd7.blk.frozen 5;have k6:=hd7.blk.cell 6 _ rfl;have j6:=hd7.blk.frozen 6;have hfin:=hd7.fill (x:=gx) (v':=.slice none 0 0) (by rw [Hgx.out];exact Rd.nil _) (by simp [Value.ownBlock]);have hbl:Below B w _:=S7.bel.mono (show B≤w.heap.size by omega)
    have hbl2:=hbl.trans (hfin.2.below (fun k hk=>by rw [hk];exact hB0) (by have:=S7.bel.size;omega));have hbn:=hbeg.out;rw [hB] at hbn;have Hfin:=Lib.hid (And.intro hfin.1 (And.intro hbl2 hbn));rw [Hgx.out] at Hfin;dsimp only at Hfin;clear S6 S7 S5 hd7 hfin hbl hbl2 hbn hd hbeg c0 c1 c2 c3 c4 c5 c6;go_wp2_with fail
    go_ret
    obtain ⟨f1,f2,f3⟩:=Hfin.out;unfold BegsR;rw [f3];exact ⟨rfl,⟨_,f1,by simp [Value.ownBlock]⟩,f2⟩
  ·have hez:((rEnd r6).1 !=0)=true:=by simpa using hE
   have hbeg:=Lib.hid (Hpno.out hE);go_wp2_with fail
   go_ret
   unfold BegsR;rw [hbeg.out];exact ⟨rfl,⟨_,hd.ext S5.bel,hv0⟩,S5.bel.mono (by omega)⟩
 ·have hzi:(n3 !=0)=true:=by simpa using hz
  have hwx:withX gx=⟨n1,n2,n3,n4,n5,⟨#[120]⟩,[]⟩:=by rw [Hgx.out];unfold withX;rw [if_neg hz];rfl
  have T5:TkD w ((x4.setCell ⟨gg,4,none⟩ (.int .i64 n5)).setCell ⟨gg,5,none⟩ (.string ⟨#[120]⟩)) gr gg vr (.slice none 0 0) r6 #[.int .i64 n1,.int .i64 n2,.int .i64 n3,.int .i64 n4,.int .i64 n5,.string ⟨#[120]⟩,.slice none 0 0] []:=U4.set 5 (.string ⟨#[120]⟩);clear U4 hz;go_wp2_with fail
  generalize (x4.setCell ⟨gg,4,none⟩ (.int .i64 n5)).setCell ⟨gg,5,none⟩ (.string ⟨#[120]⟩)=w9 at *;clear e0 e2 e5 g5 y4 z4;have hgl2:=T5.bel.size;have hright:=fun (z:World)=>refRight (withX gx) (.slice none 0 0) z (by rw [hwx];exact Rd.nil _);rw [hwx] at hright;have hrx:rightH ⟨n1,n2,n3,n4,n5,⟨#[120]⟩,[]⟩=bareH gx:=by rw [←hwx];exact right_x gx
  rw [hrx] at hright;clear hrx hwx
  with_reducible refine T5.fin.mono ?_
  rintro e x5 ⟨rfl,S5,_⟩;have c0:=S5.blk.cell 0 _ rfl;have c1:=S5.blk.cell 1 _ rfl;have c2:=S5.blk.cell 2 _ rfl;have c3:=S5.blk.cell 3 _ rfl;have c4:=S5.blk.cell 4 _ rfl;have c5:=S5.blk.cell 5 _ rfl;have c6:=S5.blk.cell 6 _ rfl;clear T5
  by_cases hE:(rEnd r6).1=0
  ·have hez:((rEnd r6).1 !=0)=false:=by simpa using hE
   have hbeg:=Lib.hid (Hpar.out hE);go_wp2_with fail
   cases hB:bareH gx with
   | false =>
    rw [hB] at hright
    with_reducible refine (hright x5).mono ?_
    rintro e x6 ⟨rfl,b6⟩;go_wp2_with fail
    go_ret
    have hbl:=S5.bel.trans (b6.mono S5.bel.size);have hbn:=hbeg.out;rw [hB] at hbn;unfold BegsR;rw [hbn];exact ⟨rfl,⟨_,hd.ext hbl,hv0⟩,hbl.mono (by omega)⟩
   | true =>
    rw [hB] at hright
    with_reducible refine (hright x5).mono ?_
    rintro e x6 ⟨rfl,b6⟩;have S6:=S5.ext b6;have d5:=S6.blk.cell 5 _ rfl;have j5:=S6.blk.frozen 5;have S7:TkD w (x6.setCell ⟨gg,5,none⟩ (.string ⟨#[]⟩)) gr gg vr (.slice none 0 0) (rEnd r6).2 #[.int .i64 n1,.int .i64 n2,.int .i64 n3,.int .i64 n4,.int .i64 n5,.string ⟨#[]⟩,.slice none 0 0] []:=S6.set 5 (.string ⟨#[]⟩);have hd7:=hd.ext S7.bel;have q0:=S7.blk.cell 0 _ rfl;have q1:=S7.blk.cell 1 _ rfl;have q2:=S7.blk.cell 2 _ rfl;have q3:=S7.blk.cell 3 _ rfl;have q4:=S7.blk.cell 4 _ rfl;have q5:=S7.blk.cell 5 _ rfl;have q6:=S7.blk.cell 6 _ rfl;have k0:=hd7.blk.cell 0 _ rfl;have j0:=hd7.blk.frozen 0
    have k1:=hd7.blk.cell 1 _ rfl;have j1:=hd7.blk.frozen 1;have k2:=hd7.blk.cell 2 _ rfl;have j2:=hd7.blk.frozen 2;have k3:=hd7.blk.cell 3 _ rfl;have j3:=hd7.blk.frozen 3;have k4:=hd7.blk.cell 4 _ rfl;have j4:=hd7.blk.frozen 4;have k5:=hd7.blk.cell 5 _ rfl;have jj5:=hd7.blk.frozen 5;have k6:=hd7.blk.cell 6 _ rfl;have j6:=hd7.blk.frozen 6;have hfin:=hd7.fill (x:=gx) (v':=.slice none 0 0) (by rw [Hgx.out];exact Rd.nil _) (by simp [Value.ownBlock]);have hbl:Below B w _:=S7.bel.mono (show B≤w.heap.size by omega)
    have hbl2:=hbl.trans (hfin.2.below (fun k hk=>by rw [hk];exact hB0) (by have:=S7.bel.size;omega));have hbn:=hbeg.out;rw [hB] at hbn;have Hfin:=Lib.hid (And.intro hfin.1 (And.intro hbl2 hbn));rw [Hgx.out] at Hfin;dsimp only at Hfin;clear S6 S7 S5 hd7 hfin hbl hbl2 hbn hd hbeg c0 c1 c2 c3 c4 c5 c6;go_wp2_with fail
    go_ret
    obtain ⟨f1,f2,f3⟩:=Hfin.out;unfold BegsR;rw [f3];exact ⟨rfl,⟨_,f1,by simp [Value.ownBlock]⟩,f2⟩
  ·have hez:((rEnd r6).1 !=0)=true:=by simpa using hE
   have hbeg:=Lib.hid (Hpno.out hE);go_wp2_with fail
   go_ret
   unfold BegsR;rw [hbeg.out];exact ⟨rfl,⟨_,hd.ext S5.bel,hv0⟩,S5.bel.mono (by omega)⟩
end
end Go.Proofs.YtgpgcnmnfnnkjaaGreatDoor
