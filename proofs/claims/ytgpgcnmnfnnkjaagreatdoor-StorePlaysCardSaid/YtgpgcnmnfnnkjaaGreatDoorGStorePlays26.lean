import Derived.Test.YtgpgcnmnfnnkjaaGreatDoorGStorePlays23
import Derived.Test.YtgpgcnmnfnnkjaaGreatDoorGStorePlays3
import Derived.Test.YtgpgcnmnfnnkjaaGreatDoorGStorePlays6
import Derived.Deep.Cut
import Derived.Laws.RangeAny
import Derived.Laws.RangeString
import Derived.Lib.AppendIntMem
import Derived.Test.YtgpgcnmnfnnkjaaGreatDoorGStorePlays20
set_option linter.unusedVariables false
set_option linter.unusedSimpArgs false
set_option maxRecDepth 100000
set_option maxHeartbeats 16000000
namespace Go.Proofs.YtgpgcnmnfnnkjaaGreatDoor
section
open Go Go.RowKit Go.PlainAid

theorem run_strTo {P:Program} {T:TypeId} (hT:P.underlying T=some .string) (l:List UInt8) (K:Int) (k:Nat) (hK:K=(k:Int)) (hk:k≤l.length) (w:World) :
 (Instr.slice T (.string { data:=l.toArray }) none (some (.int .i64 K)) none).run P w=.ok (.string { data:=(l.take k).toArray }) w:=by
 subst hK;rw [run_slice_string_h w T _ hT .i64 (k:Int) (by omega) (by rw [str_size];omega),str_extract];simp
theorem run_strFrom {P:Program} {T:TypeId} (hT:P.underlying T=some .string) (l:List UInt8) (K:Int) (k:Nat) (hK:K=(k:Int)) (hk:k≤l.length) (w:World) :
 (Instr.slice T (.string { data:=l.toArray }) (some (.int .i64 K)) none none).run P w=.ok (.string { data:=(l.drop k).toArray }) w:=by
 subst hK;rw [run_slice_string_l w T _ hT .i64 (k:Int) (by omega) (by rw [str_size];omega),str_extract,str_size];simp
 rw [List.take_of_length_le (by simp)]
theorem itoa_nat (n:Nat):Lib.itoa (n:Int)=Lib.decDigits n:=by unfold Lib.itoa;rw [if_neg (by omega)];simp
theorem digits_le:∀ (k u:Nat),u<10 ^ (k+1)→(Lib.decDigits u).length≤k+1
 | 0,u,h=>by rw [Lib.decDigits,dif_pos (by simpa using h)];simp
 | k+1,u,h=>by
  rw [Lib.decDigits]
  split
  ·simp
  ·rw [List.length_append,List.length_singleton];have:=digits_le k (u / 10) (by rw [Nat.div_lt_iff_lt_mul (by decide), ←Nat.pow_succ];exact h);omega
theorem digsW_cons {c:UInt8} (r:List UInt8) (n:Nat) (h:digB c=true):digsW (c::r) n=digsW r (10 * n+(c.toNat - 48)):=by rw [digsW,if_pos h]
theorem digsW_bad {c:UInt8} (r:List UInt8) (n:Nat) (h:¬ digB c=true):digsW (c::r) n=0:=by rw [digsW,if_neg h]
theorem digB_iff (c:UInt8):digB c=true↔48≤c.toNat∧c.toNat≤57:=by unfold digB;simp
theorem walNamed (n : Nat) (N : Int) (hN : N = (n : Int)) (hn : n ≤ 9223372036854775807) (w : World) (htab : Lib.TabIs Tryz.prog w "internal/strconv.uint64pow10" .u64 Lib.pow10Tab) :
 Calls Tryz.prog 63 #[.int .i64 N] w fun e w'=>e=.returned (.string (nameW n))∧Below w.heap.size w w':=by
 subst hN;go_enter Tryz.func63,Tryz.ntmps63
 go_wp2_with fail
 refine (Tryz.strconv_Itoa (n:Int) (by omega) (by omega) w htab).mono ?_;rintro e w1 ⟨rfl,k,os,rfl⟩;rw [itoa_nat];have hlen:=digits_le 18 n (by omega);go_wp2_with fail
 go_ret
 exact ⟨by unfold nameW hdW;congr 2,Lib.below_grow _ w (Nat.le_refl _) k os⟩

theorem walNumber (l:List UInt8) (w:World) :
 Calls Tryz.prog 96 #[.string ⟨l.toArray⟩] w fun e w'=>e=.returned (.int .i64 (numW ⟨l.toArray⟩:Nat))∧Below w.heap.size w w':=by
 have hsz:=str_size l;have hbo:bytesOf ⟨l.toArray⟩=l:=bytesOf_of l;have hn:numW ⟨l.toArray⟩=if l.length≤4∨l.take 4≠hdW∨18<l.length∨l[4]?=some 48 then 0 else digsW (l.drop 4) 0:=by
  unfold numW;rw [hsz,hbo]
 have Hn:=Lib.hid hn;clear hn hbo;generalize numW ⟨l.toArray⟩=R at *
 by_cases h1:l.length≤4
 ·have Hr:=Lib.hid (show R=0 from Hn.out.trans (if_pos (.inl h1)));have hi:(l.length:Int)≤4:=by omega
  go_enter Tryz.func96,Tryz.ntmps96
  go_wp2
  go_ret
  exact ⟨by rw [Hr.out];rfl,Below.refl _ _⟩
 ·have hi:¬ (l.length:Int)≤4:=by omega
  have hto:=run_strTo (P:=Tryz.prog) Tryz.underlying9 l 4 4 rfl (by omega);have hfr:=run_strFrom (P:=Tryz.prog) Tryz.underlying9 l 4 4 rfl (by omega);have h4s:4<(⟨l.toArray⟩:ByteArray).size:=by rw [hsz];omega
  have h4e:(⟨l.toArray⟩:ByteArray)[4]'h4s=l[4]'(by omega):=str_at l 4 h4s;have h4g:l[4]?=some (l[4]'(by omega)):=List.getElem?_eq_getElem _
  by_cases hall:l.take 4=hdW∧¬ 18<l.length∧(l[4]'(by omega)).toNat≠48
  ·obtain ⟨e2,e3,e4⟩:=hall;have hr:R=digsW (l.drop 4) 0:=Hn.out.trans (if_neg (by
    rintro (h | h | h | h)
    ·exact h1 h
    ·exact h e2
    ·exact e3 h
    ·rw [h4g] at h;exact e4 (by rw [Option.some.inj h];rfl)))
   have Hr:=Lib.hid hr;have e2':l.take 4=[119,97,108,46]:=e2;have e3':¬ (18:Int)<(l.length:Int):=by omega
   have e4':((((⟨l.toArray⟩:ByteArray)[4]'h4s).toNat:Int) == 48)=false:=by rw [h4e];simp;omega
   have hdl:(l.drop 4).length≤14:=by rw [List.length_drop];omega
   clear hr e2 e4 Hn h4g h4e;generalize l.drop 4=d at *;have hds:=str_size d;have hat:=fun i h=>str_at d i h;go_enter Tryz.func96,Tryz.ntmps96
   go_wp2
   go_loopw [3] (fun n w'=>∃ (pos acc:Nat),w'=w.iter ⟨d.toArray⟩ pos∧n=.int .i64 (acc:Int)∧pos≤d.length∧acc<10 ^ pos∧Hid (digsW (d.drop pos) acc=digsW d 0)) (fun _ w'=>d.length - w'.iterPos w.heap.size)
   case atStart=>exact ⟨0,0,rfl,rfl,by omega,by decide,rfl⟩
   case round =>
    obtain ⟨pos,acc,rfl,rfl,hpl,hacc,hdg⟩:=hrel
    by_cases hp:pos<d.length
    ·have hps:pos<(⟨d.toArray⟩:ByteArray).size:=by rw [hds];exact hp
     have hdc:=List.drop_eq_getElem_cons hp;have hge:(⟨d.toArray⟩:ByteArray)[pos]'hps=d[pos]:=hat pos hps;have hdg2:=hdg.out;rw [hdc] at hdg2;have hnx:∀ ty,(Instr.next (.pointer (some ⟨w.heap.size,0,none⟩)) true ty).run Tryz.prog (w.iter ⟨d.toArray⟩ pos)=.ok (.tuple #[.bool true,.int .i64 pos,.int .i32 (Utf8.decode ⟨d.toArray⟩ pos).1]) (w.iter ⟨d.toArray⟩ (pos+(Utf8.decode ⟨d.toArray⟩ pos).2)):=fun ty=>run_next_any w ⟨d.toArray⟩ pos ty hps
     by_cases hb:digB d[pos]=true
     ·rw [digsW_cons _ _ hb] at hdg2;obtain ⟨q1,q2⟩:=(digB_iff _).1 hb;rw [decode_ascii _ pos hps (by rw [hge];omega),hge] at hnx;have hacc2:10 * acc+(d[pos].toNat - 48)<10 ^ (pos+1):=by rw [Nat.pow_succ];omega
      have hp14:10 ^ (pos+1)≤10 ^ 14:=Nat.pow_le_pow_right (by decide) (by omega);have h14:(10:Nat) ^ 14=100000000000000:=by decide
      have Hd2:=Lib.hid hdg2;have Hacc:=Lib.hid hacc2;have hsmall:10 * acc+9≤1000000000000000:=by rw [h14] at hp14;rw [Nat.pow_succ] at hp14;omega
      clear hdg hdg2 hacc hacc2 hp14 h14 hdc hb hge;generalize d[pos]=c at *;go_wp2_with fail
      go_roundw
      case rel=>exact ⟨pos+1,10 * acc+(c.toNat - 48),rfl,by go_num,by omega,Hacc.out,Hd2.out⟩
      case measure=>simp;omega
     ·rw [digsW_bad _ _ hb] at hdg2;have hz:R=0:=Hr.out.trans hdg2.symm;have hbad:((Utf8.decode ⟨d.toArray⟩ pos).1:Int)<48∨(57:Int)<((Utf8.decode ⟨d.toArray⟩ pos).1:Int):=by
       rcases Nat.lt_or_ge d[pos].toNat 128 with h | h
       ·rw [decode_ascii _ pos hps (by rw [hge];exact h),hge]
        show ((d[pos].toNat:Nat):Int)<48∨_
        rcases Nat.lt_or_ge d[pos].toNat 48 with h5 | h5
        ·left;omega
        ·right
         rcases Nat.lt_or_ge 57 d[pos].toNat with h6 | h6
         ·show (57:Int)<((d[pos].toNat:Nat):Int);omega
         ·exact absurd ((digB_iff d[pos]).2 ⟨h5,h6⟩) hb
       ·have:=(decode_high _ pos hps (by rw [hge];exact h)).1;omega
      have Hz:=Lib.hid hz;clear hdg hdg2 hacc hdc hb hge hz;generalize Utf8.decode ⟨d.toArray⟩ pos=dc at *
      rcases hbad with hbad | hbad
      ·go_wp2_with fail
       go_ret
       exact ⟨by rw [Hz.out];rfl,below_alloc w _⟩
      ·have hb2:¬ (dc.1:Int)<48:=by omega
       go_wp2_with fail
       go_ret
       exact ⟨by rw [Hz.out];rfl,below_alloc w _⟩
    ·have hpe:pos=d.length:=by omega
     have hps:¬ pos<(⟨d.toArray⟩:ByteArray).size:=by rw [hds];exact hp
     have hdg2:=hdg.out;rw [List.drop_of_length_le (by omega),digsW] at hdg2;have hz:R=acc:=Hr.out.trans hdg2.symm;have Hz:=Lib.hid hz;have hne:=fun ty=>run_next_end (P:=Tryz.prog) w ⟨d.toArray⟩ pos ty hps;clear hdg hdg2 hacc hz hpe;go_wp2
     go_ret
     exact ⟨by rw [Hz.out];rfl,below_alloc w _⟩
  ·have hr:R=0:=Hn.out.trans (if_pos (by
    by_cases a1:l.take 4=hdW
    ·by_cases a2:18<l.length
     ·exact .inr (.inr (.inl a2))
     ·refine .inr (.inr (.inr ?_));rw [h4g];have a3:(l[4]'(by omega)).toNat=48:=Decidable.not_not.1 (fun a3=>hall ⟨a1,a2,a3⟩)
      congr 1
      exact UInt8.toNat_inj.1 a3
    ·exact .inr (.inl a1)))
   have Hr:=Lib.hid hr;clear hr Hn
   by_cases a1:l.take 4=hdW
   ·have e2':l.take 4=[119,97,108,46]:=a1
    by_cases a2:18<l.length
    ·have e3':(18:Int)<(l.length:Int):=by omega
     go_enter Tryz.func96,Tryz.ntmps96
     go_wp2
     go_ret
     exact ⟨by rw [Hr.out];rfl,Below.refl _ _⟩
    ·have a3:(l[4]'(by omega)).toNat=48:=Decidable.not_not.1 (fun a3=>hall ⟨a1,a2,a3⟩);have e3':¬ (18:Int)<(l.length:Int):=by omega
     have e4':((((⟨l.toArray⟩:ByteArray)[4]'h4s).toNat:Int) == 48)=true:=by rw [h4e];simp;omega
     clear h4e h4g a3 a1 hall;go_enter Tryz.func96,Tryz.ntmps96
     go_wp2
     go_ret
     exact ⟨by rw [Hr.out];rfl,Below.refl _ _⟩
   ·have e2':¬ l.take 4=[119,97,108,46]:=a1;go_enter Tryz.func96,Tryz.ntmps96
    go_wp2
    go_ret
    exact ⟨by rw [Hr.out];rfl,Below.refl _ _⟩
end
section
open Go Go.RowKit Go.PlainAid BigFrame
theorem tIntsW:SlT Tryz.prog 55 3 1 8:=SlT.mk' (z:=.int .i64 0) Tryz.underlying55 (by kernel_rfl) (by kernel_rfl) (by decide) (by decide)
theorem cutI {w:World} {B:Nat} {e:TypeId} {n:Nat} {v:Value} {l:List Int} (h:OwnR intsE w B e v l) (hn:n≤l.length):∃ p c,v=.slice p l.length c∧subV v 0 n 1=.slice p n c∧OwnR intsE w B e (.slice p n c) (l.take n):=by
 have hl:(l.take n).length=n:=by rw [List.length_take];omega
 rcases Own.head h with ⟨rfl,h0⟩ | ⟨g,cap,rfl,_⟩
 ·have hz:l=[]:=List.length_eq_zero_iff.1 h0;subst hz;have:n=0:=by simpa using hn
  subst this;exact ⟨none,0,rfl,rfl,OwnR.nil _ _ _⟩
 ·refine ⟨some ⟨g,0,none⟩,cap,rfl,?_,?_⟩
  ·show Value.slice (subP _ _ _ _) _ _=_
   have e1:subP (some ⟨g,0,none⟩) cap 0 1=some ⟨g,0,none⟩:=by
    unfold subP;split
    ·rfl
    ·simp [addr_add]
   rw [e1];rfl
  ·have h1:=Own.cut h n hn;exact OwnR.of h1 hl.symm (intsE.all_take l n)
def natI (l:List Nat):List Int:=l.map fun (n:Nat)=>(n:Int)
theorem natI_length (l:List Nat):(natI l).length=l.length:=by simp [natI]
theorem posR_le (out:List Nat) (n:Nat):∀ k,posR out n k≤k
 | 0=>Nat.le_refl _
 | k+1=>by
  rw [posR]
  split
  ·exact Nat.le_succ_of_le (posR_le out n k)
  ·exact Nat.le_refl _
theorem digsW_lt:∀ (l:List UInt8) (n k:Nat),n<10 ^ k→digsW l n<10 ^ (k+l.length)
 | [],n,k,h=>by simpa [digsW] using h
 | c::r,n,k,h=>by
  rw [digsW]
  split
  ·rename_i hb
   obtain ⟨q1,q2⟩:=(digB_iff c).1 hb;have:=digsW_lt r (10 * n+(c.toNat - 48)) (k+1) (by rw [Nat.pow_succ];omega);rw [List.length_cons,show k+(r.length+1)=k+1+r.length from by omega];exact this
  ·exact Nat.pow_pos (by decide)
theorem numW_lt (s:ByteArray):numW s<100000000000000:=by
 unfold numW
 split
 ·decide
 ·rename_i h
  have hs:s.size≤18:=by
   rcases Nat.lt_or_ge 18 s.size with h1 | h1
   ·exact absurd (.inr (.inr (.inl h1))) h
   ·exact h1
  have h2:=digsW_lt ((bytesOf s).drop 4) 0 0 (by decide)
  have h3 : ((bytesOf s).drop 4).length ≤ 14 := by rw [List.length_drop]; have : (bytesOf s).length = s.size := by simp [bytesOf]
                                                   omega
  have h4:(10:Nat) ^ (0+((bytesOf s).drop 4).length)≤10 ^ 14:=Nat.pow_le_pow_right (by decide) (by omega);have h5:(10:Nat) ^ 14=100000000000000:=by decide
  omega
theorem walNumberS (s:ByteArray) (w:World):Calls Tryz.prog 96 #[.string s] w fun e w'=>e=.returned (.int .i64 (numW s:Nat))∧Below w.heap.size w w':=walNumber s.data.toList w
theorem insW_length (out:List Nat) (n:Nat):(insW out n).length=out.length+1:=by
 have:=posR_le out n out.length;unfold insW;rw [List.length_append,List.length_take,List.length_cons,List.length_drop];omega
theorem foldl_seg_len:∀ (l:List ByteArray) (out:List Nat),(l.foldl segStep out).length≤out.length+l.length
 | [],out=>by simp
 | s::r,out=>by
  rw [List.foldl_cons];have h1:=foldl_seg_len r (segStep out s);have h2:(segStep out s).length≤out.length+1:=by
   unfold segStep;split
   ·omega
   ·rw [insW_length];exact Nat.le_refl _
  rw [List.length_cons];omega
def SegsI (w:World) (d:Dk) (e:Ending) (w':World):Prop:=∃ r,e=.returned r∧OwnR intsE w' w.heap.size 3 r (natI (segsW (d.fs.map (·.name))))∧Below w.heap.size w w'

theorem walSegments {w0 w:World} {X:Nat→Prop} {g:Nat} {d:Dk} (h:DwS w0 X g d w) (ok:okD d=true) :
 Calls Tryz.prog 61 #[.pointer (some ⟨g,0,none⟩)] w (SegsI w d):=by
 have hlen:=(okD_spec ok).2;have hcall:=lNames h ok;have hseg:segsW (d.fs.map (·.name))=(d.fs.map (·.name)).foldl segStep []:=rfl;have Hseg:=Lib.hid hseg;have hln:(d.fs.map (·.name)).length≤999999:=by simpa using hlen
 clear hseg hlen h ok;unfold SegsI;rw [Hseg.out];generalize d.fs.map (·.name)=N at *;go_enter Tryz.func61,Tryz.ntmps61
 go_wp2_with fail
 refine hcall.mono ?_;rintro e w1 ⟨⟨rn,rfl,ownN⟩,b1⟩;have rN:=ownN.rd;obtain ⟨pn,cn,rfl⟩:=rN.shape;clear ownN hcall Hseg;have hs1:=b1.size;go_wp2_with fail
 go_loopw [3,11] (fun o i wr=>∃ k:Nat,k≤N.length∧i=.int .i64 k∧OwnR intsE wr w1.heap.size 3 o (natI ((N.take k).foldl segStep []))∧Below w1.heap.size w1 wr) (fun _ i _=>N.length - (intOf i).toNat)
 case atStart=>exact ⟨0,by omega,rfl,OwnR.nil _ _ _,Below.refl _ _⟩
 case round =>
  obtain ⟨k,hk,rfl,own,hbw⟩:=hrel
  by_cases hlt:k<N.length
  ·have rNr:=rN.ext hbw;obtain ⟨bb,off,rfl⟩:=Rd.blk rNr (by omega);have c0:wr.cell? ⟨bb,off+k,none⟩=some (.string N[k]):=by have:=rNr.at_ hlt 0 (by decide);simpa [strE] using this
   have hst:(N.take (k+1)).foldl segStep []=segStep ((N.take k).foldl segStep []) N[k]:=by rw [List.take_succ_eq_append_getElem hlt,List.foldl_append];rfl
   have hol:=foldl_seg_len (N.take k) [];rw [List.length_take,Nat.min_eq_left hk,List.length_nil] at hol;have Hst:=Lib.hid hst;have hi:(k:Int)<(N.length:Int):=by omega
   have hi0:(0:Int)≤(k:Int):=by omega
   have hsz:=hbw.size;have hnum:=numW_lt N[k];clear hst;generalize N[k]=s at *;generalize (N.take k).foldl segStep []=out at *;go_wp2_with fail
   refine (walNumberS s wr).mono ?_;rintro e w2 ⟨rfl,b2⟩;have own2:=own.ext b2;have hb2:=hbw.trans (b2.mono hsz);obtain ⟨po,co,rfl⟩:=own2.rd.shape;rw [natI_length] at own2 ⊢
   by_cases hz:numW s=0
   ·have hzi:(((numW s:Nat):Int) == 0)=true:=by rw [hz];rfl
    have hss:segStep out s=out:=if_pos hz;have Hss:=Lib.hid hss;clear hss hz;go_wp2_with fail
    go_roundw
    case rel=>exact ⟨k+1,by omega,by go_num,by rw [Hst.out,Hss.out];unfold OwnR;rw [natI_length];unfold OwnR at own2;rw [natI_length] at own2;exact own2,hb2⟩
    case measure=>simp [intOf];omega
   ·have hzi:(((numW s:Nat):Int) == 0)=false:=by simp;exact hz
    have hss:segStep out s=insW out (numW s):=if_neg hz;have Hss:=Lib.hid hss;clear hss hz;generalize numW s=n at *;go_wp2_with fail
    go_loopw [7] (fun q wi=>∃ j:Nat,j≤out.length∧q=.int .i64 j∧Hid (posR out n j=posR out n out.length)∧wi=w2) (fun q _=>(intOf q).toNat)
    case atStart=>exact ⟨out.length,Nat.le_refl _,rfl,rfl,rfl⟩
    case round =>
     obtain ⟨j,hj,rfl,hpos,hw⟩:=hrel;subst hw;have hB:=run_sub_from tIntsW (P:=Tryz.prog) own2.rd .i64 (j:Int) j rfl (by rw [natI_length];exact hj);have hA:=run_sub_to tIntsW (P:=Tryz.prog) own2.rd .i64 (j:Int) j rfl (by rw [natI_length];exact hj);obtain ⟨pc,cc,hvc,hsub,hown⟩:=cutI own2 (n:=j) (by rw [natI_length];exact hj);have rB:=own2.rd.sub j out.length hj (by rw [natI_length];exact Nat.le_refl _);rw [hsub] at hA;rw [natI_length] at hB hvc
     rw [show ((natI out).drop j).take (out.length - j)=(natI out).drop j from List.take_of_length_le (by rw [List.length_drop,natI_length];exact Nat.le_refl _),show intsE.sz=1 from rfl] at rB;simp only [Value.slice.injEq,true_and] at hvc
     obtain ⟨rfl,rfl⟩:=hvc;generalize subV (.slice po out.length co) j out.length 1=vB at *
     rcases Nat.eq_zero_or_pos j with hj0 | hj0
     ·subst hj0;have hins:insW out n=out.take 0++n::out.drop 0:=by unfold insW;rw [←hpos.out];rfl
      have Hins:=Lib.hid hins;clear hins;rw [show ((0:Nat):Int)=0 from rfl] at hA hB;go_wp2_with fail
      refine wp_region_F (n:=10) (S:=fun _=>True) (by kernel_rfl) ?_;have hHeld:(fun _:World=>True) wr.drew:=trivial;refine tk ?_ 0 ?_ hHeld ?_;rotate_left
      ·intro w hSw;(try dsimp only at hSw);dsimp only [bare];go_simp<;>with_reducible rfl
      try simp only [lyB,lyP,lyA,lyZ,lyS]
      refine tk ?_ 1 ?_ hHeld ?_;rotate_left
      ·intro w hSw;(try dsimp only at hSw);dsimp only [bare];go_simp<;>with_reducible rfl
      try simp only [lyB,lyP,lyA,lyZ,lyS]
      refine tk ?_ 2 ?_ hHeld ?_;rotate_left
      ·intro w hSw;(try dsimp only at hSw);dsimp only [bare];go_simp<;>with_reducible rfl
      try simp only [lyB,lyP,lyA,lyZ,lyS]
      refine tk ?_ 3 ?_ hHeld ?_;rotate_left
      ·intro w hSw;(try dsimp only at hSw);dsimp only [bare];go_simp<;>with_reducible rfl
      try simp only [lyB,lyP,lyA,lyZ,lyS]
      refine tk ?_ 5 ?_ hHeld ?_;rotate_left
      ·intro w hSw;(try dsimp only at hSw);dsimp only [bare];go_simp<;>with_reducible rfl
      try simp only [lyB,lyP,lyA,lyZ,lyS]
      refine tk ?_ 6 ?_ hHeld ?_;rotate_left
      ·intro w hSw;(try dsimp only at hSw);dsimp only [bare];go_simp<;>with_reducible rfl
      try simp only [lyB,lyP,lyA,lyZ,lyS]
      refine tk ?_ 7 ?_ hHeld ?_;rotate_left
      ·intro w hSw;(try dsimp only at hSw);dsimp only [bare];go_simp<;>with_reducible rfl
      try simp only [lyB,lyP,lyA,lyZ,lyS]
      refine wpAnyF_one 4 _ _ _ rfl (by kernel_rfl) (fun K hK=>?_);dsimp only [bare];go_simp;obtain ⟨w8,hw8⟩:∃ z,z=(wr.alloc (.cells #[.int .i64 (n:Int)] 3)).drew:=⟨_,rfl⟩;have bE:Below wr.heap.size wr w8:=by rw [hw8];exact (below_alloc wr _).drew
      have hs8:=hb2.size;have ownL:OwnR intsE w8 w1.heap.size 3 (.slice (some ⟨wr.heap.size,0,none⟩) 1 1) [(n:Int)]:=by rw [hw8];exact ((OwnR.litAt intsE wr #[.int .i64 (n:Int)] 3 [(n:Int)] 1 w1.heap.size wr.heap.size rfl rfl rfl (by unfold maxLen;omega) hs8).drew)
      rw [←hw8];clear hw8;refine hK _ _ trivial (fun hHeld=>?_);clear hK K
      try simp only [lyB,lyP,lyA,lyZ,lyS]
      refine wpAnyF_one 8 _ _ _ rfl (by kernel_rfl) (fun K hK=>?_);have hdl:((natI out).drop 0).length≤999999:=by rw [List.length_drop,natI_length];omega
      refine step_appR (E:=intsE) (s:=.tmp 38) (y:=.tmp 41) (B:=w1.heap.size) (l:=[(n:Int)]) (m:=(natI out).drop 0) tIntsW rfl rfl ownL (by simp [Act.eval,Act.put]) (rB.ext bE) (by simp [Act.eval,Act.put]) (by simp only [List.length_singleton];omega) (Nat.le_trans hs8 bE.size) ?_;intro v9 w9 own9 g9 b9;have hown9:=(hown.ext bE).grown g9 (.inr (fun e=>by have:=(hown.lt wr.heap.size e).2;exact Nat.lt_irrefl _ this));have bF:=(bE.mono hs8).trans b9;refine hK _ _ trivial (fun hHeld=>?_);clear hK K
      try simp only [lyB,lyP,lyA,lyZ,lyS]
      refine wpAnyF_one 9 _ _ _ rfl (by kernel_rfl) (fun K hK=>?_);have htl:((natI out).take (0)).length≤999999:=by rw [List.length_take,natI_length];omega
      refine step_appR (E:=intsE) (s:=.tmp 36) (y:=.tmp 42) (B:=w1.heap.size) (l:=(natI out).take (0)) (m:=[(n:Int)]++(natI out).drop (0)) tIntsW rfl rfl hown9 (by simp [Act.eval,Act.put]) own9.rd (by simp [Act.eval,Act.put]) (by rw [List.length_append,List.length_singleton];omega) (Nat.le_trans hs8 bF.size) ?_;intro v10 w10 own10 g10 b10;have bG:=bF.trans b10;refine hK _ _ trivial (fun hHeld=>?_);clear hK K
      try simp only [lyB,lyP,lyA,lyZ,lyS]
      refine wpAnyF_end (some 3) (Op.assign (Operand.tmp 43)) 55 rfl (by kernel_rfl) (by kernel_rfl) (fun K hK=>?_);dsimp only [bare];go_simp;refine hK _ _ ?_;clear hK K
      try simp only [lyB,lyP,lyA,lyZ,lyS]
      have hni:natI (insW out n)=(natI out).take (0)++([(n:Int)]++(natI out).drop (0)):=by rw [Hins.out];unfold natI;rw [List.map_append,List.map_cons,List.map_take,List.map_drop];rfl
      have Hni:=Lib.hid hni;clear hni;go_wp2_with fail
      go_roundw
      case rel=>exact ⟨k+1,by omega,by go_num,by rw [Hst.out,Hss.out,Hni.out];exact own10,hb2.trans bG⟩
      case measure=>simp [intOf];omega
     ·obtain ⟨j',rfl⟩:∃ j',j=j'+1:=⟨j - 1,by omega⟩;obtain ⟨bo,oo,rfl⟩:=Rd.blk own2.rd (by rw [natI_length];omega);have hjl:j'<out.length:=by omega
      have cj:wr.cell? ⟨bo,oo+j',none⟩=some (.int .i64 (out[j']:Nat)):=by
       have:=own2.rd.at_ (k:=j') (by rw [natI_length];exact hjl) 0 (by decide)
       simpa [intsE,natI] using this
      have hgd:out.getD j' 0=out[j']:=by rw [List.getD_eq_getElem?_getD,List.getElem?_eq_getElem hjl];rfl
      rw [show ((j'+1:Nat):Int)=(j':Int)+1 from rfl] at hA hB
      by_cases hgt:n<out[j']
      ·have hpj:posR out n (j'+1)=posR out n j':=by rw [posR,hgd,if_pos hgt]
       have hgi:(n:Int)<(out[j']:Int):=by omega
       have Hpj:=Lib.hid (hpj.symm.trans hpos.out);clear hpj hpos hgd;generalize out[j']=y at *;go_wp2_with fail
       go_roundw
       case rel=>exact ⟨j',by omega,by go_num,Hpj.out,by trivial⟩
       case measure=>simp [intOf]
      ·have hpj:posR out n (j'+1)=j'+1:=by rw [posR,hgd,if_neg hgt]
       have hins:insW out n=out.take (j'+1)++n::out.drop (j'+1):=by unfold insW;rw [←hpos.out,hpj]
       have Hins:=Lib.hid hins;have hgi:¬ (n:Int)<(out[j']:Int):=by omega
       clear hins hpj hpos hgd;generalize out[j']=y at *;go_wp2_with fail
       refine wp_region_F (n:=10) (S:=fun _=>True) (by kernel_rfl) ?_;have hHeld:(fun _:World=>True) wr.drew:=trivial;refine tk ?_ 0 ?_ hHeld ?_;rotate_left
       ·intro w hSw;(try dsimp only at hSw);dsimp only [bare];go_simp<;>with_reducible rfl
       try simp only [lyB,lyP,lyA,lyZ,lyS]
       refine tk ?_ 1 ?_ hHeld ?_;rotate_left
       ·intro w hSw;(try dsimp only at hSw);dsimp only [bare];go_simp<;>with_reducible rfl
       try simp only [lyB,lyP,lyA,lyZ,lyS]
       refine tk ?_ 2 ?_ hHeld ?_;rotate_left
       ·intro w hSw;(try dsimp only at hSw);dsimp only [bare];go_simp<;>with_reducible rfl
       try simp only [lyB,lyP,lyA,lyZ,lyS]
       refine tk ?_ 3 ?_ hHeld ?_;rotate_left
       ·intro w hSw;(try dsimp only at hSw);dsimp only [bare];go_simp<;>with_reducible rfl
       try simp only [lyB,lyP,lyA,lyZ,lyS]
       refine tk ?_ 5 ?_ hHeld ?_;rotate_left
       ·intro w hSw;(try dsimp only at hSw);dsimp only [bare];go_simp<;>with_reducible rfl
       try simp only [lyB,lyP,lyA,lyZ,lyS]
       refine tk ?_ 6 ?_ hHeld ?_;rotate_left
       ·intro w hSw;(try dsimp only at hSw);dsimp only [bare];go_simp<;>with_reducible rfl
       try simp only [lyB,lyP,lyA,lyZ,lyS]
       refine tk ?_ 7 ?_ hHeld ?_;rotate_left
       ·intro w hSw;(try dsimp only at hSw);dsimp only [bare];go_simp<;>with_reducible rfl
       try simp only [lyB,lyP,lyA,lyZ,lyS]
       refine wpAnyF_one 4 _ _ _ rfl (by kernel_rfl) (fun K hK=>?_);dsimp only [bare];go_simp;obtain ⟨w8,hw8⟩:∃ z,z=(wr.alloc (.cells #[.int .i64 (n:Int)] 3)).drew:=⟨_,rfl⟩;have bE:Below wr.heap.size wr w8:=by rw [hw8];exact (below_alloc wr _).drew
       have hs8:=hb2.size;have ownL:OwnR intsE w8 w1.heap.size 3 (.slice (some ⟨wr.heap.size,0,none⟩) 1 1) [(n:Int)]:=by rw [hw8];exact ((OwnR.litAt intsE wr #[.int .i64 (n:Int)] 3 [(n:Int)] 1 w1.heap.size wr.heap.size rfl rfl rfl (by unfold maxLen;omega) hs8).drew)
       rw [←hw8];clear hw8;refine hK _ _ trivial (fun hHeld=>?_);clear hK K
       try simp only [lyB,lyP,lyA,lyZ,lyS]
       refine wpAnyF_one 8 _ _ _ rfl (by kernel_rfl) (fun K hK=>?_);have hdl:((natI out).drop (j'+1)).length≤999999:=by rw [List.length_drop,natI_length];omega
       refine step_appR (E:=intsE) (s:=.tmp 38) (y:=.tmp 41) (B:=w1.heap.size) (l:=[(n:Int)]) (m:=(natI out).drop (j'+1)) tIntsW rfl rfl ownL (by simp [Act.eval,Act.put]) (rB.ext bE) (by simp [Act.eval,Act.put]) (by simp only [List.length_singleton];omega) (Nat.le_trans hs8 bE.size) ?_;intro v9 w9 own9 g9 b9;have hown9:=(hown.ext bE).grown g9 (.inr (fun e=>by have:=(hown.lt wr.heap.size e).2;exact Nat.lt_irrefl _ this));have bF:=(bE.mono hs8).trans b9;refine hK _ _ trivial (fun hHeld=>?_);clear hK K
       try simp only [lyB,lyP,lyA,lyZ,lyS]
       refine wpAnyF_one 9 _ _ _ rfl (by kernel_rfl) (fun K hK=>?_);have htl:((natI out).take ((j'+1))).length≤999999:=by rw [List.length_take,natI_length];omega
       refine step_appR (E:=intsE) (s:=.tmp 36) (y:=.tmp 42) (B:=w1.heap.size) (l:=(natI out).take ((j'+1))) (m:=[(n:Int)]++(natI out).drop ((j'+1))) tIntsW rfl rfl hown9 (by simp [Act.eval,Act.put]) own9.rd (by simp [Act.eval,Act.put]) (by rw [List.length_append,List.length_singleton];omega) (Nat.le_trans hs8 bF.size) ?_;intro v10 w10 own10 g10 b10;have bG:=bF.trans b10;refine hK _ _ trivial (fun hHeld=>?_);clear hK K
       try simp only [lyB,lyP,lyA,lyZ,lyS]
       refine wpAnyF_end (some 3) (Op.assign (Operand.tmp 43)) 55 rfl (by kernel_rfl) (by kernel_rfl) (fun K hK=>?_);dsimp only [bare];go_simp;refine hK _ _ ?_;clear hK K
       try simp only [lyB,lyP,lyA,lyZ,lyS]
       have hni:natI (insW out n)=(natI out).take ((j'+1))++([(n:Int)]++(natI out).drop ((j'+1))):=by rw [Hins.out];unfold natI;rw [List.map_append,List.map_cons,List.map_take,List.map_drop];rfl
       have Hni:=Lib.hid hni;clear hni;go_wp2_with fail
       go_roundw
       case rel=>exact ⟨k+1,by omega,by go_num,by rw [Hst.out,Hss.out,Hni.out];exact own10,hb2.trans bG⟩
       case measure=>simp [intOf];omega
  ·have hke:k=N.length:=by omega
   have hi:¬ (k:Int)<(N.length:Int):=by omega
   have Hk:=Lib.hid hke;clear hke;obtain ⟨po,co,rfl⟩:=own.rd.shape;generalize hO:natI ((N.take k).foldl segStep [])=O at *;go_wp2
   go_ret
   rw [Hk.out,List.take_of_length_le (Nat.le_refl _)] at hO;rw [hO];exact ⟨_,rfl,own.base hs1,b1.trans (hbw.mono hs1)⟩
end
section
open Go Go.RowKit Go.PlainAid
theorem valW_snoc (l:List UInt8) (c:UInt8) (n:Nat):valW (l++[c]) n=10 * valW l n+(c.toNat - 48):=by unfold valW;rw [List.foldl_append];rfl
theorem digsW_val:∀ (l:List UInt8) (n:Nat),(∀ c ∈ l,digB c=true)→digsW l n=valW l n
 | [],_,_=>rfl
 | c::r,n,h=>by
  rw [digsW,if_pos (h c (by simp)),digsW_val r _ fun x hx=>h x (by simp [hx])];rfl
theorem digsW_zero:∀ (l:List UInt8) (n:Nat),(∃ c ∈ l,digB c=false)→digsW l n=0
 | [],_,h=>by obtain ⟨c,hc,_⟩:=h;cases hc
 | c::r,n,h=>by
  rw [digsW];split
  ·rename_i hc
   refine digsW_zero r _ ?_;obtain ⟨x,hx,h2⟩:=h
   rcases List.mem_cons.1 hx with rfl | hx
   ·rw [hc] at h2;cases h2
   ·exact ⟨x,hx,h2⟩
  ·rfl
theorem ofNat_digW {d:Nat} (h:d<10):(UInt8.ofNat (48+d)).toNat=48+d:=by simp;omega
theorem head_appW {a b:List UInt8} (h:a≠[]):(a++b).head?=a.head?:=by
 cases a with
 | nil=>exact absurd rfl h
 | cons x r=>rfl
theorem decW_val (q:Nat):valW (Lib.decDigits q) 0=q:=by
 induction q using Nat.strongRecOn with
 | _ q ih =>
  rw [Lib.decDigits]
  split
  ·unfold valW;simp;omega
  ·rw [valW_snoc,ih (q / 10) (by omega),ofNat_digW (by omega)];omega
theorem decW_all (q:Nat):∀ x ∈ Lib.decDigits q,digB x=true:=by
 induction q using Nat.strongRecOn with
 | _ q ih =>
  rw [Lib.decDigits]
  split
  ·intro x hx;simp only [List.mem_singleton] at hx
   subst hx;rw [digB_iff,ofNat_digW (by omega)];omega
  ·intro x hx
   rcases List.mem_append.1 hx with hx | hx
   ·exact ih (q / 10) (by omega) x hx
   ·simp only [List.mem_singleton] at hx
    subst hx;rw [digB_iff,ofNat_digW (by omega)];omega
theorem decW_pos (q:Nat):0<(Lib.decDigits q).length:=by rw [Lib.decDigits];split<;>simp
theorem decW_head (q:Nat):0<q→(Lib.decDigits q).head?≠some 48:=by
 induction q using Nat.strongRecOn with
 | _ q ih =>
  intro hq;rw [Lib.decDigits]
  split
  ·rename_i h
   intro e;simp only [List.head?_cons,Option.some.injEq] at e
   have:=ofNat_digW h;rw [e] at this;have:(48:UInt8).toNat=48:=rfl;omega
  ·have hp:=decW_pos (q / 10);rw [head_appW (by intro e;rw [e] at hp;simp at hp)];exact ih (q / 10) (by omega) (by omega)
theorem valW_zero:∀ (l:List UInt8) (n:Nat),(∀ x ∈ l,digB x=true)→valW l n=0→n=0∧∀ x ∈ l,x=48
 | [],n,_,h=>⟨h,fun x hx=>by cases hx⟩
 | c::r,n,hd,h=>by
  obtain ⟨h1,h2⟩:=valW_zero r (10 * n+(c.toNat - 48)) (fun x hx=>hd x (by simp [hx])) h;have hc:=(digB_iff c).1 (hd c (by simp));refine ⟨by omega,fun x hx=>?_⟩
  rcases List.mem_cons.1 hx with rfl | hx
  ·have:x.toNat=48:=by omega
   exact UInt8.toNat_inj.1 (by rw [this];rfl)
  ·exact h2 x hx
theorem decW_of (d:List UInt8) (h:∀ x ∈ d,digB x=true) (hp:0<d.length) (hh:d.head?≠some 48):Lib.decDigits (valW d 0)=d:=by
 obtain ⟨n,hn⟩:∃ n,d.length=n:=⟨_,rfl⟩
 induction n generalizing d with
 | zero=>omega
 | succ n ih =>
  rcases List.eq_nil_or_concat d with e | ⟨d',c,e⟩
  ·subst e;simp at hp
  ·rw [List.concat_eq_append] at e;subst e;have hc:=(digB_iff c).1 (h c (by simp));have ec:UInt8.ofNat (48+(c.toNat - 48))=c:=by rw [show 48+(c.toNat - 48)=c.toNat from by omega];simp
   by_cases hd:d'=[]
   ·subst hd;have e1:valW ([]++[c]) 0=c.toNat - 48:=by unfold valW;simp
    rw [e1,Lib.decDigits,dif_pos (by omega),ec];rfl
   ·have hl:0<d'.length:=List.length_pos_iff.2 hd;rw [head_appW hd] at hh;have ih':=ih d' (fun x hx=>h x (by simp [hx])) hl hh (by simp at hn;omega);have hpos:valW d' 0≠0:=by
     intro h0;obtain ⟨_,hz⟩:=valW_zero d' 0 (fun x hx=>h x (by simp [hx])) h0
     match d',hd with
     | x::r,_=>exact hh (by rw [hz x (by simp)];rfl)
    rw [valW_snoc,Lib.decDigits,dif_neg (by omega),show (10 * valW d' 0+(c.toNat - 48)) / 10=valW d' 0 from by omega,show (10 * valW d' 0+(c.toNat - 48)) % 10=c.toNat - 48 from by omega,ih',ec]
theorem decW_inj {a b:Nat} (h:Lib.decDigits a=Lib.decDigits b):a=b:=by rw [←decW_val a, ←decW_val b,h]
def okN (n:Nat):Prop:=0<n∧n≤99999999999999
theorem nameW_bytes (n:Nat):bytesOf (nameW n)=hdW++Lib.decDigits n:=by unfold bytesOf nameW;simp
theorem nameW_inj {a b:Nat} (h:nameW a=nameW b):a=b:=by
 have e:bytesOf (nameW a)=bytesOf (nameW b):=by rw [h]
 rw [nameW_bytes,nameW_bytes] at e;exact decW_inj (List.append_cancel_left e)
theorem nameW_ne {a b:Nat} (h:a≠b):nameW a≠nameW b:=fun e=>h (nameW_inj e)
theorem bytes_size (s:ByteArray):(bytesOf s).length=s.size:=by simp [bytesOf]
theorem dec_few {n : Nat} (h : n ≤ 99999999999999) : (Lib.decDigits n).length ≤ 14 := digits_le 13 n (by have : (10 : Nat) ^ 14 = 100000000000000 := by decide
                                                                                                         omega)
theorem numW_name {n:Nat} (h:okN n):numW (nameW n)=n:=by
 have hb:=nameW_bytes n;have hs:(nameW n).size=4+(Lib.decDigits n).length:=by rw [←bytes_size,hb,List.length_append];rfl
 have hp:=decW_pos n;have hf:=dec_few h.2;unfold numW;have h1:(bytesOf (nameW n)).take 4=hdW:=by rw [hb];rfl
 have h2:(bytesOf (nameW n)).drop 4=Lib.decDigits n:=by rw [hb];rfl
 have h3:(bytesOf (nameW n))[4]?=(Lib.decDigits n).head?:=by rw [←List.head?_drop,h2]
 rw [if_neg,h2,digsW_val _ _ (decW_all n),decW_val];rintro (q | q | q | q)
 ·omega
 ·exact q h1
 ·omega
 ·rw [h3] at q;exact decW_head n h.1 q
theorem name_num {s:ByteArray} (h:numW s≠0):okN (numW s)∧s=nameW (numW s):=by
 refine ⟨⟨by omega,by have:=numW_lt s;omega⟩,?_⟩;unfold numW at h ⊢
 split at h
 ·exact absurd rfl h
 ·rename_i hc
  rw [if_neg hc];have c1:4<s.size:=by
   rcases Nat.lt_or_ge 4 s.size with h1 | h1
   ·exact h1
   ·exact absurd (.inl h1) hc
  have c2:(bytesOf s).take 4=hdW:=by
   by_cases h1:(bytesOf s).take 4=hdW
   ·exact h1
   ·exact absurd (.inr (.inl h1)) hc
  have c3:(bytesOf s)[4]?≠some 48:=fun h1=>hc (.inr (.inr (.inr h1)));have hall:∀ x ∈ (bytesOf s).drop 4,digB x=true:=fun x hx=>by
   cases hd:digB x with
   | true=>rfl
   | false=>exact absurd (digsW_zero _ _ ⟨x,hx,hd⟩) h
  have hlen:((bytesOf s).drop 4).length=s.size - 4:=by rw [List.length_drop,bytes_size]
  have hhd:((bytesOf s).drop 4).head?≠some 48:=by rw [List.head?_drop];exact c3
  rw [digsW_val _ _ hall];have e:=decW_of _ hall (by omega) hhd;have e2:bytesOf s=hdW++Lib.decDigits (valW ((bytesOf s).drop 4) 0):=by rw [e, ←c2,List.take_append_drop]
  rw [←ofBytes_of s]
  conv=>lhs;rw [e2]
  rfl
end
section
open Go Go.RowKit Go.PlainAid
def takeR (h:Hrd) (opn:Bool) (p:List UInt8):Option (Hrd×Int):=(parseR p).bind fun r=>(docStep h opn r).map fun g=>(g,r.kind)
theorem takeR_bad {h:Hrd} {o:Bool} {p:List UInt8} (e:parseR p=none):takeR h o p=none:=by unfold takeR;rw [e];rfl
theorem takeR_rec {h:Hrd} {o:Bool} {p:List UInt8} {r:Rec} (e:parseR p=some r):takeR h o p=(docStep h o r).map fun g=>(g,r.kind):=by unfold takeR;rw [e];rfl
theorem stepS_whole {s t:Sg} {r:Rec} (ok:SgOk s) (hb:s.begun=true) (h:stepS s r=some t):t.begun=true∧t.whole=(s.whole || decide (r.kind=3)):=by
 cases r with
 | beg g=>replace h:beganS s g=some t:=h;unfold beganS at h;rw [if_neg (by rw [hb];simp)] at h;cases h
 | ety x =>
  replace h:(if s.begun=true then grownS s x else none)=some t:=h;rw [if_pos hb] at h;unfold grownS at h
  split at h<;>cases h
  exact ⟨hb,by simp [Rec.kind]⟩
 | rdy=>replace h:doneS s=some t:=h;unfold doneS at h;split at h<;>cases h;exact ⟨hb,by simp [Rec.kind]⟩
 | vot a b=>replace h:votedS s a b=some t:=h;unfold votedS at h;split at h<;>cases h;exact ⟨hb,by simp [Rec.kind]⟩
 | cut n=>replace h:shorterS s n=some t:=h;unfold shorterS at h;split at h<;>cases h;exact ⟨hb,by simp [Rec.kind]⟩
theorem take_none {s:Sg} (ok:SgOk s) (hb:s.begun=true) {p:List UInt8} (h:takeR s.h (!s.whole) p=none):takeS s p=none:=by
 cases hp:parseR p with
 | none=>unfold takeS;rw [hp];rfl
 | some r =>
  rw [takeR_rec hp,doc_step ok hb] at h;unfold takeS;rw [hp]
  show stepS s r=none
  cases hs:stepS s r with
  | none=>rfl
  | some t=>rw [hs] at h;cases h
theorem take_some {s:Sg} (ok:SgOk s) (hb:s.begun=true) {p:List UInt8} {g:Hrd} {k:Int} (h:takeR s.h (!s.whole) p=some (g,k)):∃ t,takeS s p=some t∧t.h=g∧t.begun=true∧t.whole=(s.whole || decide (k=3))∧k≠0:=by
 cases hp:parseR p with
 | none=>rw [takeR_bad hp] at h;cases h
 | some r =>
  rw [takeR_rec hp,doc_step ok hb] at h
  cases hs:stepS s r with
  | none=>rw [hs] at h;cases h
  | some t =>
   rw [hs] at h;obtain ⟨h1,h2⟩:=stepS_whole ok hb hs;have e1:t.h=g:=by cases h;rfl
   have e2:r.kind=k:=by cases h;rfl
   refine ⟨t,?_,e1,h1,?_,?_⟩
   ·unfold takeS;rw [hp];exact hs
   ·rw [h2,e2]
   ·rw [←e2];cases r<;>(intro h;cases h)
theorem ins_fall {out:List Nat} {n i:Nat} (hi:i≤out.length) (h1:∀ j,j<i→n<out.getD j 0) (h2:i<out.length→out.getD i 0≤n):out.take i++n::out.drop i=(insW out.reverse n).reverse:=by
 have key:∀ k,k≤out.length→out.length - i≤k→posR out.reverse n k=out.length - i:=by
  intro k
  induction k with
  | zero=>intro _ h;rw [posR];omega
  | succ k ih =>
   intro hk hle;rw [posR];have hr:out.reverse.getD k 0=out.getD (out.length - 1 - k) 0:=by
    rw [List.getD_eq_getElem?_getD,List.getD_eq_getElem?_getD,List.getElem?_reverse (by omega)]
   rw [hr]
   by_cases e:out.length - i=k+1
   ·rw [if_neg,e];have:=h2 (by omega);rw [show out.length - 1 - k=i from by omega];omega
   ·rw [if_pos (h1 _ (by omega))];exact ih (by omega) (by omega)
 unfold insW;rw [List.length_reverse,key _ (Nat.le_refl _) (by omega)];rw [List.reverse_append,List.reverse_cons,List.drop_reverse,List.take_reverse,List.reverse_reverse,List.reverse_reverse];rw [show out.length - (out.length - i)=i from by omega];simp
def keepR (w:Wl) (h:Hrd) (r:Int×Nat×Dk):Int×Wl×Dk:=if r.1=0 then (0,⟨r.2.1,bareOf h,false⟩,r.2.2) else (r.1,⟨w.n,w.h,true⟩,r.2.2)
def saveR (d:Dk) (w:Wl) (h:Hrd):Int×Wl×Dk :=
 if rightH h=false then (1,w,d)
 else if w.down=true then (18,w,d)
 else if 0<w.n∧sameW w.h h=true then (0,w,d)
 else if anewW d w h=false then keepR w h ((writeD d w.n (moreB w.h h)).1,w.n,(writeD d w.n (moreB w.h h)).2)
 else if 99999999999999≤w.n then (14,w,d)
 else keepR w h (layW d w.n h)
structure Alk (a b:Wl):Prop where
 h:a.h=b.h
 down:a.down=b.down
 n:a.down=false→a.n=b.n
theorem Alk.refl (a:Wl):Alk a a:=⟨rfl,rfl,fun _=>rfl⟩
theorem few_digits (n:Nat):14<(Lib.decDigits (n+1)).length↔99999999999999≤n:=by
 constructor
 ·intro h
  by_cases hc:n+1≤99999999999999
  ·have:=dec_few hc;omega
  ·omega
 ·intro h
  by_cases hc:14<(Lib.decDigits (n+1)).length
  ·exact hc
  ·exfalso
   have h1:=decW_val (n+1);have h2:∀ (l:List UInt8) (m:Nat),(∀ c ∈ l,digB c=true)→valW l m<(m+1) * 10 ^ l.length:=by
    intro l
    induction l with
    | nil=>intro m _;simp [valW]
    | cons c r ih =>
     intro m hd;have hc:=hd c (by simp);unfold digB at hc;simp only [Bool.and_eq_true,decide_eq_true_eq] at hc
     have h3:=ih (10 * m+(c.toNat - 48)) (fun x hx=>hd x (by simp [hx]));have h4:valW (c::r) m=valW r (10 * m+(c.toNat - 48)):=rfl;rw [h4,List.length_cons,Nat.pow_succ];have h5:(10 * m+(c.toNat - 48)+1) * 10 ^ r.length≤((m+1) * 10) * 10 ^ r.length:=Nat.mul_le_mul_right _ (by omega);have h6:(m+1) * 10 * 10 ^ r.length=(m+1) * (10 ^ r.length * 10):=by rw [Nat.mul_assoc,Nat.mul_comm 10]
     omega
   have h3:=h2 (Lib.decDigits (n+1)) 0 (decW_all (n+1));rw [h1] at h3;have h4:(10:Nat) ^ (Lib.decDigits (n+1)).length≤10 ^ 14:=Nat.pow_le_pow_right (by decide) (by omega);have h5:(10:Nat) ^ 14=100000000000000:=by decide
   omega
theorem keep_alk {a b:Wl} {h:Hrd} {r:Int×Nat×Dk} (e:a.h=b.h):(keepW a h r).1=(keepR b h r).1∧(keepW a h r).2.2=(keepR b h r).2.2∧Alk (keepW a h r).2.1 (keepR b h r).2.1:=by
 unfold keepW keepR
 split
 ·exact ⟨rfl,rfl,Alk.refl _⟩
 ·exact ⟨rfl,rfl,⟨e,rfl,fun h=>by cases h⟩⟩
theorem save_alk {a b:Wl} (d:Dk) (h:Hrd) (k:Alk a b):(saveW d a h).1=(saveR d b h).1∧(saveW d a h).2.2=(saveR d b h).2.2∧Alk (saveW d a h).2.1 (saveR d b h).2.1:=by
 obtain ⟨k1,k2,k3⟩:=k;unfold saveW saveR
 by_cases hr:rightH h=false
 ·rw [if_pos hr,if_pos hr];exact ⟨rfl,rfl,⟨k1,k2,k3⟩⟩
 rw [if_neg hr,if_neg hr]
 by_cases hd:a.down=true
 ·have hdb:b.down=true:=by rw [←k2];exact hd
  rw [if_pos hd,if_pos hdb];exact ⟨rfl,rfl,⟨k1,k2,k3⟩⟩
 have hd2:a.down=false:=by cases hx:a.down;rfl;exact absurd hx hd
 have kn:=k3 hd2;have hdb:¬ b.down=true:=by rw [←k2];exact hd
 rw [if_neg hd,if_neg hdb];have eAb:anewW d a h=anewW d b h:=by unfold anewW;rw [k1,kn]
 rw [k1,kn,eAb]
 by_cases hs:0<b.n∧sameW b.h h=true
 ·rw [if_pos hs,if_pos hs];exact ⟨rfl,rfl,⟨k1,k2,k3⟩⟩
 rw [if_neg hs,if_neg hs]
 by_cases ha:anewW d b h=false
 ·rw [if_pos ha,if_pos ha];exact keep_alk k1
 rw [if_neg ha,if_neg ha]
 by_cases hf:99999999999999≤b.n
 ·rw [if_pos ((few_digits b.n).2 hf),if_pos hf];exact ⟨rfl,rfl,⟨k1,k2,k3⟩⟩
 ·have hf2:¬ 14<(Lib.decDigits (b.n+1)).length:=fun h=>hf ((few_digits b.n).1 h);rw [if_neg hf2,if_neg hf];exact keep_alk k1
end
end Go.Proofs.YtgpgcnmnfnnkjaaGreatDoor
