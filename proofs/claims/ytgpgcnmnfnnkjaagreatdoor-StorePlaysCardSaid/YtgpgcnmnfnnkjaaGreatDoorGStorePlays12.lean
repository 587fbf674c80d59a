import Derived.Test.YtgpgcnmnfnnkjaaGreatDoorGStorePlays9
import Derived.Test.YtgpgcnmnfnnkjaaGreatDoorGStorePlays0
import Derived.Lib.AppendStr
import Derived.Laws.Bits64b
import Derived.Laws.BitsAllLaws
import Derived.Deep.RegionHeld3
set_option linter.unusedVariables false
set_option linter.unusedSimpArgs false
set_option maxRecDepth 100000
set_option maxHeartbeats 16000000
namespace Go.Proofs.YtgpgcnmnfnnkjaaGreatDoor
section
open Go Go.RowKit

section
variable {P:Program} {t e u:TypeId} {w:World} {ops:Array Oper} {rest:List Oper} {o:Oper} {a:Act} {Q:Exit→Act→World→Prop}
theorem run_appS (ht:P.underlying t=some (.slice e)) (hu:P.underlying u=some .string) (hinf:(P.info? e).map (fun i=>(i.zero,i.size,i.bytes))=some (some (.int .u8 0),1,1)) (ty:TypeId)
 {B:Nat} {v:Value} {l:List UInt8} (own:OwnB w B e v l) {x:ByteArray} (hbytes:l.length+x.size≤140737488355328) (hB:B≤w.heap.size) :
 ∃ v' w',(Builtin.append_ #[t,u] ty #[v,.string x]).run P w=.ok v' w'∧OwnB w' B e v' (l++x.data.toList)∧w.grownBy w' v.ownBlock∧Below B w w':=by
 obtain ⟨i,hi,hz,hsz,hby⟩:=info_parts hinf;have hmax:l.length+x.size≤maxLen:=by unfold maxLen;omega
 obtain ⟨v',w',hr,h2,h3,_⟩:=Lib.run_append_own_string (P:=P) w B t u ty e i ht hu hi hz hsz hby v l.length _ own.1 x hmax hbytes hB;have hsz2:x.data.toList.length=x.size:=by simp
 refine ⟨v',w',hr,OwnB.snoc (l':=x.data.toList) ⟨by rw [hsz2];exact h2,fun y hy=>?_⟩,h3,below_grown h3 hB fun k hk=>(own.1.lt k hk).1⟩;rw [←List.map_append] at hy;obtain ⟨_,_,rfl⟩:=List.mem_map.1 hy;rfl
theorem wpList_appS (ht:P.underlying t=some (.slice e)) (hu:P.underlying u=some .string) (hinf:(P.info? e).map (fun i=>(i.zero,i.size,i.bytes))=some (some (.int .u8 0),1,1)) (hgd:o.guard=none) {s y:Operand} (ho:o.op=.call { callee:=.builtin .append,args:=#[s,y],argTypes:=#[t,u] })
 {B:Nat} {v:Value} {l:List UInt8} (own:OwnB w B e v l) (hs:a.eval s=v) {x:ByteArray} (hx:a.eval y=.string x) (hbytes:l.length+x.size≤140737488355328) (hB:B≤w.heap.size)
 (h:∀ v' w',OwnB w' B e v' (l++x.data.toList)→w.grownBy w' v.ownBlock→Below B w w'→wpList P ops Q rest (a.put o.dst v') w'):wpList P ops Q (o::rest) a w:=by
 obtain ⟨v',w',hr,h2,h3,h4⟩:=run_appS ht hu hinf o.type own hbytes hB;refine wpList_plain hgd fun K hK=>?_;unfold Oper.wp execOp;simp only [ho,resolve,invoke,builtin,Sem.run_bind,Sem.run_pure,Result.andThen_ok,List.map_toArray,List.map_cons,List.map_nil,hs,hx,hr]
 exact hK _ _ (h v' w' h2 h3 h4)
end
theorem tBytesP:SlT Tryz.prog 26 5 1 1:=SlT.mk' (z:=.int .u8 0) Tryz.underlying26 (by kernel_rfl) (by kernel_rfl) (by decide) (by decide)

theorem packMore (v:Value) (b:List UInt8) (R:Int) (r:Nat) (hR:R=(r:Int)) (w:World) (hv:Bytes w v b) (hb:b.length≤35184372088832) (hr:r≤35184372088832) :
 Calls Tryz.prog 146 #[v,.int .i64 R] w fun e w'=>∃ q,e=.returned q∧OwnB w' w.heap.size 5 q b∧Below w.heap.size w w':=by
 subst hR;obtain ⟨p0,c0,rfl⟩:=hv.shape;go_enter Tryz.func146,Tryz.ntmps146
 go_wp2_with (first
  | (at_make;refine wpList_mk tBytesP rfl rfl w.heap.size (b.length+r) rfl rfl (by simp) (by omega) (by unfold maxLen;omega) (Nat.le_refl _) ?_;intro v2 w2 own2 g2 b2)
  | (at_builtin;refine wpList_app tBytesP rfl rfl own2 rfl (Cells.ext hv b2) rfl (by omega) b2.size ?_;intro v3 w3 own3 g3 b3)
  | fail)
 go_ret
 exact ⟨_,rfl,OwnB.of own3 (by simp) (by simp),b2.trans b3⟩

def VI (f u:Nat):Prop:=1≤f∧f≤10∧u<2 ^ (64 - 7 * (10 - f))
theorem VI.step {f u:Nat} (h:VI f u) (hu:128≤u):VI (f - 1) (u / 128)∧vint f u=UInt8.ofNat (u % 128+128)::vint (f - 1) (u / 128):=by
 obtain ⟨h1,h2,h3⟩:=h;have h9:2≤f:=by
  rcases Nat.lt_or_ge f 2 with h | h
  ·have:f=1:=by omega
   subst this;have:u<2:=h3;omega
  ·exact h
 obtain ⟨f,rfl⟩:∃ g,f=g+1:=⟨f - 1,by omega⟩;refine ⟨⟨by omega,by omega,?_⟩,by rw [vint_big hu];rfl⟩;rw [Nat.div_lt_iff_lt_mul (by decide),show (128:Nat)=2 ^ 7 from rfl, ←Nat.pow_add];rw [show 64 - 7 * (10 - (f+1 - 1))+7=64 - 7 * (10 - (f+1)) from by omega];exact h3
theorem VI.last {f u:Nat} (h:VI f u) (hu:u<128):vint f u=[UInt8.ofNat u]:=by
 obtain ⟨f,rfl⟩:∃ g,f=g+1:=⟨f - 1,by have:=h.1;omega⟩;exact vint_small hu
theorem VI.zig {n:Int} (h : -9223372036854775808≤n) (h2:n≤9223372036854775807):VI 10 (zig n):=⟨by omega,by omega,by have:=zig_lt h h2;simpa using this⟩
theorem byte_lit (x:UInt8) (w:World) (t:TypeId) (H:Nat) (hH:w.heap.size=H):Bytes (w.alloc (.cells #[.int .u8 (x.toNat:Int)] t)) (.slice (some ⟨H,0,none⟩) 1 1) [x]:=by
 subst hH;exact litBytes w [x] t (0,0) (by simp [maxLen])

theorem not_u64 (z:Nat) (h:z<18446744073709551616):bits .xor .u64 IntKind.u64.max (z:Int)=((18446744073709551615 - z:Nat):Int):=by
 have e:IntKind.u64.max=((18446744073709551615:Nat):Int):=by decide
 rw [e,bits_xor_u64_nat _ _ (by decide) h]
 congr 1
 have h1:(BitVec.allOnes 64 ^^^ BitVec.ofNat 64 z).toNat=18446744073709551615 - z:=by
  rw [BitVec.allOnes_xor,BitVec.toNat_not,BitVec.toNat_ofNat,Nat.mod_eq_of_lt (by simpa using h)]
 rw [BitVec.toNat_xor,BitVec.toNat_allOnes,BitVec.toNat_ofNat,Nat.mod_eq_of_lt (by simpa using h)] at h1;exact h1
theorem or128 (z:Nat):bits .or .u8 ((z:Int) % 256) 128=((UInt8.ofNat (z % 128+128)).toNat:Int):=by
 have hf:∀ x:Fin 256,(x.val ||| 128)=x.val % 128+128:=by decide +kernel
 have h1:=hf ⟨z % 256,Nat.mod_lt _ (by decide)⟩;have h2:=u8_or_nat (z % 256) 128 (Nat.mod_lt _ (by decide)) (by decide);rw [toNat_ofNat_lt (by have:=Nat.mod_lt z (show 0<128 by decide);omega)];have e:((z % 256:Nat):Int)=(z:Int) % 256:=by omega
 rw [←e,show (128:Int)=((128:Nat):Int) from rfl,h2,h1]
 congr 2
 show z % 256 % 128=z % 128
 omega
theorem packNum (v:Value) (b:List UInt8) (n:Int) (w:World) (hv:Bytes w v b) (hb:b.length≤35184372088000) (h1 : -9223372036854775808≤n) (h2:n≤9223372036854775807) :
 Calls Tryz.prog 135 #[v,.int .i64 n] w fun e w'=>∃ q,e=.returned q∧OwnB w' w.heap.size 5 q (b++numB n)∧Below w.heap.size w w':=by
 have hvi:=VI.zig h1 h2;have hzl:=zig_lt h1 h2;have hz:Hid (if 0≤n then (zig n:Int)=2 * n else (zig n:Int) = -2 * n - 1):=by
  show if 0≤n then (zig n:Int)=2 * n else (zig n:Int) = -2 * n - 1
  unfold zig;split<;>omega
 have hnb:numB n=vint 10 (zig n):=rfl;rw [hnb];clear hnb;generalize zig n=z at *;go_enter Tryz.func135,Tryz.ntmps135
 go_wp2_with fail
 with_reducible refine (packMore v b 10 10 rfl w hv (by omega) (by omega)).mono ?_
 rintro e w1 ⟨o1,rfl,own1,b1⟩;have hs1:=b1.size;obtain ⟨p1,c1,rfl⟩:=own1.bytes.shape;go_wp2
 all_goals
  go_loopw [5,6] (fun o u wr=>∃ (f z':Nat) (l:List UInt8),u=.int .u64 (z':Int)∧OwnB wr w.heap.size 5 o l∧Hid (VI f z')∧Hid (l++vint f z'=b++vint 10 z)∧Below w.heap.size w wr∧l.length≤35184372088100) (fun _ u _=>(intOf u).toNat)
 case atStart =>
  have e1:bits BinOp.xor IntKind.u64 IntKind.u64.max (IntKind.u64.wrap (IntKind.u64.wrap n * 2))=(z:Int):=by
   have h:=hz.out;rw [if_neg (by omega)] at h;have e:IntKind.u64.wrap (IntKind.u64.wrap n * 2)=((18446744073709551615 - z:Nat):Int):=by
    rw [IntKind.wrap_u64,IntKind.wrap_u64];omega
   rw [e,not_u64 _ (by omega)];omega
  exact ⟨10,z,b,by rw [e1],own1,hvi,rfl,b1,by omega⟩
 case atStart =>
  have e1:IntKind.u64.wrap (IntKind.u64.wrap n * 2)=(z:Int):=by
   have h:=hz.out;rw [if_pos (by omega)] at h;rw [IntKind.wrap_u64,IntKind.wrap_u64];omega
  exact ⟨10,z,b,by rw [e1],own1,hvi,rfl,b1,by omega⟩
 all_goals
  clear own1 b1 hs1;obtain ⟨f,z',l,rfl,own,hv2,hl,hb2,hll⟩:=hrel;have hs2:=hb2.size;obtain ⟨p2,c2,rfl⟩:=own.bytes.shape
  by_cases hc:128≤z'
  ·obtain ⟨hst,hvs⟩:=VI.step hv2.out hc;have e3:=Lib.hid (or128 z');have Hst:=Lib.hid hst;have Hvs:=Lib.hid hvs;have hz2:=hvi.2.2;clear hst hvs hvi hz hzl h1 h2;have hci:(128:Int)≤(z':Int):=by omega
   have lit:Bytes (wr.alloc (.cells #[.int .u8 (bits .or .u8 ((z':Int) % 256) 128)] 5)) (.slice (some ⟨wr.heap.size,0,none⟩) 1 1) [UInt8.ofNat (z' % 128+128)]:=by rw [e3.out];exact byte_lit (UInt8.ofNat (z' % 128+128)) wr _ _ rfl
   have ca:=below_alloc wr (.cells #[.int .u8 (bits .or .u8 ((z':Int) % 256) 128)] 5);have own2:=own.ext ca;have hb3:=hb2.trans (ca.mono hs2);have hfl:l.length+1+(vint (f - 1) (z' / 128)).length≤35184372088010:=by
    have h1:=congrArg List.length hl.out;rw [Hvs.out] at h1;simp only [List.length_append,List.length_cons] at h1
    have:=vint_le 10 z;omega
   go_wp2_with (first | (at_builtin;refine wpList_app tBytesP rfl rfl own2 rfl lit rfl (by simp;omega) hb3.size ?_;intro v4 w4 own4 g4 b4) | fail)
   have own5:=OwnB.snoc own4;go_roundw
   case rel=>exact ⟨f - 1,z' / 128,_,by go_num,own5,Hst.out,by show _=_;rw [←hl.out,Hvs.out];simp,hb3.trans b4,by simp;omega⟩
   case measure=>simp [intOf];omega
  ·have hci:¬ (128:Int)≤(z':Int):=by omega
   have hlast:=VI.last hv2.out (by omega);have Hl:=Lib.hid hlast;have e3:(z':Int)=((UInt8.ofNat z').toNat:Int):=by rw [toNat_ofNat_lt (by omega)]
   have lit:Bytes (wr.alloc (.cells #[.int .u8 (z':Int)] 5)) (.slice (some ⟨wr.heap.size,0,none⟩) 1 1) [UInt8.ofNat z']:=by rw [e3];exact byte_lit (UInt8.ofNat z') wr _ _ rfl
   have ca:=below_alloc wr (.cells #[.int .u8 (z':Int)] 5);have own2:=own.ext ca;have hb3:=hb2.trans (ca.mono hs2);clear hlast e3 hvi hz hzl h1 h2;go_wp2_with (first | (at_builtin;refine wpList_app tBytesP rfl rfl own2 rfl lit rfl (by simp;omega) hb3.size ?_;intro v4 w4 own4 g4 b4) | fail)
   have own5:=OwnB.snoc own4;go_ret
   exact ⟨_,rfl,by rw [←hl.out,Hl.out];exact own5,hb3.trans b4⟩
end
section
open Go Go.RowKit

theorem packText (v:Value) (b:List UInt8) (s:ByteArray) (w:World) (hv:Bytes w v b) (hb:b.length+s.size≤17592186044000) :
 Calls Tryz.prog 136 #[v,.string s] w fun e w'=>∃ q,e=.returned q∧OwnB w' w.heap.size 5 q (b++textB (s.data.toList))∧Below w.heap.size w w':=by
 have hsl:s.data.toList.length=s.size:=by simp
 go_enter Tryz.func136,Tryz.ntmps136
 go_wp2_with fail
 with_reducible refine (packMore v b _ (10+s.size) (by omega) w hv (by omega) (by omega)).mono ?_
 rintro e w1 ⟨o1,rfl,own1,b1⟩;go_wp2_with fail
 with_reducible refine (packNum o1 b _ w1 own1.bytes (by omega) (by omega) (by omega)).mono ?_
 rintro e w2 ⟨o2,rfl,own2,b2⟩;have hb2:=b1.trans (b2.mono b1.size);have own3:=Own.base own2 b1.size;have hl:=numB_le (s.size:Int);obtain ⟨p2,c2,rfl⟩:=own2.bytes.shapeN (n:=b.length+(numB (s.size:Int)).length) (by simp);go_wp2_with (first | (at_builtin;go_loud (refine wpList_appS Tryz.underlying26 Tryz.underlying9 (by kernel_rfl) rfl rfl own3 rfl rfl (by rw [List.length_append];omega) hb2.size ?_);intro v4 w4 own4 g4 b4) | fail)
 go_ret
 refine ⟨_,rfl,?_,hb2.trans b4⟩;unfold textB;rw [hsl, ←List.append_assoc];exact own4

structure RdrAt (w:World) (g:Nat) (v:Value) (r:Rdr):Prop where
 blk:Blk w g #[v,.int .i64 (r.pos:Int),.int .i64 r.err] 164
 byt:Bytes w v r.b
 off:v.ownBlock≠some g
 le:r.pos≤r.b.length
 big:r.b.length≤35184372088000
section
variable {w w':World} {g:Nat} {v:Value} {r:Rdr}
theorem Bytes.adr {w:World} {p:Option Addr} {n cap:Nat} {l:List UInt8} (h:Bytes w (.slice p n cap) l) (hl:0<l.length):∃ b off,p=some ⟨b,off,none⟩∧∀ i (hi:i<l.length),w.cell? ⟨b,off+i,none⟩=some (.int .u8 (l[i].toNat:Int)):=by
 obtain ⟨p',cap',e,_,_,_,h2⟩:=h.form
 cases e
 exact h2 hl
theorem and127 (c:UInt8):bits .and .u8 (c.toNat:Int) 127=((c.toNat % 128:Nat):Int):=by
 have h:=u8_and_nat c.toNat 127 c.toNat_lt (by decide);rw [show (127:Int)=((127:Nat):Int) from rfl,h]
 congr 1
 exact Nat.and_two_pow_sub_one_eq_mod c.toNat 7
theorem or_step (c:UInt8) (u k:Nat) (hk:k≤9) (hu:u<2 ^ (7 * k)) (h9:¬ (k=9∧1<c.toNat)) :
 bits .or .u64 (u:Int) (IntKind.u64.wrap (IntKind.u64.wrap (bits .and .u8 (c.toNat:Int) 127) * 2 ^ (7 * k)))=((u+c.toNat % 128 * 2 ^ (7 * k):Nat):Int)∧u+c.toNat % 128 * 2 ^ (7 * k)<18446744073709551616∧(k<9→u+c.toNat % 128 * 2 ^ (7 * k)<2 ^ (7 * (k+1))):=by
 have hm:c.toNat % 128≤127:=by have:=Nat.mod_lt c.toNat (show 0<128 by decide);omega
 have hp:(2:Nat) ^ (7 * (k+1))=128 * 2 ^ (7 * k):=by rw [show 7 * (k+1)=7+7 * k from by omega,Nat.pow_add]
 have h1:=Nat.mul_le_mul_right (2 ^ (7 * k)) hm;have hlt:u+c.toNat % 128 * 2 ^ (7 * k)<2 ^ (7 * (k+1)):=by rw [hp];omega
 have h64:u+c.toNat % 128 * 2 ^ (7 * k)<18446744073709551616:=by
  by_cases e:k=9
  ·subst e
   have hc : c.toNat % 128 ≤ 1 := by have : c.toNat ≤ 1 := by omega
                                     omega
   have h2:=Nat.mul_le_mul_right (2 ^ (7 * 9)) hc;have h4:(2:Nat) ^ (7 * 9)=9223372036854775808:=by decide
   rw [h4] at hu h2 ⊢;omega
  ·have h2:(2:Nat) ^ (7 * (k+1))≤2 ^ 63:=Nat.pow_le_pow_right (by decide) (by omega);have h4:(2:Nat) ^ 63=9223372036854775808:=by decide
   omega
 refine ⟨?_,h64,fun _=>hlt⟩;have e1:IntKind.u64.wrap (bits .and .u8 (c.toNat:Int) 127)=((c.toNat % 128:Nat):Int):=by rw [and127,IntKind.wrap_u64];omega
 have e2:((c.toNat % 128:Nat):Int) * 2 ^ (7 * k)=((c.toNat % 128 * 2 ^ (7 * k):Nat):Int):=by rw [Int.natCast_mul,Int.natCast_pow];rfl
 rw [e1,e2,IntKind.wrap_u64,Int.emod_eq_of_lt (Int.natCast_nonneg _) (by omega),bits_or_u64_nat _ _ (by omega) (by omega)]
 congr 1
 have h5:=Nat.two_pow_add_eq_or_of_lt hu (c.toNat % 128);rw [Nat.mul_comm (c.toNat % 128),Nat.add_comm,h5,Nat.or_comm]
theorem and1 (u:Nat) (h:u<18446744073709551616):bits .and .u64 (u:Int) 1=((u % 2:Nat):Int):=by
 rw [show (1:Int)=((1:Nat):Int) from rfl,bits_and_u64_nat _ _ h (by decide)]
 congr 1
 exact Nat.and_one_is_mod u
theorem zag_odd (u:Nat) (h:u<18446744073709551616) (h1:u % 2=1):IntKind.i64.wrap (bits .xor .u64 IntKind.u64.max ((u:Int) / 2))=zag u:=by
 have e:(u:Int) / 2=((u / 2:Nat):Int):=by omega
 unfold zag;rw [e,not_u64 _ (by omega),if_pos h1,IntKind.wrap_i64];omega
theorem zag_even (u:Nat) (h:u<18446744073709551616) (h1:¬ u % 2=1):IntKind.i64.wrap ((u:Int) / 2)=zag u:=by
 unfold zag;rw [if_neg h1,IntKind.wrap_i64];omega
theorem chg_cell (g i:Nat) (u:Value) (w:World):Chg (fun k=>k=g) w (w.setCell ⟨g,i,none⟩ u):=(Chg.refl (fun k=>k=g) w).setCell (p:=⟨g,i,none⟩) rfl u
theorem RdrAt.chg {G:Nat→Prop} (h:RdrAt w g v r) (hc:Chg G w w') (hg:¬ G g) (hv:∀ k,v.ownBlock=some k→¬ G k):RdrAt w' g v r :=
 ⟨hc.blk h.blk hg,hc.cells h.byt hv,h.off,h.le,h.big⟩
theorem RdrAt.ext (h:RdrAt w g v r) (hb:Below w.heap.size w w'):RdrAt w' g v r:=h.chg (G:=fun _=>False) (.of_below hb) id fun _ _=>id
theorem RdrAt.drewN (h:RdrAt w g v r) (n:Nat):RdrAt (w.drewN n) g v r:=h.ext (below_drawn _ _ _)
theorem RdrAt.setP (h:RdrAt w g v r) {p:Nat} {P:Int} (hP:P=(p:Int)) (hp:p≤r.b.length):RdrAt (w.setCell ⟨g,1,none⟩ (.int .i64 P)) g v ⟨r.b,p,r.err⟩:=by
 subst hP;exact ⟨h.blk.set 1 (.int .i64 (p:Int)),(chg_cell g 1 _ w).cells h.byt fun k hk e=>h.off (by rw [hk,e]),h.off,hp,h.big⟩
theorem RdrAt.setE (h:RdrAt w g v r) (e:Int):RdrAt (w.setCell ⟨g,2,none⟩ (.int .i64 e)) g v ⟨r.b,r.pos,e⟩ :=
 ⟨h.blk.set 2 (.int .i64 e),(chg_cell g 2 _ w).cells h.byt fun k hk e=>h.off (by rw [hk,e]),h.off,h.le,h.big⟩
end

theorem packRead (v:Value) (b:List UInt8) (w:World) (hv:Bytes w v b) (hb:b.length≤35184372088000) :
 Calls Tryz.prog 108 #[v] w fun e w'=>∃ g v',e=.returned (.pointer (some ⟨g,0,none⟩))∧RdrAt w' g v' (rd0 b)∧w.heap.size≤g∧(∀ k,v'.ownBlock=some k→w.heap.size≤k∧k<w'.heap.size)∧Below w.heap.size w w':=by
 obtain ⟨p0,c0,rfl⟩:=hv.shape;go_enter Tryz.func108,Tryz.ntmps108
 go_wp2_with (first
  | (at_builtin;go_loud (refine wpList_app tBytesP rfl rfl (Own.nil w w.heap.size 5 1) rfl hv rfl (by omega) (Nat.le_refl _) ?_);intro v3 w3 own3 g3 b3;replace own3:OwnB w3 w.heap.size 5 v3 b:=OwnB.of own3 (by simp) (by simp);obtain ⟨p3,c3,rfl⟩:=own3.bytes.shape)
  | fail)
 go_ret
 have own4:=own3;refine ⟨w3.heap.size,_,rfl,?_,b3.size,fun k hk=>⟨(own4.lt k hk).1,by have:=(own4.lt k hk).2;simp;omega⟩,b3.trans ((below_alloc _ _).mono b3.size)⟩;exact ⟨Blk.new w3 _ _,own4.bytes.ext (below_alloc _ _),fun e=>by have:=(own4.lt _ e).2;omega,Nat.zero_le _,hb⟩

theorem rdrWrong (g:Nat) (v:Value) (r:Rdr) (p:Nat) (P e:Int) (hP:P=(p:Int)) (w:World) (h:RdrAt w g v r) (hp:p≤r.b.length) :
 Calls Tryz.prog 137 #[.pointer (some ⟨g,0,none⟩),.int .i64 P,.int .i64 e] w fun x w'=>x=.returned (.int .i64 0)∧RdrAt w' g v ⟨r.b,p,e⟩∧Chg (fun k=>k=g) w w':=by
 have c1:=h.blk.cell 1 _ rfl;have c2:=h.blk.cell 2 _ rfl;have f1:=h.blk.frozen 1;have f2:=h.blk.frozen 2;have s1:=h.setP hP hp;have s2:=s1.setE e;have hc:Chg (fun k=>k=g) w ((w.setCell ⟨g,1,none⟩ (.int .i64 P)).setCell ⟨g,2,none⟩ (.int .i64 e)):=(chg_cell g 1 _ w).step (chg_cell g 2 _ _);have Hs:=Lib.hid (And.intro s2 hc);clear s1 s2 hc h hP;go_enter Tryz.func137,Tryz.ntmps137
 go_wp2
 go_ret
 exact ⟨rfl,Hs.out.1,Hs.out.2⟩

theorem rdrNum (g:Nat) (v:Value) (r:Rdr) (w:World) (h:RdrAt w g v r) :
 Calls Tryz.prog 109 #[.pointer (some ⟨g,0,none⟩)] w fun x w'=>x=.returned (.int .i64 (rNum r).1)∧RdrAt w' g v (rNum r).2∧Chg (fun k=>k=g) w w':=by
 obtain ⟨p,cap,rfl⟩:=h.byt.shape;have c0:=h.blk.cell 0 _ rfl;have c1:=h.blk.cell 1 _ rfl;have c2:=h.blk.cell 2 _ rfl
 by_cases he:r.err=0
 ·have hw:=fun (m:Nat)=>h.drewN m;rw [he] at c2;go_enter Tryz.func109,Tryz.ntmps109
  go_wp2
  go_loopw [3,4] (fun u i wr=>∃ (k u' m:Nat),i=.int .i64 (k:Int)∧u=.int .u64 (u':Int)∧wr=w.drewN m∧k≤9∧Hid (u'<2 ^ (7 * k))∧Hid (vdec (r.b.drop (r.pos+k)) k u'=vdec (r.b.drop r.pos) 0 0)) (fun _ i _=>10 - (intOf i).toNat)
  case atStart=>exact ⟨0,0,0,rfl,rfl,rfl,by omega,by show _<_;decide,rfl⟩
  case round =>
   obtain ⟨k,u',m,rfl,rfl,rfl,hk,hu,hd⟩:=hrel;have hle:=h.le;have hbig:=h.big
   by_cases hin:r.pos+k<r.b.length
   ·have hi1:¬ (r.b.length:Int)≤(r.pos:Int)+(k:Int):=by omega
    obtain ⟨bb,off,rfl,hcell⟩:=Bytes.adr h.byt (by omega);replace hcell:=hcell (r.pos+k) hin;have hdrop:=List.drop_eq_getElem_cons hin;have hd2:=hd.out;rw [hdrop,vdec] at hd2;generalize r.b[r.pos+k]=c at *;have hcl:=c.toNat_lt;have Hd2:=Lib.hid hd2;clear hd hd2 hdrop;have e1:(off:Nat)+(r.pos+k)=off+(r.pos+k):=rfl
    by_cases h9:k=9∧1<c.toNat
    ·obtain ⟨rfl,h1⟩:=h9;have hn1:rNum r=(0,⟨r.b,r.pos,4⟩):=by unfold rNum;rw [if_pos he, ←Hd2.out,if_pos ⟨rfl,h1⟩];rfl
     have Hn:=Lib.hid hn1;have h1i:(1:Int)<(c.toNat:Int):=by omega
     clear hn1;go_wp2
     go_quiet (fail)
     go_wp2
     go_quiet (fail)
     go_wp2_with fail
     refine (rdrWrong g _ r r.pos _ 4 rfl _ (hw _) hle).mono ?_;rintro e w2 ⟨rfl,h2,c2'⟩;go_wp2_with fail
     go_ret
     rw [Hn.out];exact ⟨rfl,h2,(Chg.of_below (below_drawn _ _ _)).step c2'⟩
    ·obtain ⟨o1,o2,o3⟩:=or_step c u' k hk hu.out h9;have O1:=Lib.hid o1;have O2:=Lib.hid o2;have O3:=Lib.hid o3;clear o1 o2 o3;have hg9:((k:Int) == 9)=true→¬ (1:Int)<(c.toNat:Int):=fun h=>by
      have:(k:Int)=9:=by simpa using h
      omega
     by_cases h128:128≤c.toNat
     ·have h9':k<9:=by
       rcases Nat.lt_or_ge k 9 with h | h
       ·exact h
       ·exact absurd ⟨by omega,by omega⟩ h9
      clear hg9;go_wp2
      go_quiet (fail)
      go_wp2
      go_quiet (fail)
      go_wp2
      go_roundw
      case rel=>exact ⟨k+1,_,_,by go_num,by rw [O1.out],rfl,by omega,O3.out h9',by show _=_;rw [←Hd2.out,if_neg h9,if_pos h128];rfl⟩
      case measure=>simp [intOf];omega
     ·by_cases hc0:c.toNat=0∧0<k
      ·have hn1:rNum r=(0,⟨r.b,r.pos,4⟩):=by unfold rNum;rw [if_pos he, ←Hd2.out,if_neg h9,if_neg h128,if_pos hc0];rfl
       have Hn:=Lib.hid hn1;have hk0:(0:Int)<(k:Int):=by omega
       have hcz:((c.toNat:Int) == 0)=true:=by simp;omega
       have hno:((k:Int) == 9)=true→¬ (1:Int)<(c.toNat:Int):=hg9;clear hn1 hg9
       by_cases hk9:((k:Int) == 9)=true
       all_goals
        try have q1:=hno hk9
        clear hno;go_wp2
        go_quiet (fail)
        go_wp2
        go_quiet (fail)
        go_wp2_with fail
        refine (rdrWrong g _ r r.pos _ 4 rfl _ (hw _) hle).mono ?_;rintro e w2 ⟨rfl,h2,c2'⟩;go_wp2_with fail
        go_ret
        rw [Hn.out];exact ⟨rfl,h2,(Chg.of_below (below_drawn _ _ _)).step c2'⟩
      ·have hc7:c.toNat % 128=c.toNat:=Nat.mod_eq_of_lt (by omega);have hn1:rNum r=(zag (u'+c.toNat * 2 ^ (7 * k)),⟨r.b,r.pos+(k+1),0⟩):=by unfold rNum;rw [if_pos he, ←Hd2.out,if_neg h9,if_neg h128,if_neg hc0]
       rw [hc7] at O1 O2;obtain ⟨U,hU⟩:∃ U,U=u'+c.toNat * 2 ^ (7 * k):=⟨_,rfl⟩;rw [←hU] at O1 O2 hn1;have Hn:=Lib.hid hn1;have hcz:((c.toNat:Int) == 0)=true→¬ (0:Int)<(k:Int):=fun h=>by
        have:(c.toNat:Int)=0:=by simpa using h
        omega
       have hz:=fun (n:Nat)=>(hw n).setP (p:=r.pos+(k+1)) (P:=(r.pos:Int)+((k:Int)+1)) (by omega) (by omega);have hch:=fun (n:Nat)=>(Chg.of_below (F:=fun k=>k=g) (below_drawn w.heap.size w n)).step (chg_cell g 1 (.int .i64 ((r.pos:Int)+((k:Int)+1))) (w.drewN n));have Hz:=Lib.hid (And.intro hz hch);have f1:=h.blk.frozen 1;clear hn1 hz hch hU hw h hc0 hc7 hin Hd2 O3
       by_cases hp:U % 2=1
       ·have hcond:(bits .and .u64 (bits .or .u64 (u':Int) (IntKind.u64.wrap (IntKind.u64.wrap (bits .and .u8 (c.toNat:Int) 127) * 2 ^ (7 * k)))) 1 == 1)=true:=by rw [O1.out,and1 _ O2.out,hp];rfl
        have Hzo:=Lib.hid (zag_odd U O2.out hp)
        by_cases hk9:((k:Int) == 9)=true<;>by_cases hz0:((c.toNat:Int) == 0)=true
        all_goals
         try have q1:=hg9 hk9
         try have q2:=hcz hz0
         clear hg9 hcz;go_wp2
         go_quiet (fail)
         go_wp2
         go_quiet (fail)
         go_wp2
         go_ret
         rw [Hn.out,O1.out];exact ⟨ret_int (by have hq:=Hzo.out;rw [IntKind.wrap_i64] at hq;unfold wrap64;exact hq),by rw [←he];exact Hz.out.1 _,Hz.out.2 _⟩
       ·have hcond:(bits .and .u64 (bits .or .u64 (u':Int) (IntKind.u64.wrap (IntKind.u64.wrap (bits .and .u8 (c.toNat:Int) 127) * 2 ^ (7 * k)))) 1 == 1)=false:=by
         rw [O1.out,and1 _ O2.out,show U % 2=0 from by omega];rfl
        have Hzo:=Lib.hid (zag_even U O2.out hp)
        by_cases hk9:((k:Int) == 9)=true<;>by_cases hz0:((c.toNat:Int) == 0)=true
        all_goals
         try have q1:=hg9 hk9
         try have q2:=hcz hz0
         clear hg9 hcz;go_wp2
         go_quiet (fail)
         go_wp2
         go_quiet (fail)
         go_wp2
         go_ret
         rw [Hn.out,O1.out];exact ⟨ret_int (by have hq:=Hzo.out;rw [IntKind.wrap_i64] at hq;unfold wrap64;exact hq),by rw [←he];exact Hz.out.1 _,Hz.out.2 _⟩
   ·have hge:(r.b.length:Int)≤(r.pos:Int)+(k:Int):=by omega
    have hv1:vdec (r.b.drop r.pos) 0 0=.error 3:=by rw [←hd.out,List.drop_of_length_le (by omega)];rfl
    have hn1:rNum r=(0,⟨r.b,r.pos,3⟩):=by unfold rNum;rw [if_pos he,hv1];rfl
    have Hn:=Lib.hid hn1;clear hv1 hn1;go_wp2
    go_quiet (fail)
    go_wp2_with fail
    refine (rdrWrong g _ r r.pos _ 3 rfl _ (hw _) hle).mono ?_;rintro e w2 ⟨rfl,h2,c2'⟩;go_wp2_with fail
    go_ret
    rw [Hn.out];exact ⟨rfl,h2,(Chg.of_below (below_drawn _ _ _)).step c2'⟩
 ·have hne:(r.err !=0)=true:=by simpa using he
  have e1:rNum r=(0,r):=by unfold rNum;rw [if_neg he]
  rw [e1];go_enter Tryz.func109,Tryz.ntmps109
  go_wp2
  go_ret
  exact ⟨rfl,h,Chg.refl _ _⟩
end
section
open Go Go.RowKit

theorem rdrErr (g:Nat) (v:Value) (r:Rdr) (w:World) (h:RdrAt w g v r) :
 Calls Tryz.prog 128 #[.pointer (some ⟨g,0,none⟩)] w fun x w'=>x=.returned (.int .i64 r.err)∧w=w':=by
 have c2:=h.blk.cell 2 _ rfl;go_enter Tryz.func128,Tryz.ntmps128
 go_wp2
 go_ret
 exact ⟨rfl,rfl⟩

theorem rdrWithin (g:Nat) (v:Value) (r:Rdr) (lo hi:Int) (w:World) (h:RdrAt w g v r) :
 Calls Tryz.prog 138 #[.pointer (some ⟨g,0,none⟩),.int .i64 lo,.int .i64 hi] w fun x w'=>x=.returned (.int .i64 (rWithin lo hi r).1)∧RdrAt w' g v (rWithin lo hi r).2∧Chg (fun k=>k=g) w w':=by
 have c1:=h.blk.cell 1 _ rfl;have hle:=h.le;have hcall:=rdrNum g v r w h;have hb:=rNum_b r;have hw:rWithin lo hi r=if (rNum r).2.err=0∧((rNum r).1<lo∨hi<(rNum r).1) then (0,⟨r.b,r.pos,2⟩) else rNum r:=rfl
 rw [hw];clear hw;generalize hq:rNum r=q at *;obtain ⟨n,r'⟩:=q;dsimp only at hb hcall ⊢;have Hq:=Lib.hid hq;clear hq h
 by_cases he:r'.err=0
 ·by_cases hlo:n<lo
  ·rw [if_pos ⟨he,.inl hlo⟩];go_enter Tryz.func138,Tryz.ntmps138
   go_wp2_with fail
   refine hcall.mono ?_;rintro e w1 ⟨rfl,h1,ch1⟩;have d2:=h1.blk.cell 2 _ rfl;rw [he] at d2;go_wp2_with fail
   refine (rdrWrong g v r' r.pos _ 2 rfl _ h1 (by rw [hb];exact hle)).mono ?_;rintro e w2 ⟨rfl,h2,ch2⟩;rw [hb] at h2;go_wp2_with fail
   go_ret
   exact ⟨rfl,h2,ch1.step ch2⟩
  ·by_cases hhi:hi<n
   ·rw [if_pos ⟨he,.inr hhi⟩];go_enter Tryz.func138,Tryz.ntmps138
    go_wp2_with fail
    refine hcall.mono ?_;rintro e w1 ⟨rfl,h1,ch1⟩;have d2:=h1.blk.cell 2 _ rfl;rw [he] at d2;go_wp2_with fail
    refine (rdrWrong g v r' r.pos _ 2 rfl _ h1 (by rw [hb];exact hle)).mono ?_;rintro e w2 ⟨rfl,h2,ch2⟩;rw [hb] at h2;go_wp2_with fail
    go_ret
    exact ⟨rfl,h2,ch1.step ch2⟩
   ·rw [if_neg (fun h=>h.2.elim hlo hhi)];go_enter Tryz.func138,Tryz.ntmps138
    go_wp2_with fail
    refine hcall.mono ?_;rintro e w1 ⟨rfl,h1,ch1⟩;have d2:=h1.blk.cell 2 _ rfl;rw [he] at d2;go_wp2
    go_ret
    exact ⟨rfl,h1,ch1⟩
 ·have hne:(r'.err == 0)=false:=by simpa using he
  rw [if_neg (fun h=>he h.1)];go_enter Tryz.func138,Tryz.ntmps138
  go_wp2_with fail
  refine hcall.mono ?_;rintro e w1 ⟨rfl,h1,ch1⟩;have d2:=h1.blk.cell 2 _ rfl;go_wp2
  go_ret
  exact ⟨rfl,h1,ch1⟩

theorem rdrEnd (g:Nat) (v:Value) (r:Rdr) (w:World) (h:RdrAt w g v r) :
 Calls Tryz.prog 111 #[.pointer (some ⟨g,0,none⟩)] w fun x w'=>x=.returned (.int .i64 (rEnd r).1)∧RdrAt w' g v (rEnd r).2∧Chg (fun k=>k=g) w w':=by
 obtain ⟨p,cap,rfl⟩:=h.byt.shape;have c0:=h.blk.cell 0 _ rfl;have c1:=h.blk.cell 1 _ rfl;have c2:=h.blk.cell 2 _ rfl;have f2:=h.blk.frozen 2;have hs:=Lib.hid (fun k=>(h.drewN k).setE 5);have hc:=Lib.hid (fun k=>(Chg.of_below (F:=fun k=>k=g) (below_drawn w.heap.size w k)).step (chg_cell g 2 (.int .i64 5) (w.drewN k)))
 by_cases he:r.err=0
 ·rw [he] at c2
  by_cases hl:r.pos<r.b.length
  ·have e1:rEnd r=(5,⟨r.b,r.pos,5⟩):=if_pos ⟨he,hl⟩;have hli:(r.pos:Int)<(r.b.length:Int):=by omega
   rw [e1];clear e1;go_enter Tryz.func111,Tryz.ntmps111
   go_wp2
   go_quiet (fail)
   go_wp2
   go_ret
   exact ⟨rfl,hs.out _,hc.out _⟩
  ·have e1:rEnd r=(r.err,r):=if_neg (fun h=>hl h.2);have hli:¬ (r.pos:Int)<(r.b.length:Int):=by omega
   rw [e1,he];clear e1;go_enter Tryz.func111,Tryz.ntmps111
   go_wp2
   go_quiet (fail)
   go_wp2
   go_ret
   exact ⟨rfl,h.drewN _,Chg.of_below (below_drawn _ _ _)⟩
 ·have hne:(r.err == 0)=false:=by simpa using he
  have e1:rEnd r=(r.err,r):=if_neg (fun h=>he h.1);rw [e1];clear e1;go_enter Tryz.func111,Tryz.ntmps111
  go_wp2
  go_quiet (fail)
  go_wp2
  go_ret
  exact ⟨rfl,h.drewN _,Chg.of_below (below_drawn _ _ _)⟩

theorem rdrText (g:Nat) (v:Value) (r:Rdr) (most:Int) (w:World) (h:RdrAt w g v r) :
 Calls Tryz.prog 110 #[.pointer (some ⟨g,0,none⟩),.int .i64 most] w fun x w'=>x=.returned (.string ⟨(rText most r).1.toArray⟩)∧RdrAt w' g v (rText most r).2∧Chg (fun k=>k=g) w w':=by
 obtain ⟨p,cap,rfl⟩:=h.byt.shape;have c1:=h.blk.cell 1 _ rfl;have hle:=h.le;have hcall:=rdrWithin g _ r 0 most w h;have hb:(rWithin 0 most r).2.b=r.b:=by unfold rWithin;split;rfl;exact rNum_b r
 have hlo:(rWithin 0 most r).2.err=0→0≤(rWithin 0 most r).1:=by
  unfold rWithin;intro he;split at he
  ·cases he
  ·rename_i hn;rw [if_neg hn]
   rcases Int.lt_or_le (rNum r).1 0 with h | h
   ·exact absurd ⟨he,.inl h⟩ hn
   ·exact h
 have hhi:(rWithin 0 most r).1≤9223372036854775807:=by
  by_cases hx:(rNum r).2.err=0∧((rNum r).1<0∨most<(rNum r).1)
  ·unfold rWithin;rw [if_pos hx];show (0:Int)≤_;decide
  ·unfold rWithin;rw [if_neg hx];exact (rNum_fits r).2
 have hw:rText most r=if (rWithin 0 most r).2.err=0 then (if (((r.b.length - (rWithin 0 most r).2.pos:Nat):Int)<(rWithin 0 most r).1) then ([],⟨r.b,r.pos,3⟩) else ((r.b.drop (rWithin 0 most r).2.pos).take (rWithin 0 most r).1.toNat,⟨r.b,(rWithin 0 most r).2.pos+(rWithin 0 most r).1.toNat,0⟩)) else ([],(rWithin 0 most r).2):=rfl
 rw [hw];clear hw;generalize rWithin 0 most r=q at *;obtain ⟨n,r'⟩:=q;dsimp only at hb hlo hhi hcall ⊢
 by_cases he:r'.err=0
 ·rw [if_pos he];have hlo:=hlo he
  by_cases hs:((r.b.length - r'.pos:Nat):Int)<n
  ·rw [if_pos hs];go_enter Tryz.func110,Tryz.ntmps110
   go_wp2_with fail
   refine hcall.mono ?_;rintro e w1 ⟨rfl,h1,ch1⟩;have d0:=h1.blk.cell 0 _ rfl;have d1:=h1.blk.cell 1 _ rfl;have d2:=h1.blk.cell 2 _ rfl;have hle1:=h1.le;have hbig:=h1.big;rw [hb] at hle1 hbig;rw [he] at d2;have hs1:(r.b.length:Int) - (r'.pos:Int)<n:=by omega
   go_wp2
   go_quiet (fail)
   go_wp2_with fail
   refine (rdrWrong g _ r' r.pos _ 3 rfl _ (h1.drewN _) (by rw [hb];exact hle)).mono ?_;rintro e w2 ⟨rfl,h2,ch2⟩;rw [hb] at h2;go_wp2_with fail
   go_ret
   exact ⟨rfl,h2,ch1.step ((Chg.of_below (below_drawn _ _ _)).step ch2)⟩
  ·rw [if_neg hs];obtain ⟨m,rfl⟩:=Int.eq_ofNat_of_zero_le hlo;go_enter Tryz.func110,Tryz.ntmps110
   go_wp2_with fail
   refine hcall.mono ?_;rintro e w1 ⟨rfl,h1,ch1⟩;have d0:=h1.blk.cell 0 _ rfl;have d1:=h1.blk.cell 1 _ rfl;have d2:=h1.blk.cell 2 _ rfl;have hle1:=h1.le;have hbig:=h1.big;rw [hb] at hle1 hbig;rw [he] at d2;have hs1:¬ (r.b.length:Int) - (r'.pos:Int)<(m:Int):=by omega
   have hbt:=h1.byt;have hsl:=run_sub tBytesP (P:=Tryz.prog) hbt .i64 .i64 (r'.pos:Int) ((r'.pos:Int)+(m:Int)) r'.pos (r'.pos+m) rfl (by omega) (by omega) (by rw [hb];omega);have hsb:=hbt.sub r'.pos (r'.pos+m) (by omega) (by rw [hb];omega);rw [hb,Nat.add_sub_cancel_left] at hsb;have hcv:=fun (k:Nat)=>run_bytes_string (P:=Tryz.prog) Tryz.underlying26 Tryz.underlying5 Tryz.underlying9 (hsb.drewN k);have f1:=h1.blk.frozen 1;have hz:=fun (k:Nat)=>(h1.drewN k).setP (p:=r'.pos+m) (P:=(r'.pos:Int)+(m:Int)) (by omega) (by rw [hb];omega)
   have hch:=fun (k:Nat)=>(Chg.of_below (F:=fun k=>k=g) (below_drawn w1.heap.size w1 k)).step (chg_cell g 1 (.int .i64 ((r'.pos:Int)+(m:Int))) (w1.drewN k));have Hz:=Lib.hid (And.intro hz hch);have Hch1:=Lib.hid ch1;have Hb:=Lib.hid hb;have hin0:(0:Int)≤(r'.pos:Int):=by omega
   clear hbt hsb hz hch h h1 ch1 c1 hb hs hcall;generalize subV _ r'.pos (r'.pos+m) 1=vs at *;go_wp2
   go_quiet (fail)
   go_wp2
   go_quiet (fail)
   go_wp2
   go_ret
   have h9:=Hz.out.1;rw [Hb.out,he] at h9;exact ⟨rfl,h9 _,Hch1.out.step (Hz.out.2 _)⟩
 ·have hne:(r'.err !=0)=true:=by simpa using he
  rw [if_neg he];go_enter Tryz.func110,Tryz.ntmps110
  go_wp2_with fail
  refine hcall.mono ?_;rintro e w1 ⟨rfl,h1,ch1⟩;have d2:=h1.blk.cell 2 _ rfl;go_wp2
  go_ret
  exact ⟨rfl,h1,ch1⟩
end
end Go.Proofs.YtgpgcnmnfnnkjaaGreatDoor
