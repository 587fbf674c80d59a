import Derived.Test.YtgpgcnmnfnnkjaaGreatDoorGStorePlays1
import Derived.Test.YtgpgcnmnfnnkjaaGreatDoorProg
import Derived.Deep.QuietTactic
import Derived.Deep.RegionHeld3
set_option linter.unusedVariables false
set_option linter.unusedSimpArgs false
set_option maxRecDepth 100000
set_option maxHeartbeats 16000000
namespace Go.Proofs.YtgpgcnmnfnnkjaaGreatDoor
section
open Go Go.RowKit

namespace Crc
def poly:BitVec 32:=0xEB31D82E#32
def inv (x:BitVec 32):BitVec 32 := ~~~x
def low (x:BitVec 32):BitVec 32:=x &&& 1#32
def half (x:BitVec 32):BitVec 32:=x >>> 1
def turn (x:BitVec 32):BitVec 32:=x ^^^ poly
def mix (s:BitVec 32) (x:UInt8):BitVec 32:=s ^^^ x.toBitVec.setWidth 32
def step (s:BitVec 32):BitVec 32:=if (low s).toNat=1 then turn (half s) else half s
def steps:Nat→BitVec 32→BitVec 32
 | 0,s=>s
 | n+1,s=>step (steps n s)
def byte (s:BitVec 32) (x:UInt8):BitVec 32:=steps 8 (mix s x)
def fold (s:BitVec 32) (l:List UInt8):BitVec 32:=l.foldl byte s
def on (c:BitVec 32) (l:List UInt8):BitVec 32:=inv (fold (inv c) l)
def parts (c:BitVec 32) (ls:List (List UInt8)):BitVec 32:=ls.foldl on c

theorem inv_inv (x:BitVec 32):inv (inv x)=x:=by simp [inv]
theorem on_nil (c:BitVec 32):on c []=c:=inv_inv c
theorem on_append (c:BitVec 32) (a b:List UInt8):on c (a++b)=on (on c a) b:=by
 unfold on fold;rw [List.foldl_append,inv_inv]
theorem parts_flat (c:BitVec 32) (ls:List (List UInt8)):parts c ls=on c ls.flatten:=by
 induction ls generalizing c with
 | nil=>simp [parts,on_nil]
 | cons a ls ih=>rw [List.flatten_cons,on_append, ←ih];rfl
theorem fold_snoc (s:BitVec 32) (l:List UInt8) (k:Nat) (h:k<l.length):fold s (l.take (k+1))=byte (fold s (l.take k)) l[k]:=by
 unfold fold;rw [List.take_succ_eq_append_getElem h,List.foldl_append];rfl
theorem parts_snoc (c:BitVec 32) (ls:List (List UInt8)) (k:Nat) (h:k<ls.length):parts c (ls.take (k+1))=on (parts c (ls.take k)) ls[k]:=by
 unfold parts;rw [List.take_succ_eq_append_getElem h,List.foldl_append];rfl

def b (k:Nat) (c:BitVec 32):UInt8:=UInt8.ofNat (c.toNat / 2 ^ (8 * k))
def le4 (c:BitVec 32):List UInt8:=[b 0 c,b 1 c,b 2 c,b 3 c]
def num4 (a b c d:UInt8):BitVec 32:=BitVec.ofNat 32 (a.toNat+256 * b.toNat+65536 * c.toNat+16777216 * d.toNat)
def num (l:List UInt8):BitVec 32:=num4 (l.getD 0 0) (l.getD 1 0) (l.getD 2 0) (l.getD 3 0)

theorem b_toNat (k:Nat) (c:BitVec 32):(b k c).toNat=c.toNat / 2 ^ (8 * k) % 256:=by simp [b]
theorem num4_toNat (a b c d:UInt8):(num4 a b c d).toNat=a.toNat+256 * b.toNat+65536 * c.toNat+16777216 * d.toNat:=by
 have:=a.toNat_lt;have:=b.toNat_lt;have:=c.toNat_lt;have:=d.toNat_lt;unfold num4;rw [BitVec.toNat_ofNat,Nat.mod_eq_of_lt (by omega)]
theorem num_le4 (c:BitVec 32):num (le4 c)=c:=by
 apply BitVec.eq_of_toNat_eq
 simp only [num,le4,List.getD_cons_zero,List.getD_cons_succ]
 rw [num4_toNat];simp only [b_toNat];have:=c.isLt;omega

def seal' (p:List UInt8):List UInt8:=p++le4 (on 0#32 p)
def cut (l:List UInt8):List UInt8:=l.take (l.length - 4)
def tail (l:List UInt8):List UInt8:=l.drop (l.length - 4)
theorem le4_length (c:BitVec 32):(le4 c).length=4:=rfl
theorem seal_length (p:List UInt8):(seal' p).length=p.length+4:=by unfold seal';rw [List.length_append,le4_length]
end Crc

theorem xor_u32 (x y:BitVec 32):bits .xor .u32 (x.toNat:Int) (y.toNat:Int)=((x ^^^ y).toNat:Int):=by
 rw [u32_xor_nat _ _ x.isLt y.isLt,BitVec.toNat_xor]
theorem not_u32 (x:BitVec 32):bits .xor .u32 IntKind.u32.max (x.toNat:Int)=((Crc.inv x).toNat:Int):=by
 have h:IntKind.u32.max=((-1#32).toNat:Int):=by decide
 rw [h,xor_u32];unfold Crc.inv;rw [BitVec.xor_comm,show (-1#32)=BitVec.allOnes 32 from by decide,BitVec.xor_allOnes]
theorem mod_u8 (x:UInt8):((x.toNat:Nat):Int) % 4294967296=(x.toNat:Int):=by have:=x.toNat_lt;omega
theorem mix_u32 (x:BitVec 32) (y:UInt8):bits .xor .u32 (x.toNat:Int) (y.toNat:Int)=((Crc.mix x y).toNat:Int):=by
 have h:(y.toNat:Int)=((y.toBitVec.setWidth 32).toNat:Int):=by have:=y.toNat_lt;simp
 rw [h,xor_u32];rfl
theorem turn_u32 (x:BitVec 32):bits .xor .u32 (x.toNat:Int) 3945912366=((Crc.turn x).toNat:Int):=xor_u32 x Crc.poly
theorem low_u32 (x:BitVec 32):bits .and .u32 (x.toNat:Int) 1=((Crc.low x).toNat:Int):=by
 have h:(1:Int)=((1#32).toNat:Int):=rfl;rw [h,u32_and_nat _ _ x.isLt (1#32).isLt, ←BitVec.toNat_and];rfl
theorem half_u32 (x:BitVec 32):(x.toNat:Int) / 2=((Crc.half x).toNat:Int):=by
 unfold Crc.half;simp [Nat.shiftRight_eq_div_pow]
theorem le4_cells (c:BitVec 32):[Value.int .u8 ((c.toNat:Int) % 256),.int .u8 ((c.toNat:Int) / 256 % 256),.int .u8 ((c.toNat:Int) / 65536 % 256),.int .u8 ((c.toNat:Int) / 16777216)]=(Crc.le4 c).map byteV:=by
 have:=c.isLt;simp only [Crc.le4,List.map_cons,List.map_nil,byteV,Crc.b_toNat,List.cons.injEq,Value.int.injEq,true_and,and_true]
 refine ⟨?_,?_,?_,?_⟩<;>omega
theorem num_u32 (a b c d:UInt8):bits .or .u32 (bits .or .u32 (bits .or .u32 (a.toNat:Int) ((b.toNat:Int) * 256 % 4294967296)) ((c.toNat:Int) * 65536 % 4294967296)) ((d.toNat:Int) * 16777216 % 4294967296)=((Crc.num4 a b c d).toNat:Int):=by
 have ha:=a.toNat_lt;have hb:=b.toNat_lt;have hc:=c.toNat_lt;have hd:=d.toNat_lt;have e1:(b.toNat:Int) * 256 % 4294967296=((b.toNat * 256:Nat):Int):=by omega
 have e2:(c.toNat:Int) * 65536 % 4294967296=((c.toNat * 65536:Nat):Int):=by omega
 have e3:(d.toNat:Int) * 16777216 % 4294967296=((d.toNat * 16777216:Nat):Int):=by omega
 have j1:a.toNat ||| b.toNat * 256=a.toNat+b.toNat * 256:=by rw [Nat.or_comm,nat_join 8 _ _ (by omega) (by omega)];omega
 have j2:(a.toNat+b.toNat * 256) ||| c.toNat * 65536=a.toNat+b.toNat * 256+c.toNat * 65536:=by rw [Nat.or_comm,nat_join 16 _ _ (by omega) (by omega)];omega
 have j3:(a.toNat+b.toNat * 256+c.toNat * 65536) ||| d.toNat * 16777216=a.toNat+b.toNat * 256+c.toNat * 65536+d.toNat * 16777216:=by rw [Nat.or_comm,nat_join 24 _ _ (by omega) (by omega)];omega
 rw [e1,e2,e3,u32_or_nat _ _ (by omega) (by omega),j1,u32_or_nat _ _ (by omega) (by omega),j2,u32_or_nat _ _ (by omega) (by omega),j3,Crc.num4_toNat];omega
theorem flip_u8 (x:UInt8):(255 - (x.toNat:Int)) % 256=((255 - x).toNat:Int):=by
 have h:=x.toNat_lt;have e:(255 - x).toNat=255 - x.toNat:=by
  rw [UInt8.toNat_sub_of_le]
  ·rfl
  ·rw [UInt8.le_iff_toNat_le];show x.toNat≤255;omega
 rw [e];omega
attribute [go_sem] num_u32 flip_u8
attribute [go_sem] not_u32 mod_u8 mix_u32 turn_u32 low_u32 half_u32

end
section
open Go Go.RowKit
namespace Crc

def one (b:Bool):BitVec 32:=if b then 1#32 else 0#32
def bit (s:BitVec 32) (b:Bool):BitVec 32:=step (s ^^^ one b)
end Crc
end
section
open Go Go.RowKit
namespace Crc

def bitAt (l:List UInt8) (i:Nat):Bool:=(l.getD (i / 8) 0).toNat.testBit (i % 8)
def flip (l:List UInt8) (i:Nat):List UInt8:=l.set (i / 8) (l.getD (i / 8) 0 ^^^ UInt8.ofNat (2 ^ (i % 8)))
theorem flip_length (l:List UInt8) (i:Nat):(flip l i).length=l.length:=by simp [flip]
theorem bit_flip (l:List UInt8) (i j:Nat) (hi:i<8 * l.length):bitAt (flip l i) j=(bitAt l j ^^ decide (j=i)):=by
 unfold bitAt flip
 by_cases h:j / 8=i / 8
 ·have hl:i / 8<l.length:=by omega
  rw [h];simp only [List.getD_eq_getElem?_getD,List.getElem?_set_self hl,Option.getD_some,UInt8.toNat_xor,Nat.testBit_xor]
  congr 1
  have:(UInt8.ofNat (2 ^ (i % 8))).toNat=2 ^ (i % 8):=by
   rw [UInt8.toNat_ofNat'];have:2 ^ (i % 8)<2 ^ 8:=Nat.pow_lt_pow_right (by omega) (by omega);exact Nat.mod_eq_of_lt this
  rw [this,Nat.testBit_two_pow];have:(i % 8=j % 8)↔j=i:=by omega
  simp [this]
 ·have hne:decide (j=i)=false:=by simp;intro h';exact h (by rw [h'])
  rw [hne];simp only [List.getD_eq_getElem?_getD,List.getElem?_set_ne (fun e=>h e.symm),Bool.xor_false]

structure Turned (l:List UInt8) (a:Nat) (burst k:Nat) (l':List UInt8):Prop where
 len:l'.length=l.length
 bit:∀ i,i<8 * l.length→bitAt l' i=(bitAt l i ^^ (decide (a≤i) && (decide (i<a+k) && burst.testBit (i - a))))
theorem Turned.zero (l:List UInt8) (a burst:Nat):Turned l a burst 0 l:=⟨rfl,fun i _=>by
 have:(decide (a≤i) && (decide (i<a+0) && burst.testBit (i - a)))=false:=by
  by_cases h:a≤i
  ·have:decide (i<a+0)=false:=by simp;omega
   rw [this];simp
  ·simp [h]
 rw [this];simp⟩
theorem Turned.yes {l l':List UInt8} {a burst k:Nat} (h:Turned l a burst k l') (hb:burst.testBit k=true) (hk:a+k<8 * l.length):Turned l a burst (k+1) (flip l' (a+k)):=by
 refine ⟨by rw [flip_length,h.len],fun i hi=>?_⟩;rw [bit_flip _ _ _ (by rw [h.len];exact hk),h.bit i hi,Bool.xor_assoc]
 congr 1
 by_cases h1:i=a+k
 ·subst h1;have e1:decide (a+k<a+k)=false:=by simp
  have e2:decide (a+k<a+(k+1))=true:=by simp
  have e3:a+k - a=k:=by omega
  rw [e1,e2,e3,hb];simp
 ·have e1:decide (i=a+k)=false:=by simp [h1]
  have e2:decide (i<a+(k+1))=decide (i<a+k):=by congr 1;apply propext;omega
  rw [e1,e2];simp
theorem Turned.no {l l':List UInt8} {a burst k:Nat} (h:Turned l a burst k l') (hb:burst.testBit k=false∨8 * l.length≤a+k):Turned l a burst (k+1) l':=by
 refine ⟨h.len,fun i hi=>?_⟩;rw [h.bit i hi]
 congr 1
 by_cases h1:i=a+k
 ·subst h1;have e1:decide (a+k<a+k)=false:=by simp
  have e3:a+k - a=k:=by omega
  rcases hb with hb | hb
  ·rw [e1,e3,hb];simp
  ·omega
 ·have e2:decide (i<a+(k+1))=decide (i<a+k):=by congr 1;apply propext;omega
  rw [e2]

end Crc
end
section
open Go Go.RowKit
namespace Frm
def head (p:List UInt8):List UInt8:=Crc.le4 (BitVec.ofNat 32 p.length)
def none' (p:List UInt8):Bool:=decide (p.length<1) || decide (131072<p.length)
def one (p:List UInt8):List UInt8:=if none' p then [] else head p++p++Crc.le4 (Crc.on 0#32 (head p++p))
def put (b p:List UInt8):List UInt8:=b++one p
def len (r:List UInt8):Nat:=(Crc.num r).toNat
def err (r:List UInt8):Nat :=
 if r.length<4 then 3 else if len r=0∨131072<len r then 4 else if r.length<len r+8 then 3
 else if Crc.on 0#32 (r.take (4+len r))=Crc.num (r.drop (4+len r)) then 0 else 6
def pay (r:List UInt8):List UInt8:=(r.drop 4).take (len r)
def errAt (b:List UInt8) (a:Int):Nat:=if a<0∨(b.length:Int)<a then 1 else err (b.drop a.toNat)
def payAt (b:List UInt8) (a:Int):List UInt8:=if errAt b a=0 then pay (b.drop a.toNat) else []
def toAt (b:List UInt8) (a:Int):Int:=if errAt b a=0 then a+8+len (b.drop a.toNat) else 0
theorem err_ok {r:List UInt8} (h:err r=0):0<len r∧len r≤131072∧len r+8≤r.length∧Crc.on 0#32 (r.take (4+len r))=Crc.num (r.drop (4+len r)):=by
 unfold err at h
 by_cases h1:r.length<4
 ·rw [if_pos h1] at h;cases h
 ·rw [if_neg h1] at h
  by_cases h2:len r=0∨131072<len r
  ·rw [if_pos h2] at h;cases h
  ·rw [if_neg h2] at h
   by_cases h3:r.length<len r+8
   ·rw [if_pos h3] at h;cases h
   ·rw [if_neg h3] at h
    by_cases h4:Crc.on 0#32 (r.take (4+len r))=Crc.num (r.drop (4+len r))
    ·exact ⟨by omega,by omega,by omega,h4⟩
    ·rw [if_neg h4] at h;cases h
theorem pay_length {r:List UInt8} (h:err r=0):(pay r).length=len r:=by
 obtain ⟨_,_,h3,_⟩:=err_ok h;unfold pay;rw [List.length_take,List.length_drop];omega

def scan:Nat→List UInt8→List (List UInt8)×Nat
 | 0,_=>([],0)
 | f+1,r=>if err r=0 then let s:=scan f (r.drop (len r+8));(pay r::s.1,len r+8+s.2) else ([],0)
def all (r:List UInt8):List (List UInt8)×Nat:=scan (r.length+1) r
theorem all_bad {r:List UInt8} (h:err r≠0):all r=([],0):=by unfold all;rw [scan,if_neg h]

theorem num_append {l m:List UInt8} (h:4≤l.length):Crc.num (l++m)=Crc.num l:=by
 match l,h with
 | a::b::c::d::l,_=>rfl
theorem num_take {l:List UInt8} {k:Nat} (h:4≤k) (h4:4≤l.length):Crc.num (l.take k)=Crc.num l:=by
 conv=>rhs;rw [←List.take_append_drop k l]
 rw [num_append (by rw [List.length_take];omega)]
end Frm
end
section
open Go Go.RowKit

theorem tBytesF:SlT Tryz.prog 26 5 1 1:=SlT.mk' (z:=.int .u8 0) Tryz.underlying26 (by kernel_rfl) (by kernel_rfl) (by decide) (by decide)

theorem sumOn (c : BitVec 32) (v : Value) (l : List UInt8) (w : World) (hb : Bytes w v l) :
   Calls Tryz.prog 144 #[.int .u32 (c.toNat : Int), v] w fun e w' => e = .returned (.int .u32 ((Crc.on c l).toNat : Int)) ∧ w = w' := by
 obtain ⟨p,cap,rfl,h1,h2,h3,h4⟩:=hb.form;unfold maxLen at h2;clear hb;go_enter Tryz.func144,Tryz.ntmps144
 go_wp2
 go_loop [5,13] (fun s i=>∃ k:Nat,k≤l.length∧i=.int .i64 k∧s=.int .u32 ((Crc.fold (Crc.inv c) (l.take k)).toNat:Int)) (fun _ i=>l.length - (intOf i).toNat)
 case atStart=>exact ⟨0,by omega,rfl,rfl⟩
 case round =>
  obtain ⟨k,hk,rfl,rfl⟩:=hrel
  by_cases hlt:k<l.length
  ·obtain ⟨b,off,rfl,hc⟩:=h4 (by omega);replace hc:=hc k hlt;clear h3 h4;have hsn:=Lib.hid (Crc.fold_snoc (Crc.inv c) l k hlt);go_wp2
   generalize Crc.fold (Crc.inv c) (List.take k l)=s0 at *;generalize l[k]=x at *
   go_loop [5,21] (fun s j=>∃ m:Nat,m≤8∧j=.int .i64 m∧s=.int .u32 ((Crc.steps m (Crc.mix s0 x)).toNat:Int)) (fun _ j=>8 - (intOf j).toNat)
   case atStart=>exact ⟨0,by omega,rfl,rfl⟩
   case round =>
    obtain ⟨m,hm,rfl,rfl⟩:=hrel
    by_cases hlm:m<8
    ·generalize hs:Crc.steps m (Crc.mix s0 x)=t;have Hs:=Lib.hid hs;clear hs
     by_cases hb:(((Crc.low t).toNat:Int) == 1)=true
     ·go_wp2
      go_round
      case rel=>exact ⟨m+1,by omega,by go_num,by simp [Crc.steps,Hs.out,Crc.step];simp at hb;rw [if_pos (by omega)]⟩
      case measure=>simp [intOf];omega
     ·have hb':(((Crc.low t).toNat:Int) == 1)=false:=by simpa using hb
      clear hb;go_wp2
      go_round
      case rel=>exact ⟨m+1,by omega,by go_num,by simp [Crc.steps,Hs.out,Crc.step];simp at hb';rw [if_neg (by omega)]⟩
      case measure=>simp [intOf];omega
    ·have:m=8:=by omega
     subst this;go_wp2
     go_round
     case rel=>exact ⟨k+1,by omega,by go_num,by rw [hsn.out];rfl⟩
     case measure=>simp [intOf];omega
  ·go_wp2
   go_ret
   exact ⟨by rw [List.take_of_length_le (by omega)];rfl,rfl⟩

def Parts (w:World) (v:Value) (ls:List (List UInt8)):Prop :=
 ∃ vs:List Value,Cells w 1 v ls.length vs∧vs.length=ls.length∧∀ (i:Nat) (v:Value) (l:List UInt8),vs[i]?=some v→ls[i]?=some l→Bytes w v l

theorem sumOf (v : Value) (ls : List (List UInt8)) (w : World) (hb : Parts w v ls) :
   Calls Tryz.prog 127 #[v] w fun e w' => e = .returned (.int .u32 ((Crc.parts 0#32 ls).toNat : Int)) ∧ w = w' := by
 obtain ⟨vs,hb,hl,hbs⟩:=hb;obtain ⟨p,cap,rfl,h1,h2,h3,h4⟩:=hb.form;unfold maxLen at h2;have Hl:=Lib.hid hl;clear hb hl;go_enter Tryz.func127,Tryz.ntmps127
 go_wp2
 go_loop [3,8] (fun s i=>∃ k:Nat,k≤ls.length∧i=.int .i64 k∧s=.int .u32 ((Crc.parts 0#32 (ls.take k)).toNat:Int)) (fun _ i=>ls.length - (intOf i).toNat)
 case atStart=>exact ⟨0,by omega,rfl,rfl⟩
 case round =>
  obtain ⟨k,hk,rfl,rfl⟩:=hrel
  by_cases hlt:k<ls.length
  ·obtain ⟨b,off,rfl,hc⟩:=h4 (by omega);have hkv:k<vs.length:=by rw [Hl.out];exact hlt
   replace hc:=hc k vs[k] (by simp);have hb:=hbs k vs[k] ls[k] (by simp) (by simp);clear h3 h4 hbs;have hsn:=Lib.hid (Crc.parts_snoc 0#32 ls k hlt);generalize Crc.parts 0#32 (ls.take k)=s0 at *;generalize vs[k]=x at *;go_wp2_with fail
   with_reducible refine (sumOn s0 x ls[k] _ hb).mono ?_
   rintro e w' ⟨rfl,rfl⟩;go_wp2
   go_round
   case rel=>exact ⟨k+1,by omega,by go_num,by rw [hsn.out]⟩
   case measure=>simp [intOf];omega
  ·go_wp2
   go_ret
   exact ⟨by rw [List.take_of_length_le (by omega)];rfl,rfl⟩

theorem parts_one {w:World} {v:Value} {l:List UInt8} (h:Bytes w v l) (B:Nat) (hB:B=w.heap.size) (e:TypeId) :
 Parts (w.alloc (.cells #[v] e)) (.slice (some ⟨B,0,none⟩) 1 1) [l]:=by
 subst hB;have hx:Below w.heap.size w (w.alloc (.cells #[v] e)):=(Below.refl _ _).alloc (Nat.le_refl _) _;have h1:=World.ownsRow_lit (base:=0) (e:=e) (size:=1) w #[v] 1 (by simp) (by unfold maxLen;omega) rfl;have hv:v.oneCell'=true:=by obtain ⟨p,cap,rfl,_⟩:=h.form;rfl
 refine ⟨[v],Own.cells ⟨h1,by simpa using hv⟩,rfl,fun i v' l' hv hl=>?_⟩
 match i,hv,hl with
 | 0,hv,hl =>
  simp at hv hl;subst hv;subst hl
  exact h.ext hx

def BytesAll (w:World):List Value→List (List UInt8)→Prop
 | [],[]=>True
 | v::vs,l::ls=>Bytes w v l∧BytesAll w vs ls
 | _,_=>False
theorem BytesAll.get {w:World}:∀ {vs:List Value} {ls:List (List UInt8)},BytesAll w vs ls→vs.length=ls.length∧∀ (i:Nat) (v:Value) (l:List UInt8),vs[i]?=some v→ls[i]?=some l→Bytes w v l
 | [],[],_=>⟨rfl,fun i v l h=>by simp at h⟩
 | v::vs,l::ls,h=>by
  obtain ⟨h1,h2⟩:=BytesAll.get h.2;refine ⟨by simp [h1],fun i v' l' hv hl=>?_⟩
  cases i with
  | zero=>simp at hv hl;subst hv;subst hl;exact h.1
  | succ i=>exact h2 i v' l' (by simpa using hv) (by simpa using hl)
 | [],_::_,h=>h.elim
 | _::_,[],h=>h.elim
theorem parts_lit {w:World} {vs:List Value} {ls:List (List UInt8)} (h:BytesAll w vs ls) (t:TypeId) {B n:Nat} (hB:B=w.heap.size) (hn:n=ls.length) (hm:n≤maxLen) :
 Parts (w.alloc (.cells vs.toArray t)) (.slice (some ⟨B,0,none⟩) n n) ls:=by
 subst hB;subst hn;obtain ⟨h1,h2⟩:=h.get;have hone:∀ u ∈ vs,u.oneCell'=true:=by
  intro u hu;obtain ⟨i,hi,rfl⟩:=List.getElem_of_mem hu;obtain ⟨p,cap,hq⟩:=(h2 i vs[i] (ls[i]'(by omega)) (by simp) (by simp)).shape;rw [hq];rfl
 have ho:=Own.lit w vs.toArray t (sz:=1) ls.length w.heap.size (by simp;omega) (by simpa using hone) hm (Nat.le_refl _);refine ⟨vs,Own.cells (by simpa using ho),h1,fun i v l hv hl=>(h2 i v l hv hl).ext (below_alloc _ _)⟩
theorem Parts.drew {w:World} {v:Value} {ls:List (List UInt8)} (h:Parts w v ls):Parts w.drew v ls:=h
theorem sumOfL (vs : List Value) (ls : List (List UInt8)) (w : World) (h : BytesAll w vs ls) (B n : Nat) (hB : B = w.heap.size) (hn : n = ls.length) (hm : n ≤ maxLen) (t : TypeId) :
   Calls Tryz.prog 127 #[.slice (some ⟨B, 0, none⟩) n n] (w.alloc (.cells vs.toArray t)) fun e w' => e = .returned (.int .u32 ((Crc.on 0#32 ls.flatten).toNat : Int)) ∧ Below w.heap.size w w' :=
 (sumOf _ ls _ (parts_lit h t hB hn hm)).mono fun e w' ⟨h1,h2⟩=>⟨by rw [h1,Crc.parts_flat],h2 ▸ below_alloc w _⟩
end
section
open Go Go.RowKit

theorem frameFour (c:BitVec 32) (C:Int) (hC:C=(c.toNat:Int)) (w:World):Calls Tryz.prog 145 #[.int .u32 C] w fun e w'=>∃ r,e=.returned r∧OwnB w' w.heap.size 5 r (Crc.le4 c)∧Below w.heap.size w w':=by
 subst hC;go_enter Tryz.func145,Tryz.ntmps145
 go_wp2
 go_ret
 refine ⟨_,rfl,?_,below_alloc _ _⟩;have h:=Own.lit w #[.int .u8 ((c.toNat:Int) % 256),.int .u8 ((c.toNat:Int) / 256 % 256),.int .u8 ((c.toNat:Int) / 65536 % 256),.int .u8 ((c.toNat:Int) / 16777216)] 5 (sz:=1) 4 w.heap.size rfl (by simp [Value.oneCell']) (by unfold maxLen;omega) (Nat.le_refl _);exact OwnB.of h (by rfl) (le4_cells c)

theorem four_split (l:List UInt8) (h:4≤l.length):∃ x0 x1 x2 x3 r,l=x0::x1::x2::x3::r:=by
 match l,h with
 | a::b::c::d::r,_=>exact ⟨a,b,c,d,r,rfl⟩
theorem Bytes.four' {w:World} {v:Value} {x0 x1 x2 x3:UInt8} {r:List UInt8} (h:Bytes w v (x0::x1::x2::x3::r)):∃ b off cap,v=.slice (some ⟨b,off,none⟩) (r.length+4) cap∧r.length+4≤cap∧cap≤maxLen ∧
 w.cell? ⟨b,off,none⟩=some (.int .u8 (x0.toNat:Int))∧w.cell? ⟨b,off+1,none⟩=some (.int .u8 (x1.toNat:Int))∧w.cell? ⟨b,off+2,none⟩=some (.int .u8 (x2.toNat:Int))∧w.cell? ⟨b,off+3,none⟩=some (.int .u8 (x3.toNat:Int)):=by
 obtain ⟨p,cap,rfl,h1,h2,h3,h4⟩:=h.form;simp at h1
 obtain ⟨b,off,rfl,hc⟩:=h4 (by simp);exact ⟨b,off,cap,rfl,h1,h2,hc 0 (by simp),hc 1 (by simp),hc 2 (by simp),hc 3 (by simp)⟩

theorem frameNumber (v:Value) (l:List UInt8) (w:World) (hv:Bytes w v l) (hl:4≤l.length):Calls Tryz.prog 126 #[v] w fun e w'=>e=.returned (.int .u32 ((Crc.num l).toNat:Int))∧∃ n,w'=w.drewN n:=by
 obtain ⟨x0,x1,x2,x3,r,rfl⟩:=four_split l hl;obtain ⟨b,off,cap,rfl,h1,h2,c0,c1,c2,c3⟩:=hv.four';have e:Crc.num (x0::x1::x2::x3::r)=Crc.num4 x0 x1 x2 x3:=rfl;rw [e];clear hl e hv;unfold maxLen at h2;have i0:(0:Int)<(r.length:Int)+4:=by omega
 have i1:(1:Int)<(r.length:Int)+4:=by omega
 have i2:(2:Int)<(r.length:Int)+4:=by omega
 have i3:(3:Int)<(r.length:Int)+4:=by omega
 go_enter Tryz.func126,Tryz.ntmps126
 go_wp2
 go_quiet (fail)
 go_wp2
 go_ret
 exact ⟨rfl,_,rfl⟩

theorem ofNat_u32 (n:Nat) (h:n<4294967296):(n:Int)=((BitVec.ofNat 32 n).toNat:Int):=by
 rw [BitVec.toNat_ofNat,Nat.mod_eq_of_lt h]

theorem framePut (v u:Value) (b p:List UInt8) (w:World) (hv:Bytes w v b) (hu:Bytes w u p) (hb:b.length≤70368744177664) (hp:p.length≤70368744177664) :
 Calls Tryz.prog 134 #[v,u] w fun e w'=>∃ r,e=.returned r∧OwnB w' w.heap.size 5 r (Frm.put b p)∧Below w.heap.size w w':=by
 obtain ⟨p0,c0,rfl⟩:=hv.shape;obtain ⟨q0,d0,rfl⟩:=hu.shape
 by_cases hn:Frm.none' p=true
 ·have hn':p.length<1∨131072<p.length:=by unfold Frm.none' at hn;simpa using hn
  go_enter Tryz.func134,Tryz.ntmps134
  have hfin:Frm.put b p=b:=by unfold Frm.put Frm.one;rw [hn];simp
  rw [hfin];clear hn hfin
  rcases hn' with hn | hn
  all_goals
   go_wp2_with (first
    | (at_make;refine wpList_mk tBytesF rfl rfl w.heap.size (b.length+8+p.length) rfl rfl (by simp) (by omega) (by unfold maxLen;omega) (Nat.le_refl _) ?_;intro v2 w2 own2 g2 b2)
    | (at_builtin;refine wpList_app tBytesF rfl rfl own2 rfl (Cells.ext hv b2) rfl (by omega) b2.size ?_;intro v3 w3 own3 g3 b3;clear own2))
   go_ret
   exact ⟨_,rfl,OwnB.of own3 (by simp) (by simp),b2.trans b3⟩
 ·have hn':1≤p.length∧p.length≤131072:=by
   have h:¬ (p.length<1∨131072<p.length):=fun h=>hn (by unfold Frm.none';simpa using h);omega
  obtain ⟨hp1,hp2⟩:=hn';have hfin:Frm.put b p=b++(Frm.head p++p++Crc.le4 (Crc.on 0#32 (Frm.head p++p))):=by unfold Frm.put Frm.one;rw [if_neg hn]
  rw [hfin];clear hn hfin;have hmod:(p.length:Int) % 4294967296=(p.length:Int):=by omega
  go_enter Tryz.func134,Tryz.ntmps134
  go_wp2_with (first
   | (at_make;refine wpList_mk tBytesF rfl rfl w.heap.size (b.length+8+p.length) rfl rfl (by simp) (by omega) (by unfold maxLen;omega) (Nat.le_refl _) ?_;intro v2 w2 own2 g2 b2)
   | (at_builtin;refine wpList_app tBytesF rfl rfl own2 rfl (Cells.ext hv b2) rfl (by omega) b2.size ?_;intro v3 w3 own3 g3 b3;clear own2;replace own3:=OwnB.of (l:=b) own3 (by simp) (by simp);replace b3:=b2.trans b3;clear b2 g2 g3)
   | fail)
  have lt3:=own3.lt
  with_reducible refine (frameFour (BitVec.ofNat 32 p.length) _ (ofNat_u32 _ (by omega)) _).mono ?_
  rintro e w4 ⟨h,rfl,ownh,b4⟩;replace own3:=own3.ext b4;have b04:=b3.trans (b4.mono b3.size);have hsz:=b04.size;have hle4:(Crc.le4 (BitVec.ofNat 32 p.length)).length=4:=rfl;have hhead:Crc.le4 (BitVec.ofNat 32 p.length)=Frm.head p:=rfl;rw [hhead] at ownh hle4;generalize hhd:Frm.head p=hd at *;have Hhd:=Lib.hid hhd;clear hhead hhd;obtain ⟨gh,ch,rfl,hgh1,hgh2,_,_⟩:=ownh.head (by omega);rw [hle4] at ownh ⊢;have hcell:Cells w4 1 (.slice (some ⟨gh,0,none⟩) 4 ch) 4 (hd.map byteV):=by have:=Own.cells ownh;rw [hle4] at this;exact this
  have Hle:=Lib.hid hle4;clear hle4;go_wp2_with (first
   | (at_builtin;refine wpList_appW tBytesF rfl rfl own3 rfl hcell rfl (by omega) hsz ?_;intro v5 w5 own5 g5 b5 at5)
   | (at_builtin;refine wpList_appW tBytesF rfl rfl own5 rfl (Cells.ext hu (b04.trans b5)) rfl (by omega) (by have:=b5.size;omega) ?_;intro v6 w6 own6 g6 b6 at6)
   | fail)
  have n3:∀ k,v3.ownBlock=some k→k≠gh:=fun k hk=>by have:=lt3 k hk;omega
  have n5:∀ k,v5.ownBlock=some k→k≠gh:=fun k hk=>by
   rcases at5 with h | h
   ·exact n3 k (h ▸ hk)
   ·rw [h] at hk;cases hk;omega
  have n6:∀ k,v6.ownBlock=some k→k≠gh:=fun k hk=>by
   rcases at6 with h | h
   ·exact n5 k (h ▸ hk)
   ·rw [h] at hk;cases hk;have:=b5.size;omega
  have ownh5:=ownh.aside g5 n3;have ownh6:=ownh5.aside g6 n5;have b06:=b04.trans (b5.trans b6);have lt6:=Own.lt own6
  with_reducible refine (sumOfL [_,_] [hd,p] _ ?_ _ 2 rfl ?_ ?_ _).mono ?_
  ·have:=ownh6.bytes;exact ⟨this,hu.ext b06,trivial⟩
  ·rfl
  ·unfold maxLen;decide
  rintro e w7 ⟨rfl,b7⟩;have own7:=Own.ext own6 b7;have b07:=b06.trans (b7.mono b06.size);go_wp2_with fail
  with_reducible refine (frameFour _ _ rfl _).mono ?_
  rintro e w8 ⟨h8,rfl,ownh8,b8⟩;have own8:=Own.ext own7 b8;have b08:=b07.trans (b8.mono b07.size);obtain ⟨p8,c8,rfl⟩:=ownh8.bytes.shapeN (Crc.le4_length _);have hcell8:=Own.cells ownh8;rw [Crc.le4_length] at hcell8;have hsz8:=b08.size;go_wp2_with (first
   | (at_builtin;refine wpList_app tBytesF rfl rfl own8 rfl hcell8 rfl (by omega) hsz8 ?_;intro v9 w9 own9 g9 b9)
   | fail)
  go_ret
  refine ⟨_,rfl,OwnB.of own9 ?_ ?_,b08.trans b9⟩
  ·rw [Hhd.out];simp [Hle.out,Crc.le4];omega
  ·rw [Hhd.out];simp [List.map_append]

theorem frameNext1 (v:Value) (b:List UInt8) (at':Int) (w:World) (hv:Bytes w v b) (hb:b.length≤70368744177664) (h:at'<0∨(b.length:Int)<at') :
 Calls Tryz.prog 98 #[v,.int .i64 at'] w fun e w'=>∃ r,e=.returned (.tuple #[r,.int .i64 (Frm.toAt b at'),.int .i64 (Frm.errAt b at':Nat)])∧OwnB w' w.heap.size 5 r (Frm.payAt b at')∧Below w.heap.size w w':=by
 obtain ⟨p0,c0,rfl⟩:=hv.shape;have e1:Frm.errAt b at'=1:=by unfold Frm.errAt;rw [if_pos h]
 have e2:Frm.toAt b at'=0:=by unfold Frm.toAt;rw [e1];rfl
 have e3:Frm.payAt b at'=[]:=by unfold Frm.payAt;rw [e1];rfl
 rw [e1,e2,e3];clear e1 e2 e3
 rcases h with h | h
 ·go_enter Tryz.func98,Tryz.ntmps98
  go_wp2
  go_ret3
  exact ⟨_,rfl,OwnB.nil _ _ _,Below.refl _ _⟩
 ·have h0:¬ at'<0:=by omega
  go_enter Tryz.func98,Tryz.ntmps98
  go_wp2
  go_ret3
  exact ⟨_,rfl,OwnB.nil _ _ _,Below.refl _ _⟩

end
section
open Go Go.RowKit

theorem err_short {r:List UInt8} (h:r.length<4):Frm.err r=3:=by unfold Frm.err;rw [if_pos h]
theorem err_form {r:List UInt8} (h:¬ r.length<4) (h2:Frm.len r=0∨131072<Frm.len r):Frm.err r=4:=by unfold Frm.err;rw [if_neg h,if_pos h2]
theorem err_short2 {r:List UInt8} (h:¬ r.length<4) (h2:¬ (Frm.len r=0∨131072<Frm.len r)) (h3:r.length<Frm.len r+8):Frm.err r=3:=by unfold Frm.err;rw [if_neg h,if_neg h2,if_pos h3]
theorem err_last {r:List UInt8} (h:¬ r.length<4) (h2:¬ (Frm.len r=0∨131072<Frm.len r)) (h3:¬ r.length<Frm.len r+8) :
 Frm.err r=if Crc.on 0#32 (r.take (4+Frm.len r))=Crc.num (r.drop (4+Frm.len r)) then 0 else 6:=by unfold Frm.err;rw [if_neg h,if_neg h2,if_neg h3]

theorem next_bad {b:List UInt8} {a k:Nat} (ha:a≤b.length) (hk:k≠0) (h:Frm.err (b.drop a)=k):Frm.errAt b a=k∧Frm.toAt b a=0∧Frm.payAt b a=[]:=by
 have e1:Frm.errAt b a=k:=by unfold Frm.errAt;rw [if_neg (by omega)];simpa using h
 exact ⟨e1,by unfold Frm.toAt;rw [e1,if_neg hk],by unfold Frm.payAt;rw [e1,if_neg hk]⟩
theorem next_ok {b:List UInt8} {a:Nat} (ha:a≤b.length) (h:Frm.err (b.drop a)=0):Frm.errAt b a=0∧Frm.toAt b a=(a:Int)+8+Frm.len (b.drop a)∧Frm.payAt b a=Frm.pay (b.drop a):=by
 have e1:Frm.errAt b a=0:=by unfold Frm.errAt;rw [if_neg (by omega)];simpa using h
 exact ⟨e1,by unfold Frm.toAt;rw [e1,if_pos rfl];simp,by unfold Frm.payAt;rw [e1,if_pos rfl];simp⟩

theorem ret3i {r r':Value} {x x' y y':Int} (h:r=r') (hx:x=x') (hy:y=y'):Ending.returned (.tuple #[r,.int .i64 x,.int .i64 y])=.returned (.tuple #[r',.int .i64 x',.int .i64 y']):=by rw [h,hx,hy]
theorem sumOf1d (v : Value) (l : List UInt8) (w : World) (hb : Bytes w v l) (B : Nat) (hB : B = w.heap.size) (t : TypeId) :
   Calls Tryz.prog 127 #[.slice (some ⟨B, 0, none⟩) 1 1] (w.alloc (.cells #[v] t)).drew fun e w' => e = .returned (.int .u32 ((Crc.on 0#32 l).toNat : Int)) ∧ Below w.heap.size w w' :=
 (sumOf _ [l] _ (parts_one hb B hB t).drew).mono fun e w' ⟨h1,h2⟩=>⟨h1,h2 ▸ (below_alloc w _).trans (below_drew _ _)⟩

theorem frameNext2 (v:Value) (b:List UInt8) (a:Nat) (w:World) (hv:Bytes w v b) (hb:b.length≤70368744177664) (ha:a≤b.length) :
 Calls Tryz.prog 98 #[v,.int .i64 (a:Int)] w fun e w'=>∃ r,e=.returned (.tuple #[r,.int .i64 (Frm.toAt b a),.int .i64 (Frm.errAt b a:Nat)])∧OwnB w' w.heap.size 5 r (Frm.payAt b a)∧Below w.heap.size w w':=by
 have hsl:=run_sub_from tBytesF (P:=Tryz.prog) hv .i64 (a:Int) a rfl ha;have hr:=hv.sub a b.length ha (Nat.le_refl _);have e0:(b.drop a).take (b.length - a)=b.drop a:=List.take_of_length_le (by simp);rw [e0] at hr;obtain ⟨pr,cr,hpr⟩:=hr.shape;rw [hpr] at hsl hr;have hgd:¬ (b.length:Int)<(a:Int):=by omega
 have hgd0:¬ (a:Int)<0:=by omega
 have hrl:(b.drop a).length≤b.length:=by simp
 obtain ⟨p0,c0,rfl⟩:=hv.shape;clear hpr e0
 by_cases h4:(b.drop a).length<4
 ·obtain ⟨e1,e2,e3⟩:=next_bad ha (by decide) (err_short h4);rw [e1,e2,e3];clear e1 e2 e3;generalize b.drop a=r at *;go_enter Tryz.func98,Tryz.ntmps98
  go_wp2
  go_ret3
  exact ⟨_,rfl,OwnB.nil _ _ _,Below.refl _ _⟩
 ·by_cases h2:Frm.len (b.drop a)=0∨131072<Frm.len (b.drop a)
  ·obtain ⟨e1,e2,e3⟩:=next_bad ha (by decide) (err_form h4 h2);rw [e1,e2,e3];clear e1 e2 e3;generalize b.drop a=r at *;have hlen:(Frm.len r:Int)=((Crc.num r).toNat:Int):=rfl;have h2':(((Crc.num r).toNat:Int) == 0)=true∨((((Crc.num r).toNat:Int) == 0)=false∧131072<((Crc.num r).toNat:Int)):=by
    unfold Frm.len at h2
    by_cases hz:(Crc.num r).toNat=0
    ·left;simp [hz]
    ·right;constructor
     ·simp;omega
     ·omega
   clear hlen h2
   rcases h2' with h2 | ⟨h2,h3⟩
   all_goals
    go_enter Tryz.func98,Tryz.ntmps98
    go_wp2_with fail
    with_reducible refine (frameNumber _ r _ hr (by omega)).mono ?_
    rintro e w1 ⟨rfl,n,rfl⟩;go_wp2
    go_ret3
    exact ⟨_,rfl,OwnB.nil _ _ _,below_drawn _ _ _⟩
  ·have h2a:1≤Frm.len (b.drop a)∧Frm.len (b.drop a)≤131072:=by omega
   by_cases h3:(b.drop a).length<Frm.len (b.drop a)+8
   ·obtain ⟨e1,e2,e3⟩:=next_bad ha (by decide) (err_short2 h4 h2 h3);rw [e1,e2,e3];clear e1 e2 e3 h2;generalize b.drop a=r at *;have hz:(((Crc.num r).toNat:Int) == 0)=false:=by unfold Frm.len at h2a;simp;omega
    have hg:¬ 131072<((Crc.num r).toNat:Int):=by unfold Frm.len at h2a;omega
    have hs:(r.length:Int)<4+((Crc.num r).toNat:Int)+4:=by unfold Frm.len at h3;omega
    unfold Frm.len at h2a;go_enter Tryz.func98,Tryz.ntmps98
    go_wp2_with fail
    with_reducible refine (frameNumber _ r _ hr (by omega)).mono ?_
    rintro e w1 ⟨rfl,n,rfl⟩;go_wp2
    go_ret3
    exact ⟨_,rfl,OwnB.nil _ _ _,below_drawn _ _ _⟩
   ·have hlast:=err_last h4 h2 h3;have hbad:=fun (h:Frm.err (b.drop a)=6)=>next_bad ha (by decide) h;have hok:=fun (h:Frm.err (b.drop a)=0)=>next_ok ha h;generalize hrr:b.drop a=r at *;have hz:(((Crc.num r).toNat:Int) == 0)=false:=by unfold Frm.len at h2a;simp;omega
    have hg:¬ 131072<((Crc.num r).toNat:Int):=by unfold Frm.len at h2a;omega
    have hs:¬ (r.length:Int)<4+((Crc.num r).toNat:Int)+4:=by unfold Frm.len at h3;omega
    have t1:=run_sub_to tBytesF (P:=Tryz.prog) hr .i64 (4+((Crc.num r).toNat:Int)) (4+Frm.len r) (by unfold Frm.len;omega) (by omega);have t2:=run_sub_from tBytesF (P:=Tryz.prog) hr .i64 (4+((Crc.num r).toNat:Int)) (4+Frm.len r) (by unfold Frm.len;omega) (by omega);have t3:=run_sub tBytesF (P:=Tryz.prog) hr .i64 .i64 4 (4+((Crc.num r).toNat:Int)) 4 (4+Frm.len r) rfl (by unfold Frm.len;omega) (by omega) (by omega);have g1:=hr.sub 0 (4+Frm.len r) (by omega) (by omega);have g2:=hr.sub (4+Frm.len r) r.length (by omega) (by omega);have g3:=hr.sub 4 (4+Frm.len r) (by omega) (by omega)
    have e1:(r.drop 0).take (4+Frm.len r - 0)=r.take (4+Frm.len r):=by simp
    have e2:(r.drop (4+Frm.len r)).take (r.length - (4+Frm.len r))=r.drop (4+Frm.len r):=List.take_of_length_le (by simp);have e3:(r.drop 4).take (4+Frm.len r - 4)=Frm.pay r:=by unfold Frm.pay;congr 1;omega
    rw [e1] at g1;rw [e2] at g2;rw [e3] at g3;generalize subV _ 0 (4+Frm.len r) 1=v1 at *;generalize subV _ (4+Frm.len r) r.length 1=v2 at *;generalize subV _ 4 (4+Frm.len r) 1=v3 at *;obtain ⟨a1,c1,rfl⟩:=g1.shape;obtain ⟨a2,c2,rfl⟩:=g2.shape;obtain ⟨a3,c3,rfl⟩:=g3.shape;have hl2:4≤(r.drop (4+Frm.len r)).length:=by rw [List.length_drop];omega
    have hpl:(Frm.pay r).length≤b.length:=by unfold Frm.pay;rw [List.length_take,List.length_drop];omega
    have Hlast:=Lib.hid hlast;have Hrr:=Lib.hid hrr;have hsum:(4:Int)+((Crc.num r).toNat:Int)=4+((Crc.num r).toNat:Int):=rfl;unfold Frm.len at h2a;clear e1 e2 e3 hlast hrr hsum h2 h3;generalize hxx:Crc.on 0#32 (r.take (4+Frm.len r))=x at *;generalize hyy:Crc.num (r.drop (4+Frm.len r))=y at *;have Hxx:=Lib.hid hxx;have Hyy:=Lib.hid hyy;clear hxx hyy;generalize r.take (4+Frm.len r)=r1 at *;generalize r.drop (4+Frm.len r)=r2 at *;generalize hpp:Frm.pay r=rp at *;have Hpp:=Lib.hid hpp;clear hpp;have Hbad:=Lib.hid hbad;have Hok:=Lib.hid hok;clear hbad hok hv;go_enter Tryz.func98,Tryz.ntmps98
    go_wp2_with fail
    with_reducible refine (frameNumber _ r _ hr (by omega)).mono ?_
    rintro e w1 ⟨rfl,n,hw1⟩;have b1:Below w.heap.size w w1:=by subst hw1;exact below_drawn _ _ _
    have g1':=g1.ext b1;have g2':=g2.ext b1;have g3':=g3.ext b1;clear hw1 g1 g2 g3 hr;go_wp2
    go_region_held3 (fun _=>True) (exact trivial) ((first
     | (go_at_call 127;(with_reducible refine (sumOf1d _ r1 _ g1' _ rfl _).mono ?_);(rintro e w2 ⟨rfl,b2⟩;rw [Hxx.out]))
     | (go_at_call 126;(with_reducible refine (frameNumber _ r2 _ (g2'.ext b2) hl2).mono ?_);(rintro e w3 ⟨rfl,n3,hw3⟩;(replace hw3:Below w2.heap.size w2 w3:=by rw [hw3];exact below_drawn _ _ _);rw [Hyy.out]))))
    have b3:Below w1.heap.size w1 w3:=b2.trans (hw3.mono b2.size);have g3'':=g3'.ext b3;have b03:=b1.trans (b3.mono b1.size);have hs03:=b03.size;clear hw3 b2 b3 t1 t2 g1' g2' g3';go_wp2_with (first
     | (at_builtin;refine wpList_app tBytesF rfl rfl (Own.nil _ w.heap.size _ _) rfl g3'' rfl (by omega) hs03 ?_;intro v4 w4 own4 g4 b4)
     | fail)
    ·go_ret3
     have hne:((x.toNat:Int) !=(y.toNat:Int))=true:=by assumption
     have he:Frm.err r=6:=by rw [Hlast.out,if_neg (fun h=>by rw [h] at hne;simp at hne)]
     obtain ⟨e1,e2,e3⟩:=Hbad.out he;rw [e1,e2,e3];exact ⟨_,rfl,OwnB.nil _ _ _,b03⟩
    ·go_ret3
     have hne:((x.toNat:Int) !=(y.toNat:Int))=false:=by assumption
     have he:Frm.err r=0:=by rw [Hlast.out,if_pos (BitVec.eq_of_toNat_eq (by simp at hne;omega))]
     obtain ⟨e1,e2,e3⟩:=Hok.out he;rw [e1,e2,e3];exact ⟨_,ret3i rfl (by unfold Frm.len;omega) rfl,OwnB.of own4 (by simp) (by simp),b03.trans b4⟩

theorem frameNext (v:Value) (b:List UInt8) (at':Int) (w:World) (hv:Bytes w v b) (hb:b.length≤70368744177664) :
 Calls Tryz.prog 98 #[v,.int .i64 at'] w fun e w'=>∃ r,e=.returned (.tuple #[r,.int .i64 (Frm.toAt b at'),.int .i64 (Frm.errAt b at':Nat)])∧OwnB w' w.heap.size 5 r (Frm.payAt b at')∧Below w.heap.size w w':=by
 by_cases h:at'<0∨(b.length:Int)<at'
 ·exact frameNext1 v b at' w hv hb h
 ·obtain ⟨a,rfl⟩:=Int.eq_ofNat_of_zero_le (show 0≤at' by omega);exact frameNext2 v b a w hv hb (by omega)

end
section
open Go Go.RowKit

theorem refOn (c : BitVec 32) (v : Value) (l : List UInt8) (w : World) (hb : Bytes w v l) :
   Calls Tryz.prog 121 #[.int .u32 (c.toNat : Int), v] w fun e w' => e = .returned (.int .u32 ((Crc.on c l).toNat : Int)) ∧ w = w' := by
 obtain ⟨p,cap,rfl,h1,h2,h3,h4⟩:=hb.form;unfold maxLen at h2;clear hb;go_enter Tryz.func121,Tryz.ntmps121
 go_wp2
 go_loop [5,6] (fun s i=>∃ k:Nat,k≤l.length∧i=.int .i64 k∧s=.int .u32 ((Crc.fold (Crc.inv c) (l.take k)).toNat:Int)) (fun _ i=>l.length - (intOf i).toNat)
 case atStart=>exact ⟨0,by omega,rfl,rfl⟩
 case round =>
  obtain ⟨k,hk,rfl,rfl⟩:=hrel
  by_cases hlt:k<l.length
  ·obtain ⟨b,off,rfl,hc⟩:=h4 (by omega);replace hc:=hc k hlt;clear h3 h4;have hsn:=Lib.hid (Crc.fold_snoc (Crc.inv c) l k hlt);go_wp2
   generalize Crc.fold (Crc.inv c) (List.take k l)=s0 at *;generalize l[k]=x at *
   go_loop [5,7] (fun s j=>∃ m:Nat,m≤8∧j=.int .i64 m∧s=.int .u32 ((Crc.steps m (Crc.mix s0 x)).toNat:Int)) (fun _ j=>8 - (intOf j).toNat)
   case atStart=>exact ⟨0,by omega,rfl,rfl⟩
   case round =>
    obtain ⟨m,hm,rfl,rfl⟩:=hrel
    by_cases hlm:m<8
    ·generalize hs:Crc.steps m (Crc.mix s0 x)=t;have Hs:=Lib.hid hs;clear hs
     by_cases hb:(((Crc.low t).toNat:Int) == 1)=true
     ·go_wp2
      go_round
      case rel=>exact ⟨m+1,by omega,by go_num,by simp [Crc.steps,Hs.out,Crc.step];simp at hb;rw [if_pos (by omega)]⟩
      case measure=>simp [intOf];omega
     ·have hb':(((Crc.low t).toNat:Int) == 1)=false:=by simpa using hb
      clear hb;go_wp2
      go_round
      case rel=>exact ⟨m+1,by omega,by go_num,by simp [Crc.steps,Hs.out,Crc.step];simp at hb';rw [if_neg (by omega)]⟩
      case measure=>simp [intOf];omega
    ·have:m=8:=by omega
     subst this;go_wp2
     go_round
     case rel=>exact ⟨k+1,by omega,by go_num,by rw [hsn.out];rfl⟩
     case measure=>simp [intOf];omega
  ·go_wp2
   go_ret
   exact ⟨by rw [List.take_of_length_le (by omega)];rfl,rfl⟩

theorem refOn0 (v : Value) (l : List UInt8) (w : World) (hb : Bytes w v l) :
   Calls Tryz.prog 121 #[.int .u32 0, v] w fun e w' => e = .returned (.int .u32 ((Crc.on 0#32 l).toNat : Int)) ∧ w = w' := refOn 0#32 v l w hb

end
section
open Go Go.RowKit

theorem refFour (c:BitVec 32) (C:Int) (hC:C=(c.toNat:Int)) (w:World):Calls Tryz.prog 122 #[.int .u32 C] w fun e w'=>∃ r,e=.returned r∧OwnB w' w.heap.size 5 r (Crc.le4 c)∧Below w.heap.size w w':=by
 subst hC;go_enter Tryz.func122,Tryz.ntmps122
 go_wp2
 go_ret
 refine ⟨_,rfl,?_,below_alloc _ _⟩;have h:=Own.lit w #[.int .u8 ((c.toNat:Int) % 256),.int .u8 ((c.toNat:Int) / 256 % 256),.int .u8 ((c.toNat:Int) / 65536 % 256),.int .u8 ((c.toNat:Int) / 16777216)] 5 (sz:=1) 4 w.heap.size rfl (by simp [Value.oneCell']) (by unfold maxLen;omega) (Nat.le_refl _);exact OwnB.of h (by rfl) (le4_cells c)

theorem refNumber (v:Value) (l:List UInt8) (w:World) (hv:Bytes w v l) (hl:4≤l.length):Calls Tryz.prog 120 #[v] w fun e w'=>e=.returned (.int .u32 ((Crc.num l).toNat:Int))∧∃ n,w'=w.drewN n:=by
 obtain ⟨x0,x1,x2,x3,r,rfl⟩:=four_split l hl;obtain ⟨b,off,cap,rfl,h1,h2,c0,c1,c2,c3⟩:=hv.four';have e:Crc.num (x0::x1::x2::x3::r)=Crc.num4 x0 x1 x2 x3:=rfl;rw [e];clear hl e hv;unfold maxLen at h2;have i0:(0:Int)<(r.length:Int)+4:=by omega
 have i1:(1:Int)<(r.length:Int)+4:=by omega
 have i2:(2:Int)<(r.length:Int)+4:=by omega
 have i3:(3:Int)<(r.length:Int)+4:=by omega
 go_enter Tryz.func120,Tryz.ntmps120
 go_wp2
 go_quiet (fail)
 go_wp2
 go_ret
 exact ⟨rfl,_,rfl⟩


theorem refFrame (v u:Value) (b p:List UInt8) (w:World) (hv:Bytes w v b) (hu:Bytes w u p) (hb:b.length≤70368744177664) (hp:p.length≤70368744177664) :
 Calls Tryz.prog 91 #[v,u] w fun e w'=>∃ r,e=.returned r∧OwnB w' w.heap.size 5 r (Frm.put b p)∧Below w.heap.size w w':=by
 obtain ⟨p0,c0,rfl⟩:=hv.shape;obtain ⟨q0,d0,rfl⟩:=hu.shape
 by_cases hn:Frm.none' p=true
 ·have hn':((p.length:Int) == 0)=true∨(((p.length:Int) == 0)=false∧131072<p.length):=by
   unfold Frm.none' at hn
   by_cases hz:p.length=0
   ·left;simp [hz]
   ·right;refine ⟨by simp;intro h;simp [h] at hz,?_⟩
    have:p.length<1∨131072<p.length:=by simpa using hn
    omega
  have hfin:Frm.put b p=b:=by unfold Frm.put Frm.one;rw [hn];simp
  rw [hfin];clear hn hfin
  rcases hn' with hn | ⟨hn,hn2⟩
  all_goals
   go_enter Tryz.func91,Tryz.ntmps91
   go_wp2_with (first
    | (at_builtin;refine wpList_app tBytesF rfl rfl (Own.lit w #[] _ 0 w.heap.size rfl (by simp) (Nat.zero_le _) (Nat.le_refl _)) rfl (Cells.ext hv (below_alloc w _)) rfl (by omega) (by simp) ?_;intro v3 w3 own3 g3 b3)
    | fail)
   go_ret
   exact ⟨_,rfl,OwnB.of own3 (by simp) (by simp),(below_alloc w _).trans b3⟩
 ·have hn':1≤p.length∧p.length≤131072:=by
   have h:¬ (p.length<1∨131072<p.length):=fun h=>hn (by unfold Frm.none';simpa using h);omega
  obtain ⟨hp1,hp2⟩:=hn';have hfin:Frm.put b p=b++(Frm.head p++p++Crc.le4 (Crc.on 0#32 (Frm.head p++p))):=by unfold Frm.put Frm.one;rw [if_neg hn]
  rw [hfin];have hz:((p.length:Int) == 0)=false:=by simp;intro h;simp [h] at hp1
  clear hn hfin;have hmod:(p.length:Int) % 4294967296=(p.length:Int):=by omega
  go_enter Tryz.func91,Tryz.ntmps91
  go_wp2_with (first
   | (at_builtin;refine wpList_app tBytesF rfl rfl (Own.lit w #[] _ 0 w.heap.size rfl (by simp) (Nat.zero_le _) (Nat.le_refl _)) rfl (Cells.ext hv (below_alloc w _)) rfl (by omega) (by simp) ?_;intro v3 w3 own3 g3 b3;replace own3:=OwnB.of (l:=b) own3 (by simp) (by simp);replace b3:=(below_alloc w _).trans b3;clear g3)
   | fail)
  have lt3:=own3.lt
  with_reducible refine (refFour (BitVec.ofNat 32 p.length) _ (ofNat_u32 _ (by omega)) _).mono ?_
  rintro e w4 ⟨h,rfl,ownh,b4⟩;replace own3:=own3.ext b4;have b04:=b3.trans (b4.mono b3.size);have hsz:=b04.size;have hle4:(Crc.le4 (BitVec.ofNat 32 p.length)).length=4:=rfl;have hhead:Crc.le4 (BitVec.ofNat 32 p.length)=Frm.head p:=rfl;rw [hhead] at ownh hle4;generalize hhd:Frm.head p=hd at *;have Hhd:=Lib.hid hhd;clear hhead hhd;obtain ⟨gh,ch,rfl,hgh1,hgh2,_,_⟩:=ownh.head (by omega);rw [hle4] at ownh ⊢;have hcell:Cells w4 1 (.slice (some ⟨gh,0,none⟩) 4 ch) 4 (hd.map byteV):=by have:=Own.cells ownh;rw [hle4] at this;exact this
  have Hle:=Lib.hid hle4;clear hle4;go_wp2_with (first
   | (at_builtin;refine wpList_appW tBytesF rfl rfl own3 rfl hcell rfl (by omega) hsz ?_;intro v5 w5 own5 g5 b5 at5)
   | (at_builtin;refine wpList_appW tBytesF rfl rfl own5 rfl (Cells.ext hu (b04.trans b5)) rfl (by omega) (by have:=b5.size;omega) ?_;intro v6 w6 own6 g6 b6 at6)
   | fail)
  have n3:∀ k,v3.ownBlock=some k→k≠gh:=fun k hk=>by have:=lt3 k hk;omega
  have n5:∀ k,v5.ownBlock=some k→k≠gh:=fun k hk=>by
   rcases at5 with h | h
   ·exact n3 k (h ▸ hk)
   ·rw [h] at hk;cases hk;omega
  have ownh6:=(ownh.aside g5 n3).aside g6 n5;have b06:=b04.trans (b5.trans b6);have hb6:Bytes w6 (.slice (some ⟨gh,0,none⟩) 4 ch) hd:=ownh6.bytes
  with_reducible refine (refOn0 _ hd _ hb6).mono ?_
  rintro e w6' ⟨rfl,rfl⟩;go_wp2_with fail
  with_reducible refine (refOn _ _ p _ (hu.ext b06)).mono ?_
  rintro e w6' ⟨rfl,rfl⟩;rw [←Crc.on_append];go_wp2_with fail
  with_reducible refine (refFour _ _ rfl _).mono ?_
  rintro e w8 ⟨h8,rfl,ownh8,b8⟩;have own8:=Own.ext own6 b8;have b08:=b06.trans (b8.mono b06.size);obtain ⟨p8,c8,rfl⟩:=ownh8.bytes.shapeN (Crc.le4_length _);have hcell8:=Own.cells ownh8;rw [Crc.le4_length] at hcell8;have hsz8:=b08.size;go_wp2_with (first
   | (at_builtin;refine wpList_app tBytesF rfl rfl own8 rfl hcell8 rfl (by omega) hsz8 ?_;intro v9 w9 own9 g9 b9)
   | fail)
  go_ret
  refine ⟨_,rfl,OwnB.of own9 ?_ ?_,b08.trans b9⟩
  ·rw [Hhd.out];simp [Hle.out,Crc.le4];omega
  ·rw [Hhd.out];simp [List.map_append]

end
end Go.Proofs.YtgpgcnmnfnnkjaaGreatDoor
