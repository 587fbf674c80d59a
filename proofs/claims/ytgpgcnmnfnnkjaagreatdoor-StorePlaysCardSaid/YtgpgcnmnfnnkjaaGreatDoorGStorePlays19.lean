import Derived.Test.YtgpgcnmnfnnkjaaGreatDoorGStorePlays12
import Derived.Laws.DeepNot64
set_option linter.unusedVariables false
set_option linter.unusedSimpArgs false
set_option maxRecDepth 100000
set_option maxHeartbeats 16000000
namespace Go.Proofs.YtgpgcnmnfnnkjaaGreatDoor
section
open Go Go.RowKit
theorem emptyK (w:World) (e:TypeId) (B H:Nat) (hH:w.heap.size=H) (hB:B≤w.heap.size):OwnB (w.alloc (.cells #[] e)) B e (.slice (some ⟨H,0,none⟩) 0 0) []:=by subst hH;exact Own.lit w #[] e 0 B rfl (by simp) (Nat.zero_le _) hB
theorem xor_zero64 (z:Nat) (h:z<18446744073709551616):bits .xor .u64 (z:Int) 0=(z:Int):=by
 rw [show (0:Int)=((0:Nat):Int) from rfl,u64_xor_nat z 0 h (by decide),Nat.xor_zero]
theorem xor_ones64 (z:Nat) (h:z<18446744073709551616):bits .xor .u64 (z:Int) 18446744073709551615=((18446744073709551615 - z:Nat):Int):=by
 have e:=not_u64 z h;have e2:IntKind.u64.max=((18446744073709551615:Nat):Int):=by decide
 rw [e2,u64_xor_nat _ _ (by decide) h] at e;rw [show (18446744073709551615:Int)=((18446744073709551615:Nat):Int) from rfl,u64_xor_nat z _ h (by decide),Nat.xor_comm];exact e
theorem rkNum (v:Value) (b:List UInt8) (n:Int) (w:World) (hv:Bytes w v b) (hb:b.length≤35184372088000) (h1 : -9223372036854775808≤n) (h2:n≤9223372036854775807) :
 Calls Tryz.prog 90 #[v,.int .i64 n] w fun e w'=>∃ q,e=.returned q∧OwnB w' w.heap.size 5 q (b++numB n)∧Below w.heap.size w w':=by
 have hvi:=VI.zig h1 h2;have hzl:=zig_lt h1 h2;have hz:Hid (if 0≤n then (zig n:Int)=2 * n else (zig n:Int) = -2 * n - 1):=by
  show if 0≤n then (zig n:Int)=2 * n else (zig n:Int) = -2 * n - 1
  unfold zig;split<;>omega
 have hnb:numB n=vint 10 (zig n):=rfl;rw [hnb];clear hnb;generalize zig n=z at *;have hV:Hid (bits BinOp.xor IntKind.u64 (IntKind.u64.wrap (IntKind.u64.wrap n * 2)) (IntKind.u64.wrap (n / 9223372036854775808))=(z:Int)):=by
  show bits BinOp.xor IntKind.u64 (IntKind.u64.wrap (IntKind.u64.wrap n * 2)) (IntKind.u64.wrap (n / 9223372036854775808))=(z:Int)
  have h:=hz.out
  by_cases hn:0≤n
  ·rw [if_pos hn] at h;have e1:IntKind.u64.wrap (IntKind.u64.wrap n * 2)=(z:Int):=by rw [IntKind.wrap_u64,IntKind.wrap_u64];omega
   have e2:IntKind.u64.wrap (n / 9223372036854775808)=0:=by rw [IntKind.wrap_u64];omega
   rw [e1,e2];exact xor_zero64 z hzl
  ·rw [if_neg hn] at h;have e1:IntKind.u64.wrap (IntKind.u64.wrap n * 2)=((18446744073709551615 - z:Nat):Int):=by rw [IntKind.wrap_u64,IntKind.wrap_u64];omega
   have e2:IntKind.u64.wrap (n / 9223372036854775808)=18446744073709551615:=by rw [IntKind.wrap_u64];omega
   rw [e1,e2,xor_ones64 _ (by omega)];omega
 clear hz;have own0:=emptyK w 5 w.heap.size _ rfl (Nat.le_refl _);have b0:=below_alloc w (.cells #[] 5);have hv0:=hv.ext b0;have Hnn:=Lib.hid (And.intro h1 h2);go_enter Tryz.func90,Tryz.ntmps90
 go_wp2_with (first
  | (at_builtin;refine wpList_app tBytesP rfl rfl own0 rfl hv0 rfl (by simp;omega) b0.size ?_;intro v1 w1 own1 g1 b1x;replace own1:=OwnB.of (l:=b) own1 (by simp) (by simp);have b1:=b0.trans b1x)
  | fail)
 go_loopw [5,6] (fun o u wr=>∃ (f z':Nat) (l:List UInt8),u=.int .u64 (z':Int)∧OwnB wr w.heap.size 5 o l∧Hid (VI f z')∧Hid (l++vint f z'=b++vint 10 z)∧Below w.heap.size w wr∧l.length≤35184372088100) (fun _ u _=>(intOf u).toNat)
 case atStart=>exact ⟨10,z,b,by rw [←hV.out],own1,hvi,rfl,b1,by omega⟩
 all_goals
  clear own1 b1 own0 b0 hv0;obtain ⟨f,z',l,rfl,own,hv2,hl,hb2,hll⟩:=hrel;have hs2:=hb2.size;obtain ⟨p2,c2,rfl⟩:=own.bytes.shape
  by_cases hc:128≤z'
  ·obtain ⟨hst,hvs⟩:=VI.step hv2.out hc;have e3:Hid (bits .or .u8 (((z' % 128:Nat):Int) % 256) 128=((UInt8.ofNat (z' % 128+128)).toNat:Int)):=by
    have h:=or128 (z' % 128);rw [Nat.mod_mod] at h;exact h
   have hz64:z'<18446744073709551616:=by
    have h2:=hv2.out.2.2;have h3:(2:Nat) ^ (64 - 7 * (10 - f))≤2 ^ 64:=Nat.pow_le_pow_right (by decide) (by omega);have h4:(2:Nat) ^ 64=18446744073709551616:=by decide
    omega
   have e4:Hid (bits .and .u64 (z':Int) 127=((z' % 128:Nat):Int)):=by
    show _=_
    rw [show (127:Int)=((127:Nat):Int) from rfl,u64_and_nat z' 127 hz64 (by decide),nat_mask7 z']
   clear hz64;have Hst:=Lib.hid hst;have Hvs:=Lib.hid hvs;have hz2:=hvi.2.2;clear hst hvs hvi hzl h1 h2;have hci:(128:Int)≤(z':Int):=by omega
   have lit:Bytes (wr.alloc (.cells #[.int .u8 (bits .or .u8 ((bits .and .u64 (z':Int) 127) % 256) 128)] 5)) (.slice (some ⟨wr.heap.size,0,none⟩) 1 1) [UInt8.ofNat (z' % 128+128)]:=by rw [e4.out,e3.out];exact byte_lit (UInt8.ofNat (z' % 128+128)) wr _ _ rfl
   have ca:=below_alloc wr (.cells #[.int .u8 (bits .or .u8 ((bits .and .u64 (z':Int) 127) % 256) 128)] 5);have own2:=own.ext ca;have hb3:=hb2.trans (ca.mono hs2);have hfl:l.length+1+(vint (f - 1) (z' / 128)).length≤35184372088010:=by
    have h1:=congrArg List.length hl.out;rw [Hvs.out] at h1;simp only [List.length_append,List.length_cons] at h1
    have:=vint_le 10 z;omega
   go_wp2_with (first | (at_builtin;refine wpList_app tBytesP rfl rfl own2 rfl lit rfl (by simp;omega) hb3.size ?_;intro v4 w4 own4 g4 b4) | fail)
   have own5:=OwnB.snoc own4;go_roundw
   case rel=>exact ⟨f - 1,z' / 128,_,by go_num,own5,Hst.out,by show _=_;rw [←hl.out,Hvs.out];simp,hb3.trans b4,by simp;omega⟩
   case measure=>simp [intOf];omega
  ·have hci:¬ (128:Int)≤(z':Int):=by omega
   have hlast:=VI.last hv2.out (by omega);have Hl:=Lib.hid hlast;have e3:(z':Int)=((UInt8.ofNat z').toNat:Int):=by rw [toNat_ofNat_lt (by omega)]
   have lit:Bytes (wr.alloc (.cells #[.int .u8 (z':Int)] 5)) (.slice (some ⟨wr.heap.size,0,none⟩) 1 1) [UInt8.ofNat z']:=by rw [e3];exact byte_lit (UInt8.ofNat z') wr _ _ rfl
   have ca:=below_alloc wr (.cells #[.int .u8 (z':Int)] 5);have own2:=own.ext ca;have hb3:=hb2.trans (ca.mono hs2);clear hlast e3 hvi hzl h1 h2;go_wp2_with (first | (at_builtin;refine wpList_app tBytesP rfl rfl own2 rfl lit rfl (by simp;omega) hb3.size ?_;intro v4 w4 own4 g4 b4) | fail)
   have own5:=OwnB.snoc own4;go_ret
   exact ⟨_,rfl,by rw [←hl.out,Hl.out];exact own5,hb3.trans b4⟩
theorem rkText (v:Value) (b:List UInt8) (s:ByteArray) (w:World) (hv:Bytes w v b) (hb:b.length+s.size≤17592186044000) :
 Calls Tryz.prog 92 #[v,.string s] w fun e w'=>∃ q,e=.returned q∧OwnB w' w.heap.size 5 q (b++textB (s.data.toList))∧Below w.heap.size w w':=by
 have hsl:s.data.toList.length=s.size:=by simp
 go_enter Tryz.func92,Tryz.ntmps92
 go_wp2_with fail
 with_reducible refine (rkNum v b _ w hv (by omega) (by omega) (by omega)).mono ?_
 rintro e w2 ⟨o2,rfl,own2,b2⟩;have hl:=numB_le (s.size:Int);obtain ⟨p2,c2,rfl⟩:=own2.bytes.shapeN (n:=b.length+(numB (s.size:Int)).length) (by simp);go_wp2_with (first | (at_builtin;go_loud (refine wpList_appS Tryz.underlying26 Tryz.underlying9 (by kernel_rfl) rfl rfl own2 rfl rfl (by rw [List.length_append];omega) b2.size ?_);intro v4 w4 own4 g4 b4) | fail)
 go_ret
 refine ⟨_,rfl,?_,b2.trans b4⟩;unfold textB;rw [hsl, ←List.append_assoc];exact own4
end
section
open Go Go.RowKit
structure RkAt (w:World) (g:Nat) (v:Value) (r:Rdr):Prop where
 blk:Blk w g #[v,.int .i64 (r.pos:Int),.int .i64 r.err] 152
 byt:Bytes w v r.b
 off:v.ownBlock≠some g
 le:r.pos≤r.b.length
 big:r.b.length≤35184372088000
section
variable {w w':World} {g:Nat} {v:Value} {r:Rdr}
theorem RkAt.chg {G:Nat→Prop} (h:RkAt w g v r) (hc:Chg G w w') (hg:¬ G g) (hv:∀ k,v.ownBlock=some k→¬ G k):RkAt w' g v r :=
 ⟨hc.blk h.blk hg,hc.cells h.byt hv,h.off,h.le,h.big⟩
theorem RkAt.ext (h:RkAt w g v r) (hb:Below w.heap.size w w'):RkAt w' g v r:=h.chg (G:=fun _=>False) (.of_below hb) id fun _ _=>id
theorem RkAt.drewN (h:RkAt w g v r) (n:Nat):RkAt (w.drewN n) g v r:=h.ext (below_drawn _ _ _)
theorem RkAt.setP (h:RkAt w g v r) {p:Nat} {P:Int} (hP:P=(p:Int)) (hp:p≤r.b.length):RkAt (w.setCell ⟨g,1,none⟩ (.int .i64 P)) g v ⟨r.b,p,r.err⟩:=by
 subst hP;exact ⟨h.blk.set 1 (.int .i64 (p:Int)),(chg_cell g 1 _ w).cells h.byt fun k hk e=>h.off (by rw [hk,e]),h.off,hp,h.big⟩
theorem RkAt.setE (h:RkAt w g v r) (e:Int):RkAt (w.setCell ⟨g,2,none⟩ (.int .i64 e)) g v ⟨r.b,r.pos,e⟩ :=
 ⟨h.blk.set 2 (.int .i64 e),(chg_cell g 2 _ w).cells h.byt fun k hk e=>h.off (by rw [hk,e]),h.off,h.le,h.big⟩
end
theorem rkRead (v:Value) (b:List UInt8) (w:World) (hv:Bytes w v b) (hb:b.length≤35184372088000) :
 Calls Tryz.prog 86 #[v] w fun e w'=>∃ g v',e=.returned (.pointer (some ⟨g,0,none⟩))∧RkAt w' g v' (rd0 b)∧w.heap.size≤g∧(∀ k,v'.ownBlock=some k→w.heap.size≤k∧k<w'.heap.size)∧Below w.heap.size w w':=by
 obtain ⟨p0,c0,rfl⟩:=hv.shape;have own0:=emptyK w 5 w.heap.size _ rfl (Nat.le_refl _);have b0:=below_alloc w (.cells #[] 5);have hv0:=hv.ext b0;go_enter Tryz.func86,Tryz.ntmps86
 go_wp2_with (first
  | (at_builtin;go_loud (refine wpList_app tBytesP rfl rfl own0 rfl hv0 rfl (by simp;omega) b0.size ?_);intro v3 w3 own3 g3 b3x;replace own3:OwnB w3 w.heap.size 5 v3 b:=OwnB.of own3 (by simp) (by simp);have b3:=b0.trans b3x;obtain ⟨p3,c3,rfl⟩:=own3.bytes.shape)
  | fail)
 go_ret
 have own4:=own3;refine ⟨w3.heap.size,_,rfl,?_,b3.size,fun k hk=>⟨(own4.lt k hk).1,by have:=(own4.lt k hk).2;simp;omega⟩,b3.trans ((below_alloc _ _).mono b3.size)⟩;exact ⟨Blk.new w3 _ _,own4.bytes.ext (below_alloc _ _),fun e=>by have:=(own4.lt _ e).2;omega,Nat.zero_le _,hb⟩
theorem xor_i64 (a:Nat) (ha:a<9223372036854775808):bits .xor .i64 (a:Int) 0=(a:Int)∧bits .xor .i64 (a:Int) (-1) = -1 - (a:Int):=by
 constructor
 ·show IntKind.i64.wrap ((BitVec.ofInt 64 (a:Int) ^^^ BitVec.ofInt 64 0).toNat:Int)=_
  have h1:BitVec.ofInt 64 0=0#64:=by decide
  rw [h1,BitVec.xor_zero,ofInt_u64 a (by omega)];simp [IntKind.wrap,IntKind.bits,IntKind.signed]
  omega
 ·have h:=i64_not a ha
  show IntKind.i64.wrap ((BitVec.ofInt 64 (a:Int) ^^^ BitVec.ofInt 64 (-1)).toNat:Int)=_
  rw [BitVec.xor_comm];exact h
theorem zag_xor (U:Nat) (h:U<18446744073709551616):bits .xor .i64 (IntKind.i64.wrap ((U:Int) / 2)) (IntKind.i64.wrap (-(IntKind.i64.wrap (bits .and .u64 (U:Int) 1))))=zag U:=by
 have e1:IntKind.i64.wrap ((U:Int) / 2)=((U / 2:Nat):Int):=by rw [IntKind.wrap_i64];omega
 rw [and1 U h,e1];unfold zag
 by_cases hp:U % 2=1
 ·rw [if_pos hp,hp];have e2:IntKind.i64.wrap (-(IntKind.i64.wrap ((1:Nat):Int))) = -1:=by decide
  rw [e2,(xor_i64 (U / 2) (by omega)).2];omega
 ·rw [if_neg hp,show U % 2=0 from by omega];have e2:IntKind.i64.wrap (-(IntKind.i64.wrap ((0:Nat):Int)))=0:=by decide
  rw [e2,(xor_i64 (U / 2) (by omega)).1]
theorem rkRNum (g:Nat) (v:Value) (r:Rdr) (w:World) (h:RkAt w g v r) :
 Calls Tryz.prog 87 #[.pointer (some ⟨g,0,none⟩)] w fun x w'=>x=.returned (.int .i64 (rNum r).1)∧RkAt w' g v (rNum r).2∧Chg (fun k=>k=g) w w':=by
 obtain ⟨p,cap,rfl⟩:=h.byt.shape;have c0:=h.blk.cell 0 _ rfl;have c1:=h.blk.cell 1 _ rfl;have c2:=h.blk.cell 2 _ rfl;have f1:=h.blk.frozen 1;have f2:=h.blk.frozen 2
 by_cases he:r.err=0
 ·have hw:=fun (m:Nat)=>h.drewN m;rw [he] at c2;go_enter Tryz.func87,Tryz.ntmps87
  go_wp2
  go_loopw [3,4] (fun u i wr=>∃ (k u' m:Nat),i=.int .i64 (k:Int)∧u=.int .u64 (u':Int)∧wr=w.drewN m∧k≤9∧Hid (u'<2 ^ (7 * k))∧Hid (vdec (r.b.drop (r.pos+k)) k u'=vdec (r.b.drop r.pos) 0 0)) (fun _ i _=>10 - (intOf i).toNat)
  case atStart=>exact ⟨0,0,0,rfl,rfl,rfl,by omega,by show _<_;decide,rfl⟩
  case round =>
   obtain ⟨k,u',m,rfl,rfl,rfl,hk,hu,hd⟩:=hrel;have hle:=h.le;have hbig:=h.big;have hne:∀ (m:Nat) (e:Int),e≠0→rNum r=(0,⟨r.b,r.pos,e⟩)→RkAt ((w.drewN m).setCell ⟨g,2,none⟩ (.int .i64 e)) g (.slice p r.b.length cap) (rNum r).2∧Chg (fun k=>k=g) w ((w.drewN m).setCell ⟨g,2,none⟩ (.int .i64 e)):=fun m e _ hx=>by
    rw [hx];exact ⟨(hw m).setE e,(Chg.of_below (below_drawn _ _ _)).step (chg_cell g 2 _ _)⟩
   have Hne:=Lib.hid hne;clear hne
   by_cases hin:r.pos+k<r.b.length
   ·have hi1:¬ (r.b.length:Int)≤(r.pos:Int)+(k:Int):=by omega
    obtain ⟨bb,off,rfl,hcell⟩:=Bytes.adr h.byt (by omega);replace hcell:=hcell (r.pos+k) hin;have hdrop:=List.drop_eq_getElem_cons hin;have hd2:=hd.out;rw [hdrop,vdec] at hd2;generalize r.b[r.pos+k]=c at *;have hcl:=c.toNat_lt;have Hd2:=Lib.hid hd2;clear hd hd2 hdrop
    by_cases h9:k=9∧1<c.toNat
    ·obtain ⟨rfl,h1⟩:=h9;have hn1:rNum r=(0,⟨r.b,r.pos,4⟩):=by unfold rNum;rw [if_pos he, ←Hd2.out,if_pos ⟨rfl,h1⟩];rfl
     have Hn:=Lib.hid hn1;have h1i:(1:Int)<(c.toNat:Int):=by omega
     clear hn1;go_wp2
     go_quiet (fail)
     go_wp2
     go_quiet (fail)
     go_wp2
     go_ret
     refine ⟨ret_int (by rw [Hn.out]),?_⟩;exact Hne.out _ 4 (by decide) Hn.out
    ·obtain ⟨o1,o2,o3⟩:=or_step c u' k hk hu.out h9;have O1:=Lib.hid o1;have O2:=Lib.hid o2;have O3:=Lib.hid o3;clear o1 o2 o3;have hg9:((k:Int) == 9)=true→¬ (1:Int)<(c.toNat:Int):=fun h=>by
      have:(k:Int)=9:=by simpa using h
      omega
     by_cases h128:128≤c.toNat
     ·have h9':k<9:=by
       rcases Nat.lt_or_ge k 9 with h | h
       ·exact h
       ·exact absurd ⟨by omega,by omega⟩ h9
      have h128i:¬ (c.toNat:Int)<128:=by omega
      clear hg9;go_wp2
      go_quiet (fail)
      go_wp2
      go_quiet (fail)
      go_wp2
      go_roundw
      case rel=>exact ⟨k+1,_,_,by go_num,by rw [O1.out],rfl,by omega,O3.out h9',by show _=_;rw [←Hd2.out,if_neg h9,if_pos h128];rfl⟩
      case measure=>simp [intOf];omega
     ·have h128i:(c.toNat:Int)<128:=by omega
      by_cases hc0:c.toNat=0∧0<k
      ·have hn1:rNum r=(0,⟨r.b,r.pos,4⟩):=by unfold rNum;rw [if_pos he, ←Hd2.out,if_neg h9,if_neg h128,if_pos hc0];rfl
       have Hn:=Lib.hid hn1;have hk0:(0:Int)<(k:Int):=by omega
       have hcz:((c.toNat:Int) == 0)=true:=by simp;omega
       have hno:((k:Int) == 9)=true→¬ (1:Int)<(c.toNat:Int):=hg9;clear hn1 hg9
       by_cases hk9:((k:Int) == 9)=true
       all_goals
        try have q1:=hno hk9
        clear hno;go_wp2
        go_quiet (fail)
        go_wp2
        go_quiet (fail)
        go_wp2
        go_ret
        refine ⟨ret_int (by rw [Hn.out]),?_⟩;exact Hne.out _ 4 (by decide) Hn.out
      ·have hc7:c.toNat % 128=c.toNat:=Nat.mod_eq_of_lt (by omega);have hn1:rNum r=(zag (u'+c.toNat * 2 ^ (7 * k)),⟨r.b,r.pos+(k+1),0⟩):=by unfold rNum;rw [if_pos he, ←Hd2.out,if_neg h9,if_neg h128,if_neg hc0]
       rw [hc7] at O1 O2;obtain ⟨U,hU⟩:∃ U,U=u'+c.toNat * 2 ^ (7 * k):=⟨_,rfl⟩;rw [←hU] at O1 O2 hn1;have Hn:=Lib.hid hn1;have hcz:((c.toNat:Int) == 0)=true→¬ (0:Int)<(k:Int):=fun h=>by
        have:(c.toNat:Int)=0:=by simpa using h
        omega
       have hz:=fun (n:Nat)=>(hw n).setP (p:=r.pos+(k+1)) (P:=(r.pos:Int)+(k:Int)+1) (by omega) (by omega);have hch:=fun (n:Nat)=>(Chg.of_below (F:=fun k=>k=g) (below_drawn w.heap.size w n)).step (chg_cell g 1 (.int .i64 ((r.pos:Int)+(k:Int)+1)) (w.drewN n));have Hz:=Lib.hid (And.intro hz hch);have Hzx:=Lib.hid (zag_xor U O2.out);clear hn1 hz hch hU hw h hc0 hc7 hin Hd2 O3 Hne
       by_cases hk9:((k:Int) == 9)=true<;>by_cases hz0:((c.toNat:Int) == 0)=true
       all_goals
        try have q1:=hg9 hk9
        try have q2:=hcz hz0
        clear hg9 hcz;go_wp2
        go_quiet (fail)
        go_wp2
        go_quiet (fail)
        go_wp2
        go_ret
        rw [Hn.out,O1.out];exact ⟨ret_int (by have hq:=Hzx.out;simp only [IntKind.wrap_i64] at hq;simp only [wrap64];exact hq),by rw [←he];exact Hz.out.1 _,Hz.out.2 _⟩
   ·have hge:(r.b.length:Int)≤(r.pos:Int)+(k:Int):=by omega
    have hv1:vdec (r.b.drop r.pos) 0 0=.error 3:=by rw [←hd.out,List.drop_of_length_le (by omega)];rfl
    have hn1:rNum r=(0,⟨r.b,r.pos,3⟩):=by unfold rNum;rw [if_pos he,hv1];rfl
    have Hn:=Lib.hid hn1;clear hv1 hn1;go_wp2
    go_quiet (fail)
    go_wp2
    go_ret
    refine ⟨ret_int (by rw [Hn.out]),?_⟩;exact Hne.out _ 3 (by decide) Hn.out
 ·have hne:(r.err !=0)=true:=by simpa using he
  have e1:rNum r=(0,r):=by unfold rNum;rw [if_neg he]
  rw [e1];go_enter Tryz.func87,Tryz.ntmps87
  go_wp2
  go_ret
  exact ⟨rfl,h,Chg.refl _ _⟩
end
section
open Go Go.RowKit
theorem rkWithin (g:Nat) (v:Value) (r:Rdr) (lo hi:Int) (w:World) (h:RkAt w g v r) :
 Calls Tryz.prog 141 #[.pointer (some ⟨g,0,none⟩),.int .i64 lo,.int .i64 hi] w fun x w'=>x=.returned (.int .i64 (rWithin lo hi r).1)∧RkAt w' g v (rWithin lo hi r).2∧Chg (fun k=>k=g) w w':=by
 have c1:=h.blk.cell 1 _ rfl;have hle:=h.le;have hcall:=rkRNum g v r w h;have hb:=rNum_b r;have hw:rWithin lo hi r=if (rNum r).2.err=0∧((rNum r).1<lo∨hi<(rNum r).1) then (0,⟨r.b,r.pos,2⟩) else rNum r:=rfl
 rw [hw];clear hw;generalize hq:rNum r=q at *;obtain ⟨n,r'⟩:=q;dsimp only at hb hcall ⊢;have Hq:=Lib.hid hq;clear hq h
 by_cases he:r'.err=0
 ·by_cases hlo:n<lo
  ·rw [if_pos ⟨he,.inl hlo⟩];go_enter Tryz.func141,Tryz.ntmps141
   go_wp2_with fail
   refine hcall.mono ?_;rintro e w1 ⟨rfl,h1,ch1⟩;have d1:=h1.blk.cell 1 _ rfl;have d2:=h1.blk.cell 2 _ rfl;have f1:=h1.blk.frozen 1;have f2:=h1.blk.frozen 2;rw [he] at d2;have hS:=(h1.setE 2).setP (p:=r.pos) rfl (by show r.pos≤r'.b.length;rw [hb];exact hle);have hC:=ch1.step ((chg_cell g 2 (.int .i64 2) w1).step (chg_cell g 1 (.int .i64 (r.pos:Int)) _));have Hs:=Lib.hid (And.intro hS hC);have Hb:=Lib.hid hb;clear hS hC h1 ch1 hb hcall;go_wp2
   go_ret
   have hx:=Hs.out.1
   try dsimp only at hx
   rw [Hb.out] at hx;exact ⟨rfl,hx,Hs.out.2⟩
  ·by_cases hhi:hi<n
   ·rw [if_pos ⟨he,.inr hhi⟩];go_enter Tryz.func141,Tryz.ntmps141
    go_wp2_with fail
    refine hcall.mono ?_;rintro e w1 ⟨rfl,h1,ch1⟩;have d1:=h1.blk.cell 1 _ rfl;have d2:=h1.blk.cell 2 _ rfl;have f1:=h1.blk.frozen 1;have f2:=h1.blk.frozen 2;rw [he] at d2;have hS:=(h1.setE 2).setP (p:=r.pos) rfl (by show r.pos≤r'.b.length;rw [hb];exact hle);have hC:=ch1.step ((chg_cell g 2 (.int .i64 2) w1).step (chg_cell g 1 (.int .i64 (r.pos:Int)) _));have Hs:=Lib.hid (And.intro hS hC);have Hb:=Lib.hid hb;clear hS hC h1 ch1 hb hcall;go_wp2
    go_ret
    have hx:=Hs.out.1
    try dsimp only at hx
    rw [Hb.out] at hx;exact ⟨rfl,hx,Hs.out.2⟩
   ·rw [if_neg (fun h=>h.2.elim hlo hhi)];go_enter Tryz.func141,Tryz.ntmps141
    go_wp2_with fail
    refine hcall.mono ?_;rintro e w1 ⟨rfl,h1,ch1⟩;have d2:=h1.blk.cell 2 _ rfl;rw [he] at d2;go_wp2
    go_ret
    exact ⟨rfl,h1,ch1⟩
 ·have hne:(r'.err == 0)=false:=by simpa using he
  rw [if_neg (fun h=>he h.1)];go_enter Tryz.func141,Tryz.ntmps141
  go_wp2_with fail
  refine hcall.mono ?_;rintro e w1 ⟨rfl,h1,ch1⟩;have d2:=h1.blk.cell 2 _ rfl;go_wp2
  go_ret
  exact ⟨rfl,h1,ch1⟩

theorem rkEnd (g:Nat) (v:Value) (r:Rdr) (w:World) (h:RkAt w g v r) :
 Calls Tryz.prog 117 #[.pointer (some ⟨g,0,none⟩)] w fun x w'=>x=.returned (.int .i64 (rEnd r).1)∧RkAt w' g v (rEnd r).2∧Chg (fun k=>k=g) w w':=by
 obtain ⟨p,cap,rfl⟩:=h.byt.shape;have c0:=h.blk.cell 0 _ rfl;have c1:=h.blk.cell 1 _ rfl;have c2:=h.blk.cell 2 _ rfl;have f2:=h.blk.frozen 2;have hs:=Lib.hid (fun k=>(h.drewN k).setE 5);have hc:=Lib.hid (fun k=>(Chg.of_below (F:=fun k=>k=g) (below_drawn w.heap.size w k)).step (chg_cell g 2 (.int .i64 5) (w.drewN k)))
 by_cases he:r.err=0
 ·rw [he] at c2
  by_cases hl:r.pos<r.b.length
  ·have e1:rEnd r=(5,⟨r.b,r.pos,5⟩):=if_pos ⟨he,hl⟩;have hli:(r.pos:Int)<(r.b.length:Int):=by omega
   rw [e1];clear e1;go_enter Tryz.func117,Tryz.ntmps117
   go_wp2
   go_quiet (fail)
   go_wp2
   go_ret
   exact ⟨rfl,hs.out _,hc.out _⟩
  ·have e1:rEnd r=(r.err,r):=if_neg (fun h=>hl h.2);have hli:¬ (r.pos:Int)<(r.b.length:Int):=by omega
   rw [e1,he];clear e1;go_enter Tryz.func117,Tryz.ntmps117
   go_wp2
   go_quiet (fail)
   go_wp2
   go_ret
   exact ⟨rfl,h.drewN _,Chg.of_below (below_drawn _ _ _)⟩
 ·have hne:(r.err == 0)=false:=by simpa using he
  have e1:rEnd r=(r.err,r):=if_neg (fun h=>he h.1);rw [e1];clear e1;go_enter Tryz.func117,Tryz.ntmps117
  go_wp2
  go_quiet (fail)
  go_wp2
  go_ret
  exact ⟨rfl,h.drewN _,Chg.of_below (below_drawn _ _ _)⟩

theorem rkRText (g:Nat) (v:Value) (r:Rdr) (most:Int) (w:World) (h:RkAt w g v r) :
 Calls Tryz.prog 116 #[.pointer (some ⟨g,0,none⟩),.int .i64 most] w fun x w'=>x=.returned (.string ⟨(rText most r).1.toArray⟩)∧RkAt w' g v (rText most r).2∧Chg (fun k=>k=g) w w':=by
 obtain ⟨p,cap,rfl⟩:=h.byt.shape;have c1:=h.blk.cell 1 _ rfl;have hle:=h.le;have hcall:=rkWithin g _ r 0 most w h;have hb:(rWithin 0 most r).2.b=r.b:=by unfold rWithin;split;rfl;exact rNum_b r
 have hlo:(rWithin 0 most r).2.err=0→0≤(rWithin 0 most r).1:=by
  unfold rWithin;intro he;split at he
  ·cases he
  ·rename_i hn;rw [if_neg hn]
   rcases Int.lt_or_le (rNum r).1 0 with h | h
   ·exact absurd ⟨he,.inl h⟩ hn
   ·exact h
 have hhi:(rWithin 0 most r).1≤9223372036854775807:=by
  by_cases hx:(rNum r).2.err=0∧((rNum r).1<0∨most<(rNum r).1)
  ·unfold rWithin;rw [if_pos hx];show (0:Int)≤_;decide
  ·unfold rWithin;rw [if_neg hx];exact (rNum_fits r).2
 have hw:rText most r=if (rWithin 0 most r).2.err=0 then (if (((r.b.length - (rWithin 0 most r).2.pos:Nat):Int)<(rWithin 0 most r).1) then ([],⟨r.b,r.pos,3⟩) else ((r.b.drop (rWithin 0 most r).2.pos).take (rWithin 0 most r).1.toNat,⟨r.b,(rWithin 0 most r).2.pos+(rWithin 0 most r).1.toNat,0⟩)) else ([],(rWithin 0 most r).2):=rfl
 rw [hw];clear hw;generalize rWithin 0 most r=q at *;obtain ⟨n,r'⟩:=q;dsimp only at hb hlo hhi hcall ⊢
 by_cases he:r'.err=0
 ·rw [if_pos he];have hlo:=hlo he
  by_cases hs:((r.b.length - r'.pos:Nat):Int)<n
  ·rw [if_pos hs];go_enter Tryz.func116,Tryz.ntmps116
   go_wp2_with fail
   refine hcall.mono ?_;rintro e w1 ⟨rfl,h1,ch1⟩;have d0:=h1.blk.cell 0 _ rfl;have d1:=h1.blk.cell 1 _ rfl;have d2:=h1.blk.cell 2 _ rfl;have f1:=h1.blk.frozen 1;have f2:=h1.blk.frozen 2;have hle1:=h1.le;have hbig:=h1.big;rw [hb] at hle1 hbig;rw [he] at d2;have hs1:(r.b.length:Int) - (r'.pos:Int)<n:=by omega
   have hS:=fun (k:Nat)=>((h1.drewN k).setE 3).setP (p:=r.pos) rfl (by show r.pos≤r'.b.length;rw [hb];exact hle);have hC:=fun (k:Nat)=>ch1.step ((Chg.of_below (F:=fun k=>k=g) (below_drawn w1.heap.size w1 k)).step ((chg_cell g 2 (.int .i64 3) (w1.drewN k)).step (chg_cell g 1 (.int .i64 (r.pos:Int)) _)));have Hs:=Lib.hid (And.intro hS hC);have Hb:=Lib.hid hb;clear hS hC h1 ch1 hb hcall h;go_wp2
   go_quiet (fail)
   go_wp2
   go_ret
   have hx:=Hs.out.1
   try dsimp only at hx
   rw [Hb.out] at hx;exact ⟨rfl,hx _,Hs.out.2 _⟩
  ·rw [if_neg hs];obtain ⟨m,rfl⟩:=Int.eq_ofNat_of_zero_le hlo;go_enter Tryz.func116,Tryz.ntmps116
   go_wp2_with fail
   refine hcall.mono ?_;rintro e w1 ⟨rfl,h1,ch1⟩;have d0:=h1.blk.cell 0 _ rfl;have d1:=h1.blk.cell 1 _ rfl;have d2:=h1.blk.cell 2 _ rfl;have hle1:=h1.le;have hbig:=h1.big;rw [hb] at hle1 hbig;rw [he] at d2;have hs1:¬ (r.b.length:Int) - (r'.pos:Int)<(m:Int):=by omega
   have hbt:=h1.byt;have hsl:=run_sub tBytesP (P:=Tryz.prog) hbt .i64 .i64 (r'.pos:Int) ((r'.pos:Int)+(m:Int)) r'.pos (r'.pos+m) rfl (by omega) (by omega) (by rw [hb];omega);have hsb:=hbt.sub r'.pos (r'.pos+m) (by omega) (by rw [hb];omega);rw [hb,Nat.add_sub_cancel_left] at hsb;have hcv:=fun (k:Nat)=>run_bytes_string (P:=Tryz.prog) Tryz.underlying26 Tryz.underlying5 Tryz.underlying9 (hsb.drewN k);have f1:=h1.blk.frozen 1;have hz:=fun (k:Nat)=>(h1.drewN k).setP (p:=r'.pos+m) (P:=(r'.pos:Int)+(m:Int)) (by omega) (by rw [hb];omega)
   have hch:=fun (k:Nat)=>(Chg.of_below (F:=fun k=>k=g) (below_drawn w1.heap.size w1 k)).step (chg_cell g 1 (.int .i64 ((r'.pos:Int)+(m:Int))) (w1.drewN k));have Hz:=Lib.hid (And.intro hz hch);have Hch1:=Lib.hid ch1;have Hb:=Lib.hid hb;have hin0:(0:Int)≤(r'.pos:Int):=by omega
   clear hbt hsb hz hch h h1 ch1 c1 hb hs hcall;generalize subV _ r'.pos (r'.pos+m) 1=vs at *;go_wp2
   go_quiet (fail)
   go_wp2
   go_quiet (fail)
   go_wp2
   go_ret
   have h9:=Hz.out.1;rw [Hb.out,he] at h9;exact ⟨rfl,h9 _,Hch1.out.step (Hz.out.2 _)⟩
 ·have hne:(r'.err !=0)=true:=by simpa using he
  rw [if_neg he];go_enter Tryz.func116,Tryz.ntmps116
  go_wp2_with fail
  refine hcall.mono ?_;rintro e w1 ⟨rfl,h1,ch1⟩;have d2:=h1.blk.cell 2 _ rfl;have hne2:(r'.err == 0)=false:=by simpa using he
  go_wp2
  go_quiet (fail)
  go_wp2
  go_ret
  exact ⟨rfl,h1.drewN _,ch1.step (Chg.of_below (below_drawn _ _ _))⟩
end
end Go.Proofs.YtgpgcnmnfnnkjaaGreatDoor
