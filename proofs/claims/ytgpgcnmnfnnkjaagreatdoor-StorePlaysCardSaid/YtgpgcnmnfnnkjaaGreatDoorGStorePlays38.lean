import Derived.Test.YtgpgcnmnfnnkjaaGreatDoorGStorePlays37
set_option linter.unusedVariables false
set_option linter.unusedSimpArgs false
set_option maxRecDepth 100000
set_option maxHeartbeats 16000000
namespace Go.Proofs.YtgpgcnmnfnnkjaaGreatDoor
section
open Go Go.RowKit Go.PlainAid BigFrame
theorem freshL:freshS.toList=[115,110,97,112,46,116,109,112]:=by rw [ByteArray.toList_eq];rfl
theorem stoClean {w0 w:World} {X:Nat→Prop} {g:Nat} {d d':Dk} (T0:∀ z,Below w0.heap.size w0 z→TabW z) (hd:DwS w0 X g d w) (hb0:Below w0.heap.size w0 w) {m:Nat} (pi:PInv m d) (hm:m≤900) (n:Nat) (N:Int) (hN:N=(n:Int)) (hn:n≤99999999999999) {E:Int} (he:cleanP d n=(E,d')) :
 Calls Tryz.prog 77 #[.pointer (some ⟨g,0,none⟩),.int .i64 N] w (DidD w0 w X g E d'):=by
 subst hN;have ok:=pi.ok (show m≤1000 by omega);have hcall:=lNames hd ok;have hlen:=(okD_spec ok).2;obtain ⟨L,hL⟩:∃ L,L=d.fs.map (·.name):=⟨_,rfl⟩;have hc0:dropD n L d=(E,d'):=by rw [hL];exact he
 have hln:L.length≤999999:=by rw [hL];simpa using hlen
 rw [←hL] at hcall;clear hL he ok hlen;have hs0:=hb0.size;go_enter Tryz.func77,Tryz.ntmps77
 go_wp2_with fail
 refine hcall.mono ?_;rintro e w1 ⟨⟨rn,rfl,ownN⟩,b1⟩;have rN:=ownN.rd;have ltN:=fun k hk=>ownN.lt k hk;obtain ⟨pn,cn,rfl⟩:=rN.shape;obtain ⟨X1,hX1⟩:∃ X1:Nat→Prop,X1=fun k=>X k∨(Value.slice pn L.length cn).ownBlock=some k:=⟨_,rfl⟩;have hd1:DwS w0 X1 g d w1:=by rw [hX1];exact hd.more b1 (fun k hk=>hk.imp id (fun e=>⟨(ltN k e).1,(ltN k e).2⟩))
 have hx1:∀ k,X k→X1 k:=fun k hk=>by rw [hX1];exact .inl hk
 have hxN:∀ k,(Value.slice pn L.length cn).ownBlock=some k→X1 k:=fun k hk=>by rw [hX1];exact .inr hk
 clear hX1 ownN ltN hcall hd;have hb1:Below w0.heap.size w0 w1:=hb0.trans (b1.mono hs0);have hs1:=hb1.size;have Hc:=Lib.hid hc0;go_wp2_with fail
 go_loopw [11] (fun i wr=>∃ (k:Nat) (dk:Dk),k≤L.length∧i=.int .i64 k∧Hid (dropD n L d=dropD n (L.drop k) dk)∧PInv m dk∧DwS w0 X1 g dk wr∧Chg (Gx w0 X1) w1 wr) (fun i _=>L.length - (intOf i).toNat)
 case atStart=>exact ⟨0,d,by omega,rfl,rfl,pi,hd1,Chg.refl _ _⟩
 case round =>
  clear hc0;obtain ⟨k,dk,hk,rfl,hrem,pk,hdk,chk⟩:=hrel;have hbk:Below w0.heap.size w0 wr:=hb1.trans (chk.gx hs1);have hs0k:=hbk.size
  by_cases hlt:k<L.length
  ·have rNr:=chk.cells rN (fun j hj hG=>hG.2 (hxN j hj));obtain ⟨bb,off,rfl⟩:=Rd.blk (E:=strE) (l:=L) (show Rd strE wr (.slice pn L.length cn) L from rNr) (by omega);have c0:wr.cell? ⟨bb,off+k,none⟩=some (.string L[k]):=by
    have:=(show Rd strE wr (.slice (some ⟨bb,off,none⟩) L.length cn) L from rNr).at_ hlt 0 (by decide)
    simpa [strE] using this
   have hi:(k:Int)<(L.length:Int):=by omega
   have hi0:(0:Int)≤(k:Int):=by omega
   have hr2:=hrem.out;rw [List.drop_eq_getElem_cons hlt,dropD] at hr2;clear rNr;generalize L[k]=s at *;have b00:Below wr.heap.size wr wr:=Below.refl _ _
   cases hfr:s.toList == [115,110,97,112,46,116,109,112] with
   | true =>
    have hfe:s.toList=[115,110,97,112,46,116,109,112]:=by simpa using hfr
    have hfn:(s.toList !=[115,110,97,112,46,116,109,112])=false:=by rw [bne,hfr];rfl
    have hf2:eqS s freshS=true:=by unfold eqS;rw [freshL];exact hfr
    by_cases hn0:0<n
    ·have hni:(0:Int)<(n:Int):=by omega
     have hnd:decide (0<n)=true:=decide_eq_true hn0;go_wp2_with fail
     refine (stoNamed n _ rfl (by omega) wr (T0 _ (hbk.trans (b00.mono hs0k)))).mono ?_;rintro e w5 ⟨rfl,b5⟩;clear hfe hfr hfn;have b05:Below wr.heap.size wr w5:=b00.trans (b5.mono b00.size)
     cases hen:s.toList == (nameP n).toList with
     | true =>
      have hen2:eqS s (nameP n)=true:=hen;have hr3:=Lib.hid (hr2.trans (if_neg (show ¬ dropS n s=true by unfold dropS;rw [hnd,hen2];simp)));have hdX:=hdk.ext b05;have chX:Chg (Gx w0 X1) w1 w5:=chk.step (.of_below b05);clear hr2 hrem hdk chk;go_wp2_with fail
      go_roundw
      case rel=>exact ⟨k+1,dk,by omega,by go_num,hr3.out,pk,hdX,chX⟩
      case measure=>simp [intOf];omega
     | false =>
      have hen2:eqS s (nameP n)=false:=hen;have hr3:=hr2.trans (if_pos (show dropS n s=true by unfold dropS;rw [hf2,hnd,hen2];simp));obtain ⟨E2,D2,hrm⟩:∃ E2 D2,removeD dk s=(E2,D2):=⟨_,_,rfl⟩;rw [hrm] at hr3;unfold thenD at hr3;have pk2:PInv m D2:=by have:=pk.remove0 s;rw [hrm] at this;exact this
      have hdX:=hdk.ext b05;have chX:Chg (Gx w0 X1) w1 w5:=chk.step (.of_below b05);clear hr2 hrem hdk chk;go_wp2_with fail
      refine (lRemove hdX (pk.ok (by omega)) hrm).mono ?_;rintro e w6 ⟨rfl,hd6,ch6⟩;have ch06:Chg (Gx w0 X1) w1 w6:=chX.step ch6
      by_cases hE:E2=0
      ·subst hE;rw [if_pos rfl] at hr3;have Hr3:=Lib.hid hr3;clear hr3 hdX chX ch6;go_wp2_with fail
       go_roundw
       case rel=>exact ⟨k+1,D2,by omega,by go_num,Hr3.out,pk2,hd6,ch06⟩
       case measure=>simp [intOf];omega
      ·have hne:(E2 !=0)=true:=by simpa using hE
       rw [if_neg hE] at hr3;have hcd:=Hc.out.symm.trans hr3;simp only [Prod.mk.injEq] at hcd
       obtain ⟨rfl,rfl⟩:=hcd;clear hr3 hdX chX ch6;go_wp2_with fail
       go_ret
       exact ⟨rfl,hd6.mono hx1,(Chg.of_below b1).step (ch06.mono fun j _ hj=>⟨hj.1,fun q=>hj.2 (hx1 j q)⟩)⟩
    ·have hni:¬ (0:Int)<(n:Int):=by omega
     have hnd:decide (0<n)=false:=decide_eq_false hn0;have hr3:=hr2.trans (if_pos (show dropS n s=true by unfold dropS;rw [hf2,hnd];simp));obtain ⟨E2,D2,hrm⟩:∃ E2 D2,removeD dk s=(E2,D2):=⟨_,_,rfl⟩;rw [hrm] at hr3;unfold thenD at hr3;have pk2:PInv m D2:=by have:=pk.remove0 s;rw [hrm] at this;exact this
     have hdX:=hdk.ext b00;have chX:Chg (Gx w0 X1) w1 wr:=chk.step (.of_below b00);clear hr2 hrem hdk chk;go_wp2_with fail
     refine (lRemove hdX (pk.ok (by omega)) hrm).mono ?_;rintro e w6 ⟨rfl,hd6,ch6⟩;have ch06:Chg (Gx w0 X1) w1 w6:=chX.step ch6
     by_cases hE:E2=0
     ·subst hE;rw [if_pos rfl] at hr3;have Hr3:=Lib.hid hr3;clear hr3 hdX chX ch6;go_wp2_with fail
      go_roundw
      case rel=>exact ⟨k+1,D2,by omega,by go_num,Hr3.out,pk2,hd6,ch06⟩
      case measure=>simp [intOf];omega
     ·have hne:(E2 !=0)=true:=by simpa using hE
      rw [if_neg hE] at hr3;have hcd:=Hc.out.symm.trans hr3;simp only [Prod.mk.injEq] at hcd
      obtain ⟨rfl,rfl⟩:=hcd;clear hr3 hdX chX ch6;go_wp2_with fail
      go_ret
      exact ⟨rfl,hd6.mono hx1,(Chg.of_below b1).step (ch06.mono fun j _ hj=>⟨hj.1,fun q=>hj.2 (hx1 j q)⟩)⟩
   | false =>
    have hfe:¬ s.toList=[115,110,97,112,46,116,109,112]:=by simpa using hfr
    have hfn:(s.toList !=[115,110,97,112,46,116,109,112])=true:=by rw [bne,hfr];rfl
    have hf2:eqS s freshS=false:=by unfold eqS;rw [freshL];exact hfr
    go_wp2_with fail
    refine (stoNumberedS s wr).mono ?_;rintro e w4 ⟨rfl,b4⟩
    cases hnb:numbS s with
    | false =>
     have hr3:=Lib.hid (hr2.trans (if_neg (show ¬ dropS n s=true by unfold dropS;rw [hf2,hnb];simp)));have hdX:=hdk.ext b4;have chX:Chg (Gx w0 X1) w1 w4:=chk.step (.of_below b4);clear hr2 hrem hdk chk;go_wp2_with fail
     go_roundw
     case rel=>exact ⟨k+1,dk,by omega,by go_num,hr3.out,pk,hdX,chX⟩
     case measure=>simp [intOf];omega
    | true =>
     by_cases hn0:0<n
     ·have hni:(0:Int)<(n:Int):=by omega
      have hnd:decide (0<n)=true:=decide_eq_true hn0;go_wp2_with fail
      refine (stoNamed n _ rfl (by omega) w4 (T0 _ (hbk.trans (b4.mono hs0k)))).mono ?_;rintro e w5 ⟨rfl,b5⟩;clear hfe hfr hfn;have b05:Below wr.heap.size wr w5:=b4.trans (b5.mono b4.size)
      cases hen:s.toList == (nameP n).toList with
      | true =>
       have hen2:eqS s (nameP n)=true:=hen;have hr3:=Lib.hid (hr2.trans (if_neg (show ¬ dropS n s=true by unfold dropS;rw [hnd,hen2];simp)));have hdX:=hdk.ext b05;have chX:Chg (Gx w0 X1) w1 w5:=chk.step (.of_below b05);clear hr2 hrem hdk chk;go_wp2_with fail
       go_roundw
       case rel=>exact ⟨k+1,dk,by omega,by go_num,hr3.out,pk,hdX,chX⟩
       case measure=>simp [intOf];omega
      | false =>
       have hen2:eqS s (nameP n)=false:=hen;have hr3:=hr2.trans (if_pos (show dropS n s=true by unfold dropS;rw [hf2,hnb,hnd,hen2];simp));obtain ⟨E2,D2,hrm⟩:∃ E2 D2,removeD dk s=(E2,D2):=⟨_,_,rfl⟩;rw [hrm] at hr3;unfold thenD at hr3;have pk2:PInv m D2:=by have:=pk.remove0 s;rw [hrm] at this;exact this
       have hdX:=hdk.ext b05;have chX:Chg (Gx w0 X1) w1 w5:=chk.step (.of_below b05);clear hr2 hrem hdk chk;go_wp2_with fail
       refine (lRemove hdX (pk.ok (by omega)) hrm).mono ?_;rintro e w6 ⟨rfl,hd6,ch6⟩;have ch06:Chg (Gx w0 X1) w1 w6:=chX.step ch6
       by_cases hE:E2=0
       ·subst hE;rw [if_pos rfl] at hr3;have Hr3:=Lib.hid hr3;clear hr3 hdX chX ch6;go_wp2_with fail
        go_roundw
        case rel=>exact ⟨k+1,D2,by omega,by go_num,Hr3.out,pk2,hd6,ch06⟩
        case measure=>simp [intOf];omega
       ·have hne:(E2 !=0)=true:=by simpa using hE
        rw [if_neg hE] at hr3;have hcd:=Hc.out.symm.trans hr3;simp only [Prod.mk.injEq] at hcd
        obtain ⟨rfl,rfl⟩:=hcd;clear hr3 hdX chX ch6;go_wp2_with fail
        go_ret
        exact ⟨rfl,hd6.mono hx1,(Chg.of_below b1).step (ch06.mono fun j _ hj=>⟨hj.1,fun q=>hj.2 (hx1 j q)⟩)⟩
     ·have hni:¬ (0:Int)<(n:Int):=by omega
      have hnd:decide (0<n)=false:=decide_eq_false hn0;have hr3:=hr2.trans (if_pos (show dropS n s=true by unfold dropS;rw [hf2,hnb,hnd];simp));obtain ⟨E2,D2,hrm⟩:∃ E2 D2,removeD dk s=(E2,D2):=⟨_,_,rfl⟩;rw [hrm] at hr3;unfold thenD at hr3;have pk2:PInv m D2:=by have:=pk.remove0 s;rw [hrm] at this;exact this
      have hdX:=hdk.ext b4;have chX:Chg (Gx w0 X1) w1 w4:=chk.step (.of_below b4);clear hr2 hrem hdk chk;go_wp2_with fail
      refine (lRemove hdX (pk.ok (by omega)) hrm).mono ?_;rintro e w6 ⟨rfl,hd6,ch6⟩;have ch06:Chg (Gx w0 X1) w1 w6:=chX.step ch6
      by_cases hE:E2=0
      ·subst hE;rw [if_pos rfl] at hr3;have Hr3:=Lib.hid hr3;clear hr3 hdX chX ch6;go_wp2_with fail
       go_roundw
       case rel=>exact ⟨k+1,D2,by omega,by go_num,Hr3.out,pk2,hd6,ch06⟩
       case measure=>simp [intOf];omega
      ·have hne:(E2 !=0)=true:=by simpa using hE
       rw [if_neg hE] at hr3;have hcd:=Hc.out.symm.trans hr3;simp only [Prod.mk.injEq] at hcd
       obtain ⟨rfl,rfl⟩:=hcd;clear hr3 hdX chX ch6;go_wp2_with fail
       go_ret
       exact ⟨rfl,hd6.mono hx1,(Chg.of_below b1).step (ch06.mono fun j _ hj=>⟨hj.1,fun q=>hj.2 (hx1 j q)⟩)⟩
  ·have hi:¬ (k:Int)<(L.length:Int):=by omega
   have hr2:=hrem.out;rw [List.drop_of_length_le (by omega),dropD] at hr2;have hcd:=Hc.out.symm.trans hr2;simp only [Prod.mk.injEq] at hcd
   obtain ⟨rfl,rfl⟩:=hcd;clear hr2 hrem;go_wp2_with fail
   go_ret
   exact ⟨rfl,hdk.mono hx1,(Chg.of_below b1).step (chk.mono fun j _ hj=>⟨hj.1,fun q=>hj.2 (hx1 j q)⟩)⟩
end
end Go.Proofs.YtgpgcnmnfnnkjaaGreatDoor
