import Derived.Test.YtgpgcnmnfnnkjaaGreatDoorGStorePlays26
set_option linter.unusedVariables false
set_option linter.unusedSimpArgs false
set_option maxRecDepth 100000
set_option maxHeartbeats 16000000
namespace Go.Proofs.YtgpgcnmnfnnkjaaGreatDoor
section
open Go Go.RowKit Go.PlainAid BigFrame
attribute [local go_sem] After.same
@[reducible] def walA (g:Nat) (ws:Wl) (v:Value):Array Value:=#[.pointer (some ⟨g,0,none⟩),.int .i64 (ws.n:Int),.int .i64 ws.h.term,.int .i64 ws.h.vote,.int .i64 ws.h.base,.int .i64 ws.h.bterm,.int .i64 ws.h.members,.string ws.h.snap,v,.bool ws.down]
structure WalV (w:World) (X:Nat→Prop) (g gw:Nat) (v:Value) (ws:Wl):Prop where
 blk:Blk w gw (walA g ws v) 100
 log:Rd etyE w v ws.h.log
 inX:X gw
 lX:∀ k,v.ownBlock=some k→X k
 off:v.ownBlock≠some gw
 few:ws.h.log.length≤200
 num:ws.n≤99999999999999
section
variable {w0 w w':World} {X Y:Nat→Prop} {g gw:Nat} {v:Value} {ws:Wl} {d d':Dk}
theorem WalV.c0 (h:WalV w X g gw v ws):w.cell? ⟨gw,0,none⟩=some (.pointer (some ⟨g,0,none⟩)):=h.blk.cell 0 _ rfl
theorem WalV.c1 (h:WalV w X g gw v ws):w.cell? ⟨gw,1,none⟩=some (.int .i64 (ws.n:Int)):=h.blk.cell 1 _ rfl
theorem WalV.c2 (h:WalV w X g gw v ws):w.cell? ⟨gw,2,none⟩=some (.int .i64 ws.h.term):=h.blk.cell 2 _ rfl
theorem WalV.c3 (h:WalV w X g gw v ws):w.cell? ⟨gw,3,none⟩=some (.int .i64 ws.h.vote):=h.blk.cell 3 _ rfl
theorem WalV.c4 (h:WalV w X g gw v ws):w.cell? ⟨gw,4,none⟩=some (.int .i64 ws.h.base):=h.blk.cell 4 _ rfl
theorem WalV.c5 (h:WalV w X g gw v ws):w.cell? ⟨gw,5,none⟩=some (.int .i64 ws.h.bterm):=h.blk.cell 5 _ rfl
theorem WalV.c6 (h:WalV w X g gw v ws):w.cell? ⟨gw,6,none⟩=some (.int .i64 ws.h.members):=h.blk.cell 6 _ rfl
theorem WalV.c7 (h:WalV w X g gw v ws):w.cell? ⟨gw,7,none⟩=some (.string ws.h.snap):=h.blk.cell 7 _ rfl
theorem WalV.c8 (h:WalV w X g gw v ws):w.cell? ⟨gw,8,none⟩=some v:=h.blk.cell 8 _ rfl
theorem WalV.c9 (h:WalV w X g gw v ws):w.cell? ⟨gw,9,none⟩=some (.bool ws.down):=h.blk.cell 9 _ rfl
theorem WalV.chg {G:Nat→Prop} (h:WalV w X g gw v ws) (hc:Chg G w w') (hG:∀ k,X k→¬ G k):WalV w' X g gw v ws :=
 ⟨hc.blk h.blk (hG _ h.inX),hc.cells h.log (fun k hk=>hG k (h.lX k hk)),h.inX,h.lX,h.off,h.few,h.num⟩
theorem WalV.keep (h:WalV w X g gw v ws) (hc:Chg (Gx w0 X) w w'):WalV w' X g gw v ws:=h.chg hc fun k hk hG=>hG.2 hk
theorem WalV.ext (h:WalV w X g gw v ws) (hb:Below w.heap.size w w'):WalV w' X g gw v ws:=h.chg (G:=fun _=>False) (.of_below hb) fun _ _=>id
end

theorem walHard {w:World} {X:Nat→Prop} {g gw:Nat} {v:Value} {ws:Wl} (h:WalV w X g gw v ws) :
 Calls Tryz.prog 21 #[.pointer (some ⟨gw,0,none⟩)] w fun e w'=>∃ v',e=.returned (hrdA (bareOf ws.h) v')∧OwnR etyE w' w.heap.size 73 v' ws.h.log∧Below w.heap.size w w':=by
 obtain ⟨p,cap,rfl⟩:=h.log.shape;have hgw:=h.blk.lt;have ca:=below_alloc w (.cells #[.int .i64 0,.int .i64 0,.int .i64 0,.int .i64 0,.int .i64 0,.string ⟨#[]⟩,.slice none 0 0] 24);have kz:=Blk.new w #[.int .i64 0,.int .i64 0,.int .i64 0,.int .i64 0,.int .i64 0,.string ⟨#[]⟩,.slice none 0 0] 24;have h2:=h.ext ca;have hfew:=h.few;have q0:=h.c0;have q1:=h.c1;have q2:=h.c2;have q3:=h.c3;have q4:=h.c4;have q5:=h.c5;have q6:=h.c6;have q7:=h.c7;have q8:=h.c8;have q9:=h.c9
 have hcall:=walCopied ws.h (.slice p ws.h.log.length cap) (w.alloc (.cells #[.int .i64 0,.int .i64 0,.int .i64 0,.int .i64 0,.int .i64 0,.string ⟨#[]⟩,.slice none 0 0] 24)) h2.log (by omega);clear h2;go_enter Tryz.func21,Tryz.ntmps21
 go_wp2_with fail
 refine hcall.mono ?_;rintro e w3 ⟨v3,rfl,own3,b3⟩;obtain ⟨p3,c3,rfl⟩:=own3.rd.shape;have kz3:=kz.ext b3;have b03:=ca.trans (b3.mono (by simp));have y0:=kz3.cell 0 _ rfl;have z0:=kz3.frozen 0;have y1:=kz3.cell 1 _ rfl;have z1:=kz3.frozen 1;have y2:=kz3.cell 2 _ rfl;have z2:=kz3.frozen 2;have y3:=kz3.cell 3 _ rfl;have z3:=kz3.frozen 3;have y4:=kz3.cell 4 _ rfl;have z4:=kz3.frozen 4;have y5:=kz3.cell 5 _ rfl;have z5:=kz3.frozen 5;have y6:=kz3.cell 6 _ rfl;have z6:=kz3.frozen 6
 have hsz1:(w.alloc (.cells #[.int .i64 0,.int .i64 0,.int .i64 0,.int .i64 0,.int .i64 0,.string ⟨#[]⟩,.slice none 0 0] 24)).heap.size=w.heap.size+1:=by simp
 have hfar:∀ k,(Value.slice p3 ws.h.log.length c3).ownBlock=some k→¬ k=w.heap.size:=fun k hk e=>by have:=(own3.lt k hk).1;omega
 have own4:=own3.base (show w.heap.size≤_ by omega);clear hcall kz kz3;go_wp2_with fail
 have hc:=((((((((Chg.refl (fun k=>k=w.heap.size) w3).setCell (p:=⟨w.heap.size,0,none⟩) rfl (.int .i64 ws.h.term)).setCell (p:=⟨w.heap.size,1,none⟩) rfl (.int .i64 ws.h.vote)).setCell (p:=⟨w.heap.size,2,none⟩) rfl (.int .i64 ws.h.base)).setCell (p:=⟨w.heap.size,3,none⟩) rfl (.int .i64 ws.h.bterm)).setCell (p:=⟨w.heap.size,4,none⟩) rfl (.int .i64 ws.h.members)).setCell (p:=⟨w.heap.size,5,none⟩) rfl (.string ⟨#[]⟩)).setCell (p:=⟨w.heap.size,6,none⟩) rfl (.slice p3 ws.h.log.length c3))
 refine bodyPost_ret (v:=hrdA (bareOf ws.h) (.slice p3 ws.h.log.length c3)) (by simp [results,Tryz.results21,go_sem, *]) rfl ?_;exact ⟨_,rfl,hc.ownR own4 hfar,b03.trans (hc.below (B:=w.heap.size) (fun k hk=>by rw [hk];exact Nat.le_refl _) b03.size)⟩

theorem sameW_iff (x h:Hrd):sameW x h=true↔(h.term=x.term∧h.vote=x.vote∧h.base=x.base∧h.bterm=x.bterm∧h.members=x.members∧h.log.length=x.log.length∧commonE h.log x.log=h.log.length):=by
 unfold sameW;simp only [Bool.and_eq_true,decide_eq_true_eq,and_assoc]
theorem no_of {b:Bool} {P:Prop} (hi:b=true↔P) (h:¬ P):false=b:=by
 cases b
 ·rfl
 ·exact absurd (hi.1 rfl) h
theorem walSame {w:World} {X:Nat→Prop} {g gw:Nat} {v:Value} {ws:Wl} (hw:WalV w X g gw v ws) (h:Hrd) (u:Value) (hu:Rd etyE w u h.log) :
 Calls Tryz.prog 70 #[.pointer (some ⟨gw,0,none⟩),hrdA h u] w fun e w'=>e=.returned (.bool (sameW ws.h h))∧Below w.heap.size w w':=by
 obtain ⟨p,cap,rfl⟩:=hu.shape;obtain ⟨q,caq,rfl⟩:=hw.log.shape;have hgw:=hw.blk.lt;have hgw2:gw<w.heap.size+1:=by omega
 have q2:=hw.c2;have q3:=hw.c3;have q4:=hw.c4;have q5:=hw.c5;have q6:=hw.c6;have q7:=hw.c7;have q8:=hw.c8;have bW:Below w.heap.size w ((w.alloc (.cells #[.int .i64 h.term,.int .i64 h.vote,.int .i64 h.base,.int .i64 h.bterm,.int .i64 h.members,.string h.snap,.slice p h.log.length cap] 24)).alloc (.cells #[.int .i64 ws.h.term,.int .i64 ws.h.vote,.int .i64 ws.h.base,.int .i64 ws.h.bterm,.int .i64 ws.h.members,.string ws.h.snap,.slice q ws.h.log.length caq] 24)):=(below_alloc _ _).trans ((below_alloc _ _).mono (by simp))
 have kA:=(Blk.new w #[.int .i64 h.term,.int .i64 h.vote,.int .i64 h.base,.int .i64 h.bterm,.int .i64 h.members,.string h.snap,.slice p h.log.length cap] 24).ext (below_alloc _ (.cells #[.int .i64 ws.h.term,.int .i64 ws.h.vote,.int .i64 ws.h.base,.int .i64 ws.h.bterm,.int .i64 ws.h.members,.string ws.h.snap,.slice q ws.h.log.length caq] 24))
 have kB:=Blk.new (w.alloc (.cells #[.int .i64 h.term,.int .i64 h.vote,.int .i64 h.base,.int .i64 h.bterm,.int .i64 h.members,.string h.snap,.slice p h.log.length cap] 24)) #[.int .i64 ws.h.term,.int .i64 ws.h.vote,.int .i64 ws.h.base,.int .i64 ws.h.bterm,.int .i64 ws.h.members,.string ws.h.snap,.slice q ws.h.log.length caq] 24;rw [show (w.alloc (.cells #[.int .i64 h.term,.int .i64 h.vote,.int .i64 h.base,.int .i64 h.bterm,.int .i64 h.members,.string h.snap,.slice p h.log.length cap] 24)).heap.size=w.heap.size+1 from by simp] at kB;have hiff:=sameW_iff ws.h h
 have hz0:∀ z:After ((w.alloc (.cells #[.int .i64 h.term,.int .i64 h.vote,.int .i64 h.base,.int .i64 h.bterm,.int .i64 h.members,.string h.snap,.slice p h.log.length cap] 24)).alloc (.cells #[.int .i64 ws.h.term,.int .i64 ws.h.vote,.int .i64 ws.h.base,.int .i64 ws.h.bterm,.int .i64 ws.h.members,.string ws.h.snap,.slice q ws.h.log.length caq] 24)),z.1.cell? ⟨w.heap.size,6,none⟩=some (.slice p h.log.length cap):=fun z=>(kA.ext z.2).cell 6 _ rfl
 have hz1:∀ z:After ((w.alloc (.cells #[.int .i64 h.term,.int .i64 h.vote,.int .i64 h.base,.int .i64 h.bterm,.int .i64 h.members,.string h.snap,.slice p h.log.length cap] 24)).alloc (.cells #[.int .i64 ws.h.term,.int .i64 ws.h.vote,.int .i64 ws.h.base,.int .i64 ws.h.bterm,.int .i64 ws.h.members,.string ws.h.snap,.slice q ws.h.log.length caq] 24)),z.1.cell? ⟨w.heap.size+1,6,none⟩=some (.slice q ws.h.log.length caq):=fun z=>(kB.ext z.2).cell 6 _ rfl
 have hcl:∀ z:After ((w.alloc (.cells #[.int .i64 h.term,.int .i64 h.vote,.int .i64 h.base,.int .i64 h.bterm,.int .i64 h.members,.string h.snap,.slice p h.log.length cap] 24)).alloc (.cells #[.int .i64 ws.h.term,.int .i64 ws.h.vote,.int .i64 ws.h.base,.int .i64 ws.h.bterm,.int .i64 ws.h.members,.string ws.h.snap,.slice q ws.h.log.length caq] 24)),Calls Tryz.prog 103 #[.slice p h.log.length cap,.slice q ws.h.log.length caq] z.1 fun e w'=>e=.returned (.int .i64 (commonE h.log ws.h.log:Nat))∧∃ y:After ((w.alloc (.cells #[.int .i64 h.term,.int .i64 h.vote,.int .i64 h.base,.int .i64 h.bterm,.int .i64 h.members,.string h.snap,.slice p h.log.length cap] 24)).alloc (.cells #[.int .i64 ws.h.term,.int .i64 ws.h.vote,.int .i64 ws.h.base,.int .i64 ws.h.bterm,.int .i64 ws.h.members,.string ws.h.snap,.slice q ws.h.log.length caq] 24)),w'=y.1:=fun z=>z.call (walCommon _ _ _ _ z.1 ((hu.ext bW).ext z.2) ((hw.log.ext bW).ext z.2))
 have Hiff:=Lib.hid hiff;clear hiff kA kB hu hw;generalize sameW ws.h h=R at *
 by_cases e0:h.term=ws.h.term
 case neg =>
  have n0:(h.term !=ws.h.term)=true:=by simpa using e0
  have Hr:=Lib.hid (no_of Hiff.out (fun hh=>e0 hh.1));clear e0 hz0 hz1 hcl Hiff;go_enter Tryz.func70,Tryz.ntmps70
  go_wp2
  go_ret
  exact ⟨ret_bool Hr.out,bW⟩
 have n0:(h.term !=ws.h.term)=false:=by simpa using e0
 have E0:=Lib.hid e0;clear e0
 by_cases e1:h.vote=ws.h.vote
 case neg =>
  have n1:(h.vote !=ws.h.vote)=true:=by simpa using e1
  have Hr:=Lib.hid (no_of Hiff.out (fun hh=>e1 hh.2.1));clear e1 hz0 hz1 hcl Hiff;go_enter Tryz.func70,Tryz.ntmps70
  go_wp2
  go_ret
  exact ⟨ret_bool Hr.out,bW⟩
 have n1:(h.vote !=ws.h.vote)=false:=by simpa using e1
 have E1:=Lib.hid e1;clear e1
 by_cases e2:h.base=ws.h.base
 case neg =>
  have n2:(h.base !=ws.h.base)=true:=by simpa using e2
  have Hr:=Lib.hid (no_of Hiff.out (fun hh=>e2 hh.2.2.1));clear e2 hz0 hz1 hcl Hiff;go_enter Tryz.func70,Tryz.ntmps70
  go_wp2
  go_ret
  exact ⟨ret_bool Hr.out,bW⟩
 have n2:(h.base !=ws.h.base)=false:=by simpa using e2
 have E2:=Lib.hid e2;clear e2
 by_cases e3:h.bterm=ws.h.bterm
 case neg =>
  have n3:(h.bterm !=ws.h.bterm)=true:=by simpa using e3
  have Hr:=Lib.hid (no_of Hiff.out (fun hh=>e3 hh.2.2.2.1));clear e3 hz0 hz1 hcl Hiff;go_enter Tryz.func70,Tryz.ntmps70
  go_wp2
  go_ret
  exact ⟨ret_bool Hr.out,bW⟩
 have n3:(h.bterm !=ws.h.bterm)=false:=by simpa using e3
 have E3:=Lib.hid e3;clear e3
 by_cases e4:h.members=ws.h.members
 case neg =>
  have n4:(h.members !=ws.h.members)=true:=by simpa using e4
  have Hr:=Lib.hid (no_of Hiff.out (fun hh=>e4 hh.2.2.2.2.1));clear e4 hz0 hz1 hcl Hiff;go_enter Tryz.func70,Tryz.ntmps70
  go_wp2
  go_ret
  exact ⟨ret_bool Hr.out,bW⟩
 have n4:(h.members !=ws.h.members)=false:=by simpa using e4
 have E4:=Lib.hid e4;clear e4
 by_cases hl:h.log.length=ws.h.log.length
 ·have hl1:((h.log.length:Int) == (ws.h.log.length:Int))=true:=by simp [hl]
  by_cases hc:commonE h.log ws.h.log=h.log.length
  ·have hc1:((commonE h.log ws.h.log:Nat):Int) == (h.log.length:Int):=by simp [hc]
   have Hr:=Lib.hid (Hiff.out.2 ⟨E0.out,E1.out,E2.out,E3.out,E4.out,hl,hc⟩);clear hl hc Hiff;generalize commonE h.log ws.h.log=C at *;go_enter Tryz.func70,Tryz.ntmps70
   go_wp2_with fail
   generalize (w.alloc (.cells #[.int .i64 h.term,.int .i64 h.vote,.int .i64 h.base,.int .i64 h.bterm,.int .i64 h.members,.string h.snap,.slice p h.log.length cap] 24)).alloc (.cells #[.int .i64 ws.h.term,.int .i64 ws.h.vote,.int .i64 ws.h.base,.int .i64 ws.h.bterm,.int .i64 ws.h.members,.string ws.h.snap,.slice q ws.h.log.length caq] 24)=W at *;refine wp_region_after (by kernel_rfl) (by kernel_rfl) ?_
   repeat (go_big_quiet_step (exact hcl _))
   refine wpQuiet_nil ?_;rintro w7 ⟨⟨w8,c7⟩,hw⟩;obtain rfl:w7=w8:=hw;have hb7:=bW.trans (c7.mono bW.size);clear hcl hz0 hz1;go_wp2_with fail
   go_ret
   exact ⟨ret_bool Hr.out.symm,hb7⟩
  ·have hc1:(((commonE h.log ws.h.log:Nat):Int) == (h.log.length:Int))=false:=by simp;omega
   have Hr:=Lib.hid (no_of Hiff.out (fun hh=>hc hh.2.2.2.2.2.2));clear hl hc Hiff;generalize commonE h.log ws.h.log=C at *;go_enter Tryz.func70,Tryz.ntmps70
   go_wp2_with fail
   generalize (w.alloc (.cells #[.int .i64 h.term,.int .i64 h.vote,.int .i64 h.base,.int .i64 h.bterm,.int .i64 h.members,.string h.snap,.slice p h.log.length cap] 24)).alloc (.cells #[.int .i64 ws.h.term,.int .i64 ws.h.vote,.int .i64 ws.h.base,.int .i64 ws.h.bterm,.int .i64 ws.h.members,.string ws.h.snap,.slice q ws.h.log.length caq] 24)=W at *;refine wp_region_after (by kernel_rfl) (by kernel_rfl) ?_
   repeat (go_big_quiet_step (exact hcl _))
   refine wpQuiet_nil ?_;rintro w7 ⟨⟨w8,c7⟩,hw⟩;obtain rfl:w7=w8:=hw;have hb7:=bW.trans (c7.mono bW.size);clear hcl hz0 hz1;go_wp2_with fail
   go_ret
   exact ⟨ret_bool Hr.out,hb7⟩
 ·have hl1:((h.log.length:Int) == (ws.h.log.length:Int))=false:=by simp;omega
  have Hr:=Lib.hid (no_of Hiff.out (fun hh=>hl hh.2.2.2.2.2.1));clear hl Hiff;go_enter Tryz.func70,Tryz.ntmps70
  go_wp2_with fail
  generalize (w.alloc (.cells #[.int .i64 h.term,.int .i64 h.vote,.int .i64 h.base,.int .i64 h.bterm,.int .i64 h.members,.string h.snap,.slice p h.log.length cap] 24)).alloc (.cells #[.int .i64 ws.h.term,.int .i64 ws.h.vote,.int .i64 ws.h.base,.int .i64 ws.h.bterm,.int .i64 ws.h.members,.string ws.h.snap,.slice q ws.h.log.length caq] 24)=W at *;refine wp_region_after (by kernel_rfl) (by kernel_rfl) ?_
  repeat (go_big_quiet_step (exact hcl _))
  refine wpQuiet_nil ?_;rintro w7 ⟨⟨w8,c7⟩,hw⟩;obtain rfl:w7=w8:=hw;have hb7:=bW.trans (c7.mono bW.size);clear hcl hz0 hz1;go_wp2_with fail
  go_ret
  exact ⟨ret_bool Hr.out,hb7⟩
end
section
open Go Go.RowKit Go.PlainAid BigFrame
attribute [local go_sem] After.same
theorem etyEq_eq {x y:Ety} (h:etyEq x y=true):x=y:=by
 unfold etyEq at h;simp only [Bool.and_eq_true,decide_eq_true_eq] at h
 obtain ⟨⟨h1,h2⟩,h3⟩:=h;have:=(eqS_iff _ _).1 h3
 cases x;cases y;simp_all
theorem etyEq_self (x:Ety):etyEq x x=true:=by
 unfold etyEq;simp [eqS_refl]
theorem commonE_all:∀ {a b:List Ety},a.length=b.length→commonE a b=a.length→a=b
 | [],[],_,_=>rfl
 | [],_::_,h,_=>by simp at h
 | _::_,[],h,_=>by simp at h
 | x::r,y::s,h,hc=>by
  rw [commonE] at hc
  split at hc
  ·rename_i e
   have e1:x=y:=etyEq_eq e;have e2:r=s:=commonE_all (by simpa using h) (by simpa using hc);rw [e1,e2]
  ·simp at hc
theorem commonE_self:∀ (a:List Ety),commonE a a=a.length
 | []=>rfl
 | x::r=>by rw [commonE,if_pos (etyEq_self x),commonE_self r];rfl
theorem same_iff (h x:Hrd):h=x↔(h.term=x.term∧h.vote=x.vote∧h.base=x.base∧h.bterm=x.bterm∧h.members=x.members∧h.snap=x.snap∧h.log.length=x.log.length∧commonE h.log x.log=h.log.length):=by
 constructor
 ·rintro rfl;exact ⟨rfl,rfl,rfl,rfl,rfl,rfl,rfl,commonE_self _⟩
 ·rintro ⟨h1,h2,h3,h4,h5,h6,h7,h8⟩;have:=commonE_all h7 h8
  cases h;cases x;simp_all
theorem gs_ext {a b:ByteArray} (h:a.toList=b.toList):a=b:=(eqS_iff a b).1 (by unfold eqS;simp [h])
open Classical in
theorem refSame {w:World} (h x:Hrd) (u v:Value) (hu:Rd etyE w u h.log) (hv:Rd etyE w v x.log) :
 Calls Tryz.prog 20 #[hrdA h u,hrdA x v] w fun e w'=>e=.returned (.bool (decide (h=x)))∧Below w.heap.size w w':=by
 obtain ⟨p,cap,rfl⟩:=hu.shape;obtain ⟨q,caq,rfl⟩:=hv.shape;have m1:=hu.le;unfold maxLen at m1;have bW:Below w.heap.size w ((w.alloc (.cells #[.int .i64 h.term,.int .i64 h.vote,.int .i64 h.base,.int .i64 h.bterm,.int .i64 h.members,.string h.snap,.slice p h.log.length cap] 24)).alloc (.cells #[.int .i64 x.term,.int .i64 x.vote,.int .i64 x.base,.int .i64 x.bterm,.int .i64 x.members,.string x.snap,.slice q x.log.length caq] 24)):=(below_alloc _ _).trans ((below_alloc _ _).mono (by simp));have hu2:=hu.ext bW;have hv2:=hv.ext bW
 have hiff:(decide (h=x))=true↔_:=(decide_eq_true_iff (p:=h=x)).trans (same_iff h x);have Hiff:=Lib.hid hiff;have hle:=commonE_le h.log x.log;have kA:=(Blk.new w #[.int .i64 h.term,.int .i64 h.vote,.int .i64 h.base,.int .i64 h.bterm,.int .i64 h.members,.string h.snap,.slice p h.log.length cap] 24).ext (below_alloc _ (.cells #[.int .i64 x.term,.int .i64 x.vote,.int .i64 x.base,.int .i64 x.bterm,.int .i64 x.members,.string x.snap,.slice q x.log.length caq] 24))
 have kB:=Blk.new (w.alloc (.cells #[.int .i64 h.term,.int .i64 h.vote,.int .i64 h.base,.int .i64 h.bterm,.int .i64 h.members,.string h.snap,.slice p h.log.length cap] 24)) #[.int .i64 x.term,.int .i64 x.vote,.int .i64 x.base,.int .i64 x.bterm,.int .i64 x.members,.string x.snap,.slice q x.log.length caq] 24;rw [show (w.alloc (.cells #[.int .i64 h.term,.int .i64 h.vote,.int .i64 h.base,.int .i64 h.bterm,.int .i64 h.members,.string h.snap,.slice p h.log.length cap] 24)).heap.size=w.heap.size+1 from by simp] at kB
 have hz0:((w.alloc (.cells #[.int .i64 h.term,.int .i64 h.vote,.int .i64 h.base,.int .i64 h.bterm,.int .i64 h.members,.string h.snap,.slice p h.log.length cap] 24)).alloc (.cells #[.int .i64 x.term,.int .i64 x.vote,.int .i64 x.base,.int .i64 x.bterm,.int .i64 x.members,.string x.snap,.slice q x.log.length caq] 24)).cell? ⟨w.heap.size,6,none⟩=some (.slice p h.log.length cap):=kA.cell 6 _ rfl
 have hz1:((w.alloc (.cells #[.int .i64 h.term,.int .i64 h.vote,.int .i64 h.base,.int .i64 h.bterm,.int .i64 h.members,.string h.snap,.slice p h.log.length cap] 24)).alloc (.cells #[.int .i64 x.term,.int .i64 x.vote,.int .i64 x.base,.int .i64 x.bterm,.int .i64 x.members,.string x.snap,.slice q x.log.length caq] 24)).cell? ⟨w.heap.size+1,6,none⟩=some (.slice q x.log.length caq):=kB.cell 6 _ rfl;clear hiff hu hv kA kB;generalize decide (h=x)=R at *
 by_cases e0:h.term=x.term
 case neg =>
  have n0:(h.term !=x.term)=true:=by simpa using e0
  have Hr:=Lib.hid (no_of Hiff.out (fun hh=>e0 hh.1));clear e0 hu2 hv2 hz0 hz1 Hiff;go_enter Tryz.func20,Tryz.ntmps20
  go_wp2
  go_ret
  exact ⟨ret_bool Hr.out,bW⟩

 have n0:(h.term !=x.term)=false:=by simpa using e0
 have E0:=Lib.hid e0;clear e0
 by_cases e1:h.vote=x.vote
 case neg =>
  have n1:(h.vote !=x.vote)=true:=by simpa using e1
  have Hr:=Lib.hid (no_of Hiff.out (fun hh=>e1 hh.2.1));clear e1 hu2 hv2 hz0 hz1 Hiff;go_enter Tryz.func20,Tryz.ntmps20
  go_wp2
  go_ret
  exact ⟨ret_bool Hr.out,bW⟩

 have n1:(h.vote !=x.vote)=false:=by simpa using e1
 have E1:=Lib.hid e1;clear e1
 by_cases e2:h.base=x.base
 case neg =>
  have n2:(h.base !=x.base)=true:=by simpa using e2
  have Hr:=Lib.hid (no_of Hiff.out (fun hh=>e2 hh.2.2.1));clear e2 hu2 hv2 hz0 hz1 Hiff;go_enter Tryz.func20,Tryz.ntmps20
  go_wp2
  go_ret
  exact ⟨ret_bool Hr.out,bW⟩

 have n2:(h.base !=x.base)=false:=by simpa using e2
 have E2:=Lib.hid e2;clear e2
 by_cases e3:h.bterm=x.bterm
 case neg =>
  have n3:(h.bterm !=x.bterm)=true:=by simpa using e3
  have Hr:=Lib.hid (no_of Hiff.out (fun hh=>e3 hh.2.2.2.1));clear e3 hu2 hv2 hz0 hz1 Hiff;go_enter Tryz.func20,Tryz.ntmps20
  go_wp2
  go_ret
  exact ⟨ret_bool Hr.out,bW⟩

 have n3:(h.bterm !=x.bterm)=false:=by simpa using e3
 have E3:=Lib.hid e3;clear e3
 by_cases e4:h.members=x.members
 case neg =>
  have n4:(h.members !=x.members)=true:=by simpa using e4
  have Hr:=Lib.hid (no_of Hiff.out (fun hh=>e4 hh.2.2.2.2.1));clear e4 hu2 hv2 hz0 hz1 Hiff;go_enter Tryz.func20,Tryz.ntmps20
  go_wp2
  go_ret
  exact ⟨ret_bool Hr.out,bW⟩

 have n4:(h.members !=x.members)=false:=by simpa using e4
 have E4:=Lib.hid e4;clear e4
 by_cases e5:h.snap=x.snap
 case neg =>
  have n5:¬ h.snap.toList=x.snap.toList:=fun h5=>e5 (gs_ext h5);have Hr:=Lib.hid (no_of Hiff.out (fun hh=>e5 hh.2.2.2.2.2.1));clear e5 hu2 hv2 hz0 hz1 Hiff;go_enter Tryz.func20,Tryz.ntmps20
  go_wp2
  go_ret
  exact ⟨ret_bool Hr.out,bW⟩

 have n5:h.snap.toList=x.snap.toList:=by rw [e5]
 have E5:=Lib.hid e5;clear e5
 by_cases el:h.log.length=x.log.length
 case neg =>
  have nl:((h.log.length:Int) !=(x.log.length:Int))=true:=by simp;omega
  have Hr:=Lib.hid (no_of Hiff.out (fun hh=>el hh.2.2.2.2.2.2.1));clear el hu2 hv2 hz0 hz1 Hiff;go_enter Tryz.func20,Tryz.ntmps20
  go_wp2
  go_ret
  exact ⟨ret_bool Hr.out,bW⟩
 have nl:((h.log.length:Int) !=(x.log.length:Int))=false:=by simp;omega
 have El:=Lib.hid el;clear el;go_enter Tryz.func20,Tryz.ntmps20
 go_wp2
 generalize hZ:(w.alloc (.cells #[.int .i64 h.term,.int .i64 h.vote,.int .i64 h.base,.int .i64 h.bterm,.int .i64 h.members,.string h.snap,.slice p h.log.length cap] 24)).alloc (.cells #[.int .i64 x.term,.int .i64 x.vote,.int .i64 x.base,.int .i64 x.bterm,.int .i64 x.members,.string x.snap,.slice q x.log.length caq] 24)=W at *;clear hZ
 go_loopw [5] (fun i wr=>∃ (k m:Nat),i=.int .i64 k∧wr=W.drewN m∧k≤commonE h.log x.log) (fun i _=>h.log.length - (intOf i).toNat)
 case atStart=>exact ⟨0,0,rfl,rfl,Nat.zero_le _⟩
 case round =>
  obtain ⟨k,m,rfl,rfl,hk⟩:=hrel;have hi0:(0:Int)≤(k:Int):=by omega
  by_cases ha:k<h.log.length
  ·have ha1:(k:Int)<(h.log.length:Int):=by omega
   have hb:k<x.log.length:=by have:=El.out;omega
   have hb1:(k:Int)<(x.log.length:Int):=by omega
   obtain ⟨ba,oa,rfl⟩:=Rd.blk hu2 (by omega);obtain ⟨bb,ob,rfl⟩:=Rd.blk hv2 (by omega);obtain ⟨a0,a1,a2⟩:=ety3 hu2 ha;obtain ⟨b0,b1,b2⟩:=ety3 hv2 hb;have hat:=commonE_at hk ha hb;have Hat:=Lib.hid hat;clear hat;generalize h.log[k]=s at *;generalize x.log[k]=y at *;have heql:=fun (z:World)=>neq_ety s y z
   cases he:etyEq s y with
   | true =>
    rw [he] at heql Hat;have Hk1:=Lib.hid (show k+1≤commonE h.log x.log by have:=Hat.out;rw [if_pos rfl] at this;omega);clear he;go_wp2
    go_quiet (fail)
    go_wp2
    go_roundw
    case rel=>exact ⟨k+1,_,by go_num,rfl,Hk1.out⟩
    case measure=>simp [intOf];omega
   | false =>
    rw [he] at heql Hat;have Hr:=Lib.hid (no_of Hiff.out (fun hh=>by have:=Hat.out;rw [if_neg (by simp)] at this;have:=hh.2.2.2.2.2.2.2;omega));clear he;go_wp2
    go_quiet (fail)
    go_wp2
    go_ret
    exact ⟨ret_bool Hr.out,bW.trans (((below_drawn W.heap.size W m).trans (below_drawn _ _ nq)).mono bW.size)⟩
  ·have ha1:¬ (k:Int)<(h.log.length:Int):=by omega
   have Hr:=Lib.hid (Hiff.out.2 ⟨E0.out,E1.out,E2.out,E3.out,E4.out,E5.out,El.out,by omega⟩);go_wp2
   go_ret
   exact ⟨ret_bool Hr.out.symm,bW.trans ((below_drawn W.heap.size W m).mono bW.size)⟩
end
section
open Go Go.RowKit Go.PlainAid BigFrame
attribute [local go_sem] After.same
theorem refEntry (x:Ety) (b t:Int) (w:World):Calls Tryz.prog 69 #[.agg #[.int .i64 x.term,.int .i64 x.members,.string x.data],.int .i64 b,.int .i64 t] w fun e w'=>e=.returned (.bool (fitsE x b t))∧Below w.heap.size w w':=by
 have Hf:=Lib.hid (fitsE_iff x b t);generalize fitsE x b t=r at *
 by_cases hd:x.data.size=0<;>cases d1:(x.members == 0)
 all_goals
  first | have he:=str_none hd | have he:=str_some hd
  simp only [beq_iff_eq,beq_eq_false_iff_ne,ne_eq] at d1
  have d2:(x.members == 0)=decide (x.members=0):=rfl
  first | rw [decide_eq_true d1] at d2 | rw [decide_eq_false d1] at d2
  go_enter Tryz.func69,Tryz.ntmps69
  go_wp2
  all_goals
   go_ret
   refine ⟨ret_bool (bool_of Hf.out ?_).symm.symm,below_alloc _ _⟩
   first
   | (simp;done)
   | (simp;omega)
   | (constructor<;>intro h<;>simp_all<;>omega)
theorem rightH_all (h:Hrd):rightH h=true↔(((0≤h.term∧h.term≤1099511627776 ∧ -1≤h.vote∧h.vote<7∧0≤h.base∧h.base≤1099511627776∧0≤h.bterm∧h.bterm≤h.term)∧(h.base=0↔h.bterm=0)∧1≤h.members∧h.members<128∧(h.base=0↔h.snap.size=0)∧h.snap.size≤65536∧h.log.length≤200∧h.base≤1099511627776 - (h.log.length:Int))∧logOk h.log h.bterm h.term=true):=by
 unfold rightH;rw [Bool.and_eq_true,Bool.and_eq_true,bareH_all,beq_iff_eq,decide_eq_decide,decide_eq_true_iff]
 constructor
 ·rintro ⟨⟨⟨⟨a1,a2,a3,a4,a5,a6,a7,a8,a9,a10,a11⟩,a12,a13,a14⟩,b1⟩,b2⟩;exact ⟨⟨⟨a1,a2,a3,a4,a7,a8,a9,a10⟩,a11.symm,a5,by omega,b1.symm,b2,a12,by omega⟩,a14⟩
 ·rintro ⟨⟨⟨a1,a2,a3,a4,a7,a8,a9,a10⟩,a11,a5,a6,b1,b2,a12,a13⟩,a14⟩;exact ⟨⟨⟨⟨a1,a2,a3,a4,a5,by omega,a7,a8,a9,a10,a11.symm⟩,a12,by omega,a14⟩,b1.symm⟩,b2⟩
theorem empty_eq (s:ByteArray):s.toList.isEmpty=decide (s.size=0):=by
 by_cases hs:s.size=0
 ·rw [str_none hs,decide_eq_true hs]
 ·rw [str_some hs,decide_eq_false hs]
theorem refRight (h:Hrd) (v:Value) (w:World) (hv:Rd etyE w v h.log) :
 Calls Tryz.prog 24 #[hrdA h v] w fun e w'=>e=.returned (.bool (rightH h))∧Below w.heap.size w w':=by
 obtain ⟨p,cap,rfl⟩:=hv.shape;have hmax:=hv.le;unfold maxLen at hmax;have HB:=Lib.hid (rightH_all h);generalize rightH h=B at *;have bW:=below_alloc w (.cells #[.int .i64 h.term,.int .i64 h.vote,.int .i64 h.base,.int .i64 h.bterm,.int .i64 h.members,.string h.snap,.slice p h.log.length cap] 24);have kA:=Blk.new w #[.int .i64 h.term,.int .i64 h.vote,.int .i64 h.base,.int .i64 h.bterm,.int .i64 h.members,.string h.snap,.slice p h.log.length cap] 24;have x0:=kA.cell 0 _ rfl;have x1:=kA.cell 1 _ rfl;have x2:=kA.cell 2 _ rfl;have x3:=kA.cell 3 _ rfl;have x4:=kA.cell 4 _ rfl;have x5:=kA.cell 5 _ rfl
 have x6:=kA.cell 6 _ rfl;clear kA
 by_cases e0:0≤h.term
 case neg =>
  have Hr:=Lib.hid (no_of HB.out (fun hh=>e0 hh.1.1.1));have n0:decide (h.term<0)=true:=decide_eq_true (by omega);clear e0;clear hv HB;go_enter Tryz.func24,Tryz.ntmps24
  go_upto_region 1 with (fail)
  refine wp_region_plain2 (by simp only [List.append];rfl) ?_
  repeat (go_big_quiet_step (fail))
  refine wpQuiet_nil ?_;go_wp2
  go_ret
  exact ⟨ret_bool Hr.out,bW⟩
 have n0:decide (h.term<0)=false:=decide_eq_false (by omega);have E0:=Lib.hid e0;clear e0
 by_cases e1:h.term≤1099511627776
 case neg =>
  have Hr:=Lib.hid (no_of HB.out (fun hh=>e1 hh.1.1.2.1));have n1:decide (1099511627776<h.term)=true:=decide_eq_true (by omega);clear e1;clear hv HB;go_enter Tryz.func24,Tryz.ntmps24
  go_upto_region 1 with (fail)
  refine wp_region_plain2 (by simp only [List.append];rfl) ?_
  repeat (go_big_quiet_step (fail))
  refine wpQuiet_nil ?_;go_wp2
  go_ret
  exact ⟨ret_bool Hr.out,bW⟩
 have n1:decide (1099511627776<h.term)=false:=decide_eq_false (by omega);have E1:=Lib.hid e1;clear e1
 by_cases e2 : -1≤h.vote
 case neg =>
  have Hr:=Lib.hid (no_of HB.out (fun hh=>e2 hh.1.1.2.2.1));have n2:decide (h.vote < -1)=true:=decide_eq_true (by omega);clear e2;clear hv HB;go_enter Tryz.func24,Tryz.ntmps24
  go_upto_region 1 with (fail)
  refine wp_region_plain2 (by simp only [List.append];rfl) ?_
  repeat (go_big_quiet_step (fail))
  refine wpQuiet_nil ?_;go_wp2
  go_ret
  exact ⟨ret_bool Hr.out,bW⟩
 have n2:decide (h.vote < -1)=false:=decide_eq_false (by omega);have E2:=Lib.hid e2;clear e2
 by_cases e3:h.vote<7
 case neg =>
  have Hr:=Lib.hid (no_of HB.out (fun hh=>e3 hh.1.1.2.2.2.1));have n3:decide (7≤h.vote)=true:=decide_eq_true (by omega);clear e3;clear hv HB;go_enter Tryz.func24,Tryz.ntmps24
  go_upto_region 1 with (fail)
  refine wp_region_plain2 (by simp only [List.append];rfl) ?_
  repeat (go_big_quiet_step (fail))
  refine wpQuiet_nil ?_;go_wp2
  go_ret
  exact ⟨ret_bool Hr.out,bW⟩
 have n3:decide (7≤h.vote)=false:=decide_eq_false (by omega);have E3:=Lib.hid e3;clear e3
 by_cases e4:0≤h.base
 case neg =>
  have Hr:=Lib.hid (no_of HB.out (fun hh=>e4 hh.1.1.2.2.2.2.1));have n4:decide (h.base<0)=true:=decide_eq_true (by omega);clear e4;clear hv HB;go_enter Tryz.func24,Tryz.ntmps24
  go_upto_region 1 with (fail)
  refine wp_region_plain2 (by simp only [List.append];rfl) ?_
  repeat (go_big_quiet_step (fail))
  refine wpQuiet_nil ?_;go_wp2
  go_ret
  exact ⟨ret_bool Hr.out,bW⟩
 have n4:decide (h.base<0)=false:=decide_eq_false (by omega);have E4:=Lib.hid e4;clear e4
 by_cases e5:h.base≤1099511627776
 case neg =>
  have Hr:=Lib.hid (no_of HB.out (fun hh=>e5 hh.1.1.2.2.2.2.2.1));have n5:decide (1099511627776<h.base)=true:=decide_eq_true (by omega);clear e5;clear hv HB;go_enter Tryz.func24,Tryz.ntmps24
  go_upto_region 1 with (fail)
  refine wp_region_plain2 (by simp only [List.append];rfl) ?_
  repeat (go_big_quiet_step (fail))
  refine wpQuiet_nil ?_;go_wp2
  go_ret
  exact ⟨ret_bool Hr.out,bW⟩
 have n5:decide (1099511627776<h.base)=false:=decide_eq_false (by omega);have E5:=Lib.hid e5;clear e5
 by_cases e6:0≤h.bterm
 case neg =>
  have Hr:=Lib.hid (no_of HB.out (fun hh=>e6 hh.1.1.2.2.2.2.2.2.1));have n6:decide (h.bterm<0)=true:=decide_eq_true (by omega);clear e6;clear hv HB;go_enter Tryz.func24,Tryz.ntmps24
  go_upto_region 1 with (fail)
  refine wp_region_plain2 (by simp only [List.append];rfl) ?_
  repeat (go_big_quiet_step (fail))
  refine wpQuiet_nil ?_;go_wp2
  go_ret
  exact ⟨ret_bool Hr.out,bW⟩
 have n6:decide (h.bterm<0)=false:=decide_eq_false (by omega);have E6:=Lib.hid e6;clear e6
 by_cases e7:h.bterm≤h.term
 case neg =>
  have Hr:=Lib.hid (no_of HB.out (fun hh=>e7 hh.1.1.2.2.2.2.2.2.2));have n7:decide (h.term<h.bterm)=true:=decide_eq_true (by omega);clear e7;clear hv HB;go_enter Tryz.func24,Tryz.ntmps24
  go_upto_region 1 with (fail)
  refine wp_region_plain2 (by simp only [List.append];rfl) ?_
  repeat (go_big_quiet_step (fail))
  refine wpQuiet_nil ?_;go_wp2
  go_ret
  exact ⟨ret_bool Hr.out,bW⟩
 have n7:decide (h.term<h.bterm)=false:=decide_eq_false (by omega);have E7:=Lib.hid e7;clear e7
 by_cases e8:(h.base=0↔h.bterm=0)
 case neg =>
  have Hr:=Lib.hid (no_of HB.out (fun hh=>e8 hh.1.2.1));have n8:(h.base == 0) = !(h.bterm == 0):=by
   have a1:(h.base == 0)=decide (h.base=0):=rfl;have a2:(h.bterm == 0)=decide (h.bterm=0):=rfl;rw [a1,a2]
   by_cases x:h.base=0<;>by_cases y:h.bterm=0<;>simp_all
  clear e8;clear hv HB;go_enter Tryz.func24,Tryz.ntmps24
  go_upto_region 1 with (fail)
  refine wp_region_plain2 (by simp only [List.append];rfl) ?_
  repeat (go_big_quiet_step (fail))
  refine wpQuiet_nil ?_;go_wp2
  go_ret
  exact ⟨ret_bool Hr.out,bW⟩
 have n8:(h.base == 0)=(h.bterm == 0):=by
  have a1:(h.base == 0)=decide (h.base=0):=rfl;have a2:(h.bterm == 0)=decide (h.bterm=0):=rfl;rw [a1,a2,decide_eq_decide];exact e8
 have E8:=Lib.hid e8;clear e8
 by_cases e9:1≤h.members
 case neg =>
  have Hr:=Lib.hid (no_of HB.out (fun hh=>e9 hh.1.2.2.1));have n9:decide (h.members<1)=true:=decide_eq_true (by omega);clear e9;clear hv HB;go_enter Tryz.func24,Tryz.ntmps24
  go_upto_region 1 with (fail)
  refine wp_region_plain2 (by simp only [List.append];rfl) ?_
  repeat (go_big_quiet_step (fail))
  refine wpQuiet_nil ?_;go_wp2
  go_ret
  exact ⟨ret_bool Hr.out,bW⟩
 have n9:decide (h.members<1)=false:=decide_eq_false (by omega);have E9:=Lib.hid e9;clear e9
 by_cases e10:h.members<128
 case neg =>
  have Hr:=Lib.hid (no_of HB.out (fun hh=>e10 hh.1.2.2.2.1));have n10:decide (128≤h.members)=true:=decide_eq_true (by omega);clear e10;clear hv HB;go_enter Tryz.func24,Tryz.ntmps24
  go_upto_region 1 with (fail)
  refine wp_region_plain2 (by simp only [List.append];rfl) ?_
  repeat (go_big_quiet_step (fail))
  refine wpQuiet_nil ?_;go_wp2
  go_ret
  exact ⟨ret_bool Hr.out,bW⟩
 have n10:decide (128≤h.members)=false:=decide_eq_false (by omega);have E10:=Lib.hid e10;clear e10
 by_cases e11:(h.base=0↔h.snap.size=0)
 case neg =>
  have Hr:=Lib.hid (no_of HB.out (fun hh=>e11 hh.1.2.2.2.2.1));have n11:h.snap.toList.isEmpty = !(h.bterm == 0):=by
   rw [←n8,empty_eq];have a1:(h.base == 0)=decide (h.base=0):=rfl;rw [a1]
   by_cases x:h.base=0<;>by_cases y:h.snap.size=0<;>simp_all
  clear e11;clear hv HB;go_enter Tryz.func24,Tryz.ntmps24
  go_upto_region 1 with (fail)
  refine wp_region_plain2 (by simp only [List.append];rfl) ?_
  repeat (go_big_quiet_step (fail))
  refine wpQuiet_nil ?_;go_wp2
  go_ret
  exact ⟨ret_bool Hr.out,bW⟩
 have n11:h.snap.toList.isEmpty=(h.bterm == 0):=by
  rw [←n8,empty_eq];have a1:(h.base == 0)=decide (h.base=0):=rfl;rw [a1,decide_eq_decide];exact e11.symm
 have E11:=Lib.hid e11;clear e11
 by_cases e12:h.snap.size≤65536
 case neg =>
  have Hr:=Lib.hid (no_of HB.out (fun hh=>e12 hh.1.2.2.2.2.2.1));have n12:decide ((65536:Int)<(h.snap.size:Int))=true:=decide_eq_true (by omega);clear e12;clear hv HB;go_enter Tryz.func24,Tryz.ntmps24
  go_upto_region 1 with (fail)
  refine wp_region_plain2 (by simp only [List.append];rfl) ?_
  repeat (go_big_quiet_step (fail))
  refine wpQuiet_nil ?_;go_wp2
  go_ret
  exact ⟨ret_bool Hr.out,bW⟩
 have n12:decide ((65536:Int)<(h.snap.size:Int))=false:=decide_eq_false (by omega);have E12:=Lib.hid e12;clear e12
 by_cases e13:h.log.length≤200
 case neg =>
  have Hr:=Lib.hid (no_of HB.out (fun hh=>e13 hh.1.2.2.2.2.2.2.1));have n13:decide ((200:Int)<(h.log.length:Int))=true:=decide_eq_true (by omega);clear e13;clear hv HB;go_enter Tryz.func24,Tryz.ntmps24
  go_upto_region 1 with (fail)
  refine wp_region_plain2 (by simp only [List.append];rfl) ?_
  repeat (go_big_quiet_step (fail))
  refine wpQuiet_nil ?_;go_wp2
  go_ret
  exact ⟨ret_bool Hr.out,bW⟩
 have n13:decide ((200:Int)<(h.log.length:Int))=false:=decide_eq_false (by omega);have E13:=Lib.hid e13;clear e13
 by_cases e14:h.base≤1099511627776 - (h.log.length:Int)
 case neg =>
  have Hr:=Lib.hid (no_of HB.out (fun hh=>e14 hh.1.2.2.2.2.2.2.2));have n14:decide (1099511627776 - (h.log.length:Int)<h.base)=true:=decide_eq_true (by omega);clear e14;clear hv HB;go_enter Tryz.func24,Tryz.ntmps24
  go_upto_region 1 with (fail)
  refine wp_region_plain2 (by simp only [List.append];rfl) ?_
  repeat (go_big_quiet_step (fail))
  refine wpQuiet_nil ?_;go_wp2
  go_ret
  exact ⟨ret_bool Hr.out,bW⟩
 have n14:decide (1099511627776 - (h.log.length:Int)<h.base)=false:=decide_eq_false (by omega);have E14:=Lib.hid e14;clear e14;have hh:((0≤h.term∧h.term≤1099511627776 ∧ -1≤h.vote∧h.vote<7∧0≤h.base∧h.base≤1099511627776∧0≤h.bterm∧h.bterm≤h.term)∧(h.base=0↔h.bterm=0)∧1≤h.members∧h.members<128∧(h.base=0↔h.snap.size=0)∧h.snap.size≤65536∧h.log.length≤200∧h.base≤1099511627776 - (h.log.length:Int)):=⟨⟨E0.out,E1.out,E2.out,E3.out,E4.out,E5.out,E6.out,E7.out⟩,E8.out,E9.out,E10.out,E11.out,E12.out,E13.out,E14.out⟩;have Hh:=Lib.hid hh;clear hh;clear E0 E1 E2 E3 E4 E5 E6 E7 E8 E9 E10 E11 E12 E13 E14
 have hvW:=hv.ext bW;have Hno:=Lib.hid (fun (k:Nat) (n:logOk (h.log.take k) h.bterm h.term=false)=>no_of HB.out (fun hh=>by have h2:=logOk_take hh.2 k;rw [n] at h2;cases h2));clear hv;go_enter Tryz.func24,Tryz.ntmps24
 go_upto_region 1 with (fail)
 refine wp_region_plain2 (by simp only [List.append];rfl) ?_
 repeat (go_big_quiet_step (fail))
 refine wpQuiet_nil ?_;go_wp2
 clear n0 n1 n2 n3 n4 n5 n6 n7 n8 n9 n10 n11 n12 n13 n14 x1 x2 x3 x4 x5;have hW:(w.alloc (.cells #[.int .i64 h.term,.int .i64 h.vote,.int .i64 h.base,.int .i64 h.bterm,.int .i64 h.members,.string h.snap,.slice p h.log.length cap] 24)).heap.size=w.heap.size+1:=by simp
 generalize hZ:w.alloc (.cells #[.int .i64 h.term,.int .i64 h.vote,.int .i64 h.base,.int .i64 h.bterm,.int .i64 h.members,.string h.snap,.slice p h.log.length cap] 24)=W at *;clear hZ
 go_loopw [3,4] (fun b i wr=>∃ k:Nat,k≤h.log.length∧i=.int .i64 k∧b=.int .i64 (lastT (h.log.take k) h.bterm)∧Hid (logOk (h.log.take k) h.bterm h.term=true)∧Below W.heap.size W wr) (fun _ i _=>h.log.length - (intOf i).toNat)
 case atStart=>exact ⟨0,by omega,rfl,rfl,rfl,Below.refl _ _⟩
 case round =>
  obtain ⟨k,hk,rfl,rfl,hlog,hb⟩:=hrel;have hbw:=bW.trans (hb.mono (by omega));have hwl:w.heap.size<W.heap.size:=by omega
  have c0:wr.cell? ⟨w.heap.size,0,none⟩=some (.int .i64 h.term):=by rw [hb.cell (p:=⟨w.heap.size,0,none⟩) hwl];exact x0
  have c6:wr.cell? ⟨w.heap.size,6,none⟩=some (.slice p h.log.length cap):=by rw [hb.cell (p:=⟨w.heap.size,6,none⟩) hwl];exact x6
  clear x0 x6
  by_cases hlt:k<h.log.length
  ·have hvr:=hvW.ext hb;obtain ⟨bb,off,rfl⟩:=Rd.blk hvr (by omega);have hi:(k:Int)<(h.log.length:Int):=by omega
   have hi0:(0:Int)≤(k:Int):=by omega
   have hsz:=hb.size;have hsnoc:=Lib.hid (logOk_snoc hlt hlog.out);have hlast:lastT (h.log.take (k+1)) h.bterm=(h.log[k]).term:=by rw [List.take_succ_eq_append_getElem hlt,lastT_snoc]
   have Hlast:=Lib.hid hlast;have hz0:∀ z:After wr,z.1.cell? ⟨w.heap.size,0,none⟩=some (.int .i64 h.term):=fun z=>by rw [z.2.cell (p:=⟨w.heap.size,0,none⟩) (by show w.heap.size<_;omega)];exact c0
   have hz6:∀ z:After wr,z.1.cell? ⟨w.heap.size,6,none⟩=some (.slice (some ⟨bb,off,none⟩) h.log.length cap):=fun z=>by rw [z.2.cell (p:=⟨w.heap.size,6,none⟩) (by show w.heap.size<_;omega)];exact c6
   have hy0:∀ z:After wr,z.1.cell? ⟨bb,off+k * 3,none⟩=some (.int .i64 (h.log[k]).term):=fun z=>(ety3 (hvr.ext z.2) hlt).1;have hy1:∀ z:After wr,z.1.cell? ⟨bb,off+k * 3+1,none⟩=some (.int .i64 (h.log[k]).members):=fun z=>(ety3 (hvr.ext z.2) hlt).2.1;have hy2:∀ z:After wr,z.1.cell? ⟨bb,off+k * 3+2,none⟩=some (.string (h.log[k]).data):=fun z=>(ety3 (hvr.ext z.2) hlt).2.2;clear hlast hvW;generalize h.log[k]=x at *;generalize lastT (h.log.take k) h.bterm=T at *;go_wp2_with fail
   cases hf:fitsE x T h.term with
   | false =>
    have hcl:∀ z:After wr,Calls Tryz.prog 69 #[.agg #[.int .i64 x.term,.int .i64 x.members,.string x.data],.int .i64 T,.int .i64 h.term] z.1 fun e w'=>e=.returned (.bool false)∧∃ y:After wr,w'=y.1:=fun z=>z.call ((refEntry x T h.term z.1).mono fun e w' hh=>⟨by rw [hh.1,hf],hh.2⟩);have Hr:=Lib.hid (Hno.out (k+1) (by rw [hsnoc.out,hf]));clear hf;refine wp_region_after (by kernel_rfl) (by kernel_rfl) ?_
    repeat (go_big_quiet_step (exact hcl _))
    refine wpQuiet_nil ?_;rintro _ ⟨⟨w7,c7⟩,rfl⟩;clear hcl hz0 hz6 hy0 hy1 hy2;have b7:=hbw.trans (c7.mono hbw.size);go_wp2_with fail
    go_ret
    exact ⟨ret_bool Hr.out,b7⟩
   | true =>
    have hcl:∀ z:After wr,Calls Tryz.prog 69 #[.agg #[.int .i64 x.term,.int .i64 x.members,.string x.data],.int .i64 T,.int .i64 h.term] z.1 fun e w'=>e=.returned (.bool true)∧∃ y:After wr,w'=y.1:=fun z=>z.call ((refEntry x T h.term z.1).mono fun e w' hh=>⟨by rw [hh.1,hf],hh.2⟩);have Hok:=Lib.hid (show logOk (h.log.take (k+1)) h.bterm h.term=true by rw [hsnoc.out,hf]);clear hf;refine wp_region_after (by kernel_rfl) (by kernel_rfl) ?_
    repeat (go_big_quiet_step (exact hcl _))
    refine wpQuiet_nil ?_;rintro w7 ⟨⟨w7x,c7⟩,hw7⟩
    change w7=w7x at hw7
    subst hw7;have z6:w7.cell? ⟨w.heap.size,6,none⟩=some (.slice (some ⟨bb,off,none⟩) h.log.length cap):=hz6 ⟨w7,c7⟩;have y0:w7.cell? ⟨bb,off+k * 3,none⟩=some (.int .i64 x.term):=hy0 ⟨w7,c7⟩;have y1:w7.cell? ⟨bb,off+k * 3+1,none⟩=some (.int .i64 x.members):=hy1 ⟨w7,c7⟩;have y2:w7.cell? ⟨bb,off+k * 3+2,none⟩=some (.string x.data):=hy2 ⟨w7,c7⟩;clear hcl hz0 hz6 hy0 hy1 hy2;have b7:=hb.trans (c7.mono hsz);go_wp2_with fail
    go_roundw
    case rel=>exact ⟨k+1,by omega,by go_num,by rw [Hlast.out],Hok.out,b7⟩
    case measure=>simp [intOf];omega
  ·have hke:k=h.log.length:=by omega
   have hi:¬ (k:Int)<(h.log.length:Int):=by omega
   have Hk:=Lib.hid hke;clear hke;go_wp2
   go_ret
   have hl:=hlog.out;rw [Hk.out,List.take_of_length_le (Nat.le_refl _)] at hl;have hB:=HB.out.2 ⟨Hh.out,hl⟩;exact ⟨ret_bool hB.symm,hbw⟩
end
end Go.Proofs.YtgpgcnmnfnnkjaaGreatDoor
