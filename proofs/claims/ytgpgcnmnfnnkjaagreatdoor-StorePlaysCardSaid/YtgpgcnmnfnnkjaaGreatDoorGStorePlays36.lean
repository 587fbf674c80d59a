import Derived.Test.YtgpgcnmnfnnkjaaGreatDoorGStorePlays35
set_option linter.unusedVariables false
set_option linter.unusedSimpArgs false
set_option maxRecDepth 100000
set_option maxHeartbeats 16000000
namespace Go.Proofs.YtgpgcnmnfnnkjaaGreatDoor
section
open Go Go.RowKit Go.PlainAid BigFrame
attribute [local go_sem] After.same

theorem walAnew {w0 w:World} {X:Nat→Prop} {g gw:Nat} {d:Dk} {v:Value} {ws:Wl} (hd:DwS w0 X g d w) (ok:okD d=true) (hw:WalV w X g gw v ws) (h:Hrd) (u:Value) (hu:Rd etyE w u h.log) (htab:∀ w',Below w.heap.size w w'→TabW w') :
 Calls Tryz.prog 71 #[.pointer (some ⟨gw,0,none⟩),hrdA h u] w fun e w'=>e=.returned (.bool (anewW d ws h))∧Below w.heap.size w w':=by
 obtain ⟨p,cap,rfl⟩:=hu.shape;obtain ⟨q,caq,rfl⟩:=hw.log.shape;have hnum:=hw.num;have ca:=below_alloc w (.cells #[.int .i64 h.term,.int .i64 h.vote,.int .i64 h.base,.int .i64 h.bterm,.int .i64 h.members,.string h.snap,.slice p h.log.length cap] 24);have kA:=Blk.new w #[.int .i64 h.term,.int .i64 h.vote,.int .i64 h.base,.int .i64 h.bterm,.int .i64 h.members,.string h.snap,.slice p h.log.length cap] 24;have hd1:=hd.ext ca;have hw1:=hw.ext ca
 have han:anewW d ws h=(decide (ws.n=0) || decide (8192<(fileW d ws.n).length) || decide (h.base≠ws.h.base) || decide (h.bterm≠ws.h.bterm) || decide (h.members≠ws.h.members) || decide (h.term<ws.h.term) || (decide (h.term=ws.h.term) && decide (ws.h.vote ≠ -1) && decide (h.vote≠ws.h.vote))):=rfl;have Han:=Lib.hid han;have hfw:fileW d ws.n=(readD d (nameW ws.n)).getD []:=rfl;have Hfw:=Lib.hid hfw;clear han hfw;generalize anewW d ws h=R at *;generalize fileW d ws.n=FB at *;go_enter Tryz.func71,Tryz.ntmps71
 go_wp2_with fail
 generalize w.alloc (.cells #[.int .i64 h.term,.int .i64 h.vote,.int .i64 h.base,.int .i64 h.bterm,.int .i64 h.members,.string h.snap,.slice p h.log.length cap] 24)=W at *;refine wp_region_F (n:=14) (S:=fun w':World=>w'.cell? ⟨gw,0,none⟩=some (.pointer (some ⟨g,0,none⟩))∧w'.cell? ⟨gw,1,none⟩=some (.int .i64 (ws.n:Int))) (by kernel_rfl) ?_;have hHeld:(fun w':World=>w'.cell? ⟨gw,0,none⟩=some (.pointer (some ⟨g,0,none⟩))∧w'.cell? ⟨gw,1,none⟩=some (.int .i64 (ws.n:Int))) W.drew:=⟨hw1.c0,hw1.c1⟩;refine tk ?_ 0 ?_ hHeld ?_;rotate_left
 ·rintro w ⟨_,_⟩;dsimp only [bare];go_simp<;>with_reducible rfl
 try simp only [lyB,lyP,lyA,lyZ,lyS]
 refine tk ?_ 1 ?_ hHeld ?_;rotate_left
 ·rintro w ⟨_,_⟩;dsimp only [bare];go_simp<;>with_reducible rfl
 try simp only [lyB,lyP,lyA,lyZ,lyS]
 refine tk ?_ 2 ?_ hHeld ?_;rotate_left
 ·rintro w ⟨_,_⟩;dsimp only [bare];go_simp<;>with_reducible rfl
 try simp only [lyB,lyP,lyA,lyZ,lyS]
 refine tk ?_ 3 ?_ hHeld ?_;rotate_left
 ·rintro w ⟨_,_⟩;dsimp only [bare];go_simp<;>with_reducible rfl
 try simp only [lyB,lyP,lyA,lyZ,lyS]
 refine tk ?_ 4 ?_ hHeld ?_;rotate_left
 ·rintro w ⟨_,_⟩;dsimp only [bare];go_simp<;>with_reducible rfl
 try simp only [lyB,lyP,lyA,lyZ,lyS]
 refine tk ?_ 5 ?_ hHeld ?_;rotate_left
 ·rintro w ⟨_,_⟩;dsimp only [bare];go_simp<;>with_reducible rfl
 try simp only [lyB,lyP,lyA,lyZ,lyS]
 refine tk ?_ 6 ?_ hHeld ?_;rotate_left
 ·rintro w ⟨_,_⟩;dsimp only [bare];go_simp<;>with_reducible rfl
 try simp only [lyB,lyP,lyA,lyZ,lyS]
 refine tk ?_ 7 ?_ hHeld ?_;rotate_left
 ·rintro w ⟨_,_⟩;dsimp only [bare];go_simp<;>with_reducible rfl
 try simp only [lyB,lyP,lyA,lyZ,lyS]
 refine wpAnyF_one 8 _ _ _ rfl (by kernel_rfl) (fun K hK=>?_);dsimp only [bare];go_simp;refine (walNamed ws.n _ rfl (by omega) W.drew (htab _ (ca.drew))).mono ?_;rintro e w2 ⟨rfl,b2⟩;dsimp only;have bE:Below W.heap.size W w2:=(below_drew _ _).trans b2;have hd2:=hd1.ext bE;have hw2:=hw1.ext bE;refine hK _ _ ⟨hw2.c0,hw2.c1⟩ (fun hHeld=>?_);clear hK K
 try simp only [lyB,lyP,lyA,lyZ,lyS]
 refine wpAnyF_one 9 _ _ _ rfl (by kernel_rfl) (fun K hK=>?_);dsimp only [bare];go_simp;refine (lRead hd2 ok (nameW ws.n) rfl).mono ?_;rintro e w3 ⟨⟨r,rfl,own3⟩,b3⟩;dsimp only;have bF:=bE.trans (b3.mono bE.size);have hw3:=hw2.ext b3;refine hK _ _ ⟨hw3.c0,hw3.c1⟩ (fun hHeld=>?_);clear hK K
 try simp only [lyB,lyP,lyA,lyZ,lyS]
 refine tk ?_ 10 ?_ hHeld ?_;rotate_left
 ·rintro w ⟨_,_⟩;dsimp only [bare];go_simp<;>with_reducible rfl
 try simp only [lyB,lyP,lyA,lyZ,lyS]
 refine tk ?_ 11 ?_ hHeld ?_;rotate_left
 ·rintro w ⟨_,_⟩;dsimp only [bare];go_simp<;>with_reducible rfl
 try simp only [lyB,lyP,lyA,lyZ,lyS]
 refine tk ?_ 12 ?_ hHeld ?_;rotate_left
 ·rintro w ⟨_,_⟩;dsimp only [bare];go_simp<;>with_reducible rfl
 try simp only [lyB,lyP,lyA,lyZ,lyS]
 refine tk ?_ 13 ?_ hHeld ?_;rotate_left
 ·rintro w ⟨_,_⟩;dsimp only [bare];go_simp<;>with_reducible rfl
 try simp only [lyB,lyP,lyA,lyZ,lyS]
 refine wpAnyF_end (some 6) (Op.assign (Operand.tmp 20)) 4 rfl (by kernel_rfl) (by kernel_rfl) (fun K hK=>?_);dsimp only [bare];go_simp;refine hK _ _ ?_;clear hK K
 try simp only [lyB,lyP,lyA,lyZ,lyS]
 have hs3:=bF.size;have b03:Below w.heap.size w w3:=ca.trans (bF.mono ca.size);have kA3:=kA.ext bF;have hA3:=kA3.lt;have hg3:=hw3.blk.lt;have b04:Below w.heap.size w (w3.alloc (.cells #[.int .i64 ws.h.term,.int .i64 ws.h.vote,.int .i64 ws.h.base,.int .i64 ws.h.bterm,.int .i64 ws.h.members,.string ws.h.snap,.slice q ws.h.log.length caq] 24)):=b03.trans ((below_alloc _ _).mono b03.size);have a0:=kA3.cell 0 _ rfl;have a1:=kA3.cell 1 _ rfl;have a2:=kA3.cell 2 _ rfl;have a3:=kA3.cell 3 _ rfl;have a4:=kA3.cell 4 _ rfl;have a5:=kA3.cell 5 _ rfl;have c0:=hw3.c0;have c1:=hw3.c1;have c2:=hw3.c2
 have c3:=hw3.c3;have c4:=hw3.c4;have c5:=hw3.c5;have c6:=hw3.c6;have c7:=hw3.c7;have c8:=hw3.c8;have c9:=hw3.c9;have hd0:=hw3.c0;obtain ⟨pr,cr,rfl⟩:=own3.bytes.shape;have Hl:=Lib.hid (congrArg List.length Hfw.out);rw [←Hfw.out] at own3;rw [←Hl.out];clear hd hd1 hw hw1 hu kA kA3 ca hd2 hw2 hw3 own3 htab
 by_cases q0:ws.n=0
 ·have r0:((ws.n:Int) == 0)=true:=by simp;first | omega | exact q0
  have Hr:=Lib.hid (show R=true from Han.out.trans (by simp [q0]));clear q0;clear Han Hfw Hl;go_wp2_with fail
  go_ret
  exact ⟨ret_bool Hr.out.symm,b04⟩
 ·have r0:((ws.n:Int) == 0)=false:=by simp;first | omega | exact q0
  by_cases q1:8192<FB.length
  ·have r1:(8192:Int)<(FB.length:Int):=by omega
   have Hr:=Lib.hid (show R=true from Han.out.trans (by simp [q0,q1]));clear q0 q1;clear Han Hfw Hl;go_wp2_with fail
   go_ret
   exact ⟨ret_bool Hr.out.symm,b04⟩
  ·have r1:¬ (8192:Int)<(FB.length:Int):=by omega
   by_cases q2:h.base≠ws.h.base
   ·have r2:(h.base !=ws.h.base)=true:=by simpa using q2
    have Hr:=Lib.hid (show R=true from Han.out.trans (by simp [q0,q1,q2]));clear q0 q1 q2;clear Han Hfw Hl;go_wp2_with fail
    go_ret
    exact ⟨ret_bool Hr.out.symm,b04⟩
   ·have r2:(h.base !=ws.h.base)=false:=by simpa using q2
    by_cases q3:h.bterm≠ws.h.bterm
    ·have r3:(h.bterm !=ws.h.bterm)=true:=by simpa using q3
     have Hr:=Lib.hid (show R=true from Han.out.trans (by simp [q0,q1,q2,q3]));clear q0 q1 q2 q3;clear Han Hfw Hl;go_wp2_with fail
     go_ret
     exact ⟨ret_bool Hr.out.symm,b04⟩
    ·have r3:(h.bterm !=ws.h.bterm)=false:=by simpa using q3
     by_cases q4:h.members≠ws.h.members
     ·have r4:(h.members !=ws.h.members)=true:=by simpa using q4
      have Hr:=Lib.hid (show R=true from Han.out.trans (by simp [q0,q1,q2,q3,q4]));clear q0 q1 q2 q3 q4;clear Han Hfw Hl;go_wp2_with fail
      go_ret
      exact ⟨ret_bool Hr.out.symm,b04⟩
     ·have r4:(h.members !=ws.h.members)=false:=by simpa using q4
      by_cases q5:h.term<ws.h.term
      ·have Hr:=Lib.hid (show R=true from Han.out.trans (by simp [q0,q1,q2,q3,q4,q5]));clear q0 q1 q2 q3 q4;clear Han Hfw Hl;go_wp2_with fail
       go_ret
       exact ⟨ret_bool Hr.out.symm,b04⟩
      ·by_cases q6:h.term=ws.h.term
       ·have r6:(h.term == ws.h.term)=true:=by simpa using q6
        by_cases q7:ws.h.vote = -1
        ·have r7:(ws.h.vote != -1)=false:=by simpa using q7
         have Hr:=Lib.hid (show R=false from Han.out.trans (by simp [q0,q1,q2,q3,q4,q6,q7]));clear q0 q1 q2 q3 q4 q6 q7;clear Han Hfw Hl;go_wp2_with fail
         go_ret
         exact ⟨ret_bool Hr.out.symm,b04⟩
        ·have r7:(ws.h.vote != -1)=true:=by simpa using q7
         by_cases q8:h.vote=ws.h.vote
         ·have r8:(h.vote !=ws.h.vote)=false:=by simpa using q8
          have Hr:=Lib.hid (show R=false from Han.out.trans (by simp [q0,q1,q2,q3,q4,q6,q8]));clear q0 q1 q2 q3 q4 q6 q7 q8;clear Han Hfw Hl;go_wp2_with fail
          go_ret
          exact ⟨ret_bool Hr.out.symm,b04⟩
         ·have r8:(h.vote !=ws.h.vote)=true:=by simpa using q8
          have Hr:=Lib.hid (show R=true from Han.out.trans (by simp [q0,q1,q2,q3,q4,q6,q7,q8]));clear q0 q1 q2 q3 q4 q6 q7 q8;clear Han Hfw Hl;go_wp2_with fail
          go_ret
          exact ⟨ret_bool Hr.out.symm,b04⟩
       ·have r6:(h.term == ws.h.term)=false:=by simpa using q6
        have Hr:=Lib.hid (show R=false from Han.out.trans (by simp [q0,q1,q2,q3,q4,q5,q6]));clear q0 q1 q2 q3 q4 q6;clear Han Hfw Hl;go_wp2_with fail
        go_ret
        exact ⟨ret_bool Hr.out.symm,b04⟩
end
section
open Go Go.RowKit Go.PlainAid BigFrame
theorem digits_ge:∀ (k u:Nat),10 ^ k≤u→k+1≤(Lib.decDigits u).length
 | 0,u,_=>by
  rw [Lib.decDigits];split
  ·simp
  ·simp
 | k+1,u,h=>by
  rw [Lib.decDigits];have h10:10≤u:=by rw [Nat.pow_succ] at h;have:=Nat.pow_pos (n:=k) (show 0<10 by decide);omega
  rw [dif_neg (by omega),List.length_append,List.length_singleton];have:=digits_ge k (u / 10) (by rw [Nat.le_div_iff_mul_le (by decide), ←Nat.pow_succ];exact h);omega
theorem digits_few {u:Nat} (h:¬ 14<(Lib.decDigits u).length):u≤99999999999999:=by
 rcases Nat.lt_or_ge u 100000000000000 with h1 | h1
 ·omega
 ·have:=digits_ge 14 u (by simpa using h1);omega
theorem nameW_len (n:Nat):(nameW n).size=4+(Lib.decDigits n).length:=by
 show ((hdW++Lib.decDigits n).toArray).size=_
 simp [hdW];omega
theorem logOk_in:∀ {l:List Ety} {b t:Int},logOk l b t=true→∀ x ∈ l,1≤x.term∧x.term≤t∧0≤x.members∧x.members≤127∧x.data.size≤1100
 | [],_,_,_,x,hx=>by cases hx
 | y::r,b,t,h,x,hx=>by
  rw [logOk,Bool.and_eq_true] at h
  rcases List.mem_cons.1 hx with rfl | hx
  ·have:=(fitsE_iff _ _ _).1 h.1;omega
  ·exact logOk_in h.2 x hx
theorem HrdIn.of {h:Hrd} (hr:rightH h=true):HrdIn h∧0≤h.base∧h.base≤1099511627776:=by
 unfold rightH at hr;simp only [Bool.and_eq_true] at hr
 obtain ⟨⟨a1,a2,a3,a4,a5,a6,a7,a8,a9,a10,_⟩,a12,_,a14⟩:=(bareH_all h).1 hr.1.1;have hl:=logOk_in a14;exact ⟨⟨⟨by omega,by omega⟩,⟨by omega,by omega⟩,⟨by omega,by omega⟩,⟨by omega,by omega⟩,⟨by omega,by omega⟩,a12,fun x hx=>by
  have:=hl x hx;exact ⟨⟨by omega,by omega⟩,⟨by omega,by omega⟩,by omega⟩⟩,a7,a8⟩
theorem walA_set (g:Nat) (ws:Wl) (v v':Value) (h:Hrd):((((((((walA g ws v).setIfInBounds 2 (.int .i64 h.term)).setIfInBounds 3 (.int .i64 h.vote)).setIfInBounds 4 (.int .i64 h.base)).setIfInBounds 5 (.int .i64 h.bterm)).setIfInBounds 6 (.int .i64 h.members)).setIfInBounds 7 (.string ⟨#[]⟩)).setIfInBounds 8 v')=walA g ⟨ws.n,bareOf h,ws.down⟩ v':=by kernel_rfl
theorem WalV.setH {w0 w:World} {X:Nat→Prop} {g gw:Nat} {v v':Value} {ws:Wl} {h:Hrd} (hw:WalV w X g gw v ws) (hl:Rd etyE w v' h.log) (hx:∀ k,v'.ownBlock=some k→X k) (ho:v'.ownBlock≠some gw) (hf:h.log.length≤200) :
 WalV (((((((w.setCell ⟨gw,2,none⟩ (.int .i64 h.term)).setCell ⟨gw,3,none⟩ (.int .i64 h.vote)).setCell ⟨gw,4,none⟩ (.int .i64 h.base)).setCell ⟨gw,5,none⟩ (.int .i64 h.bterm)).setCell ⟨gw,6,none⟩ (.int .i64 h.members)).setCell ⟨gw,7,none⟩ (.string ⟨#[]⟩)).setCell ⟨gw,8,none⟩ v') X g gw v' ⟨ws.n,bareOf h,ws.down⟩∧Chg (fun k=>k=gw) w (((((((w.setCell ⟨gw,2,none⟩ (.int .i64 h.term)).setCell ⟨gw,3,none⟩ (.int .i64 h.vote)).setCell ⟨gw,4,none⟩ (.int .i64 h.base)).setCell ⟨gw,5,none⟩ (.int .i64 h.bterm)).setCell ⟨gw,6,none⟩ (.int .i64 h.members)).setCell ⟨gw,7,none⟩ (.string ⟨#[]⟩)).setCell ⟨gw,8,none⟩ v'):=by
 have hc:=((((((((Chg.refl (fun k=>k=gw) w).setCell (p:=⟨gw,2,none⟩) rfl (.int .i64 h.term)).setCell (p:=⟨gw,3,none⟩) rfl (.int .i64 h.vote)).setCell (p:=⟨gw,4,none⟩) rfl (.int .i64 h.base)).setCell (p:=⟨gw,5,none⟩) rfl (.int .i64 h.bterm)).setCell (p:=⟨gw,6,none⟩) rfl (.int .i64 h.members)).setCell (p:=⟨gw,7,none⟩) rfl (.string ⟨#[]⟩)).setCell (p:=⟨gw,8,none⟩) rfl v')
 exact ⟨⟨walA_set g ws v v' h ▸ (((((((hw.blk.set 2 (.int .i64 h.term)).set 3 (.int .i64 h.vote)).set 4 (.int .i64 h.base)).set 5 (.int .i64 h.bterm)).set 6 (.int .i64 h.members)).set 7 (.string ⟨#[]⟩)).set 8 v'),hc.cells hl (fun k hk e=>ho (by rw [hk,e])),hw.inX,hx,ho,hf,hw.num⟩,hc⟩
def SavedV (w0 w:World) (X:Nat→Prop) (g gw:Nat) (v:Value) (E:Int) (ws':Wl) (d':Dk) (e:Ending) (w':World):Prop :=
 e=.returned (.int .i64 E)∧∃ X' v',(∀ k,X k→X' k)∧(∀ k,X' k→X k∨w.heap.size≤k)∧DwS w0 X' g d' w'∧WalV w' X' g gw v' ws'∧Chg (Gw w0 X gw) w w'∧∀ k,v'.ownBlock=some k→v.ownBlock=some k∨w.heap.size≤k
theorem SavedV.same {w0 w w':World} {X:Nat→Prop} {g gw:Nat} {v:Value} {ws:Wl} {d:Dk} {E:Int} (hd:DwS w0 X g d w) (hw:WalV w X g gw v ws) (hb:Below w.heap.size w w'):SavedV w0 w X g gw v E ws d (.returned (.int .i64 E)) w' :=
 ⟨rfl,X,v,fun _ h=>h,fun _ h=>.inl h,hd.ext hb,hw.ext hb,.of_below hb,fun _ h=>.inl h⟩

theorem walSaveE {w0 w:World} {X:Nat→Prop} {g gw:Nat} {d d':Dk} {v:Value} {ws ws':Wl} (T0:∀ z,Below w0.heap.size w0 z→TabW z) (hd:DwS w0 X g d w) (hb0:Below w0.heap.size w0 w) (hgw0:w0.heap.size≤gw) {m:Nat} (pi:PInv m d) (hm:m≤890) (hw:WalV w X g gw v ws) (h:Hrd) (u:Value) (hu:Rd etyE w u h.log) (hux:h.log≠[]→∀ k,u.ownBlock=some k→k<w0.heap.size∨X k) (hug:h.log≠[]→u.ownBlock≠some gw) {E:Int} (he:saveW d ws h=(E,ws',d')) :
 Calls Tryz.prog 25 #[.pointer (some ⟨gw,0,none⟩),hrdA h u] w (SavedV w0 w X g gw v E ws' d'):=by
 obtain ⟨p,cap,rfl⟩:=hu.shape;have hsv:saveW d ws h=(if rightH h=false then (1,ws,d) else if ws.down=true then (18,ws,d) else if 0<ws.n∧sameW ws.h h=true then (0,ws,d) else if anewW d ws h=false then keepW ws h ((writeD d ws.n (moreB ws.h h)).1,ws.n,(writeD d ws.n (moreB ws.h h)).2) else if 14<(Lib.decDigits (ws.n+1)).length then (14,ws,d) else keepW ws h (layW d ws.n h)):=rfl;rw [he] at hsv;have Hsv:=Lib.hid hsv;clear hsv he;have hgl:=hw.blk.lt;have hnum:=hw.num;have hs0:=hb0.size
 have ca:=below_alloc w (.cells #[.int .i64 h.term,.int .i64 h.vote,.int .i64 h.base,.int .i64 h.bterm,.int .i64 h.members,.string h.snap,.slice p h.log.length cap] 24);have kA:=Blk.new w #[.int .i64 h.term,.int .i64 h.vote,.int .i64 h.base,.int .i64 h.bterm,.int .i64 h.members,.string h.snap,.slice p h.log.length cap] 24;have hHs:(w.alloc (.cells #[.int .i64 h.term,.int .i64 h.vote,.int .i64 h.base,.int .i64 h.bterm,.int .i64 h.members,.string h.snap,.slice p h.log.length cap] 24)).heap.size=w.heap.size+1:=by simp
 have hcall:=walRight h (.slice p h.log.length cap) (w.alloc (.cells #[.int .i64 h.term,.int .i64 h.vote,.int .i64 h.base,.int .i64 h.bterm,.int .i64 h.members,.string h.snap,.slice p h.log.length cap] 24)) (hu.ext ca);have ok:=pi.ok (show m≤1000 by omega);have d0:=hd;have v0:=hw
 cases hR:rightH h with
 | false =>
  rw [hR] at hcall;have h2:=Hsv.out;rw [if_pos hR] at h2;simp only [Prod.mk.injEq] at h2
  obtain ⟨rfl,rfl,rfl⟩:=h2;go_enter Tryz.func25,Tryz.ntmps25
  go_wp2_with fail
  refine hcall.mono ?_;rintro e w1 ⟨rfl,b1⟩;have b01:=ca.trans (b1.mono (by omega));clear hcall;go_wp2_with fail
  go_ret
  exact SavedV.same d0 v0 b01
 | true =>
  rw [hR] at hcall;have h2:=Hsv.out;rw [if_neg (by rw [hR];simp)] at h2;obtain ⟨hin,hbase⟩:=HrdIn.of hR
  rcases (Bool.eq_false_or_eq_true ws.down) with hD | hD
  ·rw [if_pos hD] at h2;simp only [Prod.mk.injEq] at h2
   obtain ⟨rfl,rfl,rfl⟩:=h2;have c9:=fun z (hz:Below w.heap.size w z)=>(v0.ext hz).c9;rw [hD] at c9;go_enter Tryz.func25,Tryz.ntmps25
   go_wp2_with fail
   refine hcall.mono ?_;rintro e w1 ⟨rfl,b1⟩;have b01:=ca.trans (b1.mono (by omega));have c9:=c9 w1 b01;clear hcall;go_wp2_with fail
   go_ret
   exact SavedV.same d0 v0 b01
  ·rw [if_neg (by rw [hD];simp)] at h2;have c9:=fun z (hz:Below w.heap.size w z)=>(v0.ext hz).c9;rw [hD] at c9;have H2:=Lib.hid h2;clear h2 Hsv
   by_cases hn0:0<ws.n
   ·have hni:(0:Int)<(ws.n:Int):=by omega
    cases hS:sameW ws.h h with
    | true =>
     have h2:=H2.out;rw [if_pos ⟨hn0,hS⟩] at h2;simp only [Prod.mk.injEq] at h2
     obtain ⟨rfl,rfl,rfl⟩:=h2;go_enter Tryz.func25,Tryz.ntmps25
     go_wp2_with fail
     refine hcall.mono ?_;rintro e w1 ⟨rfl,b1⟩;have b01:=ca.trans (b1.mono (by omega));have c9:=c9 w1 b01;have c1:=(v0.ext b01).c1;have kA1:=kA.ext b1;have a0:=kA1.cell 0 _ rfl;have a1:=kA1.cell 1 _ rfl;have a2:=kA1.cell 2 _ rfl;have a3:=kA1.cell 3 _ rfl;have a4:=kA1.cell 4 _ rfl;have a5:=kA1.cell 5 _ rfl;have a6:=kA1.cell 6 _ rfl;clear hcall;go_wp2_with fail
     refine (walSame (v0.ext b01) h _ (hu.ext b01)).mono ?_;rintro e w2 ⟨rfl,b2⟩;have b02:=b01.trans (b2.mono b01.size);have kA2:=kA1.ext b2;clear a0 a1 a2 a3 a4 a5 a6;rw [hS];go_wp2_with fail
     go_ret
     exact SavedV.same d0 v0 b02
    | false =>
     have h2:=H2.out;rw [if_neg (fun hh=>by rw [hS] at hh;simp at hh)] at h2;have H2:=Lib.hid h2;clear h2;go_enter Tryz.func25,Tryz.ntmps25
     go_wp2_with fail
     refine hcall.mono ?_;rintro e w1 ⟨rfl,b1⟩;have b01:=ca.trans (b1.mono (by omega));have c9:=c9 w1 b01;have c1:=(v0.ext b01).c1;have kA1:=kA.ext b1;have a0:=kA1.cell 0 _ rfl;have a1:=kA1.cell 1 _ rfl;have a2:=kA1.cell 2 _ rfl;have a3:=kA1.cell 3 _ rfl;have a4:=kA1.cell 4 _ rfl;have a5:=kA1.cell 5 _ rfl;have a6:=kA1.cell 6 _ rfl;clear hcall;go_wp2_with fail
     refine (walSame (v0.ext b01) h _ (hu.ext b01)).mono ?_;rintro e w2 ⟨rfl,b2⟩;have b02:=b01.trans (b2.mono b01.size);have kA2:=kA1.ext b2;clear a0 a1 a2 a3 a4 a5 a6;rw [hS];have kZ:=kA2;have bZ:=b02;generalize w2=wZ at *;have a0:=kZ.cell 0 _ rfl;have a1:=kZ.cell 1 _ rfl;have a2:=kZ.cell 2 _ rfl;have a3:=kZ.cell 3 _ rfl;have a4:=kZ.cell 4 _ rfl;have a5:=kZ.cell 5 _ rfl;have a6:=kZ.cell 6 _ rfl
     try clear b1
     go_wp2_with fail
     refine (walAnew (d0.ext bZ) ok (v0.ext bZ) h _ (hu.ext bZ) (fun z hz=>T0 z (hb0.trans ((bZ.trans (hz.mono bZ.size)).mono hs0)))).mono ?_;rintro e wY ⟨rfl,bY'⟩;have bY:=bZ.trans (bY'.mono bZ.size);have kY:=kZ.ext bY';clear a0 a1 a2 a3 a4 a5 a6;have hdY:DwS w0 (fun k=>X k∨k=w.heap.size) g d wY:=d0.more bY (fun k hk=>hk.imp id (fun e=>by have:=kY.lt;omega));have hwY:=(v0.ext bY).mono (Y:=fun k=>X k∨k=w.heap.size) (fun k hk=>.inl hk);have hbY:Below w0.heap.size w0 wY:=hb0.trans (bY.mono hs0)
     cases hAn:anewW d ws h with
     | false =>
      have h3:=H2.out;rw [if_pos hAn] at h3;obtain ⟨E1,D1,hwr⟩:∃ E1 D1,writeD d ws.n (moreB ws.h h)=(E1,D1):=⟨_,_,rfl⟩;rw [hwr] at h3;replace h3:(E,ws',d')=if E1=0 then (0,⟨ws.n,bareOf h,false⟩,D1) else (E1,⟨ws.n,ws.h,true⟩,D1):=h3
      have a0:=kY.cell 0 _ rfl;have a1:=kY.cell 1 _ rfl;have a2:=kY.cell 2 _ rfl;have a3:=kY.cell 3 _ rfl;have a4:=kY.cell 4 _ rfl;have a5:=kY.cell 5 _ rfl;have a6:=kY.cell 6 _ rfl
      try clear b1
      try clear hcall
      have hcall:=walMore T0 hdY hbY pi hm hwY h hin hbase _ (hu.ext bY) hwr;go_wp2_with fail
      refine hcall.mono ?_;rintro e wE ⟨rfl,hdE,hwE,chE⟩;clear a0 a1 a2 a3 a4 a5 a6;have hgE:=hwE.blk.lt;have kE:=chE.blk kY (fun hG=>hG.elim (fun hG=>hG.2 (.inr rfl)) (fun e=>by omega));have huE:Rd etyE wE (.slice p h.log.length cap) h.log:=chE.cellsE etyE.pos (hu.ext bY) (fun hne k hk hG=>hG.elim (fun hG=>(hux (fun e=>hne (by rw [e];rfl)) k hk).elim (fun e=>by have:=hG.1;omega) (fun e=>hG.2 (.inl e))) (fun e=>hug (fun e=>hne (by rw [e];rfl)) (by rw [hk,e])));have chA:Chg (Gw w0 X gw) w wE:=(Chg.of_below bY).step (chE.mono fun k _ hk=>hk.imp (fun hk=>⟨hk.1,fun hX=>hk.2 (.inl hX)⟩) id)
      have hd1:=hdE.mono (Y:=X) (fun k hk=>.inl hk);have hwX:WalV wE X g gw v { ws with n:=ws.n }:=⟨hwE.blk,hwE.log,v0.inX,v0.lX,hwE.off,hwE.few,hwE.num⟩
      by_cases hE:E1=0
      ·subst hE;rw [if_pos rfl] at h3;simp only [Prod.mk.injEq] at h3
       obtain ⟨rfl,rfl,rfl⟩:=h3;have a0:=kE.cell 0 _ rfl;have a1:=kE.cell 1 _ rfl;have a2:=kE.cell 2 _ rfl;have a3:=kE.cell 3 _ rfl;have a4:=kE.cell 4 _ rfl;have a5:=kE.cell 5 _ rfl;have a6:=kE.cell 6 _ rfl
       try clear hcall
       have cw:∀ z,Below wE.heap.size wE z→WalV z X g gw v { ws with n:=ws.n }:=fun z hz=>hwX.ext hz;go_wp2_with fail
       refine (walCopied h _ wE huE (by have:=hin.few;omega)).mono ?_;rintro e wF ⟨vF,rfl,ownF,bF⟩;obtain ⟨pF,cF,rfl⟩:=ownF.rd.shape;have hwF:=cw wF bF;have hXX:∀ k,(Value.slice pF h.log.length cF).ownBlock=some k→wE.heap.size≤k:=fun k hk=>(ownF.lt k hk).1;have hsE:=chA.size;have hdF:DwS w0 (fun k=>X k∨(Value.slice pF h.log.length cF).ownBlock=some k) g d' wF:=hd1.more bF (fun k hk=>hk.imp id (fun e=>⟨(ownF.lt k e).1,(ownF.lt k e).2⟩));have hwF2:=hwF.mono (Y:=fun k=>X k∨(Value.slice pF h.log.length cF).ownBlock=some k) (fun k hk=>.inl hk)
       have hS:=hwF2.setH (w0:=w0) (h:=h) ownF.rd (fun k hk=>.inr hk) (fun e=>by have:=hXX gw e;omega) (by have:=hin.few;omega);have chF:Chg (Gw w0 X gw) w wF:=chA.step (.of_below bF);have fin:SavedV w0 w X g gw v 0 ⟨ws.n,bareOf h,false⟩ d' (.returned (.int .i64 0)) (((((((wF.setCell ⟨gw,2,none⟩ (.int .i64 h.term)).setCell ⟨gw,3,none⟩ (.int .i64 h.vote)).setCell ⟨gw,4,none⟩ (.int .i64 h.base)).setCell ⟨gw,5,none⟩ (.int .i64 h.bterm)).setCell ⟨gw,6,none⟩ (.int .i64 h.members)).setCell ⟨gw,7,none⟩ (.string ⟨#[]⟩)).setCell ⟨gw,8,none⟩ (.slice pF h.log.length cF)):=by
        have hD2:=hS.1
        try dsimp only at hD2
        rw [hD] at hD2;exact ⟨rfl,_,_,fun k hk=>.inl hk,fun k hk=>hk.imp id (fun e=>by have:=hXX k e;omega),hdF.chgX hS.2 (fun k hk=>.inl (by subst hk;exact .inl v0.inX)),hD2,chF.step (hS.2.mono fun k _ hk=>.inr hk),fun k hk=>.inr (by have:=hXX k hk;omega)⟩
       have Fin:=Lib.hid fin;have w2:=hwF.c2;have f2:=hwF.blk.frozen 2;have w3:=hwF.c3;have f3:=hwF.blk.frozen 3;have w4:=hwF.c4;have f4:=hwF.blk.frozen 4;have w5:=hwF.c5;have f5:=hwF.blk.frozen 5;have w6:=hwF.c6;have f6:=hwF.blk.frozen 6;have w7:=hwF.c7;have f7:=hwF.blk.frozen 7;have w8:=hwF.c8;have f8:=hwF.blk.frozen 8;clear fin hS hdF hwF2 cw a0 a1 a2 a3 a4 a5 a6;go_wp2_with fail
       go_ret
       exact Fin.out
      ·have hne:(E1 !=0)=true:=by simpa using hE
       rw [if_neg hE] at h3;simp only [Prod.mk.injEq] at h3
       obtain ⟨rfl,rfl,rfl⟩:=h3;have e9:=hwX.c9;have f9:=hwX.blk.frozen 9;have hS:=hwX.setD;have fin:SavedV w0 w X g gw v E ⟨ws.n,ws.h,true⟩ d' (.returned (.int .i64 E)) (wE.setCell ⟨gw,9,none⟩ (.bool true)) :=
        ⟨rfl,X,v,fun k hk=>hk,fun k hk=>.inl hk,hd1.chgX (chg_cell gw 9 _ wE) (fun k hk=>.inl (by subst hk;exact v0.inX)),hS,chA.step ((chg_cell gw 9 _ wE).mono fun k _ hk=>.inr hk),fun k hk=>.inl hk⟩
       have Fin:=Lib.hid fin;clear fin hS
       try clear hcall
       go_wp2_with fail
       go_ret
       exact Fin.out
     | true =>
      have h3:=H2.out;rw [if_neg (by rw [hAn];simp)] at h3;have c1:=(v0.ext bY).c1;have hnl:=nameW_len (ws.n+1);have b0Y:Below w0.heap.size w0 wY:=hbY;go_wp2_with fail
      refine (walNamed (ws.n+1) _ (by rfl) (by omega) wY (T0 wY hbY)).mono ?_;rintro e wN ⟨rfl,bN⟩;have bY2:=bY.trans (bN.mono bY.size);have kN:=kY.ext bN
      by_cases hfull:14<(Lib.decDigits (ws.n+1)).length
      ·have hfi:(18:Int)<((nameW (ws.n+1)).size:Int):=by rw [hnl];omega
       rw [if_pos hfull] at h3;simp only [Prod.mk.injEq] at h3
       obtain ⟨rfl,rfl,rfl⟩:=h3;go_wp2_with fail
       go_ret
       exact SavedV.same d0 v0 bY2
      ·have hfi:¬ (18:Int)<((nameW (ws.n+1)).size:Int):=by rw [hnl];omega
       rw [if_neg hfull] at h3;have hn1:=digits_few hfull;obtain ⟨E1,N1,D1,hwr⟩:∃ E1 N1 D1,layW d ws.n h=(E1,N1,D1):=⟨_,_,_,rfl⟩;rw [hwr] at h3;replace h3:(E,ws',d')=if E1=0 then (0,⟨N1,bareOf h,false⟩,D1) else (E1,⟨N1,ws.h,true⟩,D1):=h3
       have a0:=kN.cell 0 _ rfl;have a1:=kN.cell 1 _ rfl;have a2:=kN.cell 2 _ rfl;have a3:=kN.cell 3 _ rfl;have a4:=kN.cell 4 _ rfl;have a5:=kN.cell 5 _ rfl;have a6:=kN.cell 6 _ rfl
       try clear hcall
       have hdN:=hdY.ext bN;have hwN:=hwY.ext bN;have hbN:=hbY.trans (bN.mono hbY.size);have hcall:=walLay T0 hdN hbN hgw0 pi hm hwN hn1 h hin _ (hu.ext bY2) hwr;have kY:=kN;have bY:=bY2;clear hfull hnl;go_wp2_with fail
       refine hcall.mono ?_;rintro e wE ⟨rfl,hdE,hwE,chE⟩;clear a0 a1 a2 a3 a4 a5 a6;have hgE:=hwE.blk.lt;have kE:=chE.blk kY (fun hG=>hG.elim (fun hG=>hG.2 (.inr rfl)) (fun e=>by omega));have huE:Rd etyE wE (.slice p h.log.length cap) h.log:=chE.cellsE etyE.pos (hu.ext bY) (fun hne k hk hG=>hG.elim (fun hG=>(hux (fun e=>hne (by rw [e];rfl)) k hk).elim (fun e=>by have:=hG.1;omega) (fun e=>hG.2 (.inl e))) (fun e=>hug (fun e=>hne (by rw [e];rfl)) (by rw [hk,e])));have chA:Chg (Gw w0 X gw) w wE:=(Chg.of_below bY).step (chE.mono fun k _ hk=>hk.imp (fun hk=>⟨hk.1,fun hX=>hk.2 (.inl hX)⟩) id)
       have hd1:=hdE.mono (Y:=X) (fun k hk=>.inl hk);have hwX:WalV wE X g gw v { ws with n:=N1 }:=⟨hwE.blk,hwE.log,v0.inX,v0.lX,hwE.off,hwE.few,hwE.num⟩
       by_cases hE:E1=0
       ·subst hE;rw [if_pos rfl] at h3;simp only [Prod.mk.injEq] at h3
        obtain ⟨rfl,rfl,rfl⟩:=h3;have a0:=kE.cell 0 _ rfl;have a1:=kE.cell 1 _ rfl;have a2:=kE.cell 2 _ rfl;have a3:=kE.cell 3 _ rfl;have a4:=kE.cell 4 _ rfl;have a5:=kE.cell 5 _ rfl;have a6:=kE.cell 6 _ rfl
        try clear hcall
        have cw:∀ z,Below wE.heap.size wE z→WalV z X g gw v { ws with n:=N1 }:=fun z hz=>hwX.ext hz;go_wp2_with fail
        refine (walCopied h _ wE huE (by have:=hin.few;omega)).mono ?_;rintro e wF ⟨vF,rfl,ownF,bF⟩;obtain ⟨pF,cF,rfl⟩:=ownF.rd.shape;have hwF:=cw wF bF;have hXX:∀ k,(Value.slice pF h.log.length cF).ownBlock=some k→wE.heap.size≤k:=fun k hk=>(ownF.lt k hk).1;have hsE:=chA.size;have hdF:DwS w0 (fun k=>X k∨(Value.slice pF h.log.length cF).ownBlock=some k) g d' wF:=hd1.more bF (fun k hk=>hk.imp id (fun e=>⟨(ownF.lt k e).1,(ownF.lt k e).2⟩));have hwF2:=hwF.mono (Y:=fun k=>X k∨(Value.slice pF h.log.length cF).ownBlock=some k) (fun k hk=>.inl hk)
        have hS:=hwF2.setH (w0:=w0) (h:=h) ownF.rd (fun k hk=>.inr hk) (fun e=>by have:=hXX gw e;omega) (by have:=hin.few;omega);have chF:Chg (Gw w0 X gw) w wF:=chA.step (.of_below bF);have fin:SavedV w0 w X g gw v 0 ⟨N1,bareOf h,false⟩ d' (.returned (.int .i64 0)) (((((((wF.setCell ⟨gw,2,none⟩ (.int .i64 h.term)).setCell ⟨gw,3,none⟩ (.int .i64 h.vote)).setCell ⟨gw,4,none⟩ (.int .i64 h.base)).setCell ⟨gw,5,none⟩ (.int .i64 h.bterm)).setCell ⟨gw,6,none⟩ (.int .i64 h.members)).setCell ⟨gw,7,none⟩ (.string ⟨#[]⟩)).setCell ⟨gw,8,none⟩ (.slice pF h.log.length cF)):=by
         have hD2:=hS.1
         try dsimp only at hD2
         rw [hD] at hD2;exact ⟨rfl,_,_,fun k hk=>.inl hk,fun k hk=>hk.imp id (fun e=>by have:=hXX k e;omega),hdF.chgX hS.2 (fun k hk=>.inl (by subst hk;exact .inl v0.inX)),hD2,chF.step (hS.2.mono fun k _ hk=>.inr hk),fun k hk=>.inr (by have:=hXX k hk;omega)⟩
        have Fin:=Lib.hid fin;have w2:=hwF.c2;have f2:=hwF.blk.frozen 2;have w3:=hwF.c3;have f3:=hwF.blk.frozen 3;have w4:=hwF.c4;have f4:=hwF.blk.frozen 4;have w5:=hwF.c5;have f5:=hwF.blk.frozen 5;have w6:=hwF.c6;have f6:=hwF.blk.frozen 6;have w7:=hwF.c7;have f7:=hwF.blk.frozen 7;have w8:=hwF.c8;have f8:=hwF.blk.frozen 8;clear fin hS hdF hwF2 cw a0 a1 a2 a3 a4 a5 a6;go_wp2_with fail
        go_ret
        exact Fin.out
       ·have hne:(E1 !=0)=true:=by simpa using hE
        rw [if_neg hE] at h3;simp only [Prod.mk.injEq] at h3
        obtain ⟨rfl,rfl,rfl⟩:=h3;have e9:=hwX.c9;have f9:=hwX.blk.frozen 9;have hS:=hwX.setD;have fin:SavedV w0 w X g gw v E ⟨N1,ws.h,true⟩ d' (.returned (.int .i64 E)) (wE.setCell ⟨gw,9,none⟩ (.bool true)) :=
         ⟨rfl,X,v,fun k hk=>hk,fun k hk=>.inl hk,hd1.chgX (chg_cell gw 9 _ wE) (fun k hk=>.inl (by subst hk;exact v0.inX)),hS,chA.step ((chg_cell gw 9 _ wE).mono fun k _ hk=>.inr hk),fun k hk=>.inl hk⟩
        have Fin:=Lib.hid fin;clear fin hS
        try clear hcall
        go_wp2_with fail
        go_ret
        exact Fin.out
   ·have hni:¬ (0:Int)<(ws.n:Int):=by omega
    have h2:=H2.out;rw [if_neg (fun hh=>hn0 hh.1)] at h2;have H2:=Lib.hid h2;clear h2;go_enter Tryz.func25,Tryz.ntmps25
    go_wp2_with fail
    refine hcall.mono ?_;rintro e w1 ⟨rfl,b1⟩;have bZ:=ca.trans (b1.mono (by omega));have c9:=c9 w1 bZ;have c1:=(v0.ext bZ).c1;have kZ:=kA.ext b1;generalize w1=wZ at *;have a0:=kZ.cell 0 _ rfl;have a1:=kZ.cell 1 _ rfl;have a2:=kZ.cell 2 _ rfl;have a3:=kZ.cell 3 _ rfl;have a4:=kZ.cell 4 _ rfl;have a5:=kZ.cell 5 _ rfl;have a6:=kZ.cell 6 _ rfl
    try clear b1
    go_wp2_with fail
    refine (walAnew (d0.ext bZ) ok (v0.ext bZ) h _ (hu.ext bZ) (fun z hz=>T0 z (hb0.trans ((bZ.trans (hz.mono bZ.size)).mono hs0)))).mono ?_;rintro e wY ⟨rfl,bY'⟩;have bY:=bZ.trans (bY'.mono bZ.size);have kY:=kZ.ext bY';clear a0 a1 a2 a3 a4 a5 a6;have hdY:DwS w0 (fun k=>X k∨k=w.heap.size) g d wY:=d0.more bY (fun k hk=>hk.imp id (fun e=>by have:=kY.lt;omega));have hwY:=(v0.ext bY).mono (Y:=fun k=>X k∨k=w.heap.size) (fun k hk=>.inl hk);have hbY:Below w0.heap.size w0 wY:=hb0.trans (bY.mono hs0)
    cases hAn:anewW d ws h with
    | false =>
     have h3:=H2.out;rw [if_pos hAn] at h3;obtain ⟨E1,D1,hwr⟩:∃ E1 D1,writeD d ws.n (moreB ws.h h)=(E1,D1):=⟨_,_,rfl⟩;rw [hwr] at h3;replace h3:(E,ws',d')=if E1=0 then (0,⟨ws.n,bareOf h,false⟩,D1) else (E1,⟨ws.n,ws.h,true⟩,D1):=h3
     have a0:=kY.cell 0 _ rfl;have a1:=kY.cell 1 _ rfl;have a2:=kY.cell 2 _ rfl;have a3:=kY.cell 3 _ rfl;have a4:=kY.cell 4 _ rfl;have a5:=kY.cell 5 _ rfl;have a6:=kY.cell 6 _ rfl
     try clear b1
     try clear hcall
     have hcall:=walMore T0 hdY hbY pi hm hwY h hin hbase _ (hu.ext bY) hwr;go_wp2_with fail
     refine hcall.mono ?_;rintro e wE ⟨rfl,hdE,hwE,chE⟩;clear a0 a1 a2 a3 a4 a5 a6;have hgE:=hwE.blk.lt;have kE:=chE.blk kY (fun hG=>hG.elim (fun hG=>hG.2 (.inr rfl)) (fun e=>by omega));have huE:Rd etyE wE (.slice p h.log.length cap) h.log:=chE.cellsE etyE.pos (hu.ext bY) (fun hne k hk hG=>hG.elim (fun hG=>(hux (fun e=>hne (by rw [e];rfl)) k hk).elim (fun e=>by have:=hG.1;omega) (fun e=>hG.2 (.inl e))) (fun e=>hug (fun e=>hne (by rw [e];rfl)) (by rw [hk,e])));have chA:Chg (Gw w0 X gw) w wE:=(Chg.of_below bY).step (chE.mono fun k _ hk=>hk.imp (fun hk=>⟨hk.1,fun hX=>hk.2 (.inl hX)⟩) id)
     have hd1:=hdE.mono (Y:=X) (fun k hk=>.inl hk);have hwX:WalV wE X g gw v { ws with n:=ws.n }:=⟨hwE.blk,hwE.log,v0.inX,v0.lX,hwE.off,hwE.few,hwE.num⟩
     by_cases hE:E1=0
     ·subst hE;rw [if_pos rfl] at h3;simp only [Prod.mk.injEq] at h3
      obtain ⟨rfl,rfl,rfl⟩:=h3;have a0:=kE.cell 0 _ rfl;have a1:=kE.cell 1 _ rfl;have a2:=kE.cell 2 _ rfl;have a3:=kE.cell 3 _ rfl;have a4:=kE.cell 4 _ rfl;have a5:=kE.cell 5 _ rfl;have a6:=kE.cell 6 _ rfl
      try clear hcall
      have cw:∀ z,Below wE.heap.size wE z→WalV z X g gw v { ws with n:=ws.n }:=fun z hz=>hwX.ext hz;go_wp2_with fail
      refine (walCopied h _ wE huE (by have:=hin.few;omega)).mono ?_;rintro e wF ⟨vF,rfl,ownF,bF⟩;obtain ⟨pF,cF,rfl⟩:=ownF.rd.shape;have hwF:=cw wF bF;have hXX:∀ k,(Value.slice pF h.log.length cF).ownBlock=some k→wE.heap.size≤k:=fun k hk=>(ownF.lt k hk).1;have hsE:=chA.size;have hdF:DwS w0 (fun k=>X k∨(Value.slice pF h.log.length cF).ownBlock=some k) g d' wF:=hd1.more bF (fun k hk=>hk.imp id (fun e=>⟨(ownF.lt k e).1,(ownF.lt k e).2⟩));have hwF2:=hwF.mono (Y:=fun k=>X k∨(Value.slice pF h.log.length cF).ownBlock=some k) (fun k hk=>.inl hk)
      have hS:=hwF2.setH (w0:=w0) (h:=h) ownF.rd (fun k hk=>.inr hk) (fun e=>by have:=hXX gw e;omega) (by have:=hin.few;omega);have chF:Chg (Gw w0 X gw) w wF:=chA.step (.of_below bF);have fin:SavedV w0 w X g gw v 0 ⟨ws.n,bareOf h,false⟩ d' (.returned (.int .i64 0)) (((((((wF.setCell ⟨gw,2,none⟩ (.int .i64 h.term)).setCell ⟨gw,3,none⟩ (.int .i64 h.vote)).setCell ⟨gw,4,none⟩ (.int .i64 h.base)).setCell ⟨gw,5,none⟩ (.int .i64 h.bterm)).setCell ⟨gw,6,none⟩ (.int .i64 h.members)).setCell ⟨gw,7,none⟩ (.string ⟨#[]⟩)).setCell ⟨gw,8,none⟩ (.slice pF h.log.length cF)):=by
       have hD2:=hS.1
       try dsimp only at hD2
       rw [hD] at hD2;exact ⟨rfl,_,_,fun k hk=>.inl hk,fun k hk=>hk.imp id (fun e=>by have:=hXX k e;omega),hdF.chgX hS.2 (fun k hk=>.inl (by subst hk;exact .inl v0.inX)),hD2,chF.step (hS.2.mono fun k _ hk=>.inr hk),fun k hk=>.inr (by have:=hXX k hk;omega)⟩
      have Fin:=Lib.hid fin;have w2:=hwF.c2;have f2:=hwF.blk.frozen 2;have w3:=hwF.c3;have f3:=hwF.blk.frozen 3;have w4:=hwF.c4;have f4:=hwF.blk.frozen 4;have w5:=hwF.c5;have f5:=hwF.blk.frozen 5;have w6:=hwF.c6;have f6:=hwF.blk.frozen 6;have w7:=hwF.c7;have f7:=hwF.blk.frozen 7;have w8:=hwF.c8;have f8:=hwF.blk.frozen 8;clear fin hS hdF hwF2 cw a0 a1 a2 a3 a4 a5 a6;go_wp2_with fail
      go_ret
      exact Fin.out
     ·have hne:(E1 !=0)=true:=by simpa using hE
      rw [if_neg hE] at h3;simp only [Prod.mk.injEq] at h3
      obtain ⟨rfl,rfl,rfl⟩:=h3;have e9:=hwX.c9;have f9:=hwX.blk.frozen 9;have hS:=hwX.setD;have fin:SavedV w0 w X g gw v E ⟨ws.n,ws.h,true⟩ d' (.returned (.int .i64 E)) (wE.setCell ⟨gw,9,none⟩ (.bool true)) :=
       ⟨rfl,X,v,fun k hk=>hk,fun k hk=>.inl hk,hd1.chgX (chg_cell gw 9 _ wE) (fun k hk=>.inl (by subst hk;exact v0.inX)),hS,chA.step ((chg_cell gw 9 _ wE).mono fun k _ hk=>.inr hk),fun k hk=>.inl hk⟩
      have Fin:=Lib.hid fin;clear fin hS
      try clear hcall
      go_wp2_with fail
      go_ret
      exact Fin.out
    | true =>
     have h3:=H2.out;rw [if_neg (by rw [hAn];simp)] at h3;have c1:=(v0.ext bY).c1;have hnl:=nameW_len (ws.n+1);have b0Y:Below w0.heap.size w0 wY:=hbY;go_wp2_with fail
     refine (walNamed (ws.n+1) _ (by rfl) (by omega) wY (T0 wY hbY)).mono ?_;rintro e wN ⟨rfl,bN⟩;have bY2:=bY.trans (bN.mono bY.size);have kN:=kY.ext bN
     by_cases hfull:14<(Lib.decDigits (ws.n+1)).length
     ·have hfi:(18:Int)<((nameW (ws.n+1)).size:Int):=by rw [hnl];omega
      rw [if_pos hfull] at h3;simp only [Prod.mk.injEq] at h3
      obtain ⟨rfl,rfl,rfl⟩:=h3;go_wp2_with fail
      go_ret
      exact SavedV.same d0 v0 bY2
     ·have hfi:¬ (18:Int)<((nameW (ws.n+1)).size:Int):=by rw [hnl];omega
      rw [if_neg hfull] at h3;have hn1:=digits_few hfull;obtain ⟨E1,N1,D1,hwr⟩:∃ E1 N1 D1,layW d ws.n h=(E1,N1,D1):=⟨_,_,_,rfl⟩;rw [hwr] at h3;replace h3:(E,ws',d')=if E1=0 then (0,⟨N1,bareOf h,false⟩,D1) else (E1,⟨N1,ws.h,true⟩,D1):=h3
      have a0:=kN.cell 0 _ rfl;have a1:=kN.cell 1 _ rfl;have a2:=kN.cell 2 _ rfl;have a3:=kN.cell 3 _ rfl;have a4:=kN.cell 4 _ rfl;have a5:=kN.cell 5 _ rfl;have a6:=kN.cell 6 _ rfl
      try clear hcall
      have hdN:=hdY.ext bN;have hwN:=hwY.ext bN;have hbN:=hbY.trans (bN.mono hbY.size);have hcall:=walLay T0 hdN hbN hgw0 pi hm hwN hn1 h hin _ (hu.ext bY2) hwr;have kY:=kN;have bY:=bY2;clear hfull hnl;go_wp2_with fail
      refine hcall.mono ?_;rintro e wE ⟨rfl,hdE,hwE,chE⟩;clear a0 a1 a2 a3 a4 a5 a6;have hgE:=hwE.blk.lt;have kE:=chE.blk kY (fun hG=>hG.elim (fun hG=>hG.2 (.inr rfl)) (fun e=>by omega));have huE:Rd etyE wE (.slice p h.log.length cap) h.log:=chE.cellsE etyE.pos (hu.ext bY) (fun hne k hk hG=>hG.elim (fun hG=>(hux (fun e=>hne (by rw [e];rfl)) k hk).elim (fun e=>by have:=hG.1;omega) (fun e=>hG.2 (.inl e))) (fun e=>hug (fun e=>hne (by rw [e];rfl)) (by rw [hk,e])));have chA:Chg (Gw w0 X gw) w wE:=(Chg.of_below bY).step (chE.mono fun k _ hk=>hk.imp (fun hk=>⟨hk.1,fun hX=>hk.2 (.inl hX)⟩) id)
      have hd1:=hdE.mono (Y:=X) (fun k hk=>.inl hk);have hwX:WalV wE X g gw v { ws with n:=N1 }:=⟨hwE.blk,hwE.log,v0.inX,v0.lX,hwE.off,hwE.few,hwE.num⟩
      by_cases hE:E1=0
      ·subst hE;rw [if_pos rfl] at h3;simp only [Prod.mk.injEq] at h3
       obtain ⟨rfl,rfl,rfl⟩:=h3;have a0:=kE.cell 0 _ rfl;have a1:=kE.cell 1 _ rfl;have a2:=kE.cell 2 _ rfl;have a3:=kE.cell 3 _ rfl;have a4:=kE.cell 4 _ rfl;have a5:=kE.cell 5 _ rfl;have a6:=kE.cell 6 _ rfl
       try clear hcall
       have cw:∀ z,Below wE.heap.size wE z→WalV z X g gw v { ws with n:=N1 }:=fun z hz=>hwX.ext hz;go_wp2_with fail
       refine (walCopied h _ wE huE (by have:=hin.few;omega)).mono ?_;rintro e wF ⟨vF,rfl,ownF,bF⟩;obtain ⟨pF,cF,rfl⟩:=ownF.rd.shape;have hwF:=cw wF bF;have hXX:∀ k,(Value.slice pF h.log.length cF).ownBlock=some k→wE.heap.size≤k:=fun k hk=>(ownF.lt k hk).1;have hsE:=chA.size;have hdF:DwS w0 (fun k=>X k∨(Value.slice pF h.log.length cF).ownBlock=some k) g d' wF:=hd1.more bF (fun k hk=>hk.imp id (fun e=>⟨(ownF.lt k e).1,(ownF.lt k e).2⟩));have hwF2:=hwF.mono (Y:=fun k=>X k∨(Value.slice pF h.log.length cF).ownBlock=some k) (fun k hk=>.inl hk)
       have hS:=hwF2.setH (w0:=w0) (h:=h) ownF.rd (fun k hk=>.inr hk) (fun e=>by have:=hXX gw e;omega) (by have:=hin.few;omega);have chF:Chg (Gw w0 X gw) w wF:=chA.step (.of_below bF);have fin:SavedV w0 w X g gw v 0 ⟨N1,bareOf h,false⟩ d' (.returned (.int .i64 0)) (((((((wF.setCell ⟨gw,2,none⟩ (.int .i64 h.term)).setCell ⟨gw,3,none⟩ (.int .i64 h.vote)).setCell ⟨gw,4,none⟩ (.int .i64 h.base)).setCell ⟨gw,5,none⟩ (.int .i64 h.bterm)).setCell ⟨gw,6,none⟩ (.int .i64 h.members)).setCell ⟨gw,7,none⟩ (.string ⟨#[]⟩)).setCell ⟨gw,8,none⟩ (.slice pF h.log.length cF)):=by
        have hD2:=hS.1
        try dsimp only at hD2
        rw [hD] at hD2;exact ⟨rfl,_,_,fun k hk=>.inl hk,fun k hk=>hk.imp id (fun e=>by have:=hXX k e;omega),hdF.chgX hS.2 (fun k hk=>.inl (by subst hk;exact .inl v0.inX)),hD2,chF.step (hS.2.mono fun k _ hk=>.inr hk),fun k hk=>.inr (by have:=hXX k hk;omega)⟩
       have Fin:=Lib.hid fin;have w2:=hwF.c2;have f2:=hwF.blk.frozen 2;have w3:=hwF.c3;have f3:=hwF.blk.frozen 3;have w4:=hwF.c4;have f4:=hwF.blk.frozen 4;have w5:=hwF.c5;have f5:=hwF.blk.frozen 5;have w6:=hwF.c6;have f6:=hwF.blk.frozen 6;have w7:=hwF.c7;have f7:=hwF.blk.frozen 7;have w8:=hwF.c8;have f8:=hwF.blk.frozen 8;clear fin hS hdF hwF2 cw a0 a1 a2 a3 a4 a5 a6;go_wp2_with fail
       go_ret
       exact Fin.out
      ·have hne:(E1 !=0)=true:=by simpa using hE
       rw [if_neg hE] at h3;simp only [Prod.mk.injEq] at h3
       obtain ⟨rfl,rfl,rfl⟩:=h3;have e9:=hwX.c9;have f9:=hwX.blk.frozen 9;have hS:=hwX.setD;have fin:SavedV w0 w X g gw v E ⟨N1,ws.h,true⟩ d' (.returned (.int .i64 E)) (wE.setCell ⟨gw,9,none⟩ (.bool true)) :=
        ⟨rfl,X,v,fun k hk=>hk,fun k hk=>.inl hk,hd1.chgX (chg_cell gw 9 _ wE) (fun k hk=>.inl (by subst hk;exact v0.inX)),hS,chA.step ((chg_cell gw 9 _ wE).mono fun k _ hk=>.inr hk),fun k hk=>.inl hk⟩
       have Fin:=Lib.hid fin;clear fin hS
       try clear hcall
       go_wp2_with fail
       go_ret
       exact Fin.out
end
section
open Go Go.RowKit Go.PlainAid
def headH (h:Hrd):Hrd:={ h with snap:=sNone,log:=[] }
def etyR (l:List Ety):List Rec:=l.map .ety
def cutR (x h:Hrd):List Rec:=if commonE h.log x.log<x.log.length then [.cut (h.base+commonE h.log x.log)] else []
def votR (x h:Hrd):List Rec:=if h.term≠x.term∨h.vote≠x.vote then [.vot h.term h.vote] else []
def moreR (x h:Hrd):List Rec:=votR x h++(cutR x h++etyR (h.log.drop (commonE h.log x.log)))
def layR (h:Hrd):List Rec:=.beg (headH h)::(etyR h.log++[.rdy])
theorem right_bare {h:Hrd} (hr:rightH h=true):bareH h=true:=by
 unfold rightH at hr;simp only [Bool.and_eq_true] at hr
 exact hr.1.1
def Between (y x h:Hrd):Prop:=y=x∨y={ x with term:=h.term,vote:=h.vote }∨∃ m,m≤h.log.length∧y={ bareOf h with log:=h.log.take m }
structure MoreOk (x h:Hrd):Prop where
 bx:bareH x=true
 bh:bareH h=true
 snap:x.snap=sNone
 base:h.base=x.base
 bterm:h.bterm=x.bterm
 mem:h.members=x.members
 term:x.term≤h.term
 vote:h.term=x.term→x.vote ≠ -1→h.vote=x.vote
end
end Go.Proofs.YtgpgcnmnfnnkjaaGreatDoor
