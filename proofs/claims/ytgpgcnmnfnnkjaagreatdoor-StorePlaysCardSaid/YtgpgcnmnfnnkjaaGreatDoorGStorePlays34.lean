import Derived.Test.YtgpgcnmnfnnkjaaGreatDoorGStorePlays27
import Derived.Test.YtgpgcnmnfnnkjaaGreatDoorGStorePlays21
import Derived.Lib.LaidIn
set_option linter.unusedVariables false
set_option linter.unusedSimpArgs false
set_option maxRecDepth 100000
set_option maxHeartbeats 16000000
namespace Go.Proofs.YtgpgcnmnfnnkjaaGreatDoor
section
open Go Go.RowKit Go.PlainAid BigFrame
attribute [local go_sem] After.same
abbrev TabW (w : World) : Prop := Lib.TabIs Tryz.prog w "internal/strconv.uint64pow10" .u64 Lib.pow10Tab
theorem nameW_size {n:Nat} (h:n≤9223372036854775807):(nameW n).size≤23:=by
 have:=digits_le 18 n (by omega)
 show ((hdW++Lib.decDigits n).toArray).size≤23
 simp [hdW];omega
def WalDid (w0 w:World) (X:Nat→Prop) (g gw:Nat) (v:Value) (ws:Wl) (E:Int) (d':Dk) (e:Ending) (w':World):Prop:=e=.returned (.int .i64 E)∧DwS w0 X g d' w'∧WalV w' X g gw v ws∧Chg (Gx w0 X) w w'

theorem walWrite {w0 w:World} {X:Nat→Prop} {g gw:Nat} {d d':Dk} {v:Value} {ws:Wl} (hd:DwS w0 X g d w) {m:Nat} (pi:PInv m d) (hm:m≤900) (hw:WalV w X g gw v ws) (n:Nat) (N:Int) (hN:N=(n:Int)) (hn:n≤9223372036854775807) (u:Value) (b:List UInt8) (hb:Bytes w u b) (hloc:b≠[]→∀ k,u.ownBlock=some k→k<w0.heap.size∨X k)
 (htab:∀ w',Chg (Gx w0 X) w w'→TabW w') {E:Int} (he:writeD d n b=(E,d')) :
 Calls Tryz.prog 106 #[.pointer (some ⟨gw,0,none⟩),.int .i64 N,u] w (WalDid w0 w X g gw v ws E d'):=by
 subst hN;obtain ⟨pb,cb,rfl⟩:=hb.shape;have hs0:=hd.size;obtain ⟨E1,d1,ha⟩:∃ E1 d1,appendD d (nameW n) b=(E1,d1):=⟨_,_,rfl⟩;have pi1:PInv (m+1) d1:=by have:=pi.append (nameW n) b;rw [ha] at this;exact this
 have hwr:thenD (appendD d (nameW n) b) (fun d=>syncD d (nameW n))=(E,d'):=he;rw [ha] at hwr;have c0:=hw.c0;have hnam:=nameW_size hn;go_enter Tryz.func106,Tryz.ntmps106
 go_wp2_with fail
 refine wp_region_F (n:=8) (S:=fun w':World=>w'.cell? ⟨gw,0,none⟩=some (.pointer (some ⟨g,0,none⟩))) (by kernel_rfl) ?_;have hHeld:(fun w':World=>w'.cell? ⟨gw,0,none⟩=some (.pointer (some ⟨g,0,none⟩))) w.drew:=c0;refine tk ?_ 0 ?_ hHeld ?_;rotate_left
 ·intro w hSw;(try dsimp only at hSw);dsimp only [bare];go_simp<;>with_reducible rfl
 try simp only [lyB,lyP,lyA,lyZ,lyS]
 refine tk ?_ 1 ?_ hHeld ?_;rotate_left
 ·intro w hSw;(try dsimp only at hSw);dsimp only [bare];go_simp<;>with_reducible rfl
 try simp only [lyB,lyP,lyA,lyZ,lyS]
 refine tk ?_ 2 ?_ hHeld ?_;rotate_left
 ·intro w hSw;(try dsimp only at hSw);dsimp only [bare];go_simp<;>with_reducible rfl
 try simp only [lyB,lyP,lyA,lyZ,lyS]
 refine tk ?_ 3 ?_ hHeld ?_;rotate_left
 ·intro w hSw;(try dsimp only at hSw);dsimp only [bare];go_simp<;>with_reducible rfl
 try simp only [lyB,lyP,lyA,lyZ,lyS]
 refine tk ?_ 4 ?_ hHeld ?_;rotate_left
 ·intro w hSw;(try dsimp only at hSw);dsimp only [bare];go_simp<;>with_reducible rfl
 try simp only [lyB,lyP,lyA,lyZ,lyS]
 refine tk ?_ 6 ?_ hHeld ?_;rotate_left
 ·intro w hSw;(try dsimp only at hSw);dsimp only [bare];go_simp<;>with_reducible rfl
 try simp only [lyB,lyP,lyA,lyZ,lyS]
 refine wpAnyF_one 5 _ _ _ rfl (by kernel_rfl) (fun K hK=>?_);dsimp only [bare];go_simp;refine (walNamed n _ rfl hn w.drew (htab _ (Chg.of_below (below_drew _ _)))).mono ?_;rintro e w2 ⟨rfl,b2⟩;dsimp only;have bE:Below w.heap.size w w2:=(below_drew _ _).trans b2;have hd2:=hd.ext bE;have hw2:=hw.ext bE;refine hK _ _ hw2.c0 (fun hHeld=>?_);clear hK K
 try simp only [lyB,lyP,lyA,lyZ,lyS]
 refine wpAnyF_one 7 _ _ _ rfl (by kernel_rfl) (fun K hK=>?_);dsimp only [bare];go_simp;refine (lAppend hd2 (pi.ok (by omega)) ha (by omega) (hb.ext bE) hloc).mono ?_;rintro e w3 ⟨rfl,hd3,ch⟩;dsimp only;have hw3:=hw2.keep ch;have ch3:Chg (Gx w0 X) w w3:=(Chg.of_below bE).step ch;refine hK _ _ hw3.c0 (fun hHeld=>?_);clear hK K
 try simp only [lyB,lyP,lyA,lyZ,lyS]
 refine wpAnyF_end (some 7) (Op.assign (Operand.tmp 15)) 42 rfl (by kernel_rfl) (by kernel_rfl) (fun K hK=>?_);dsimp only [bare];go_simp;refine hK _ _ ?_;clear hK K
 try simp only [lyB,lyP,lyA,lyZ,lyS]
 unfold thenD at hwr
 by_cases hE:E1=0
 ·subst hE;rw [if_pos rfl] at hwr;replace hwr:syncD d1 (nameW n)=(E,d'):=hwr;have c03:=hw3.c0;go_wp2_with fail
  refine wp_region_F (n:=7) (S:=fun w':World=>w'.cell? ⟨gw,0,none⟩=some (.pointer (some ⟨g,0,none⟩))) (by kernel_rfl) ?_;have hHeld:(fun w':World=>w'.cell? ⟨gw,0,none⟩=some (.pointer (some ⟨g,0,none⟩))) w3.drew:=c03;refine tk ?_ 0 ?_ hHeld ?_;rotate_left
  ·intro w hSw;(try dsimp only at hSw);dsimp only [bare];go_simp<;>with_reducible rfl
  try simp only [lyB,lyP,lyA,lyZ,lyS]
  refine tk ?_ 1 ?_ hHeld ?_;rotate_left
  ·intro w hSw;(try dsimp only at hSw);dsimp only [bare];go_simp<;>with_reducible rfl
  try simp only [lyB,lyP,lyA,lyZ,lyS]
  refine tk ?_ 2 ?_ hHeld ?_;rotate_left
  ·intro w hSw;(try dsimp only at hSw);dsimp only [bare];go_simp<;>with_reducible rfl
  try simp only [lyB,lyP,lyA,lyZ,lyS]
  refine tk ?_ 3 ?_ hHeld ?_;rotate_left
  ·intro w hSw;(try dsimp only at hSw);dsimp only [bare];go_simp<;>with_reducible rfl
  try simp only [lyB,lyP,lyA,lyZ,lyS]
  refine tk ?_ 4 ?_ hHeld ?_;rotate_left
  ·intro w hSw;(try dsimp only at hSw);dsimp only [bare];go_simp<;>with_reducible rfl
  try simp only [lyB,lyP,lyA,lyZ,lyS]
  refine wpAnyF_one 5 _ _ _ rfl (by kernel_rfl) (fun K hK=>?_);dsimp only [bare];go_simp;refine (walNamed n _ rfl hn w3.drew (htab _ ch3.drew)).mono ?_;rintro e w4 ⟨rfl,b4⟩;dsimp only;have bF:Below w3.heap.size w3 w4:=(below_drew _ _).trans b4;have hd4:=hd3.ext bF;have hw4:=hw3.ext bF;refine hK _ _ hw4.c0 (fun hHeld=>?_);clear hK K
  try simp only [lyB,lyP,lyA,lyZ,lyS]
  refine wpAnyF_one 6 _ _ _ rfl (by kernel_rfl) (fun K hK=>?_);dsimp only [bare];go_simp;refine (lSync hd4 (pi1.ok (by omega)) hwr).mono ?_;rintro e w5 ⟨rfl,hd5,ch'⟩;dsimp only;have hw5:=hw4.keep ch';have ch5:Chg (Gx w0 X) w w5:=(ch3.step (Chg.of_below bF)).step ch';refine hK _ _ hw5.c0 (fun hHeld=>?_);clear hK K
  try simp only [lyB,lyP,lyA,lyZ,lyS]
  refine wpAnyF_end (some 6) (Op.assign (Operand.tmp 25)) 42 rfl (by kernel_rfl) (by kernel_rfl) (fun K hK=>?_);dsimp only [bare];go_simp;refine hK _ _ ?_;clear hK K
  try simp only [lyB,lyP,lyA,lyZ,lyS]
  go_wp2_with fail
  go_ret
  exact ⟨rfl,hd5,hw5,ch5⟩
 ·have hne:(E1 !=0)=true:=by simpa using hE
  rw [if_neg hE] at hwr
  cases hwr
  go_wp2_with fail
  go_ret
  exact ⟨rfl,hd3,hw3,ch3⟩
end
section
open Go Go.RowKit Go.PlainAid BigFrame
attribute [local go_sem] After.same
section
variable {w0 w w':World} {X Y:Nat→Prop} {g gw:Nat} {v:Value} {ws:Wl} {d d':Dk}
theorem WalV.mono (h:WalV w X g gw v ws) (hy:∀ k,X k→Y k):WalV w Y g gw v ws:=⟨h.blk,h.log,hy _ h.inX,fun k hk=>hy k (h.lX k hk),h.off,h.few,h.num⟩
theorem DwS.chgX {G:Nat→Prop} (h:DwS w0 X g d w) (hc:Chg G w w') (hG:∀ k,G k→X k∨k<w0.heap.size):DwS w0 X g d w':=by
 obtain ⟨⟨F,h1,h2⟩,h3⟩:=h;refine ⟨⟨F,h1.chg hc (fun k hk hg=>?_),h2⟩,fun k hk=>Nat.lt_of_lt_of_le (h3 k hk) hc.size⟩
 rcases hG k hg with e | e
 ·exact (h2 k hk).2 e
 ·exact Nat.lt_irrefl _ (Nat.lt_of_lt_of_le e (h2 k hk).1)
theorem WalV.setN (h:WalV w X g gw v ws) {n:Nat} {N:Int} (hN:N=(n:Int)) (hn:n≤99999999999999):WalV (w.setCell ⟨gw,1,none⟩ (.int .i64 N)) X g gw v { ws with n:=n }:=by
 subst hN;exact ⟨h.blk.set 1 (.int .i64 (n:Int)),(chg_cell gw 1 _ w).cells h.log (fun k hk e=>h.off (by rw [hk,e])),h.inX,h.lX,h.off,h.few,hn⟩
theorem WalV.setD (h:WalV w X g gw v ws):WalV (w.setCell ⟨gw,9,none⟩ (.bool true)) X g gw v { ws with down:=true } :=
 ⟨h.blk.set 9 (.bool true),(chg_cell gw 9 _ w).cells h.log (fun k hk e=>h.off (by rw [hk,e])),h.inX,h.lX,h.off,h.few,h.num⟩
end
def Gw (w0:World) (X:Nat→Prop) (gw:Nat) (k:Nat):Prop:=Gx w0 X k∨k=gw
theorem Chg.toGw {w0 w w':World} {X Y:Nat→Prop} {gw:Nat} (h:Chg (Gx w0 Y) w w') (hy:∀ k,X k→Y k):Chg (Gw w0 X gw) w w':=h.mono fun k _ hk=>.inl ⟨hk.1,fun hX=>hk.2 (hy k hX)⟩
structure HrdIn (h:Hrd):Prop where
 t:In64 h.term
 v:In64 h.vote
 b:In64 h.base
 bt:In64 h.bterm
 m:In64 h.members
 few:h.log.length≤200
 log:∀ x ∈ h.log,EtyIn x
theorem recB_le (l:List Int):(recB l).length≤10 * l.length+8:=by have h1:=one_le (numsB l);have h2:=numsB_le l;unfold recB;omega
theorem litI (w:World) (cs:Array Value) (l:List Int) (n H:Nat) (hH:w.heap.size=H) (hn:l.length=n) (hs:cs.toList=intsE.all l) (hm:n≤maxLen):Rd intsE (w.alloc (.cells cs 3)) (.slice (some ⟨H,0,none⟩) n n) l:=(OwnR.litAt intsE w cs 3 l n 0 H hH hn hs hm (Nat.zero_le _)).rd
def LaidW (w0 w:World) (X:Nat→Prop) (g gw:Nat) (v:Value) (ws:Wl) (E:Int) (n:Nat) (d':Dk) (e:Ending) (w':World):Prop:=e=.returned (.int .i64 E)∧DwS w0 X g d' w'∧WalV w' X g gw v { ws with n:=n }∧Chg (Gw w0 X gw) w w'

theorem walLay {w0 w:World} {X:Nat→Prop} {g gw:Nat} {d d':Dk} {v:Value} {ws:Wl} (T0:∀ z,Below w0.heap.size w0 z→TabW z) (hd:DwS w0 X g d w) (hb0:Below w0.heap.size w0 w) (hgw0:w0.heap.size≤gw) {m:Nat} (pi:PInv m d) (hm:m≤890) (hw:WalV w X g gw v ws) (hn1:ws.n+1≤99999999999999) (h:Hrd) (hin:HrdIn h) (u:Value) (hu:Rd etyE w u h.log) {E:Int} {n':Nat} (he:layW d ws.n h=(E,n',d')) :
 Calls Tryz.prog 73 #[.pointer (some ⟨gw,0,none⟩),hrdA h u] w (LaidW w0 w X g gw v ws E n' d'):=by
 obtain ⟨p,cap,rfl⟩:=hu.shape;obtain ⟨E1,d1,ha⟩:∃ E1 d1,writeD d (ws.n+1) (layB h)=(E1,d1):=⟨_,_,rfl⟩;have pi1:PInv (m+2) d1:=by
  have h1:=pi.append (nameW (ws.n+1)) (layB h);have h2:=h1.sync (nameW (ws.n+1));unfold writeD thenD at ha
  split at ha
  ·dsimp only at ha;rw [ha] at h2;exact h2
  ·rw [ha] at h1;exact h1.up
 have hlay:layW d ws.n h=(if (writeD d (ws.n+1) (layB h)).1=0 then (if ws.n=0 then (0,1,(writeD d (ws.n+1) (layB h)).2) else ((removeD (writeD d (ws.n+1) (layB h)).2 (nameW ws.n)).1,ws.n+1,(removeD (writeD d (ws.n+1) (layB h)).2 (nameW ws.n)).2)) else ((writeD d (ws.n+1) (layB h)).1,ws.n,(writeD d (ws.n+1) (layB h)).2)):=rfl;rw [he,ha] at hlay;dsimp only at hlay;have Hlay:=Lib.hid hlay;have Ha:=Lib.hid ha;clear hlay ha he;obtain ⟨i1,i2,i3,i4,i5,i6,i7⟩:=hin;have hgl:=hw.blk.lt
 have ca:=below_alloc w (.cells #[.int .i64 h.term,.int .i64 h.vote,.int .i64 h.base,.int .i64 h.bterm,.int .i64 h.members,.string h.snap,.slice p h.log.length cap] 24);have kA:=Blk.new w #[.int .i64 h.term,.int .i64 h.vote,.int .i64 h.base,.int .i64 h.bterm,.int .i64 h.members,.string h.snap,.slice p h.log.length cap] 24;have hHs:(w.alloc (.cells #[.int .i64 h.term,.int .i64 h.vote,.int .i64 h.base,.int .i64 h.bterm,.int .i64 h.members,.string h.snap,.slice p h.log.length cap] 24)).heap.size=w.heap.size+1:=by simp
 have lit:=litI (w.alloc (.cells #[.int .i64 h.term,.int .i64 h.vote,.int .i64 h.base,.int .i64 h.bterm,.int .i64 h.members,.string h.snap,.slice p h.log.length cap] 24)) #[.int .i64 1,.int .i64 h.term,.int .i64 h.vote,.int .i64 h.base,.int .i64 h.bterm,.int .i64 h.members] [1,h.term,h.vote,h.base,h.bterm,h.members] 6 (w.heap.size+1) hHs rfl rfl (by unfold maxLen;omega)
 have bL:=ca.trans ((below_alloc (w.alloc (.cells #[.int .i64 h.term,.int .i64 h.vote,.int .i64 h.base,.int .i64 h.bterm,.int .i64 h.members,.string h.snap,.slice p h.log.length cap] 24)) (.cells #[.int .i64 1,.int .i64 h.term,.int .i64 h.vote,.int .i64 h.base,.int .i64 h.bterm,.int .i64 h.members] 3)).mono (by omega))
 have kA1:=kA.ext (below_alloc (w.alloc (.cells #[.int .i64 h.term,.int .i64 h.vote,.int .i64 h.base,.int .i64 h.bterm,.int .i64 h.members,.string h.snap,.slice p h.log.length cap] 24)) (.cells #[.int .i64 1,.int .i64 h.term,.int .i64 h.vote,.int .i64 h.base,.int .i64 h.bterm,.int .i64 h.members] 3));have hcall:=walNums _ [1,h.term,h.vote,h.base,h.bterm,h.members] _ lit (by simp) (fun y hy=>by simp only [List.mem_cons,List.not_mem_nil,or_false] at hy;rcases hy with rfl | rfl | rfl | rfl | rfl | rfl;exact ⟨by decide,by decide⟩;exact i1;exact i2;exact i3;exact i4;exact i5);have bL':=bL
 have kA1':=kA1;clear lit kA bL kA1;go_enter Tryz.func73,Tryz.ntmps73
 go_wp2_with fail
 refine hcall.mono ?_;rintro e w1 ⟨r1,rfl,own1,b1⟩;have k1:=kA1'.ext b1;have b01:=bL'.trans (b1.mono bL'.size);clear hcall;have nl:=numsB_le [1,h.term,h.vote,h.base,h.bterm,h.members];simp only [List.length_cons,List.length_nil] at nl
 go_wp2_with fail
 refine (walRecord _ r1 [] _ w1 (Bytes.nil w1) own1.bytes (by simp) (by omega)).mono ?_;rintro e w2 ⟨r2,rfl,own2,b2⟩;have k2:=k1.ext b2;have b02:=b01.trans (b2.mono b01.size);have a6:=k2.cell 6 _ rfl;have hrl:=recB_le [1,h.term,h.vote,h.base,h.bterm,h.members];simp only [List.length_cons,List.length_nil] at hrl
 replace own2:OwnB w2 w1.heap.size 5 r2 (recB [1,h.term,h.vote,h.base,h.bterm,h.members]):=own2;generalize hR1:recB [1,h.term,h.vote,h.base,h.bterm,h.members]=R1 at *;go_wp2_with fail
 refine (walEntries r2 _ R1 h.log w2 own2.bytes (hu.ext b02) (by omega) (by omega) i7).mono ?_;rintro e w3 ⟨r3,rfl,by3,loc3,b3⟩;have b03:=b02.trans (b3.mono b02.size);have hel:=etysB_le (l:=h.log) (fun x hx=>(i7 x hx).2.2);have hw3:=hw.ext b03;generalize hR2:etysB h.log=R2 at *;have lit3:=litI w3 #[.int .i64 3] [3] 1 w3.heap.size rfl rfl rfl (by unfold maxLen;omega);have hcall3:=walNums _ [3] _ lit3 (by simp) (fun y hy=>by simp only [List.mem_cons,List.not_mem_nil,or_false] at hy;subst hy;exact ⟨by decide,by decide⟩)
 have b4a:Below w3.heap.size w3 (w3.alloc (.cells #[.int .i64 3] 3)):=below_alloc _ _;have nl3:=numsB_le [3];simp only [List.length_cons,List.length_nil] at nl3
 clear lit3;go_wp2_with fail
 refine hcall3.mono ?_;rintro e w4 ⟨r4,rfl,own4,b4⟩;have b34:=b4a.trans (b4.mono b4a.size);have by3':=by3.ext b34;go_wp2_with fail
 refine (walRecord r3 r4 _ _ w4 by3' own4.bytes (by rw [List.length_append];omega) (by omega)).mono ?_;rintro e w5 ⟨r5,rfl,own5,b5⟩;have b35:=b34.trans (b5.mono b34.size);have b05:=b03.trans (b35.mono b03.size);have hLB:R1++R2++Frm.one (numsB [3])=layB h:=by rw [←hR1, ←hR2];rfl
 rw [hLB] at own5;have hw5:=hw.ext b05;have c51:=hw5.c1;have hs5:=b05.size;have h45:w.heap.size≤w4.heap.size:=by have:=b34.size;have:=b03.size;omega
 have hd5:DwS w0 (fun k=>X k∨r5.ownBlock=some k) g d w5:=hd.more b05 (fun k hk=>hk.imp id (fun e=>⟨by have:=(own5.lt k e).1;omega,(own5.lt k e).2⟩));have hw5':=hw5.mono (Y:=fun k=>X k∨r5.ownBlock=some k) (fun k hk=>.inl hk);have hb05:Below w0.heap.size w0 w5:=hb0.trans (b05.mono hb0.size);go_wp2_with fail
 refine (walWrite hd5 pi (by omega) hw5' (ws.n+1) _ (by rfl) (by omega) r5 (layB h) own5.bytes (fun _ k hk=>.inr (.inr hk)) (fun z hz=>T0 z (hb05.trans (hz.gx hb05.size))) Ha.out).mono ?_;rintro e w6 ⟨rfl,hd6,hw6,ch6⟩;have hd6':=hd6.mono (Y:=X) (fun k hk=>.inl hk);have hw6':WalV w6 X g gw v ws:=(hw.ext b05).chg ch6 (fun k hk hG=>hG.2 (.inl hk));have ch06:Chg (Gw w0 X gw) w w6:=(Chg.of_below b05).step (ch6.toGw (fun k hk=>.inl hk));have c61:=hw6'.c1;have f61:=hw6'.blk.frozen 1;have hb06:Below w0.heap.size w0 w6:=hb05.trans (ch6.gx hb05.size)
 clear hd5 hw5 hw5' own5 by3 by3' own4 own1 own2 kA1' k1 k2 a6 hcall3 hd6 hw6 ch6 c51 hu
 by_cases hE:E1=0
 ·subst hE;have hl2:=Hlay.out;rw [if_pos rfl] at hl2;have hw7:=hw6'.setN (N:=(ws.n:Int)+1) (n:=ws.n+1) (by omega) hn1;have hd7:=hd6'.chgX (chg_cell gw 1 (.int .i64 ((ws.n:Int)+1)) w6) (fun k hk=>by subst hk;exact .inl hw6'.inX);have ch07:Chg (Gw w0 X gw) w (w6.setCell ⟨gw,1,none⟩ (.int .i64 ((ws.n:Int)+1))):=ch06.step ((chg_cell gw 1 _ w6).mono fun k _ hk=>.inr hk);have hb07:Below w0.heap.size w0 (w6.setCell ⟨gw,1,none⟩ (.int .i64 ((ws.n:Int)+1))):=hb06.setCell (p:=⟨gw,1,none⟩) hgw0 _;have H7:=Lib.hid (And.intro hw7 (And.intro hd7 (And.intro ch07 hb07)));clear hw7 hd7 ch07 hb07 hw6' hd6'
  by_cases h0:ws.n=0
  ·have hz:(((ws.n:Nat):Int)+1 == 1)=true:=by simp [h0]
   rw [if_pos h0] at hl2;simp only [Prod.mk.injEq] at hl2
   obtain ⟨rfl,rfl,rfl⟩:=hl2;have e1:ws.n+1=1:=by omega
   have hwx:=H7.out.1;rw [e1] at hwx;have Hwx:=Lib.hid hwx;clear e1 h0 hwx;go_wp2_with fail
   go_ret
   exact ⟨rfl,H7.out.2.1,Hwx.out,H7.out.2.2.1⟩
  ·have hz:(((ws.n:Nat):Int)+1 == 1)=false:=by simp;omega
   rw [if_neg h0] at hl2;simp only [Prod.mk.injEq] at hl2
   obtain ⟨rfl,rfl,rfl⟩:=hl2;clear h0;go_wp2_with fail
   generalize w6.setCell ⟨gw,1,none⟩ (.int .i64 ((ws.n:Int)+1))=w7 at *;obtain ⟨hw7,hd7,ch07,hb07⟩:=H7.out;refine wp_region_F (n:=11) (S:=fun w':World=>w'.cell? ⟨gw,0,none⟩=some (.pointer (some ⟨g,0,none⟩))∧w'.cell? ⟨gw,1,none⟩=some (.int .i64 ((ws.n:Int)+1))) (by kernel_rfl) ?_;have hHeld:(fun w':World=>w'.cell? ⟨gw,0,none⟩=some (.pointer (some ⟨g,0,none⟩))∧w'.cell? ⟨gw,1,none⟩=some (.int .i64 ((ws.n:Int)+1))) w7.drew:=⟨hw7.c0,hw7.c1⟩;refine tk ?_ 0 ?_ hHeld ?_;rotate_left
   ·rintro w ⟨_,_⟩;dsimp only [bare];go_simp<;>with_reducible rfl
   try simp only [lyB,lyP,lyA,lyZ,lyS]
   refine tk ?_ 1 ?_ hHeld ?_;rotate_left
   ·rintro w ⟨_,_⟩;dsimp only [bare];go_simp<;>with_reducible rfl
   try simp only [lyB,lyP,lyA,lyZ,lyS]
   refine tk ?_ 2 ?_ hHeld ?_;rotate_left
   ·rintro w ⟨_,_⟩;dsimp only [bare];go_simp<;>with_reducible rfl
   try simp only [lyB,lyP,lyA,lyZ,lyS]
   refine tk ?_ 3 ?_ hHeld ?_;rotate_left
   ·rintro w ⟨_,_⟩;dsimp only [bare];go_simp<;>with_reducible rfl
   try simp only [lyB,lyP,lyA,lyZ,lyS]
   refine tk ?_ 4 ?_ hHeld ?_;rotate_left
   ·rintro w ⟨_,_⟩;dsimp only [bare];go_simp<;>with_reducible rfl
   try simp only [lyB,lyP,lyA,lyZ,lyS]
   refine tk ?_ 5 ?_ hHeld ?_;rotate_left
   ·rintro w ⟨_,_⟩;dsimp only [bare];go_simp<;>with_reducible rfl
   try simp only [lyB,lyP,lyA,lyZ,lyS]
   refine tk ?_ 6 ?_ hHeld ?_;rotate_left
   ·rintro w ⟨_,_⟩;dsimp only [bare];go_simp<;>with_reducible rfl
   try simp only [lyB,lyP,lyA,lyZ,lyS]
   refine tk ?_ 7 ?_ hHeld ?_;rotate_left
   ·rintro w ⟨_,_⟩;dsimp only [bare];go_simp<;>with_reducible rfl
   try simp only [lyB,lyP,lyA,lyZ,lyS]
   refine tk ?_ 8 ?_ hHeld ?_;rotate_left
   ·rintro w ⟨_,_⟩;dsimp only [bare];go_simp<;>with_reducible rfl
   try simp only [lyB,lyP,lyA,lyZ,lyS]
   refine wpAnyF_one 9 _ _ _ rfl (by kernel_rfl) (fun K hK=>?_);dsimp only [bare];go_simp;refine (walNamed ws.n _ (by first | omega | (rw [IntKind.wrap_i64];omega)) (by omega) w7.drew (T0 _ hb07.drew)).mono ?_;rintro e w8 ⟨rfl,b8⟩;dsimp only;have bE:Below w7.heap.size w7 w8:=(below_drew _ _).trans b8;have hd8:=hd7.ext bE;have hw8:=hw7.ext bE;refine hK _ _ ⟨hw8.c0,hw8.c1⟩ (fun hHeld=>?_);clear hK K
   try simp only [lyB,lyP,lyA,lyZ,lyS]
   refine wpAnyF_one 10 _ _ _ rfl (by kernel_rfl) (fun K hK=>?_);dsimp only [bare];go_simp;refine (lRemove (d':=(removeD d1 (nameW ws.n)).2) (E:=(removeD d1 (nameW ws.n)).1) hd8 (pi1.ok (by omega)) rfl).mono ?_;rintro e w9 ⟨rfl,hd9,ch9⟩;dsimp only;have hw9:=hw8.keep ch9;have ch09:=(ch07.step (Chg.of_below bE)).step (ch9.toGw (fun k hk=>hk));refine hK _ _ ⟨hw9.c0,hw9.c1⟩ (fun hHeld=>?_);clear hK K
   try simp only [lyB,lyP,lyA,lyZ,lyS]
   refine wpAnyF_end (some 4) (Op.assign (Operand.tmp 60)) 42 rfl (by kernel_rfl) (by kernel_rfl) (fun K hK=>?_);dsimp only [bare];go_simp;refine hK _ _ ?_;clear hK K
   try simp only [lyB,lyP,lyA,lyZ,lyS]
   go_wp2_with fail
   go_ret
   exact ⟨rfl,hd9,hw9,ch09⟩
 ·have hne:(E1 !=0)=true:=by simpa using hE
  have hl2:=Hlay.out;rw [if_neg hE] at hl2;simp only [Prod.mk.injEq] at hl2
  obtain ⟨rfl,rfl,rfl⟩:=hl2;go_wp2_with fail
  go_ret
  exact ⟨rfl,hd6',hw6',ch06⟩
end
end Go.Proofs.YtgpgcnmnfnnkjaaGreatDoor
