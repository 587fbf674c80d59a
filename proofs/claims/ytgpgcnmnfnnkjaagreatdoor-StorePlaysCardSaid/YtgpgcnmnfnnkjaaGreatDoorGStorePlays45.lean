import Derived.Test.YtgpgcnmnfnnkjaaGreatDoorGStorePlays44
set_option linter.unusedVariables false
set_option linter.unusedSimpArgs false
set_option maxRecDepth 100000
set_option maxHeartbeats 16000000
namespace Go.Proofs.YtgpgcnmnfnnkjaaGreatDoor
section
open Go Go.RowKit Go.PlainAid BigFrame
def RkDid (w0 w:World) (X:Nat→Prop) (g gw:Nat) (v u:Value) (E:Int) (ws':Wl) (d':Dk) (e:Ending) (w':World):Prop :=
 e=.returned (.int .i64 E)∧RfS w0 X g d' w'∧(∃ v',RwV w' X g gw v' ws'∧(v'=v∨v'=u))∧Chg (Gw w0 X gw) w w'
def anewR (d:Dk) (ws:Wl) (h:Hrd):Int×Wl×Dk:=if 99999999999999≤ws.n then (14,ws,d) else keepR ws h (layW d ws.n h)
section
variable {w0 w w':World} {X:Nat→Prop} {g gw:Nat} {v v':Value} {ws:Wl} {d:Dk}
theorem RwV.c0 (h:RwV w X g gw v ws):w.cell? ⟨gw,0,none⟩=some (.pointer (some ⟨g,0,none⟩)):=h.blk.cell 0 _ rfl
theorem RwV.c8 (h:RwV w X g gw v ws):w.cell? ⟨gw,8,none⟩=some (.int .i64 (ws.n:Int)):=h.blk.cell 8 _ rfl
theorem RwV.c9 (h:RwV w X g gw v ws):w.cell? ⟨gw,9,none⟩=some (.bool ws.down):=h.blk.cell 9 _ rfl
theorem RwV.setD (h:RwV w X g gw v ws):RwV (w.setCell ⟨gw,9,none⟩ (.bool true)) X g gw v { ws with down:=true } :=
 ⟨h.blk.set 9 (.bool true),h.log.chgE (chg_cell gw 9 _ w) (fun hne k hk e=>h.off hne (by rw [hk,e])),h.inX,h.lX,h.off,h.few,h.num⟩
theorem RwV.setN (h:RwV w X g gw v ws) {n:Nat} {N:Int} (hN:N=(n:Int)) (hn:n≤99999999999999):RwV (w.setCell ⟨gw,8,none⟩ (.int .i64 N)) X g gw v { ws with n:=n }:=by
 subst hN;exact ⟨h.blk.set 8 (.int .i64 (n:Int)),h.log.chgE (chg_cell gw 8 _ w) (fun hne k hk e=>h.off hne (by rw [hk,e])),h.inX,h.lX,h.off,h.few,hn⟩
theorem rwA_fill (g:Nat) (ws:Wl) (v v':Value) (h:Hrd):(((((((rwA g ws v).setIfInBounds 1 (.int .i64 h.term)).setIfInBounds 2 (.int .i64 h.vote)).setIfInBounds 3 (.int .i64 h.base)).setIfInBounds 4 (.int .i64 h.bterm)).setIfInBounds 5 (.int .i64 h.members)).setIfInBounds 6 (.string h.snap)).setIfInBounds 7 v'=rwA g ⟨ws.n,h,ws.down⟩ v':=by kernel_rfl
theorem RwV.fill (k:RwV w X g gw v ws) {h:Hrd} (hl:Rd etyE w v' h.log) (hx:h.log≠[]→∀ k,v'.ownBlock=some k→X k) (ho:h.log≠[]→v'.ownBlock≠some gw) (hf:h.log.length≤200) :
 RwV (((((((w.setCell ⟨gw,1,none⟩ (.int .i64 h.term)).setCell ⟨gw,2,none⟩ (.int .i64 h.vote)).setCell ⟨gw,3,none⟩ (.int .i64 h.base)).setCell ⟨gw,4,none⟩ (.int .i64 h.bterm)).setCell ⟨gw,5,none⟩ (.int .i64 h.members)).setCell ⟨gw,6,none⟩ (.string h.snap)).setCell ⟨gw,7,none⟩ v') X g gw v' ⟨ws.n,h,ws.down⟩∧Chg (fun k=>k=gw) w (((((((w.setCell ⟨gw,1,none⟩ (.int .i64 h.term)).setCell ⟨gw,2,none⟩ (.int .i64 h.vote)).setCell ⟨gw,3,none⟩ (.int .i64 h.base)).setCell ⟨gw,4,none⟩ (.int .i64 h.bterm)).setCell ⟨gw,5,none⟩ (.int .i64 h.members)).setCell ⟨gw,6,none⟩ (.string h.snap)).setCell ⟨gw,7,none⟩ v'):=by
 have hc:Chg (fun k=>k=gw) w (((((((w.setCell ⟨gw,1,none⟩ (.int .i64 h.term)).setCell ⟨gw,2,none⟩ (.int .i64 h.vote)).setCell ⟨gw,3,none⟩ (.int .i64 h.base)).setCell ⟨gw,4,none⟩ (.int .i64 h.bterm)).setCell ⟨gw,5,none⟩ (.int .i64 h.members)).setCell ⟨gw,6,none⟩ (.string h.snap)).setCell ⟨gw,7,none⟩ v'):=((((((((Chg.refl (fun k=>k=gw) w).setCell (p:=⟨gw,1,none⟩) rfl (.int .i64 h.term)).setCell (p:=⟨gw,2,none⟩) rfl (.int .i64 h.vote)).setCell (p:=⟨gw,3,none⟩) rfl (.int .i64 h.base)).setCell (p:=⟨gw,4,none⟩) rfl (.int .i64 h.bterm)).setCell (p:=⟨gw,5,none⟩) rfl (.int .i64 h.members)).setCell (p:=⟨gw,6,none⟩) rfl (.string h.snap)).setCell (p:=⟨gw,7,none⟩) rfl v')
 refine ⟨⟨?_,hl.chgE hc (fun hne k hk e=>ho hne (by rw [hk,e])),k.inX,hx,ho,hf,k.num⟩,hc⟩;rw [←rwA_fill (v:=v) (ws:=ws)];exact (((((((k.blk.set 1 (.int .i64 h.term)).set 2 (.int .i64 h.vote)).set 3 (.int .i64 h.base)).set 4 (.int .i64 h.bterm)).set 5 (.int .i64 h.members)).set 6 (.string h.snap)).set 7 v')
theorem nameR_len (n:Nat):(nameW n).size=4+(Lib.decDigits n).length:=by rw [←bytes_size,nameW_bytes,List.length_append];rfl
theorem RwV.keep2 {X2:Nat→Prop} (h:RwV w X g gw v ws) (hX:∀ k,X k→X2 k) (hc:Chg (Gx w0 X2) w w'):RwV w' X g gw v ws:=h.chg hc fun k hk hG=>hG.2 (hX k hk)
theorem RkDid.done {w2:World} {d':Dk} {X2:Nat→Prop} {h:Hrd} {u:Value} (hd:RfS w0 X2 g d' w2) (hX:∀ k,X k→X2 k) (hv:RwV w2 X g gw v ws) (hc:Chg (Gx w0 X) w w2) (hl:Rd etyE w2 u h.log) (hx:h.log≠[]→∀ k,u.ownBlock=some k→X k) (ho:h.log≠[]→u.ownBlock≠some gw) (hf:h.log.length≤200) {N:Int} (hN:N=((ws.n+1:Nat):Int)) (hn:ws.n+1≤99999999999999) :
 RkDid w0 w X g gw v u 0 ⟨ws.n+1,h,ws.down⟩ d' (.returned (.int .i64 0)) ((((((((w2.setCell ⟨gw,8,none⟩ (.int .i64 N)).setCell ⟨gw,1,none⟩ (.int .i64 h.term)).setCell ⟨gw,2,none⟩ (.int .i64 h.vote)).setCell ⟨gw,3,none⟩ (.int .i64 h.base)).setCell ⟨gw,4,none⟩ (.int .i64 h.bterm)).setCell ⟨gw,5,none⟩ (.int .i64 h.members)).setCell ⟨gw,6,none⟩ (.string h.snap)).setCell ⟨gw,7,none⟩ u):=by
 have h1:=hv.setN hN hn;have c1:=chg_cell gw 8 (.int .i64 N) w2;obtain ⟨h2,c2⟩:=h1.fill (h:=h) (v':=u) (hl.chgE c1 (fun hne k hk e=>ho hne (by rw [hk,e]))) hx ho hf;have cc:=c1.step c2;exact ⟨rfl,(hd.chgX cc (fun k hk=>.inl (by rw [hk];exact hX _ hv.inX))).mono hX,⟨u,h2,.inr rfl⟩,(hc.mono fun k _ hk=>.inl hk).step (cc.mono fun k _ hk=>.inr hk)⟩
theorem RkDid.down {u:Value} {w2:World} {E:Int} {d':Dk} {X2:Nat→Prop} (hd:RfS w0 X2 g d' w2) (hX:∀ k,X k→X2 k) (hv:RwV w2 X g gw v ws) (hc:Chg (Gx w0 X) w w2):RkDid w0 w X g gw v u E { ws with down:=true } d' (.returned (.int .i64 E)) (w2.setCell ⟨gw,9,none⟩ (.bool true)) :=
 ⟨rfl,(hd.chgX (chg_cell gw 9 _ w2) (fun k hk=>.inl (by rw [hk];exact hX _ hv.inX))).mono hX,⟨v,hv.setD,.inl rfl⟩,(hc.mono fun k _ hk=>.inl hk).step ((chg_cell gw 9 _ w2).mono fun k _ hk=>.inr hk)⟩
end
theorem rkAnew {w0 w:World} {X:Nat→Prop} {g gw:Nat} {d d':Dk} {v:Value} {ws ws':Wl} (hd:RfS w0 X g d w) {m:Nat} (pi:PInv m d) (hm:m≤890) (hw:RwV w X g gw v ws) (h:Hrd) (hin:HrdIn h) (hsn:h.snap=sNone) (hdw:ws.down=false) (hfew:h.log.length≤200) (u:Value) (hu:Rd etyE w u h.log) (hux:h.log≠[]→∀ k,u.ownBlock=some k→X k) (hug:h.log≠[]→u.ownBlock≠some gw) {E:Int} (he:anewR d ws h=(E,ws',d')) :
 Calls Tryz.prog 48 #[.pointer (some ⟨gw,0,none⟩),hrdA h u] w (RkDid w0 w X g gw v u E ws' d'):=by
 obtain ⟨pu,cu,rfl⟩:=hu.shape;have he2:anewR d ws h=if 99999999999999≤ws.n then (14,ws,d) else keepR ws h (layW d ws.n h):=rfl
 rw [he] at he2;have He:=Lib.hid he2;have Hsn:=Lib.hid hsn;have Hdw:=Lib.hid hdw;clear he he2 hsn hdw;have hs0:=hd.size;have kh:=Blk.new w #[.int .i64 h.term,.int .i64 h.vote,.int .i64 h.base,.int .i64 h.bterm,.int .i64 h.members,.string h.snap,.slice pu h.log.length cu] 24;have ca:=below_alloc w (.cells #[.int .i64 h.term,.int .i64 h.vote,.int .i64 h.base,.int .i64 h.bterm,.int .i64 h.members,.string h.snap,.slice pu h.log.length cu] 24);have hwl:=hw.blk.lt
 have c8:(w.alloc (.cells #[.int .i64 h.term,.int .i64 h.vote,.int .i64 h.base,.int .i64 h.bterm,.int .i64 h.members,.string h.snap,.slice pu h.log.length cu] 24)).cell? ⟨gw,8,none⟩=some (.int .i64 (ws.n:Int)):=(hw.ext ca).c8;have hsA:(w.alloc (.cells #[.int .i64 h.term,.int .i64 h.vote,.int .i64 h.base,.int .i64 h.bterm,.int .i64 h.members,.string h.snap,.slice pu h.log.length cu] 24)).heap.size=w.heap.size+1:=by simp
 have hgne:gw≠w.heap.size:=by omega
 by_cases hfull:99999999999999≤ws.n
 ·have hfi:(99999999999999:Int)≤(ws.n:Int):=by omega
  have he2:=He.out;rw [if_pos hfull] at he2;obtain ⟨rfl,rfl,rfl⟩:E=14∧ws'=ws∧d'=d:=by simpa using he2
  have Hfin:=Lib.hid (And.intro (hd.ext ca) (And.intro (hw.ext ca) (Chg.of_below (F:=Gw w0 X gw) ca)));clear hw hd kh He hfull he2;go_enter Tryz.func48,Tryz.ntmps48
  go_wp2_with fail
  go_ret
  exact ⟨rfl,Hfin.out.1,⟨_,Hfin.out.2.1,.inl rfl⟩,Hfin.out.2.2⟩
 have hfi:¬ (99999999999999:Int)≤(ws.n:Int):=by omega
 have he2:=He.out;rw [if_neg hfull] at he2;have HeL:=Lib.hid he2;have hn1:ws.n+1≤99999999999999:=by omega
 have hdg:=dec_few hn1;clear He he2 hfull;have hcat:=Lib.hid (name_cat (ws.n+1));obtain ⟨⟨i1,i2⟩,⟨i3,i4⟩,⟨i5,i6⟩,⟨i7,i8⟩,⟨i9,i10⟩,_,ientry⟩:=hin;have ca':=ca;have huA:=hu.ext ca;have hwA:=hw.ext ca;have hdA:=hd.ext ca;clear hu;go_enter Tryz.func48,Tryz.ntmps48
 go_wp2_with fail
 generalize hWA:w.alloc (.cells #[.int .i64 h.term,.int .i64 h.vote,.int .i64 h.base,.int .i64 h.bterm,.int .i64 h.members,.string h.snap,.slice pu h.log.length cu] 24)=wA at *;clear hWA;refine (rkDigits (ws.n+1) _ (by omega) (by omega) wA).mono ?_;rintro e w1 ⟨rfl,b1⟩;have kh1:=kh.ext b1;have x0:=kh1.cell 0 _ rfl;have x1:=kh1.cell 1 _ rfl;have x2:=kh1.cell 2 _ rfl;have x3:=kh1.cell 3 _ rfl;have x4:=kh1.cell 4 _ rfl;have hA1:=b1.size;have bL:=below_alloc w1 (.cells #[.int .i64 h.term,.int .i64 h.vote,.int .i64 h.base,.int .i64 h.bterm,.int .i64 h.members] 3)
 have lit:Rd intsE (w1.alloc (.cells #[.int .i64 h.term,.int .i64 h.vote,.int .i64 h.base,.int .i64 h.bterm,.int .i64 h.members] 3)) (.slice (some ⟨w1.heap.size,0,none⟩) 5 5) [h.term,h.vote,h.base,h.bterm,h.members]:=litI w1 #[.int .i64 h.term,.int .i64 h.vote,.int .i64 h.base,.int .i64 h.bterm,.int .i64 h.members] [h.term,h.vote,h.base,h.bterm,h.members] 5 _ rfl rfl rfl (by unfold maxLen;omega);clear c8;have kh1':=kh;go_wp2_with fail
 refine (rkPut (.slice none 0 0) _ [] 1 [h.term,h.vote,h.base,h.bterm,h.members] _ (Bytes.nil _) lit (by simp) (by simp) ⟨by decide,by decide⟩ (by intro y hy;simp only [List.mem_cons,List.not_mem_nil,or_false] at hy;rcases hy with rfl | rfl | rfl | rfl | rfl;exact ⟨i1,i2⟩;exact ⟨i3,i4⟩;exact ⟨i5,i6⟩;exact ⟨i7,i8⟩;exact ⟨i9,i10⟩)).mono ?_;rintro e w2 ⟨q2,rfl,own2,b2⟩;rw [List.nil_append] at own2;have b02:=bL.trans (b2.mono bL.size);have bA2:=b1.trans (b02.mono b1.size);have kh2:=kh1.ext b02;have hrl:=recB_le [1,h.term,h.vote,h.base,h.bterm,h.members]
 simp only [List.length_cons,List.length_nil] at hrl
 have hsz2:=bA2.size;clear x0 x1 x2 x3 x4 lit kh1;have hB1:wA.heap.size≤w1.heap.size:=hA1
 go_upto_block 0 with (fail)
 go_cut [6] from 11 (fun o wi=>OwnB wi wA.heap.size 5 o (recB [1,h.term,h.vote,h.base,h.bterm,h.members]++etysB h.log)∧Below wA.heap.size wA wi)
 case first =>
  go_wp2_with fail
  go_loopw [6,7] (fun o i wr=>∃ k:Nat,k≤h.log.length∧i=.int .i64 k∧OwnB wr wA.heap.size 5 o (recB [1,h.term,h.vote,h.base,h.bterm,h.members]++etysB (h.log.take k))∧Below wA.heap.size wA wr) (fun _ i _=>h.log.length - (intOf i).toNat)
  case atStart=>exact ⟨0,Nat.zero_le _,rfl,by rw [List.take_zero,show etysB []=[] from rfl,List.append_nil];exact own2.base (Nat.le_trans hA1 bL.size),bA2⟩
  case round =>
   obtain ⟨k,hk,rfl,own,hbw⟩:=hrel;have khr:=kh1'.ext hbw;have x6:=khr.cell 6 _ rfl;have hszr:=hbw.size;obtain ⟨po,co,rfl⟩:=own.bytes.shape
   by_cases hlt:k<h.log.length
   ·have hur:=huA.ext hbw;obtain ⟨bb,off,rfl⟩:=Rd.blk hur (by omega);obtain ⟨y0,y1,y2⟩:=ety3 hur hlt;have hxin:=ientry h.log[k] (List.getElem_mem hlt);have hel:=etysB_le (l:=h.log.take k) (fun x hx=>(ientry x (List.mem_of_mem_take hx)).2.2);rw [List.length_take,Nat.min_eq_left hk] at hel;have hst:recB [1,h.term,h.vote,h.base,h.bterm,h.members]++etysB (h.log.take (k+1))=(recB [1,h.term,h.vote,h.base,h.bterm,h.members]++etysB (h.log.take k))++etyB h.log[k]:=by rw [List.take_succ_eq_append_getElem hlt,etysB_snoc,List.append_assoc]
    have Hst:=Lib.hid hst;have hol:(recB [1,h.term,h.vote,h.base,h.bterm,h.members]++etysB (h.log.take k)).length≤1200000000:=by rw [List.length_append];omega
    have hi:(k:Int)<(h.log.length:Int):=by omega
    have hi0:(0:Int)≤(k:Int):=by omega
    clear hst hel;generalize h.log[k]=x at *;generalize recB [1,h.term,h.vote,h.base,h.bterm,h.members]++etysB (h.log.take k)=O at *;go_wp2_with fail
    have hpe:=rkPutEntry _ O x wr own.bytes (by omega) hxin;unfold etyV at hpe
    with_reducible refine hpe.mono ?_
    rintro e w3 ⟨q3,rfl,own3,b3⟩;go_wp2_with fail
    go_roundw
    case rel=>exact ⟨k+1,by omega,by go_num,by rw [Hst.out];exact own3.base hszr,hbw.trans (b3.mono hszr)⟩
    case measure=>simp [intOf];omega
   ·have hke:k=h.log.length:=by omega
    have hi:¬ (k:Int)<(h.log.length:Int):=by omega
    have hown:OwnB wr wA.heap.size 5 (.slice po (recB [1,h.term,h.vote,h.base,h.bterm,h.members]++etysB (h.log.take k)).length co) (recB [1,h.term,h.vote,h.base,h.bterm,h.members]++etysB h.log):=by
     have h1:=own;rw [hke,List.take_of_length_le (Nat.le_refl _)] at h1 ⊢;exact h1
    have Hown:=Lib.hid hown;clear hown hke own;go_wp2_with fail
    go_meet
    refine ⟨?_,hbw⟩;have h1:=Hown.out;rw [List.length_append] at h1;exact h1
 case rest =>
  obtain ⟨own3,b3⟩:=hcut;obtain ⟨w3,hw3⟩:∃ z,z=wc:=⟨_,rfl⟩;subst hw3;clear own2 b2 b02 bA2 kh2 bL;have hsz3:=b3.size;have hel:=etysB_le (l:=h.log) (fun x hx=>(ientry x hx).2.2);have hlen3:(recB [1,h.term,h.vote,h.base,h.bterm,h.members]++etysB h.log).length≤1200000000:=by rw [List.length_append];omega
  have hlay0:recB [1,h.term,h.vote,h.base,h.bterm,h.members]++etysB h.log++recB [3]=layB h:=rfl;have Hlay:=Lib.hid hlay0;clear hlay0 hel;generalize recB [1,h.term,h.vote,h.base,h.bterm,h.members]++etysB h.log=O at *;have hB:=own3.bytes;obtain ⟨po,co,hpo⟩:=hB.shape;subst hpo;go_wp2_with fail
  have hi3:In64 3:=⟨by decide,by decide⟩
  with_reducible refine (rkPut _ (.slice none 0 0) _ 3 [] w3 hB (Rd.nil _) (by omega) (by simp) hi3 (by simp)).mono ?_
  rintro e w4 ⟨q4,rfl,own4,b4⟩;rw [Hlay.out] at own4;have hlb:(layB h).length≤1300000000:=by
   have:=recB_le [3];rw [←Hlay.out,List.length_append];simp only [List.length_singleton] at this;omega
  have bA4:=b3.trans (b4.mono hsz3);have b04:=ca'.trans (bA4.mono ca'.size);have own5:OwnB w4 wA.heap.size 5 q4 (layB h):=own4.base hsz3;clear own3 hB own4;have hsz4:=b04.size;have hX'':∃ X2:Nat→Prop,X2=fun k=>X k∨(w.heap.size≤k∧k<w4.heap.size):=⟨_,rfl⟩;obtain ⟨X2,hX2⟩:=hX'';have hXl:∀ k,X k→X2 k:=fun k hk=>by rw [hX2];exact .inl hk
  have hXn:∀ k,w.heap.size≤k→k<w4.heap.size→X2 k:=fun k h1 h2=>by rw [hX2];exact .inr ⟨h1,h2⟩
  have hd4:RfS w0 X2 g d w4:=hd.more b04 (fun k hk=>by rw [hX2] at hk;exact hk);have hw4:RwV w4 X g gw v ws:=hw.ext b04;have kh4:=kh1'.ext bA4;have hu4:=huA.ext bA4;have hqX:∀ k,q4.ownBlock=some k→X2 k:=fun k hk=>hXn k (by have:=(own5.lt k hk).1;omega) (own5.lt k hk).2;have hgX:X2 w.heap.size:=hXn _ (Nat.le_refl _) kh4.lt;have hux2:h.log≠[]→∀ k,(Value.slice pu h.log.length cu).ownBlock=some k→X2 k:=fun hne k hk=>hXl k (hux hne k hk);have hcm:∀ wz,Chg (Gx w0 X2) w4 wz→Chg (Gx w0 X) w wz:=fun wz hc=>(Chg.of_below (F:=Gx w0 X) b04).step (hc.mono fun k _ hk=>⟨hk.1,fun h=>hk.2 (hXl k h)⟩)
  have Hcm:=Lib.hid hcm;have HXl:=Lib.hid hXl;have HwX:=Lib.hid hw.inX;clear hcm hX2 hXl hXn hw hd hwA hdA huA;obtain ⟨E1,D1,hap⟩:∃ E1 D1,appendD d (nameW (ws.n+1)) (layB h)=(E1,D1):=⟨_,_,rfl⟩;have hlw:layW d ws.n h=(let r:=writeD d (ws.n+1) (layB h);if r.1=0 then (if ws.n=0 then (0,1,r.2) else let q:=removeD r.2 (nameW ws.n);(q.1,ws.n+1,q.2)) else (r.1,ws.n,r.2)):=rfl;have hwr:writeD d (ws.n+1) (layB h)=thenD (appendD d (nameW (ws.n+1)) (layB h)) fun d=>syncD d (nameW (ws.n+1)):=rfl;rw [hap] at hwr;have pi1:PInv (m+1) D1:=by have:=pi.append (nameW (ws.n+1)) (layB h);rw [hap] at this;exact this
  have hra:=rAppend hd4 (pi.ok (by omega)) (s:=((⟨#[119,97,108,46]⟩:ByteArray)++(⟨(Lib.decDigits (ws.n+1)).toArray⟩:ByteArray))) (p:=layB h) (E:=E1) (d':=D1) (by rw [hcat.out];exact hap) (by rw [hcat.out,nameR_len];omega) (by omega) own5.bytes (fun _ k hk=>.inr (hqX k hk));have d0:=hw4.c0;have Hlw:=Lib.hid hlw;have Hwr:=Lib.hid hwr;clear hlw hwr hap;obtain ⟨pq,cq,rfl⟩:=own5.bytes.shape;go_wp2_with fail
  with_reducible refine hra.mono ?_
  rintro e w5 ⟨rfl,hd5,ch5⟩;have hw5:=hw4.keep2 HXl.out ch5;clear hra d0 hd4
  by_cases hE1:E1=0
  case neg =>
   have hi:(E1 !=0)=true:=by simpa using hE1
   have hwE:writeD d (ws.n+1) (layB h)=(E1,D1):=Hwr.out.trans (if_neg hE1);have hres:E=E1∧ws'=⟨ws.n,ws.h,true⟩∧d'=D1:=by
    have h1:=HeL.out;rw [Hlw.out,hwE] at h1;dsimp only at h1;rw [if_neg hE1] at h1;unfold keepR at h1;rw [if_neg hE1] at h1
    simpa using h1
   obtain ⟨rfl,rfl,rfl⟩:=hres;have c9:=hw5.c9;have f9:=hw5.blk.frozen 9;have Hfin:=Lib.hid (RkDid.down (u:=.slice pu h.log.length cu) (E:=E) hd5 HXl.out hw5 (Hcm.out _ ch5));clear hw5 hd5 ch5 own5 hu4 kh4 hE1;go_wp2_with fail
   go_ret
   exact Hfin.out
  subst hE1;obtain ⟨E2,D2,hsy⟩:∃ E2 D2,syncD D1 (nameW (ws.n+1))=(E2,D2):=⟨_,_,rfl⟩;have hwE:writeD d (ws.n+1) (layB h)=(E2,D2):=Hwr.out.trans ((if_pos rfl).trans hsy);have pi2:PInv (m+1) D2:=by have:=pi1.sync0 (nameW (ws.n+1));rw [hsy] at this;exact this
  have hrs:=rSync hd5 (pi1.ok (by omega)) (s:=((⟨#[119,97,108,46]⟩:ByteArray)++(⟨(Lib.decDigits (ws.n+1)).toArray⟩:ByteArray))) (E:=E2) (d':=D2) (by rw [hcat.out];exact hsy);have HwE:=Lib.hid hwE;have d0:=hw5.c0;clear hsy hwE Hwr own5;go_wp2_with fail
  with_reducible refine hrs.mono ?_
  rintro e w6 ⟨rfl,hd6,ch6⟩;have hw6:=hw5.keep2 HXl.out ch6;have ch46:=ch5.step ch6;have kh6:=ch46.blk kh4 (fun hG=>hG.2 hgX);have hu6:=hu4.chgE ch46 (fun hne k hk hG=>hG.2 (hux2 hne k hk));clear hrs d0 hd5 hw5 hw4 ch5 ch6 kh4 hu4 hqX
  by_cases hE2:E2=0
  case neg =>
   have hi:(E2 !=0)=true:=by simpa using hE2
   have hres:E=E2∧ws'=⟨ws.n,ws.h,true⟩∧d'=D2:=by
    have h1:=HeL.out;rw [Hlw.out,HwE.out] at h1;dsimp only at h1;rw [if_neg hE2] at h1;unfold keepR at h1;rw [if_neg hE2] at h1
    simpa using h1
   obtain ⟨rfl,rfl,rfl⟩:=hres;have c9:=hw6.c9;have f9:=hw6.blk.frozen 9;have Hfin:=Lib.hid (RkDid.down (u:=.slice pu h.log.length cu) (E:=E) hd6 HXl.out hw6 (Hcm.out _ ch46));clear hw6 hd6 ch46 hu6 kh6 hE2;go_wp2_with fail
   go_ret
   exact Hfin.out
  subst hE2;have c8:=hw6.c8;have hbare:bareOf h=h:=by have:=Hsn.out;unfold bareOf;rw [←this]
  by_cases hn0:ws.n=0
  ·have hres:E=0∧ws'=⟨ws.n+1,h,ws.down⟩∧d'=D2:=by
    have h1:=HeL.out;rw [Hlw.out,HwE.out] at h1;dsimp only at h1;rw [if_pos rfl,if_pos hn0] at h1;unfold keepR at h1;rw [if_pos rfl,hbare] at h1;rw [Hdw.out,hn0]
    simpa using h1
   obtain ⟨rfl,rfl,rfl⟩:=hres;have hdec:decide (0<ws.n)=false:=decide_eq_false (by omega);go_upto_if 80 with (fail)
   try rw [hdec]
   have Hfin:=Lib.hid (RkDid.done (N:=(ws.n:Int)+1) hd6 HXl.out hw6 (Hcm.out _ ch46) hu6 hux hug hfew (by omega) hn1);clear hn0 hbare hdec;have y0:=kh6.cell 0 _ rfl;have y1:=kh6.cell 1 _ rfl;have y2:=kh6.cell 2 _ rfl;have y3:=kh6.cell 3 _ rfl;have y4:=kh6.cell 4 _ rfl;have y5:=kh6.cell 5 _ rfl;have y6:=kh6.cell 6 _ rfl;have x1:=hw6.blk.cell 1 _ rfl;have xf1:=hw6.blk.frozen 1;have x2:=hw6.blk.cell 2 _ rfl;have xf2:=hw6.blk.frozen 2;have x3:=hw6.blk.cell 3 _ rfl;have xf3:=hw6.blk.frozen 3;have x4:=hw6.blk.cell 4 _ rfl;have xf4:=hw6.blk.frozen 4;have x5:=hw6.blk.cell 5 _ rfl
   have xf5:=hw6.blk.frozen 5;have x6:=hw6.blk.cell 6 _ rfl;have xf6:=hw6.blk.frozen 6;have x7:=hw6.blk.cell 7 _ rfl;have xf7:=hw6.blk.frozen 7;have x8:=hw6.blk.cell 8 _ rfl;have xf8:=hw6.blk.frozen 8;clear hw6 hd6 ch46 hu6 kh6 HeL;go_wp2_with fail
   go_ret
   exact Hfin.out
  ·have hdec:decide (0<ws.n)=true:=decide_eq_true (by omega);go_upto_if 80 with (fail)
   try rw [hdec]
   clear hdec;obtain ⟨E3,D3,hrm⟩:∃ E3 D3,removeD D2 (nameW ws.n)=(E3,D3):=⟨_,_,rfl⟩;have hcat0:=Lib.hid (name_cat ws.n);have hdg0:=dec_few hw6.num;have hnn:=hw6.num;have hrr:∀ z,Below w6.heap.size w6 z→Calls Tryz.prog 46 #[.pointer (some ⟨g,0,none⟩),.string ((⟨#[119,97,108,46]⟩:ByteArray)++(⟨(Lib.decDigits (ws.n)).toArray⟩:ByteArray))] z fun e w'=>e=.returned (.int .i64 E3)∧RfS w0 X2 g D3 w'∧Chg (Gx w0 X2) z w':=fun z hz =>
    rRemove (hd6.ext hz) (pi2.ok (by omega)) (s:=((⟨#[119,97,108,46]⟩:ByteArray)++(⟨(Lib.decDigits (ws.n)).toArray⟩:ByteArray))) (E:=E3) (d':=D3) (by rw [hcat0.out];exact hrm)
   have hlw2:layW d ws.n h=(E3,ws.n+1,D3):=by rw [Hlw.out,HwE.out];dsimp only;rw [if_pos rfl,if_neg hn0,hrm]
   have Hlw2:=Lib.hid hlw2;have Hrr:=Lib.hid hrr;clear hrm hlw2 hrr HwE Hlw hn0;have Hbare:=Lib.hid hbare;clear hbare;have hw6D:=hw6.ext (below_drew w6.heap.size w6);go_wp2_with fail
   generalize hn0':ws.n=n at *;have Hn:=Lib.hid hn0';clear hn0';refine wp_region_F (n:=11) (S:=fun w':World=>w'.cell? ⟨gw,0,none⟩=some (.pointer (some ⟨g,0,none⟩))∧w'.cell? ⟨gw,8,none⟩=some (.int .i64 (n:Int))) (by kernel_rfl) ?_;have hHeld:(fun w':World=>w'.cell? ⟨gw,0,none⟩=some (.pointer (some ⟨g,0,none⟩))∧w'.cell? ⟨gw,8,none⟩=some (.int .i64 (n:Int))) w6.drew:=⟨hw6D.c0,by rw [←Hn.out];exact hw6D.c8⟩;refine tk ?_ 0 ?_ hHeld ?_;rotate_left
   ·rintro w ⟨_,_⟩;dsimp only [bare];go_simp<;>with_reducible rfl
   try simp only [lyB,lyP,lyA,lyZ,lyS]
   refine tk ?_ 1 ?_ hHeld ?_;rotate_left
   ·rintro w ⟨_,_⟩;dsimp only [bare];go_simp<;>with_reducible rfl
   try simp only [lyB,lyP,lyA,lyZ,lyS]
   refine tk ?_ 2 ?_ hHeld ?_;rotate_left
   ·rintro w ⟨_,_⟩;dsimp only [bare];go_simp<;>with_reducible rfl
   try simp only [lyB,lyP,lyA,lyZ,lyS]
   refine tk ?_ 3 ?_ hHeld ?_;rotate_left
   ·rintro w ⟨_,_⟩;dsimp only [bare];go_simp<;>with_reducible rfl
   try simp only [lyB,lyP,lyA,lyZ,lyS]
   refine tk ?_ 4 ?_ hHeld ?_;rotate_left
   ·rintro w ⟨_,_⟩;dsimp only [bare];go_simp<;>with_reducible rfl
   try simp only [lyB,lyP,lyA,lyZ,lyS]
   refine tk ?_ 5 ?_ hHeld ?_;rotate_left
   ·rintro w ⟨_,_⟩;dsimp only [bare];go_simp<;>with_reducible rfl
   try simp only [lyB,lyP,lyA,lyZ,lyS]
   refine tk ?_ 6 ?_ hHeld ?_;rotate_left
   ·rintro w ⟨_,_⟩;dsimp only [bare];go_simp<;>with_reducible rfl
   try simp only [lyB,lyP,lyA,lyZ,lyS]
   refine tk ?_ 7 ?_ hHeld ?_;rotate_left
   ·rintro w ⟨_,_⟩;dsimp only [bare];go_simp<;>with_reducible rfl
   try simp only [lyB,lyP,lyA,lyZ,lyS]
   refine wpAnyF_one 8 _ _ _ rfl (by kernel_rfl) (fun K hK=>?_);dsimp only [bare];go_simp;refine (rkDigits n _ rfl (by omega) w6.drew).mono ?_;rintro e w7 ⟨rfl,b7⟩;dsimp only;have b67:Below w6.heap.size w6 w7:=(below_drew w6.heap.size w6).trans b7;have hw7:=hw6.ext b67;have hcl:¬ 9223372036854775807<4+(Lib.decDigits n).length:=by omega
   refine hK _ _ ⟨hw7.c0,by rw [←Hn.out];exact hw7.c8⟩ (fun hHeld=>?_);clear hK K
   try simp only [lyB,lyP,lyA,lyZ,lyS]
   refine tk ?_ 9 ?_ hHeld ?_;rotate_left
   ·rintro w ⟨_,_⟩;dsimp only [bare];go_simp<;>with_reducible rfl
   try simp only [lyB,lyP,lyA,lyZ,lyS]
   refine wpAnyF_one 10 _ _ _ rfl (by kernel_rfl) (fun K hK=>?_);dsimp only [bare];go_simp;refine (Hrr.out w7 b67).mono ?_;rintro e w8 ⟨rfl,hd8,ch8⟩;dsimp only;have hw8:=hw7.keep2 HXl.out ch8;have ch48:=(ch46.step (.of_below b67)).step ch8;have kh8:=((ch8.blk (kh6.ext b67)) (fun hG=>hG.2 hgX));have hu8:=(hu6.ext b67).chgE ch8 (fun hne k hk hG=>hG.2 (hux2 hne k hk));refine hK _ _ ⟨hw8.c0,by rw [←Hn.out];exact hw8.c8⟩ (fun hHeld=>?_);clear hK K
   try simp only [lyB,lyP,lyA,lyZ,lyS]
   refine wpAnyF_end (some 10) (Op.assign (Operand.tmp 91)) 3 rfl (by kernel_rfl) (by kernel_rfl) (fun K hK=>?_);dsimp only [bare];go_simp;refine hK _ _ ?_;clear hK K
   try simp only [lyB,lyP,lyA,lyZ,lyS]
   clear hw6 hw7 hw6D hd6 ch46 kh6 hu6 hHeld c8 b67 b7
   by_cases hE3:E3=0
   case neg =>
    have hi:(E3 !=0)=true:=by simpa using hE3
    have hres:E=E3∧ws'=⟨n,ws.h,true⟩∧d'=D3:=by
     have h1:=HeL.out;rw [Hlw2.out] at h1;unfold keepR at h1;rw [if_neg hE3,Hn.out] at h1
     simpa using h1
    obtain ⟨rfl,rfl,rfl⟩:=hres;have c9:=hw8.c9;have f9:=hw8.blk.frozen 9;have hf:=RkDid.down (u:=.slice pu h.log.length cu) (E:=E) hd8 HXl.out hw8 (Hcm.out _ ch48);rw [Hn.out] at hf;have Hfin:=Lib.hid hf;clear hw8 hd8 ch48 hu8 kh8 hE3 hf;go_wp2_with fail
    go_ret
    exact Hfin.out
   subst hE3;have hres:E=0∧ws'=⟨n+1,h,ws.down⟩∧d'=D3:=by
    have h1:=HeL.out;rw [Hlw2.out] at h1;unfold keepR at h1;rw [if_pos rfl,Hbare.out] at h1;rw [Hdw.out]
    simpa using h1
   obtain ⟨rfl,rfl,rfl⟩:=hres;have hf:=RkDid.done (N:=(n:Int)+1) hd8 HXl.out hw8 (Hcm.out _ ch48) hu8 hux hug hfew (by rw [Hn.out];omega) (by rw [Hn.out];exact hn1);rw [Hn.out] at hf;have Hfin:=Lib.hid hf;clear hf;have y0:=kh8.cell 0 _ rfl;have y1:=kh8.cell 1 _ rfl;have y2:=kh8.cell 2 _ rfl;have y3:=kh8.cell 3 _ rfl;have y4:=kh8.cell 4 _ rfl;have y5:=kh8.cell 5 _ rfl;have y6:=kh8.cell 6 _ rfl;have x1:=hw8.blk.cell 1 _ rfl;have xf1:=hw8.blk.frozen 1;have x2:=hw8.blk.cell 2 _ rfl;have xf2:=hw8.blk.frozen 2;have x3:=hw8.blk.cell 3 _ rfl;have xf3:=hw8.blk.frozen 3;have x4:=hw8.blk.cell 4 _ rfl
   have xf4:=hw8.blk.frozen 4;have x5:=hw8.blk.cell 5 _ rfl;have xf5:=hw8.blk.frozen 5;have x6:=hw8.blk.cell 6 _ rfl;have xf6:=hw8.blk.frozen 6;have x7:=hw8.blk.cell 7 _ rfl;have xf7:=hw8.blk.frozen 7;have x8:=hw8.c8;rw [Hn.out] at x8;have xf8:=hw8.blk.frozen 8;clear hw8 hd8 ch48 hu8 kh8 HeL;go_wp2_with fail
   go_ret
   exact Hfin.out
end
section
open Go Go.RowKit Go.PlainAid BigFrame
attribute [local go_sem] After.same
structure RsV (w:World) (X:Nat→Prop) (g gs gw:Nat) (v:Value) (ws:Wl) (sn:ByteArray):Prop where
 blk:Blk w gs #[.pointer (some ⟨gw,0,none⟩),.string sn] 117
 wv:RwV w X g gw v ws
 inX:X gs
 ne:gs≠gw
 off:ws.h.log≠[]→v.ownBlock≠some gs
section
variable {w0 w w':World} {X Y:Nat→Prop} {g gs gw:Nat} {v:Value} {ws:Wl} {sn:ByteArray}
theorem RsV.c0 (h:RsV w X g gs gw v ws sn):w.cell? ⟨gs,0,none⟩=some (.pointer (some ⟨gw,0,none⟩)):=h.blk.cell 0 _ rfl
theorem RsV.c1 (h:RsV w X g gs gw v ws sn):w.cell? ⟨gs,1,none⟩=some (.string sn):=h.blk.cell 1 _ rfl
theorem RsV.chg {G:Nat→Prop} (h:RsV w X g gs gw v ws sn) (hc:Chg G w w') (hG:∀ k,X k→¬ G k):RsV w' X g gs gw v ws sn:=⟨hc.blk h.blk (hG _ h.inX),h.wv.chg hc hG,h.inX,h.ne,h.off⟩
theorem RsV.keep (h:RsV w X g gs gw v ws sn) (hc:Chg (Gx w0 X) w w'):RsV w' X g gs gw v ws sn:=h.chg hc fun k hk hG=>hG.2 hk
theorem RsV.ext (h:RsV w X g gs gw v ws sn) (hb:Below w.heap.size w w'):RsV w' X g gs gw v ws sn:=h.chg (G:=fun _=>False) (.of_below hb) fun _ _=>id
theorem RsV.mono (h:RsV w X g gs gw v ws sn) (hy:∀ k,X k→Y k):RsV w Y g gs gw v ws sn:=⟨h.blk,h.wv.mono hy,hy _ h.inX,h.ne,h.off⟩
end
def hardQ (ws:Wl) (sn:ByteArray):Hrd:={ ws.h with snap:=sn }
theorem rksHard {w:World} {X:Nat→Prop} {g gs gw:Nat} {v:Value} {ws:Wl} {sn:ByteArray} (h:RsV w X g gs gw v ws sn) :
 Calls Tryz.prog 39 #[.pointer (some ⟨gs,0,none⟩)] w fun e w'=>e=.returned (hrdA (hardQ ws sn) v)∧Below w.heap.size w w':=by
 have hgs:=h.blk.lt;have hgw:=h.wv.blk.lt;obtain ⟨p3,c3,rfl⟩:=h.wv.log.shape;obtain ⟨w3,hw3⟩:∃ w3,w3=w.alloc (.cells #[.int .i64 0,.int .i64 0,.int .i64 0,.int .i64 0,.int .i64 0,.string ⟨#[]⟩,.slice none 0 0] 24):=⟨_,rfl⟩;have ca:=below_alloc w (.cells #[.int .i64 0,.int .i64 0,.int .i64 0,.int .i64 0,.int .i64 0,.string ⟨#[]⟩,.slice none 0 0] 24);have kz:=Blk.new w #[.int .i64 0,.int .i64 0,.int .i64 0,.int .i64 0,.int .i64 0,.string ⟨#[]⟩,.slice none 0 0] 24
 have hsz1:(w.alloc (.cells #[.int .i64 0,.int .i64 0,.int .i64 0,.int .i64 0,.int .i64 0,.string ⟨#[]⟩,.slice none 0 0] 24)).heap.size=w.heap.size+1:=by simp
 have h2:=h.ext ca;have q0:=h2.c0;have q1:=h2.wv.blk.cell 1 _ rfl;have q2:=h2.wv.blk.cell 2 _ rfl;have q3:=h2.wv.blk.cell 3 _ rfl;have q4:=h2.wv.blk.cell 4 _ rfl;have q5:=h2.wv.blk.cell 5 _ rfl;have q6:=h2.wv.blk.cell 6 _ rfl;have q7:=h2.wv.blk.cell 7 _ rfl;go_enter Tryz.func39,Tryz.ntmps39
 go_upto_region 1 with (fail)
 rw [←hw3] at ca kz h2 q0 q1 q2 q3 q4 q5 q6 q7 hsz1 ⊢;clear hw3;have cb:=below_alloc w3 (.cells #[.int .i64 ws.h.term,.int .i64 ws.h.vote,.int .i64 ws.h.base,.int .i64 ws.h.bterm,.int .i64 ws.h.members,.string ws.h.snap,.slice p3 ws.h.log.length c3] 24);have kB:=Blk.new w3 #[.int .i64 ws.h.term,.int .i64 ws.h.vote,.int .i64 ws.h.base,.int .i64 ws.h.bterm,.int .i64 ws.h.members,.string ws.h.snap,.slice p3 ws.h.log.length c3] 24;have kzB:=kz.ext cb;have h3:=h2.ext cb;have b0B:=ca.trans (cb.mono (by omega));rw [hsz1] at kB;clear kz ca;go_upto_region 2 with (fail)
 generalize w3.alloc (.cells #[.int .i64 ws.h.term,.int .i64 ws.h.vote,.int .i64 ws.h.base,.int .i64 ws.h.bterm,.int .i64 ws.h.members,.string ws.h.snap,.slice p3 ws.h.log.length c3] 24)=wB at *;clear q0 q1 q2 q3 q4 q5 q6 q7;have q2:=h3.c1;have y5:=kB.cell 5 _ rfl;have f5:=kB.frozen 5;go_upto_region 3 with (fail)
 have cC:=chg_cell (w.heap.size+1) 5 (.string sn) wB;have kC:=kB.set 5 (.string sn);have kzC:=cC.blk kzB (by omega);have b0C:=b0B.trans (cC.below (B:=w.heap.size) (fun k hk=>by rw [hk];omega) b0B.size);clear cC kB kzB h3 h2 q2 y5 f5 cb b0B;generalize wB.setCell ⟨w.heap.size+1,5,none⟩ (.string sn)=wC at *;have y0:=kC.cell 0 _ rfl;have y1:=kC.cell 1 _ rfl;have y2:=kC.cell 2 _ rfl;have y3:=kC.cell 3 _ rfl;have y4:=kC.cell 4 _ rfl;have y5:=kC.cell 5 _ rfl;have y6:=kC.cell 6 _ rfl;have z0:=kzC.frozen 0;have z1:=kzC.frozen 1;have z2:=kzC.frozen 2;have z3:=kzC.frozen 3;have z4:=kzC.frozen 4
 have z5:=kzC.frozen 5;have z6:=kzC.frozen 6;have x0:=kzC.cell 0 _ rfl;have x1:=kzC.cell 1 _ rfl;have x2:=kzC.cell 2 _ rfl;have x3:=kzC.cell 3 _ rfl;have x4:=kzC.cell 4 _ rfl;have x5:=kzC.cell 5 _ rfl;have x6:=kzC.cell 6 _ rfl;go_wp2_with fail
 have hc:=((((((((Chg.refl (fun k=>k=w.heap.size) wC).setCell (p:=⟨w.heap.size,0,none⟩) rfl (.int .i64 ws.h.term)).setCell (p:=⟨w.heap.size,1,none⟩) rfl (.int .i64 ws.h.vote)).setCell (p:=⟨w.heap.size,2,none⟩) rfl (.int .i64 ws.h.base)).setCell (p:=⟨w.heap.size,3,none⟩) rfl (.int .i64 ws.h.bterm)).setCell (p:=⟨w.heap.size,4,none⟩) rfl (.int .i64 ws.h.members)).setCell (p:=⟨w.heap.size,5,none⟩) rfl (.string sn)).setCell (p:=⟨w.heap.size,6,none⟩) rfl (.slice p3 ws.h.log.length c3))
 refine bodyPost_ret (v:=hrdA (hardQ ws sn) (.slice p3 ws.h.log.length c3)) (by simp [results,Tryz.results39,go_sem, *, hardQ]) rfl ?_;exact ⟨rfl,b0C.trans (hc.below (B:=w.heap.size) (fun k hk=>by rw [hk];exact Nat.le_refl _) b0C.size)⟩
end
section
open Go Go.RowKit Go.PlainAid BigFrame
attribute [local go_sem] After.same
theorem Rd.chgR {α:Type} {E:Enc α} {G:Nat→Prop} {w w':World} {v:Value} {l:List α} (h:Rd E w v l) (hc:Chg G w w') (hv:l≠[]→∀ k,v.ownBlock=some k→¬ G k):Rd E w' v l :=
 hc.cellsE E.pos h fun hne=>hv fun e=>hne (by rw [e];rfl)
theorem snapB_few (h:Hrd) (hs:h.snap.size≤1000000000):(snapB h).length≤1000000100:=by
 have hb3:=numB_le h.base;have hb4:=numB_le h.bterm;have hb5:=numB_le h.members;have htl:(textB h.snap.data.toList).length≤h.snap.size+10:=by
  have:=numB_le (h.snap.data.toList.length:Int);unfold textB;rw [List.length_append];simp at *; omega
 have h1:=oneK_le (payP h);have h2:(payP h).length=(numB h.base++numB h.bterm++numB h.members++textB h.snap.data.toList).length:=by
  unfold payP bytesOf;simp [numsB]
 rw [h2] at h1;simp only [List.length_append] at h1
 unfold snapB;omega
def WroteR (w0 w:World) (X:Nat→Prop) (g gs gw:Nat) (v:Value) (ws:Wl) (sn:ByteArray) (E:Int) (d':Dk) (e:Ending) (w':World):Prop:=e=.returned (.int .i64 E)∧RfS w0 X g d' w'∧RsV w' X g gs gw v ws sn∧Chg (Gx w0 X) w w'
theorem rksPicture {w0 w:World} {X:Nat→Prop} {g gs gw:Nat} {d d':Dk} {v:Value} {ws:Wl} {sn:ByteArray} (hd:RfS w0 X g d w) {m:Nat} (pi:PInv m d) (hm:m≤890) (hs:RsV w X g gs gw v ws sn) (h:Hrd) (u:Value) (hu:Rd etyE w u h.log) (hux:h.log≠[]→∀ k,u.ownBlock=some k→k<w0.heap.size∨X k)
 (hib0:0≤h.base) (hib1:h.base≤1099511627776) (hibt:In64 h.bterm) (hime:In64 h.members) (hsz:h.snap.size≤1000000) {E:Int} (he:writeP d h=(E,d')) :
 Calls Tryz.prog 82 #[.pointer (some ⟨gs,0,none⟩),hrdA h u] w (WroteR w0 w X g gs gw v ws sn E d'):=by
 obtain ⟨p,cap,rfl⟩:=hu.shape;have hiba:In64 h.base:=⟨by omega,by omega⟩;replace hsz:h.snap.size≤1000000000:=by omega
 have ca:=below_alloc w (.cells #[.int .i64 h.term,.int .i64 h.vote,.int .i64 h.base,.int .i64 h.bterm,.int .i64 h.members,.string h.snap,.slice p h.log.length cap] 24);have ka:=Blk.new w #[.int .i64 h.term,.int .i64 h.vote,.int .i64 h.base,.int .i64 h.bterm,.int .i64 h.members,.string h.snap,.slice p h.log.length cap] 24;obtain ⟨X1,hX1⟩:∃ X1:Nat→Prop,X1=fun k=>X k∨k=w.heap.size:=⟨_,rfl⟩;have hdA:RfS w0 X1 g d (w.alloc (.cells #[.int .i64 h.term,.int .i64 h.vote,.int .i64 h.base,.int .i64 h.bterm,.int .i64 h.members,.string h.snap,.slice p h.log.length cap] 24)):=by rw [hX1];exact hd.alloc _
 have hx1:∀ k,X k→X1 k:=fun k hk=>by rw [hX1];exact .inl hk
 have hxH:X1 w.heap.size:=by rw [hX1];exact .inr rfl
 have hx1r:∀ k,X1 k→X k∨k=w.heap.size:=fun k hk=>by rw [hX1] at hk;exact hk
 clear hX1;have hsA:=hs.ext ca;have chA:Chg (Gx w0 X1) w (w.alloc (.cells #[.int .i64 h.term,.int .i64 h.vote,.int .i64 h.base,.int .i64 h.bterm,.int .i64 h.members,.string h.snap,.slice p h.log.length cap] 24)):=.of_below ca;have hs0:=hd.size;have hmono:∀ {z z':World},Chg (Gx w0 X1) z z'→Chg (Gx w0 X) z z':=fun c=>c.mono fun k _ q=>⟨q.1,fun hx=>q.2 (hx1 k hx)⟩;have hufar:h.log≠[]→∀ j,(Value.slice p h.log.length cap).ownBlock=some j→¬ Gx w0 X1 j:=fun hne j hj q=>by
  rcases hux hne j hj with e | e
  ·have:=q.1;omega
  ·exact q.2 (hx1 j e)
 have hrd:writeP d h=thenD (if (readD d freshS).isSome then removeD d freshS else (0,d)) fun d =>
  thenD (appendD d freshS (snapB h)) fun d=>thenD (syncD d freshS) fun d=>renameD d freshS (nameP h.base.toNat):=rfl
 have Hwr:=Lib.hid (he.symm.trans hrd);clear he hrd;go_enter Tryz.func82,Tryz.ntmps82
 have q0:=hsA.c0;have q1:=hsA.wv.c0;go_wp2_with fail
 refine (rRead hdA freshS rfl).mono ?_;rintro e w1 ⟨⟨r1,rfl,_⟩,rfl⟩;have ch1:=chA;clear q0 q1 chA;generalize (readD d freshS).isSome=there at *;go_upto_if 23 with (fail)
 generalize w.alloc (.cells #[.int .i64 h.term,.int .i64 h.vote,.int .i64 h.base,.int .i64 h.bterm,.int .i64 h.members,.string h.snap,.slice p h.log.length cap] 24)=wA at *
 go_cut [] from 6 (fun wi=>∃ d1,Hid ((E,d')=thenD (appendD d1 freshS (snapB h)) fun d=>thenD (syncD d freshS) fun d=>renameD d freshS (nameP h.base.toNat))∧PInv m d1∧RfS w0 X1 g d1 wi∧RsV wi X g gs gw v ws sn∧Blk wi w.heap.size #[.int .i64 h.term,.int .i64 h.vote,.int .i64 h.base,.int .i64 h.bterm,.int .i64 h.members,.string h.snap,.slice p h.log.length cap] 24∧Chg (Gx w0 X1) w wi)
 case first =>
  cases there with
  | false =>
   go_wp2_with fail
   go_meet
   exact ⟨d,Hwr,pi,hdA,hsA,ka,ch1⟩
  | true =>
   obtain ⟨E1,d1,hrm⟩:∃ E1 d1,removeD d freshS=(E1,d1):=⟨_,_,rfl⟩;have hw1:=Hwr.out;rw [if_pos rfl,hrm] at hw1;have pi1:PInv m d1:=by have:=pi.remove0 freshS;rw [hrm] at this;exact this
   clear Hwr;go_wp2_with fail
   refine (rRemove hdA (pi.ok (by omega)) hrm).mono ?_;rintro e w2 ⟨rfl,hd2,ch2⟩;have hs2:=hsA.chg (w':=w2) ch2 (fun k hk q=>q.2 (hx1 k hk));have ka2:=ch2.blk ka (fun q=>q.2 hxH);have ch02:=ch1.step ch2
   by_cases hE:E1=0
   ·subst hE;have Hw1:=Lib.hid hw1;clear hw1;go_wp2_with fail
    go_meet
    exact ⟨d1,Hw1,pi1,hd2,hs2,ka2,ch02⟩
   ·have hne:(E1 !=0)=true:=by simpa using hE
    unfold thenD at hw1;rw [if_neg hE] at hw1
    cases hw1
    go_wp2_with fail
    go_ret
    exact ⟨rfl,hd2.mono hx1,hs2,hmono ch02⟩
 case rest =>
 obtain ⟨d3,Hw2,pi3,hd3,hs3,ka3,ch3⟩:=hcut;obtain ⟨w3,hw3⟩:∃ z,z=wc:=⟨_,rfl⟩;subst hw3;clear hdA hsA ka ch1 Hwr ca hs hd;obtain ⟨E4,d4,ha⟩:∃ E4 d4,appendD d3 freshS (snapB h)=(E4,d4):=⟨_,_,rfl⟩;have hw2:=Hw2.out;rw [ha] at hw2;have pi5:PInv (m+1) d4:=by have:=pi3.append freshS (snapB h);rw [ha] at this;exact this
 have Hw2':=Lib.hid hw2;clear hw2 Hw2;have y0:=ka3.cell 0 _ rfl;have y1:=ka3.cell 1 _ rfl;have y2:=ka3.cell 2 _ rfl;have y3:=ka3.cell 3 _ rfl;have y4:=ka3.cell 4 _ rfl;have y5:=ka3.cell 5 _ rfl;have y6:=ka3.cell 6 _ rfl;have HuF:=Lib.hid (hu.chgR ch3 hufar);clear hu;go_wp2_with fail
 refine (rksSnap h _ w3 HuF.out hiba hibt hime hsz).mono ?_;rintro e w4 ⟨r,rfl,own4,bE⟩;have ka4:=ka3.ext bE;have hs4:=hs3.ext bE;clear y0 y1 y2 y3 y4 y5 y6;obtain ⟨pr,cr,rfl⟩:=own4.bytes.shape;have hd4:=hd3.more (Y:=fun k=>X1 k∨(Value.slice pr (snapB h).length cr).ownBlock=some k) bE (fun k hk=>hk.imp id (fun e=>⟨(own4.lt k e).1,(own4.lt k e).2⟩));have hsbl:(snapB h).length≤4611686018427387904:=by have:=Cells.le own4.bytes;unfold maxLen at this;have h2:=snapB_few h hsz;omega
 generalize hL:(snapB h).length=LL at *;go_wp2_with fail
 refine (rAppend hd4 (pi3.ok (by omega)) ha (by decide) (by omega) own4.bytes (fun _ k hk=>.inr (.inr hk))).mono ?_;rintro e w5 ⟨rfl,hd5,ch5⟩;have ka5:=ch5.blk ka4 (fun q=>q.2 (.inl hxH));have hs5:=hs4.chg (w':=w5) ch5 (fun k hk q=>q.2 (.inl (hx1 k hk)));have hd5':=hd5.mono (Y:=X1) (fun k hk=>.inl hk);have ch05:Chg (Gx w0 X1) w w5:=(ch3.step (.of_below bE)).step (ch5.mono fun k _ q=>⟨q.1,fun hx=>q.2 (.inl hx)⟩);clear hs3 ka3 ka4 hs4 hd4 hd3 ch3 ch5 bE own4 hd5;have hw2:=Hw2'.out;unfold thenD at hw2
 by_cases hE:E4=0
 ·subst hE;rw [if_pos rfl] at hw2;obtain ⟨E5,d5,hsy⟩:∃ E5 d5,syncD d4 freshS=(E5,d5):=⟨_,_,rfl⟩;dsimp only at hw2;rw [hsy] at hw2;have pi6:PInv (m+1) d5:=by have:=pi5.sync0 freshS;rw [hsy] at this;exact this
  have Hw3:=Lib.hid hw2;clear hw2 Hw2';go_wp2_with fail
  refine (rSync hd5' (pi5.ok (by omega)) hsy).mono ?_;rintro e w6 ⟨rfl,hd6,ch6⟩;have hs6:=hs5.chg (w':=w6) ch6 (fun k hk q=>q.2 (hx1 k hk));have ka6:=ch6.blk ka5 (fun q=>q.2 hxH);have ch06:=ch05.step ch6;clear hd5' hs5 ka5 ch05 ch6;replace pi5:=pi6;have hw3:=Hw3.out
  by_cases hE2:E5=0
  ·subst hE2;rw [if_pos rfl] at hw3;have hw4:renameR d5 freshS (nameP h.base.toNat)=(E,d'):=(renameR_eq pi5.l.sort _ _).trans hw3.symm;have Hw4:=Lib.hid hw4;have hdl:=digits_le 18 h.base.toNat (by omega);clear Hw3 hw3 hw4;have y2:=ka6.cell 2 _ rfl;go_wp2_with fail
   refine (rkDigits h.base.toNat _ (by omega) (by omega) w6).mono ?_;rintro e w7 ⟨rfl,b7⟩;have hs7:=hs6.ext b7;have hd7:=hd6.ext b7;have ch07:=ch06.step (.of_below b7);have hnm:(⟨#[115,110,97,112,46]⟩:ByteArray)++(⟨(Lib.decDigits h.base.toNat).toArray⟩:ByteArray)=nameP h.base.toNat:=str_cat [115,110,97,112,46] _;clear y2 hs6 hd6 ch06 b7 ka6;go_wp2_with fail
   refine (rRename hd7 (pi5.ok (by omega)) Hw4.out (by have:=nameP_few (n:=h.base.toNat) (by omega);omega)).mono ?_;rintro e w8 ⟨rfl,hd8,ch8⟩;have hs8:=hs7.chg (w':=w8) ch8 (fun k hk q=>q.2 (hx1 k hk));have ch08:Chg (Gx w0 X1) w w8:=ch07.step ch8;go_wp2_with fail
   go_ret
   exact ⟨rfl,hd8.mono hx1,hs8,hmono ch08⟩
  ·have hne:(E5 !=0)=true:=by simpa using hE2
   rw [if_neg hE2] at hw3
   cases hw3
   go_wp2_with fail
   go_ret
   exact ⟨rfl,hd6.mono hx1,hs6,hmono ch06⟩
 ·have hne:(E4 !=0)=true:=by simpa using hE
  rw [if_neg hE] at hw2
  cases hw2
  go_wp2_with fail
  go_ret
  exact ⟨rfl,hd5'.mono hx1,hs5,hmono ch05⟩
end
end Go.Proofs.YtgpgcnmnfnnkjaaGreatDoor
