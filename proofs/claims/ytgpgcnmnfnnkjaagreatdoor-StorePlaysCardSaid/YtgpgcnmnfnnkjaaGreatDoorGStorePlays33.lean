import Derived.Test.YtgpgcnmnfnnkjaaGreatDoorGStorePlays32
import Derived.Test.YtgpgcnmnfnnkjaaGreatDoorGStorePlays22
set_option linter.unusedVariables false
set_option linter.unusedSimpArgs false
set_option maxRecDepth 100000
set_option maxHeartbeats 16000000
namespace Go.Proofs.YtgpgcnmnfnnkjaaGreatDoor
section
open Go Go.RowKit Go.PlainAid BigFrame
@[reducible] def rwA (g:Nat) (ws:Wl) (v:Value):Array Value:=#[.pointer (some ⟨g,0,none⟩),.int .i64 ws.h.term,.int .i64 ws.h.vote,.int .i64 ws.h.base,.int .i64 ws.h.bterm,.int .i64 ws.h.members,.string ws.h.snap,v,.int .i64 (ws.n:Int),.bool ws.down]
theorem Rd.chgE {α:Type} {E:Enc α} {G:Nat→Prop} {w w':World} {v:Value} {l:List α} (h:Rd E w v l) (hc:Chg G w w') (hv:l≠[]→∀ k,v.ownBlock=some k→¬ G k):Rd E w' v l :=
 hc.cellsE E.pos h fun hne=>hv fun e=>hne (by rw [e];rfl)
theorem Rd.ltE {α:Type} {E:Enc α} {w:World} {v:Value} {l:List α} (h:Rd E w v l) (hne:l≠[]):∀ k,v.ownBlock=some k→k<w.heap.size :=
 Cells.lt h (by rw [E.all_length];exact Nat.mul_pos (List.length_pos_iff.2 hne) E.pos)
structure RwV (w:World) (X:Nat→Prop) (g gw:Nat) (v:Value) (ws:Wl):Prop where
 blk:Blk w gw (rwA g ws v) 51
 log:Rd etyE w v ws.h.log
 inX:X gw
 lX:ws.h.log≠[]→∀ k,v.ownBlock=some k→X k
 off:ws.h.log≠[]→v.ownBlock≠some gw
 few:ws.h.log.length≤200
 num:ws.n≤99999999999999
section
variable {w0 w w':World} {X Y:Nat→Prop} {g gw:Nat} {v:Value} {ws:Wl}
theorem RwV.chg {G:Nat→Prop} (h:RwV w X g gw v ws) (hc:Chg G w w') (hG:∀ k,X k→¬ G k):RwV w' X g gw v ws :=
 ⟨hc.blk h.blk (hG gw h.inX),h.log.chgE hc (fun hne k hk=>hG k (h.lX hne k hk)),h.inX,h.lX,h.off,h.few,h.num⟩
theorem RwV.keep (h:RwV w X g gw v ws) (hc:Chg (Gx w0 X) w w'):RwV w' X g gw v ws:=h.chg hc fun k hk hG=>hG.2 hk
theorem RwV.ext (h:RwV w X g gw v ws) (hb:Below w.heap.size w w'):RwV w' X g gw v ws:=h.chg (G:=fun _=>False) (.of_below hb) fun _ _=>id
theorem RwV.mono (h:RwV w X g gw v ws) (hy:∀ k,X k→Y k):RwV w Y g gw v ws:=⟨h.blk,h.log,hy _ h.inX,fun hne k hk=>hy k (h.lX hne k hk),h.off,h.few,h.num⟩
end
theorem removesR_same {k n:Nat} (r:List Nat) (d:Dk) (h:k=n):removesD (k::r) n d=removesD r n d:=by rw [removesD,if_pos h]
theorem removesR_go {k n:Nat} (r:List Nat) (d:Dk) (h:k≠n):removesD (k::r) n d=thenD (removeD d (nameW k)) (removesD r n):=by rw [removesD,if_neg h]
theorem thenD_ok {r:Int×Dk} {f:Dk→Int×Dk} {d:Dk} (h:r=(0,d)):thenD r f=f d:=by subst h;rfl
theorem thenD_no {r:Int×Dk} {f:Dk→Int×Dk} {E:Int} {d:Dk} (h:r=(E,d)) (hE:E≠0):thenD r f=(E,d):=by subst h;exact if_neg hE
theorem fall_good (l:List ByteArray):∀ x ∈ fallW l,0<x∧x≤99999999999999:=fun x hx=>by
 have h:∀ (l:List ByteArray) (out:List Nat),(∀ x ∈ out,0<x∧x≤99999999999999)→∀ x ∈ l.foldl fallS out,0<x∧x≤99999999999999:=by
  intro l
  induction l with
  | nil=>exact fun _ h=>h
  | cons s r ih =>
   intro out h;rw [List.foldl_cons];refine ih _ fun x hx=>?_;unfold fallS at hx
   split at hx
   ·exact h x hx
   ·rename_i hz
    have hx2:=List.mem_reverse.1 hx;have hm:x=numW s∨x ∈ out.reverse:=by
     unfold insW at hx2
     rcases List.mem_append.1 hx2 with h1 | h1
     ·exact .inr (List.mem_of_mem_take h1)
     ·rcases List.mem_cons.1 h1 with h1 | h1
      ·exact .inl h1
      ·exact .inr (List.mem_of_mem_drop h1)
    rcases hm with rfl | hm
    ·have:=numW_lt s;omega
    ·exact h x (List.mem_reverse.1 hm)
 rw [fallW_eq] at hx;exact h l [] (fun x hx=>by cases hx) x hx
theorem pickR_cons (d:Dk) (k:Nat) (r:List Nat):pickW d (k::r)=if (readSeg (fileW d k)).whole then some (k,readSeg (fileW d k)) else pickW d r:=rfl
theorem seg_fewR {b:List UInt8} (h:(readSeg b).whole=true):(readSeg b).h.log.length≤200:=by
 have ok:=readSeg_ok b;exact ((bareH_iff _).1 (ok.bare (ok.wh h))).2.1
theorem fileLenR {k:Nat} {d:Dk} (h:PInv k d) (n:Nat):(fileW d n).length≤4194304:=by
 unfold fileW readD
 split
 ·simp
 ·cases hx:d.fs[(idxD d.fs (nameW n)).toNat]? with
  | none=>simp
  | some f =>
   have hm:=List.mem_of_getElem? hx;have h1:=totD_mem hm;have h2:=h.l.tot
   show f.data.length≤_
   omega
theorem name_cat (x:Nat):((⟨#[119,97,108,46]⟩:ByteArray)++(⟨(Lib.decDigits x).toArray⟩:ByteArray))=nameW x:=str_cat hdW (Lib.decDigits x)
def endW (d:Dk) (N:Nat) (S:Sg):Int:=if 0<N∧S.size<(fileW d N).length then (S.size:Int) else -1
structure RoSt (d:Dk) (w wr:World) (g:Nat) (L:List Nat) (j N:Nat) (S:Sg) (H:Hrd) (E:Int) (vl:Value):Prop where
 kw:Blk wr w.heap.size (rwA g ⟨N,H,false⟩ vl) 51
 rl:Rd etyE wr vl H.log
 ol:H.log≠[]→∀ k,vl.ownBlock=some k→w.heap.size<k
 few:H.log.length≤200
 num:N≤99999999999999
 bel:Below w.heap.size w wr
 en:E=endW d N S
 st:(N=0∧S=sg0∧H=hrdV∧pickW d (L.drop j)=pickW d L)∨(0<N∧pickW d L=some (N,S)∧H=S.h)
def OpenedR (w0 w:World) (X:Nat→Prop) (g:Nat) (d d':Dk) (o:Option Wl) (e:Ending) (w':World):Prop :=
 (match o with
 | none=>∃ E:Int,E≠0∧E=(cleanW d).1∧e=.returned (.tuple #[.pointer none,.int .i64 E])
 | some ws=>∃ gw v X',e=.returned (.tuple #[.pointer (some ⟨gw,0,none⟩),.int .i64 0])∧w.heap.size≤gw∧(∀ k,X k→X' k)∧(∀ k,X' k→X k∨w.heap.size≤k)∧RfS w0 X' g d' w'∧RwV w' X' g gw v ws∧∀ k,v.ownBlock=some k→ws.h.log≠[]→w.heap.size≤k)
 ∧ RfS w0 X g d' w'∧Chg (Gx w0 X) w w'
theorem OpenedR.no {w0 w wi:World} {X X':Nat→Prop} {g:Nat} {d d':Dk} {E:Int} (hE:E≠0) (hc:cleanW d=(E,d')) (hX:∀ k,X k→X' k) (hd:RfS w0 X' g d' wi) (hch:Chg (Gx w0 X) w wi) :
 OpenedR w0 w X g d (cleanW d).2 (openW d) (.returned (.tuple #[.pointer none,.int .i64 E])) wi:=by
 have ho:openW d=none:=by unfold openW;rw [hc];exact if_neg hE
 rw [hc,ho];exact ⟨⟨E,hE,by rw [hc],rfl⟩,hd.mono hX,hch⟩
theorem rkOpen {w0 w:World} {X:Nat→Prop} {g:Nat} {d:Dk} (hd:RfS w0 X g d w) {m:Nat} (pi:PInv m d) (hm:m≤300) :
 Calls Tryz.prog 11 #[.pointer (some ⟨g,0,none⟩)] w (OpenedR w0 w X g d (cleanW d).2 (openW d)):=by
 have ok:=pi.ok (show m≤1000 by omega);have hlen:(fallW (d.fs.map (·.name))).length≤300:=by
  have h1:=foldl_fall_len (d.fs.map (·.name)) [];have h2:=pi.l.len;rw [fallW_eq];simp only [List.length_nil,List.length_map] at h1;omega
 have hgood:=fall_good (d.fs.map (·.name));have hpn:pickN d=(pickW d (fallW (d.fs.map (·.name)))).getD (0,sg0):=rfl;have hcw:cleanW d=cleanD d (fallW (d.fs.map (·.name))).reverse (pickN d).1 (pickN d).2:=by unfold fallW;rw [List.reverse_reverse];rfl
 have hop:openW d=if (cleanW d).1=0 then some ⟨(pickN d).1,openH d,false⟩ else none:=rfl
 have hoh:openH d=if (pickN d).1=0 then hrdV else (pickN d).2.h:=rfl
 have Hpn:=Lib.hid hpn;have Hcw:=Lib.hid hcw;have Hop:=Lib.hid hop;have Hoh:=Lib.hid hoh;have hs0:=hd.size;have bA:=below_alloc w (.cells #[.pointer (some ⟨g,0,none⟩),.int .i64 0,.int .i64 (-1),.int .i64 0,.int .i64 0,.int .i64 0,.string ⟨#[]⟩,.slice none 0 0,.int .i64 0,.bool false] 51);have kA:Blk (w.alloc (.cells #[.pointer (some ⟨g,0,none⟩),.int .i64 0,.int .i64 (-1),.int .i64 0,.int .i64 0,.int .i64 0,.string ⟨#[]⟩,.slice none 0 0,.int .i64 0,.bool false] 51)) w.heap.size (rwA g ⟨0,hrdV,false⟩ (.slice none 0 0)) 51:=Blk.new w _ _;have hcall:=rkSegments (hd.ext bA) ok pi.l.nam
 unfold FallI at hcall;clear hpn hcw hop hoh;obtain ⟨L,hL⟩:∃ L,L=fallW (d.fs.map (·.name)):=⟨_,rfl⟩;rw [←hL] at hlen hgood Hpn Hcw hcall;clear hL;have hgl:g<w.heap.size:=by obtain ⟨⟨F,h1,_⟩,_⟩:=hd;exact h1.lt g h1.inG
 have hsA:(w.alloc (.cells #[.pointer (some ⟨g,0,none⟩),.int .i64 0,.int .i64 (-1),.int .i64 0,.int .i64 0,.int .i64 0,.string ⟨#[]⟩,.slice none 0 0,.int .i64 0,.bool false] 51)).heap.size=w.heap.size+1:=by simp
 go_enter Tryz.func11,Tryz.ntmps11
 go_wp2_with fail
 generalize w.alloc (.cells #[.pointer (some ⟨g,0,none⟩),.int .i64 0,.int .i64 (-1),.int .i64 0,.int .i64 0,.int .i64 0,.string ⟨#[]⟩,.slice none 0 0,.int .i64 0,.bool false] 51)=wA at *;refine hcall.mono ?_;rintro e w1 ⟨rl,rfl,ownL,b1⟩;have rL:=ownL.rd;obtain ⟨pl,cl,rfl⟩:=rL.shape;have ltL:=fun k hk=>ownL.lt k hk;rw [natI_length] at rL ltL ⊢;clear ownL hcall;have hs1:=b1.size;have kW:=kA.ext b1;have b01:=bA.trans (b1.mono bA.size);clear kA bA
 go_upto_block 0 with (fail)
 go_cut [6] from 17 (fun e wi=>∃ (N:Nat) (S:Sg) (H:Hrd) (E:Int) (vl:Value),e=.int .i64 E∧(pickW d L).getD (0,sg0)=(N,S)∧H=(if N=0 then hrdV else S.h)∧RoSt d w wi g L L.length N S H E vl∧w1.heap.size≤wi.heap.size∧Rd intsE wi (.slice pl L.length cl) (natI L))
 case first =>
  go_wp2_with fail
  go_loopw [6,7] (fun e i wr=>∃ (j N:Nat) (S:Sg) (H:Hrd) (E:Int) (vl:Value),j≤L.length∧i=.int .i64 (j:Int)∧e=.int .i64 E∧RoSt d w wr g L j N S H E vl∧Rd intsE wr (.slice pl L.length cl) (natI L)∧w1.heap.size≤wr.heap.size) (fun _ i _=>L.length - (intOf i).toNat)
  case atStart=>exact ⟨0,0,sg0,hrdV, -1,.slice none 0 0,Nat.zero_le _,rfl,rfl,⟨kW,Rd.nil _,fun _ k hk=>by simp [Value.ownBlock] at hk,by decide,by decide,b01,by unfold endW;rw [if_neg (fun h=>by omega)],.inl ⟨rfl,rfl,rfl,rfl⟩⟩,rL,Nat.le_refl _⟩
  case round =>
   obtain ⟨j,N,S,H,E,vl,hj,rfl,rfl,hst,rLr,hszw⟩:=hrel;have e8:wr.cell? ⟨w.heap.size,8,none⟩=some (.int .i64 (N:Int)):=hst.kw.cell 8 _ rfl;have hszr:=hst.bel.size;have hgwl:=hst.kw.lt
   by_cases hgo:j<L.length∧N=0
   ·obtain ⟨hjl,rfl⟩:=hgo;have hpk:pickW d (L.drop j)=pickW d L:=by
     rcases hst.st with h | h
     ·exact h.2.2.2
     ·exact absurd h.1 (Nat.lt_irrefl _)
    have hE1:E = -1:=by rw [hst.en];unfold endW;exact if_neg (fun h=>by omega)
    rw [List.drop_eq_getElem_cons hjl,pickR_cons] at hpk;have hx:=hgood L[j] (List.getElem_mem hjl);obtain ⟨bb,off,rfl⟩:=Rd.blk rLr (by rw [natI_length];omega);have cq:wr.cell? ⟨bb,off+j,none⟩=some (.int .i64 (L[j]:Nat)):=by
     have:=rLr.at_ (k:=j) (by rw [natI_length];exact hjl) 0 (by decide)
     simpa [intsE,natI] using this
    have hbb:=ltL bb rfl;have Hpk:=Lib.hid hpk;have hq1:(j:Int)<(L.length:Int):=by omega
    have hq0:(0:Int)≤(j:Int):=by omega
    have hx2:=hx.2;have hdl:=dec_few hx.2;have Hx1:=Lib.hid hx.1;have Hgd:=Lib.hid hgood;have HltL:=Lib.hid ltL;have HE1:=Lib.hid hE1;have hcat:=name_cat L[j];have hfl:=fileLenR pi L[j];have hfw:fileW d L[j]=(readD d (nameW L[j])).getD []:=rfl;clear hpk hx hgood ltL hE1;generalize L[j]=x at *;have hrd:=rRead (hd.ext hst.bel) ((⟨#[119,97,108,46]⟩:ByteArray)++(⟨(Lib.decDigits x).toArray⟩:ByteArray)) (o:=readD d (nameW x)) (by rw [hcat]);have Hcat:=Lib.hid hcat;clear hcat;go_wp2_with fail
    refine (rkDigits x _ rfl (by omega) wr).mono ?_;rintro e w2 ⟨rfl,b2⟩;have hrd2:=rRead ((hd.ext hst.bel).ext b2) ((⟨#[119,97,108,46]⟩:ByteArray)++(⟨(Lib.decDigits x).toArray⟩:ByteArray)) (o:=readD d (nameW x)) (by rw [Hcat.out]);clear hrd;go_wp2_with fail
    refine hrd2.mono ?_;rintro e w3 ⟨⟨r,rfl,hr⟩,rfl⟩;rw [←hfw] at hr;clear hfw hrd2;generalize hFB:fileW d x=FB at *;have HFB:=Lib.hid hFB;clear hFB;generalize (readD d (nameW x)).isSome=qb at *;obtain ⟨pr,cr,rfl⟩:=hr.shape;go_wp2_with fail
    refine (rkSegment _ FB w2 hr (by omega)).mono ?_;rintro e w4 ⟨vx,rfl,rlx,ltx,b4⟩;have b24:=b2.trans (b4.mono b2.size);obtain ⟨px,cx,rfl⟩:=rlx.shape;have kw4:=hst.kw.ext b24;have rl4:=hst.rl.ext b24;have rL4:=rLr.ext b24;have hsz24:=b24.size;have hb2s:=b2.size;have bel4:=hst.bel.trans (b24.mono hszr);have hpk3:=Hpk.out;have hsf:=fun h=>seg_fewR (b:=FB) h;clear Hpk;generalize readSeg FB=XS at *;obtain ⟨XH,XB,XW,XZ⟩:=XS;dsimp only at *
    have cax:=below_alloc w4 (.cells #[.int .i64 XH.term,.int .i64 XH.vote,.int .i64 XH.base,.int .i64 XH.bterm,.int .i64 XH.members,.string XH.snap,.slice px XH.log.length cx] 24);have kx:=Blk.new w4 #[.int .i64 XH.term,.int .i64 XH.vote,.int .i64 XH.base,.int .i64 XH.bterm,.int .i64 XH.members,.string XH.snap,.slice px XH.log.length cx] 24;have hsx:(w4.alloc (.cells #[.int .i64 XH.term,.int .i64 XH.vote,.int .i64 XH.base,.int .i64 XH.bterm,.int .i64 XH.members,.string XH.snap,.slice px XH.log.length cx] 24)).heap.size=w4.heap.size+1:=by simp
    have kwA:=kw4.ext cax;have rLA:=rL4.ext cax;have belA:=bel4.trans (cax.mono bel4.size)
    cases XW with
    | false =>
     have hpq:pickW d (L.drop (j+1))=pickW d L:=by rw [if_neg (by simp)] at hpk3;exact hpk3
     have fin:RoSt d w (w4.alloc (.cells #[.int .i64 XH.term,.int .i64 XH.vote,.int .i64 XH.base,.int .i64 XH.bterm,.int .i64 XH.members,.string XH.snap,.slice px XH.log.length cx] 24)) g L (j+1) 0 S H E vl:=⟨kwA,rl4.ext cax,hst.ol,hst.few,hst.num,belA,hst.en,by
      rcases hst.st with h | h
      ·exact .inl ⟨rfl,h.2.1,h.2.2.1,hpq⟩
      ·exact absurd h.1 (Nat.lt_irrefl _)⟩
     have Fin:=Lib.hid fin;clear fin hpq kx cax kw4 rl4 hst hpk3 hsf kwA belA;go_wp2_with fail
     go_roundw
     case rel=>exact ⟨j+1,0,S,H,E,vl,by omega,by go_num,rfl,Fin.out,rLA,by omega⟩
     case measure=>simp [intOf];omega
    | true =>
     have hpq:pickW d L=some (x,⟨XH,XB,true,XZ⟩):=by rw [if_pos rfl] at hpk3;exact hpk3.symm
     have Hpq:=Lib.hid hpq;have hfx:=hsf rfl;have cqA:(w4.alloc (.cells #[.int .i64 XH.term,.int .i64 XH.vote,.int .i64 XH.base,.int .i64 XH.bterm,.int .i64 XH.members,.string XH.snap,.slice px XH.log.length cx] 24)).cell? ⟨bb,off+j,none⟩=some (.int .i64 (x:Nat)):=by
      rw [cax.cell (p:=⟨bb,off+j,none⟩) (by show bb<_;omega),b24.cell (p:=⟨bb,off+j,none⟩) (by show bb<_;omega)];exact cq
     have rlA:=rlx.ext cax;have hgx:w.heap.size<w4.heap.size:=by omega
     have hbg:bb≠w.heap.size:=by omega
     clear hpq hpk3 hsf hst kw4 rl4 rlx rL4 rLr;go_wp2_with fail
     generalize w4.alloc (.cells #[.int .i64 XH.term,.int .i64 XH.vote,.int .i64 XH.base,.int .i64 XH.bterm,.int .i64 XH.members,.string XH.snap,.slice px XH.log.length cx] 24)=wB at *
     refine wp_region_F (n:=12) (S:=fun w':World=>w'.cell? ⟨w4.heap.size,0,none⟩=some (.int .i64 XH.term)∧w'.cell? ⟨w4.heap.size,1,none⟩=some (.int .i64 XH.vote)∧w'.cell? ⟨w4.heap.size,2,none⟩=some (.int .i64 XH.base)∧w'.cell? ⟨w4.heap.size,3,none⟩=some (.int .i64 XH.bterm)∧w'.cell? ⟨w4.heap.size,4,none⟩=some (.int .i64 XH.members)∧w'.cell? ⟨w4.heap.size,5,none⟩=some (.string XH.snap)∧w'.cell? ⟨w4.heap.size,6,none⟩=some (.slice px XH.log.length cx)∧w'.cell? ⟨bb,off+j,none⟩=some (.int .i64 (x:Int))) (by kernel_rfl) ?_
     have hHeld:(fun w':World=>w'.cell? ⟨w4.heap.size,0,none⟩=some (.int .i64 XH.term)∧w'.cell? ⟨w4.heap.size,1,none⟩=some (.int .i64 XH.vote)∧w'.cell? ⟨w4.heap.size,2,none⟩=some (.int .i64 XH.base)∧w'.cell? ⟨w4.heap.size,3,none⟩=some (.int .i64 XH.bterm)∧w'.cell? ⟨w4.heap.size,4,none⟩=some (.int .i64 XH.members)∧w'.cell? ⟨w4.heap.size,5,none⟩=some (.string XH.snap)∧w'.cell? ⟨w4.heap.size,6,none⟩=some (.slice px XH.log.length cx)∧w'.cell? ⟨bb,off+j,none⟩=some (.int .i64 (x:Int))) wB.drew:=⟨kx.cell 0 _ rfl,kx.cell 1 _ rfl,kx.cell 2 _ rfl,kx.cell 3 _ rfl,kx.cell 4 _ rfl,kx.cell 5 _ rfl,kx.cell 6 _ rfl,cqA⟩
     refine tk ?_ 0 ?_ hHeld ?_;rotate_left
     ·rintro w ⟨_,_,_,_,_,_,_,_⟩;dsimp only [bare];go_simp<;>with_reducible rfl
     try simp only [lyB,lyP,lyA,lyZ,lyS]
     refine tk ?_ 1 ?_ hHeld ?_;rotate_left
     ·rintro w ⟨_,_,_,_,_,_,_,_⟩;dsimp only [bare];go_simp<;>with_reducible rfl
     try simp only [lyB,lyP,lyA,lyZ,lyS]
     refine tk ?_ 2 ?_ hHeld ?_;rotate_left
     ·rintro w ⟨_,_,_,_,_,_,_,_⟩;dsimp only [bare];go_simp<;>with_reducible rfl
     try simp only [lyB,lyP,lyA,lyZ,lyS]
     refine tk ?_ 3 ?_ hHeld ?_;rotate_left
     ·rintro w ⟨_,_,_,_,_,_,_,_⟩;dsimp only [bare];go_simp<;>with_reducible rfl
     try simp only [lyB,lyP,lyA,lyZ,lyS]
     refine tk ?_ 4 ?_ hHeld ?_;rotate_left
     ·rintro w ⟨_,_,_,_,_,_,_,_⟩;dsimp only [bare];go_simp<;>with_reducible rfl
     try simp only [lyB,lyP,lyA,lyZ,lyS]
     refine tk ?_ 5 ?_ hHeld ?_;rotate_left
     ·rintro w ⟨_,_,_,_,_,_,_,_⟩;dsimp only [bare];go_simp<;>with_reducible rfl
     try simp only [lyB,lyP,lyA,lyZ,lyS]
     refine tk ?_ 6 ?_ hHeld ?_;rotate_left
     ·rintro w ⟨_,_,_,_,_,_,_,_⟩;dsimp only [bare];go_simp<;>with_reducible rfl
     try simp only [lyB,lyP,lyA,lyZ,lyS]
     refine tk ?_ 7 ?_ hHeld ?_;rotate_left
     ·rintro w ⟨_,_,_,_,_,_,_,_⟩;dsimp only [bare];go_simp<;>with_reducible rfl
     try simp only [lyB,lyP,lyA,lyZ,lyS]
     refine tk ?_ 8 ?_ hHeld ?_;rotate_left
     ·rintro w ⟨_,_,_,_,_,_,_,_⟩;dsimp only [bare];go_simp<;>with_reducible rfl
     try simp only [lyB,lyP,lyA,lyZ,lyS]
     have u1:=kwA.cell 1 _ rfl;have uf1:=kwA.frozen 1;have u2:=kwA.cell 2 _ rfl;have uf2:=kwA.frozen 2;have u3:=kwA.cell 3 _ rfl;have uf3:=kwA.frozen 3;have u4:=kwA.cell 4 _ rfl;have uf4:=kwA.frozen 4;have u5:=kwA.cell 5 _ rfl;have uf5:=kwA.frozen 5;have u6:=kwA.cell 6 _ rfl;have uf6:=kwA.frozen 6;have u7:=kwA.cell 7 _ rfl;have uf7:=kwA.frozen 7;refine wpAnyF_one 9 _ _ _ rfl (by kernel_rfl) (fun K hK=>?_);dsimp only [bare];go_simp
     have chC:Chg (fun k=>k=w.heap.size) wB (((((((wB.setCell ⟨w.heap.size,1,none⟩ (.int .i64 XH.term)).setCell ⟨w.heap.size,2,none⟩ (.int .i64 XH.vote)).setCell ⟨w.heap.size,3,none⟩ (.int .i64 XH.base)).setCell ⟨w.heap.size,4,none⟩ (.int .i64 XH.bterm)).setCell ⟨w.heap.size,5,none⟩ (.int .i64 XH.members)).setCell ⟨w.heap.size,6,none⟩ (.string XH.snap)).setCell ⟨w.heap.size,7,none⟩ (.slice px XH.log.length cx)):=((((((((Chg.refl (fun k=>k=w.heap.size) wB).setCell (p:=⟨w.heap.size,1,none⟩) rfl (.int .i64 XH.term)).setCell (p:=⟨w.heap.size,2,none⟩) rfl (.int .i64 XH.vote)).setCell (p:=⟨w.heap.size,3,none⟩) rfl (.int .i64 XH.base)).setCell (p:=⟨w.heap.size,4,none⟩) rfl (.int .i64 XH.bterm)).setCell (p:=⟨w.heap.size,5,none⟩) rfl (.int .i64 XH.members)).setCell (p:=⟨w.heap.size,6,none⟩) rfl (.string XH.snap)).setCell (p:=⟨w.heap.size,7,none⟩) rfl (.slice px XH.log.length cx))
     have kwC:Blk (((((((wB.setCell ⟨w.heap.size,1,none⟩ (.int .i64 XH.term)).setCell ⟨w.heap.size,2,none⟩ (.int .i64 XH.vote)).setCell ⟨w.heap.size,3,none⟩ (.int .i64 XH.base)).setCell ⟨w.heap.size,4,none⟩ (.int .i64 XH.bterm)).setCell ⟨w.heap.size,5,none⟩ (.int .i64 XH.members)).setCell ⟨w.heap.size,6,none⟩ (.string XH.snap)).setCell ⟨w.heap.size,7,none⟩ (.slice px XH.log.length cx)) w.heap.size (rwA g ⟨0,XH,false⟩ (.slice px XH.log.length cx)) 51:=(((((((kwA.set 1 (.int .i64 XH.term)).set 2 (.int .i64 XH.vote)).set 3 (.int .i64 XH.base)).set 4 (.int .i64 XH.bterm)).set 5 (.int .i64 XH.members)).set 6 (.string XH.snap)).set 7 (.slice px XH.log.length cx))
     have kxC:=chC.blk kx (by omega);have cqC:((((((((wB.setCell ⟨w.heap.size,1,none⟩ (.int .i64 XH.term)).setCell ⟨w.heap.size,2,none⟩ (.int .i64 XH.vote)).setCell ⟨w.heap.size,3,none⟩ (.int .i64 XH.base)).setCell ⟨w.heap.size,4,none⟩ (.int .i64 XH.bterm)).setCell ⟨w.heap.size,5,none⟩ (.int .i64 XH.members)).setCell ⟨w.heap.size,6,none⟩ (.string XH.snap)).setCell ⟨w.heap.size,7,none⟩ (.slice px XH.log.length cx))).cell? ⟨bb,off+j,none⟩=some (.int .i64 (x:Int)):=(World.cell?_of_block (a:=⟨bb,off+j,none⟩) (chC.block bb (by omega) hbg)).trans cqA;have szC:=chC.size
     generalize (((((((wB.setCell ⟨w.heap.size,1,none⟩ (.int .i64 XH.term)).setCell ⟨w.heap.size,2,none⟩ (.int .i64 XH.vote)).setCell ⟨w.heap.size,3,none⟩ (.int .i64 XH.base)).setCell ⟨w.heap.size,4,none⟩ (.int .i64 XH.bterm)).setCell ⟨w.heap.size,5,none⟩ (.int .i64 XH.members)).setCell ⟨w.heap.size,6,none⟩ (.string XH.snap)).setCell ⟨w.heap.size,7,none⟩ (.slice px XH.log.length cx))=wC at *;refine hK _ _ ⟨kxC.cell 0 _ rfl,kxC.cell 1 _ rfl,kxC.cell 2 _ rfl,kxC.cell 3 _ rfl,kxC.cell 4 _ rfl,kxC.cell 5 _ rfl,kxC.cell 6 _ rfl,cqC⟩ (fun hHeld=>?_);clear hK K
     try simp only [lyB,lyP,lyA,lyZ,lyS]
     refine tk ?_ 10 ?_ hHeld ?_;rotate_left
     ·rintro w ⟨_,_,_,_,_,_,_,_⟩;dsimp only [bare];go_simp<;>with_reducible rfl
     try simp only [lyB,lyP,lyA,lyZ,lyS]
     refine tk ?_ 11 ?_ hHeld ?_;rotate_left
     ·rintro w ⟨_,_,_,_,_,_,_,_⟩;dsimp only [bare];go_simp<;>with_reducible rfl
     try simp only [lyB,lyP,lyA,lyZ,lyS]
     have u8c:=kwC.cell 8 _ rfl;have uf8c:=kwC.frozen 8;refine wpAnyF_end (none) (Op.store 3 (Operand.tmp 64) (Operand.tmp 60)) 0 rfl (by kernel_rfl) (by kernel_rfl) (fun K hK=>?_);dsimp only [bare];go_simp;have chD:=chC.step (chg_cell w.heap.size 8 (.int .i64 (x:Int)) wC);have kwD:Blk (wC.setCell ⟨w.heap.size,8,none⟩ (.int .i64 (x:Int))) w.heap.size (rwA g ⟨x,XH,false⟩ (.slice px XH.log.length cx)) 51:=kwC.set 8 (.int .i64 (x:Int));have szD:=chD.size;generalize wC.setCell ⟨w.heap.size,8,none⟩ (.int .i64 (x:Int))=wD at *;refine hK _ _ ?_;clear hK K
     try simp only [lyB,lyP,lyA,lyZ,lyS]
     have hox:∀ k,(Value.slice px XH.log.length cx).ownBlock=some k→w.heap.size<k:=fun k hk=>by have:=ltx k hk;omega
     have rlD:=rlA.chgE chD (fun _ k hk e=>by have:=hox k hk;omega);have rLD:=rLA.chgE chD (fun _ k hk e=>by have:=HltL.out k hk;omega);have belD:=belA.trans (chD.below (fun k hk=>by rw [hk];exact Nat.le_refl _) belA.size);have fin:∀ E',E'=endW d x ⟨XH,XB,true,XZ⟩→RoSt d w wD.drew g L (j+1) x ⟨XH,XB,true,XZ⟩ XH E' (.slice px XH.log.length cx):=fun E' hE' =>
      ⟨kwD.drew,rlD.drew,fun _=>hox,hfx,hx2,belD.drew,hE',.inr ⟨Hx1.out,Hpq.out,rfl⟩⟩
     have Fin:=Lib.hid fin;have hen:endW d x ⟨XH,XB,true,XZ⟩=if XZ<FB.length then (XZ:Int) else -1:=by
      unfold endW;rw [HFB.out];by_cases h:XZ<FB.length
      ·rw [if_pos h,if_pos ⟨Hx1.out,h⟩]
      ·rw [if_neg h,if_neg (fun hh=>h hh.2)]
     have Hen:=Lib.hid hen;have HrL:=Lib.hid rLD.drew;have hszD:w1.heap.size≤wD.heap.size:=by omega
     clear fin hen kx cax kwA kwC kwD kxC cqC cqA chC chD rlA rlD rLA rLD belA belD u1 u2 u3 u4 u5 u6 u7 uf1 uf2 uf3 uf4 uf5 uf6 uf7 u8c uf8c cq hHeld
     by_cases hlt:XZ<FB.length
     ·have hli:(XZ:Int)<(FB.length:Int):=by omega
      have He:=Lib.hid (show (XZ:Int)=endW d x ⟨XH,XB,true,XZ⟩ by rw [Hen.out,if_pos hlt]);clear hlt;go_wp2_with fail
      go_roundw
      case rel=>exact ⟨j+1,x,⟨XH,XB,true,XZ⟩,XH,(XZ:Int),.slice px XH.log.length cx,by omega,by go_num,rfl,Fin.out _ He.out,HrL.out,hszD⟩
      case measure=>simp [intOf];omega
     ·have hli:¬ (XZ:Int)<(FB.length:Int):=by omega
      have He:=Lib.hid (show E=endW d x ⟨XH,XB,true,XZ⟩ by rw [Hen.out,if_neg hlt,HE1.out]);clear hlt;go_wp2_with fail
      go_roundw
      case rel=>exact ⟨j+1,x,⟨XH,XB,true,XZ⟩,XH,E,.slice px XH.log.length cx,by omega,by go_num,rfl,Fin.out _ He.out,HrL.out,hszD⟩
      case measure=>simp [intOf];omega
   ·have hsel:(pickW d L).getD (0,sg0)=(N,S)∧H=(if N=0 then hrdV else S.h):=by
     rcases hst.st with ⟨rfl,rfl,rfl,h4⟩ | ⟨h1,h2,h3⟩
     ·have:L.length≤j:=by
       rcases Nat.lt_or_ge j L.length with h | h
       ·exact absurd ⟨h,rfl⟩ hgo
       ·exact h
      rw [List.drop_of_length_le this] at h4;rw [←h4];exact ⟨rfl,by rw [if_pos rfl]⟩
     ·rw [h2];exact ⟨rfl,by rw [h3,if_neg (by omega)]⟩
    have hst2:RoSt d w wr g L L.length N S H E vl:=⟨hst.kw,hst.rl,hst.ol,hst.few,hst.num,hst.bel,hst.en,by
     rcases hst.st with ⟨h1,h2,h3,h4⟩ | h
     ·subst h1;have:L.length≤j:=by
       rcases Nat.lt_or_ge j L.length with h | h
       ·exact absurd ⟨h,rfl⟩ hgo
       ·exact h
      rw [List.drop_of_length_le this] at h4;exact .inl ⟨rfl,h2,h3,by rw [List.drop_of_length_le (Nat.le_refl _)];exact h4⟩
     ·exact .inr h⟩
    have Hall:=Lib.hid (And.intro hsel (And.intro hst2 rLr));clear hsel hst2 hst
    by_cases hjl:j<L.length
    ·have hji:(j:Int)<(L.length:Int):=by omega
     have hNi:((N:Int) == 0)=false:=by simp;intro h;exact hgo ⟨hjl,h⟩
     clear hgo;go_wp2_with fail
     go_meet
     exact ⟨N,S,H,E,vl,rfl,Hall.out.1.1,Hall.out.1.2,Hall.out.2.1,hszw,Hall.out.2.2⟩
    ·have hji:¬ (j:Int)<(L.length:Int):=by omega
     clear hgo;go_wp2_with fail
     go_meet
     exact ⟨N,S,H,E,vl,rfl,Hall.out.1.1,Hall.out.1.2,Hall.out.2.1,hszw,Hall.out.2.2⟩
 case rest =>
  obtain ⟨N,S,H,E,vl,rfl,hsel,hH,hst,hszk,rLc⟩:=hcut;have hpn:=Hpn.out;rw [hsel] at hpn;have hN:(pickN d).1=N:=by rw [hpn]
  have hS:(pickN d).2=S:=by rw [hpn]
  have hcw:=Hcw.out;rw [hN,hS] at hcw;have hoh:=Hoh.out;rw [hN,hS, ←hH] at hoh;have hop:=Hop.out;rw [hN,hoh] at hop;have HopF:=Lib.hid hop;have Hcw2:=Lib.hid (show cleanW d=thenD (cutS d N S) fun d=>thenD (removesD L.reverse N d) fun d=>if 0<N then syncD d (nameW N) else (0,d) from hcw);clear hop hcw hoh hpn hsel hH hN hS Hpn Hcw Hop Hoh b1 b01 kW rL;obtain ⟨kwc,rlc,olc,few,num,bel,hen,hst4⟩:=hst;have hSfew:0<N→True:=fun _=>trivial;obtain ⟨w2,hw2⟩:∃ z,z=wc:=⟨_,rfl⟩;subst hw2;have hszc:=bel.size;have hX'':∃ X':Nat→Prop,X'=fun k=>X k∨(w.heap.size≤k∧k<w2.heap.size):=⟨_,rfl⟩;obtain ⟨X',hX'⟩:=hX''
  have hXl:∀ k,X k→X' k:=fun k hk=>by rw [hX'];exact .inl hk
  have hXr:∀ k,X' k→X k∨w.heap.size≤k:=fun k hk=>by rw [hX'] at hk;exact hk.imp id (·.1)
  have hXn:∀ k,w.heap.size≤k→k<w2.heap.size→X' k:=fun k h1 h2=>by rw [hX'];exact .inr ⟨h1,h2⟩
  have hdc:RfS w0 X' g d w2:=hd.more bel (fun k hk=>by rw [hX'] at hk;exact hk);have hrw:RwV w2 X' g w.heap.size vl ⟨N,H,false⟩:=⟨kwc,rlc,hXn _ (Nat.le_refl _) kwc.lt,fun hne k hk=>hXn k (Nat.le_of_lt (olc hne k hk)) (rlc.ltE hne k hk),fun hne e=>by have:=olc hne _ e;omega,few,num⟩;have hlX:∀ k,(Value.slice pl L.length cl).ownBlock=some k→X' k:=fun k hk=>hXn k (by have:=(ltL k hk).1;omega) (by have:=(ltL k hk).2;omega);have hchw:∀ wz,Chg (Gx w0 X') w2 wz→Chg (Gx w0 X) w wz:=fun wz hc=>(Chg.of_below (F:=Gx w0 X) bel).step (hc.mono fun k _ hk=>⟨hk.1,fun h=>hk.2 (hXl k h)⟩);have hol:=olc
  have Hchw:=Lib.hid hchw;have HXl:=Lib.hid hXl;have HXr:=Lib.hid hXr;clear hchw hXr hXn hX' kwc rlc olc;have hdg:=dec_few num;have hcatN:=Lib.hid (name_cat N);have HenW:=Lib.hid hen;clear hen;go_upto_if 71 with (fail)
  go_cut [] from 17 (fun wi=>∃ d1,cutS d N S=(0,d1)∧PInv m d1∧RfS w0 X' g d1 wi∧Chg (Gx w0 X') w2 wi)
  case first =>
   by_cases hc:0<N∧S.size<(fileW d N).length
   ·have hE:E=(S.size:Int):=by rw [HenW.out];exact if_pos hc
    have hci:(0:Int)≤E:=by omega
    have hcs:cutS d N S=cutD d (nameW N) E:=by rw [hE];exact if_pos hc
    obtain ⟨E1,D1,hcut⟩:∃ E1 D1,cutD d (nameW N) E=(E1,D1):=⟨_,_,rfl⟩;have pi1:PInv m D1:=by have:=pi.cut0 (nameW N) E;rw [hcut] at this;exact this
    have c8:w2.cell? ⟨w.heap.size,8,none⟩=some (.int .i64 (N:Int)):=hrw.blk.cell 8 _ rfl;clear hE;have Hcs:=Lib.hid (hcs.trans hcut);have Hcut:=Lib.hid hcut;clear hcs hcut hc;go_wp2_with fail
    refine (rkDigits N _ rfl (by omega) w2).mono ?_;rintro e w3 ⟨rfl,b3⟩;have hd3:=hdc.ext b3;have hct:=rCut hd3 ok (s:=((⟨#[119,97,108,46]⟩:ByteArray)++(⟨(Lib.decDigits N).toArray⟩:ByteArray))) (n:=E) (E:=E1) (d':=D1) (by rw [hcatN.out];exact Hcut.out);go_wp2_with fail
    refine hct.mono ?_;rintro e w4 ⟨rfl,hd4,ch4⟩;have hch:Chg (Gx w0 X') w2 w4:=(Chg.of_below b3).step ch4;clear hct ch4 c8
    by_cases hE1:E1=0
    ·subst hE1;go_wp2_with fail
     go_meet
     exact ⟨D1,Hcs.out,pi1,hd4,hch⟩
    ·have hi:(E1 !=0)=true:=by simpa using hE1
     have Hcl:=Lib.hid (Hcw2.out.trans (thenD_no Hcs.out hE1));have HE1:=Lib.hid hE1;clear hE1;go_wp2_with fail
     refine bodyPost_ret (v:=.tuple #[.pointer none,.int .i64 E1]) (by simp [results,Tryz.results11,go_sem]) rfl ?_;exact OpenedR.no HE1.out Hcl.out HXl.out hd4 (Hchw.out _ hch)
   ·have hE:E = -1:=by rw [HenW.out];exact if_neg hc
    have hci:¬ (0:Int)≤E:=by omega
    have Hcs:=Lib.hid (show cutS d N S=(0,d) from if_neg hc);clear hE;clear hc;go_wp2_with fail
    go_meet
    exact ⟨d,Hcs.out,pi,hdc,Chg.refl _ _⟩
  case rest =>
  obtain ⟨d1,hcs,pi1,hd1,ch1⟩:=hcut;have Hcw3:=Lib.hid (Hcw2.out.trans (thenD_ok hcs));clear hcs Hcw2 hdc;obtain ⟨w5,hw5⟩:∃ z,z=wc:=⟨_,rfl⟩;subst hw5
  go_upto_block 2 with (fail)
  go_cut [] from 17 (fun wi=>∃ d2,removesD L.reverse N d1=(0,d2)∧PInv m d2∧RfS w0 X' g d2 wi∧Chg (Gx w0 X') w2 wi)
  case first =>
   go_wp2_with fail
   go_loopw [14] (fun i wr=>∃ (j:Nat) (dj:Dk),j≤L.length∧i=.int .i64 ((j:Int) - 1)∧PInv m dj∧RfS w0 X' g dj wr∧Chg (Gx w0 X') w2 wr∧Hid (removesD (L.take j).reverse N dj=removesD L.reverse N d1)) (fun i _=>((intOf i)+1).toNat)
   case atStart=>exact ⟨L.length,d1,Nat.le_refl _,rfl,pi1,hd1,ch1,by show removesD (L.take L.length).reverse N d1=_;rw [List.take_length]⟩
   case round =>
    obtain ⟨j,dj,hj,rfl,pij,hdj,chj,hrem⟩:=hrel
    rcases Nat.eq_zero_or_pos j with hj0 | hj0
    ·subst hj0;have hres:removesD L.reverse N d1=(0,dj):=hrem.out.symm.trans rfl;have Hres:=Lib.hid hres;clear hres hrem;go_wp2_with fail
     go_meet
     exact ⟨dj,Hres.out,pij,hdj,chj⟩
    ·obtain ⟨q,rfl⟩:∃ q,j=q+1:=⟨j - 1,by omega⟩;have hql:q<L.length:=by omega
     have hremq:=hrem.out;rw [List.take_succ_eq_append_getElem hql,List.reverse_append,List.reverse_singleton,List.singleton_append] at hremq;have rLj:=rLc.chgE chj (fun _ k hk hG=>hG.2 (hlX k hk));obtain ⟨bb,off,rfl⟩:=Rd.blk rLj (by rw [natI_length];omega);have cq:wr.cell? ⟨bb,off+q,none⟩=some (.int .i64 (L[q]:Nat)):=by
      have:=rLj.at_ (k:=q) (by rw [natI_length];exact hql) 0 (by decide)
      simpa [intsE,natI] using this
     have c8:wr.cell? ⟨w.heap.size,8,none⟩=some (.int .i64 (N:Int)):=(hrw.keep chj).blk.cell 8 _ rfl;have hx:=hgood L[q] (List.getElem_mem hql);have hx2:=hx.2;have hdx:=dec_few hx2;have Hremq:=Lib.hid hremq;have hq0:(0:Int)≤(q:Int):=by omega
     have hq1:(q:Int)<(L.length:Int):=by omega
     rw [show ((q+1:Nat):Int) - 1=(q:Int) from by omega];have Hgd:=Lib.hid hgood;have HltL:=Lib.hid ltL;have HlX:=Lib.hid hlX;clear hremq hrem rLj hx hgood ltL hlX;generalize L[q]=x at *
     by_cases hxN:x=N
     ·have hxi:((x:Int) !=(N:Int))=false:=by simp;omega
      have Hnx:=Lib.hid (show removesD (L.take q).reverse N dj=removesD L.reverse N d1 from (removesR_same _ dj hxN).symm.trans Hremq.out);clear hxN Hremq;go_wp2_with fail
      go_quiet (fail)
      go_wp2_with fail
      go_roundw
      case rel=>exact ⟨q,dj,by omega,by go_num,pij,hdj.drewN _,chj.step (.of_below (below_drawn _ _ _)),Hnx⟩
      case measure=>simp [intOf]
     ·have hxi:((x:Int) !=(N:Int))=true:=by simp;omega
      obtain ⟨E2,D2,hrm⟩:∃ E2 D2,removeD dj (nameW x)=(E2,D2):=⟨_,_,rfl⟩;have hnx:=(removesR_go (L.take q).reverse dj hxN).symm.trans Hremq.out;rw [hrm] at hnx;have pi2:PInv m D2:=by have:=pij.remove0 (nameW x);rw [hrm] at this;exact this
      have Hnx:=Lib.hid hnx;have Hrm:=Lib.hid hrm;have hcatx:=Lib.hid (name_cat x);have okj:=pij.ok (show m≤1000 by omega);clear hxN Hremq hnx hrm;go_wp2_with fail
      go_quiet (fail)
      go_wp2_with fail
      refine (rkDigits x _ rfl (by omega) _).mono ?_;rintro e w6 ⟨rfl,b6⟩;have hd6:=(hdj.drewN _).ext b6;have ch6:=(chj.step (.of_below (below_drawn _ _ _))).step (.of_below b6);have hrr:=rRemove hd6 okj (s:=((⟨#[119,97,108,46]⟩:ByteArray)++(⟨(Lib.decDigits x).toArray⟩:ByteArray))) (E:=E2) (d':=D2) (by rw [hcatx.out];exact Hrm.out);go_wp2_with fail
      refine hrr.mono ?_;rintro e w7 ⟨rfl,hd7,ch7⟩;have hch:=ch6.step ch7;clear hrr ch6 ch7 hd6 b6 c8 cq
      by_cases hE2:E2=0
      ·subst hE2;have Hnx2:=Lib.hid (show removesD (L.take q).reverse N D2=removesD L.reverse N d1 from Hnx.out);go_wp2_with fail
       go_roundw
       case rel=>exact ⟨q,D2,by omega,by go_num,pi2,hd7,hch,Hnx2⟩
       case measure=>simp [intOf]
      ·have hi:(E2 !=0)=true:=by simpa using hE2
       have hrall:removesD L.reverse N d1=(E2,D2):=Hnx.out.symm.trans (thenD_no rfl hE2);have Hcl:=Lib.hid (Hcw3.out.trans (thenD_no hrall hE2));have HE2:=Lib.hid hE2;clear hE2 hrall;go_wp2_with fail
       refine bodyPost_ret (v:=.tuple #[.pointer none,.int .i64 E2]) (by simp [results,Tryz.results11,go_sem]) rfl ?_;exact OpenedR.no HE2.out Hcl.out HXl.out hd7 (Hchw.out _ hch)
  case rest =>
  obtain ⟨d2,hrs,pi2,hd2,ch2⟩:=hcut;have Hcw4:=Lib.hid (Hcw3.out.trans (thenD_ok hrs));clear hrs Hcw3 hd1 ch1;obtain ⟨w8,hw8⟩:∃ z,z=wc:=⟨_,rfl⟩;subst hw8;have hrw8:=hrw.keep ch2;have c8:w8.cell? ⟨w.heap.size,8,none⟩=some (.int .i64 (N:Int)):=hrw8.blk.cell 8 _ rfl;have hfinal:∀ (dz:Dk) (wz:World),cleanW d=(0,dz)→RfS w0 X' g dz wz→Chg (Gx w0 X') w2 wz→OpenedR w0 w X g d (cleanW d).2 (openW d) (.returned (.tuple #[.pointer (some ⟨w.heap.size,0,none⟩),.int .i64 0])) wz:=fun dz wz hcl hdz hcz=>by
   have ho:openW d=some ⟨N,H,false⟩:=by rw [HopF.out,hcl];exact if_pos rfl
   rw [hcl,ho];exact ⟨⟨w.heap.size,vl,X',rfl,Nat.le_refl _,HXl.out,HXr.out,hdz,hrw.keep hcz,fun k hk hne=>Nat.le_of_lt (hol hne k hk)⟩,hdz.mono HXl.out,Hchw.out _ hcz⟩
  have Hfinal:=Lib.hid hfinal;clear hfinal hrw hrw8
  by_cases hN0:0<N
  ·have hNi:(0:Int)<(N:Int):=by omega
   obtain ⟨E3,D3,hsy⟩:∃ E3 D3,syncD d2 (nameW N)=(E3,D3):=⟨_,_,rfl⟩;have hcl:=Hcw4.out;rw [if_pos hN0,hsy] at hcl;have Hcl:=Lib.hid hcl;have Hsy:=Lib.hid hsy;have ok2:=pi2.ok (show m≤1000 by omega);clear hcl hsy hN0 Hcw4;go_wp2_with fail
   refine (rkDigits N _ rfl (by omega) w8).mono ?_;rintro e w9 ⟨rfl,b9⟩;have hss:=rSync (hd2.ext b9) ok2 (s:=((⟨#[119,97,108,46]⟩:ByteArray)++(⟨(Lib.decDigits N).toArray⟩:ByteArray))) (E:=E3) (d':=D3) (by rw [hcatN.out];exact Hsy.out);go_wp2_with fail
   refine hss.mono ?_;rintro e w10 ⟨rfl,hd10,ch10⟩;have hch:=(ch2.step (.of_below b9)).step ch10;clear hss ch10 c8
   by_cases hE3:E3=0
   ·subst hE3;go_wp2_with fail
    refine bodyPost_ret (v:=.tuple #[.pointer (some ⟨w.heap.size,0,none⟩),.int .i64 0]) (by simp [results,Tryz.results11,go_sem]) rfl ?_;exact Hfinal.out D3 _ Hcl.out hd10 hch
   ·have hi:(E3 !=0)=true:=by simpa using hE3
    have HE3:=Lib.hid hE3;clear hE3;go_wp2_with fail
    refine bodyPost_ret (v:=.tuple #[.pointer none,.int .i64 E3]) (by simp [results,Tryz.results11,go_sem]) rfl ?_;exact OpenedR.no HE3.out Hcl.out HXl.out hd10 (Hchw.out _ hch)
  ·have hNi:¬ (0:Int)<(N:Int):=by omega
   have hcl:=Hcw4.out;rw [if_neg hN0] at hcl;have Hcl:=Lib.hid hcl;clear hcl hN0 Hcw4;go_wp2_with fail
   refine bodyPost_ret (v:=.tuple #[.pointer (some ⟨w.heap.size,0,none⟩),.int .i64 0]) (by simp [results,Tryz.results11,go_sem]) rfl ?_;exact Hfinal.out d2 _ Hcl.out hd2 ch2
end
end Go.Proofs.YtgpgcnmnfnnkjaaGreatDoor
