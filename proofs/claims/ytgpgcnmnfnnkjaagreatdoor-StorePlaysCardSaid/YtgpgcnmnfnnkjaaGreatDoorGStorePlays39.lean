import Derived.Test.YtgpgcnmnfnnkjaaGreatDoorGStorePlays38
set_option linter.unusedVariables false
set_option linter.unusedSimpArgs false
set_option maxRecDepth 100000
set_option maxHeartbeats 16000000
namespace Go.Proofs.YtgpgcnmnfnnkjaaGreatDoor
section
open Go Go.RowKit Go.PlainAid BigFrame
theorem mem_insW {out:List Nat} {n x:Nat} (h:x ∈ insW out n):x=n∨x ∈ out:=by
 unfold insW at h
 rcases List.mem_append.1 h with h | h
 ·exact .inr (List.mem_of_mem_take h)
 ·rcases List.mem_cons.1 h with h | h
  ·exact .inl h
  ·exact .inr (List.mem_of_mem_drop h)
theorem segs_good:∀ (l:List ByteArray) (out:List Nat),(∀ x ∈ out,0<x∧x≤99999999999999)→∀ x ∈ l.foldl segStep out,0<x∧x≤99999999999999
 | [],_,h=>h
 | s::r,out,h=>by
  rw [List.foldl_cons];refine segs_good r _ (fun x hx=>?_);unfold segStep at hx
  split at hx
  ·exact h x hx
  ·rename_i hz
   rcases mem_insW hx with rfl | hx
   ·have:=numW_lt s;omega
   ·exact h x hx
theorem PInv.fileLen {k:Nat} {d:Dk} (h:PInv k d) (n:Nat):(fileW d n).length≤4194304:=by
 unfold fileW readD
 split
 ·simp
 ·cases hx:d.fs[(idxD d.fs (nameW n)).toNat]? with
  | none=>simp
  | some f =>
   have hm:=List.mem_of_getElem? hx;have h1:=totD_mem hm;have h2:=h.l.tot
   show f.data.length≤_
   omega
theorem walA_put (g:Nat) (ws:Wl) (v v':Value) (n:Nat) (XH:Hrd):(((((((((walA g ws v).setIfInBounds 1 (.int .i64 (n:Int))).setIfInBounds 2 (.int .i64 XH.term)).setIfInBounds 3 (.int .i64 XH.vote)).setIfInBounds 4 (.int .i64 XH.base)).setIfInBounds 5 (.int .i64 XH.bterm)).setIfInBounds 6 (.int .i64 XH.members)).setIfInBounds 7 (.string XH.snap)).setIfInBounds 8 v')=walA g ⟨n,XH,ws.down⟩ v':=by kernel_rfl
theorem segA_put (s:Sg) (v v':Value) (XH:Hrd) (XB:Bool) (XZ:Nat):(((((((((((segA s v).setIfInBounds 0 (.int .i64 XH.term)).setIfInBounds 1 (.int .i64 XH.vote)).setIfInBounds 2 (.int .i64 XH.base)).setIfInBounds 3 (.int .i64 XH.bterm)).setIfInBounds 4 (.int .i64 XH.members)).setIfInBounds 5 (.string XH.snap)).setIfInBounds 6 v').setIfInBounds 7 (.bool XB)).setIfInBounds 8 (.bool true)).setIfInBounds 9 (.int .i64 (XZ:Int)))=segA ⟨XH,XB,true,XZ⟩ v':=by kernel_rfl
theorem pickW_cons (d:Dk) (k:Nat) (r:List Nat):pickW d (k::r)=if (readSeg (fileW d k)).whole then some (k,readSeg (fileW d k)) else pickW d r:=rfl
theorem seg_few {b:List UInt8} (h:(readSeg b).whole=true):(readSeg b).h.log.length≤200:=by
 have ok:=readSeg_ok b;exact ((bareH_iff _).1 (ok.bare (ok.wh h))).2.1
structure OpSt (d:Dk) (w1 W wr:World) (g:Nat) (L:List Nat) (j N:Nat) (S:Sg) (H:Hrd) (vl vs:Value):Prop where
 kw:Blk wr w1.heap.size (walA g ⟨N,H,false⟩ vl) 100
 ks:Blk wr (w1.heap.size+1) (segA S vs) 102
 rl:Rd etyE wr vl H.log
 ol:∀ k,vl.ownBlock=some k→w1.heap.size+2≤k∧k<wr.heap.size
 few:H.log.length≤200
 num:N≤99999999999999
 bel:Below w1.heap.size W wr
 st:(N=0∧S=sg0∧H=hrdV∧pickW d (L.take j).reverse=pickW d L.reverse)∨(0<N∧pickW d L.reverse=some (N,S)∧H=S.h)
theorem OpSt.drew {d:Dk} {w1 W wr:World} {g:Nat} {L:List Nat} {j N:Nat} {S:Sg} {H:Hrd} {vl vs:Value} (h:OpSt d w1 W wr g L j N S H vl vs):OpSt d w1 W wr.drew g L j N S H vl vs :=
 ⟨h.kw.drew,h.ks.drew,h.rl.drew,h.ol,h.few,h.num,h.bel.drew,h.st⟩
def OpenedW (w0 w:World) (X:Nat→Prop) (g:Nat) (d d':Dk) (o:Option Wl) (e:Ending) (w':World):Prop :=
 (match o with
 | none=>∃ E:Int,E≠0∧E=(cleanW d).1∧e=.returned (.tuple #[.pointer none,.int .i64 E])
 | some ws=>∃ gw v X',e=.returned (.tuple #[.pointer (some ⟨gw,0,none⟩),.int .i64 0])∧w.heap.size≤gw∧(∀ k,X k→X' k)∧(∀ k,X' k→X k∨w.heap.size≤k)∧DwS w0 X' g d' w'∧WalV w' X' g gw v ws∧∀ k,v.ownBlock=some k→w.heap.size≤k)
 ∧ DwS w0 X g d' w'∧Chg (Gx w0 X) w w'

theorem walOpenNil (w:World):Calls Tryz.prog 19 #[.pointer none] w fun e w'=>e=.returned (.tuple #[.pointer none,.int .i64 1])∧w=w':=by
 go_enter Tryz.func19,Tryz.ntmps19
 go_wp2
 refine bodyPost_ret (v:=.tuple #[.pointer none,.int .i64 1]) (by simp [results,Tryz.results19,go_sem]) rfl ⟨rfl,rfl⟩

theorem walOpen {w0 w:World} {X:Nat→Prop} {g:Nat} {d:Dk} (T0:∀ z,Below w0.heap.size w0 z→TabW z) (hd:DwS w0 X g d w) (hb0:Below w0.heap.size w0 w) {m:Nat} (pi:PInv m d) (hm:m≤300) :
 Calls Tryz.prog 19 #[.pointer (some ⟨g,0,none⟩)] w (OpenedW w0 w X g d (cleanW d).2 (openW d)):=by
 have ok:=pi.ok (show m≤1000 by omega);have hlen:(segsW (d.fs.map (·.name))).length≤300:=by
  have h1:=foldl_seg_len (d.fs.map (·.name)) [];have h2:=pi.l.len;unfold segsW;simp only [List.length_nil,List.length_map] at h1;omega
 have hgood:∀ x ∈ segsW (d.fs.map (·.name)),0<x∧x≤99999999999999:=segs_good _ [] (fun x hx=>by cases hx);have hpn:pickN d=(pickW d (segsW (d.fs.map (·.name))).reverse).getD (0,sg0):=rfl;have hcw:cleanW d=cleanD d (segsW (d.fs.map (·.name))) (pickN d).1 (pickN d).2:=rfl;have hop:openW d=if (cleanW d).1=0 then some ⟨(pickN d).1,openH d,false⟩ else none:=rfl
 have hoh:openH d=if (pickN d).1=0 then hrdV else (pickN d).2.h:=rfl
 have Hpn:=Lib.hid hpn;have Hcw:=Lib.hid hcw;have Hop:=Lib.hid hop;have Hoh:=Lib.hid hoh;have hcall:=walSegments hd ok;unfold SegsI at hcall;clear hpn hcw hop hoh;obtain ⟨L,hL⟩:∃ L,L=segsW (d.fs.map (·.name)):=⟨_,rfl⟩;rw [←hL] at hlen hgood Hpn Hcw hcall;clear hL;have hs0:=hb0.size;have hgl:g<w.heap.size:=by obtain ⟨⟨F,h1,_⟩,_⟩:=hd;exact h1.lt g h1.inG
 go_enter Tryz.func19,Tryz.ntmps19
 go_wp2_with fail
 refine hcall.mono ?_;rintro e w1 ⟨rl,rfl,ownL,b1⟩;have rL:=ownL.rd;obtain ⟨pl,cl,rfl⟩:=rL.shape;have ltL:=fun k hk=>ownL.lt k hk;rw [natI_length] at rL ltL ⊢;clear ownL hcall;have hs1:=b1.size;have kA:=(Blk.new w1 #[.pointer (some ⟨g,0,none⟩),.int .i64 0,.int .i64 0,.int .i64 (-1),.int .i64 0,.int .i64 0,.int .i64 0,.string ⟨#[]⟩,.slice none 0 0,.bool false] 100).ext (below_alloc _ (.cells #[.int .i64 0,.int .i64 0,.int .i64 0,.int .i64 0,.int .i64 0,.string ⟨#[]⟩,.slice none 0 0,.bool false,.bool false,.int .i64 0] 102))
 have kB:=Blk.new (w1.alloc (.cells #[.pointer (some ⟨g,0,none⟩),.int .i64 0,.int .i64 0,.int .i64 (-1),.int .i64 0,.int .i64 0,.int .i64 0,.string ⟨#[]⟩,.slice none 0 0,.bool false] 100)) #[.int .i64 0,.int .i64 0,.int .i64 0,.int .i64 0,.int .i64 0,.string ⟨#[]⟩,.slice none 0 0,.bool false,.bool false,.int .i64 0] 102;rw [show (w1.alloc (.cells #[.pointer (some ⟨g,0,none⟩),.int .i64 0,.int .i64 0,.int .i64 (-1),.int .i64 0,.int .i64 0,.int .i64 0,.string ⟨#[]⟩,.slice none 0 0,.bool false] 100)).heap.size=w1.heap.size+1 from by simp] at kB
 have bW:Below w1.heap.size w1 ((w1.alloc (.cells #[.pointer (some ⟨g,0,none⟩),.int .i64 0,.int .i64 0,.int .i64 (-1),.int .i64 0,.int .i64 0,.int .i64 0,.string ⟨#[]⟩,.slice none 0 0,.bool false] 100)).alloc (.cells #[.int .i64 0,.int .i64 0,.int .i64 0,.int .i64 0,.int .i64 0,.string ⟨#[]⟩,.slice none 0 0,.bool false,.bool false,.int .i64 0] 102)):=(below_alloc _ _).trans ((below_alloc _ _).mono (by simp));go_wp2_with fail
 generalize (w1.alloc (.cells #[.pointer (some ⟨g,0,none⟩),.int .i64 0,.int .i64 0,.int .i64 (-1),.int .i64 0,.int .i64 0,.int .i64 0,.string ⟨#[]⟩,.slice none 0 0,.bool false] 100)).alloc (.cells #[.int .i64 0,.int .i64 0,.int .i64 0,.int .i64 0,.int .i64 0,.string ⟨#[]⟩,.slice none 0 0,.bool false,.bool false,.int .i64 0] 102)=W at *
 go_loopw [7] (fun i wr=>∃ (j N:Nat) (S:Sg) (H:Hrd) (vl vs:Value),j≤L.length∧i=.int .i64 ((j:Int) - 1)∧OpSt d w1 W wr g L j N S H vl vs) (fun i _=>((intOf i)+1).toNat)
 case atStart=>exact ⟨L.length,0,sg0,hrdV,.slice none 0 0,.slice none 0 0,Nat.le_refl _,rfl,kA,kB,Rd.nil _,fun k hk=>by simp [Value.ownBlock] at hk,by decide,by decide,Below.refl _ _,.inl ⟨rfl,rfl,rfl,by rw [List.take_length]⟩⟩
 case round =>
  obtain ⟨j,N,S,H,vl,vs,hj,rfl,hst⟩:=hrel;have bwr:=bW.trans hst.bel;have b0r:=b1.trans (bwr.mono hs1);have e1:wr.cell? ⟨w1.heap.size,1,none⟩=some (.int .i64 (N:Int)):=hst.kw.cell 1 _ rfl;have hszr:=bwr.size
  by_cases hgo:0<j∧N=0
  ·obtain ⟨hj0,rfl⟩:=hgo;obtain ⟨q,rfl⟩:∃ q,j=q+1:=⟨j - 1,by omega⟩;have hpk:pickW d (L.take (q+1)).reverse=pickW d L.reverse:=by
    rcases hst.st with h | h
    ·exact h.2.2.2
    ·exact absurd h.1 (Nat.lt_irrefl _)
   rw [List.take_succ_eq_append_getElem (by omega),List.reverse_append,List.reverse_singleton,List.singleton_append,pickW_cons] at hpk;have hql:q<L.length:=by omega
   have hx:=hgood L[q] (List.getElem_mem hql);have rLr:=rL.ext bwr;obtain ⟨bb,off,rfl⟩:=Rd.blk rLr (by rw [natI_length];omega);have cq:wr.cell? ⟨bb,off+q,none⟩=some (.int .i64 (L[q]:Nat)):=by
    have:=rLr.at_ (k:=q) (by rw [natI_length];exact hql) 0 (by decide)
    simpa [intsE,natI] using this
   have hbb:bb<w1.heap.size:=(ltL bb rfl).2;have Hpk:=Lib.hid hpk;have hq0:(0:Int)≤(q:Int):=by omega
   have hq1:(q:Int)<(L.length:Int):=by omega
   have hb0r:Below w0.heap.size w0 wr:=hb0.trans (b0r.mono hs0);rw [show ((q+1:Nat):Int) - 1=(q:Int) from by omega];have hx2:=hx.2;have Hx1:=Lib.hid hx.1;have Hgd:=Lib.hid hgood;have HltL:=Lib.hid ltL;clear hpk hx hgood ltL rLr;generalize L[q]=x at *;go_wp2_with fail
   refine (walNamed x _ rfl (by omega) wr (T0 wr hb0r)).mono ?_;rintro e w2 ⟨rfl,b2⟩;have hdr:=hd.ext b0r;go_wp2_with fail
   refine (lRead (hdr.ext b2) ok (nameW x) rfl).mono ?_;rintro e w3 ⟨⟨r,rfl,own3⟩,b3⟩;have b23:=b2.trans (b3.mono b2.size);have hfw:fileW d x=(readD d (nameW x)).getD []:=rfl;rw [←hfw] at own3;clear hfw;have hfl:=pi.fileLen x;generalize hFB:fileW d x=FB at *;clear hFB;generalize (readD d (nameW x)).isSome=qb at *;go_wp2_with fail
   refine (walRead r FB w3 own3.bytes (by omega)).mono ?_;rintro e w4 ⟨vx,rfl,ownx,b4⟩;have b24:=b23.trans (b4.mono b23.size);obtain ⟨px,cx,rfl⟩:=ownx.rd.shape;have hfewx:=fun h=>seg_few (b:=FB) h;have kw4:=hst.kw.ext b24;have ks4:=hst.ks.ext b24;have rl4:=hst.rl.ext b24;have bel4:=hst.bel.trans (b24.mono (by have:=hst.bel.size;omega));have hs4:=bel4.size;have hW1:=bW.size;have ltx:=fun k hk=>ownx.lt k hk;have rlx:=ownx.rd;have hpk3:=Hpk.out;have hsf:=fun h=>seg_few (b:=FB) h;clear Hpk hfewx ownx;generalize readSeg FB=XS at *;obtain ⟨XH,XB,XW,XZ⟩:=XS;dsimp only at *
   cases XW with
   | false =>
    have kx:=Blk.new w4 #[.int .i64 XH.term,.int .i64 XH.vote,.int .i64 XH.base,.int .i64 XH.bterm,.int .i64 XH.members,.string XH.snap,.slice px XH.log.length cx,.bool XB,.bool false,.int .i64 (XZ:Int)] 102;have cax:=below_alloc w4 (.cells #[.int .i64 XH.term,.int .i64 XH.vote,.int .i64 XH.base,.int .i64 XH.bterm,.int .i64 XH.members,.string XH.snap,.slice px XH.log.length cx,.bool XB,.bool false,.int .i64 (XZ:Int)] 102);have hpq:pickW d (L.take q).reverse=pickW d L.reverse:=by rw [if_neg (by simp)] at hpk3;exact hpk3
    have fin:OpSt d w1 W (w4.alloc (.cells #[.int .i64 XH.term,.int .i64 XH.vote,.int .i64 XH.base,.int .i64 XH.bterm,.int .i64 XH.members,.string XH.snap,.slice px XH.log.length cx,.bool XB,.bool false,.int .i64 (XZ:Int)] 102)) g L q 0 S H vl vs:=⟨kw4.ext cax,ks4.ext cax,rl4.ext cax,fun k hk=>⟨(hst.ol k hk).1,by have h1:=(hst.ol k hk).2;have h2:=b24.size;have h3:=cax.size;omega⟩,hst.few,hst.num,bel4.trans (cax.mono (by omega)),by
     rcases hst.st with h | h
     ·exact .inl ⟨rfl,h.2.1,h.2.2.1,hpq⟩
     ·exact absurd h.1 (Nat.lt_irrefl _)⟩
    have Fin:=Lib.hid fin;clear fin hpq kx cax kw4 ks4 rl4 hst own3 hpk3 hsf;go_wp2_with fail
    go_roundw
    case rel=>exact ⟨q,0,S,H,vl,vs,by omega,by go_num,Fin.out⟩
    case measure=>simp [intOf]
   | true =>
    have kx:=Blk.new w4 #[.int .i64 XH.term,.int .i64 XH.vote,.int .i64 XH.base,.int .i64 XH.bterm,.int .i64 XH.members,.string XH.snap,.slice px XH.log.length cx,.bool XB,.bool true,.int .i64 (XZ:Int)] 102;have cax:=below_alloc w4 (.cells #[.int .i64 XH.term,.int .i64 XH.vote,.int .i64 XH.base,.int .i64 XH.bterm,.int .i64 XH.members,.string XH.snap,.slice px XH.log.length cx,.bool XB,.bool true,.int .i64 (XZ:Int)] 102);have hpq:pickW d L.reverse=some (x,⟨XH,XB,true,XZ⟩):=by rw [if_pos rfl] at hpk3;exact hpk3.symm
    have Hpq:=Lib.hid hpq;have hfx:=hsf rfl;have kwA:=kw4.ext cax;have ksA:=ks4.ext cax;have cqA:(w4.alloc (.cells #[.int .i64 XH.term,.int .i64 XH.vote,.int .i64 XH.base,.int .i64 XH.bterm,.int .i64 XH.members,.string XH.snap,.slice px XH.log.length cx,.bool XB,.bool true,.int .i64 (XZ:Int)] 102)).cell? ⟨bb,off+q,none⟩=some (.int .i64 (x:Nat)):=by
     rw [cax.cell (p:=⟨bb,off+q,none⟩) (by show bb<_;omega),b24.cell (p:=⟨bb,off+q,none⟩) (by show bb<_;omega)];exact cq
    have belA:=bel4.trans (cax.mono (show w1.heap.size≤w4.heap.size by omega));have hsA:w1.heap.size+1<w4.heap.size:=ks4.lt;have hsB:=cax.size;have hW4:(w4.alloc (.cells #[.int .i64 XH.term,.int .i64 XH.vote,.int .i64 XH.base,.int .i64 XH.bterm,.int .i64 XH.members,.string XH.snap,.slice px XH.log.length cx,.bool XB,.bool true,.int .i64 (XZ:Int)] 102)).heap.size=w4.heap.size+1:=by simp
    have rlA:=rlx.ext cax;have ksL:=hst.ks.lt;have hb23:=b23.size;have szA:w4.heap.size<(w4.alloc (.cells #[.int .i64 XH.term,.int .i64 XH.vote,.int .i64 XH.base,.int .i64 XH.bterm,.int .i64 XH.members,.string XH.snap,.slice px XH.log.length cx,.bool XB,.bool true,.int .i64 (XZ:Int)] 102)).heap.size:=by omega
    clear hpq hpk3 hsf hst kw4 ks4 rl4 own3 rlx;go_wp2_with fail
    generalize w4.alloc (.cells #[.int .i64 XH.term,.int .i64 XH.vote,.int .i64 XH.base,.int .i64 XH.bterm,.int .i64 XH.members,.string XH.snap,.slice px XH.log.length cx,.bool XB,.bool true,.int .i64 (XZ:Int)] 102)=wA at *
    refine wp_region_F (n:=15) (S:=fun w':World=>w'.cell? ⟨w4.heap.size,0,none⟩=some (.int .i64 XH.term)∧w'.cell? ⟨w4.heap.size,1,none⟩=some (.int .i64 XH.vote)∧w'.cell? ⟨w4.heap.size,2,none⟩=some (.int .i64 XH.base)∧w'.cell? ⟨w4.heap.size,3,none⟩=some (.int .i64 XH.bterm)∧w'.cell? ⟨w4.heap.size,4,none⟩=some (.int .i64 XH.members)∧w'.cell? ⟨w4.heap.size,5,none⟩=some (.string XH.snap)∧w'.cell? ⟨w4.heap.size,6,none⟩=some (.slice px XH.log.length cx)∧w'.cell? ⟨w4.heap.size,7,none⟩=some (.bool XB)∧w'.cell? ⟨w4.heap.size,8,none⟩=some (.bool true)∧w'.cell? ⟨w4.heap.size,9,none⟩=some (.int .i64 (XZ:Int))∧w'.cell? ⟨bb,off+q,none⟩=some (.int .i64 (x:Int))) (by kernel_rfl) ?_
    have hHeld:(fun w':World=>w'.cell? ⟨w4.heap.size,0,none⟩=some (.int .i64 XH.term)∧w'.cell? ⟨w4.heap.size,1,none⟩=some (.int .i64 XH.vote)∧w'.cell? ⟨w4.heap.size,2,none⟩=some (.int .i64 XH.base)∧w'.cell? ⟨w4.heap.size,3,none⟩=some (.int .i64 XH.bterm)∧w'.cell? ⟨w4.heap.size,4,none⟩=some (.int .i64 XH.members)∧w'.cell? ⟨w4.heap.size,5,none⟩=some (.string XH.snap)∧w'.cell? ⟨w4.heap.size,6,none⟩=some (.slice px XH.log.length cx)∧w'.cell? ⟨w4.heap.size,7,none⟩=some (.bool XB)∧w'.cell? ⟨w4.heap.size,8,none⟩=some (.bool true)∧w'.cell? ⟨w4.heap.size,9,none⟩=some (.int .i64 (XZ:Int))∧w'.cell? ⟨bb,off+q,none⟩=some (.int .i64 (x:Int))) wA.drew:=⟨kx.cell 0 _ rfl,kx.cell 1 _ rfl,kx.cell 2 _ rfl,kx.cell 3 _ rfl,kx.cell 4 _ rfl,kx.cell 5 _ rfl,kx.cell 6 _ rfl,kx.cell 7 _ rfl,kx.cell 8 _ rfl,kx.cell 9 _ rfl,cqA⟩
    refine tk ?_ 0 ?_ hHeld ?_;rotate_left
    ·rintro w ⟨_,_,_,_,_,_,_,_,_,_,_⟩;dsimp only [bare];go_simp<;>with_reducible rfl
    try simp only [lyB,lyP,lyA,lyZ,lyS]
    refine tk ?_ 1 ?_ hHeld ?_;rotate_left
    ·rintro w ⟨_,_,_,_,_,_,_,_,_,_,_⟩;dsimp only [bare];go_simp<;>with_reducible rfl
    try simp only [lyB,lyP,lyA,lyZ,lyS]
    refine tk ?_ 2 ?_ hHeld ?_;rotate_left
    ·rintro w ⟨_,_,_,_,_,_,_,_,_,_,_⟩;dsimp only [bare];go_simp<;>with_reducible rfl
    try simp only [lyB,lyP,lyA,lyZ,lyS]
    refine tk ?_ 3 ?_ hHeld ?_;rotate_left
    ·rintro w ⟨_,_,_,_,_,_,_,_,_,_,_⟩;dsimp only [bare];go_simp<;>with_reducible rfl
    try simp only [lyB,lyP,lyA,lyZ,lyS]
    refine tk ?_ 4 ?_ hHeld ?_;rotate_left
    ·rintro w ⟨_,_,_,_,_,_,_,_,_,_,_⟩;dsimp only [bare];go_simp<;>with_reducible rfl
    try simp only [lyB,lyP,lyA,lyZ,lyS]
    refine tk ?_ 5 ?_ hHeld ?_;rotate_left
    ·rintro w ⟨_,_,_,_,_,_,_,_,_,_,_⟩;dsimp only [bare];go_simp<;>with_reducible rfl
    try simp only [lyB,lyP,lyA,lyZ,lyS]
    refine tk ?_ 6 ?_ hHeld ?_;rotate_left
    ·rintro w ⟨_,_,_,_,_,_,_,_,_,_,_⟩;dsimp only [bare];go_simp<;>with_reducible rfl
    try simp only [lyB,lyP,lyA,lyZ,lyS]
    refine tk ?_ 7 ?_ hHeld ?_;rotate_left
    ·rintro w ⟨_,_,_,_,_,_,_,_,_,_,_⟩;dsimp only [bare];go_simp<;>with_reducible rfl
    try simp only [lyB,lyP,lyA,lyZ,lyS]
    refine tk ?_ 8 ?_ hHeld ?_;rotate_left
    ·rintro w ⟨_,_,_,_,_,_,_,_,_,_,_⟩;dsimp only [bare];go_simp<;>with_reducible rfl
    try simp only [lyB,lyP,lyA,lyZ,lyS]
    refine tk ?_ 9 ?_ hHeld ?_;rotate_left
    ·rintro w ⟨_,_,_,_,_,_,_,_,_,_,_⟩;dsimp only [bare];go_simp<;>with_reducible rfl
    try simp only [lyB,lyP,lyA,lyZ,lyS]
    refine tk ?_ 10 ?_ hHeld ?_;rotate_left
    ·rintro w ⟨_,_,_,_,_,_,_,_,_,_,_⟩;dsimp only [bare];go_simp<;>with_reducible rfl
    try simp only [lyB,lyP,lyA,lyZ,lyS]
    have u1:=kwA.cell 1 _ rfl;have uf1:=kwA.frozen 1;refine wpAnyF_one 11 _ _ _ rfl (by kernel_rfl) (fun K hK=>?_);dsimp only [bare];go_simp;have ch1:=chg_cell w1.heap.size 1 (.int .i64 (x:Int)) wA;have zAB:=ch1.size;have kwB:=kwA.set 1 (.int .i64 (x:Int));have ksB:=ch1.blk ksA (by omega);have kxB:=ch1.blk kx (by omega);have belS:=(Below.refl w1.heap.size wA).setCell (p:=⟨w1.heap.size,1,none⟩) (Nat.le_refl _) (.int .i64 (x:Int))
    have cqB:(wA.setCell ⟨w1.heap.size,1,none⟩ (.int .i64 (x:Int))).cell? ⟨bb,off+q,none⟩=some (.int .i64 (x:Int)):=by rw [belS.cell (p:=⟨bb,off+q,none⟩) (by show bb<_;omega)];exact cqA
    have rlB:=ch1.cells rlA (fun k hk e=>by have:=(ltx k hk).1;omega);have belB:=belA.trans belS;generalize wA.setCell ⟨w1.heap.size,1,none⟩ (.int .i64 (x:Int))=wB at *;refine hK _ _ ⟨kxB.cell 0 _ rfl,kxB.cell 1 _ rfl,kxB.cell 2 _ rfl,kxB.cell 3 _ rfl,kxB.cell 4 _ rfl,kxB.cell 5 _ rfl,kxB.cell 6 _ rfl,kxB.cell 7 _ rfl,kxB.cell 8 _ rfl,kxB.cell 9 _ rfl,cqB⟩ (fun hHeld=>?_);clear hK K
    try simp only [lyB,lyP,lyA,lyZ,lyS]
    refine tk ?_ 12 ?_ hHeld ?_;rotate_left
    ·rintro w ⟨_,_,_,_,_,_,_,_,_,_,_⟩;dsimp only [bare];go_simp<;>with_reducible rfl
    try simp only [lyB,lyP,lyA,lyZ,lyS]
    refine tk ?_ 13 ?_ hHeld ?_;rotate_left
    ·rintro w ⟨_,_,_,_,_,_,_,_,_,_,_⟩;dsimp only [bare];go_simp<;>with_reducible rfl
    try simp only [lyB,lyP,lyA,lyZ,lyS]
    have v2:=kwB.cell 2 _ rfl;have vf2:=kwB.frozen 2;have v3:=kwB.cell 3 _ rfl;have vf3:=kwB.frozen 3;have v4:=kwB.cell 4 _ rfl;have vf4:=kwB.frozen 4;have v5:=kwB.cell 5 _ rfl;have vf5:=kwB.frozen 5;have v6:=kwB.cell 6 _ rfl;have vf6:=kwB.frozen 6;have v7:=kwB.cell 7 _ rfl;have vf7:=kwB.frozen 7;have v8:=kwB.cell 8 _ rfl;have vf8:=kwB.frozen 8;refine wpAnyF_one 14 _ _ _ rfl (by kernel_rfl) (fun K hK=>?_);dsimp only [bare];go_simp
    have ch2:=((((((((Chg.refl (fun k=>k=w1.heap.size) wB).setCell (p:=⟨w1.heap.size,2,none⟩) rfl (.int .i64 XH.term)).setCell (p:=⟨w1.heap.size,3,none⟩) rfl (.int .i64 XH.vote)).setCell (p:=⟨w1.heap.size,4,none⟩) rfl (.int .i64 XH.base)).setCell (p:=⟨w1.heap.size,5,none⟩) rfl (.int .i64 XH.bterm)).setCell (p:=⟨w1.heap.size,6,none⟩) rfl (.int .i64 XH.members)).setCell (p:=⟨w1.heap.size,7,none⟩) rfl (.string XH.snap)).setCell (p:=⟨w1.heap.size,8,none⟩) rfl (.slice px XH.log.length cx))
    have kwC:Blk (((((((wB.setCell ⟨w1.heap.size,2,none⟩ (.int .i64 XH.term)).setCell ⟨w1.heap.size,3,none⟩ (.int .i64 XH.vote)).setCell ⟨w1.heap.size,4,none⟩ (.int .i64 XH.base)).setCell ⟨w1.heap.size,5,none⟩ (.int .i64 XH.bterm)).setCell ⟨w1.heap.size,6,none⟩ (.int .i64 XH.members)).setCell ⟨w1.heap.size,7,none⟩ (.string XH.snap)).setCell ⟨w1.heap.size,8,none⟩ (.slice px XH.log.length cx)) w1.heap.size (walA g ⟨x,XH,false⟩ (.slice px XH.log.length cx)) 100:=(walA_put g ⟨0,H,false⟩ vl (.slice px XH.log.length cx) x XH) ▸ (((((((kwB.set 2 (.int .i64 XH.term)).set 3 (.int .i64 XH.vote)).set 4 (.int .i64 XH.base)).set 5 (.int .i64 XH.bterm)).set 6 (.int .i64 XH.members)).set 7 (.string XH.snap)).set 8 (.slice px XH.log.length cx))
    have ksC:=ch2.blk ksB (by omega);have kxC:=ch2.blk kxB (by omega);have belS2:=ch2.below (B:=w1.heap.size) (fun k hk=>by rw [hk];exact Nat.le_refl _) (by have:=belB.size;omega);have cqC:=(belS2.cell (p:=⟨bb,off+q,none⟩) (by show bb<_;omega)).trans cqB;have zBC:=ch2.size;have rlC:=ch2.cells rlB (fun k hk e=>by have:=(ltx k hk).1;omega);have belC:=belB.trans belS2;clear ch1 kwB kxB ksB belS cqB rlB belB
    generalize (((((((wB.setCell ⟨w1.heap.size,2,none⟩ (.int .i64 XH.term)).setCell ⟨w1.heap.size,3,none⟩ (.int .i64 XH.vote)).setCell ⟨w1.heap.size,4,none⟩ (.int .i64 XH.base)).setCell ⟨w1.heap.size,5,none⟩ (.int .i64 XH.bterm)).setCell ⟨w1.heap.size,6,none⟩ (.int .i64 XH.members)).setCell ⟨w1.heap.size,7,none⟩ (.string XH.snap)).setCell ⟨w1.heap.size,8,none⟩ (.slice px XH.log.length cx))=wC at *
    refine hK _ _ ⟨kxC.cell 0 _ rfl,kxC.cell 1 _ rfl,kxC.cell 2 _ rfl,kxC.cell 3 _ rfl,kxC.cell 4 _ rfl,kxC.cell 5 _ rfl,kxC.cell 6 _ rfl,kxC.cell 7 _ rfl,kxC.cell 8 _ rfl,kxC.cell 9 _ rfl,cqC⟩ (fun hHeld=>?_);clear hK K
    try simp only [lyB,lyP,lyA,lyZ,lyS]
    have s0:=ksC.cell 0 _ rfl;have sf0:=ksC.frozen 0;have s1:=ksC.cell 1 _ rfl;have sf1:=ksC.frozen 1;have s2:=ksC.cell 2 _ rfl;have sf2:=ksC.frozen 2;have s3:=ksC.cell 3 _ rfl;have sf3:=ksC.frozen 3;have s4:=ksC.cell 4 _ rfl;have sf4:=ksC.frozen 4;have s5:=ksC.cell 5 _ rfl;have sf5:=ksC.frozen 5;have s6:=ksC.cell 6 _ rfl;have sf6:=ksC.frozen 6;have s7:=ksC.cell 7 _ rfl;have sf7:=ksC.frozen 7;have s8:=ksC.cell 8 _ rfl;have sf8:=ksC.frozen 8;have s9:=ksC.cell 9 _ rfl;have sf9:=ksC.frozen 9
    refine wpAnyF_end (none) (Op.store 102 (Operand.tmp 6) (Operand.tmp 56)) 0 rfl (by kernel_rfl) (by kernel_rfl) (fun K hK=>?_);dsimp only [bare];go_simp
    have ch3:=(((((((((((Chg.refl (fun k=>k=(w1.heap.size+1)) wC).setCell (p:=⟨(w1.heap.size+1),0,none⟩) rfl (.int .i64 XH.term)).setCell (p:=⟨(w1.heap.size+1),1,none⟩) rfl (.int .i64 XH.vote)).setCell (p:=⟨(w1.heap.size+1),2,none⟩) rfl (.int .i64 XH.base)).setCell (p:=⟨(w1.heap.size+1),3,none⟩) rfl (.int .i64 XH.bterm)).setCell (p:=⟨(w1.heap.size+1),4,none⟩) rfl (.int .i64 XH.members)).setCell (p:=⟨(w1.heap.size+1),5,none⟩) rfl (.string XH.snap)).setCell (p:=⟨(w1.heap.size+1),6,none⟩) rfl (.slice px XH.log.length cx)).setCell (p:=⟨(w1.heap.size+1),7,none⟩) rfl (.bool XB)).setCell (p:=⟨(w1.heap.size+1),8,none⟩) rfl (.bool true)).setCell (p:=⟨(w1.heap.size+1),9,none⟩) rfl (.int .i64 (XZ:Int)))
    have ksD:Blk ((((((((((wC.setCell ⟨(w1.heap.size+1),0,none⟩ (.int .i64 XH.term)).setCell ⟨(w1.heap.size+1),1,none⟩ (.int .i64 XH.vote)).setCell ⟨(w1.heap.size+1),2,none⟩ (.int .i64 XH.base)).setCell ⟨(w1.heap.size+1),3,none⟩ (.int .i64 XH.bterm)).setCell ⟨(w1.heap.size+1),4,none⟩ (.int .i64 XH.members)).setCell ⟨(w1.heap.size+1),5,none⟩ (.string XH.snap)).setCell ⟨(w1.heap.size+1),6,none⟩ (.slice px XH.log.length cx)).setCell ⟨(w1.heap.size+1),7,none⟩ (.bool XB)).setCell ⟨(w1.heap.size+1),8,none⟩ (.bool true)).setCell ⟨(w1.heap.size+1),9,none⟩ (.int .i64 (XZ:Int))) (w1.heap.size+1) (segA ⟨XH,XB,true,XZ⟩ (.slice px XH.log.length cx)) 102:=(segA_put S vs (.slice px XH.log.length cx) XH XB XZ) ▸ ((((((((((ksC.set 0 (.int .i64 XH.term)).set 1 (.int .i64 XH.vote)).set 2 (.int .i64 XH.base)).set 3 (.int .i64 XH.bterm)).set 4 (.int .i64 XH.members)).set 5 (.string XH.snap)).set 6 (.slice px XH.log.length cx)).set 7 (.bool XB)).set 8 (.bool true)).set 9 (.int .i64 (XZ:Int)))
    have kwD:=ch3.blk kwC (by omega);have belS3:=ch3.below (B:=w1.heap.size) (fun k hk=>by rw [hk];omega) (by have:=belC.size;omega);have rlD:=ch3.cells rlC (fun k hk e=>by have:=(ltx k hk).1;omega);have belD:=belC.trans belS3;have szD:=belS3.size
    have fin:OpSt d w1 W ((((((((((wC.setCell ⟨(w1.heap.size+1),0,none⟩ (.int .i64 XH.term)).setCell ⟨(w1.heap.size+1),1,none⟩ (.int .i64 XH.vote)).setCell ⟨(w1.heap.size+1),2,none⟩ (.int .i64 XH.base)).setCell ⟨(w1.heap.size+1),3,none⟩ (.int .i64 XH.bterm)).setCell ⟨(w1.heap.size+1),4,none⟩ (.int .i64 XH.members)).setCell ⟨(w1.heap.size+1),5,none⟩ (.string XH.snap)).setCell ⟨(w1.heap.size+1),6,none⟩ (.slice px XH.log.length cx)).setCell ⟨(w1.heap.size+1),7,none⟩ (.bool XB)).setCell ⟨(w1.heap.size+1),8,none⟩ (.bool true)).setCell ⟨(w1.heap.size+1),9,none⟩ (.int .i64 (XZ:Int))) g L q x ⟨XH,XB,true,XZ⟩ XH (.slice px XH.log.length cx) (.slice px XH.log.length cx):=⟨kwD,ksD,rlD,fun k hk=>⟨by have:=(ltx k hk).1;have:=b23.size;have:=ksL;omega,by have:=(ltx k hk).2;omega⟩,hfx,by omega,belD,.inr ⟨Hx1.out,Hpq.out,rfl⟩⟩
    have Fin:=Lib.hid fin;clear fin ch2 ch3 kwC ksC kxC belS2 cqC rlC belC ksD kwD belS3 rlD belD hHeld szD;clear v2 vf2 v3 vf3 v4 vf4 v5 vf5 v6 vf6 v7 vf7 v8 vf8 s0 sf0 s1 sf1 s2 sf2 s3 sf3 s4 sf4 s5 sf5 s6 sf6 s7 sf7 s8 sf8 s9 sf9 u1 uf1
    generalize ((((((((((wC.setCell ⟨(w1.heap.size+1),0,none⟩ (.int .i64 XH.term)).setCell ⟨(w1.heap.size+1),1,none⟩ (.int .i64 XH.vote)).setCell ⟨(w1.heap.size+1),2,none⟩ (.int .i64 XH.base)).setCell ⟨(w1.heap.size+1),3,none⟩ (.int .i64 XH.bterm)).setCell ⟨(w1.heap.size+1),4,none⟩ (.int .i64 XH.members)).setCell ⟨(w1.heap.size+1),5,none⟩ (.string XH.snap)).setCell ⟨(w1.heap.size+1),6,none⟩ (.slice px XH.log.length cx)).setCell ⟨(w1.heap.size+1),7,none⟩ (.bool XB)).setCell ⟨(w1.heap.size+1),8,none⟩ (.bool true)).setCell ⟨(w1.heap.size+1),9,none⟩ (.int .i64 (XZ:Int)))=wD at *;refine hK _ _ ?_
    clear hK K
    try simp only [lyB,lyP,lyA,lyZ,lyS]
    go_wp2_with fail
    go_roundw
    case rel=>exact ⟨q,x,⟨XH,XB,true,XZ⟩,XH,.slice px XH.log.length cx,.slice px XH.log.length cx,by omega,by go_num,Fin.out.drew⟩
    case measure=>simp [intOf]
  ·have hpN:pickN d=(N,S)∧openH d=H:=by
    rcases hst.st with ⟨h1,h2,h3,h4⟩ | ⟨h1,h2,h3⟩
    ·have hj0:j=0:=by
      rcases Nat.eq_zero_or_pos j with h | h
      ·exact h
      ·exact absurd ⟨h,h1⟩ hgo
     subst hj0;have e:pickN d=(N,S):=by rw [Hpn.out, ←h4,h1,h2];rfl
     exact ⟨e,by rw [Hoh.out,e,h3];exact if_pos h1⟩
    ·have e:pickN d=(N,S):=by rw [Hpn.out,h2];rfl
     exact ⟨e,by rw [Hoh.out,e,h3];exact if_neg (by show ¬ N=0;omega)⟩
   obtain ⟨hp1,hp2⟩:=hpN;obtain ⟨E,d',hcl⟩:∃ E d',cleanD d L N S=(E,d'):=⟨_,_,rfl⟩;have hcw:cleanW d=(E,d'):=by rw [Hcw.out,hp1];exact hcl
   have hopn:openW d=if E=0 then some ⟨N,H,false⟩ else none:=by rw [Hop.out,hcw,hp1,hp2]
   have Hcw2:=Lib.hid hcw;have Hopn:=Lib.hid hopn;have hkw:=hst.kw;have hks:=hst.ks;have hkl:=hks.lt;have hX1:∀ k,(fun k=>X k∨(w.heap.size≤k∧k<wr.heap.size)) k→X k∨(w.heap.size≤k∧k<wr.heap.size):=fun _ h=>h;have hd1:DwS w0 (fun k=>X k∨(w.heap.size≤k∧k<wr.heap.size)) g d wr:=hd.more b0r hX1;have hgw1:w.heap.size≤w1.heap.size:=hs1;have hwv:WalV wr (fun k=>X k∨(w.heap.size≤k∧k<wr.heap.size)) g w1.heap.size vl ⟨N,H,false⟩:=⟨hkw,hst.rl,.inr ⟨hs1,by omega⟩,fun k hk=>.inr ⟨by have:=(hst.ol k hk).1;omega,(hst.ol k hk).2⟩,fun e=>by have:=(hst.ol _ e).1;omega,hst.few,hst.num⟩
   have hb0r:Below w0.heap.size w0 wr:=hb0.trans (b0r.mono hs0);have rLr:=rL.ext bwr;have hNle:=hst.num;have hux:∀ k,(Value.slice pl L.length cl).ownBlock=some k→k<w0.heap.size∨(fun k=>X k∨(w.heap.size≤k∧k<wr.heap.size)) k:=fun k hk=>.inr (.inr ⟨(ltL k hk).1,by have:=(ltL k hk).2;omega⟩)
   have gs0:∀ z,Chg (Gx w0 (fun k=>X k∨(w.heap.size≤k∧k<wr.heap.size))) wr z→(fun w':World=>w'.cell? ⟨w1.heap.size+1,0,none⟩=some (.int .i64 S.h.term)∧w'.cell? ⟨w1.heap.size+1,1,none⟩=some (.int .i64 S.h.vote)∧w'.cell? ⟨w1.heap.size+1,2,none⟩=some (.int .i64 S.h.base)∧w'.cell? ⟨w1.heap.size+1,3,none⟩=some (.int .i64 S.h.bterm)∧w'.cell? ⟨w1.heap.size+1,4,none⟩=some (.int .i64 S.h.members)∧w'.cell? ⟨w1.heap.size+1,5,none⟩=some (.string S.h.snap)∧w'.cell? ⟨w1.heap.size+1,6,none⟩=some vs∧w'.cell? ⟨w1.heap.size+1,7,none⟩=some (.bool S.begun)∧w'.cell? ⟨w1.heap.size+1,8,none⟩=some (.bool S.whole)∧w'.cell? ⟨w1.heap.size+1,9,none⟩=some (.int .i64 (S.size:Int))∧w'.cell? ⟨w1.heap.size,1,none⟩=some (.int .i64 (N:Int))) z:=fun z hz=>⟨(hz.blk hks (fun hG=>hG.2 (.inr ⟨by omega,hkl⟩))).cell 0 _ rfl,(hz.blk hks (fun hG=>hG.2 (.inr ⟨by omega,hkl⟩))).cell 1 _ rfl,(hz.blk hks (fun hG=>hG.2 (.inr ⟨by omega,hkl⟩))).cell 2 _ rfl,(hz.blk hks (fun hG=>hG.2 (.inr ⟨by omega,hkl⟩))).cell 3 _ rfl,(hz.blk hks (fun hG=>hG.2 (.inr ⟨by omega,hkl⟩))).cell 4 _ rfl,(hz.blk hks (fun hG=>hG.2 (.inr ⟨by omega,hkl⟩))).cell 5 _ rfl,(hz.blk hks (fun hG=>hG.2 (.inr ⟨by omega,hkl⟩))).cell 6 _ rfl,(hz.blk hks (fun hG=>hG.2 (.inr ⟨by omega,hkl⟩))).cell 7 _ rfl,(hz.blk hks (fun hG=>hG.2 (.inr ⟨by omega,hkl⟩))).cell 8 _ rfl,(hz.blk hks (fun hG=>hG.2 (.inr ⟨by omega,hkl⟩))).cell 9 _ rfl,(hz.blk hkw (fun hG=>hG.2 (.inr ⟨by omega,by omega⟩))).cell 1 _ rfl⟩
   have Hwv:=Lib.hid (And.intro hwv hd1);have Hvol:Hid (∀ k,vl.ownBlock=some k→w.heap.size≤k):=fun k hk=>by have:=(hst.ol k hk).1;omega
   have hjN:(j=0)∨(0<j∧¬ N=0):=by
    rcases Nat.eq_zero_or_pos j with h | h
    ·exact .inl h
    ·exact .inr ⟨h,fun e=>hgo ⟨h,e⟩⟩
   have hcc:=fun (z:World) (hz:Below wr.heap.size wr z)=>walClean T0 (hd1.ext hz) (hb0r.trans (hz.mono hb0r.size)) pi L hlen (by omega) (.slice pl L.length cl) (rLr.ext hz) hux (fun x hx=>(hgood x hx).2) N _ rfl hNle S vs hcl;clear hp1 hp2 hcl hcw hopn hkw hks hst hwv hd1 rLr hgood ltL rL hgo kA kB
   rcases hjN with rfl | ⟨hj0,hN0⟩
   ·go_wp2_with fail
    refine wp_region_F (n:=8) (S:=fun w':World=>w'.cell? ⟨w1.heap.size+1,0,none⟩=some (.int .i64 S.h.term)∧w'.cell? ⟨w1.heap.size+1,1,none⟩=some (.int .i64 S.h.vote)∧w'.cell? ⟨w1.heap.size+1,2,none⟩=some (.int .i64 S.h.base)∧w'.cell? ⟨w1.heap.size+1,3,none⟩=some (.int .i64 S.h.bterm)∧w'.cell? ⟨w1.heap.size+1,4,none⟩=some (.int .i64 S.h.members)∧w'.cell? ⟨w1.heap.size+1,5,none⟩=some (.string S.h.snap)∧w'.cell? ⟨w1.heap.size+1,6,none⟩=some vs∧w'.cell? ⟨w1.heap.size+1,7,none⟩=some (.bool S.begun)∧w'.cell? ⟨w1.heap.size+1,8,none⟩=some (.bool S.whole)∧w'.cell? ⟨w1.heap.size+1,9,none⟩=some (.int .i64 (S.size:Int))∧w'.cell? ⟨w1.heap.size,1,none⟩=some (.int .i64 (N:Int))) (by kernel_rfl) ?_
    have hHeld:(fun w':World=>w'.cell? ⟨w1.heap.size+1,0,none⟩=some (.int .i64 S.h.term)∧w'.cell? ⟨w1.heap.size+1,1,none⟩=some (.int .i64 S.h.vote)∧w'.cell? ⟨w1.heap.size+1,2,none⟩=some (.int .i64 S.h.base)∧w'.cell? ⟨w1.heap.size+1,3,none⟩=some (.int .i64 S.h.bterm)∧w'.cell? ⟨w1.heap.size+1,4,none⟩=some (.int .i64 S.h.members)∧w'.cell? ⟨w1.heap.size+1,5,none⟩=some (.string S.h.snap)∧w'.cell? ⟨w1.heap.size+1,6,none⟩=some vs∧w'.cell? ⟨w1.heap.size+1,7,none⟩=some (.bool S.begun)∧w'.cell? ⟨w1.heap.size+1,8,none⟩=some (.bool S.whole)∧w'.cell? ⟨w1.heap.size+1,9,none⟩=some (.int .i64 (S.size:Int))∧w'.cell? ⟨w1.heap.size,1,none⟩=some (.int .i64 (N:Int))) wr.drew:=gs0 wr.drew (.of_below (below_drew _ _))
    refine tk ?_ 0 ?_ hHeld ?_;rotate_left
    ·rintro w ⟨_,_,_,_,_,_,_,_,_,_,_⟩;dsimp only [bare];go_simp<;>with_reducible rfl
    try simp only [lyB,lyP,lyA,lyZ,lyS]
    refine tk ?_ 1 ?_ hHeld ?_;rotate_left
    ·rintro w ⟨_,_,_,_,_,_,_,_,_,_,_⟩;dsimp only [bare];go_simp<;>with_reducible rfl
    try simp only [lyB,lyP,lyA,lyZ,lyS]
    refine tk ?_ 2 ?_ hHeld ?_;rotate_left
    ·rintro w ⟨_,_,_,_,_,_,_,_,_,_,_⟩;dsimp only [bare];go_simp<;>with_reducible rfl
    try simp only [lyB,lyP,lyA,lyZ,lyS]
    refine tk ?_ 3 ?_ hHeld ?_;rotate_left
    ·rintro w ⟨_,_,_,_,_,_,_,_,_,_,_⟩;dsimp only [bare];go_simp<;>with_reducible rfl
    try simp only [lyB,lyP,lyA,lyZ,lyS]
    refine tk ?_ 4 ?_ hHeld ?_;rotate_left
    ·rintro w ⟨_,_,_,_,_,_,_,_,_,_,_⟩;dsimp only [bare];go_simp<;>with_reducible rfl
    try simp only [lyB,lyP,lyA,lyZ,lyS]
    refine tk ?_ 5 ?_ hHeld ?_;rotate_left
    ·rintro w ⟨_,_,_,_,_,_,_,_,_,_,_⟩;dsimp only [bare];go_simp<;>with_reducible rfl
    try simp only [lyB,lyP,lyA,lyZ,lyS]
    refine tk ?_ 6 ?_ hHeld ?_;rotate_left
    ·rintro w ⟨_,_,_,_,_,_,_,_,_,_,_⟩;dsimp only [bare];go_simp<;>with_reducible rfl
    try simp only [lyB,lyP,lyA,lyZ,lyS]
    refine wpAnyF_one 7 _ _ _ rfl (by kernel_rfl) (fun K hK=>?_);dsimp only [bare];go_simp;refine (hcc wr.drew (below_drew _ _)).mono ?_;rintro e wC ⟨rfl,hdC,chC⟩;dsimp only;have chr:Chg (Gx w0 (fun k=>X k∨(w.heap.size≤k∧k<wr.heap.size))) wr wC:=(Chg.of_below (below_drew _ _)).step chC;refine hK _ _ (gs0 wC chr) (fun hHeld=>?_);clear hK K
    try simp only [lyB,lyP,lyA,lyZ,lyS]
    refine wpAnyF_end (some 11) (Op.assign (Operand.tmp 68)) 42 rfl (by kernel_rfl) (by kernel_rfl) (fun K hK=>?_);dsimp only [bare];go_simp;refine hK _ _ ?_;clear hK K
    try simp only [lyB,lyP,lyA,lyZ,lyS]
    have chA:Chg (Gx w0 X) w wC:=(Chg.of_below b0r).step (chr.mono fun k _ hk=>⟨hk.1,fun hX=>hk.2 (.inl hX)⟩);have hdX:=hdC.mono (Y:=X) (fun k hk=>.inl hk);have hwC:=Hwv.out.1.keep chr;clear hcc gs0 hux hHeld
    by_cases hE:E=0
    ·subst hE;have hop1:openW d=some ⟨N,H,false⟩:=Hopn.out;have Hop1:=Lib.hid hop1;clear hop1;go_wp2_with fail
     refine bodyPost_ret (v:=.tuple #[.pointer (some ⟨w1.heap.size,0,none⟩),.int .i64 0]) (by simp [results,Tryz.results19,go_sem]) rfl ?_;rw [Hcw2.out,Hop1.out];exact ⟨⟨w1.heap.size,vl,_,rfl,hgw1,fun k hk=>.inl hk,fun k hk=>hk.imp id (fun e=>e.1),hdC,hwC,Hvol.out⟩,hdX,chA⟩
    ·have hne:(E !=0)=true:=by simpa using hE
     have hop1:openW d=none:=Hopn.out.trans (if_neg hE);have Hop1:=Lib.hid hop1;have HE:=Lib.hid hE;clear hop1 hE;go_wp2_with fail
     refine bodyPost_ret (v:=.tuple #[.pointer none,.int .i64 E]) (by simp [results,Tryz.results19,go_sem]) rfl ?_;rw [Hcw2.out,Hop1.out];exact ⟨⟨E,HE.out,by rw [Hcw2.out],rfl⟩,hdX,chA⟩
   ·have hNz:((N:Int) == 0)=false:=by simp;omega
    have hj1:(0:Int)≤(j:Int) - 1:=by omega
    clear hj0 hN0;go_wp2_with fail
    try (go_quiet (fail))
    try (go_wp2_with fail)
    refine wp_region_F (n:=8) (S:=fun w':World=>w'.cell? ⟨w1.heap.size+1,0,none⟩=some (.int .i64 S.h.term)∧w'.cell? ⟨w1.heap.size+1,1,none⟩=some (.int .i64 S.h.vote)∧w'.cell? ⟨w1.heap.size+1,2,none⟩=some (.int .i64 S.h.base)∧w'.cell? ⟨w1.heap.size+1,3,none⟩=some (.int .i64 S.h.bterm)∧w'.cell? ⟨w1.heap.size+1,4,none⟩=some (.int .i64 S.h.members)∧w'.cell? ⟨w1.heap.size+1,5,none⟩=some (.string S.h.snap)∧w'.cell? ⟨w1.heap.size+1,6,none⟩=some vs∧w'.cell? ⟨w1.heap.size+1,7,none⟩=some (.bool S.begun)∧w'.cell? ⟨w1.heap.size+1,8,none⟩=some (.bool S.whole)∧w'.cell? ⟨w1.heap.size+1,9,none⟩=some (.int .i64 (S.size:Int))∧w'.cell? ⟨w1.heap.size,1,none⟩=some (.int .i64 (N:Int))) (by kernel_rfl) ?_
    have hHeld:(fun w':World=>w'.cell? ⟨w1.heap.size+1,0,none⟩=some (.int .i64 S.h.term)∧w'.cell? ⟨w1.heap.size+1,1,none⟩=some (.int .i64 S.h.vote)∧w'.cell? ⟨w1.heap.size+1,2,none⟩=some (.int .i64 S.h.base)∧w'.cell? ⟨w1.heap.size+1,3,none⟩=some (.int .i64 S.h.bterm)∧w'.cell? ⟨w1.heap.size+1,4,none⟩=some (.int .i64 S.h.members)∧w'.cell? ⟨w1.heap.size+1,5,none⟩=some (.string S.h.snap)∧w'.cell? ⟨w1.heap.size+1,6,none⟩=some vs∧w'.cell? ⟨w1.heap.size+1,7,none⟩=some (.bool S.begun)∧w'.cell? ⟨w1.heap.size+1,8,none⟩=some (.bool S.whole)∧w'.cell? ⟨w1.heap.size+1,9,none⟩=some (.int .i64 (S.size:Int))∧w'.cell? ⟨w1.heap.size,1,none⟩=some (.int .i64 (N:Int))) wr.drew:=gs0 wr.drew (.of_below (below_drew _ _))
    refine tk ?_ 0 ?_ hHeld ?_;rotate_left
    ·rintro w ⟨_,_,_,_,_,_,_,_,_,_,_⟩;dsimp only [bare];go_simp<;>with_reducible rfl
    try simp only [lyB,lyP,lyA,lyZ,lyS]
    refine tk ?_ 1 ?_ hHeld ?_;rotate_left
    ·rintro w ⟨_,_,_,_,_,_,_,_,_,_,_⟩;dsimp only [bare];go_simp<;>with_reducible rfl
    try simp only [lyB,lyP,lyA,lyZ,lyS]
    refine tk ?_ 2 ?_ hHeld ?_;rotate_left
    ·rintro w ⟨_,_,_,_,_,_,_,_,_,_,_⟩;dsimp only [bare];go_simp<;>with_reducible rfl
    try simp only [lyB,lyP,lyA,lyZ,lyS]
    refine tk ?_ 3 ?_ hHeld ?_;rotate_left
    ·rintro w ⟨_,_,_,_,_,_,_,_,_,_,_⟩;dsimp only [bare];go_simp<;>with_reducible rfl
    try simp only [lyB,lyP,lyA,lyZ,lyS]
    refine tk ?_ 4 ?_ hHeld ?_;rotate_left
    ·rintro w ⟨_,_,_,_,_,_,_,_,_,_,_⟩;dsimp only [bare];go_simp<;>with_reducible rfl
    try simp only [lyB,lyP,lyA,lyZ,lyS]
    refine tk ?_ 5 ?_ hHeld ?_;rotate_left
    ·rintro w ⟨_,_,_,_,_,_,_,_,_,_,_⟩;dsimp only [bare];go_simp<;>with_reducible rfl
    try simp only [lyB,lyP,lyA,lyZ,lyS]
    refine tk ?_ 6 ?_ hHeld ?_;rotate_left
    ·rintro w ⟨_,_,_,_,_,_,_,_,_,_,_⟩;dsimp only [bare];go_simp<;>with_reducible rfl
    try simp only [lyB,lyP,lyA,lyZ,lyS]
    refine wpAnyF_one 7 _ _ _ rfl (by kernel_rfl) (fun K hK=>?_);dsimp only [bare];go_simp;refine (hcc wr.drew (below_drew _ _)).mono ?_;rintro e wC ⟨rfl,hdC,chC⟩;dsimp only;have chr:Chg (Gx w0 (fun k=>X k∨(w.heap.size≤k∧k<wr.heap.size))) wr wC:=(Chg.of_below (below_drew _ _)).step chC;refine hK _ _ (gs0 wC chr) (fun hHeld=>?_);clear hK K
    try simp only [lyB,lyP,lyA,lyZ,lyS]
    refine wpAnyF_end (some 11) (Op.assign (Operand.tmp 68)) 42 rfl (by kernel_rfl) (by kernel_rfl) (fun K hK=>?_);dsimp only [bare];go_simp;refine hK _ _ ?_;clear hK K
    try simp only [lyB,lyP,lyA,lyZ,lyS]
    have chA:Chg (Gx w0 X) w wC:=(Chg.of_below b0r).step (chr.mono fun k _ hk=>⟨hk.1,fun hX=>hk.2 (.inl hX)⟩);have hdX:=hdC.mono (Y:=X) (fun k hk=>.inl hk);have hwC:=Hwv.out.1.keep chr;clear hcc gs0 hux hHeld
    by_cases hE:E=0
    ·subst hE;have hop1:openW d=some ⟨N,H,false⟩:=Hopn.out;have Hop1:=Lib.hid hop1;clear hop1;go_wp2_with fail
     refine bodyPost_ret (v:=.tuple #[.pointer (some ⟨w1.heap.size,0,none⟩),.int .i64 0]) (by simp [results,Tryz.results19,go_sem]) rfl ?_;rw [Hcw2.out,Hop1.out];exact ⟨⟨w1.heap.size,vl,_,rfl,hgw1,fun k hk=>.inl hk,fun k hk=>hk.imp id (fun e=>e.1),hdC,hwC,Hvol.out⟩,hdX,chA⟩
    ·have hne:(E !=0)=true:=by simpa using hE
     have hop1:openW d=none:=Hopn.out.trans (if_neg hE);have Hop1:=Lib.hid hop1;have HE:=Lib.hid hE;clear hop1 hE;go_wp2_with fail
     refine bodyPost_ret (v:=.tuple #[.pointer none,.int .i64 E]) (by simp [results,Tryz.results19,go_sem]) rfl ?_;rw [Hcw2.out,Hop1.out];exact ⟨⟨E,HE.out,by rw [Hcw2.out],rfl⟩,hdX,chA⟩
end
section
open Go Go.RowKit Go.PlainAid BigFrame
attribute [local go_sem] After.same
theorem WalV.only2 {w w':World} {X:Nat→Prop} {g gw:Nat} {v:Value} {ws:Wl} {G:Nat→Prop} (h:WalV w X g gw v ws) (hc:Chg G w w') (h1:¬ G gw) (h2:∀ k,v.ownBlock=some k→¬ G k):WalV w' X g gw v ws :=
 ⟨hc.blk h.blk h1,hc.cells h.log h2,h.inX,h.lX,h.off,h.few,h.num⟩
structure StoV (w:World) (X:Nat→Prop) (g gs gw:Nat) (v:Value) (st:Sto):Prop where
 blk:Blk w gs #[.pointer (some ⟨g,0,none⟩),.pointer (some ⟨gw,0,none⟩),.string st.snap,.bool st.down] 111
 wv:WalV w X g gw v st.w
 inX:X gs
 ne:gs≠gw
 off:v.ownBlock≠some gs
section
variable {w0 w w':World} {X Y:Nat→Prop} {g gs gw:Nat} {v:Value} {st:Sto}
theorem StoV.c0 (h:StoV w X g gs gw v st):w.cell? ⟨gs,0,none⟩=some (.pointer (some ⟨g,0,none⟩)):=h.blk.cell 0 _ rfl
theorem StoV.c1 (h:StoV w X g gs gw v st):w.cell? ⟨gs,1,none⟩=some (.pointer (some ⟨gw,0,none⟩)):=h.blk.cell 1 _ rfl
theorem StoV.c2 (h:StoV w X g gs gw v st):w.cell? ⟨gs,2,none⟩=some (.string st.snap):=h.blk.cell 2 _ rfl
theorem StoV.c3 (h:StoV w X g gs gw v st):w.cell? ⟨gs,3,none⟩=some (.bool st.down):=h.blk.cell 3 _ rfl
theorem StoV.chg {G:Nat→Prop} (h:StoV w X g gs gw v st) (hc:Chg G w w') (hG:∀ k,X k→¬ G k):StoV w' X g gs gw v st:=⟨hc.blk h.blk (hG _ h.inX),h.wv.chg hc hG,h.inX,h.ne,h.off⟩
theorem StoV.keep (h:StoV w X g gs gw v st) (hc:Chg (Gx w0 X) w w'):StoV w' X g gs gw v st:=h.chg hc fun k hk hG=>hG.2 hk
theorem StoV.ext (h:StoV w X g gs gw v st) (hb:Below w.heap.size w w'):StoV w' X g gs gw v st:=h.chg (G:=fun _=>False) (.of_below hb) fun _ _=>id
theorem StoV.mono (h:StoV w X g gs gw v st) (hy:∀ k,X k→Y k):StoV w Y g gs gw v st:=⟨h.blk,h.wv.mono hy,hy _ h.inX,h.ne,h.off⟩
end
theorem stoHard {w:World} {X:Nat→Prop} {g gs gw:Nat} {v:Value} {st:Sto} (h:StoV w X g gs gw v st) :
 Calls Tryz.prog 33 #[.pointer (some ⟨gs,0,none⟩)] w fun e w'=>∃ v',e=.returned (hrdA (hardP st) v')∧OwnR etyE w' w.heap.size 73 v' st.w.h.log∧Below w.heap.size w w':=by
 have hgs:=h.blk.lt;have ca:=below_alloc w (.cells #[.int .i64 0,.int .i64 0,.int .i64 0,.int .i64 0,.int .i64 0,.string ⟨#[]⟩,.slice none 0 0] 24);have kz:=Blk.new w #[.int .i64 0,.int .i64 0,.int .i64 0,.int .i64 0,.int .i64 0,.string ⟨#[]⟩,.slice none 0 0] 24;have h2:=h.ext ca;have q1:=h2.c1
 have hcall:Calls Tryz.prog 21 #[.pointer (some ⟨gw,0,none⟩)] (w.alloc (.cells #[.int .i64 0,.int .i64 0,.int .i64 0,.int .i64 0,.int .i64 0,.string ⟨#[]⟩,.slice none 0 0] 24)) fun e w'=>∃ v',e=.returned (.agg #[.int .i64 st.w.h.term,.int .i64 st.w.h.vote,.int .i64 st.w.h.base,.int .i64 st.w.h.bterm,.int .i64 st.w.h.members,.string ⟨#[]⟩,v'])∧OwnR etyE w' (w.alloc (.cells #[.int .i64 0,.int .i64 0,.int .i64 0,.int .i64 0,.int .i64 0,.string ⟨#[]⟩,.slice none 0 0] 24)).heap.size 73 v' st.w.h.log∧Below (w.alloc (.cells #[.int .i64 0,.int .i64 0,.int .i64 0,.int .i64 0,.int .i64 0,.string ⟨#[]⟩,.slice none 0 0] 24)).heap.size (w.alloc (.cells #[.int .i64 0,.int .i64 0,.int .i64 0,.int .i64 0,.int .i64 0,.string ⟨#[]⟩,.slice none 0 0] 24)) w':=walHard h2.wv
 go_enter Tryz.func33,Tryz.ntmps33
 go_wp2_with fail
 refine hcall.mono ?_;rintro e w3 ⟨v3,rfl,own3,b3⟩;clear hcall q1;obtain ⟨p3,c3,rfl⟩:=own3.rd.shape;have hsz1:(w.alloc (.cells #[.int .i64 0,.int .i64 0,.int .i64 0,.int .i64 0,.int .i64 0,.string ⟨#[]⟩,.slice none 0 0] 24)).heap.size=w.heap.size+1:=by simp
 have hs3:=b3.size;have b03:=ca.trans (b3.mono (by omega));have cb:=below_alloc w3 (.cells #[.int .i64 st.w.h.term,.int .i64 st.w.h.vote,.int .i64 st.w.h.base,.int .i64 st.w.h.bterm,.int .i64 st.w.h.members,.string ⟨#[]⟩,.slice p3 st.w.h.log.length c3] 24);have kB:=Blk.new w3 #[.int .i64 st.w.h.term,.int .i64 st.w.h.vote,.int .i64 st.w.h.base,.int .i64 st.w.h.bterm,.int .i64 st.w.h.members,.string ⟨#[]⟩,.slice p3 st.w.h.log.length c3] 24;have kzB:=(kz.ext b3).ext cb;have h3:=(h2.ext b3).ext cb;have ownB:=(own3.ext cb).base (show w.heap.size≤_ by omega);have b0B:=b03.trans (cb.mono (by omega))
 have hlo:∀ k,(Value.slice p3 st.w.h.log.length c3).ownBlock=some k→w.heap.size+1≤k∧k<w3.heap.size:=fun k hk=>by have:=own3.lt k hk;omega
 clear own3 h2 kz ca;go_upto_region 2 with (fail)
 generalize w3.alloc (.cells #[.int .i64 st.w.h.term,.int .i64 st.w.h.vote,.int .i64 st.w.h.base,.int .i64 st.w.h.bterm,.int .i64 st.w.h.members,.string ⟨#[]⟩,.slice p3 st.w.h.log.length c3] 24)=wB at *;have q2:=h3.c2;have y5:=kB.cell 5 _ rfl;have f5:=kB.frozen 5;go_upto_region 3 with (fail)
 have cC:=chg_cell w3.heap.size 5 (.string st.snap) wB;have kC:=kB.set 5 (.string st.snap);have kzC:=cC.blk kzB (by omega);have ownC:=cC.ownR ownB (fun k hk e=>by have:=hlo k hk;omega);have b0C:=b0B.trans (cC.below (B:=w.heap.size) (fun k hk=>by rw [hk];omega) b0B.size);clear cC kB kzB ownB h3 q2 y5 f5 cb b0B;generalize wB.setCell ⟨w3.heap.size,5,none⟩ (.string st.snap)=wC at *;have y0:=kC.cell 0 _ rfl;have y1:=kC.cell 1 _ rfl;have y2:=kC.cell 2 _ rfl;have y3:=kC.cell 3 _ rfl;have y4:=kC.cell 4 _ rfl;have y5:=kC.cell 5 _ rfl;have y6:=kC.cell 6 _ rfl;have z0:=kzC.frozen 0;have z1:=kzC.frozen 1
 have z2:=kzC.frozen 2;have z3:=kzC.frozen 3;have z4:=kzC.frozen 4;have z5:=kzC.frozen 5;have z6:=kzC.frozen 6;have x0:=kzC.cell 0 _ rfl;have x1:=kzC.cell 1 _ rfl;have x2:=kzC.cell 2 _ rfl;have x3:=kzC.cell 3 _ rfl;have x4:=kzC.cell 4 _ rfl;have x5:=kzC.cell 5 _ rfl;have x6:=kzC.cell 6 _ rfl;go_wp2_with fail
 have hc:=((((((((Chg.refl (fun k=>k=w.heap.size) wC).setCell (p:=⟨w.heap.size,0,none⟩) rfl (.int .i64 st.w.h.term)).setCell (p:=⟨w.heap.size,1,none⟩) rfl (.int .i64 st.w.h.vote)).setCell (p:=⟨w.heap.size,2,none⟩) rfl (.int .i64 st.w.h.base)).setCell (p:=⟨w.heap.size,3,none⟩) rfl (.int .i64 st.w.h.bterm)).setCell (p:=⟨w.heap.size,4,none⟩) rfl (.int .i64 st.w.h.members)).setCell (p:=⟨w.heap.size,5,none⟩) rfl (.string st.snap)).setCell (p:=⟨w.heap.size,6,none⟩) rfl (.slice p3 st.w.h.log.length c3))
 refine bodyPost_ret (v:=hrdA (hardP st) (.slice p3 st.w.h.log.length c3)) (by simp [results,Tryz.results33,go_sem, *, hardP]) rfl ?_;exact ⟨_,rfl,hc.ownR ownC (fun k hk e=>by have:=hlo k hk;omega),b0C.trans (hc.below (B:=w.heap.size) (fun k hk=>by rw [hk];exact Nat.le_refl _) b0C.size)⟩
end
end Go.Proofs.YtgpgcnmnfnnkjaaGreatDoor
