import Derived.Test.YtgpgcnmnfnnkjaaGreatDoorGStorePlays28
import Derived.Test.YtgpgcnmnfnnkjaaGreatDoorGStorePlays36
import Derived.Test.YtgpgcnmnfnnkjaaGreatDoorGStorePlays25
set_option linter.unusedVariables false
set_option linter.unusedSimpArgs false
set_option maxRecDepth 100000
set_option maxHeartbeats 16000000
namespace Go.Proofs.YtgpgcnmnfnnkjaaGreatDoor
section
open Go Go.RowKit Go.PlainAid
theorem right_base {g:Hrd} (hr:rightH g=true):bareH g=true∧0≤g.base∧g.base≤1099511627776∧fitI g.base∧fitI g.bterm∧fitI g.members∧g.snap.size≤65536∧(g.snap.size=0↔g.base=0):=by
 have hb:=right_bare hr;obtain ⟨⟨a1,a2,a3,a4,a5,a6,a7,a8,a9,a10,a11⟩,_⟩:=(bareH_all g).1 hb;unfold rightH at hr;simp only [Bool.and_eq_true,decide_eq_true_eq,beq_iff_eq] at hr
 obtain ⟨⟨_,h2⟩,h3⟩:=hr;refine ⟨hb,a7,a8,⟨by omega,by omega⟩,⟨by omega,by omega⟩,⟨by omega,by omega⟩,h3,?_⟩
 constructor
 ·intro e;rw [decide_eq_true e] at h2;exact of_decide_eq_true h2.symm
 ·intro e;rw [decide_eq_true e] at h2;exact of_decide_eq_true h2
theorem nameP_bytes (n:Nat):bytesOf (nameP n)=hdP++Lib.decDigits n:=by unfold bytesOf nameP;simp
theorem freshS_nameW (m:Nat):freshS≠nameW m:=fun e=>by
 have h:bytesOf freshS=bytesOf (nameW m):=by rw [e]
 rw [nameW_bytes] at h;have h1:=congrArg (fun l=>l[0]?) h;simp [bytesOf,freshS,hdW] at h1
theorem totD_delP {l:List Fil} {k:Nat} (h:k<l.length):totD (delD l k)+l[k].data.length=totD l:=by
 have e:l=l.take k++l[k]::l.drop (k+1):=by rw [←List.drop_eq_getElem_cons h,List.take_append_drop]
 have h3:totD l=totD (l.take k)+(l[k].data.length+totD (l.drop (k+1))):=by
  conv=>lhs;rw [e]
  rw [totD_append,totD_cons]
 unfold delD;rw [totD_append];omega
theorem delD_len1 {l:List Fil} {k:Nat} (h:k<l.length):(delD l k).length+1=l.length:=by unfold delD;rw [List.length_append,List.length_take,List.length_drop];omega
theorem move_rest {l:List Fil} (hs:SortD l) {k:Nat} (hk:k<l.length) (sn:ByteArray):∃ m,moveD sn l k=putD m ⟨sn,l[k].data,l[k].kept⟩∧SortD m∧(∀ f ∈ m,f ∈ l)∧m.length+1≤l.length∧totD m+l[k].data.length≤totD l∧getF m sn=none∧∀ s,s≠sn→getF m s=if s=l[k].name then none else getF l s:=by
 have h1:=totD_delP hk;have h2:=delD_len1 hk;have hself:=get_del_self hs hk rfl;have hoth:∀ s,s≠l[k].name→getF (delD l k) s=getF l s:=fun s e=>get_del hk (Ne.symm e);have hbase:∀ s,getF (delD l k) s=if s=l[k].name then none else getF l s:=fun s=>by
  split
  ·rename_i e;subst e;exact hself
  ·rename_i e;exact hoth s e
 rw [moveD_at0 hk]
 split
 ·rcases find_idx (delD l k) sn with ⟨h3,_⟩ | ⟨i,hi,h3,_,h4⟩
  ·omega
  ·rw [h3,Int.toNat_natCast];have t1:=totD_delP hi;have t2:=delD_len1 hi;refine ⟨_,rfl,(hs.del k).del i,fun f hf=>delD_sub (delD_sub hf),by omega,by omega,get_del_self (hs.del k) hi h4,fun s hsn=>?_⟩;rw [get_del hi (by rw [h4];exact Ne.symm hsn)];exact hbase s
 ·rename_i hneg
  exact ⟨_,rfl,hs.del k,fun f hf=>delD_sub hf,by omega,by omega,(idx_neg_iff _ _).1 (by omega),fun s _=>hbase s⟩
theorem LInv.move {k:Nat} {l:List Fil} (h:LInv k l) {j:Nat} (hj:j<l.length) {sn:ByteArray} (hn:namedD sn=true):LInv k (moveD sn l j):=by
 obtain ⟨m,e,m1,m2,m3,m4,m5,_⟩:=move_rest h.sort hj sn;rw [e];refine ⟨m1.put (x:=⟨sn,l[j].data,l[j].kept⟩) m5,fun f hf=>?_,fun f hf=>?_,?_,?_⟩
 ·rcases putD_sub hf with rfl | hf
  ·exact hn
  ·exact h.nam f (m2 f hf)
 ·rcases putD_sub hf with rfl | hf
  ·exact h.kept l[j] (List.getElem_mem hj)
  ·exact h.kept f (m2 f hf)
 ·rw [totD_putD];show totD m+l[j].data.length≤_;have:=h.tot;omega
 ·rw [putD_length];have:=h.len;omega
section
variable {k:Nat} {d:Dk}
theorem PInv.rename0 (h:PInv k d) (s sn:ByteArray):PInv k (renameD d s sn).2:=by
 unfold renameD
 split
 ·exact h
 ·rename_i h1
  rcases knownD_spec d s with ⟨h2,_⟩ | ⟨j,hj,h2,h3⟩
  ·rw [onD_no h2];exact h
  ·have hoff:d.off=false:=by
    cases ho:d.off with
    | false=>rfl
    | true=>rw [show knownD d s=(0,18) by unfold knownD;rw [if_pos ho]] at h2;cases h2
   have hn:namedD sn=true:=by
    cases hn:namedD sn with
    | true=>rfl
    | false=>exact absurd ⟨hoff,hn⟩ h1
   rw [onD_yes h2 h3];refine h.step0 (f:=fun l=>if eqS s sn then l else moveD sn l j) ?_
   split
   ·exact h.l
   ·exact h.l.move hj hn
theorem PInv.dropD (n:Nat):∀ (l:List ByteArray) {d:Dk},PInv k d→PInv k (Proofs.YtgpgcnmnfnnkjaaGreatDoor.dropD n l d).2
 | [],_,h=>h
 | s::r,d,h=>by
  rw [Proofs.YtgpgcnmnfnnkjaaGreatDoor.dropD]
  split
  ·exact (h.remove0 s).then fun d h=>PInv.dropD n r h
  ·exact PInv.dropD n r h
theorem PInv.cleanP (h:PInv k d) (n:Nat):PInv k (Proofs.YtgpgcnmnfnnkjaaGreatDoor.cleanP d n).2:=h.dropD n _
theorem PInv.openP (h:PInv k d):PInv k (Proofs.YtgpgcnmnfnnkjaaGreatDoor.openP d).2.2:=by
 unfold Proofs.YtgpgcnmnfnnkjaaGreatDoor.openP
 cases openW d with
 | none=>exact h.clean
 | some ws =>
  dsimp only
  cases snapO (cleanW d).2 ws.h with
  | none=>exact h.clean
  | some s =>
   dsimp only
   split
   ·exact h.clean.cleanP _
   ·exact h.clean.cleanP _
theorem PInv.writeP (h:PInv k d) (x:Hrd):PInv (k+1) (Proofs.YtgpgcnmnfnnkjaaGreatDoor.writeP d x).2:=by
 unfold Proofs.YtgpgcnmnfnnkjaaGreatDoor.writeP;have h0:PInv k (if (readD d freshS).isSome then removeD d freshS else (0,d)).2:=by
  split
  ·exact h.remove0 _
  ·exact h
 generalize (if (readD d freshS).isSome then removeD d freshS else (0,d))=p at *;unfold thenD
 split
 ·have h1:=h0.append freshS (snapB x);dsimp only
  split
  ·have h2:=h1.sync0 freshS
   try dsimp only
   split
   ·exact h2.rename0 _ _
   ·exact h2
  ·exact h1
 ·exact h0.up
theorem PInv.allP (h:PInv k d) (s:Sto) (x:Hrd):PInv (k+2) (Proofs.YtgpgcnmnfnnkjaaGreatDoor.allP d s x).2.2:=by
 unfold Proofs.YtgpgcnmnfnnkjaaGreatDoor.allP;have h0:PInv (k+1) (if wantsP s x then Proofs.YtgpgcnmnfnnkjaaGreatDoor.writeP d x else (0,d)).2:=by
  split
  ·exact h.writeP x
  ·exact h.up
 dsimp only;generalize (if wantsP s x then Proofs.YtgpgcnmnfnnkjaaGreatDoor.writeP d x else (0,d))=p at *
 split
 ·exact h0.up
 ·have h1:=h0.save s.w x
  split
  ·exact h1
  ·split
   ·exact h1
   ·exact h1.cleanP _
theorem PInv.saveP (h:PInv k d) (s:Sto) (x:Hrd):PInv (k+2) (Proofs.YtgpgcnmnfnnkjaaGreatDoor.saveP d s x).2.2:=by
 unfold Proofs.YtgpgcnmnfnnkjaaGreatDoor.saveP
 split
 ·exact h.up.up
 ·split
  ·exact h.up.up
  ·exact h.allP s x
end
end
section
open Go Go.RowKit Go.PlainAid BigFrame
def DidD (w0 w:World) (X:Nat→Prop) (g:Nat) (E:Int) (d':Dk) (e:Ending) (w':World):Prop:=e=.returned (.int .i64 E)∧DwS w0 X g d' w'∧Chg (Gx w0 X) w w'
theorem removesD_nil (n:Nat) (d:Dk):removesD [] n d=(0,d):=rfl
theorem removesD_same {k n:Nat} (r:List Nat) (d:Dk) (h:k=n):removesD (k::r) n d=removesD r n d:=by rw [removesD,if_pos h]
theorem removesD_go {k n:Nat} (r:List Nat) (d:Dk) (h:k≠n):removesD (k::r) n d=thenD (removeD d (nameW k)) (removesD r n):=by rw [removesD,if_neg h]

theorem walClean {w0 w:World} {X:Nat→Prop} {g:Nat} {d d':Dk} (T0:∀ z,Below w0.heap.size w0 z→TabW z) (hd:DwS w0 X g d w) (hb0:Below w0.heap.size w0 w) {m:Nat} (pi:PInv m d) (l:List Nat) (hll:l.length≤300) (hm:m≤500) (u:Value) (hu:Rd intsE w u (natI l)) (hux:∀ k,u.ownBlock=some k→k<w0.heap.size∨X k) (hln:∀ x ∈ l,x≤99999999999999) (n:Nat) (N:Int) (hN:N=(n:Int)) (hn:n≤99999999999999) (s:Sg) (v:Value) {E:Int} (he:cleanD d l n s=(E,d')) :
 Calls Tryz.prog 65 #[.pointer (some ⟨g,0,none⟩),u,.int .i64 N,.agg (segA s v)] w (DidD w0 w X g E d'):=by
 subst hN;obtain ⟨pu,cu,rfl⟩:=hu.shape;rw [natI_length] at hu hux ⊢;have hcd:cleanD d l n s=thenD (cutS d n s) fun d=>thenD (removesD l n d) fun d=>if 0<n then syncD d (nameW n) else (0,d):=rfl
 rw [he] at hcd;have hcs:cutS d n s=if 0<n∧s.size<(fileW d n).length then cutD d (nameW n) s.size else (0,d):=rfl
 have Hcd:=Lib.hid hcd;have Hcs:=Lib.hid hcs;clear he hcd hcs;have hs0:=hb0.size;have ca:=below_alloc w (.cells (segA s v) 102);have kA:=Blk.new w (segA s v) 102;have hHs:(w.alloc (.cells (segA s v) 102)).heap.size=w.heap.size+1:=by simp
 have hd0:=hd.ext ca;have hb1:Below w0.heap.size w0 (w.alloc (.cells (segA s v) 102)):=hb0.trans (ca.mono hs0)
 by_cases hn0:0<n
 ·have hni:(0:Int)<(n:Int):=by omega
  have T1:=T0 _ hb1;have c9:=kA.cell 9 _ rfl;go_enter Tryz.func65,Tryz.ntmps65
  go_wp2_with fail
  refine (walNamed n _ rfl (by omega) _ T1).mono ?_;rintro e w1 ⟨rfl,b1⟩;have hd1:=hd0.ext b1;go_wp2_with fail
  refine (lRead hd1 (pi.ok (by omega)) (nameW n) rfl).mono ?_;rintro e w2 ⟨⟨r,rfl,own2⟩,b2⟩;have hd2:=hd1.ext b2;have b02:=ca.trans ((b1.trans (b2.mono b1.size)).mono (by omega));have kA2:=(kA.ext b1).ext b2;have c92:w2.cell? ⟨w.heap.size,9,none⟩=some (.int .i64 (s.size:Int)):=kA2.cell 9 _ rfl;have hfw:fileW d n=(readD d (nameW n)).getD []:=rfl;rw [←hfw] at own2;clear hfw;generalize (readD d (nameW n)).isSome=qb at *;obtain ⟨pr,cr,rfl⟩:=own2.bytes.shape;clear T1 c9
  by_cases hc:s.size<(fileW d n).length
  ·have hci:(s.size:Int)<((fileW d n).length:Int):=by omega
   have hcs:=Hcs.out;rw [if_pos ⟨hn0,hc⟩] at hcs;obtain ⟨E1,D1,hcut⟩:∃ E1 D1,cutD d (nameW n) s.size=(E1,D1):=⟨_,_,rfl⟩;rw [hcut] at hcs;have pi1:PInv (m+1) D1:=by have:=pi.cut (nameW n) (s.size:Int);rw [hcut] at this;exact this
   have Hcs1:=Lib.hid hcs;clear hcs hc;generalize fileW d n=FL at *;go_wp2_with fail
   have hdX:DwS w0 (fun k=>X k∨k=w.heap.size) g d w2:=hd.more b02 (fun k hk=>hk.imp id (fun e=>by have:=kA2.lt;omega));refine wp_region_F (n:=6) (S:=fun w':World=>w'.cell? ⟨w.heap.size,9,none⟩=some (.int .i64 (s.size:Int))) (by kernel_rfl) ?_;have hHeld:(fun w':World=>w'.cell? ⟨w.heap.size,9,none⟩=some (.int .i64 (s.size:Int))) w2.drew:=c92;refine tk ?_ 0 ?_ hHeld ?_;rotate_left
   ·intro w hSw;(try dsimp only at hSw);dsimp only [bare];go_simp<;>with_reducible rfl
   try simp only [lyB,lyP,lyA,lyZ,lyS]
   refine tk ?_ 1 ?_ hHeld ?_;rotate_left
   ·intro w hSw;(try dsimp only at hSw);dsimp only [bare];go_simp<;>with_reducible rfl
   try simp only [lyB,lyP,lyA,lyZ,lyS]
   refine tk ?_ 3 ?_ hHeld ?_;rotate_left
   ·intro w hSw;(try dsimp only at hSw);dsimp only [bare];go_simp<;>with_reducible rfl
   try simp only [lyB,lyP,lyA,lyZ,lyS]
   refine tk ?_ 4 ?_ hHeld ?_;rotate_left
   ·intro w hSw;(try dsimp only at hSw);dsimp only [bare];go_simp<;>with_reducible rfl
   try simp only [lyB,lyP,lyA,lyZ,lyS]
   refine wpAnyF_one 2 _ _ _ rfl (by kernel_rfl) (fun K hK=>?_);dsimp only [bare];go_simp;have hb02:Below w0.heap.size w0 w2:=hb0.trans (b02.mono hs0);refine (walNamed n _ rfl (by omega) w2.drew (T0 _ hb02.drew)).mono ?_;rintro e w3 ⟨rfl,b3⟩;dsimp only;have bE:Below w2.heap.size w2 w3:=(below_drew _ _).trans b3;have kA3:=kA2.ext bE;refine hK _ _ (kA3.cell 9 _ rfl) (fun hHeld=>?_);clear hK K
   try simp only [lyB,lyP,lyA,lyZ,lyS]
   refine wpAnyF_one 5 _ _ _ rfl (by kernel_rfl) (fun K hK=>?_);dsimp only [bare];go_simp;refine (lCut (hdX.ext bE) (pi.ok (by omega)) hcut).mono ?_;rintro e w4 ⟨rfl,hd4,ch4⟩;dsimp only;have kA4:=ch4.blk kA3 (fun hG=>hG.2 (.inr rfl));refine hK _ _ (kA4.cell 9 _ rfl) (fun hHeld=>?_);clear hK K
   try simp only [lyB,lyP,lyA,lyZ,lyS]
   refine wpAnyF_end (some 11) (Op.assign (Operand.tmp 34)) 42 rfl (by kernel_rfl) (by kernel_rfl) (fun K hK=>?_);dsimp only [bare];go_simp;refine hK _ _ ?_;clear hK K
   try simp only [lyB,lyP,lyA,lyZ,lyS]
   have hdY:=hd4.mono (Y:=X) (fun k hk=>.inl hk);have chY:Chg (Gx w0 X) w w4:=(Chg.of_below (b02.trans (bE.mono b02.size))).step (ch4.mono fun k _ hk=>⟨hk.1,fun hX=>hk.2 (.inl hX)⟩);unfold thenD at Hcd
   by_cases hE:E1=0
   ·subst hE;have hcd:=Hcd.out;rw [Hcs1.out,if_pos rfl] at hcd;have Hcd:=Lib.hid hcd;clear hcd;go_wp2_with fail
    go_loopw [40] (fun i wr=>∃ (k:Nat) (dk:Dk),k≤l.length∧i=.int .i64 k∧Hid (removesD l n D1=removesD (l.drop k) n dk)∧PInv (m+1+k) dk∧DwS w0 X g dk wr∧Chg (Gx w0 X) w wr) (fun i _=>l.length - (intOf i).toNat)
    case atStart=>exact ⟨0,D1,by omega,rfl,rfl,pi1,hdY,chY⟩
    case round =>
     obtain ⟨k,dk,hk,rfl,hrem,pk,hdk,chk⟩:=hrel;have hbk:Below w0.heap.size w0 wr:=hb0.trans (chk.gx hs0)
     by_cases hlt:k<l.length
     ·have huk:=chk.cells hu (fun j hj hG=>(hux j hj).elim (fun e=>by have:=hG.1;omega) (fun e=>hG.2 e));obtain ⟨bb,off,rfl⟩:=Rd.blk (E:=intsE) (l:=natI l) (show Rd intsE wr (.slice pu l.length cu) (natI l) from huk) (by rw [natI_length];omega);have c0:wr.cell? ⟨bb,off+k,none⟩=some (.int .i64 (l[k]:Nat)):=by
       have:=(show Rd intsE wr (.slice (some ⟨bb,off,none⟩) l.length cu) (natI l) from huk).at_ (k:=k) (by rw [natI_length];exact hlt) 0 (by decide)
       simpa [intsE,natI] using this
      have hi:(k:Int)<(l.length:Int):=by omega
      have hi0:(0:Int)≤(k:Int):=by omega
      have hx:=hln l[k] (List.getElem_mem hlt);have hr2:=hrem.out;rw [List.drop_eq_getElem_cons hlt] at hr2;clear huk;generalize l[k]=x at *
      by_cases hxn:x=n
      ·have hxi:((x:Int) == (n:Int))=true:=by simp [hxn]
       have hr3:=Lib.hid (hr2.trans (removesD_same _ _ hxn));clear hr2 hxn hrem;go_wp2_with fail
       go_roundw
       case rel=>exact ⟨k+1,dk,by omega,by go_num,hr3.out,by have:=pk.up;exact this,hdk,chk⟩
       case measure=>simp [intOf];omega
      ·have hxi:((x:Int) == (n:Int))=false:=by simp;omega
       have hr3:=hr2.trans (removesD_go _ _ hxn);obtain ⟨E2,D2,hrm⟩:∃ E2 D2,removeD dk (nameW x)=(E2,D2):=⟨_,_,rfl⟩;rw [hrm] at hr3;unfold thenD at hr3;have pk2:PInv (m+1+k+1) D2:=by have:=pk.remove (nameW x);rw [hrm] at this;exact this
       clear hr2 hxn hrem;go_wp2_with fail
       refine (walNamed x _ rfl (by omega) wr (T0 _ hbk)).mono ?_;rintro e w5 ⟨rfl,b5⟩;go_wp2_with fail
       refine (lRemove (hdk.ext b5) (pk.ok (by omega)) hrm).mono ?_;rintro e w6 ⟨rfl,hd6,ch6⟩;have ch06:Chg (Gx w0 X) w w6:=(chk.step (.of_below b5)).step ch6
       by_cases hE:E2=0
       ·subst hE;rw [if_pos rfl] at hr3;have Hr3:=Lib.hid hr3;clear hr3;go_wp2_with fail
        go_roundw
        case rel=>first | exact ⟨k+1,D2,by omega,by go_num,Hr3.out,pk2,hd6,ch06⟩ | exact ⟨_,_,_,_,_,_,_,_,_,_,_,_,_,_,_,_,_,_,⟨k+1,D2,by omega,by go_num,Hr3.out,pk2,hd6,ch06⟩,by rw [decide_eq_false (show ¬ s.size<FL.length from by omega)];rfl⟩
        case measure=>simp [intOf];omega
       ·have hne:(E2 !=0)=true:=by simpa using hE
        rw [if_neg hE] at hr3;have hcd:=Hcd.out;unfold thenD at hcd;rw [hr3,if_neg hE] at hcd;simp only [Prod.mk.injEq] at hcd
        obtain ⟨rfl,rfl⟩:=hcd;clear hr3;go_wp2_with fail
        go_ret
        exact ⟨rfl,hd6,ch06⟩
     ·have hi:¬ (k:Int)<(l.length:Int):=by omega
      have hr2:=hrem.out;rw [List.drop_of_length_le (by omega),removesD_nil] at hr2;have hcd:=Hcd.out;unfold thenD at hcd;rw [hr2,if_pos rfl] at hcd;clear hr2 hrem;rw [if_pos hn0] at hcd;go_wp2_with fail
      refine (walNamed n _ rfl (by omega) wr (T0 _ hbk)).mono ?_;rintro e w5 ⟨rfl,b5⟩;go_wp2_with fail
      refine (lSync (hdk.ext b5) (pk.ok (by omega)) hcd.symm).mono ?_;rintro e w6 ⟨rfl,hd6,ch6⟩;go_wp2_with fail
      go_ret
      exact ⟨rfl,hd6,(chk.step (.of_below b5)).step ch6⟩
   ·have hne:(E1 !=0)=true:=by simpa using hE
    have hcd:=Hcd.out;rw [Hcs1.out,if_neg hE] at hcd;simp only [Prod.mk.injEq] at hcd
    obtain ⟨rfl,rfl⟩:=hcd;go_wp2_with fail
    go_ret
    exact ⟨rfl,hdY,chY⟩
  ·have hci:¬ (s.size:Int)<((fileW d n).length:Int):=by omega
   have hcs:=Hcs.out;rw [if_neg (fun hh=>hc hh.2)] at hcs;have hcd:=Hcd.out;unfold thenD at hcd;rw [hcs,if_pos rfl] at hcd;have Hcd:=Lib.hid hcd;have chY:Chg (Gx w0 X) w w2:=.of_below b02;clear hcs hcd hc;generalize fileW d n=FL at *;go_wp2_with fail
   go_loopw [40] (fun i wr=>∃ (k:Nat) (dk:Dk),k≤l.length∧i=.int .i64 k∧Hid (removesD l n d=removesD (l.drop k) n dk)∧PInv (m+k) dk∧DwS w0 X g dk wr∧Chg (Gx w0 X) w wr) (fun i _=>l.length - (intOf i).toNat)
   case atStart=>exact ⟨0,d,by omega,rfl,rfl,pi,hd2,chY⟩
   case round =>
    obtain ⟨k,dk,hk,rfl,hrem,pk,hdk,chk⟩:=hrel;have hbk:Below w0.heap.size w0 wr:=hb0.trans (chk.gx hs0)
    by_cases hlt:k<l.length
    ·have huk:=chk.cells hu (fun j hj hG=>(hux j hj).elim (fun e=>by have:=hG.1;omega) (fun e=>hG.2 e));obtain ⟨bb,off,rfl⟩:=Rd.blk (E:=intsE) (l:=natI l) (show Rd intsE wr (.slice pu l.length cu) (natI l) from huk) (by rw [natI_length];omega);have c0:wr.cell? ⟨bb,off+k,none⟩=some (.int .i64 (l[k]:Nat)):=by
      have:=(show Rd intsE wr (.slice (some ⟨bb,off,none⟩) l.length cu) (natI l) from huk).at_ (k:=k) (by rw [natI_length];exact hlt) 0 (by decide)
      simpa [intsE,natI] using this
     have hi:(k:Int)<(l.length:Int):=by omega
     have hi0:(0:Int)≤(k:Int):=by omega
     have hx:=hln l[k] (List.getElem_mem hlt);have hr2:=hrem.out;rw [List.drop_eq_getElem_cons hlt] at hr2;clear huk;generalize l[k]=x at *
     by_cases hxn:x=n
     ·have hxi:((x:Int) == (n:Int))=true:=by simp [hxn]
      have hr3:=Lib.hid (hr2.trans (removesD_same _ _ hxn));clear hr2 hxn hrem;go_wp2_with fail
      go_roundw
      case rel=>exact ⟨k+1,dk,by omega,by go_num,hr3.out,by have:=pk.up;exact this,hdk,chk⟩
      case measure=>simp [intOf];omega
     ·have hxi:((x:Int) == (n:Int))=false:=by simp;omega
      have hr3:=hr2.trans (removesD_go _ _ hxn);obtain ⟨E2,D2,hrm⟩:∃ E2 D2,removeD dk (nameW x)=(E2,D2):=⟨_,_,rfl⟩;rw [hrm] at hr3;unfold thenD at hr3;have pk2:PInv (m+k+1) D2:=by have:=pk.remove (nameW x);rw [hrm] at this;exact this
      clear hr2 hxn hrem;go_wp2_with fail
      refine (walNamed x _ rfl (by omega) wr (T0 _ hbk)).mono ?_;rintro e w5 ⟨rfl,b5⟩;go_wp2_with fail
      refine (lRemove (hdk.ext b5) (pk.ok (by omega)) hrm).mono ?_;rintro e w6 ⟨rfl,hd6,ch6⟩;have ch06:Chg (Gx w0 X) w w6:=(chk.step (.of_below b5)).step ch6
      by_cases hE:E2=0
      ·subst hE;rw [if_pos rfl] at hr3;have Hr3:=Lib.hid hr3;clear hr3;go_wp2_with fail
       go_roundw
       case rel=>first | exact ⟨k+1,D2,by omega,by go_num,Hr3.out,pk2,hd6,ch06⟩ | exact ⟨_,_,_,_,_,_,_,_,_,_,_,_,_,_,_,_,_,_,⟨k+1,D2,by omega,by go_num,Hr3.out,pk2,hd6,ch06⟩,by rw [decide_eq_false (show ¬ s.size<FL.length from by omega)];rfl⟩
       case measure=>simp [intOf];omega
      ·have hne:(E2 !=0)=true:=by simpa using hE
       rw [if_neg hE] at hr3;have hcd:=Hcd.out;unfold thenD at hcd;rw [hr3,if_neg hE] at hcd;simp only [Prod.mk.injEq] at hcd
       obtain ⟨rfl,rfl⟩:=hcd;clear hr3;go_wp2_with fail
       go_ret
       exact ⟨rfl,hd6,ch06⟩
    ·have hi:¬ (k:Int)<(l.length:Int):=by omega
     have hr2:=hrem.out;rw [List.drop_of_length_le (by omega),removesD_nil] at hr2;have hcd:=Hcd.out;unfold thenD at hcd;rw [hr2,if_pos rfl] at hcd;clear hr2 hrem;rw [if_pos hn0] at hcd;go_wp2_with fail
     refine (walNamed n _ rfl (by omega) wr (T0 _ hbk)).mono ?_;rintro e w5 ⟨rfl,b5⟩;go_wp2_with fail
     refine (lSync (hdk.ext b5) (pk.ok (by omega)) hcd.symm).mono ?_;rintro e w6 ⟨rfl,hd6,ch6⟩;go_wp2_with fail
     go_ret
     exact ⟨rfl,hd6,(chk.step (.of_below b5)).step ch6⟩
 ·have hni:¬ (0:Int)<(n:Int):=by omega
  have hcs:=Hcs.out;rw [if_neg (fun hh=>hn0 hh.1)] at hcs;have hcd:=Hcd.out;unfold thenD at hcd;rw [hcs,if_pos rfl] at hcd;have Hcd:=Lib.hid hcd;have chY:Chg (Gx w0 X) w (w.alloc (.cells (segA s v) 102)):=.of_below ca;clear hcs hcd;go_enter Tryz.func65,Tryz.ntmps65
  go_wp2_with fail
  go_loopw [40] (fun i wr=>∃ (k:Nat) (dk:Dk),k≤l.length∧i=.int .i64 k∧Hid (removesD l n d=removesD (l.drop k) n dk)∧PInv (m+k) dk∧DwS w0 X g dk wr∧Chg (Gx w0 X) w wr) (fun i _=>l.length - (intOf i).toNat)
  case atStart=>exact ⟨0,d,by omega,rfl,rfl,pi,hd0,chY⟩
  case round =>
   obtain ⟨k,dk,hk,rfl,hrem,pk,hdk,chk⟩:=hrel;have hbk:Below w0.heap.size w0 wr:=hb0.trans (chk.gx hs0)
   by_cases hlt:k<l.length
   ·have huk:=chk.cells hu (fun j hj hG=>(hux j hj).elim (fun e=>by have:=hG.1;omega) (fun e=>hG.2 e));obtain ⟨bb,off,rfl⟩:=Rd.blk (E:=intsE) (l:=natI l) (show Rd intsE wr (.slice pu l.length cu) (natI l) from huk) (by rw [natI_length];omega);have c0:wr.cell? ⟨bb,off+k,none⟩=some (.int .i64 (l[k]:Nat)):=by
     have:=(show Rd intsE wr (.slice (some ⟨bb,off,none⟩) l.length cu) (natI l) from huk).at_ (k:=k) (by rw [natI_length];exact hlt) 0 (by decide)
     simpa [intsE,natI] using this
    have hi:(k:Int)<(l.length:Int):=by omega
    have hi0:(0:Int)≤(k:Int):=by omega
    have hx:=hln l[k] (List.getElem_mem hlt);have hr2:=hrem.out;rw [List.drop_eq_getElem_cons hlt] at hr2;clear huk;generalize l[k]=x at *
    by_cases hxn:x=n
    ·have hxi:((x:Int) == (n:Int))=true:=by simp [hxn]
     have hr3:=Lib.hid (hr2.trans (removesD_same _ _ hxn));clear hr2 hxn hrem;go_wp2_with fail
     go_roundw
     case rel=>exact ⟨k+1,dk,by omega,by go_num,hr3.out,by have:=pk.up;exact this,hdk,chk⟩
     case measure=>simp [intOf];omega
    ·have hxi:((x:Int) == (n:Int))=false:=by simp;omega
     have hr3:=hr2.trans (removesD_go _ _ hxn);obtain ⟨E2,D2,hrm⟩:∃ E2 D2,removeD dk (nameW x)=(E2,D2):=⟨_,_,rfl⟩;rw [hrm] at hr3;unfold thenD at hr3;have pk2:PInv (m+k+1) D2:=by have:=pk.remove (nameW x);rw [hrm] at this;exact this
     clear hr2 hxn hrem;go_wp2_with fail
     refine (walNamed x _ rfl (by omega) wr (T0 _ hbk)).mono ?_;rintro e w5 ⟨rfl,b5⟩;go_wp2_with fail
     refine (lRemove (hdk.ext b5) (pk.ok (by omega)) hrm).mono ?_;rintro e w6 ⟨rfl,hd6,ch6⟩;have ch06:Chg (Gx w0 X) w w6:=(chk.step (.of_below b5)).step ch6
     by_cases hE:E2=0
     ·subst hE;rw [if_pos rfl] at hr3;have Hr3:=Lib.hid hr3;clear hr3;go_wp2_with fail
      go_roundw
      case rel=>first | exact ⟨k+1,D2,by omega,by go_num,Hr3.out,pk2,hd6,ch06⟩ | exact ⟨_,_,_,_,_,_,_,_,_,_,_,_,_,_,_,_,_,_,⟨k+1,D2,by omega,by go_num,Hr3.out,pk2,hd6,ch06⟩,by rw [decide_eq_false (show ¬ s.size<FL.length from by omega)];rfl⟩
      case measure=>simp [intOf];omega
     ·have hne:(E2 !=0)=true:=by simpa using hE
      rw [if_neg hE] at hr3;have hcd:=Hcd.out;unfold thenD at hcd;rw [hr3,if_neg hE] at hcd;simp only [Prod.mk.injEq] at hcd
      obtain ⟨rfl,rfl⟩:=hcd;clear hr3;go_wp2_with fail
      go_ret
      exact ⟨rfl,hd6,ch06⟩
   ·have hi:¬ (k:Int)<(l.length:Int):=by omega
    have hr2:=hrem.out;rw [List.drop_of_length_le (by omega),removesD_nil] at hr2;have hcd:=Hcd.out;unfold thenD at hcd;rw [hr2,if_pos rfl] at hcd;clear hr2 hrem;rw [if_neg hn0] at hcd;simp only [Prod.mk.injEq] at hcd
    obtain ⟨rfl,rfl⟩:=hcd;go_wp2_with fail
    go_ret
    exact ⟨rfl,hdk,chk⟩
end
section
open Go Go.RowKit Go.PlainAid
structure KeptW (m:Nat) (d:Dk) (n:Nat) (K:List Rec) (x:Hrd):Prop where
 inv:PInv m d
 okn:okN n
 okr:okR K
 run:runR sg0 K=some ⟨x,true,true,0⟩
 bare:bareH x=true
 snap:x.snap=sNone
 file:∃ c,Frm.err c≠0∧getF d.fs (nameW n)=some ⟨nameW n,catR K++c,(catR K++c).length⟩
 rest:∀ k,okN k→k≠n→∀ f,getF d.fs (nameW k)=some f→f.kept=f.data.length∧(n<k→(readSeg f.data).whole=false)
structure GoodW (m:Nat) (d:Dk) (n:Nat) (K:List Rec) (x:Hrd):Prop where
 k:KeptW m d n K x
 file:getF d.fs (nameW n)=some ⟨nameW n,catR K,(catR K).length⟩
 none:∀ k,okN k→k≠n→getF d.fs (nameW k)=none
section
variable {m n:Nat} {d d':Dk} {K:List Rec} {x:Hrd}
theorem KeptW.pick (h:KeptW m d n K x):pickN d=(n,⟨x,true,true,(catR K).length⟩):=by
 obtain ⟨c,hc,hf⟩:=h.file;have hr:=readSeg_run h.okr h.run hc;rw [pickN_spec h.okn hf (by rw [hr]) fun k hk hlt g hg=>(h.rest k hk (by omega) g hg).2 hlt,hr]
theorem KeptW.same (h:KeptW m d n K x) (e:d'.fs=d.fs) (hi:PInv m d'):KeptW m d' n K x :=
 ⟨hi,h.okn,h.okr,h.run,h.bare,h.snap,by rw [e];exact h.file,by rw [e];exact h.rest⟩
theorem GoodW.same (h:GoodW m d n K x) (e:d'.fs=d.fs) (hi:PInv m d'):GoodW m d' n K x:=⟨h.k.same e hi,by rw [e];exact h.file,by rw [e];exact h.none⟩
theorem KeptW.more {m':Nat} (h:KeptW m d n K x) (hm:m≤m'):KeptW m' d n K x:=⟨h.inv.more hm,h.okn,h.okr,h.run,h.bare,h.snap,h.file,h.rest⟩
theorem GoodW.more {m':Nat} (h:GoodW m d n K x) (hm:m≤m'):GoodW m' d n K x:=⟨h.k.more hm,h.file,h.none⟩
end
end
section
open Go Go.RowKit Go.PlainAid
structure SaveOut (m:Nat) (d:Dk) (n:Nat) (K:List Rec) (x g:Hrd) (r:Int×Nat×Dk):Prop where
 good:r.1=0→∃ K',GoodW (m+1) r.2.2 r.2.1 K' (bareOf g)∧(K'=K∨K'=layR g∨(K'=K++moreR x g∧(catR K).length≤8192))
 num:r.2.1≤n+1
 torn:∀ picks,∃ n' K' y,n'≤n+1∧KeptW (m+1) (crashD r.2.2 picks) n' K' y∧Between y x g∧(r.1=0→y=bareOf g)
 on:OnD d→totD d.fs+(moreB x g).length≤4194304→totD d.fs+(layB g).length≤4194304→r.1=0∧OnD r.2.2
 other:∀ s,(∀ k,okN k→s≠nameW k)→getF r.2.2.fs s=getF d.fs s
section
variable {m n:Nat} {d:Dk} {K:List Rec} {x g:Hrd}
end
end
section
open Go Go.RowKit Go.PlainAid
theorem oneK_le (p:List UInt8):(Frm.one p).length≤p.length+8:=by
 cases h:Frm.none' p with
 | true=>rw [Frm.one_none h];simp
 | false=>rw [Frm.one_length h];exact Nat.le_refl _
end
section
open Go Go.RowKit Go.PlainAid BigFrame
theorem stoBytes (h:Hrd) (u:Value) (w:World) (hu:Rd etyE w u h.log) (hiba:In64 h.base) (hibt:In64 h.bterm) (hime:In64 h.members) (hs:h.snap.size≤1000000000) :
 Calls Tryz.prog 139 #[hrdA h u] w fun e w'=>∃ r,e=.returned r∧OwnB w' w.heap.size 5 r (snapB h)∧Below w.heap.size w w':=by
 obtain ⟨pu,cu,rfl⟩:=hu.shape;have ca:=below_alloc w (.cells #[.int .i64 h.term,.int .i64 h.vote,.int .i64 h.base,.int .i64 h.bterm,.int .i64 h.members,.string h.snap,.slice pu h.log.length cu] 24);have ka:=Blk.new w #[.int .i64 h.term,.int .i64 h.vote,.int .i64 h.base,.int .i64 h.bterm,.int .i64 h.members,.string h.snap,.slice pu h.log.length cu] 24;have hb3:=numB_le h.base;have hb4:=numB_le h.bterm;have hb5:=numB_le h.members;go_enter Tryz.func139,Tryz.ntmps139
 go_wp2_with fail
 obtain ⟨wa,hwa⟩:∃ wa,wa=w.alloc (.cells #[.int .i64 h.term,.int .i64 h.vote,.int .i64 h.base,.int .i64 h.bterm,.int .i64 h.members,.string h.snap,.slice pu h.log.length cu] 24):=⟨_,rfl⟩;rw [←hwa] at ca ka ⊢;have hsz:wa.heap.size=w.heap.size+1:=by rw [hwa];simp
 clear hwa;refine wp_region_F (n:=9) (S:=fun w':World=>w'.cell? ⟨w.heap.size,2,none⟩=some (.int .i64 h.base)∧w'.cell? ⟨w.heap.size,3,none⟩=some (.int .i64 h.bterm)∧w'.cell? ⟨w.heap.size,4,none⟩=some (.int .i64 h.members)) (by kernel_rfl) ?_;have k0:=ka.drew;have z0:Below w.heap.size w wa.drew:=ca.trans ((below_drew _ _));have hHeld:(fun w':World=>w'.cell? ⟨w.heap.size,2,none⟩=some (.int .i64 h.base)∧w'.cell? ⟨w.heap.size,3,none⟩=some (.int .i64 h.bterm)∧w'.cell? ⟨w.heap.size,4,none⟩=some (.int .i64 h.members)) wa.drew:=⟨k0.cell 2 _ rfl,k0.cell 3 _ rfl,k0.cell 4 _ rfl⟩
 refine tk ?_ 0 ?_ hHeld ?_;rotate_left
 ·rintro w ⟨_,_,_⟩;dsimp only [bare];go_simp<;>with_reducible rfl
 try simp only [lyB,lyP,lyA,lyZ,lyS]
 refine tk ?_ 1 ?_ hHeld ?_;rotate_left
 ·rintro w ⟨_,_,_⟩;dsimp only [bare];go_simp<;>with_reducible rfl
 try simp only [lyB,lyP,lyA,lyZ,lyS]
 refine tk ?_ 3 ?_ hHeld ?_;rotate_left
 ·rintro w ⟨_,_,_⟩;dsimp only [bare];go_simp<;>with_reducible rfl
 try simp only [lyB,lyP,lyA,lyZ,lyS]
 refine tk ?_ 4 ?_ hHeld ?_;rotate_left
 ·rintro w ⟨_,_,_⟩;dsimp only [bare];go_simp<;>with_reducible rfl
 try simp only [lyB,lyP,lyA,lyZ,lyS]
 refine tk ?_ 6 ?_ hHeld ?_;rotate_left
 ·rintro w ⟨_,_,_⟩;dsimp only [bare];go_simp<;>with_reducible rfl
 try simp only [lyB,lyP,lyA,lyZ,lyS]
 refine tk ?_ 7 ?_ hHeld ?_;rotate_left
 ·rintro w ⟨_,_,_⟩;dsimp only [bare];go_simp<;>with_reducible rfl
 try simp only [lyB,lyP,lyA,lyZ,lyS]
 refine wpAnyF_one 2 _ _ _ rfl (by kernel_rfl) (fun K hK=>?_);dsimp only [bare];go_simp;refine (packNum (.slice none 0 0) [] h.base wa.drew (Bytes.nil _) (by simp only [List.length_append,List.length_nil];omega) hiba.1 hiba.2).mono ?_;rintro e w1 ⟨q1,rfl,own1,b1⟩;dsimp only;have k1:=k0.ext b1;have z1:=z0.trans (b1.mono z0.size);refine hK _ _ ⟨k1.cell 2 _ rfl,k1.cell 3 _ rfl,k1.cell 4 _ rfl⟩ (fun hHeld=>?_);clear hK K
 try simp only [lyB,lyP,lyA,lyZ,lyS]
 refine wpAnyF_one 5 _ _ _ rfl (by kernel_rfl) (fun K hK=>?_);dsimp only [bare];go_simp;refine (packNum _ _ h.bterm w1 own1.bytes (by simp only [List.length_append,List.length_nil];omega) hibt.1 hibt.2).mono ?_;rintro e w2 ⟨q2,rfl,own2,b2⟩;dsimp only;have k2:=k1.ext b2;have z2:=z1.trans (b2.mono z1.size);refine hK _ _ ⟨k2.cell 2 _ rfl,k2.cell 3 _ rfl,k2.cell 4 _ rfl⟩ (fun hHeld=>?_);clear hK K
 try simp only [lyB,lyP,lyA,lyZ,lyS]
 refine wpAnyF_one 8 _ _ _ rfl (by kernel_rfl) (fun K hK=>?_);dsimp only [bare];go_simp;refine (packNum _ _ h.members w2 own2.bytes (by simp only [List.length_append,List.length_nil];omega) hime.1 hime.2).mono ?_;rintro e w3 ⟨q3,rfl,own3,b3⟩;dsimp only;have k3:=k2.ext b3;have z3:=z2.trans (b3.mono z2.size);refine hK _ _ ⟨k3.cell 2 _ rfl,k3.cell 3 _ rfl,k3.cell 4 _ rfl⟩ (fun hHeld=>?_);clear hK K
 try simp only [lyB,lyP,lyA,lyZ,lyS]
 refine wpAnyF_end (some 3) (Op.assign (Operand.tmp 12)) 26 rfl (by kernel_rfl) (by kernel_rfl) (fun K hK=>?_);dsimp only [bare];go_simp;refine hK _ _ ?_;clear hK K
 try simp only [lyB,lyP,lyA,lyZ,lyS]
 have y5:=k3.cell 5 _ rfl;go_wp2_with fail
 refine (packText _ _ h.snap w3 own3.bytes (by simp only [List.length_append];simp only [List.length_nil];omega)).mono ?_;rintro e w4 ⟨q4,rfl,own4,b4⟩;have htl:(textB h.snap.data.toList).length≤h.snap.size+10:=by
  have:=numB_le (h.snap.data.toList.length:Int);unfold textB;rw [List.length_append];simp at *; omega
 go_wp2_with fail
 refine (framePut (.slice none 0 0) q4 [] _ w4 (Bytes.nil _) own4.bytes (by simp) (by simp only [List.length_append,List.length_nil];omega)).mono ?_;rintro e w5 ⟨q5,rfl,own5,b5⟩;go_wp2_with fail
 go_ret
 have z4:=z3.trans (b4.mono z3.size);have e:Frm.put [] ([]++numB h.base++numB h.bterm++numB h.members++textB h.snap.data.toList)=snapB h:=by
  unfold snapB payP Frm.put bytesOf;simp [numsB]
 rw [e] at own5;exact ⟨_,rfl,own5.base z4.size,z4.trans (b5.mono z4.size)⟩
structure RdK (w0 w:World) (H gr:Nat) (vr:Value) (r:Rdr) (cs:Array Value) (t:TypeId):Prop where
 rd:RdrAt w gr vr r
 kb:Blk w H cs t
 bel:Below w0.heap.size w0 w
 low:w0.heap.size≤gr
 ne:H≠gr
theorem RdK.step {w0 w w':World} {H gr:Nat} {vr:Value} {r r':Rdr} {cs:Array Value} {t:TypeId} (k:RdK w0 w H gr vr r cs t) (hr:RdrAt w' gr vr r') (hc:Chg (fun k=>k=gr) w w'):RdK w0 w' H gr vr r' cs t :=
 ⟨hr,hc.blk k.kb k.ne,k.bel.trans (hc.below (fun j hj=>by rw [hj];exact k.low) k.bel.size),k.low,k.ne⟩
def ReadI (w:World) (o:Option (List UInt8)) (e:Ending) (w':World):Prop :=
 (match o with
 | some s=>e=.returned (.tuple #[.string (ofBytes s),.bool true])
 | none=>e=.returned (.tuple #[.string ⟨#[]⟩,.bool false]))∧Below w.heap.size w w'
theorem parseP_if (p:List UInt8) (h:Hrd) {N1 N2 N3:Int×Rdr} {S:List UInt8×Rdr} {E:Int} (h1:rNum (rd0 p)=N1) (h2:rNum N1.2=N2) (h3:rNum N2.2=N3) (h4:rText 65536 N3.2=S) (h5:(rEnd S.2).1=E) :
 parseP p h=if E=0∧N1.1=h.base∧N2.1=h.bterm∧N3.1=h.members∧S.1≠[] then some S.1 else none:=by
 subst h1;subst h2;subst h3;subst h4;subst h5;rfl
theorem stoRead (v:Value) (b:List UInt8) (h:Hrd) (u:Value) (w:World) (hv:Bytes w v b) (hb:b.length≤35184372088000) (hu:Rd etyE w u h.log) :
 Calls Tryz.prog 76 #[v,hrdA h u] w (ReadI w (readP b h)):=by
 obtain ⟨p0,c0,rfl⟩:=hv.shape;obtain ⟨pu,cu,rfl⟩:=hu.shape;have ca:=below_alloc w (.cells #[.int .i64 h.term,.int .i64 h.vote,.int .i64 h.base,.int .i64 h.bterm,.int .i64 h.members,.string h.snap,.slice pu h.log.length cu] 24);have ka:=Blk.new w #[.int .i64 h.term,.int .i64 h.vote,.int .i64 h.base,.int .i64 h.bterm,.int .i64 h.members,.string h.snap,.slice pu h.log.length cu] 24;have hcall:=frameNext (.slice p0 b.length c0) b 0 _ (hv.ext ca) (by omega);have hrp:readP b h=if Frm.errAt b 0=0∧Frm.toAt b 0=b.length then parseP (Frm.payAt b 0) h else none:=rfl
 have hpl:Frm.errAt b 0=0→(Frm.payAt b 0).length≤131072:=fun he=>by
  obtain ⟨n,_,_,_,q⟩:=frm_in (a:=0) (Nat.zero_le _) he;exact q
 have Hrp:=Lib.hid hrp;have Hpl:=Lib.hid hpl;clear hrp hpl;generalize readP b h=RP at *;generalize Frm.errAt b 0=E at *;generalize Frm.toAt b 0=T at *;generalize Frm.payAt b 0=P at *;go_enter Tryz.func76,Tryz.ntmps76
 go_wp2_with fail
 refine hcall.mono ?_;rintro e w1 ⟨r,rfl,own1,b1⟩;clear hcall;have k1:=ka.ext b1;have z1:Below w.heap.size w w1:=ca.trans (b1.mono (by simp));have hs1:=b1.size
 by_cases hE:E=0
 ·have hEi:((E:Int) !=0)=false:=by simp [hE]
  by_cases hT:T=(b.length:Int)
  ·have hTi:(T !=(b.length:Int))=false:=by simp [hT]
   have Hr1:=Lib.hid (Hrp.out.trans (if_pos ⟨hE,hT⟩));have hP:=Hpl.out hE;clear Hrp Hpl hT hE;go_wp2_with fail
   refine (packRead r P w1 own1.bytes (by omega)).mono ?_;rintro e w2 ⟨gr,vr,rfl,rd2,hgr,_,b2⟩;have k2:RdK w w2 w.heap.size gr vr (rd0 P) #[.int .i64 h.term,.int .i64 h.vote,.int .i64 h.base,.int .i64 h.bterm,.int .i64 h.members,.string h.snap,.slice pu h.log.length cu] 24:=⟨rd2,k1.ext b2,z1.trans (b2.mono z1.size),by simp at hs1;omega,by simp at hs1;omega⟩;have hpi:=fun N1 N2 N3 S E a1 a2 a3 a4 a5=>Hr1.out.trans (parseP_if P h (N1:=N1) (N2:=N2) (N3:=N3) (S:=S) (E:=E) a1 a2 a3 a4 a5);have Hpi:=Lib.hid hpi;clear hpi Hr1 own1 k1 z1 hs1 b1 b2 rd2 ka ca hgr;go_wp2_with fail
   refine (rdrNum gr vr _ w2 k2.rd).mono ?_;rintro e w3 ⟨rfl,rd3,c3⟩;have k3:=k2.step rd3 c3;obtain ⟨N1,hN1⟩:∃ N1,rNum (rd0 P)=N1:=⟨_,rfl⟩;rw [hN1] at k3 ⊢;clear rd3 c3 k2;have HN1:=Lib.hid hN1;clear hN1;go_wp2_with fail
   refine (rdrNum gr vr _ w3 k3.rd).mono ?_;rintro e w4 ⟨rfl,rd4,c4⟩;have k4:=k3.step rd4 c4;obtain ⟨N2,hN2⟩:∃ N2,rNum N1.2=N2:=⟨_,rfl⟩;rw [hN2] at k4 ⊢;clear rd4 c4 k3;have HN2:=Lib.hid hN2;clear hN2;go_wp2_with fail
   refine (rdrNum gr vr _ w4 k4.rd).mono ?_;rintro e w5 ⟨rfl,rd5,c5⟩;have k5:=k4.step rd5 c5;obtain ⟨N3,hN3⟩:∃ N3,rNum N2.2=N3:=⟨_,rfl⟩;rw [hN3] at k5 ⊢;clear rd5 c5 k4;have HN3:=Lib.hid hN3;clear hN3;go_wp2_with fail
   refine (rdrText gr vr _ 65536 w5 k5.rd).mono ?_;rintro e w6 ⟨rfl,rd6,c6⟩;have k6:=k5.step rd6 c6;obtain ⟨S,hS⟩:∃ S,rText 65536 N3.2=S:=⟨_,rfl⟩;rw [hS] at k6 ⊢;clear rd6 c6 k5;have HS:=Lib.hid hS;clear hS;go_wp2_with fail
   refine (rdrEnd gr vr _ w6 k6.rd).mono ?_;rintro e w7 ⟨rfl,rd7,c7⟩;have k7:=k6.step rd7 c7;obtain ⟨E5,hE5⟩:∃ E5,(rEnd S.2).1=E5:=⟨_,rfl⟩;rw [hE5];clear rd7 c7 k6;have Hfin:=Lib.hid (Hpi.out _ _ _ _ _ HN1.out HN2.out HN3.out HS.out hE5);clear Hpi HN1 HN2 HN3 HS hE5;obtain ⟨n1,m1⟩:=N1;obtain ⟨n2,m2⟩:=N2;obtain ⟨n3,m3⟩:=N3;obtain ⟨s,m4⟩:=S;dsimp only at *;have y2:=k7.kb.cell 2 _ rfl;have y3:=k7.kb.cell 3 _ rfl;have y4:=k7.kb.cell 4 _ rfl;have bel:=k7.bel;clear k7
   by_cases g1:E5=0
   case neg =>
    have t1:(E5 == 0)=false:=by simpa using g1
    have Hz:=Lib.hid (Hfin.out.trans (if_neg (fun q=>g1 q.1)));clear g1 Hfin;go_wp2_with fail
    refine bodyPost_ret (v:=.tuple #[.string ⟨#[]⟩,.bool false]) (by simp [results,Tryz.results76,go_sem]) rfl ?_;rw [Hz.out];exact ⟨rfl,bel⟩
   have t1:(E5 == 0)=true:=by simpa using g1
   by_cases g2:n1=h.base
   case neg =>
    have t2:(n1 == h.base)=false:=by simpa using g2
    have Hz:=Lib.hid (Hfin.out.trans (if_neg (fun q=>g2 q.2.1)));clear g1 g2 Hfin;go_wp2_with fail
    refine bodyPost_ret (v:=.tuple #[.string ⟨#[]⟩,.bool false]) (by simp [results,Tryz.results76,go_sem]) rfl ?_;rw [Hz.out];exact ⟨rfl,bel⟩
   have t2:(n1 == h.base)=true:=by simpa using g2
   by_cases g3:n2=h.bterm
   case neg =>
    have t3:(n2 == h.bterm)=false:=by simpa using g3
    have Hz:=Lib.hid (Hfin.out.trans (if_neg (fun q=>g3 q.2.2.1)));clear g1 g2 g3 Hfin;go_wp2_with fail
    refine bodyPost_ret (v:=.tuple #[.string ⟨#[]⟩,.bool false]) (by simp [results,Tryz.results76,go_sem]) rfl ?_;rw [Hz.out];exact ⟨rfl,bel⟩
   have t3:(n2 == h.bterm)=true:=by simpa using g3
   by_cases g4:n3=h.members
   case neg =>
    have t4:(n3 == h.members)=false:=by simpa using g4
    have Hz:=Lib.hid (Hfin.out.trans (if_neg (fun q=>g4 q.2.2.2.1)));clear g1 g2 g3 g4 Hfin;go_wp2_with fail
    refine bodyPost_ret (v:=.tuple #[.string ⟨#[]⟩,.bool false]) (by simp [results,Tryz.results76,go_sem]) rfl ?_;rw [Hz.out];exact ⟨rfl,bel⟩
   have t4:(n3 == h.members)=true:=by simpa using g4
   by_cases g5:s=[]
   ·have Hz:=Lib.hid (Hfin.out.trans (if_neg (fun q=>q.2.2.2.2 g5)));subst g5;clear g1 g2 g3 g4 Hfin;go_wp2_with fail
    refine bodyPost_ret (v:=.tuple #[.string ⟨#[]⟩,.bool false]) (by simp [results,Tryz.results76,go_sem]) rfl ?_;rw [Hz.out];exact ⟨rfl,bel⟩
   ·have Hz:=Lib.hid (Hfin.out.trans (if_pos ⟨g1,g2,g3,g4,g5⟩));have t5:s.isEmpty=false:=by cases s;exact absurd rfl g5;rfl
    clear g1 g2 g3 g4 g5 Hfin;go_wp2_with fail
    refine bodyPost_ret (v:=.tuple #[.string ⟨s.toArray⟩,.bool true]) (by simp [results,Tryz.results76,go_sem]) rfl ?_;rw [Hz.out];exact ⟨rfl,bel⟩
  ·have hTi:(T !=(b.length:Int))=true:=by simpa using hT
   have Hz:=Lib.hid (Hrp.out.trans (if_neg (fun q=>hT q.2)));clear Hrp Hpl hT;go_wp2_with fail
   refine bodyPost_ret (v:=.tuple #[.string ⟨#[]⟩,.bool false]) (by simp [results,Tryz.results76,go_sem]) rfl ?_;rw [Hz.out];exact ⟨rfl,z1⟩
 ·have hEi:((E:Int) !=0)=true:=by simp;omega
  have Hz:=Lib.hid (Hrp.out.trans (if_neg (fun q=>hE q.1)));clear Hrp Hpl hE;go_wp2_with fail
  refine bodyPost_ret (v:=.tuple #[.string ⟨#[]⟩,.bool false]) (by simp [results,Tryz.results76,go_sem]) rfl ?_;rw [Hz.out];exact ⟨rfl,z1⟩
end
end Go.Proofs.YtgpgcnmnfnnkjaaGreatDoor
