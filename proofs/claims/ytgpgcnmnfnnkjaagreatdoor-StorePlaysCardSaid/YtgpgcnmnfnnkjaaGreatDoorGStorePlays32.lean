import Derived.Test.YtgpgcnmnfnnkjaaGreatDoorGStorePlays31
import Derived.Test.YtgpgcnmnfnnkjaaGreatDoorGStorePlays21
set_option linter.unusedVariables false
set_option linter.unusedSimpArgs false
set_option maxRecDepth 100000
set_option maxHeartbeats 16000000
namespace Go.Proofs.YtgpgcnmnfnnkjaaGreatDoor
section
open Go Go.RowKit Go.PlainAid BigFrame
theorem digsR_W:∀ (l:List UInt8) (n:Nat),digsR l n=if (∀ c ∈ l,digB c=true) then (digsW l n:Int) else -1
 | [],n=>by rw [if_pos (by simp)];rfl
 | c::r,n=>by
  by_cases hc:digB c=true
  ·rw [digsR_cons _ _ hc,digsR_W r,digsW_cons _ _ hc]
   by_cases hr:∀ c ∈ r,digB c=true
   ·rw [if_pos hr,if_pos (by intro x hx;rcases List.mem_cons.1 hx with rfl | hx;exact hc;exact hr x hx)]
   ·rw [if_neg hr,if_neg (fun h=>hr fun x hx=>h x (by simp [hx]))]
  ·rw [digsR_bad _ _ hc,if_neg (fun h=>hc (h c (by simp)))]
theorem numR_W (s:ByteArray):numR hdW (bytesOf s)=if numW s=0 then -1 else (numW s:Int):=by
 have hs:(bytesOf s).length=s.size:=bytes_size s;have h4:hdW.length=4:=rfl;unfold numR numW;rw [h4]
 by_cases hc:s.size≤4∨(bytesOf s).take 4≠hdW∨18<s.size∨(bytesOf s)[4]?=some 48
 ·rw [if_pos (by rw [hs];rcases hc with h | h | h | h;exact .inl h;exact .inr (.inl h);exact .inr (.inr (.inl (by omega)));exact .inr (.inr (.inr h))),if_pos hc,if_pos rfl]
 ·rw [if_neg (by rw [hs];rintro (h | h | h | h);exact hc (.inl h);exact hc (.inr (.inl h));exact hc (.inr (.inr (.inl (by omega))));exact hc (.inr (.inr (.inr h)))),if_neg hc,digsR_W];have hl:¬ s.size≤4:=fun h=>hc (.inl h);have hd:((bytesOf s).drop 4).head?≠some 48:=by
   rw [List.head?_drop];exact fun h=>hc (.inr (.inr (.inr h)))
  have hp:0<((bytesOf s).drop 4).length:=by rw [List.length_drop,hs];omega
  generalize (bytesOf s).drop 4=l at *
  by_cases ha:∀ c ∈ l,digB c=true
  ·rw [if_pos ha,if_neg];intro hz;rw [digsW_val l 0 ha] at hz;obtain ⟨_,h2⟩:=valW_zero l 0 ha hz
   cases l with
   | nil=>simp at hp
   | cons c r=>exact hd (by rw [h2 c (by simp)];rfl)
  ·have hz:digsW l 0=0:=digsW_zero l 0 (by
    refine Decidable.by_contra fun hn=>ha fun c hc=>?_
    cases hb:digB c with
    | true=>rfl
    | false=>exact absurd ⟨c,hc,hb⟩ hn)
   rw [if_neg ha,hz,if_pos rfl]
def fallW (l:List ByteArray):List Nat:=(segsW l).reverse
def fallS (out:List Nat) (s:ByteArray):List Nat:=if numW s=0 then out else (insW out.reverse (numW s)).reverse
theorem fall_fold:∀ (l:List ByteArray) (out:List Nat),(l.foldl segStep out).reverse=l.foldl fallS out.reverse
 | [],_=>rfl
 | s::r,out=>by
  rw [List.foldl_cons,List.foldl_cons,fall_fold r]
  congr 1
  unfold segStep fallS
  split
  ·rfl
  ·rw [List.reverse_reverse]
theorem fallW_eq (l:List ByteArray):fallW l=l.foldl fallS []:=fall_fold l []
theorem fallS_length (out:List Nat) (s:ByteArray):(fallS out s).length≤out.length+1:=by
 unfold fallS;split
 ·omega
 ·rw [List.length_reverse,insW_length,List.length_reverse];exact Nat.le_refl _
theorem foldl_fall_len:∀ (l:List ByteArray) (out:List Nat),(l.foldl fallS out).length≤out.length+l.length
 | [],out=>by simp
 | s::r,out=>by
  rw [List.foldl_cons];have h1:=foldl_fall_len r (fallS out s);have h2:=fallS_length out s;rw [List.length_cons];omega
theorem subV_own {v:Value} {i j sz k:Nat} (h:(subV v i j sz).ownBlock=some k):v.ownBlock=some k:=by
 cases v with
 | slice p n c =>
  change (Value.slice (subP p c i sz) (j - i) (c - i)).ownBlock=some k at h
  by_cases e:c=i
  ·have e1:subP p c i sz=p:=if_pos e;rw [e1] at h
   cases p with
   | none=>simp [Value.ownBlock] at h
   | some a=>exact h
  ·have e1:subP p c i sz=p.map (·.add (i * sz)):=if_neg e;rw [e1] at h
   cases p with
   | none=>simp [Value.ownBlock] at h
   | some a =>
    have e2:(a.add (i * sz)).block=a.block:=by unfold Addr.add;split<;>rfl
    have e3:(a.add (i * sz)).block=k:=by simpa [Value.ownBlock] using h
    show some a.block=some k
    rw [←e2,e3]
 | _=>exact h
def FallI (w:World) (d:Dk) (e:Ending) (w':World):Prop:=∃ r,e=.returned r∧OwnR intsE w' w.heap.size 3 r (natI (fallW (d.fs.map (·.name))))∧Below w.heap.size w w'
theorem rkSegments {w0 w:World} {X:Nat→Prop} {g:Nat} {d:Dk} (h:RfS w0 X g d w) (ok:okD d=true) (hnam:∀ f ∈ d.fs,namedD f.name=true) :
 Calls Tryz.prog 42 #[.pointer (some ⟨g,0,none⟩)] w (FallI w d):=by
 have hlen:=(okD_spec ok).2;have hcall:=rNames h ok;have hln:(d.fs.map (·.name)).length≤999999:=by simpa using hlen
 have hnm:∀ s ∈ d.fs.map (·.name),s.size≤4611686018427387904:=fun s hs=>by
  obtain ⟨f,hf,rfl⟩:=List.mem_map.1 hs;have:=hnam f hf;unfold namedD at this;simp only [Bool.and_eq_true,decide_eq_true_eq] at this
  omega
 clear hlen h ok hnam;unfold FallI;rw [fallW_eq];generalize d.fs.map (·.name)=N at *;go_enter Tryz.func42,Tryz.ntmps42
 go_wp2_with fail
 refine hcall.mono ?_;rintro e w1 ⟨⟨rn,rfl,ownN⟩,b1⟩;have rN:=ownN.rd;obtain ⟨pn,cn,rfl⟩:=rN.shape;clear ownN hcall;have hs1:=b1.size;go_wp2_with fail
 go_loopw [3,5] (fun o i wr=>∃ k:Nat,k≤N.length∧i=.int .i64 k∧OwnR intsE wr w1.heap.size 3 o (natI ((N.take k).foldl fallS []))∧Below w1.heap.size w1 wr) (fun _ i _=>N.length - (intOf i).toNat)
 case atStart=>exact ⟨0,by omega,rfl,OwnR.nil _ _ _,Below.refl _ _⟩
 case round =>
  obtain ⟨k,hk,rfl,own,hbw⟩:=hrel
  by_cases hlt:k<N.length
  ·have rNr:=rN.ext hbw;obtain ⟨bb,off,rfl⟩:=Rd.blk rNr (by omega);have c0:wr.cell? ⟨bb,off+k,none⟩=some (.string N[k]):=by have:=rNr.at_ hlt 0 (by decide);simpa [strE] using this
   have hst:(N.take (k+1)).foldl fallS []=fallS ((N.take k).foldl fallS []) N[k]:=by rw [List.take_succ_eq_append_getElem hlt,List.foldl_append];rfl
   have hol:=foldl_fall_len (N.take k) [];rw [List.length_take,Nat.min_eq_left hk,List.length_nil] at hol;have Hst:=Lib.hid hst;have hi:(k:Int)<(N.length:Int):=by omega
   have hi0:(0:Int)≤(k:Int):=by omega
   have hsz:=hbw.size;have hnum:=numW_lt N[k];have hnk:=hnm N[k] (List.getElem_mem hlt);clear hst;generalize N[k]=s at *;generalize (N.take k).foldl fallS []=out at *;go_wp2_with fail
   have hcn:=rkNumberedW (bytesOf s) (by rw [bytes_size];exact hnk) wr;rw [numR_W] at hcn;refine hcn.mono ?_;rintro e w2 ⟨rfl,hw2⟩;subst hw2;clear hcn;obtain ⟨po,co,rfl⟩:=own.rd.shape;rw [natI_length] at own ⊢
   by_cases hz:numW s=0
   ·have hss:fallS out s=out:=if_pos hz;have Hss:=Lib.hid hss;rw [if_pos hz];clear hss hz;go_wp2_with fail
    go_roundw
    case rel=>exact ⟨k+1,by omega,by go_num,by rw [Hst.out,Hss.out];unfold OwnR;rw [natI_length];unfold OwnR at own;rw [natI_length] at own;exact own,hbw⟩
    case measure=>simp [intOf];omega
   ·have hss:fallS out s=(insW out.reverse (numW s)).reverse:=if_neg hz;have Hss:=Lib.hid hss;rw [if_neg hz];clear hss hz;generalize numW s=n at *;have hn0:¬ (n:Int)<0:=by omega
    go_wp2_with fail
    go_loopw [7] (fun q wi=>∃ j:Nat,j≤out.length∧q=.int .i64 j∧Hid (∀ i,i<j→n<out.getD i 0)∧wi=wr) (fun q _=>out.length - (intOf q).toNat)
    case atStart=>exact ⟨0,Nat.zero_le _,rfl,fun i hi=>absurd hi (Nat.not_lt_zero i),rfl⟩
    case round =>
     obtain ⟨j,hj,rfl,hpre,hw⟩:=hrel;subst hw;have hstop:(j<out.length∧n<out.getD j 0)∨(j<out.length→out.getD j 0≤n):=by
      by_cases hjl:j<out.length
      ·by_cases hg:n<out.getD j 0
       ·exact .inl ⟨hjl,hg⟩
       ·exact .inr fun _=>by omega
      ·exact .inr fun h=>absurd h hjl
     rcases hstop with ⟨hjl,hg⟩ | hend
     ·obtain ⟨bo,oo,rfl⟩:=Rd.blk own.rd (by rw [natI_length];omega);have hgd:out.getD j 0=out[j]:=by rw [List.getD_eq_getElem?_getD,List.getElem?_eq_getElem hjl];rfl
      have cj:wr.cell? ⟨bo,oo+j,none⟩=some (.int .i64 (out[j]:Nat)):=by
       have:=own.rd.at_ (k:=j) (by rw [natI_length];exact hjl) 0 (by decide)
       simpa [intsE,natI] using this
      rw [hgd] at hg;have hgi:(n:Int)<(out[j]:Int):=by omega
      have hji:(j:Int)<(out.length:Int):=by omega
      have hj0:(0:Int)≤(j:Int):=by omega
      have hpre2:Hid (∀ i,i<j+1→n<out.getD i 0):=fun i hi=>by
       by_cases e:i=j
       ·rw [e,hgd];exact hg
       ·exact hpre.out i (by omega)
      clear hgd;generalize out[j]=y at *;go_wp2_with fail
      go_roundw
      case rel=>exact ⟨j+1,by omega,by go_num,hpre2,by first | rfl | trivial⟩
      case measure=>simp [intOf];omega
     ·have hins:out.take j++n::out.drop j=(insW out.reverse n).reverse:=ins_fall hj hpre.out hend;have Hins:=Lib.hid hins;have hA:=run_sub_to tIntsW (P:=Tryz.prog) own.rd .i64 (j:Int) j rfl (by rw [natI_length];exact hj);have hB:=run_sub_from tIntsW (P:=Tryz.prog) own.rd .i64 (j:Int) j rfl (by rw [natI_length];exact hj);have rA:=own.rd.sub 0 j (Nat.zero_le _) (by rw [natI_length];exact hj);have rB:=own.rd.sub j out.length hj (by rw [natI_length];exact Nat.le_refl _);rw [show intsE.sz=1 from rfl] at rA rB;rw [natI_length] at hB
      rw [show ((natI out).drop 0).take (j - 0)=(natI out).take j from by simp] at rA;rw [show ((natI out).drop j).take (out.length - j)=(natI out).drop j from List.take_of_length_le (by rw [List.length_drop,natI_length];exact Nat.le_refl _)] at rB;have hbo:=fun k hk=>(own.lt k hk).2;have hAo:∀ k,(subV (.slice po out.length co) 0 j 1).ownBlock=some k→k<wr.heap.size:=fun k hk=>hbo k (subV_own hk);have hBo:∀ k,(subV (.slice po out.length co) j out.length 1).ownBlock=some k→k<wr.heap.size:=fun k hk=>hbo k (subV_own hk);generalize subV (.slice po out.length co) 0 j 1=vA at *
      generalize subV (.slice po out.length co) j out.length 1=vB at *;have hta:((natI out).take j).length≤999999:=by rw [List.length_take,natI_length];omega
      have htb:((natI out).drop j).length≤999999:=by rw [List.length_drop,natI_length];omega
      have hni:natI (out.take j++n::out.drop j)=(natI out).take j++[(n:Int)]++(natI out).drop j:=by unfold natI;rw [List.map_append,List.map_cons,List.map_take,List.map_drop];simp
      have Hni:=Lib.hid hni;clear hins hni hpre;have hcond:((j:Int)<(out.length:Int))∨¬ ((j:Int)<(out.length:Int)):=Decidable.em _;have bD:=below_drew wr.heap.size wr
      rcases hcond with hji | hji
      ·obtain ⟨bo,oo,rfl⟩:=Rd.blk own.rd (by rw [natI_length];omega);have hjl:j<out.length:=by omega
       have hgd:out.getD j 0=out[j]:=by rw [List.getD_eq_getElem?_getD,List.getElem?_eq_getElem hjl];rfl
       have cj:wr.cell? ⟨bo,oo+j,none⟩=some (.int .i64 (out[j]:Nat)):=by
        have:=own.rd.at_ (k:=j) (by rw [natI_length];exact hjl) 0 (by decide)
        simpa [intsE,natI] using this
       have hg:=hend hjl;rw [hgd] at hg;have hgi:¬ (n:Int)<(out[j]:Int):=by omega
       have hj0:(0:Int)≤(j:Int):=by omega
       clear hgd hg hend;generalize out[j]=y at *;go_wp2_with fail
       refine wp_region_F (n:=12) (S:=fun _=>True) (by kernel_rfl) ?_;have hHeld:(fun _:World=>True) wr.drew:=trivial;refine tk ?_ 1 ?_ hHeld ?_;rotate_left
       ·intro w hSw;(try dsimp only at hSw);dsimp only [bare];go_simp<;>with_reducible rfl
       try simp only [lyB,lyP,lyA,lyZ,lyS]
       refine tk ?_ 2 ?_ hHeld ?_;rotate_left
       ·intro w hSw;(try dsimp only at hSw);dsimp only [bare];go_simp<;>with_reducible rfl
       try simp only [lyB,lyP,lyA,lyZ,lyS]
       refine tk ?_ 3 ?_ hHeld ?_;rotate_left
       ·intro w hSw;(try dsimp only at hSw);dsimp only [bare];go_simp<;>with_reducible rfl
       try simp only [lyB,lyP,lyA,lyZ,lyS]
       refine tk ?_ 5 ?_ hHeld ?_;rotate_left
       ·intro w hSw;(try dsimp only at hSw);dsimp only [bare];go_simp<;>with_reducible rfl
       try simp only [lyB,lyP,lyA,lyZ,lyS]
       refine tk ?_ 8 ?_ hHeld ?_;rotate_left
       ·intro w hSw;(try dsimp only at hSw);dsimp only [bare];go_simp<;>with_reducible rfl
       try simp only [lyB,lyP,lyA,lyZ,lyS]
       refine tk ?_ 9 ?_ hHeld ?_;rotate_left
       ·intro w hSw;(try dsimp only at hSw);dsimp only [bare];go_simp<;>with_reducible rfl
       try simp only [lyB,lyP,lyA,lyZ,lyS]
       refine tk ?_ 10 ?_ hHeld ?_;rotate_left
       ·intro w hSw;(try dsimp only at hSw);dsimp only [bare];go_simp<;>with_reducible rfl
       try simp only [lyB,lyP,lyA,lyZ,lyS]
       refine wpAnyF_two 0 6 (some 37) (Op.buildSlice 55 0 #[]) 55 (some 43) (Op.buildSlice 55 1 #[(0,Operand.tmp 42)]) 55 rfl rfl (by kernel_rfl) (fun K hK=>?_) (fun K hK=>?_)
       ·have ownE:=OwnR.litAt intsE wr.drew #[] 3 [] 0 wr.heap.size wr.drew.heap.size rfl rfl rfl (Nat.zero_le _) bD.size;have bE:=bD.trans ((below_alloc wr.drew (.cells #[] 3)).mono bD.size);dsimp only [bare];go_simp;refine hK _ _ trivial (fun hHeld=>?_);clear hK K
        try simp only [lyB,lyP,lyA,lyZ,lyS]
        refine wpAnyF_two 4 6 (some 41) (Op.call { callee:=Callee.builtin Builtin.append,args:=#[Operand.tmp 37,Operand.tmp 40],argTypes:=#[55,55] }) 55 (some 43) (Op.buildSlice 55 1 #[(0,Operand.tmp 42)]) 55 rfl rfl (by kernel_rfl) (fun K hK=>?_) (fun K hK=>?_)
        ·refine step_appR (E:=intsE) (s:=.tmp 37) (y:=.tmp 40) (B:=wr.heap.size) (l:=[]) (m:=(natI out).take j) tIntsW rfl rfl ownE (by simp [Act.eval,Act.put]) (rA.ext bE) (by simp [Act.eval,Act.put]) (by simp only [List.nil_append,List.length_nil,List.length_append,List.length_singleton];omega) bE.size ?_;intro v8 w8 own8 g8 b8;have bF:=bE.trans b8;refine hK _ _ trivial (fun hHeld=>?_);clear hK K
         try simp only [lyB,lyP,lyA,lyZ,lyS]
         refine wpAnyF_one 6 _ _ _ rfl (by kernel_rfl) (fun K hK=>?_);have ownL:=OwnR.litAt intsE w8 #[.int .i64 (n:Int)] 3 [(n:Int)] 1 wr.heap.size w8.heap.size rfl rfl rfl (by unfold maxLen;omega) bF.size;have bG:=bF.trans ((below_alloc w8 (.cells #[.int .i64 (n:Int)] 3)).mono bF.size);have own9:=own8.ext (below_alloc w8 (.cells #[.int .i64 (n:Int)] 3));dsimp only [bare];go_simp;refine hK _ _ trivial (fun hHeld=>?_);clear hK K
         try simp only [lyB,lyP,lyA,lyZ,lyS]
         refine wpAnyF_one 7 _ _ _ rfl (by kernel_rfl) (fun K hK=>?_);refine step_appR (E:=intsE) (s:=.tmp 41) (y:=.tmp 43) (B:=wr.heap.size) (l:=[]++(natI out).take j) (m:=[(n:Int)]) tIntsW rfl rfl own9 (by simp [Act.eval,Act.put]) ownL.rd (by simp [Act.eval,Act.put]) (by simp only [List.nil_append,List.length_nil,List.length_append,List.length_singleton];omega) bG.size ?_;intro v9 w9 own10 g9 b9;have bH:=bG.trans b9;refine hK _ _ trivial (fun hHeld=>?_);clear hK K
         try simp only [lyB,lyP,lyA,lyZ,lyS]
         refine wpAnyF_one 11 _ _ _ rfl (by kernel_rfl) (fun K hK=>?_);refine step_appR (E:=intsE) (s:=.tmp 44) (y:=.tmp 47) (B:=wr.heap.size) (l:=[]++(natI out).take j++[(n:Int)]) (m:=(natI out).drop j) tIntsW rfl rfl own10 (by simp [Act.eval,Act.put]) (rB.ext bH) (by simp [Act.eval,Act.put]) (by simp only [List.nil_append,List.length_nil,List.length_append,List.length_singleton];omega) bH.size ?_;intro v10 w10 own11 g10 b10;have bI:=bH.trans b10;refine hK _ _ trivial (fun hHeld=>?_);clear hK K
         try simp only [lyB,lyP,lyA,lyZ,lyS]
         refine wpAnyF_end (some 3) (Op.assign (Operand.tmp 48)) 55 rfl (by kernel_rfl) (by kernel_rfl) (fun K hK=>?_);dsimp only [bare];go_simp;refine hK _ _ ?_;clear hK K
         try simp only [lyB,lyP,lyA,lyZ,lyS]
         rw [List.nil_append] at own11;have Own:=Lib.hid own11;clear own11 own10;go_wp2_with fail
         go_roundw
         case rel=>exact ⟨k+1,by omega,by go_num,by rw [Hst.out,Hss.out, ←Hins.out,Hni.out];exact Own.out.base hsz,hbw.trans (bI.mono hsz)⟩
         case measure=>simp [intOf];omega
        ·have ownL:=OwnR.litAt intsE (wr.drew.alloc (.cells #[] 3)) #[.int .i64 (n:Int)] 3 [(n:Int)] 1 wr.heap.size (wr.drew.alloc (.cells #[] 3)).heap.size rfl rfl rfl (by unfold maxLen;omega) bE.size;have bF:=bE.trans ((below_alloc (wr.drew.alloc (.cells #[] 3)) (.cells #[.int .i64 (n:Int)] 3)).mono bE.size);have ownE2:=ownE.ext (below_alloc (wr.drew.alloc (.cells #[] 3)) (.cells #[.int .i64 (n:Int)] 3));dsimp only [bare];go_simp;refine hK _ _ trivial (fun hHeld=>?_);clear hK K
         try simp only [lyB,lyP,lyA,lyZ,lyS]
         refine wpAnyF_one 4 _ _ _ rfl (by kernel_rfl) (fun K hK=>?_);refine step_appR (E:=intsE) (s:=.tmp 37) (y:=.tmp 40) (B:=wr.heap.size) (l:=[]) (m:=(natI out).take j) tIntsW rfl rfl ownE2 (by simp [Act.eval,Act.put]) (rA.ext bF) (by simp [Act.eval,Act.put]) (by simp only [List.nil_append,List.length_nil,List.length_append,List.length_singleton];omega) bF.size ?_;intro v8 w8 own8 g8 b8;have bG:=bF.trans b8;have rL:=ownL.rd.grown g8 (.inr (by simp [Value.ownBlock]));refine hK _ _ trivial (fun hHeld=>?_);clear hK K
         try simp only [lyB,lyP,lyA,lyZ,lyS]
         refine wpAnyF_one 7 _ _ _ rfl (by kernel_rfl) (fun K hK=>?_);refine step_appR (E:=intsE) (s:=.tmp 41) (y:=.tmp 43) (B:=wr.heap.size) (l:=[]++(natI out).take j) (m:=[(n:Int)]) tIntsW rfl rfl own8 (by simp [Act.eval,Act.put]) rL (by simp [Act.eval,Act.put]) (by simp only [List.nil_append,List.length_nil,List.length_append,List.length_singleton];omega) bG.size ?_;intro v9 w9 own10 g9 b9;have bH:=bG.trans b9;refine hK _ _ trivial (fun hHeld=>?_);clear hK K
         try simp only [lyB,lyP,lyA,lyZ,lyS]
         refine wpAnyF_one 11 _ _ _ rfl (by kernel_rfl) (fun K hK=>?_);refine step_appR (E:=intsE) (s:=.tmp 44) (y:=.tmp 47) (B:=wr.heap.size) (l:=[]++(natI out).take j++[(n:Int)]) (m:=(natI out).drop j) tIntsW rfl rfl own10 (by simp [Act.eval,Act.put]) (rB.ext bH) (by simp [Act.eval,Act.put]) (by simp only [List.nil_append,List.length_nil,List.length_append,List.length_singleton];omega) bH.size ?_;intro v10 w10 own11 g10 b10;have bI:=bH.trans b10;refine hK _ _ trivial (fun hHeld=>?_);clear hK K
         try simp only [lyB,lyP,lyA,lyZ,lyS]
         refine wpAnyF_end (some 3) (Op.assign (Operand.tmp 48)) 55 rfl (by kernel_rfl) (by kernel_rfl) (fun K hK=>?_);dsimp only [bare];go_simp;refine hK _ _ ?_;clear hK K
         try simp only [lyB,lyP,lyA,lyZ,lyS]
         rw [List.nil_append] at own11;have Own:=Lib.hid own11;clear own11 own10;go_wp2_with fail
         go_roundw
         case rel=>exact ⟨k+1,by omega,by go_num,by rw [Hst.out,Hss.out, ←Hins.out,Hni.out];exact Own.out.base hsz,hbw.trans (bI.mono hsz)⟩
         case measure=>simp [intOf];omega
       ·have ownL:=OwnR.litAt intsE wr.drew #[.int .i64 (n:Int)] 3 [(n:Int)] 1 wr.heap.size wr.drew.heap.size rfl rfl rfl (by unfold maxLen;omega) bD.size;have bE:=bD.trans ((below_alloc wr.drew (.cells #[.int .i64 (n:Int)] 3)).mono bD.size);dsimp only [bare];go_simp;refine hK _ _ trivial (fun hHeld=>?_);clear hK K
        try simp only [lyB,lyP,lyA,lyZ,lyS]
        refine wpAnyF_one 0 _ _ _ rfl (by kernel_rfl) (fun K hK=>?_);have ownE:=OwnR.litAt intsE (wr.drew.alloc (.cells #[.int .i64 (n:Int)] 3)) #[] 3 [] 0 wr.heap.size (wr.drew.alloc (.cells #[.int .i64 (n:Int)] 3)).heap.size rfl rfl rfl (Nat.zero_le _) bE.size;have bF:=bE.trans ((below_alloc (wr.drew.alloc (.cells #[.int .i64 (n:Int)] 3)) (.cells #[] 3)).mono bE.size);have rL1:=(ownL.ext (below_alloc (wr.drew.alloc (.cells #[.int .i64 (n:Int)] 3)) (.cells #[] 3))).rd;dsimp only [bare];go_simp;refine hK _ _ trivial (fun hHeld=>?_);clear hK K
        try simp only [lyB,lyP,lyA,lyZ,lyS]
        refine wpAnyF_one 4 _ _ _ rfl (by kernel_rfl) (fun K hK=>?_);refine step_appR (E:=intsE) (s:=.tmp 37) (y:=.tmp 40) (B:=wr.heap.size) (l:=[]) (m:=(natI out).take j) tIntsW rfl rfl ownE (by simp [Act.eval,Act.put]) (rA.ext bF) (by simp [Act.eval,Act.put]) (by simp only [List.nil_append,List.length_nil,List.length_append,List.length_singleton];omega) bF.size ?_;intro v8 w8 own8 g8 b8;have bG:=bF.trans b8;have rL:=rL1.grown g8 (.inr (by simp [Value.ownBlock]));refine hK _ _ trivial (fun hHeld=>?_);clear hK K
        try simp only [lyB,lyP,lyA,lyZ,lyS]
        refine wpAnyF_one 7 _ _ _ rfl (by kernel_rfl) (fun K hK=>?_);refine step_appR (E:=intsE) (s:=.tmp 41) (y:=.tmp 43) (B:=wr.heap.size) (l:=[]++(natI out).take j) (m:=[(n:Int)]) tIntsW rfl rfl own8 (by simp [Act.eval,Act.put]) rL (by simp [Act.eval,Act.put]) (by simp only [List.nil_append,List.length_nil,List.length_append,List.length_singleton];omega) bG.size ?_;intro v9 w9 own10 g9 b9;have bH:=bG.trans b9;refine hK _ _ trivial (fun hHeld=>?_);clear hK K
        try simp only [lyB,lyP,lyA,lyZ,lyS]
        refine wpAnyF_one 11 _ _ _ rfl (by kernel_rfl) (fun K hK=>?_);refine step_appR (E:=intsE) (s:=.tmp 44) (y:=.tmp 47) (B:=wr.heap.size) (l:=[]++(natI out).take j++[(n:Int)]) (m:=(natI out).drop j) tIntsW rfl rfl own10 (by simp [Act.eval,Act.put]) (rB.ext bH) (by simp [Act.eval,Act.put]) (by simp only [List.nil_append,List.length_nil,List.length_append,List.length_singleton];omega) bH.size ?_;intro v10 w10 own11 g10 b10;have bI:=bH.trans b10;refine hK _ _ trivial (fun hHeld=>?_);clear hK K
        try simp only [lyB,lyP,lyA,lyZ,lyS]
        refine wpAnyF_end (some 3) (Op.assign (Operand.tmp 48)) 55 rfl (by kernel_rfl) (by kernel_rfl) (fun K hK=>?_);dsimp only [bare];go_simp;refine hK _ _ ?_;clear hK K
        try simp only [lyB,lyP,lyA,lyZ,lyS]
        rw [List.nil_append] at own11;have Own:=Lib.hid own11;clear own11 own10;go_wp2_with fail
        go_roundw
        case rel=>exact ⟨k+1,by omega,by go_num,by rw [Hst.out,Hss.out, ←Hins.out,Hni.out];exact Own.out.base hsz,hbw.trans (bI.mono hsz)⟩
        case measure=>simp [intOf];omega
      ·clear hend;go_wp2_with fail
       refine wp_region_F (n:=12) (S:=fun _=>True) (by kernel_rfl) ?_;have hHeld:(fun _:World=>True) wr.drew:=trivial;refine tk ?_ 1 ?_ hHeld ?_;rotate_left
       ·intro w hSw;(try dsimp only at hSw);dsimp only [bare];go_simp<;>with_reducible rfl
       try simp only [lyB,lyP,lyA,lyZ,lyS]
       refine tk ?_ 2 ?_ hHeld ?_;rotate_left
       ·intro w hSw;(try dsimp only at hSw);dsimp only [bare];go_simp<;>with_reducible rfl
       try simp only [lyB,lyP,lyA,lyZ,lyS]
       refine tk ?_ 3 ?_ hHeld ?_;rotate_left
       ·intro w hSw;(try dsimp only at hSw);dsimp only [bare];go_simp<;>with_reducible rfl
       try simp only [lyB,lyP,lyA,lyZ,lyS]
       refine tk ?_ 5 ?_ hHeld ?_;rotate_left
       ·intro w hSw;(try dsimp only at hSw);dsimp only [bare];go_simp<;>with_reducible rfl
       try simp only [lyB,lyP,lyA,lyZ,lyS]
       refine tk ?_ 8 ?_ hHeld ?_;rotate_left
       ·intro w hSw;(try dsimp only at hSw);dsimp only [bare];go_simp<;>with_reducible rfl
       try simp only [lyB,lyP,lyA,lyZ,lyS]
       refine tk ?_ 9 ?_ hHeld ?_;rotate_left
       ·intro w hSw;(try dsimp only at hSw);dsimp only [bare];go_simp<;>with_reducible rfl
       try simp only [lyB,lyP,lyA,lyZ,lyS]
       refine tk ?_ 10 ?_ hHeld ?_;rotate_left
       ·intro w hSw;(try dsimp only at hSw);dsimp only [bare];go_simp<;>with_reducible rfl
       try simp only [lyB,lyP,lyA,lyZ,lyS]
       refine wpAnyF_two 0 6 (some 37) (Op.buildSlice 55 0 #[]) 55 (some 43) (Op.buildSlice 55 1 #[(0,Operand.tmp 42)]) 55 rfl rfl (by kernel_rfl) (fun K hK=>?_) (fun K hK=>?_)
       ·have ownE:=OwnR.litAt intsE wr.drew #[] 3 [] 0 wr.heap.size wr.drew.heap.size rfl rfl rfl (Nat.zero_le _) bD.size;have bE:=bD.trans ((below_alloc wr.drew (.cells #[] 3)).mono bD.size);dsimp only [bare];go_simp;refine hK _ _ trivial (fun hHeld=>?_);clear hK K
        try simp only [lyB,lyP,lyA,lyZ,lyS]
        refine wpAnyF_two 4 6 (some 41) (Op.call { callee:=Callee.builtin Builtin.append,args:=#[Operand.tmp 37,Operand.tmp 40],argTypes:=#[55,55] }) 55 (some 43) (Op.buildSlice 55 1 #[(0,Operand.tmp 42)]) 55 rfl rfl (by kernel_rfl) (fun K hK=>?_) (fun K hK=>?_)
        ·refine step_appR (E:=intsE) (s:=.tmp 37) (y:=.tmp 40) (B:=wr.heap.size) (l:=[]) (m:=(natI out).take j) tIntsW rfl rfl ownE (by simp [Act.eval,Act.put]) (rA.ext bE) (by simp [Act.eval,Act.put]) (by simp only [List.nil_append,List.length_nil,List.length_append,List.length_singleton];omega) bE.size ?_;intro v8 w8 own8 g8 b8;have bF:=bE.trans b8;refine hK _ _ trivial (fun hHeld=>?_);clear hK K
         try simp only [lyB,lyP,lyA,lyZ,lyS]
         refine wpAnyF_one 6 _ _ _ rfl (by kernel_rfl) (fun K hK=>?_);have ownL:=OwnR.litAt intsE w8 #[.int .i64 (n:Int)] 3 [(n:Int)] 1 wr.heap.size w8.heap.size rfl rfl rfl (by unfold maxLen;omega) bF.size;have bG:=bF.trans ((below_alloc w8 (.cells #[.int .i64 (n:Int)] 3)).mono bF.size);have own9:=own8.ext (below_alloc w8 (.cells #[.int .i64 (n:Int)] 3));dsimp only [bare];go_simp;refine hK _ _ trivial (fun hHeld=>?_);clear hK K
         try simp only [lyB,lyP,lyA,lyZ,lyS]
         refine wpAnyF_one 7 _ _ _ rfl (by kernel_rfl) (fun K hK=>?_);refine step_appR (E:=intsE) (s:=.tmp 41) (y:=.tmp 43) (B:=wr.heap.size) (l:=[]++(natI out).take j) (m:=[(n:Int)]) tIntsW rfl rfl own9 (by simp [Act.eval,Act.put]) ownL.rd (by simp [Act.eval,Act.put]) (by simp only [List.nil_append,List.length_nil,List.length_append,List.length_singleton];omega) bG.size ?_;intro v9 w9 own10 g9 b9;have bH:=bG.trans b9;refine hK _ _ trivial (fun hHeld=>?_);clear hK K
         try simp only [lyB,lyP,lyA,lyZ,lyS]
         refine wpAnyF_one 11 _ _ _ rfl (by kernel_rfl) (fun K hK=>?_);refine step_appR (E:=intsE) (s:=.tmp 44) (y:=.tmp 47) (B:=wr.heap.size) (l:=[]++(natI out).take j++[(n:Int)]) (m:=(natI out).drop j) tIntsW rfl rfl own10 (by simp [Act.eval,Act.put]) (rB.ext bH) (by simp [Act.eval,Act.put]) (by simp only [List.nil_append,List.length_nil,List.length_append,List.length_singleton];omega) bH.size ?_;intro v10 w10 own11 g10 b10;have bI:=bH.trans b10;refine hK _ _ trivial (fun hHeld=>?_);clear hK K
         try simp only [lyB,lyP,lyA,lyZ,lyS]
         refine wpAnyF_end (some 3) (Op.assign (Operand.tmp 48)) 55 rfl (by kernel_rfl) (by kernel_rfl) (fun K hK=>?_);dsimp only [bare];go_simp;refine hK _ _ ?_;clear hK K
         try simp only [lyB,lyP,lyA,lyZ,lyS]
         rw [List.nil_append] at own11;have Own:=Lib.hid own11;clear own11 own10;go_wp2_with fail
         go_roundw
         case rel=>exact ⟨k+1,by omega,by go_num,by rw [Hst.out,Hss.out, ←Hins.out,Hni.out];exact Own.out.base hsz,hbw.trans (bI.mono hsz)⟩
         case measure=>simp [intOf];omega
        ·have ownL:=OwnR.litAt intsE (wr.drew.alloc (.cells #[] 3)) #[.int .i64 (n:Int)] 3 [(n:Int)] 1 wr.heap.size (wr.drew.alloc (.cells #[] 3)).heap.size rfl rfl rfl (by unfold maxLen;omega) bE.size;have bF:=bE.trans ((below_alloc (wr.drew.alloc (.cells #[] 3)) (.cells #[.int .i64 (n:Int)] 3)).mono bE.size);have ownE2:=ownE.ext (below_alloc (wr.drew.alloc (.cells #[] 3)) (.cells #[.int .i64 (n:Int)] 3));dsimp only [bare];go_simp;refine hK _ _ trivial (fun hHeld=>?_);clear hK K
         try simp only [lyB,lyP,lyA,lyZ,lyS]
         refine wpAnyF_one 4 _ _ _ rfl (by kernel_rfl) (fun K hK=>?_);refine step_appR (E:=intsE) (s:=.tmp 37) (y:=.tmp 40) (B:=wr.heap.size) (l:=[]) (m:=(natI out).take j) tIntsW rfl rfl ownE2 (by simp [Act.eval,Act.put]) (rA.ext bF) (by simp [Act.eval,Act.put]) (by simp only [List.nil_append,List.length_nil,List.length_append,List.length_singleton];omega) bF.size ?_;intro v8 w8 own8 g8 b8;have bG:=bF.trans b8;have rL:=ownL.rd.grown g8 (.inr (by simp [Value.ownBlock]));refine hK _ _ trivial (fun hHeld=>?_);clear hK K
         try simp only [lyB,lyP,lyA,lyZ,lyS]
         refine wpAnyF_one 7 _ _ _ rfl (by kernel_rfl) (fun K hK=>?_);refine step_appR (E:=intsE) (s:=.tmp 41) (y:=.tmp 43) (B:=wr.heap.size) (l:=[]++(natI out).take j) (m:=[(n:Int)]) tIntsW rfl rfl own8 (by simp [Act.eval,Act.put]) rL (by simp [Act.eval,Act.put]) (by simp only [List.nil_append,List.length_nil,List.length_append,List.length_singleton];omega) bG.size ?_;intro v9 w9 own10 g9 b9;have bH:=bG.trans b9;refine hK _ _ trivial (fun hHeld=>?_);clear hK K
         try simp only [lyB,lyP,lyA,lyZ,lyS]
         refine wpAnyF_one 11 _ _ _ rfl (by kernel_rfl) (fun K hK=>?_);refine step_appR (E:=intsE) (s:=.tmp 44) (y:=.tmp 47) (B:=wr.heap.size) (l:=[]++(natI out).take j++[(n:Int)]) (m:=(natI out).drop j) tIntsW rfl rfl own10 (by simp [Act.eval,Act.put]) (rB.ext bH) (by simp [Act.eval,Act.put]) (by simp only [List.nil_append,List.length_nil,List.length_append,List.length_singleton];omega) bH.size ?_;intro v10 w10 own11 g10 b10;have bI:=bH.trans b10;refine hK _ _ trivial (fun hHeld=>?_);clear hK K
         try simp only [lyB,lyP,lyA,lyZ,lyS]
         refine wpAnyF_end (some 3) (Op.assign (Operand.tmp 48)) 55 rfl (by kernel_rfl) (by kernel_rfl) (fun K hK=>?_);dsimp only [bare];go_simp;refine hK _ _ ?_;clear hK K
         try simp only [lyB,lyP,lyA,lyZ,lyS]
         rw [List.nil_append] at own11;have Own:=Lib.hid own11;clear own11 own10;go_wp2_with fail
         go_roundw
         case rel=>exact ⟨k+1,by omega,by go_num,by rw [Hst.out,Hss.out, ←Hins.out,Hni.out];exact Own.out.base hsz,hbw.trans (bI.mono hsz)⟩
         case measure=>simp [intOf];omega
       ·have ownL:=OwnR.litAt intsE wr.drew #[.int .i64 (n:Int)] 3 [(n:Int)] 1 wr.heap.size wr.drew.heap.size rfl rfl rfl (by unfold maxLen;omega) bD.size;have bE:=bD.trans ((below_alloc wr.drew (.cells #[.int .i64 (n:Int)] 3)).mono bD.size);dsimp only [bare];go_simp;refine hK _ _ trivial (fun hHeld=>?_);clear hK K
        try simp only [lyB,lyP,lyA,lyZ,lyS]
        refine wpAnyF_one 0 _ _ _ rfl (by kernel_rfl) (fun K hK=>?_);have ownE:=OwnR.litAt intsE (wr.drew.alloc (.cells #[.int .i64 (n:Int)] 3)) #[] 3 [] 0 wr.heap.size (wr.drew.alloc (.cells #[.int .i64 (n:Int)] 3)).heap.size rfl rfl rfl (Nat.zero_le _) bE.size;have bF:=bE.trans ((below_alloc (wr.drew.alloc (.cells #[.int .i64 (n:Int)] 3)) (.cells #[] 3)).mono bE.size);have rL1:=(ownL.ext (below_alloc (wr.drew.alloc (.cells #[.int .i64 (n:Int)] 3)) (.cells #[] 3))).rd;dsimp only [bare];go_simp;refine hK _ _ trivial (fun hHeld=>?_);clear hK K
        try simp only [lyB,lyP,lyA,lyZ,lyS]
        refine wpAnyF_one 4 _ _ _ rfl (by kernel_rfl) (fun K hK=>?_);refine step_appR (E:=intsE) (s:=.tmp 37) (y:=.tmp 40) (B:=wr.heap.size) (l:=[]) (m:=(natI out).take j) tIntsW rfl rfl ownE (by simp [Act.eval,Act.put]) (rA.ext bF) (by simp [Act.eval,Act.put]) (by simp only [List.nil_append,List.length_nil,List.length_append,List.length_singleton];omega) bF.size ?_;intro v8 w8 own8 g8 b8;have bG:=bF.trans b8;have rL:=rL1.grown g8 (.inr (by simp [Value.ownBlock]));refine hK _ _ trivial (fun hHeld=>?_);clear hK K
        try simp only [lyB,lyP,lyA,lyZ,lyS]
        refine wpAnyF_one 7 _ _ _ rfl (by kernel_rfl) (fun K hK=>?_);refine step_appR (E:=intsE) (s:=.tmp 41) (y:=.tmp 43) (B:=wr.heap.size) (l:=[]++(natI out).take j) (m:=[(n:Int)]) tIntsW rfl rfl own8 (by simp [Act.eval,Act.put]) rL (by simp [Act.eval,Act.put]) (by simp only [List.nil_append,List.length_nil,List.length_append,List.length_singleton];omega) bG.size ?_;intro v9 w9 own10 g9 b9;have bH:=bG.trans b9;refine hK _ _ trivial (fun hHeld=>?_);clear hK K
        try simp only [lyB,lyP,lyA,lyZ,lyS]
        refine wpAnyF_one 11 _ _ _ rfl (by kernel_rfl) (fun K hK=>?_);refine step_appR (E:=intsE) (s:=.tmp 44) (y:=.tmp 47) (B:=wr.heap.size) (l:=[]++(natI out).take j++[(n:Int)]) (m:=(natI out).drop j) tIntsW rfl rfl own10 (by simp [Act.eval,Act.put]) (rB.ext bH) (by simp [Act.eval,Act.put]) (by simp only [List.nil_append,List.length_nil,List.length_append,List.length_singleton];omega) bH.size ?_;intro v10 w10 own11 g10 b10;have bI:=bH.trans b10;refine hK _ _ trivial (fun hHeld=>?_);clear hK K
        try simp only [lyB,lyP,lyA,lyZ,lyS]
        refine wpAnyF_end (some 3) (Op.assign (Operand.tmp 48)) 55 rfl (by kernel_rfl) (by kernel_rfl) (fun K hK=>?_);dsimp only [bare];go_simp;refine hK _ _ ?_;clear hK K
        try simp only [lyB,lyP,lyA,lyZ,lyS]
        rw [List.nil_append] at own11;have Own:=Lib.hid own11;clear own11 own10;go_wp2_with fail
        go_roundw
        case rel=>exact ⟨k+1,by omega,by go_num,by rw [Hst.out,Hss.out, ←Hins.out,Hni.out];exact Own.out.base hsz,hbw.trans (bI.mono hsz)⟩
        case measure=>simp [intOf];omega
  ·have hke:k=N.length:=by omega
   have hi:¬ (k:Int)<(N.length:Int):=by omega
   have Hk:=Lib.hid hke;clear hke;go_wp2_with fail
   go_ret
   rw [Hk.out,List.take_of_length_le (Nat.le_refl _)] at own;exact ⟨_,rfl,own.base hs1,b1.trans (hbw.mono hs1)⟩
end
end Go.Proofs.YtgpgcnmnfnnkjaaGreatDoor
