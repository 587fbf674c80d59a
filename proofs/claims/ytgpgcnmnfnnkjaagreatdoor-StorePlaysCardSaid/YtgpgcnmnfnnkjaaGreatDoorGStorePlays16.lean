import Derived.Test.YtgpgcnmnfnnkjaaGreatDoorGStorePlays15
set_option linter.unusedVariables false
set_option linter.unusedSimpArgs false
set_option maxRecDepth 100000
set_option maxHeartbeats 16000000
namespace Go.Proofs.YtgpgcnmnfnnkjaaGreatDoor
section
open Go Go.RowKit BigFrame Go.PlainAid
attribute [local go_sem] After.same
def RefX (w:World) (F:Nat→Prop) (g:Nat) (l o:Value) (ys:List Ent):Prop:=∃ v,RefV w F g v l o ys
theorem Apart.none {s:ByteArray} {v:Value}:Apart (Ent.v ⟨s,none,0,[],0⟩) v:=fun k h=>by simp [Ent.v,Value.ownBlock] at h
theorem refMake {F:Nat→Prop} {g:Nat} {v l o:Value} {ys:List Ent} {w:World} (hd:RefV w F g v l o ys) (hlen:ys.length≤1000000) (s:ByteArray) :
 Calls Tryz.prog 60 #[.pointer (some ⟨g,0,none⟩),.string s] w fun e w'=>e=.returned (.int .i64 (posD (ys.map Ent.fil) s))∧RefX w' (FF F w w') g l o (insE ys ⟨s,none,0,[],0⟩)∧Chg F w w':=by
 have rv:=hd.fil.row.rd;obtain ⟨p,cap,rfl,q1,q2,q3,q4⟩:=rv.form;clear q3 q4;unfold maxLen at q2;have c0:=hd.blk.cell 0 _ rfl;have Hd:=Lib.hid hd;clear hd;go_enter Tryz.func60,Tryz.ntmps60
 go_upto_block 0 with (fail)
 go_cut [5] from 5 (fun q wi=>∃ k:Nat,k≤ys.length∧q=.int .i64 k∧Hid (posD (ys.map Ent.fil) s=k)∧wi=w)
 case first =>
  go_wp2_with fail
  go_loopw [5] (fun q wi=>∃ k:Nat,k≤ys.length∧q=.int .i64 k∧Hid (∀ i (h:i<(ys.map Ent.fil).length),i<k→ltS (ys.map Ent.fil)[i].name s=true)∧wi=w) (fun q _=>ys.length - (intOf q).toNat)
  case atStart=>exact ⟨0,by omega,rfl,fun i h hi=>absurd hi (Nat.not_lt_zero _),rfl⟩
  case round =>
   obtain ⟨j,hj,rfl,hlo,rfl⟩:=hrel;have hj0:(0:Int)≤(j:Int):=by omega
   by_cases hjl:j<ys.length
   ·have hji:(j:Int)<(ys.length:Int):=by omega
    obtain ⟨gb,go,rfl⟩:=Rd.blk rv (by omega);obtain ⟨e0,_⟩:=ent3 rv hjl;have hfl:j<(ys.map Ent.fil).length:=by simpa using hjl
    have hfg:(ys.map Ent.fil)[j].name=ys[j].name:=by rw [fil_get];rfl
    cases hlt2:ltS ys[j].name s with
    | true =>
     have hl3:Op.bytesLess (ys[j]).name.toList s.toList=true:=hlt2;have Hlo:=Lib.hid (fun i (h:i<(ys.map Ent.fil).length) (hi:i<j+1)=>show ltS (ys.map Ent.fil)[i].name s=true from by
      rcases Nat.lt_or_ge i j with h1 | h1
      ·exact hlo.out i h h1
      ·have e:i=j:=by omega
       subst e;rw [hfg];exact hlt2)
     clear hlt2 hfg hfl;go_wp2_with fail
     go_roundw
     case rel=>exact ⟨j+1,by omega,by go_num,Hlo,by trivial⟩
     case measure=>simp [intOf];omega
    | false =>
     have hl3:Op.bytesLess (ys[j]).name.toList s.toList=false:=hlt2;have Hp:=Lib.hid (posD_at (k:=j) (by omega) hlo.out (fun h=>by rw [hfg];exact hlt2));clear hlt2 hfg hfl;go_wp2_with fail
     go_meet
     exact ⟨j,hj,rfl,Hp,rfl⟩
   ·have hji:¬ (j:Int)<(ys.length:Int):=by omega
    have Hp:=Lib.hid (posD_at (k:=j) (by simp;omega) hlo.out (fun h=>absurd (by simpa using h) hjl));go_wp2_with fail
    go_meet
    exact ⟨j,hj,rfl,Hp,rfl⟩
 case rest =>
  obtain ⟨k,hk,rfl,Hp,hw⟩:=hcut;obtain rfl:wc=w:=hw;obtain ⟨w,hw⟩:∃ z,z=wc:=⟨_,rfl⟩;subst hw;have hd:=Hd.out;have hA:=run_sub_to tRef (P:=Tryz.prog) hd.fil.row.rd .i64 (k:Int) k rfl hk;have hB:=run_sub_from tRef (P:=Tryz.prog) hd.fil.row.rd .i64 (k:Int) k rfl hk;have rA:=hd.fil.row.rd.sub 0 k (by omega) hk;have rB:=hd.fil.row.rd.sub k ys.length hk (Nat.le_refl _);rw [show (ys.drop 0).take (k - 0)=ys.take k from by simp,show entE.sz=3 from rfl] at rA;rw [show (ys.drop k).take (ys.length - k)=ys.drop k from List.take_of_length_le (by simp),show entE.sz=3 from rfl] at rB
  generalize subV (.slice p ys.length cap) 0 k 3=vA at *;generalize subV (.slice p ys.length cap) k ys.length 3=vB at *;have htl:(ys.take k).length≤1000000:=by rw [List.length_take];omega
  have hdl:(ys.drop k).length≤1000000:=by rw [List.length_drop];omega
  have hc1:Hid ((([]:List Ent).length+(ys.take k).length) * 48≤140737488355328):=by show _≤_;simp only [List.length_nil];omega
  have hc2:Hid ((([]++ys.take k).length+[(⟨s,none,0,[],0⟩:Ent)].length) * 48≤140737488355328):=by show _≤_;simp only [List.nil_append,List.length_singleton];omega
  have hc3:Hid ((([]++ys.take k++[(⟨s,none,0,[],0⟩:Ent)]).length+(ys.drop k).length) * 48≤140737488355328):=by show _≤_;simp only [List.nil_append,List.length_append,List.length_singleton];omega
  have hz:Datas w F g (.slice p ys.length cap) (ys.take k++(⟨s,none,0,[],0⟩:Ent)::ys.drop k):=hd.datas.ins k (OwnB.nil _ _ _) (fun _ _=>Apart.none) Apart.none.symm (fun k h=>by simp [Ent.v,Value.ownBlock] at h) (by simp [Ent.v,Value.ownBlock]);have hgl:=hd.lt g hd.inG;have bD:=below_drew w.heap.size w;clear htl hdl rv;go_wp2_with fail
  refine wp_region_F (n:=22) (S:=fun w'=>w'.cell? ⟨g,0,none⟩=some (.slice p ys.length cap)) (by kernel_rfl) ?_;have hHeld:(fun w':World=>w'.cell? ⟨g,0,none⟩=some (.slice p ys.length cap)) w.drew:=c0;refine tk ?_ 0 ?_ hHeld ?_;rotate_left
  ·intro w hSw;(try dsimp only at hSw);dsimp only [bare];go_simp<;>with_reducible rfl
  try simp only [lyB,lyP,lyA,lyZ,lyS]
  refine tk ?_ 2 ?_ hHeld ?_;rotate_left
  ·intro w hSw;(try dsimp only at hSw);dsimp only [bare];go_simp<;>with_reducible rfl
  try simp only [lyB,lyP,lyA,lyZ,lyS]
  refine tk ?_ 3 ?_ hHeld ?_;rotate_left
  ·intro w hSw;(try dsimp only at hSw);dsimp only [bare];go_simp<;>with_reducible rfl
  try simp only [lyB,lyP,lyA,lyZ,lyS]
  refine tk ?_ 4 ?_ hHeld ?_;rotate_left
  ·intro w hSw;(try dsimp only at hSw);dsimp only [bare];go_simp<;>with_reducible rfl
  try simp only [lyB,lyP,lyA,lyZ,lyS]
  refine tk ?_ 5 ?_ hHeld ?_;rotate_left
  ·intro w hSw;(try dsimp only at hSw);dsimp only [bare];go_simp<;>with_reducible rfl
  try simp only [lyB,lyP,lyA,lyZ,lyS]
  refine tk ?_ 6 ?_ hHeld ?_;rotate_left
  ·intro w hSw;(try dsimp only at hSw);dsimp only [bare];go_simp<;>with_reducible rfl
  try simp only [lyB,lyP,lyA,lyZ,lyS]
  refine tk ?_ 7 ?_ hHeld ?_;rotate_left
  ·intro w hSw;(try dsimp only at hSw);dsimp only [bare];go_simp<;>with_reducible rfl
  try simp only [lyB,lyP,lyA,lyZ,lyS]
  refine tk ?_ 9 ?_ hHeld ?_;rotate_left
  ·intro w hSw;(try dsimp only at hSw);dsimp only [bare];go_simp<;>with_reducible rfl
  try simp only [lyB,lyP,lyA,lyZ,lyS]
  refine tk ?_ 10 ?_ hHeld ?_;rotate_left
  ·intro w hSw;(try dsimp only at hSw);dsimp only [bare];go_simp<;>with_reducible rfl
  try simp only [lyB,lyP,lyA,lyZ,lyS]
  refine tk ?_ 13 ?_ hHeld ?_;rotate_left
  ·intro w hSw;(try dsimp only at hSw);dsimp only [bare];go_simp<;>with_reducible rfl
  try simp only [lyB,lyP,lyA,lyZ,lyS]
  refine tk ?_ 14 ?_ hHeld ?_;rotate_left
  ·intro w hSw;(try dsimp only at hSw);dsimp only [bare];go_simp<;>with_reducible rfl
  try simp only [lyB,lyP,lyA,lyZ,lyS]
  refine tk ?_ 15 ?_ hHeld ?_;rotate_left
  ·intro w hSw;(try dsimp only at hSw);dsimp only [bare];go_simp<;>with_reducible rfl
  try simp only [lyB,lyP,lyA,lyZ,lyS]
  refine tk ?_ 16 ?_ hHeld ?_;rotate_left
  ·intro w hSw;(try dsimp only at hSw);dsimp only [bare];go_simp<;>with_reducible rfl
  try simp only [lyB,lyP,lyA,lyZ,lyS]
  refine tk ?_ 17 ?_ hHeld ?_;rotate_left
  ·intro w hSw;(try dsimp only at hSw);dsimp only [bare];go_simp<;>with_reducible rfl
  try simp only [lyB,lyP,lyA,lyZ,lyS]
  refine tk ?_ 18 ?_ hHeld ?_;rotate_left
  ·intro w hSw;(try dsimp only at hSw);dsimp only [bare];go_simp<;>with_reducible rfl
  try simp only [lyB,lyP,lyA,lyZ,lyS]
  refine wpAnyF_two 1 11 (some 28) (Op.buildSlice 75 0 #[]) 75 (some 38) (Op.buildSlice 75 1 #[(0,Operand.tmp 37)]) 75 rfl rfl (by kernel_rfl) (fun K hK=>?_) (fun K hK=>?_)
  ·have ownE:=OwnR.litAt entE w.drew #[] 87 [] 0 w.heap.size w.drew.heap.size rfl rfl rfl (Nat.zero_le _) bD.size;have bE:=bD.trans ((below_alloc w.drew (.cells #[] 87)).mono bD.size);dsimp only [bare];go_simp;refine hK _ _ ((hd.ext bE).blk.cell 0 _ rfl) (fun hHeld=>?_);clear hK K
   try simp only [lyB,lyP,lyA,lyZ,lyS]
   refine wpAnyF_two 8 11 (some 35) (Op.call { callee:=Callee.builtin Builtin.append,args:=#[Operand.tmp 28,Operand.tmp 34],argTypes:=#[75,75] }) 75 (some 38) (Op.buildSlice 75 1 #[(0,Operand.tmp 37)]) 75 rfl rfl (by kernel_rfl) (fun K hK=>?_) (fun K hK=>?_)
   ·refine step_appR (E:=entE) (s:=.tmp 28) (y:=.tmp 34) (B:=w.heap.size) (l:=[]) (m:=ys.take k) tRef rfl rfl ownE (by simp [Act.eval,Act.put]) (rA.ext bE) (by simp [Act.eval,Act.put]) hc1.out bE.size ?_;intro v8 w8 own8 g8 b8;have bF:=bE.trans b8;refine hK _ _ ((hd.ext bF).blk.cell 0 _ rfl) (fun hHeld=>?_);clear hK K
    try simp only [lyB,lyP,lyA,lyZ,lyS]
    refine wpAnyF_one 11 _ _ _ rfl (by kernel_rfl) (fun K hK=>?_);have ownL:=OwnR.litAt entE w8 #[.string s,.slice none 0 0,.int .i64 0] 87 [(⟨s,none,0,[],0⟩:Ent)] 1 w.heap.size w8.heap.size rfl rfl rfl (by unfold maxLen;omega) bF.size;have bG:=bF.trans ((below_alloc w8 (.cells #[.string s,.slice none 0 0,.int .i64 0] 87)).mono bF.size);have own9:=own8.ext (below_alloc w8 (.cells #[.string s,.slice none 0 0,.int .i64 0] 87));dsimp only [bare];go_simp;refine hK _ _ ((hd.ext bG).blk.cell 0 _ rfl) (fun hHeld=>?_);clear hK K
    try simp only [lyB,lyP,lyA,lyZ,lyS]
    refine wpAnyF_one 12 _ _ _ rfl (by kernel_rfl) (fun K hK=>?_);refine step_appR (E:=entE) (s:=.tmp 35) (y:=.tmp 38) (B:=w.heap.size) (l:=[]++ys.take k) (m:=[(⟨s,none,0,[],0⟩:Ent)]) tRef rfl rfl own9 (by simp [Act.eval,Act.put]) ownL.rd (by simp [Act.eval,Act.put]) hc2.out bG.size ?_;intro v9 w9 own10 g9 b9;have bH:=bG.trans b9;refine hK _ _ ((hd.ext bH).blk.cell 0 _ rfl) (fun hHeld=>?_);clear hK K
    try simp only [lyB,lyP,lyA,lyZ,lyS]
    refine wpAnyF_one 19 _ _ _ rfl (by kernel_rfl) (fun K hK=>?_);refine step_appR (E:=entE) (s:=.tmp 39) (y:=.tmp 45) (B:=w.heap.size) (l:=[]++ys.take k++[(⟨s,none,0,[],0⟩:Ent)]) (m:=ys.drop k) tRef rfl rfl own10 (by simp [Act.eval,Act.put]) (rB.ext bH) (by simp [Act.eval,Act.put]) hc3.out bH.size ?_;intro v10 w10 own11 g10 b10;have bI:=bH.trans b10;refine hK _ _ ((hd.ext bI).blk.cell 0 _ rfl) (fun hHeld=>?_);clear hK K
    try simp only [lyB,lyP,lyA,lyZ,lyS]
    have fz:=(hd.ext bI).blk.frozen 0;have own12:OwnR entE w10 w.heap.size 87 v10 (ys.take k++(⟨s,none,0,[],0⟩:Ent)::ys.drop k):=by have h:=own11;rw [List.nil_append,List.append_assoc] at h;exact h
    have hres:=hd.putRow (grown_below bI) (Own.base own12 (Nat.zero_le _)) (.inr (fun n hn=>(OwnR.lt own12 n hn).1)) hz;have hend:RefX (w10.setCell ⟨g,0,none⟩ v10) (FF F w (w10.setCell ⟨g,0,none⟩ v10)) g l o (insE ys (⟨s,none,0,[],0⟩:Ent)):=by
     have e:insE ys (⟨s,none,0,[],0⟩:Ent)=ys.take k++(⟨s,none,0,[],0⟩:Ent)::ys.drop k:=by unfold insE;rw [show ((⟨s,none,0,[],0⟩:Ent)).name=s from rfl,Hp.out]
     rw [e];exact ⟨v10,hres.1⟩
    have hchg:=hres.2;have r12:=own12.rd;clear hres own11 own12;generalize ys.take k++(⟨s,none,0,[],0⟩:Ent)::ys.drop k=L at *;obtain ⟨p9,c9,rfl⟩:=r12.shape;have Hend:=Lib.hid hend;have Hchg:=Lib.hid hchg;clear hend hchg r12;refine tk ?_ 20 ?_ hHeld ?_;rotate_left
    ·intro w hSw;(try dsimp only at hSw);dsimp only [bare];go_simp<;>with_reducible rfl
    try simp only [lyB,lyP,lyA,lyZ,lyS]
    refine tk ?_ 21 ?_ hHeld ?_;rotate_left
    ·intro w hSw;(try dsimp only at hSw);dsimp only [bare];go_simp<;>with_reducible rfl
    try simp only [lyB,lyP,lyA,lyZ,lyS]
    refine wpAnyF_end (none) (Op.store 75 (Operand.tmp 48) (Operand.tmp 46)) 0 rfl (by kernel_rfl) (by kernel_rfl) (fun K hK=>?_);dsimp only [bare];go_simp;refine hK _ _ ?_;clear hK K
    try simp only [lyB,lyP,lyA,lyZ,lyS]
    go_wp2_with fail
    go_ret
    exact ⟨ret_int (by rw [Hp.out]),Hend.out,Hchg.out⟩
   ·have ownL:=OwnR.litAt entE (w.drew.alloc (.cells #[] 87)) #[.string s,.slice none 0 0,.int .i64 0] 87 [(⟨s,none,0,[],0⟩:Ent)] 1 w.heap.size (w.drew.alloc (.cells #[] 87)).heap.size rfl rfl rfl (by unfold maxLen;omega) bE.size;have bF:=bE.trans ((below_alloc (w.drew.alloc (.cells #[] 87)) (.cells #[.string s,.slice none 0 0,.int .i64 0] 87)).mono bE.size);have ownE2:=ownE.ext (below_alloc (w.drew.alloc (.cells #[] 87)) (.cells #[.string s,.slice none 0 0,.int .i64 0] 87));dsimp only [bare];go_simp;refine hK _ _ ((hd.ext bF).blk.cell 0 _ rfl) (fun hHeld=>?_);clear hK K
    try simp only [lyB,lyP,lyA,lyZ,lyS]
    refine wpAnyF_one 8 _ _ _ rfl (by kernel_rfl) (fun K hK=>?_);refine step_appR (E:=entE) (s:=.tmp 28) (y:=.tmp 34) (B:=w.heap.size) (l:=[]) (m:=ys.take k) tRef rfl rfl ownE2 (by simp [Act.eval,Act.put]) (rA.ext bF) (by simp [Act.eval,Act.put]) hc1.out bF.size ?_;intro v8 w8 own8 g8 b8;have bG:=bF.trans b8;have own9:=own8;have rL:=ownL.rd.grown g8 (.inr (by simp [Value.ownBlock]));refine hK _ _ ((hd.ext bG).blk.cell 0 _ rfl) (fun hHeld=>?_);clear hK K
    try simp only [lyB,lyP,lyA,lyZ,lyS]
    refine wpAnyF_one 12 _ _ _ rfl (by kernel_rfl) (fun K hK=>?_);refine step_appR (E:=entE) (s:=.tmp 35) (y:=.tmp 38) (B:=w.heap.size) (l:=[]++ys.take k) (m:=[(⟨s,none,0,[],0⟩:Ent)]) tRef rfl rfl own9 (by simp [Act.eval,Act.put]) rL (by simp [Act.eval,Act.put]) hc2.out bG.size ?_;intro v9 w9 own10 g9 b9;have bH:=bG.trans b9;refine hK _ _ ((hd.ext bH).blk.cell 0 _ rfl) (fun hHeld=>?_);clear hK K
    try simp only [lyB,lyP,lyA,lyZ,lyS]
    refine wpAnyF_one 19 _ _ _ rfl (by kernel_rfl) (fun K hK=>?_);refine step_appR (E:=entE) (s:=.tmp 39) (y:=.tmp 45) (B:=w.heap.size) (l:=[]++ys.take k++[(⟨s,none,0,[],0⟩:Ent)]) (m:=ys.drop k) tRef rfl rfl own10 (by simp [Act.eval,Act.put]) (rB.ext bH) (by simp [Act.eval,Act.put]) hc3.out bH.size ?_;intro v10 w10 own11 g10 b10;have bI:=bH.trans b10;refine hK _ _ ((hd.ext bI).blk.cell 0 _ rfl) (fun hHeld=>?_);clear hK K
    try simp only [lyB,lyP,lyA,lyZ,lyS]
    have fz:=(hd.ext bI).blk.frozen 0;have own12:OwnR entE w10 w.heap.size 87 v10 (ys.take k++(⟨s,none,0,[],0⟩:Ent)::ys.drop k):=by have h:=own11;rw [List.nil_append,List.append_assoc] at h;exact h
    have hres:=hd.putRow (grown_below bI) (Own.base own12 (Nat.zero_le _)) (.inr (fun n hn=>(OwnR.lt own12 n hn).1)) hz;have hend:RefX (w10.setCell ⟨g,0,none⟩ v10) (FF F w (w10.setCell ⟨g,0,none⟩ v10)) g l o (insE ys (⟨s,none,0,[],0⟩:Ent)):=by
     have e:insE ys (⟨s,none,0,[],0⟩:Ent)=ys.take k++(⟨s,none,0,[],0⟩:Ent)::ys.drop k:=by unfold insE;rw [show ((⟨s,none,0,[],0⟩:Ent)).name=s from rfl,Hp.out]
     rw [e];exact ⟨v10,hres.1⟩
    have hchg:=hres.2;have r12:=own12.rd;clear hres own11 own12;generalize ys.take k++(⟨s,none,0,[],0⟩:Ent)::ys.drop k=L at *;obtain ⟨p9,c9,rfl⟩:=r12.shape;have Hend:=Lib.hid hend;have Hchg:=Lib.hid hchg;clear hend hchg r12;refine tk ?_ 20 ?_ hHeld ?_;rotate_left
    ·intro w hSw;(try dsimp only at hSw);dsimp only [bare];go_simp<;>with_reducible rfl
    try simp only [lyB,lyP,lyA,lyZ,lyS]
    refine tk ?_ 21 ?_ hHeld ?_;rotate_left
    ·intro w hSw;(try dsimp only at hSw);dsimp only [bare];go_simp<;>with_reducible rfl
    try simp only [lyB,lyP,lyA,lyZ,lyS]
    refine wpAnyF_end (none) (Op.store 75 (Operand.tmp 48) (Operand.tmp 46)) 0 rfl (by kernel_rfl) (by kernel_rfl) (fun K hK=>?_);dsimp only [bare];go_simp;refine hK _ _ ?_;clear hK K
    try simp only [lyB,lyP,lyA,lyZ,lyS]
    go_wp2_with fail
    go_ret
    exact ⟨ret_int (by rw [Hp.out]),Hend.out,Hchg.out⟩
  ·have ownL:=OwnR.litAt entE w.drew #[.string s,.slice none 0 0,.int .i64 0] 87 [(⟨s,none,0,[],0⟩:Ent)] 1 w.heap.size w.drew.heap.size rfl rfl rfl (by unfold maxLen;omega) bD.size;have bE:=bD.trans ((below_alloc w.drew (.cells #[.string s,.slice none 0 0,.int .i64 0] 87)).mono bD.size);dsimp only [bare];go_simp;refine hK _ _ ((hd.ext bE).blk.cell 0 _ rfl) (fun hHeld=>?_);clear hK K
   try simp only [lyB,lyP,lyA,lyZ,lyS]
   refine wpAnyF_one 1 _ _ _ rfl (by kernel_rfl) (fun K hK=>?_);have ownE:=OwnR.litAt entE (w.drew.alloc (.cells #[.string s,.slice none 0 0,.int .i64 0] 87)) #[] 87 [] 0 w.heap.size (w.drew.alloc (.cells #[.string s,.slice none 0 0,.int .i64 0] 87)).heap.size rfl rfl rfl (Nat.zero_le _) bE.size;have bF:=bE.trans ((below_alloc (w.drew.alloc (.cells #[.string s,.slice none 0 0,.int .i64 0] 87)) (.cells #[] 87)).mono bE.size);have rL1:=(ownL.ext (below_alloc (w.drew.alloc (.cells #[.string s,.slice none 0 0,.int .i64 0] 87)) (.cells #[] 87))).rd;dsimp only [bare];go_simp
   refine hK _ _ ((hd.ext bF).blk.cell 0 _ rfl) (fun hHeld=>?_);clear hK K
   try simp only [lyB,lyP,lyA,lyZ,lyS]
   refine wpAnyF_one 8 _ _ _ rfl (by kernel_rfl) (fun K hK=>?_);refine step_appR (E:=entE) (s:=.tmp 28) (y:=.tmp 34) (B:=w.heap.size) (l:=[]) (m:=ys.take k) tRef rfl rfl ownE (by simp [Act.eval,Act.put]) (rA.ext bF) (by simp [Act.eval,Act.put]) hc1.out bF.size ?_;intro v8 w8 own8 g8 b8;have bG:=bF.trans b8;have own9:=own8;have rL:=rL1.grown g8 (.inr (by simp [Value.ownBlock]));refine hK _ _ ((hd.ext bG).blk.cell 0 _ rfl) (fun hHeld=>?_);clear hK K
   try simp only [lyB,lyP,lyA,lyZ,lyS]
   refine wpAnyF_one 12 _ _ _ rfl (by kernel_rfl) (fun K hK=>?_);refine step_appR (E:=entE) (s:=.tmp 35) (y:=.tmp 38) (B:=w.heap.size) (l:=[]++ys.take k) (m:=[(⟨s,none,0,[],0⟩:Ent)]) tRef rfl rfl own9 (by simp [Act.eval,Act.put]) rL (by simp [Act.eval,Act.put]) hc2.out bG.size ?_;intro v9 w9 own10 g9 b9;have bH:=bG.trans b9;refine hK _ _ ((hd.ext bH).blk.cell 0 _ rfl) (fun hHeld=>?_);clear hK K
   try simp only [lyB,lyP,lyA,lyZ,lyS]
   refine wpAnyF_one 19 _ _ _ rfl (by kernel_rfl) (fun K hK=>?_);refine step_appR (E:=entE) (s:=.tmp 39) (y:=.tmp 45) (B:=w.heap.size) (l:=[]++ys.take k++[(⟨s,none,0,[],0⟩:Ent)]) (m:=ys.drop k) tRef rfl rfl own10 (by simp [Act.eval,Act.put]) (rB.ext bH) (by simp [Act.eval,Act.put]) hc3.out bH.size ?_;intro v10 w10 own11 g10 b10;have bI:=bH.trans b10;refine hK _ _ ((hd.ext bI).blk.cell 0 _ rfl) (fun hHeld=>?_);clear hK K
   try simp only [lyB,lyP,lyA,lyZ,lyS]
   have fz:=(hd.ext bI).blk.frozen 0;have own12:OwnR entE w10 w.heap.size 87 v10 (ys.take k++(⟨s,none,0,[],0⟩:Ent)::ys.drop k):=by have h:=own11;rw [List.nil_append,List.append_assoc] at h;exact h
   have hres:=hd.putRow (grown_below bI) (Own.base own12 (Nat.zero_le _)) (.inr (fun n hn=>(OwnR.lt own12 n hn).1)) hz;have hend:RefX (w10.setCell ⟨g,0,none⟩ v10) (FF F w (w10.setCell ⟨g,0,none⟩ v10)) g l o (insE ys (⟨s,none,0,[],0⟩:Ent)):=by
    have e:insE ys (⟨s,none,0,[],0⟩:Ent)=ys.take k++(⟨s,none,0,[],0⟩:Ent)::ys.drop k:=by unfold insE;rw [show ((⟨s,none,0,[],0⟩:Ent)).name=s from rfl,Hp.out]
    rw [e];exact ⟨v10,hres.1⟩
   have hchg:=hres.2;have r12:=own12.rd;clear hres own11 own12;generalize ys.take k++(⟨s,none,0,[],0⟩:Ent)::ys.drop k=L at *;obtain ⟨p9,c9,rfl⟩:=r12.shape;have Hend:=Lib.hid hend;have Hchg:=Lib.hid hchg;clear hend hchg r12;refine tk ?_ 20 ?_ hHeld ?_;rotate_left
   ·intro w hSw;(try dsimp only at hSw);dsimp only [bare];go_simp<;>with_reducible rfl
   try simp only [lyB,lyP,lyA,lyZ,lyS]
   refine tk ?_ 21 ?_ hHeld ?_;rotate_left
   ·intro w hSw;(try dsimp only at hSw);dsimp only [bare];go_simp<;>with_reducible rfl
   try simp only [lyB,lyP,lyA,lyZ,lyS]
   refine wpAnyF_end (none) (Op.store 75 (Operand.tmp 48) (Operand.tmp 46)) 0 rfl (by kernel_rfl) (by kernel_rfl) (fun K hK=>?_);dsimp only [bare];go_simp;refine hK _ _ ?_;clear hK K
   try simp only [lyB,lyP,lyA,lyZ,lyS]
   go_wp2_with fail
   go_ret
   exact ⟨ret_int (by rw [Hp.out]),Hend.out,Hchg.out⟩
end
section
open Go Go.RowKit BigFrame Go.PlainAid
attribute [local go_sem] After.same
theorem known_off {d:Dk} {s:ByteArray} (h:d.off=true):knownD d s=(0,18):=by unfold knownD;rw [if_pos h]
theorem known_none {d:Dk} {s:ByteArray} (h:d.off=false) (hx:idxD d.fs s = -1):knownD d s=(0,11):=by unfold knownD;rw [if_neg (by rw [h];decide),if_pos (by omega)]
theorem known_at {d:Dk} {s:ByteArray} {j:Nat} (h:d.off=false) (hx:idxD d.fs s=(j:Int)):knownD d s=((j:Int),0):=by unfold knownD;rw [if_neg (by rw [h];decide),if_neg (by omega),hx]
theorem onD_err {d:Dk} {s:ByteArray} {f:List Fil→Nat→List Fil} {E:Int} (h:knownD d s=(0,E)) (hE:E≠0):onD d s f=(E,d):=by rw [onD_no (by rw [h];exact hE),h]
section
variable {F:Nat→Prop} {g:Nat} {d d':Dk} {w w1 w2:World}
theorem UndR.back (h:RefAt w2 (FF F w1 w2) g d'∧Chg F w1 w2) (c:Chg F w w1) (h0:∀ k,F k→k<w.heap.size):UndR w F g d' w2 :=
 ⟨h.1.mono (fun k hk=>by
  rcases hk with hk | hk
  ·exact .inl hk
  ·exact .inr ⟨by have:=c.size;omega,hk.2⟩) (FF_lt h0 (by have:=c.size;have:=h.2.size;omega)),c.step h.2⟩
theorem UndR.of (h:RefAt w1 F g d') (c:Chg F w w1) (h0:∀ k,F k→k<w.heap.size):UndR w F g d' w1:=UndR.back ⟨h.ff (Nat.le_refl _),Chg.refl _ _⟩ c h0
end
theorem refSync {F:Nat→Prop} {g:Nat} {d:Dk} {w:World} (hd:RefAt w F g d) (ok:OkD d) (hfs:d.fs.length≤1000000) (s:ByteArray) :
 Calls Tryz.prog 47 #[.pointer (some ⟨g,0,none⟩),.string s] w fun e w'=>e=.returned (.int .i64 (syncD d s).1)∧UndR w F g (syncD d s).2 w':=by
 have hlt:=hd.lt;have hT:=ok.tot;have hat:=refAt s w hd;obtain ⟨v0,ys0,hv0,hy0⟩:=id hd;have c2:=hv0.blk.cell 2 _ rfl;have Hd:=Lib.hid hd;clear hd hv0 hy0
 cases hoff:d.off with
 | true =>
  rw [hoff] at c2;generalize idxD d.fs s=x at *;have hr:syncD d s=(18,d):=onD_err (known_off hoff) (by decide);rw [hr];clear hr;go_enter Tryz.func47,Tryz.ntmps47
  go_wp2_with (go_at_call 51;refine hat.mono ?_;rintro e w' ⟨rfl,rfl⟩)
  go_ret
  exact ⟨rfl,UndR.start Hd.out⟩
 | false =>
  rw [hoff] at c2
  rcases idxD_spec d.fs s with ⟨hx,_⟩ | ⟨j,hj,hx,_,_⟩
  ·rw [hx] at hat;have hr:syncD d s=(11,d):=onD_err (known_none hoff hx) (by decide);rw [hr];clear hr;go_enter Tryz.func47,Tryz.ntmps47
   go_wp2_with (go_at_call 51;refine hat.mono ?_;rintro e w' ⟨rfl,rfl⟩)
   go_ret
   exact ⟨rfl,UndR.start Hd.out⟩
  ·have hr:syncD d s=stepD d fun l=>updD l j fun f=>⟨f.name,f.data,f.data.length⟩:=onD_yes (known_at hoff hx) hx;have HR:Hid (((powD d).1=false→syncD d s=(18,(powD d).2))∧((powD d).1=true→syncD d s=(0,{ (powD d).2 with fs:=updD d.fs j fun f=>⟨f.name,f.data,f.data.length⟩ }))):=⟨fun h=>by rw [hr];exact stepD_no h,fun h=>by rw [hr];exact stepD_yes h⟩;rw [hx] at hat;have Hpf:=Lib.hid (powD_fs d);have hpow:=refPower Hd.out ok.lo ok.hi;clear hr hx hoff;go_enter Tryz.func47,Tryz.ntmps47
   go_wp2_with fail
   refine hat.mono ?_;rintro e w' ⟨rfl,rfl⟩;go_wp2_with fail
   refine hpow.mono ?_;rintro e w2 ⟨rfl,hd2,ch2⟩;clear hpow
   cases hpw:(powD d).1 with
   | false =>
    have hs:=HR.out.1 hpw;have Hs:=Lib.hid hs;have undB:=UndR.of hd2 ch2 hlt;clear hs hpw hd2 ch2;go_wp2_with fail
    go_ret
    exact ⟨by rw [Hs.out]<;>rfl,by rw [Hs.out];exact undB⟩
   | true =>
    have hs:=HR.out.2 hpw;have Hs:=Lib.hid hs;clear hs hpw;generalize hd1e:(powD d).2=d1 at *;clear hd1e;obtain ⟨v2,ys2,hv2,hy2⟩:=hd2;have hyd:ys2.map Ent.fil=d.fs:=by rw [hy2,Hpf.out]
    have Hyd:=Lib.hid hyd;have hjy:j<ys2.length:=by have h:=congrArg List.length hyd;rw [List.length_map] at h;omega
    have hys:ys2.length≤1000000:=by have h:=congrArg List.length hyd;rw [List.length_map] at h;omega
    obtain ⟨gv,cap,rfl,_,_,hq1,hq2⟩:=hv2.fil.row.head (by omega);unfold maxLen at hq2;have k0:=hv2.blk.cell 0 _ rfl;have z0:=hv2.blk.frozen 0;have hji:(j:Int)<(ys2.length:Int):=by omega
    have hj0:(0:Int)≤(j:Int):=by omega
    clear hy2 hyd;have hmem:ys2[j] ∈ ys2:=List.getElem_mem hjy;have hdat:=hv2.fil.data _ hmem;have hdl:(ys2[j]).data.length≤4194304:=by
     have h1:=totD_mem (l:=d.fs) (f:=(ys2[j]).fil) (by rw [←Hyd.out];exact List.mem_map.2 ⟨_,hmem,rfl⟩);have h2:(ys2[j]).fil.data.length=(ys2[j]).data.length:=rfl;omega
    have c21:w2.cell? ⟨gv,j * 3+1,none⟩=some (.slice ys2[j].p ys2[j].data.length ys2[j].c):=hv2.fil.row.cellAt rfl j hjy 1 (by decide);have c22:w2.cell? ⟨gv,j * 3+2,none⟩=some (.int .i64 ((ys2[j]).kept:Int)):=hv2.fil.row.cellAt rfl j hjy 2 (by decide);have f21:=hv2.fil.row.frozenAt rfl (j * 3+1);have f22:=hv2.fil.row.frozenAt rfl (j * 3+2);obtain ⟨y,hy⟩:∃ y,ys2[j]=y:=⟨_,rfl⟩;have Hy:=Lib.hid hy;have hfj:Hid (∀ h:j<d.fs.length,d.fs[j]=y.fil):=fun h=>by rw [←hy];simp only [←Hyd.out,List.getElem_map]
    rw [hy] at hdat hdl c21 c22;have hst:=hv2.fil.row.drew.stored rfl j hjy 2 (by decide) (.int .i64 (y.data.length:Int)) rfl ⟨y.name,y.p,y.c,y.data,y.data.length⟩ (by rw [hy];rfl);have hset:=hv2.drew.setEnt hjy (y:=⟨y.name,y.p,y.c,y.data,y.data.length⟩) (Chg.refl _ _) (by exact hdat) (.inl (by rw [hy];rfl)) hst.1 hst.2;have hres:(ys2.set j ⟨y.name,y.p,y.c,y.data,y.data.length⟩).map Ent.fil=updD d.fs j fun f=>⟨f.name,f.data,f.data.length⟩:=by
     rw [map_set_fil,Hyd.out,updD_at hj,hfj.out hj];rfl
    have hfin:=UndR.back ⟨hset.1.atFs hres,hset.2⟩ ch2.drew hlt;have Hfin:=Lib.hid hfin;clear hset hst hfin hres hmem hdat hy hv2 ch2;go_wp2_with fail
    go_still_tail 16,(by kernel_rfl)
    change wpList _ _ _ _ _ w2.drew
    go_wp2_with fail
    go_ret
    exact ⟨by rw [Hs.out]<;>rfl,by rw [Hs.out];exact Hfin.out⟩
theorem refRemove {F:Nat→Prop} {g:Nat} {d:Dk} {w:World} (hd:RefAt w F g d) (ok:OkD d) (hfs:d.fs.length≤1000000) (s:ByteArray) :
 Calls Tryz.prog 46 #[.pointer (some ⟨g,0,none⟩),.string s] w fun e w'=>e=.returned (.int .i64 (removeD d s).1)∧UndR w F g (removeD d s).2 w':=by
 have hlt:=hd.lt;have hT:=ok.tot;have hat:=refAt s w hd;obtain ⟨v0,ys0,hv0,hy0⟩:=id hd;have c2:=hv0.blk.cell 2 _ rfl;have Hd:=Lib.hid hd;clear hd hv0 hy0
 cases hoff:d.off with
 | true =>
  rw [hoff] at c2;generalize idxD d.fs s=x at *;have hr:removeD d s=(18,d):=onD_err (known_off hoff) (by decide);rw [hr];clear hr;go_enter Tryz.func46,Tryz.ntmps46
  go_wp2_with (go_at_call 51;refine hat.mono ?_;rintro e w' ⟨rfl,rfl⟩)
  go_ret
  exact ⟨rfl,UndR.start Hd.out⟩
 | false =>
  rw [hoff] at c2
  rcases idxD_spec d.fs s with ⟨hx,_⟩ | ⟨j,hj,hx,_,_⟩
  ·rw [hx] at hat;have hr:removeD d s=(11,d):=onD_err (known_none hoff hx) (by decide);rw [hr];clear hr;go_enter Tryz.func46,Tryz.ntmps46
   go_wp2_with (go_at_call 51;refine hat.mono ?_;rintro e w' ⟨rfl,rfl⟩)
   go_ret
   exact ⟨rfl,UndR.start Hd.out⟩
  ·have hr:removeD d s=stepD d fun l=>delD l j:=onD_yes (known_at hoff hx) hx;have HR:Hid (((powD d).1=false→removeD d s=(18,(powD d).2))∧((powD d).1=true→removeD d s=(0,{ (powD d).2 with fs:=delD d.fs j }))):=⟨fun h=>by rw [hr];exact stepD_no h,fun h=>by rw [hr];exact stepD_yes h⟩;rw [hx] at hat;have Hpf:=Lib.hid (powD_fs d);have hpow:=refPower Hd.out ok.lo ok.hi;clear hr hx hoff;go_enter Tryz.func46,Tryz.ntmps46
   go_wp2_with fail
   refine hat.mono ?_;rintro e w' ⟨rfl,rfl⟩;go_wp2_with fail
   refine hpow.mono ?_;rintro e w2 ⟨rfl,hd2,ch2⟩;clear hpow
   cases hpw:(powD d).1 with
   | false =>
    have hs:=HR.out.1 hpw;have Hs:=Lib.hid hs;have undB:=UndR.of hd2 ch2 hlt;clear hs hpw hd2 ch2;go_wp2_with fail
    go_ret
    exact ⟨by rw [Hs.out]<;>rfl,by rw [Hs.out];exact undB⟩
   | true =>
    have hs:=HR.out.2 hpw;have Hs:=Lib.hid hs;clear hs hpw;generalize hd1e:(powD d).2=d1 at *;clear hd1e;obtain ⟨v2,ys2,hv2,hy2⟩:=hd2;have hyd:ys2.map Ent.fil=d.fs:=by rw [hy2,Hpf.out]
    have Hyd:=Lib.hid hyd;have hjy:j<ys2.length:=by have h:=congrArg List.length hyd;rw [List.length_map] at h;omega
    have hys:ys2.length≤1000000:=by have h:=congrArg List.length hyd;rw [List.length_map] at h;omega
    obtain ⟨gv,cap,rfl,_,_,hq1,hq2⟩:=hv2.fil.row.head (by omega);unfold maxLen at hq2;have k0:=hv2.blk.cell 0 _ rfl;have z0:=hv2.blk.frozen 0;have hji:(j:Int)<(ys2.length:Int):=by omega
    have hj0:(0:Int)≤(j:Int):=by omega
    clear hy2 hyd;have hjl1:j+1≤ys2.length:=hjy;have hA:=run_sub_to tRef (P:=Tryz.prog) hv2.fil.row.rd .i64 (j:Int) j rfl (by omega);have hB:=run_sub_from tRef (P:=Tryz.prog) hv2.fil.row.rd .i64 ((j:Int)+1) (j+1) (by omega) hjl1;have rA:=hv2.fil.row.rd.sub 0 j (by omega) (by omega);have rB:=hv2.fil.row.rd.sub (j+1) ys2.length hjl1 (Nat.le_refl _);rw [show (ys2.drop 0).take (j - 0)=ys2.take j from by simp,show entE.sz=3 from rfl] at rA;rw [show (ys2.drop (j+1)).take (ys2.length - (j+1))=ys2.drop (j+1) from List.take_of_length_le (by simp),show entE.sz=3 from rfl] at rB
    generalize subV (.slice (some ⟨gv,0,none⟩) ys2.length cap) 0 j 3=vA at *;generalize subV (.slice (some ⟨gv,0,none⟩) ys2.length cap) (j+1) ys2.length 3=vB at *;have htl:(ys2.take j).length≤1000000:=by rw [List.length_take];omega
    have hdl:(ys2.drop (j+1)).length≤1000000:=by rw [List.length_drop];omega
    have hc1:Hid ((([]:List Ent).length+(ys2.take j).length) * 48≤140737488355328):=by show _≤_;simp only [List.length_nil];omega
    have hc2:Hid ((([]++ys2.take j).length+(ys2.drop (j+1)).length) * 48≤140737488355328):=by show _≤_;simp only [List.nil_append];omega
    have hz:=hv2.datas.sub (del_sub ys2 j);have hwr:IntKind.wrap .i64 ((j:Int)+1)=(j:Int)+1:=by rw [IntKind.wrap_i64];omega
    have bD:=below_drew w2.heap.size w2;clear htl hdl;go_wp2_with fail
    refine wp_region_F (n:=19) (S:=fun w'=>w'.cell? ⟨g,0,none⟩=some (.slice (some ⟨gv,0,none⟩) ys2.length cap)) (by kernel_rfl) ?_;have hHeld:(fun w':World=>w'.cell? ⟨g,0,none⟩=some (.slice (some ⟨gv,0,none⟩) ys2.length cap)) w2.drew:=k0;refine tk ?_ 0 ?_ hHeld ?_;rotate_left
    ·intro w hSw;(try dsimp only at hSw);dsimp only [bare];go_simp<;>with_reducible rfl
    try simp only [lyB,lyP,lyA,lyZ,lyS]
    refine tk ?_ 2 ?_ hHeld ?_;rotate_left
    ·intro w hSw;(try dsimp only at hSw);dsimp only [bare];go_simp<;>with_reducible rfl
    try simp only [lyB,lyP,lyA,lyZ,lyS]
    refine tk ?_ 3 ?_ hHeld ?_;rotate_left
    ·intro w hSw;(try dsimp only at hSw);dsimp only [bare];go_simp<;>with_reducible rfl
    try simp only [lyB,lyP,lyA,lyZ,lyS]
    refine tk ?_ 4 ?_ hHeld ?_;rotate_left
    ·intro w hSw;(try dsimp only at hSw);dsimp only [bare];go_simp<;>with_reducible rfl
    try simp only [lyB,lyP,lyA,lyZ,lyS]
    refine tk ?_ 5 ?_ hHeld ?_;rotate_left
    ·intro w hSw;(try dsimp only at hSw);dsimp only [bare];go_simp<;>with_reducible rfl
    try simp only [lyB,lyP,lyA,lyZ,lyS]
    refine tk ?_ 6 ?_ hHeld ?_;rotate_left
    ·intro w hSw;(try dsimp only at hSw);dsimp only [bare];go_simp<;>with_reducible rfl
    try simp only [lyB,lyP,lyA,lyZ,lyS]
    refine tk ?_ 7 ?_ hHeld ?_;rotate_left
    ·intro w hSw;(try dsimp only at hSw);dsimp only [bare];go_simp<;>with_reducible rfl
    try simp only [lyB,lyP,lyA,lyZ,lyS]
    refine tk ?_ 9 ?_ hHeld ?_;rotate_left
    ·intro w hSw;(try dsimp only at hSw);dsimp only [bare];go_simp<;>with_reducible rfl
    try simp only [lyB,lyP,lyA,lyZ,lyS]
    refine tk ?_ 10 ?_ hHeld ?_;rotate_left
    ·intro w hSw;(try dsimp only at hSw);dsimp only [bare];go_simp<;>with_reducible rfl
    try simp only [lyB,lyP,lyA,lyZ,lyS]
    refine tk ?_ 11 ?_ hHeld ?_;rotate_left
    ·intro w hSw;(try dsimp only at hSw);dsimp only [bare];go_simp<;>with_reducible rfl
    try simp only [lyB,lyP,lyA,lyZ,lyS]
    refine tk ?_ 12 ?_ hHeld ?_;rotate_left
    ·intro w hSw;(try dsimp only at hSw);dsimp only [bare];go_simp<;>with_reducible rfl
    try simp only [lyB,lyP,lyA,lyZ,lyS]
    refine tk ?_ 13 ?_ hHeld ?_;rotate_left
    ·intro w hSw;(try dsimp only at hSw);dsimp only [bare];go_simp<;>with_reducible rfl
    try simp only [lyB,lyP,lyA,lyZ,lyS]
    refine tk ?_ 14 ?_ hHeld ?_;rotate_left
    ·intro w hSw;(try dsimp only at hSw);dsimp only [bare];go_simp<;>with_reducible rfl
    try simp only [lyB,lyP,lyA,lyZ,lyS]
    refine tk ?_ 15 ?_ hHeld ?_;rotate_left
    ·intro w hSw;(try dsimp only at hSw);dsimp only [bare];go_simp<;>with_reducible rfl
    try simp only [lyB,lyP,lyA,lyZ,lyS]
    refine wpAnyF_one 1 _ _ _ rfl (by kernel_rfl) (fun K hK=>?_);have ownE:=OwnR.litAt entE w2.drew #[] 87 [] 0 w2.heap.size w2.drew.heap.size rfl rfl rfl (Nat.zero_le _) bD.size;have bE:=bD.trans ((below_alloc w2.drew (.cells #[] 87)).mono bD.size);dsimp only [bare];go_simp;refine hK _ _ ((hv2.ext bE).blk.cell 0 _ rfl) (fun hHeld=>?_);clear hK K
    try simp only [lyB,lyP,lyA,lyZ,lyS]
    refine wpAnyF_one 8 _ _ _ rfl (by kernel_rfl) (fun K hK=>?_);refine step_appR (E:=entE) (s:=.tmp 22) (y:=.tmp 28) (B:=w2.heap.size) (l:=[]) (m:=ys2.take j) tRef rfl rfl ownE (by simp [Act.eval,Act.put]) (rA.ext bE) (by simp [Act.eval,Act.put]) hc1.out bE.size ?_;intro v8 w8 own8 g8 b8;have bF:=bE.trans b8;refine hK _ _ ((hv2.ext bF).blk.cell 0 _ rfl) (fun hHeld=>?_);clear hK K
    try simp only [lyB,lyP,lyA,lyZ,lyS]
    refine wpAnyF_one 16 _ _ _ rfl (by kernel_rfl) (fun K hK=>?_);refine step_appR (E:=entE) (s:=.tmp 29) (y:=.tmp 36) (B:=w2.heap.size) (l:=[]++ys2.take j) (m:=ys2.drop (j+1)) tRef rfl rfl own8 (by simp [Act.eval,Act.put]) (rB.ext bF) (by simp [Act.eval,Act.put]) hc2.out bF.size ?_;intro v9 w9 own9 g9 b9;have bG:=bF.trans b9;refine hK _ _ ((hv2.ext bG).blk.cell 0 _ rfl) (fun hHeld=>?_);clear hK K
    try simp only [lyB,lyP,lyA,lyZ,lyS]
    refine tk ?_ 17 ?_ hHeld ?_;rotate_left
    ·intro w hSw;(try dsimp only at hSw);dsimp only [bare];go_simp<;>with_reducible rfl
    try simp only [lyB,lyP,lyA,lyZ,lyS]
    refine tk ?_ 18 ?_ hHeld ?_;rotate_left
    ·intro w hSw;(try dsimp only at hSw);dsimp only [bare];go_simp<;>with_reducible rfl
    try simp only [lyB,lyP,lyA,lyZ,lyS]
    have fz:=(hv2.ext bG).blk.frozen 0;have own12:OwnR entE w9 w2.heap.size 87 v9 (ys2.take j++ys2.drop (j+1)):=by have h:=own9;rw [List.nil_append] at h;exact h
    have hres:=hv2.putRow (grown_below bG) (Own.base own12 (Nat.zero_le _)) (.inr (fun n hn=>(OwnR.lt own12 n hn).1)) hz;have hmap:(ys2.take j++ys2.drop (j+1)).map Ent.fil=delD d.fs j:=by
     unfold delD;rw [List.map_append,List.map_take,List.map_drop,Hyd.out]
    have hfin:=UndR.back ⟨hres.1.atFs hmap,hres.2⟩ ch2 hlt;have r12:=own12.rd;clear hres own9 own12 hmap hz;generalize ys2.take j++ys2.drop (j+1)=L at *;obtain ⟨p9,c9,rfl⟩:=r12.shape;have Hfin:=Lib.hid hfin;clear hfin r12;refine wpAnyF_end (none) (Op.store 75 (Operand.tmp 39) (Operand.tmp 37)) 0 rfl (by kernel_rfl) (by kernel_rfl) (fun K hK=>?_);dsimp only [bare];go_simp;refine hK _ _ ?_;clear hK K
    try simp only [lyB,lyP,lyA,lyZ,lyS]
    go_wp2_with fail
    go_ret
    exact ⟨by rw [Hs.out]<;>rfl,by rw [Hs.out];exact Hfin.out⟩
end
end Go.Proofs.YtgpgcnmnfnnkjaaGreatDoor
