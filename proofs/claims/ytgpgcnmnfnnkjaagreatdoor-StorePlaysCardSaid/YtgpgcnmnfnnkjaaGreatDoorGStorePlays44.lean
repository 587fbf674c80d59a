import Derived.Test.YtgpgcnmnfnnkjaaGreatDoorGStorePlays33
import Derived.Test.YtgpgcnmnfnnkjaaGreatDoorGStorePlays37
set_option linter.unusedVariables false
set_option linter.unusedSimpArgs false
set_option maxRecDepth 100000
set_option maxHeartbeats 16000000
namespace Go.Proofs.YtgpgcnmnfnnkjaaGreatDoor
section
open Go Go.RowKit BigFrame Go.PlainAid
def TwoD (w0:World) (X:Nat→Prop) (gD gR:Nat) (d dR:Dk) (w:World):Prop:=(∃ FD FR,DiskAt w FD gD d∧RefAt w FR gR dR∧(∀ k,FD k→Gx w0 X k)∧(∀ k,FR k→Gx w0 X k)∧(∀ k,FD k→¬ FR k))∧∀ k,X k→k<w.heap.size
section
variable {w0 w w':World} {X Y:Nat→Prop} {gD gR:Nat} {d dR d':Dk}
theorem TwoD.size (h:TwoD w0 X gD gR d dR w):w0.heap.size≤w.heap.size:=by
 obtain ⟨⟨FD,FR,h1,h2,h3,h4,h5⟩,_⟩:=h;have:=(h3 gD h1.inG).1;have:=h1.lt gD h1.inG;omega
theorem TwoD.more (h:TwoD w0 X gD gR d dR w) (hb:Below w.heap.size w w') (hy:∀ k,Y k→X k∨(w.heap.size≤k∧k<w'.heap.size)):TwoD w0 Y gD gR d dR w':=by
 obtain ⟨⟨FD,FR,h1,h2,h3,h4,h5⟩,h6⟩:=h;refine ⟨⟨FD,FR,h1.ext hb,h2.ext hb,fun k hk=>⟨(h3 k hk).1,fun hY=>?_⟩,fun k hk=>⟨(h4 k hk).1,fun hY=>?_⟩,h5⟩,fun k hk=>?_⟩
 ·rcases hy k hY with h | h
  ·exact (h3 k hk).2 h
  ·have:=h1.lt k hk;omega
 ·rcases hy k hY with h | h
  ·exact (h4 k hk).2 h
  ·have:=h2.lt k hk;omega
 ·rcases hy k hk with h | h
  ·exact Nat.lt_of_lt_of_le (h6 k h) hb.size
  ·exact h.2
theorem TwoD.ext (h:TwoD w0 X gD gR d dR w) (hb:Below w.heap.size w w'):TwoD w0 X gD gR d dR w':=h.more hb fun _ hk=>.inl hk
theorem TwoD.mono (h:TwoD w0 X gD gR d dR w) (hy:∀ k,Y k→X k):TwoD w0 Y gD gR d dR w:=h.more (Below.refl _ _) fun k hk=>.inl (hy k hk)
theorem TwoD.prog (h:TwoD w0 X gD gR d dR w):∃ Y:Nat→Prop,(∀ k,X k→Y k)∧(∀ k,Y k→X k∨Gx w0 X k)∧DwS w0 Y gD d w∧∀ (Y' G:Nat→Prop) (d':Dk) (w':World),(∀ k,Y k→Y' k)→(∀ k,Y' k→Y k∨w.heap.size≤k)→DwS w0 Y' gD d' w'→Chg G w w'→(∀ k,G k→Gx w0 Y k∨X k) →
 ∃ X':Nat→Prop,(∀ k,X k→X' k)∧(∀ k,X' k→X k∨w.heap.size≤k)∧(∀ k,Y' k→X k∨w.heap.size≤k→X' k)∧TwoD w0 X' gD gR d' dR w':=by
 obtain ⟨⟨FD,FR,h1,h2,h3,h4,h5⟩,h6⟩:=h;refine ⟨fun k=>X k∨FR k,fun k hk=>.inl hk,fun k hk=>hk.imp id (h4 k),⟨⟨FD,h1,fun k hk=>⟨(h3 k hk).1,fun hY=>hY.elim (h3 k hk).2 (h5 k hk)⟩⟩,fun k hk=>hk.elim (h6 k) (h2.lt k)⟩,?_⟩;intro Y' G d' w' hY hYr hd hc hG;obtain ⟨⟨FD',g1,g3⟩,g6⟩:=hd;refine ⟨fun k=>Y' k∧¬ FR k,fun k hk=>⟨hY k (.inl hk),fun hF=>(h4 k hF).2 hk⟩,fun k hk=>?_,fun k hk hx=>⟨hk,fun hF=>?_⟩,⟨FD',FR,g1,h2.chg hc (fun k hk hg=>?_),fun k hk=>⟨(g3 k hk).1,fun hx=>(g3 k hk).2 hx.1⟩,fun k hk=>⟨(h4 k hk).1,fun hx=>hx.2 hk⟩,fun k hk hF=>(g3 k hk).2 (hY k (.inr hF))⟩,fun k hk=>g6 k hk.1⟩
 ·rcases hYr k hk.1 with (h | h) | h
  ·exact .inl h
  ·exact absurd h hk.2
  ·exact .inr h
 ·rcases hx with hx | hx
  ·exact (h4 k hF).2 hx
  ·have:=h2.lt k hF;omega
 ·rcases hG k hg with h | h
  ·exact h.2 (.inr hk)
  ·exact (h4 k hk).2 h
theorem TwoD.doc (h:TwoD w0 X gD gR d dR w):∃ Y:Nat→Prop,(∀ k,X k→Y k)∧(∀ k,Y k→X k∨Gx w0 X k)∧RfS w0 Y gR dR w∧∀ (Y' G:Nat→Prop) (d':Dk) (w':World),(∀ k,Y k→Y' k)→(∀ k,Y' k→Y k∨w.heap.size≤k)→RfS w0 Y' gR d' w'→Chg G w w'→(∀ k,G k→Gx w0 Y k∨X k) →
 ∃ X':Nat→Prop,(∀ k,X k→X' k)∧(∀ k,X' k→X k∨w.heap.size≤k)∧(∀ k,Y' k→X k∨w.heap.size≤k→X' k)∧TwoD w0 X' gD gR d d' w':=by
 obtain ⟨⟨FD,FR,h1,h2,h3,h4,h5⟩,h6⟩:=h;refine ⟨fun k=>X k∨FD k,fun k hk=>.inl hk,fun k hk=>hk.imp id (h3 k),⟨⟨FR,h2,fun k hk=>⟨(h4 k hk).1,fun hY=>hY.elim (h4 k hk).2 (fun hF=>h5 k hF hk)⟩⟩,fun k hk=>hk.elim (h6 k) (h1.lt k)⟩,?_⟩;intro Y' G d' w' hY hYr hd hc hG;obtain ⟨⟨FR',g1,g3⟩,g6⟩:=hd;refine ⟨fun k=>Y' k∧¬ FD k,fun k hk=>⟨hY k (.inl hk),fun hF=>(h3 k hF).2 hk⟩,fun k hk=>?_,fun k hk hx=>⟨hk,fun hF=>?_⟩,⟨FD,FR',h1.chg hc (fun k hk hg=>?_),g1,fun k hk=>⟨(h3 k hk).1,fun hx=>hx.2 hk⟩,fun k hk=>⟨(g3 k hk).1,fun hx=>(g3 k hk).2 hx.1⟩,fun k hk hF=>(g3 k hF).2 (hY k (.inr hk))⟩,fun k hk=>g6 k hk.1⟩
 ·rcases hYr k hk.1 with (h | h) | h
  ·exact .inl h
  ·exact absurd h hk.2
  ·exact .inr h
 ·rcases hx with hx | hx
  ·exact (h3 k hF).2 hx
  ·have:=h1.lt k hF;omega
 ·rcases hG k hg with h | h
  ·exact h.2 (.inr hk)
  ·exact (h3 k hk).2 h
theorem TwoD.start {w1 w2:World} (hd:DwS w0 X gD d w1) (hX:∀ k,X k→k<w1.heap.size) (hr:RfS w1 (fun _=>False) gR dR w2) (hb:Below w1.heap.size w1 w2):TwoD w0 X gD gR d dR w2:=by
 have hs:=hd.size;obtain ⟨⟨FD,h1,h3⟩,h6⟩:=hd;obtain ⟨⟨FR,g1,g3⟩,g6⟩:=hr;exact ⟨⟨FD,FR,h1.ext hb,g1,h3,fun k hk=>⟨Nat.le_trans hs (g3 k hk).1,fun hx=>by have:=hX k hx;have:=(g3 k hk).1;omega⟩,fun k hk hF=>by have:=h1.lt k hk;have:=(g3 k hF).1;omega⟩,fun k hk=>Nat.lt_of_lt_of_le (h6 k hk) hb.size⟩
theorem WalV.only {g gw:Nat} {v:Value} {ws:Wl} {G:Nat→Prop} (h:WalV w X g gw v ws) (hc:Chg G w w') (h1:¬ G gw) (h2:∀ k,v.ownBlock=some k→¬ G k):WalV w' X g gw v ws :=
 (WalV.mono ((⟨h.blk,h.log,.inl rfl,fun k hk=>.inr hk,h.off,h.few,h.num⟩:WalV w (fun k=>k=gw∨v.ownBlock=some k) g gw v ws).chg hc fun k hk=>hk.elim (fun e=>by rw [e];exact h1) (h2 k)) (fun k hk=>hk.elim (fun e=>by rw [e];exact h.inX) (h.lX k)))
theorem RwV.only {g gw:Nat} {v:Value} {ws:Wl} {G:Nat→Prop} (h:RwV w X g gw v ws) (hc:Chg G w w') (h1:¬ G gw) (h2:ws.h.log≠[]→∀ k,v.ownBlock=some k→¬ G k):RwV w' X g gw v ws :=
 ⟨hc.blk h.blk h1,h.log.chgE hc h2,h.inX,h.lX,h.off,h.few,h.num⟩
theorem WalV.same_set {g gw:Nat} {v:Value} {ws:Wl} (h:WalV w X g gw v ws) (h1:Y gw) (h2:∀ k,v.ownBlock=some k→Y k):WalV w Y g gw v ws:=⟨h.blk,h.log,h1,h2,h.off,h.few,h.num⟩
theorem RwV.same_set {g gw:Nat} {v:Value} {ws:Wl} (h:RwV w X g gw v ws) (h1:Y gw) (h2:ws.h.log≠[]→∀ k,v.ownBlock=some k→Y k):RwV w Y g gw v ws:=⟨h.blk,h.log,h1,h2,h.off,h.few,h.num⟩
end
end
section
open Go Go.RowKit Go.PlainAid BigFrame
theorem rksSnap (h:Hrd) (u:Value) (w:World) (hu:Rd etyE w u h.log) (hiba:In64 h.base) (hibt:In64 h.bterm) (hime:In64 h.members) (hs:h.snap.size≤1000000000) :
 Calls Tryz.prog 118 #[hrdA h u] w fun e w'=>∃ r,e=.returned r∧OwnB w' w.heap.size 5 r (snapB h)∧Below w.heap.size w w':=by
 obtain ⟨pu,cu,rfl⟩:=hu.shape;have ca:=below_alloc w (.cells #[.int .i64 h.term,.int .i64 h.vote,.int .i64 h.base,.int .i64 h.bterm,.int .i64 h.members,.string h.snap,.slice pu h.log.length cu] 24);have ka:=Blk.new w #[.int .i64 h.term,.int .i64 h.vote,.int .i64 h.base,.int .i64 h.bterm,.int .i64 h.members,.string h.snap,.slice pu h.log.length cu] 24;have hb3:=numB_le h.base;have hb4:=numB_le h.bterm;have hb5:=numB_le h.members;have htl:(textB h.snap.data.toList).length≤h.snap.size+10:=by
  have:=numB_le (h.snap.data.toList.length:Int);unfold textB;rw [List.length_append];simp at *; omega
 go_enter Tryz.func118,Tryz.ntmps118
 go_wp2_with fail
 obtain ⟨wa,hwa⟩:∃ wa,wa=w.alloc (.cells #[.int .i64 h.term,.int .i64 h.vote,.int .i64 h.base,.int .i64 h.bterm,.int .i64 h.members,.string h.snap,.slice pu h.log.length cu] 24):=⟨_,rfl⟩;rw [←hwa] at ca ka ⊢;have hsz:wa.heap.size=w.heap.size+1:=by rw [hwa];simp
 clear hwa;refine wp_region_F (n:=13) (S:=fun w':World=>w'.cell? ⟨w.heap.size,2,none⟩=some (.int .i64 h.base)∧w'.cell? ⟨w.heap.size,3,none⟩=some (.int .i64 h.bterm)∧w'.cell? ⟨w.heap.size,4,none⟩=some (.int .i64 h.members)∧w'.cell? ⟨w.heap.size,5,none⟩=some (.string h.snap)) (by kernel_rfl) ?_;have k0:=ka.drew;have z0:Below w.heap.size w wa.drew:=ca.trans ((below_drew _ _))
 have hHeld:(fun w':World=>w'.cell? ⟨w.heap.size,2,none⟩=some (.int .i64 h.base)∧w'.cell? ⟨w.heap.size,3,none⟩=some (.int .i64 h.bterm)∧w'.cell? ⟨w.heap.size,4,none⟩=some (.int .i64 h.members)∧w'.cell? ⟨w.heap.size,5,none⟩=some (.string h.snap)) wa.drew:=⟨k0.cell 2 _ rfl,k0.cell 3 _ rfl,k0.cell 4 _ rfl,k0.cell 5 _ rfl⟩;refine tk ?_ 0 ?_ hHeld ?_;rotate_left
 ·rintro w ⟨_,_,_,_⟩;dsimp only [bare];go_simp<;>with_reducible rfl
 try simp only [lyB,lyP,lyA,lyZ,lyS]
 refine tk ?_ 1 ?_ hHeld ?_;rotate_left
 ·rintro w ⟨_,_,_,_⟩;dsimp only [bare];go_simp<;>with_reducible rfl
 try simp only [lyB,lyP,lyA,lyZ,lyS]
 refine tk ?_ 3 ?_ hHeld ?_;rotate_left
 ·rintro w ⟨_,_,_,_⟩;dsimp only [bare];go_simp<;>with_reducible rfl
 try simp only [lyB,lyP,lyA,lyZ,lyS]
 refine tk ?_ 4 ?_ hHeld ?_;rotate_left
 ·rintro w ⟨_,_,_,_⟩;dsimp only [bare];go_simp<;>with_reducible rfl
 try simp only [lyB,lyP,lyA,lyZ,lyS]
 refine tk ?_ 6 ?_ hHeld ?_;rotate_left
 ·rintro w ⟨_,_,_,_⟩;dsimp only [bare];go_simp<;>with_reducible rfl
 try simp only [lyB,lyP,lyA,lyZ,lyS]
 refine tk ?_ 7 ?_ hHeld ?_;rotate_left
 ·rintro w ⟨_,_,_,_⟩;dsimp only [bare];go_simp<;>with_reducible rfl
 try simp only [lyB,lyP,lyA,lyZ,lyS]
 refine tk ?_ 9 ?_ hHeld ?_;rotate_left
 ·rintro w ⟨_,_,_,_⟩;dsimp only [bare];go_simp<;>with_reducible rfl
 try simp only [lyB,lyP,lyA,lyZ,lyS]
 refine tk ?_ 10 ?_ hHeld ?_;rotate_left
 ·rintro w ⟨_,_,_,_⟩;dsimp only [bare];go_simp<;>with_reducible rfl
 try simp only [lyB,lyP,lyA,lyZ,lyS]
 refine wpAnyF_one 2 _ _ _ rfl (by kernel_rfl) (fun K hK=>?_);dsimp only [bare];go_simp;refine (rkNum (.slice none 0 0) [] h.base wa.drew (Bytes.nil _) (by simp only [List.length_append,List.length_nil];omega) hiba.1 hiba.2).mono ?_;rintro e w1 ⟨q1,rfl,own1,b1⟩;dsimp only;have k1:=k0.ext b1;have z1:=z0.trans (b1.mono z0.size);refine hK _ _ ⟨k1.cell 2 _ rfl,k1.cell 3 _ rfl,k1.cell 4 _ rfl,k1.cell 5 _ rfl⟩ (fun hHeld=>?_);clear hK K
 try simp only [lyB,lyP,lyA,lyZ,lyS]
 refine wpAnyF_one 5 _ _ _ rfl (by kernel_rfl) (fun K hK=>?_);dsimp only [bare];go_simp;refine (rkNum _ _ h.bterm w1 own1.bytes (by simp only [List.length_append,List.length_nil];omega) hibt.1 hibt.2).mono ?_;rintro e w2 ⟨q2,rfl,own2,b2⟩;dsimp only;have k2:=k1.ext b2;have z2:=z1.trans (b2.mono z1.size);refine hK _ _ ⟨k2.cell 2 _ rfl,k2.cell 3 _ rfl,k2.cell 4 _ rfl,k2.cell 5 _ rfl⟩ (fun hHeld=>?_);clear hK K
 try simp only [lyB,lyP,lyA,lyZ,lyS]
 refine wpAnyF_one 8 _ _ _ rfl (by kernel_rfl) (fun K hK=>?_);dsimp only [bare];go_simp;refine (rkNum _ _ h.members w2 own2.bytes (by simp only [List.length_append,List.length_nil];omega) hime.1 hime.2).mono ?_;rintro e w3 ⟨q3,rfl,own3,b3⟩;dsimp only;have k3:=k2.ext b3;have z3:=z2.trans (b3.mono z2.size);refine hK _ _ ⟨k3.cell 2 _ rfl,k3.cell 3 _ rfl,k3.cell 4 _ rfl,k3.cell 5 _ rfl⟩ (fun hHeld=>?_);clear hK K
 try simp only [lyB,lyP,lyA,lyZ,lyS]
 refine wpAnyF_one 11 _ _ _ rfl (by kernel_rfl) (fun K hK=>?_);dsimp only [bare];go_simp;refine (rkText _ _ h.snap w3 own3.bytes (by simp only [List.length_append];simp only [List.length_nil];omega)).mono ?_;rintro e w4 ⟨q4,rfl,own4,b4⟩;dsimp only;have k4:=k3.ext b4;have z4:=z3.trans (b4.mono z3.size);refine hK _ _ ⟨k4.cell 2 _ rfl,k4.cell 3 _ rfl,k4.cell 4 _ rfl,k4.cell 5 _ rfl⟩ (fun hHeld=>?_);clear hK K
 try simp only [lyB,lyP,lyA,lyZ,lyS]
 refine wpAnyF_one 12 _ _ _ rfl (by kernel_rfl) (fun K hK=>?_);dsimp only [bare];go_simp;refine (refFrame (.slice none 0 0) q4 [] _ w4 (Bytes.nil _) own4.bytes (by simp) (by simp only [List.length_append,List.length_nil];omega)).mono ?_;rintro e w5 ⟨q5,rfl,own5,b5⟩;dsimp only;have k5:=k4.ext b5;have z5:=z4.trans (b5.mono z4.size);refine hK _ _ ⟨k5.cell 2 _ rfl,k5.cell 3 _ rfl,k5.cell 4 _ rfl,k5.cell 5 _ rfl⟩ (fun hHeld=>?_);clear hK K
 try simp only [lyB,lyP,lyA,lyZ,lyS]
 refine wpAnyF_end (some 2) (Op.assign (Operand.tmp 15)) 26 rfl (by kernel_rfl) (by kernel_rfl) (fun K hK=>?_);dsimp only [bare];go_simp;refine hK _ _ ?_;clear hK K
 try simp only [lyB,lyP,lyA,lyZ,lyS]
 go_wp2_with fail
 go_ret
 have z4:w.heap.size≤w4.heap.size:=z4.size;have e:Frm.put [] ([]++numB h.base++numB h.bterm++numB h.members++textB h.snap.data.toList)=snapB h:=by
  unfold snapB payP Frm.put bytesOf;simp [numsB]
 rw [e] at own5;exact ⟨_,rfl,own5.base z4,z5⟩
structure RkK (w0 w:World) (H gr:Nat) (vr:Value) (r:Rdr) (cs:Array Value) (t:TypeId):Prop where
 rd:RkAt w gr vr r
 kb:Blk w H cs t
 bel:Below w0.heap.size w0 w
 low:w0.heap.size≤gr
 ne:H≠gr
theorem RkK.step {w0 w w':World} {H gr:Nat} {vr:Value} {r r':Rdr} {cs:Array Value} {t:TypeId} (k:RkK w0 w H gr vr r cs t) (hr:RkAt w' gr vr r') (hc:Chg (fun k=>k=gr) w w'):RkK w0 w' H gr vr r' cs t :=
 ⟨hr,hc.blk k.kb k.ne,k.bel.trans (hc.below (fun j hj=>by rw [hj];exact k.low) k.bel.size),k.low,k.ne⟩
def RkReadI (w:World) (o:Option (List UInt8)) (e:Ending) (w':World):Prop :=
 (match o with
 | some s=>e=.returned (.tuple #[.string (ofBytes s),.bool true])
 | none=>∃ s,e=.returned (.tuple #[.string s,.bool false]))∧Below w.heap.size w w'
theorem parseP_ifR (p:List UInt8) (h:Hrd) {N1 N2 N3:Int×Rdr} {S:List UInt8×Rdr} {E:Int} (h1:rNum (rd0 p)=N1) (h2:rNum N1.2=N2) (h3:rNum N2.2=N3) (h4:rText 65536 N3.2=S) (h5:(rEnd S.2).1=E) :
 parseP p h=if E=0∧N1.1=h.base∧N2.1=h.bterm∧N3.1=h.members∧S.1≠[] then some S.1 else none:=by
 subst h1;subst h2;subst h3;subst h4;subst h5;rfl
theorem rksRead (v:Value) (b:List UInt8) (h:Hrd) (u:Value) (w:World) (hv:Bytes w v b) (hb:b.length≤35184372088000) (hu:Rd etyE w u h.log) :
 Calls Tryz.prog 80 #[v,hrdA h u] w (RkReadI w (readP b h)):=by
 obtain ⟨p0,c0,rfl⟩:=hv.shape;obtain ⟨pu,cu,rfl⟩:=hu.shape;have ca:=below_alloc w (.cells #[.int .i64 h.term,.int .i64 h.vote,.int .i64 h.base,.int .i64 h.bterm,.int .i64 h.members,.string h.snap,.slice pu h.log.length cu] 24);have ka:=Blk.new w #[.int .i64 h.term,.int .i64 h.vote,.int .i64 h.base,.int .i64 h.bterm,.int .i64 h.members,.string h.snap,.slice pu h.log.length cu] 24;have hcall:=refNext (.slice p0 b.length c0) b 0 _ (hv.ext ca) (by omega);have hrp:readP b h=if Frm.errAt b 0=0∧Frm.toAt b 0=b.length then parseP (Frm.payAt b 0) h else none:=rfl
 have hpl:Frm.errAt b 0=0→(Frm.payAt b 0).length≤131072:=fun he=>by
  obtain ⟨n,_,_,_,q⟩:=frm_in (a:=0) (Nat.zero_le _) he;exact q
 have Hrp:=Lib.hid hrp;have Hpl:=Lib.hid hpl;clear hrp hpl;generalize readP b h=RP at *;generalize Frm.errAt b 0=E at *;generalize Frm.toAt b 0=T at *;generalize Frm.payAt b 0=P at *;go_enter Tryz.func80,Tryz.ntmps80
 go_wp2_with fail
 refine hcall.mono ?_;rintro e w1 ⟨r,rfl,own1,b1⟩;clear hcall;have k1:=ka.ext b1;have z1:Below w.heap.size w w1:=ca.trans (b1.mono (by simp));have hs1:=b1.size
 by_cases hE:E=0
 ·have hEi:((E:Int) !=0)=false:=by simp [hE]
  by_cases hT:T=(b.length:Int)
  ·have hTi:(T !=(b.length:Int))=false:=by simp [hT]
   have Hr1:=Lib.hid (Hrp.out.trans (if_pos ⟨hE,hT⟩));have hP:=Hpl.out hE;clear Hrp Hpl hT hE;go_wp2_with fail
   refine (rkRead r P w1 own1.bytes (by omega)).mono ?_;rintro e w2 ⟨gr,vr,rfl,rd2,hgr,_,b2⟩;have k2:RkK w w2 w.heap.size gr vr (rd0 P) #[.int .i64 h.term,.int .i64 h.vote,.int .i64 h.base,.int .i64 h.bterm,.int .i64 h.members,.string h.snap,.slice pu h.log.length cu] 24:=⟨rd2,k1.ext b2,z1.trans (b2.mono z1.size),by simp at hs1;omega,by simp at hs1;omega⟩;have hpi:=fun N1 N2 N3 S E a1 a2 a3 a4 a5=>Hr1.out.trans (parseP_ifR P h (N1:=N1) (N2:=N2) (N3:=N3) (S:=S) (E:=E) a1 a2 a3 a4 a5);have Hpi:=Lib.hid hpi;clear hpi Hr1 own1 k1 z1 hs1 b1 b2 rd2 ka ca hgr;go_wp2_with fail
   refine (rkRNum gr vr _ w2 k2.rd).mono ?_;rintro e w3 ⟨rfl,rd3,c3⟩;have k3:=k2.step rd3 c3;obtain ⟨N1,hN1⟩:∃ N1,rNum (rd0 P)=N1:=⟨_,rfl⟩;rw [hN1] at k3 ⊢;clear rd3 c3 k2;have HN1:=Lib.hid hN1;clear hN1;go_wp2_with fail
   refine (rkRNum gr vr _ w3 k3.rd).mono ?_;rintro e w4 ⟨rfl,rd4,c4⟩;have k4:=k3.step rd4 c4;obtain ⟨N2,hN2⟩:∃ N2,rNum N1.2=N2:=⟨_,rfl⟩;rw [hN2] at k4 ⊢;clear rd4 c4 k3;have HN2:=Lib.hid hN2;clear hN2;go_wp2_with fail
   refine (rkRNum gr vr _ w4 k4.rd).mono ?_;rintro e w5 ⟨rfl,rd5,c5⟩;have k5:=k4.step rd5 c5;obtain ⟨N3,hN3⟩:∃ N3,rNum N2.2=N3:=⟨_,rfl⟩;rw [hN3] at k5 ⊢;clear rd5 c5 k4;have HN3:=Lib.hid hN3;clear hN3;go_wp2_with fail
   refine (rkRText gr vr _ 65536 w5 k5.rd).mono ?_;rintro e w6 ⟨rfl,rd6,c6⟩;have k6:=k5.step rd6 c6;obtain ⟨S,hS⟩:∃ S,rText 65536 N3.2=S:=⟨_,rfl⟩;rw [hS] at k6 ⊢;clear rd6 c6 k5;have HS:=Lib.hid hS;clear hS;go_wp2_with fail
   refine (rkEnd gr vr _ w6 k6.rd).mono ?_;rintro e w7 ⟨rfl,rd7,c7⟩;have k7:=k6.step rd7 c7;obtain ⟨E5,hE5⟩:∃ E5,(rEnd S.2).1=E5:=⟨_,rfl⟩;rw [hE5];clear rd7 c7 k6;have Hfin:=Lib.hid (Hpi.out _ _ _ _ _ HN1.out HN2.out HN3.out HS.out hE5);clear Hpi HN1 HN2 HN3 HS hE5;obtain ⟨n1,m1⟩:=N1;obtain ⟨n2,m2⟩:=N2;obtain ⟨n3,m3⟩:=N3;obtain ⟨s,m4⟩:=S;dsimp only at *;have y2:=k7.kb.cell 2 _ rfl;have y3:=k7.kb.cell 3 _ rfl;have y4:=k7.kb.cell 4 _ rfl;have bel:=k7.bel;clear k7
   by_cases g1:E5=0
   case neg =>
    have t1:(E5 == 0)=false:=by simpa using g1
    have Hz:=Lib.hid (Hfin.out.trans (if_neg (fun q=>g1 q.1)));clear g1 Hfin;go_wp2_with fail
    refine bodyPost_ret (v:=.tuple #[.string ⟨s.toArray⟩,.bool false]) (by simp [results,Tryz.results80,go_sem]) rfl ?_;rw [Hz.out];exact ⟨⟨_,rfl⟩,bel⟩
   have t1:(E5 == 0)=true:=by simpa using g1
   by_cases g2:n1=h.base
   case neg =>
    have t2:(n1 == h.base)=false:=by simpa using g2
    have Hz:=Lib.hid (Hfin.out.trans (if_neg (fun q=>g2 q.2.1)));clear g1 g2 Hfin;go_wp2_with fail
    refine bodyPost_ret (v:=.tuple #[.string ⟨s.toArray⟩,.bool false]) (by simp [results,Tryz.results80,go_sem]) rfl ?_;rw [Hz.out];exact ⟨⟨_,rfl⟩,bel⟩
   have t2:(n1 == h.base)=true:=by simpa using g2
   by_cases g3:n2=h.bterm
   case neg =>
    have t3:(n2 == h.bterm)=false:=by simpa using g3
    have Hz:=Lib.hid (Hfin.out.trans (if_neg (fun q=>g3 q.2.2.1)));clear g1 g2 g3 Hfin;go_wp2_with fail
    refine bodyPost_ret (v:=.tuple #[.string ⟨s.toArray⟩,.bool false]) (by simp [results,Tryz.results80,go_sem]) rfl ?_;rw [Hz.out];exact ⟨⟨_,rfl⟩,bel⟩
   have t3:(n2 == h.bterm)=true:=by simpa using g3
   by_cases g4:n3=h.members
   case neg =>
    have t4:(n3 == h.members)=false:=by simpa using g4
    have Hz:=Lib.hid (Hfin.out.trans (if_neg (fun q=>g4 q.2.2.2.1)));clear g1 g2 g3 g4 Hfin;go_wp2_with fail
    refine bodyPost_ret (v:=.tuple #[.string ⟨s.toArray⟩,.bool false]) (by simp [results,Tryz.results80,go_sem]) rfl ?_;rw [Hz.out];exact ⟨⟨_,rfl⟩,bel⟩
   have t4:(n3 == h.members)=true:=by simpa using g4
   by_cases g5:s=[]
   ·have Hz:=Lib.hid (Hfin.out.trans (if_neg (fun q=>q.2.2.2.2 g5)));subst g5;clear g1 g2 g3 g4 Hfin;go_wp2_with fail
    refine bodyPost_ret (v:=.tuple #[.string ⟨#[]⟩,.bool false]) (by simp [results,Tryz.results80,go_sem]) rfl ?_;rw [Hz.out];exact ⟨⟨_,rfl⟩,bel⟩
   ·have Hz:=Lib.hid (Hfin.out.trans (if_pos ⟨g1,g2,g3,g4,g5⟩));have t5:s.isEmpty=false:=by cases s;exact absurd rfl g5;rfl
    clear g1 g2 g3 g4 g5 Hfin;go_wp2_with fail
    refine bodyPost_ret (v:=.tuple #[.string ⟨s.toArray⟩,.bool true]) (by simp [results,Tryz.results80,go_sem]) rfl ?_;rw [Hz.out];exact ⟨rfl,bel⟩
  ·have hTi:(T !=(b.length:Int))=true:=by simpa using hT
   have Hz:=Lib.hid (Hrp.out.trans (if_neg (fun q=>hT q.2)));clear Hrp Hpl hT;go_wp2_with fail
   refine bodyPost_ret (v:=.tuple #[.string ⟨#[]⟩,.bool false]) (by simp [results,Tryz.results80,go_sem]) rfl ?_;rw [Hz.out];exact ⟨⟨_,rfl⟩,z1⟩
 ·have hEi:((E:Int) !=0)=true:=by simp;omega
  have Hz:=Lib.hid (Hrp.out.trans (if_neg (fun q=>hE q.1)));clear Hrp Hpl hE;go_wp2_with fail
  refine bodyPost_ret (v:=.tuple #[.string ⟨#[]⟩,.bool false]) (by simp [results,Tryz.results80,go_sem]) rfl ?_;rw [Hz.out];exact ⟨⟨_,rfl⟩,z1⟩
end
section
open Go Go.RowKit Go.PlainAid BigFrame
theorem digsR_low:∀ (l:List UInt8) (n:Nat),(∀ c ∈ l,digB c=true)→(n:Int)≤digsR l n
 | [],n,_=>Int.le_refl _
 | c::r,n,h=>by
  rw [digsR_cons _ _ (h c List.mem_cons_self)];have:=digsR_low r (10 * n+(c.toNat - 48)) fun x hx=>h x (List.mem_cons_of_mem _ hx);omega
theorem digsR_bad1:∀ (l:List UInt8) (n:Nat),¬ (∀ c ∈ l,digB c=true)→digsR l n = -1
 | [],n,h=>absurd (by simp) h
 | c::r,n,h=>by
  by_cases hc:digB c=true
  ·rw [digsR_cons _ _ hc];exact digsR_bad1 r _ fun q=>h fun x hx=>by
    rcases List.mem_cons.1 hx with rfl | hx
    ·exact hc
    ·exact q x hx
  ·exact digsR_bad _ _ hc
theorem numR_pos (s:ByteArray):decide (0<numR hdS (bytesOf s))=numbS s:=by
 have e5:hdS.length=5:=rfl;unfold numbS numbB numR;rw [e5];generalize bytesOf s=l
 by_cases hc:l.length≤5∨l.take 5≠hdS∨14<l.length - 5∨l[5]?=some 48
 ·rw [if_pos hc];have:(decide (l.length≤5) || decide (l.take 5≠hdP) || decide (19<l.length) || decide (l[5]?=some 48))=true:=by
   rcases hc with h | h | h | h
   ·rw [decide_eq_true h];rfl
   ·rw [decide_eq_true (show l.take 5≠hdP from h)];simp
   ·rw [decide_eq_true (show 19<l.length by omega)];simp
   ·rw [decide_eq_true h];simp
  rw [this];rfl
 ·rw [if_neg hc];have h1:¬ l.length≤5:=fun h=>hc (.inl h);have h2:¬ l.take 5≠hdP:=fun h=>hc (.inr (.inl h));have h3:¬ 19<l.length:=fun h=>hc (.inr (.inr (.inl (by omega))));have h4:¬ l[5]?=some 48:=fun h=>hc (.inr (.inr (.inr h)));rw [decide_eq_false h1,decide_eq_false h2,decide_eq_false h3,decide_eq_false h4];simp only [Bool.or_false,Bool.not_false,Bool.true_and]
  have hd:(l.drop 5).head?≠some 48:=by rw [List.head?_drop];exact h4
  have hp:0<(l.drop 5).length:=by rw [List.length_drop];omega
  generalize l.drop 5=r at *
  by_cases ha:∀ c ∈ r,digB c=true
  ·rw [List.all_eq_true.2 ha,decide_eq_true]
   cases r with
   | nil=>simp at hp
   | cons c r =>
    have hcd:=ha c List.mem_cons_self;rw [digsR_cons _ _ hcd];have hl:=digsR_low r (10 * 0+(c.toNat - 48)) fun x hx=>ha x (List.mem_cons_of_mem _ hx);have q:=(digB_iff c).1 hcd;have hne:c.toNat≠48:=fun e=>hd (by rw [List.head?_cons];congr 1;exact UInt8.toNat_inj.1 e);omega
  ·rw [digsR_bad1 r 0 ha];have:r.all digB=false:=by rw [Bool.eq_false_iff];exact fun q=>ha (List.all_eq_true.1 q)
   rw [this];rfl
def butS (n:Nat):ByteArray:=if 0<n then nameP n else ⟨#[]⟩
theorem dropS_but (n:Nat) (s:ByteArray):dropS n s=(!eqS s (butS n) && (eqS s freshS || numbS s)):=by
 unfold dropS butS
 by_cases hn:0<n
 ·rw [if_pos hn,decide_eq_true hn,Bool.true_and,Bool.and_comm]
 ·rw [if_neg hn,decide_eq_false hn,Bool.false_and,Bool.not_false,Bool.and_true]
  cases he:eqS s ⟨#[]⟩ with
  | false=>rfl
  | true =>
   have e:=(eqS_iff _ _).1 he;subst e;have h1:eqS ⟨#[]⟩ freshS=false:=by
    rw [Bool.eq_false_iff];exact fun q=>by have:=congrArg ByteArray.size ((eqS_iff _ _).1 q);exact absurd this (by decide)
   have h2:numbS ⟨#[]⟩=false:=rfl;rw [h1,h2];rfl
theorem freshLR:freshS.toList=[115,110,97,112,46,116,109,112]:=by rw [ByteArray.toList_eq];rfl
theorem namedD_few {s:ByteArray} (h:namedD s=true):s.size≤24:=by
 unfold namedD at h;rw [Bool.and_eq_true,Bool.and_eq_true] at h;exact of_decide_eq_true h.1.2
def RfDid (w0 w:World) (X:Nat→Prop) (g:Nat) (E:Int) (d':Dk) (e:Ending) (w':World):Prop:=e=.returned (.int .i64 E)∧RfS w0 X g d' w'∧Chg (Gx w0 X) w w'
theorem rksDrop {w0 w:World} {X:Nat→Prop} {g:Nat} {d d':Dk} (hd:RfS w0 X g d w) {m:Nat} (pi:PInv m d) (hm:m≤900) (n:Nat) (bt:ByteArray) (hbt:bt=butS n) {E:Int} (he:cleanP d n=(E,d')) :
 Calls Tryz.prog 81 #[.pointer (some ⟨g,0,none⟩),.string bt] w (RfDid w0 w X g E d'):=by
 have ok:=pi.ok (show m≤1000 by omega);have hcall:=rNames hd ok;have hlen:=(okD_spec ok).2;obtain ⟨L,hL⟩:∃ L,L=d.fs.map (·.name):=⟨_,rfl⟩;have hc0:dropD n L d=(E,d'):=by rw [hL];exact he
 have hln:L.length≤999999:=by rw [hL];simpa using hlen
 have hnm:∀ s ∈ L,s.size≤24:=fun s hs=>by
  rw [hL] at hs;obtain ⟨f,hf,rfl⟩:=List.mem_map.1 hs;exact namedD_few (pi.l.nam f hf)
 rw [←hL] at hcall;clear hL he ok hlen;have hs0:=hd.size;have Hbt:=Lib.hid hbt;clear hbt;go_enter Tryz.func81,Tryz.ntmps81
 go_wp2_with fail
 refine hcall.mono ?_;rintro e w1 ⟨⟨rn,rfl,ownN⟩,b1⟩;have rN:=ownN.rd;have ltN:=fun k hk=>ownN.lt k hk;obtain ⟨pn,cn,rfl⟩:=rN.shape;obtain ⟨X1,hX1⟩:∃ X1:Nat→Prop,X1=fun k=>X k∨(Value.slice pn L.length cn).ownBlock=some k:=⟨_,rfl⟩;have hd1:RfS w0 X1 g d w1:=by rw [hX1];exact hd.more b1 (fun k hk=>hk.imp id (fun e=>⟨(ltN k e).1,(ltN k e).2⟩))
 have hx1:∀ k,X k→X1 k:=fun k hk=>by rw [hX1];exact .inl hk
 have hxN:∀ k,(Value.slice pn L.length cn).ownBlock=some k→X1 k:=fun k hk=>by rw [hX1];exact .inr hk
 clear hX1 ownN ltN hcall hd;have hs1:w0.heap.size≤w1.heap.size:=Nat.le_trans hs0 b1.size;have Hc:=Lib.hid hc0;have Hnm:=Lib.hid hnm;clear hnm;go_wp2_with fail
 go_loopw [6,7] (fun i _ wr=>∃ (k:Nat) (dk:Dk),k≤L.length∧i=.int .i64 k∧Hid (dropD n L d=dropD n (L.drop k) dk)∧PInv m dk∧RfS w0 X1 g dk wr∧Chg (Gx w0 X1) w1 wr) (fun i _ _=>L.length - (intOf i).toNat)
 case atStart=>exact ⟨0,d,by omega,rfl,rfl,pi,hd1,Chg.refl _ _⟩
 case round =>
  clear hc0;obtain ⟨k,dk,hk,rfl,hrem,pk,hdk,chk⟩:=hrel
  by_cases hlt:k<L.length
  ·have rNr:=chk.cells rN (fun j hj hG=>hG.2 (hxN j hj));obtain ⟨bb,off,rfl⟩:=Rd.blk (E:=strE) (l:=L) (show Rd strE wr (.slice pn L.length cn) L from rNr) (by omega);have c0:wr.cell? ⟨bb,off+k,none⟩=some (.string L[k]):=by
    have:=(show Rd strE wr (.slice (some ⟨bb,off,none⟩) L.length cn) L from rNr).at_ hlt 0 (by decide)
    simpa [strE] using this
   have hi:(k:Int)<(L.length:Int):=by omega
   have hi0:(0:Int)≤(k:Int):=by omega
   have hr2:=hrem.out;rw [List.drop_eq_getElem_cons hlt,dropD,dropS_but] at hr2;have hnk:=Hnm.out L[k] (List.getElem_mem hlt);clear rNr;generalize L[k]=s at *
   cases hbe:s.toList == bt.toList with
   | true =>
    have hbn:(s.toList !=bt.toList)=false:=by rw [bne,hbe];rfl
    have hq:eqS s (butS n)=true:=by rw [←Hbt.out];exact hbe
    rw [hq] at hr2;have hr3:=Lib.hid (hr2.trans (if_neg (by simp)));clear hr2 hrem hnk hq;go_wp2_with fail
    go_roundw
    case rel=>exact ⟨k+1,dk,by omega,by go_num,hr3.out,pk,hdk,chk⟩
    case measure=>simp [intOf];omega
   | false =>
    have hbn:(s.toList !=bt.toList)=true:=by rw [bne,hbe];rfl
    have hq:eqS s (butS n)=false:=by rw [←Hbt.out];exact hbe
    rw [hq,Bool.not_false,Bool.true_and] at hr2;clear hq
    cases hfr:s.toList == [115,110,97,112,46,116,109,112] with
    | true =>
     have hf2:eqS s freshS=true:=by unfold eqS;rw [freshLR];exact hfr
     rw [hf2,Bool.true_or,if_pos rfl] at hr2;clear hf2;obtain ⟨E2,D2,hrm⟩:∃ E2 D2,removeD dk s=(E2,D2):=⟨_,_,rfl⟩;rw [hrm] at hr2;unfold thenD at hr2;have pk2:PInv m D2:=by have:=pk.remove0 s;rw [hrm] at this;exact this
     have Hr2:=Lib.hid hr2;clear hr2 hrem hnk;go_wp2_with fail
     refine (rRemove hdk (pk.ok (by omega)) hrm).mono ?_;rintro e w6 ⟨rfl,hd6,ch6⟩;have ch06:Chg (Gx w0 X1) w1 w6:=chk.step ch6;have hr3:=Hr2.out;clear Hr2
     by_cases hE:E2=0
     ·subst hE;rw [if_pos rfl] at hr3;have Hr3:=Lib.hid hr3;clear hr3 hdk chk ch6;go_wp2_with fail
      go_roundw
      case rel=>exact ⟨k+1,D2,by omega,by go_num,Hr3.out,pk2,hd6,ch06⟩
      case measure=>simp [intOf];omega
     ·have hne:(E2 !=0)=true:=by simpa using hE
      rw [if_neg hE] at hr3;have hcd:=Hc.out.symm.trans hr3;simp only [Prod.mk.injEq] at hcd
      obtain ⟨rfl,rfl⟩:=hcd;clear hr3 hdk chk ch6;go_wp2_with fail
      go_ret
      exact ⟨rfl,hd6.mono hx1,(Chg.of_below b1).step (ch06.mono fun j _ hj=>⟨hj.1,fun q=>hj.2 (hx1 j q)⟩)⟩
    | false =>
     have hfe:¬ s.toList=[115,110,97,112,46,116,109,112]:=by simpa using hfr
     have hf2:eqS s freshS=false:=by unfold eqS;rw [freshLR];exact hfr
     rw [hf2,Bool.false_or] at hr2;clear hf2;have hcn:=rkNumberedS (bytesOf s) (by rw [bytes_size];omega) wr;have hps:=numR_pos s;obtain ⟨N,hN⟩:∃ N,numR hdS (bytesOf s)=N:=⟨_,rfl⟩;rw [hN] at hcn hps;clear hN
     cases hnb:numbS s with
     | false =>
      have hNi:¬ 0<N:=by rw [hnb] at hps;exact of_decide_eq_false hps
      rw [hnb] at hr2;have hr3:=Lib.hid (hr2.trans (if_neg (by simp)));clear hr2 hrem hps hnk;go_wp2_with fail
      refine hcn.mono ?_;rintro e w2 ⟨rfl,hw2⟩;subst hw2;clear hcn;go_wp2_with fail
      go_roundw
      case rel=>exact ⟨k+1,dk,by omega,by go_num,hr3.out,pk,hdk,chk⟩
      case measure=>simp [intOf];omega
     | true =>
      have hNi:0<N:=by rw [hnb] at hps;exact of_decide_eq_true hps
      rw [hnb,if_pos rfl] at hr2;clear hps;go_wp2_with fail
      refine hcn.mono ?_;rintro e w2 ⟨rfl,hw2⟩;subst hw2;clear hcn;obtain ⟨E2,D2,hrm⟩:∃ E2 D2,removeD dk s=(E2,D2):=⟨_,_,rfl⟩;rw [hrm] at hr2;unfold thenD at hr2;have pk2:PInv m D2:=by have:=pk.remove0 s;rw [hrm] at this;exact this
      have Hr2:=Lib.hid hr2;clear hr2 hrem hnk;go_wp2_with fail
      refine (rRemove hdk (pk.ok (by omega)) hrm).mono ?_;rintro e w6 ⟨rfl,hd6,ch6⟩;have ch06:Chg (Gx w0 X1) w1 w6:=chk.step ch6;have hr3:=Hr2.out;clear Hr2
      by_cases hE:E2=0
      ·subst hE;rw [if_pos rfl] at hr3;have Hr3:=Lib.hid hr3;clear hr3 hdk chk ch6;go_wp2_with fail
       go_roundw
       case rel=>exact ⟨k+1,D2,by omega,by go_num,Hr3.out,pk2,hd6,ch06⟩
       case measure=>simp [intOf];omega
      ·have hne:(E2 !=0)=true:=by simpa using hE
       rw [if_neg hE] at hr3;have hcd:=Hc.out.symm.trans hr3;simp only [Prod.mk.injEq] at hcd
       obtain ⟨rfl,rfl⟩:=hcd;clear hr3 hdk chk ch6;go_wp2_with fail
       go_ret
       exact ⟨rfl,hd6.mono hx1,(Chg.of_below b1).step (ch06.mono fun j _ hj=>⟨hj.1,fun q=>hj.2 (hx1 j q)⟩)⟩
  ·have hi:¬ (k:Int)<(L.length:Int):=by omega
   have hr2:=hrem.out;rw [List.drop_of_length_le (by omega),dropD] at hr2;have hcd:=Hc.out.symm.trans hr2;simp only [Prod.mk.injEq] at hcd
   obtain ⟨rfl,rfl⟩:=hcd;clear hr2 hrem;go_wp2_with fail
   go_ret
   exact ⟨rfl,hdk.mono hx1,(Chg.of_below b1).step (chk.mono fun j _ hj=>⟨hj.1,fun q=>hj.2 (hx1 j q)⟩)⟩
end
end Go.Proofs.YtgpgcnmnfnnkjaaGreatDoor
