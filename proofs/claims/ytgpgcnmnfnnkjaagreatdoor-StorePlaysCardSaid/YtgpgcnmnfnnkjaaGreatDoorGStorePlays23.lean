import Derived.Test.YtgpgcnmnfnnkjaaGreatDoorGStorePlays11
import Derived.Test.YtgpgcnmnfnnkjaaGreatDoorGStorePlays12
import Derived.Test.YtgpgcnmnfnnkjaaGreatDoorGStorePlays13
set_option linter.unusedVariables false
set_option linter.unusedSimpArgs false
set_option maxRecDepth 100000
set_option maxHeartbeats 16000000
namespace Go.Proofs.YtgpgcnmnfnnkjaaGreatDoor
section
open Go Go.RowKit Go.PlainAid

def etyE:Enc Ety:=⟨3,fun x=>[.int .i64 x.term,.int .i64 x.members,.string x.data],fun _=>rfl,fun _ v hv=>by
 simp only [List.mem_cons,List.not_mem_nil,or_false] at hv;rcases hv with rfl | rfl | rfl<;>rfl,by decide⟩
def etyV (x:Ety):Value:=.agg #[.int .i64 x.term,.int .i64 x.members,.string x.data]
@[reducible] def hrdA (h:Hrd) (v:Value):Value:=.agg #[.int .i64 h.term,.int .i64 h.vote,.int .i64 h.base,.int .i64 h.bterm,.int .i64 h.members,.string h.snap,v]
theorem tEty:SlT Tryz.prog 22 73 3 32:=SlT.mk' (z:=.agg #[.int .i64 0,.int .i64 0,.string ⟨#[]⟩]) Tryz.underlying22 (by kernel_rfl) rfl (by decide) (by decide)
theorem ety3 {w:World} {b off n c:Nat} {l:List Ety} (h:Rd etyE w (.slice (some ⟨b,off,none⟩) n c) l) {k:Nat} (hk:k<l.length) :
 w.cell? ⟨b,off+k * 3,none⟩=some (.int .i64 l[k].term)∧w.cell? ⟨b,off+k * 3+1,none⟩=some (.int .i64 l[k].members)∧w.cell? ⟨b,off+k * 3+2,none⟩=some (.string l[k].data) :=
 ⟨h.at_ hk 0 (by decide),h.at_ hk 1 (by decide),h.at_ hk 2 (by decide)⟩
theorem str_none {s:ByteArray} (h:s.size=0):s.toList.isEmpty=true:=by
 rw [ByteArray.toList_eq];have:s.data.toList=[]:=List.length_eq_zero_iff.1 (by simpa using h);rw [this];rfl
theorem str_some {s:ByteArray} (h:¬ s.size=0):s.toList.isEmpty=false:=by
 rw [ByteArray.toList_eq]
 cases e:s.data.toList with
 | nil=>exact absurd (by have:=congrArg List.length e;simpa using this) h
 | cons=>rfl
theorem fitsE_iff (x:Ety) (b t:Int):fitsE x b t=true↔(1≤x.term∧b≤x.term∧x.term≤t∧0≤x.members∧x.members≤127∧(x.data.size:Int)≤1100∧(x.members=0∨x.data.size=0)):=by
 unfold fitsE;simp only [Bool.and_eq_true,Bool.or_eq_true,decide_eq_true_eq,and_assoc]
 omega
theorem bool_of {a:Bool} {P:Prop} {b:Bool} (hi:b=true↔P) (h:a=true↔P):a=b:=by
 cases a<;>cases b<;>simp_all

theorem walFits (x:Ety) (b t:Int) (w:World) :
 Calls Tryz.prog 102 #[etyV x,.int .i64 b,.int .i64 t] w fun e w'=>e=.returned (.bool (fitsE x b t))∧Below w.heap.size w w':=by
 have Hf:=Lib.hid (fitsE_iff x b t);generalize fitsE x b t=r at *;unfold etyV
 by_cases hd:x.data.size=0<;>cases d1:(x.members == 0)
 all_goals
  first | have he:=str_none hd | have he:=str_some hd
  simp only [beq_iff_eq,beq_eq_false_iff_ne,ne_eq] at d1
  have d2:(x.members == 0)=decide (x.members=0):=rfl
  first | rw [decide_eq_true d1] at d2 | rw [decide_eq_false d1] at d2
  go_enter Tryz.func102,Tryz.ntmps102
  go_wp2
  all_goals
   go_ret
   refine ⟨ret_bool (bool_of Hf.out ?_).symm.symm,below_alloc _ _⟩
   first
   | (simp;done)
   | (simp;omega)
   | (constructor<;>intro h<;>simp_all<;>omega)
end
section
open Go Go.RowKit Go.PlainAid

theorem lastT_snoc (l:List Ety) (x:Ety) (b:Int):lastT (l++[x]) b=x.term:=by unfold lastT;simp
theorem logOk_snoc {l:List Ety} {b t:Int} {k:Nat} (hk:k<l.length) (h:logOk (l.take k) b t=true):logOk (l.take (k+1)) b t=fitsE l[k] (lastT (l.take k) b) t:=by
 rw [List.take_succ_eq_append_getElem hk,logOk_app,h,Bool.true_and,logOk,logOk,Bool.and_true]
theorem bareH_all (h:Hrd):bareH h=true↔((0≤h.term∧h.term≤1099511627776 ∧ -1≤h.vote∧h.vote<7∧1≤h.members∧h.members≤127∧0≤h.base∧h.base≤1099511627776∧0≤h.bterm∧h.bterm≤h.term∧(h.bterm=0↔h.base=0))∧h.log.length≤200∧(h.log.length:Int)≤1099511627776 - h.base∧logOk h.log h.bterm h.term=true):=by
 rw [bareH_iff];unfold headOk;simp only [Bool.and_eq_true,decide_eq_true_eq,beq_iff_eq,and_assoc,decide_eq_decide]
theorem bare_no {h:Hrd} {b:Bool} (e:bareH h=b) (n:¬ ((0≤h.term∧h.term≤1099511627776 ∧ -1≤h.vote∧h.vote<7∧1≤h.members∧h.members≤127∧0≤h.base∧h.base≤1099511627776∧0≤h.bterm∧h.bterm≤h.term∧(h.bterm=0↔h.base=0))∧h.log.length≤200∧(h.log.length:Int)≤1099511627776 - h.base)):false=b:=by
 subst e
 symm
 rw [Bool.eq_false_iff];intro hh;have h2:=(bareH_all h).1 hh;exact n ⟨h2.1,h2.2.1,h2.2.2.1⟩
theorem bare_bad {h:Hrd} {b:Bool} (e:bareH h=b) {k:Nat} (n:logOk (h.log.take k) h.bterm h.term=false):false=b:=by
 subst e
 symm
 rw [Bool.eq_false_iff];intro hh;have h2:=logOk_take ((bareH_all h).1 hh).2.2.2 k;rw [n] at h2;cases h2

theorem walBare (h:Hrd) (v:Value) (w:World) (hv:Rd etyE w v h.log) :
 Calls Tryz.prog 68 #[hrdA h v] w fun e w'=>e=.returned (.bool (bareH h))∧Below w.heap.size w w':=by
 obtain ⟨p,cap,rfl⟩:=hv.shape;have hmax:=hv.le;unfold maxLen at hmax;obtain ⟨B,hB⟩:∃ B,bareH h=B:=⟨_,rfl⟩;rw [hB];have HB:=Lib.hid hB;have Hok:=Lib.hid (fun k=>bare_bad hB (k:=k));have Hyes:=Lib.hid (bareH_all h);clear hB;have hxor:(!((h.bterm == 0) == (h.base == 0)))=true↔¬ (h.bterm=0↔h.base=0):=by
  have a1:(h.bterm == 0)=decide (h.bterm=0):=rfl;have a2:(h.base == 0)=decide (h.base=0):=rfl;rw [a1,a2]
  by_cases x:h.bterm=0<;>by_cases y:h.base=0<;>simp [x,y]
 have Hxor:=Lib.hid hxor;clear hxor;go_enter Tryz.func68,Tryz.ntmps68
 go_wp2
 case' _=>skip
 all_goals first
  | (go_ret
     refine ⟨ret_bool (bare_no HB.out (fun hn => ?_)), below_alloc _ _⟩
     obtain ⟨⟨x1, x2, x3, x4, x5, x6, x7, x8, x9, x10, x11⟩, x12, x13⟩ := hn
     first | omega | (rcases (by assumption : (((h.base < 0 ∨ 1099511627776 < h.base) ∨ h.bterm < 0) ∨ h.term < h.bterm) ∨ (!((h.bterm == 0) == (h.base == 0))) = true) with q | q; omega; exact Hxor.out.1 q x11))
  | skip
 have hq:((((0≤h.base∧h.base≤1099511627776)∧0≤h.bterm)∧h.bterm≤h.term)∧(!((h.bterm == 0) == (h.base == 0)))=false):=by assumption
 have hx:h.bterm=0↔h.base=0:=Decidable.not_not.1 (fun hn=>by have:=Hxor.out.2 hn;rw [hq.2] at this;cases this);have hh:(0≤h.term∧h.term≤1099511627776 ∧ -1≤h.vote∧h.vote<7∧1≤h.members∧h.members≤127∧0≤h.base∧h.base≤1099511627776∧0≤h.bterm∧h.bterm≤h.term∧(h.bterm=0↔h.base=0))∧h.log.length≤200∧(h.log.length:Int)≤1099511627776 - h.base:=⟨⟨by omega,by omega,by omega,by omega,by omega,by omega,by omega,by omega,by omega,by omega,hx⟩,by omega,by omega⟩;have Hh:=Lib.hid hh;clear hq hx hh
 have hW:(w.alloc (.cells #[.int .i64 h.term,.int .i64 h.vote,.int .i64 h.base,.int .i64 h.bterm,.int .i64 h.members,.string h.snap,.slice p h.log.length cap] 24)).heap.size=w.heap.size+1:=by simp
 have cell0:(w.alloc (.cells #[.int .i64 h.term,.int .i64 h.vote,.int .i64 h.base,.int .i64 h.bterm,.int .i64 h.members,.string h.snap,.slice p h.log.length cap] 24)).cell? ⟨w.heap.size,0,none⟩=some (.int .i64 h.term):=(Blk.new w _ _).cell 0 _ rfl;have hvW:=hv.ext (below_alloc w (.cells #[.int .i64 h.term,.int .i64 h.vote,.int .i64 h.base,.int .i64 h.bterm,.int .i64 h.members,.string h.snap,.slice p h.log.length cap] 24));have hbW:=below_alloc w (.cells #[.int .i64 h.term,.int .i64 h.vote,.int .i64 h.base,.int .i64 h.bterm,.int .i64 h.members,.string h.snap,.slice p h.log.length cap] 24)
 generalize (w.alloc (.cells #[.int .i64 h.term,.int .i64 h.vote,.int .i64 h.base,.int .i64 h.bterm,.int .i64 h.members,.string h.snap,.slice p h.log.length cap] 24))=W at *
 go_loopw [3,81] (fun b i wr=>∃ k:Nat,k≤h.log.length∧i=.int .i64 k∧b=.int .i64 (lastT (h.log.take k) h.bterm)∧Hid (logOk (h.log.take k) h.bterm h.term=true)∧Below W.heap.size W wr) (fun _ i _=>h.log.length - (intOf i).toNat)
 case atStart=>exact ⟨0,by omega,rfl,rfl,rfl,Below.refl _ _⟩
 case round =>
  obtain ⟨k,hk,rfl,rfl,hlog,hb⟩:=hrel;have hbw:=hbW.trans (hb.mono (by omega))
  by_cases hlt:k<h.log.length
  ·have hvr:=hvW.ext hb;obtain ⟨bb,off,rfl⟩:=Rd.blk hvr (by omega);obtain ⟨c0,c1,c2⟩:=ety3 hvr hlt;have t0:wr.cell? ⟨w.heap.size,0,none⟩=some (.int .i64 h.term):=by rw [hb.cell (p:=⟨w.heap.size,0,none⟩) (by show w.heap.size<_;omega)];exact cell0
   have hi:(k:Int)<(h.log.length:Int):=by omega
   have hi0:(0:Int)≤(k:Int):=by omega
   have hsz:=hb.size;have hsnoc:=Lib.hid (logOk_snoc hlt hlog.out);have hlast:lastT (h.log.take (k+1)) h.bterm=(h.log[k]).term:=by rw [List.take_succ_eq_append_getElem hlt,lastT_snoc]
   have Hlast:=Lib.hid hlast;have hne:w.heap.size≠wr.heap.size:=by omega
   clear hlast cell0 hvW hbW;generalize h.log[k]=x at *;generalize lastT (h.log.take k) h.bterm=T at *;have ca:=below_alloc wr (.cells #[.int .i64 x.term,.int .i64 x.members,.string x.data] 73);have t1:(wr.alloc (.cells #[.int .i64 x.term,.int .i64 x.members,.string x.data] 73)).cell? ⟨w.heap.size,0,none⟩=some (.int .i64 h.term):=by rw [ca.cell (p:=⟨w.heap.size,0,none⟩) (by show w.heap.size<_;omega)];exact t0
   go_wp2_with fail
   refine (walFits x T h.term _).mono ?_;rintro e w2 ⟨rfl,b2⟩;have b12:=ca.trans (b2.mono (by simp));have k0:=(Blk.new wr #[.int .i64 x.term,.int .i64 x.members,.string x.data] 73).ext b2;have k0:=k0.cell 0 _ rfl
   cases hf:fitsE x T h.term with
   | false =>
    go_wp2_with fail
    go_ret
    exact ⟨ret_bool (Hok.out (k+1) (by rw [hsnoc.out,hf])),hbw.trans (b12.mono hbw.size)⟩
   | true =>
    go_wp2_with fail
    go_roundw
    case rel=>exact ⟨k+1,by omega,by go_num,by rw [Hlast.out],by show _=_;rw [hsnoc.out,hf],hb.trans (b12.mono hsz)⟩
    case measure=>simp [intOf];omega
  ·have hke:k=h.log.length:=by omega
   have hi:¬ (k:Int)<(h.log.length:Int):=by omega
   have Hk:=Lib.hid hke;clear hke;go_wp2
   go_ret
   have hl:=hlog.out;rw [Hk.out,List.take_of_length_le (Nat.le_refl _)] at hl;have hB:=Hyes.out.2 ⟨Hh.out.1,Hh.out.2.1,Hh.out.2.2,hl⟩;rw [HB.out] at hB;exact ⟨ret_bool hB.symm,hbw⟩
end
section
open Go Go.RowKit Go.PlainAid

theorem walRight (h:Hrd) (v:Value) (w:World) (hv:Rd etyE w v h.log) :
 Calls Tryz.prog 23 #[hrdA h v] w fun e w'=>e=.returned (.bool (rightH h))∧Below w.heap.size w w':=by
 obtain ⟨p,cap,rfl⟩:=hv.shape;have ca:=below_alloc w (.cells #[.int .i64 h.term,.int .i64 h.vote,.int .i64 h.base,.int .i64 h.bterm,.int .i64 h.members,.string h.snap,.slice p h.log.length cap] 24);have hcall:=walBare h _ _ (hv.ext ca);have kb:=Blk.new w #[.int .i64 h.term,.int .i64 h.vote,.int .i64 h.base,.int .i64 h.bterm,.int .i64 h.members,.string h.snap,.slice p h.log.length cap] 24;have hr:rightH h=(bareH h && (decide (h.snap.size=0) == decide (h.base=0)) && decide (h.snap.size≤65536)):=rfl;have hb0:(h.base == 0)=decide (h.base=0):=rfl
 have he:h.snap.toList.isEmpty=decide (h.snap.size=0):=by
  by_cases hs:h.snap.size=0
  ·rw [str_none hs,decide_eq_true hs]
  ·rw [str_some hs,decide_eq_false hs]
 have hi:decide ((h.snap.size:Int)≤65536)=decide (h.snap.size≤65536):=by
  rw [decide_eq_decide];omega
 rw [hr];have Hx:=Lib.hid (And.intro hb0 (And.intro he hi));clear hr hb0 he hi;go_enter Tryz.func23,Tryz.ntmps23
 go_wp2_with fail
 refine hcall.mono ?_;rintro e w2 ⟨rfl,b2⟩;have b02:=ca.trans (b2.mono (by simp));have k2:=kb.ext b2;have k5:=k2.cell 5 _ rfl;have kk:=k2.cell 2 _ rfl;clear kb k2
 cases hB:bareH h with
 | false =>
  go_wp2
  go_ret
  exact ⟨ret_bool (by rw [hB];rfl),b02⟩
 | true =>
  go_wp2
  all_goals
   go_ret
   refine ⟨ret_bool ?_,b02⟩;obtain ⟨x1,x2,x3⟩:=Hx.out;rw [hB, ←x1, ←x2, ←x3]
   rename_i hq
   revert hq
   cases h.snap.toList.isEmpty<;>cases (h.base == 0)<;>simp

theorem walCopied (h:Hrd) (v:Value) (w:World) (hv:Rd etyE w v h.log) (hl:h.log.length≤1000000) :
 Calls Tryz.prog 66 #[hrdA h v] w fun e w'=>∃ v',e=.returned (hrdA (bareOf h) v')∧OwnR etyE w' w.heap.size 73 v' h.log∧Below w.heap.size w w':=by
 obtain ⟨p,cap,rfl⟩:=hv.shape;have kA:=(Blk.new w #[.int .i64 h.term,.int .i64 h.vote,.int .i64 h.base,.int .i64 h.bterm,.int .i64 h.members,.string ⟨#[]⟩,.slice p h.log.length cap] 24).ext (below_alloc _ (.cells #[.int .i64 0,.int .i64 0,.int .i64 0,.int .i64 0,.int .i64 0,.string ⟨#[]⟩,.slice none 0 0] 24));have kZ:=Blk.new (w.alloc (.cells #[.int .i64 h.term,.int .i64 h.vote,.int .i64 h.base,.int .i64 h.bterm,.int .i64 h.members,.string ⟨#[]⟩,.slice p h.log.length cap] 24)) #[.int .i64 0,.int .i64 0,.int .i64 0,.int .i64 0,.int .i64 0,.string ⟨#[]⟩,.slice none 0 0] 24
 have bW:Below w.heap.size w ((w.alloc (.cells #[.int .i64 h.term,.int .i64 h.vote,.int .i64 h.base,.int .i64 h.bterm,.int .i64 h.members,.string ⟨#[]⟩,.slice p h.log.length cap] 24)).alloc (.cells #[.int .i64 0,.int .i64 0,.int .i64 0,.int .i64 0,.int .i64 0,.string ⟨#[]⟩,.slice none 0 0] 24)):=(below_alloc _ _).trans ((below_alloc _ _).mono (by simp));rw [show (w.alloc (.cells #[.int .i64 h.term,.int .i64 h.vote,.int .i64 h.base,.int .i64 h.bterm,.int .i64 h.members,.string ⟨#[]⟩,.slice p h.log.length cap] 24)).heap.size=w.heap.size+1 from by simp] at kZ
 obtain ⟨W,hW⟩:∃ W,W=((w.alloc (.cells #[.int .i64 h.term,.int .i64 h.vote,.int .i64 h.base,.int .i64 h.bterm,.int .i64 h.members,.string ⟨#[]⟩,.slice p h.log.length cap] 24)).alloc (.cells #[.int .i64 0,.int .i64 0,.int .i64 0,.int .i64 0,.int .i64 0,.string ⟨#[]⟩,.slice none 0 0] 24)):=⟨_,rfl⟩;rw [←hW] at kA kZ bW;go_enter Tryz.func66,Tryz.ntmps66
 go_wp2_with (first
  | (at_builtin; rw [← hW]; refine wpList_appW tEty rfl rfl (Own.nil W w.heap.size 73 3) rfl (Cells.ext hv bW) rfl (by simp; omega) bW.size ?_; intro v3 w3 own3 g3 b3 at3; replace own3 : OwnR etyE w3 w.heap.size 73 v3 h.log := OwnR.of own3 (by simp) (by simp); obtain ⟨p3, c3, rfl⟩ := own3.rd.shape
     have kA3 := kA.grown g3 (by simp [Value.ownBlock]); have kZ3 := kZ.grown g3 (by simp [Value.ownBlock]); have a0 := kA3.cell 0 _ rfl; have a1 := kA3.cell 1 _ rfl; have a2 := kA3.cell 2 _ rfl; have a3 := kA3.cell 3 _ rfl; have a4 := kA3.cell 4 _ rfl; have a5 := kA3.cell 5 _ rfl; have a6 := kA3.frozen 6; have z0 := kZ3.frozen 0; have z1 := kZ3.frozen 1; have z2 := kZ3.frozen 2; have z3 := kZ3.frozen 3; have z4 := kZ3.frozen 4; have z5 := kZ3.frozen 5; have z6 := kZ3.frozen 6; have y0 := kZ3.cell 0 _ rfl; have y1 := kZ3.cell 1 _ rfl; have y2 := kZ3.cell 2 _ rfl; have y3 := kZ3.cell 3 _ rfl; have y4 := kZ3.cell 4 _ rfl; have y5 := kZ3.cell 5 _ rfl; have y6 := kZ3.cell 6 _ rfl
     have a6' := kA3.cell 6 _ rfl)
  | fail)
 have hWs:W.heap.size=w.heap.size+2:=by rw [hW];simp
 have hfar:∀ k,(Value.slice p3 h.log.length c3).ownBlock=some k→¬ (k=w.heap.size∨k=w.heap.size+1):=fun k hk=>by
  rcases at3 with e | e
  ·rw [hk] at e;simp [Value.ownBlock] at e
  ·rw [hk] at e;cases e;omega
 have hc:=(((((((((Chg.refl (fun k=>k=w.heap.size∨k=w.heap.size+1) w3).setCell (p:=⟨w.heap.size,6,none⟩) (.inl rfl) (.slice p3 h.log.length c3)).setCell (p:=⟨w.heap.size+1,0,none⟩) (.inr rfl) (.int .i64 h.term)).setCell (p:=⟨w.heap.size+1,1,none⟩) (.inr rfl) (.int .i64 h.vote)).setCell (p:=⟨w.heap.size+1,2,none⟩) (.inr rfl) (.int .i64 h.base)).setCell (p:=⟨w.heap.size+1,3,none⟩) (.inr rfl) (.int .i64 h.bterm)).setCell (p:=⟨w.heap.size+1,4,none⟩) (.inr rfl) (.int .i64 h.members)).setCell (p:=⟨w.heap.size+1,5,none⟩) (.inr rfl) (.string ⟨#[]⟩)).setCell (p:=⟨w.heap.size+1,6,none⟩) (.inr rfl) (.slice p3 h.log.length c3))
 refine bodyPost_ret (v:=hrdA (bareOf h) (.slice p3 h.log.length c3)) (by simp [results,Tryz.results66,go_sem, *];exact ⟨rfl,rfl,rfl,rfl,rfl,rfl⟩) rfl ?_;exact ⟨_,rfl,hc.ownR own3 hfar,(bW.trans b3).trans (hc.below (B:=w.heap.size) (fun k hk=>by rcases hk with rfl | rfl<;>omega) (bW.trans b3).size)⟩

theorem walRecord (v u:Value) (b p:List UInt8) (w:World) (hv:Bytes w v b) (hu:Bytes w u p) (hb:b.length≤70368744177664) (hp:p.length≤70368744177664) :
 Calls Tryz.prog 104 #[v,u] w fun e w'=>∃ r,e=.returned r∧OwnB w' w.heap.size 5 r (b++Frm.one p)∧Below w.heap.size w w':=by
 go_enter Tryz.func104,Tryz.ntmps104
 go_wp2_with fail
 refine (framePut v u b p w hv hu hb hp).mono ?_;rintro e w' ⟨r,rfl,h1,h2⟩;go_wp2_with fail
 go_ret
 exact ⟨_,rfl,h1,h2⟩

theorem numsB_snoc (l:List Int) (n:Int):numsB (l++[n])=numsB l++numB n:=by
 induction l with
 | nil=>simp [numsB]
 | cons x r ih=>rw [List.cons_append,numsB,numsB,ih,List.append_assoc]
theorem numsB_le (l:List Int):(numsB l).length≤10 * l.length:=by
 induction l with
 | nil=>simp [numsB]
 | cons x r ih=>rw [numsB,List.length_append,List.length_cons];have:=numB_le x;omega
def In64 (n:Int):Prop := -9223372036854775808≤n∧n≤9223372036854775807

theorem walNums (v:Value) (l:List Int) (w:World) (hv:Rd intsE w v l) (hl:l.length≤1000000) (hr:∀ x ∈ l,In64 x) :
 Calls Tryz.prog 105 #[v] w fun e w'=>∃ r,e=.returned r∧OwnB w' w.heap.size 5 r (numsB l)∧Below w.heap.size w w':=by
 obtain ⟨p,cap,rfl⟩:=hv.shape;go_enter Tryz.func105,Tryz.ntmps105
 go_wp2
 go_loopw [3,8] (fun o i wr=>∃ k:Nat,k≤l.length∧i=.int .i64 k∧OwnB wr w.heap.size 5 o (numsB (l.take k))∧Below w.heap.size w wr) (fun _ i _=>l.length - (intOf i).toNat)
 case atStart=>exact ⟨0,by omega,rfl,OwnB.nil _ _ _,Below.refl _ _⟩
 case round =>
  obtain ⟨k,hk,rfl,own,hb⟩:=hrel
  by_cases hlt:k<l.length
  ·have hvr:=hv.ext hb;obtain ⟨bb,off,rfl⟩:=Rd.blk hvr (by omega);have c0:=hvr.at_ hlt 0 (by decide);have hmem:=hr l[k] (List.getElem_mem hlt);have hsz:=hb.size;have hnl:=numsB_le (l.take k);rw [List.length_take] at hnl;have hsn:numsB (l.take (k+1))=numsB (l.take k)++numB l[k]:=by rw [List.take_succ_eq_append_getElem hlt,numsB_snoc]
   have Hsn:=Lib.hid hsn;have hi:(k:Int)<(l.length:Int):=by omega
   have hi0:(0:Int)≤(k:Int):=by omega
   replace c0:wr.cell? ⟨bb,off+k,none⟩=some (.int .i64 l[k]):=by simpa [intsE] using c0
   clear hsn;generalize l[k]=x at *;generalize numsB (l.take k)=B at *;obtain ⟨po,co,rfl⟩:=own.bytes.shape;go_wp2_with fail
   refine (packNum _ B x wr own.bytes (by omega) hmem.1 hmem.2).mono ?_;rintro e w2 ⟨r2,rfl,own2,b2⟩;have own3:=Own.base own2 hsz;go_wp2_with fail
   go_roundw
   case rel=>exact ⟨k+1,by omega,by go_num,by rw [Hsn.out];exact own3,hb.trans (b2.mono hsz)⟩
   case measure=>simp [intOf];omega
  ·have hke:k=l.length:=by omega
   have hi:¬ (k:Int)<(l.length:Int):=by omega
   have Hk:=Lib.hid hke;clear hke;go_wp2
   go_ret
   exact ⟨_,rfl,by rw [Hk.out,List.take_of_length_le (Nat.le_refl _)] at own;exact own,hb⟩
end
section
open Go Go.RowKit Go.PlainAid
theorem etysB_snoc (l:List Ety) (x:Ety):etysB (l++[x])=etysB l++etyB x:=by unfold etysB;rw [List.flatMap_append];simp
theorem one_le (p:List UInt8):(Frm.one p).length≤p.length+8:=by
 unfold Frm.one
 split
 ·simp
 ·simp [Frm.head,Crc.le4]
theorem etyB_le (x:Ety):(etyB x).length≤x.data.size+48:=by
 unfold etyB;have h1:=one_le (numsB [2,x.term,x.members]++textB (bytesOf x.data));have h2:=numsB_le [2,x.term,x.members];have h3:(textB (bytesOf x.data)).length≤10+x.data.size:=by
  unfold textB;rw [List.length_append];have:=numB_le ((bytesOf x.data).length:Int);have h4:(bytesOf x.data).length=x.data.size:=by simp [bytesOf]
  omega
 rw [List.length_append] at h1;simp only [List.length_cons,List.length_nil] at h2
 omega
theorem etysB_le {l:List Ety} (h:∀ x ∈ l,x.data.size≤100000):(etysB l).length≤100048 * l.length:=by
 induction l with
 | nil=>simp [etysB]
 | cons x r ih =>
  have h1:=etyB_le x;have h2:=h x (by simp);have h3:=ih (fun y hy=>h y (by simp [hy]))
  show (etyB x++etysB r).length≤_
  rw [List.length_append,List.length_cons];omega
def EtyIn (x:Ety):Prop:=In64 x.term∧In64 x.members∧x.data.size≤100000
def EntsB (w:World) (v:Value) (l:List UInt8) (e:Ending) (w':World):Prop:=∃ r,e=.returned r∧Bytes w' r l∧(∀ k,r.ownBlock=some k→v.ownBlock=some k∨w.heap.size≤k)∧Below w.heap.size w w'

theorem walEntries (v u:Value) (b:List UInt8) (l:List Ety) (w:World) (hv:Bytes w v b) (hu:Rd etyE w u l) (hb:b.length≤1000000000) (hl:l.length≤1000) (hin:∀ x ∈ l,EtyIn x) :
 Calls Tryz.prog 107 #[v,u] w (EntsB w v (b++etysB l)):=by
 obtain ⟨p,cap,rfl⟩:=hu.shape;go_enter Tryz.func107,Tryz.ntmps107
 go_wp2
 go_loopw [0,9] (fun o i wr=>∃ k:Nat,k≤l.length∧i=.int .i64 k∧Bytes wr o (b++etysB (l.take k))∧(∀ j,o.ownBlock=some j→v.ownBlock=some j∨w.heap.size≤j)∧Below w.heap.size w wr) (fun _ i _=>l.length - (intOf i).toNat)
 case atStart=>exact ⟨0,by omega,rfl,by simpa [etysB] using hv,fun j hj=>.inl hj,Below.refl _ _⟩
 case round =>
  obtain ⟨k,hk,rfl,ho,hloc,hbw⟩:=hrel
  by_cases hlt:k<l.length
  ·have hur:=hu.ext hbw;obtain ⟨bb,off,rfl⟩:=Rd.blk hur (by omega);obtain ⟨c0,c1,c2⟩:=ety3 hur hlt;obtain ⟨i1,i2,i3⟩:=hin l[k] (List.getElem_mem hlt);have hel:=etysB_le (l:=l.take k) (fun x hx=>(hin x (List.mem_of_mem_take hx)).2.2);rw [List.length_take,Nat.min_eq_left hk] at hel;have hol:(b++etysB (l.take k)).length≤1200000000:=by rw [List.length_append];omega
   have hst:b++etysB (l.take (k+1))=(b++etysB (l.take k))++etyB l[k]:=by rw [List.take_succ_eq_append_getElem hlt,etysB_snoc,List.append_assoc]
   have Hst:=Lib.hid hst;have hi:(k:Int)<(l.length:Int):=by omega
   have hi0:(0:Int)≤(k:Int):=by omega
   have hsz:=hbw.size;clear hst hel;generalize l[k]=x at *;generalize b++etysB (l.take k)=O at *;obtain ⟨po,co,rfl⟩:=ho.shape;have ca:=below_alloc wr (.cells #[.int .i64 x.term,.int .i64 x.members,.string x.data] 73);have kx:=Blk.new wr #[.int .i64 x.term,.int .i64 x.members,.string x.data] 73;have hoW:=ho.ext ca;go_wp2_with fail
   generalize wr.alloc (.cells #[.int .i64 x.term,.int .i64 x.members,.string x.data] 73)=W at *;have bD:=below_drew W.heap.size W;refine wp_region_F (n:=11) (S:=fun w':World=>w'.cell? ⟨wr.heap.size,0,none⟩=some (.int .i64 x.term)∧(w'.cell? ⟨wr.heap.size,1,none⟩=some (.int .i64 x.members)∧w'.cell? ⟨wr.heap.size,2,none⟩=some (.string x.data))) (by kernel_rfl) ?_
   have hHeld:(fun w':World=>w'.cell? ⟨wr.heap.size,0,none⟩=some (.int .i64 x.term)∧(w'.cell? ⟨wr.heap.size,1,none⟩=some (.int .i64 x.members)∧w'.cell? ⟨wr.heap.size,2,none⟩=some (.string x.data))) W.drew:=⟨kx.cell 0 _ rfl,kx.cell 1 _ rfl,kx.cell 2 _ rfl⟩;clear c0 c1 c2;refine tk ?_ 0 ?_ hHeld ?_;rotate_left
   ·rintro w ⟨_,_,_⟩;dsimp only [bare];go_simp<;>with_reducible rfl
   try simp only [lyB,lyP,lyA,lyZ,lyS]
   refine tk ?_ 1 ?_ hHeld ?_;rotate_left
   ·rintro w ⟨_,_,_⟩;dsimp only [bare];go_simp<;>with_reducible rfl
   try simp only [lyB,lyP,lyA,lyZ,lyS]
   refine tk ?_ 2 ?_ hHeld ?_;rotate_left
   ·rintro w ⟨_,_,_⟩;dsimp only [bare];go_simp<;>with_reducible rfl
   try simp only [lyB,lyP,lyA,lyZ,lyS]
   refine tk ?_ 3 ?_ hHeld ?_;rotate_left
   ·rintro w ⟨_,_,_⟩;dsimp only [bare];go_simp<;>with_reducible rfl
   try simp only [lyB,lyP,lyA,lyZ,lyS]
   refine tk ?_ 4 ?_ hHeld ?_;rotate_left
   ·rintro w ⟨_,_,_⟩;dsimp only [bare];go_simp<;>with_reducible rfl
   try simp only [lyB,lyP,lyA,lyZ,lyS]
   refine tk ?_ 7 ?_ hHeld ?_;rotate_left
   ·rintro w ⟨_,_,_⟩;dsimp only [bare];go_simp<;>with_reducible rfl
   try simp only [lyB,lyP,lyA,lyZ,lyS]
   refine tk ?_ 8 ?_ hHeld ?_;rotate_left
   ·rintro w ⟨_,_,_⟩;dsimp only [bare];go_simp<;>with_reducible rfl
   try simp only [lyB,lyP,lyA,lyZ,lyS]
   refine wpAnyF_one 5 _ _ _ rfl (by kernel_rfl) (fun K hK=>?_);dsimp only [bare];go_simp;obtain ⟨w8,hw8⟩:∃ z,z=(W.alloc (.cells #[.int .i64 2,.int .i64 x.term,.int .i64 x.members] 3)).drew:=⟨_,rfl⟩;have bE:Below W.heap.size W w8:=by rw [hw8];exact (below_alloc W _).drew
   have lit:Rd intsE w8 (.slice (some ⟨W.heap.size,0,none⟩) 3 3) [2,x.term,x.members]:=by rw [hw8];exact ((OwnR.litAt intsE W #[.int .i64 2,.int .i64 x.term,.int .i64 x.members] 3 [2,x.term,x.members] 3 0 W.heap.size rfl rfl rfl (by unfold maxLen;omega) (Nat.zero_le _)).drew).rd
   rw [←hw8];clear hw8;have k8:=kx.ext bE;refine hK _ _ ⟨k8.cell 0 _ rfl,k8.cell 1 _ rfl,k8.cell 2 _ rfl⟩ (fun hHeld=>?_);clear hK K
   try simp only [lyB,lyP,lyA,lyZ,lyS]
   refine wpAnyF_one 6 _ _ _ rfl (by kernel_rfl) (fun K hK=>?_);dsimp only [bare];go_simp;refine (walNums _ [2,x.term,x.members] w8 lit (by simp) (fun y hy=>by simp only [List.mem_cons,List.not_mem_nil,or_false] at hy;rcases hy with rfl | rfl | rfl;exact ⟨by decide,by decide⟩;exact i1;exact i2)).mono ?_;rintro e w9 ⟨r9,rfl,own9,b9⟩;dsimp only;have k9:=k8.ext b9;have bF:=bE.trans (b9.mono bE.size);have n9:=numsB_le [2,x.term,x.members];refine hK _ _ ⟨k9.cell 0 _ rfl,k9.cell 1 _ rfl,k9.cell 2 _ rfl⟩ (fun hHeld=>?_);clear hK K
   try simp only [lyB,lyP,lyA,lyZ,lyS]
   refine wpAnyF_one 9 _ _ _ rfl (by kernel_rfl) (fun K hK=>?_);dsimp only [bare];go_simp;refine (packText r9 _ x.data w9 own9.bytes (by simp only [List.length_cons,List.length_nil] at n9;omega)).mono ?_;rintro e w10 ⟨r10,rfl,own10,b10⟩;dsimp only;have k10:=k9.ext b10;have bG:=bF.trans (b10.mono bF.size);have n10:(numsB [2,x.term,x.members]++textB x.data.data.toList).length≤10000000:=by
    have h3:(textB x.data.data.toList).length≤10+x.data.size:=by
     unfold textB;rw [List.length_append];have:=numB_le (x.data.data.toList.length:Int);have h4:x.data.data.toList.length=x.data.size:=by simp
     omega
    rw [List.length_append];simp only [List.length_cons,List.length_nil] at n9
    omega
   refine hK _ _ ⟨k10.cell 0 _ rfl,k10.cell 1 _ rfl,k10.cell 2 _ rfl⟩ (fun hHeld=>?_);clear hK K
   try simp only [lyB,lyP,lyA,lyZ,lyS]
   refine wpAnyF_one 10 _ _ _ rfl (by kernel_rfl) (fun K hK=>?_);dsimp only [bare];go_simp;refine (walRecord _ r10 O _ w10 (hoW.ext bG) own10.bytes (by omega) (by omega)).mono ?_;rintro e w11 ⟨r11,rfl,own11,b11⟩;dsimp only;have k11:=k10.ext b11;have bH:=bG.trans (b11.mono bG.size);refine hK _ _ ⟨k11.cell 0 _ rfl,k11.cell 1 _ rfl,k11.cell 2 _ rfl⟩ (fun hHeld=>?_);clear hK K
   try simp only [lyB,lyP,lyA,lyZ,lyS]
   refine wpAnyF_end (some 0) (Op.assign (Operand.tmp 23)) 26 rfl (by kernel_rfl) (by kernel_rfl) (fun K hK=>?_);dsimp only [bare];go_simp;refine hK _ _ ?_;clear hK K
   try simp only [lyB,lyP,lyA,lyZ,lyS]
   have hall:=hbw.trans ((ca.trans (bH.mono ca.size)).mono hsz);have h10:=bG.size;have h11:=ca.size;go_wp2_with fail
   go_roundw
   case rel=>exact ⟨k+1,by omega,by go_num,by rw [Hst.out];exact own11.bytes,fun j hj=>.inr (by have:=(own11.lt j hj).1;omega),hall⟩
   case measure=>simp [intOf];omega
  ·have hke:k=l.length:=by omega
   have hi:¬ (k:Int)<(l.length:Int):=by omega
   have Hk:=Lib.hid hke;clear hke;obtain ⟨po,co,rfl⟩:=ho.shape;generalize hO:b++etysB (l.take k)=O at *;go_wp2
   go_ret
   rw [Hk.out,List.take_of_length_le (Nat.le_refl _)] at hO;rw [hO];exact ⟨_,rfl,ho,hloc,hbw⟩
end
section
open Go Go.RowKit Go.PlainAid
attribute [local go_sem] After.same
theorem commonE_le:∀ (a b:List Ety),commonE a b≤a.length∧commonE a b≤b.length
 | [],b=>by simp [commonE]
 | x::r,[]=>by simp [commonE]
 | x::r,y::s=>by
  have:=commonE_le r s;rw [commonE];split
  ·simp only [List.length_cons];omega
  ·simp
theorem commonE_on:∀ (k:Nat) (a b:List Ety),k≤commonE a b→commonE a b=k+commonE (a.drop k) (b.drop k)
 | 0,a,b,_=>by simp
 | k+1,[],b,h=>by simp [commonE] at h
 | k+1,x::r,[],h=>by simp [commonE] at h
 | k+1,x::r,y::s,h=>by
  rw [commonE] at h ⊢
  split at h
  ·rename_i e
   rw [if_pos e,commonE_on k r s (by omega)];simp only [List.drop_succ_cons];omega
  ·omega
theorem commonE_at {a b:List Ety} {k:Nat} (h:k≤commonE a b) (ha:k<a.length) (hb:k<b.length):commonE a b=if etyEq a[k] b[k]=true then k+1+commonE (a.drop (k+1)) (b.drop (k+1)) else k:=by
 rw [commonE_on k a b h,List.drop_eq_getElem_cons ha,List.drop_eq_getElem_cons hb,commonE]
 split<;>omega
theorem eqin_ety (x y:Ety) (w:World):(Op.equalIn 10000 73 (.agg #[.int .i64 x.term,.int .i64 x.members,.string x.data]) (.agg #[.int .i64 y.term,.int .i64 y.members,.string y.data])).run Tryz.prog w=.ok (etyEq x y) w:=by
 have u3:=Tryz.underlying3;have u9:=Tryz.underlying9;have a3:=Tryz.isAgg3;have z3:=Tryz.sizeOf3;have a9:=Tryz.isAgg9;have z9:=Tryz.sizeOf9;have hS:Tryz.prog.underlying 73=some (.struct (Tryz.prog.fieldsOf 73)):=by kernel_rfl
 have hp:Tryz.prog.stoodInHeld 73=false:=by kernel_rfl
 rw [show (10000:Nat)=9999+1 from rfl,run_equalIn_agg w 9999 73 _ _ hS hp];simp only [Program.fieldsOf,Tryz.underlying73]
 unfold etyEq eqS
 go_simp
 generalize x.data.toList=a;generalize y.data.toList=b
 by_cases h1:a=b<;>by_cases h2:x.term=y.term<;>by_cases h3:x.members=y.members<;>simp [h1,h2,h3]
theorem eql_ety (x y:Ety) (w:World):(binOp .eql 73 (.agg #[.int .i64 x.term,.int .i64 x.members,.string x.data]) (.agg #[.int .i64 y.term,.int .i64 y.members,.string y.data])).run Tryz.prog w=.ok (.bool (etyEq x y)) w:=by
 rw [run_eql_struct,eqin_ety];rfl
theorem neq_ety (x y:Ety) (w:World):(binOp .neq 73 (.agg #[.int .i64 x.term,.int .i64 x.members,.string x.data]) (.agg #[.int .i64 y.term,.int .i64 y.members,.string y.data])).run Tryz.prog w=.ok (.bool (!etyEq x y)) w:=by
 rw [run_neq_struct,eqin_ety];rfl
theorem walCommon (u v:Value) (a b:List Ety) (w:World) (hu:Rd etyE w u a) (hv:Rd etyE w v b) :
 Calls Tryz.prog 103 #[u,v] w fun e w'=>e=.returned (.int .i64 (commonE a b:Nat))∧Below w.heap.size w w':=by
 obtain ⟨pu,cu,rfl⟩:=hu.shape;obtain ⟨pv,cv,rfl⟩:=hv.shape;have hle:=commonE_le a b;have m1:=hu.le;unfold maxLen at m1;go_enter Tryz.func103,Tryz.ntmps103
 go_wp2
 go_loopw [5] (fun i wr=>∃ (k m:Nat),i=.int .i64 k∧wr=w.drewN m∧k≤commonE a b) (fun i _=>a.length - (intOf i).toNat)
 case atStart=>exact ⟨0,0,rfl,rfl,Nat.zero_le _⟩
 case round =>
  obtain ⟨k,m,rfl,rfl,hk⟩:=hrel;have hi0:(0:Int)≤(k:Int):=by omega
  by_cases ha:k<a.length
  ·have ha1:(k:Int)<(a.length:Int):=by omega
   by_cases hb:k<b.length
   ·have hb1:(k:Int)<(b.length:Int):=by omega
    obtain ⟨ba,oa,rfl⟩:=Rd.blk hu (by omega);obtain ⟨bb,ob,rfl⟩:=Rd.blk hv (by omega);obtain ⟨a0,a1,a2⟩:=ety3 hu ha;obtain ⟨b0,b1,b2⟩:=ety3 hv hb;have hat:=commonE_at hk ha hb;have Hat:=Lib.hid hat;clear hat;generalize a[k]=x at *;generalize b[k]=y at *;have heql:=fun (z:World)=>eql_ety x y z
    cases he:etyEq x y with
    | true =>
     rw [he] at heql Hat;have Hk1:=Lib.hid (show k+1≤commonE a b by have:=Hat.out;rw [if_pos rfl] at this;omega);clear he;go_wp2
     go_quiet (fail)
     go_wp2
     go_roundw
     case rel=>exact ⟨k+1,_,by go_num,rfl,Hk1.out⟩
     case measure=>simp [intOf];omega
    | false =>
     rw [he] at heql Hat;have Hke:=Lib.hid (show commonE a b=k by have:=Hat.out;rw [if_neg (by simp)] at this;exact this);clear he;go_wp2
     go_quiet (fail)
     go_wp2
     go_ret
     exact ⟨by rw [Hke.out];rfl,(below_drawn w.heap.size w m).trans (below_drawn _ _ nq)⟩
   ·have hb1:¬ (k:Int)<(b.length:Int):=by omega
    have hke:commonE a b=k:=by omega
    have Hke:=Lib.hid hke;clear hke;go_wp2
    go_quiet (fail)
    go_wp2
    go_ret
    exact ⟨by rw [Hke.out];rfl,(below_drawn w.heap.size w m).trans (below_drawn _ _ nq)⟩
  ·have ha1:¬ (k:Int)<(a.length:Int):=by omega
   have hke:commonE a b=k:=by omega
   have Hke:=Lib.hid hke;clear hke;go_wp2
   go_quiet (fail)
   go_wp2
   go_ret
   exact ⟨by rw [Hke.out];rfl,(below_drawn w.heap.size w m).trans (below_drawn _ _ nq)⟩
end
section
open Go Go.RowKit Go.PlainAid
attribute [local go_sem] After.same

@[reducible] def segA (s:Sg) (v:Value):Array Value:=#[.int .i64 s.h.term,.int .i64 s.h.vote,.int .i64 s.h.base,.int .i64 s.h.bterm,.int .i64 s.h.members,.string s.h.snap,v,.bool s.begun,.bool s.whole,.int .i64 (s.size:Int)]
structure SegV (w:World) (B g:Nat) (v:Value) (s:Sg):Prop where
 blk:Blk w g (segA s v) 102
 log:OwnR etyE w B 73 v s.h.log
 off:v.ownBlock≠some g
 low:B≤g
 few:s.h.log.length≤200
def SegAt (w:World) (B g:Nat) (s:Sg):Prop:=∃ v,SegV w B g v s
section
variable {w w':World} {B g:Nat} {v:Value} {s:Sg}
theorem SegV.chg {G:Nat→Prop} (h:SegV w B g v s) (hc:Chg G w w') (hg:¬ G g) (hv:∀ k,v.ownBlock=some k→¬ G k):SegV w' B g v s :=
 ⟨hc.blk h.blk hg,hc.ownR h.log hv,h.off,h.low,h.few⟩
theorem SegV.ext (h:SegV w B g v s) (hb:Below w.heap.size w w'):SegV w' B g v s:=h.chg (G:=fun _=>False) (.of_below hb) id fun _ _=>id
theorem SegV.c0 (h:SegV w B g v s):w.cell? ⟨g,0,none⟩=some (.int .i64 s.h.term):=h.blk.cell 0 _ rfl
theorem SegV.c1 (h:SegV w B g v s):w.cell? ⟨g,1,none⟩=some (.int .i64 s.h.vote):=h.blk.cell 1 _ rfl
theorem SegV.c2 (h:SegV w B g v s):w.cell? ⟨g,2,none⟩=some (.int .i64 s.h.base):=h.blk.cell 2 _ rfl
theorem SegV.c3 (h:SegV w B g v s):w.cell? ⟨g,3,none⟩=some (.int .i64 s.h.bterm):=h.blk.cell 3 _ rfl
theorem SegV.c4 (h:SegV w B g v s):w.cell? ⟨g,4,none⟩=some (.int .i64 s.h.members):=h.blk.cell 4 _ rfl
theorem SegV.c5 (h:SegV w B g v s):w.cell? ⟨g,5,none⟩=some (.string s.h.snap):=h.blk.cell 5 _ rfl
theorem SegV.c6 (h:SegV w B g v s):w.cell? ⟨g,6,none⟩=some v:=h.blk.cell 6 _ rfl
theorem SegV.c7 (h:SegV w B g v s):w.cell? ⟨g,7,none⟩=some (.bool s.begun):=h.blk.cell 7 _ rfl
theorem SegV.c8 (h:SegV w B g v s):w.cell? ⟨g,8,none⟩=some (.bool s.whole):=h.blk.cell 8 _ rfl
theorem SegV.c9 (h:SegV w B g v s):w.cell? ⟨g,9,none⟩=some (.int .i64 (s.size:Int)):=h.blk.cell 9 _ rfl
theorem SegV.lt (h:SegV w B g v s):B≤g∧g<w.heap.size:=⟨h.low,h.blk.lt⟩
theorem SegV.set {u:Value} {i:Nat} {s':Sg} (h:SegV w B g v s) (hs:(segA s v).setIfInBounds i u=segA s' v) (hl:s'.h.log=s.h.log):SegV (w.setCell ⟨g,i,none⟩ u) B g v s' :=
 ⟨hs ▸ h.blk.set i u,hl ▸ (chg_cell g i u w).ownR h.log fun k hk e=>h.off (by rw [hk,e]),h.off,h.low,by rw [hl];exact h.few⟩
theorem SegV.below (h:SegV w B g v s) (i:Nat) (u:Value):Below B w (w.setCell ⟨g,i,none⟩ u):=(Below.refl B w).setCell (p:=⟨g,i,none⟩) h.low u
theorem SegAt.ext (h:SegAt w B g s) (hb:Below w.heap.size w w'):SegAt w' B g s:=by obtain ⟨v,h⟩:=h;exact ⟨v,h.ext hb⟩
end
theorem own_len (p:Option Addr) (n m c:Nat):(Value.slice p n c).ownBlock=(Value.slice p m c).ownBlock:=by cases p<;>rfl
theorem cutE {w:World} {B:Nat} {e:TypeId} {n:Nat} {v:Value} {l:List Ety} (h:OwnR etyE w B e v l) (hn:n≤l.length):∃ p c,v=.slice p l.length c∧subV v 0 n 3=.slice p n c∧OwnR etyE w B e (.slice p n c) (l.take n):=by
 have hl:(l.take n).length=n:=by rw [List.length_take];omega
 rcases Own.head h with ⟨rfl,h0⟩ | ⟨g,cap,rfl,_⟩
 ·have hz:l=[]:=List.length_eq_zero_iff.1 h0;subst hz;have:n=0:=by simpa using hn
  subst this;exact ⟨none,0,rfl,rfl,OwnR.nil _ _ _⟩
 ·refine ⟨some ⟨g,0,none⟩,cap,rfl,?_,?_⟩
  ·show Value.slice (subP _ _ _ _) _ _=_
   have e1:subP (some ⟨g,0,none⟩) cap 0 3=some ⟨g,0,none⟩:=by
    unfold subP;split
    ·rfl
    ·simp [addr_add]
   rw [e1];rfl
  ·have h1:=Own.cut h n hn;exact OwnR.of h1 hl.symm (etyE.all_take l n)

theorem segDone {w:World} {B g:Nat} {v:Value} {s:Sg} (h:SegV w B g v s) :
 Calls Tryz.prog 131 #[.pointer (some ⟨g,0,none⟩)] w fun e w'=>e=.returned (.bool (doneS s).isSome)∧SegAt w' B g ((doneS s).getD s)∧Below B w w':=by
 have c1:=h.c7;have c2:=h.c8;have f2:=h.blk.frozen 8;have hy:=Lib.hid (h.set (i:=8) (u:=.bool true) (s':={ s with whole:=true }) rfl rfl);have hb:=Lib.hid (h.below 8 (.bool true))
 by_cases hc:s.begun=true∧s.whole=false
 ·have hd:doneS s=some { s with whole:=true }:=if_pos hc;rw [hd];rw [hc.1] at c1;rw [hc.2] at c2;clear hd hc;go_enter Tryz.func131,Tryz.ntmps131
  go_wp2
  go_ret
  exact ⟨rfl,⟨v,hy.out⟩,hb.out⟩
 ·have hd:doneS s=none:=if_neg hc;rw [hd];clear hd;have Hc:=Lib.hid hc;clear hc
  cases hb1:s.begun<;>cases hw1:s.whole
  all_goals
   rw [hb1] at c1;rw [hw1] at c2
  case true.false=>exact absurd ⟨hb1,hw1⟩ Hc.out
  all_goals
   clear hb1 hw1;go_enter Tryz.func131,Tryz.ntmps131
   go_wp2
   go_ret
   exact ⟨rfl,⟨v,h⟩,Below.refl _ _⟩

theorem segVoted {w:World} {B g:Nat} {v:Value} {s:Sg} (h:SegV w B g v s) (t x:Int) :
 Calls Tryz.prog 132 #[.pointer (some ⟨g,0,none⟩),.int .i64 t,.int .i64 x] w fun e w'=>e=.returned (.bool (votedS s t x).isSome)∧SegAt w' B g ((votedS s t x).getD s)∧Below B w w':=by
 have c0:=h.c0;have c1:=h.c1;have c8:=h.c8;have f0:=h.blk.frozen 0;have f1:=h.blk.frozen 1;have h1:=h.set (i:=0) (u:=.int .i64 t) (s':={ s with h:={ s.h with term:=t } }) rfl rfl;have h2:=h1.set (i:=1) (u:=.int .i64 x) (s':={ s with h:={ s.h with term:=t,vote:=x } }) rfl rfl;have hy:=Lib.hid (And.intro h2 ((h.below 0 (.int .i64 t)).trans (h1.below 1 (.int .i64 x))));have hd:votedS s t x=if s.whole=true∧s.h.term≤t∧¬ (t=s.h.term∧s.h.vote ≠ -1)∧t≤1099511627776 ∧ -1≤x∧x<7 then some { s with h:={ s.h with term:=t,vote:=x } } else none:=rfl
 have Hd:=Lib.hid hd;clear h1 h2 hd
 rcases (Bool.eq_false_or_eq_true s.whole).symm with hw | hw
 ·skip
  rw [hw] at c8;have e:votedS s t x=none:=by rw [Hd.out,hw];exact if_neg (fun h=>by simp at h)
  rw [e];clear e;go_enter Tryz.func132,Tryz.ntmps132
  go_wp2
  go_ret
  exact ⟨rfl,⟨v,h⟩,Below.refl _ _⟩
 ·skip
  rw [hw] at c8;have q1:(t == s.h.term)=decide (t=s.h.term):=rfl;have q2:(s.h.vote != -1)=decide (s.h.vote ≠ -1):=by simp [bne,BEq.beq]
  have Hq:=Lib.hid (And.intro q1 q2);clear q1 q2
  by_cases hc:s.h.term≤t∧¬ (t=s.h.term∧s.h.vote ≠ -1)∧t≤1099511627776 ∧ -1≤x∧x<7
  ·have e:votedS s t x=some { s with h:={ s.h with term:=t,vote:=x } }:=Hd.out.trans (if_pos ⟨hw,hc⟩);rw [e];clear e hw;obtain ⟨k1,k2,k3,k4,k5⟩:=hc;have k2':t=s.h.term→s.h.vote = -1:=fun e=>Decidable.not_not.1 (fun hn=>k2 ⟨e,hn⟩);have K2:=Lib.hid k2';clear k2 k2'
   by_cases g1:(t == s.h.term)=true
   ·have g2:(s.h.vote != -1)=false:=by rw [Hq.out.2];exact decide_eq_false (fun hn=>hn (K2.out (by simpa using g1)))
    go_enter Tryz.func132,Tryz.ntmps132
    go_wp2
    go_ret
    exact ⟨rfl,⟨v,hy.out.1⟩,hy.out.2⟩
   ·have g1':(t == s.h.term)=false:=by simpa using g1
    clear g1;go_enter Tryz.func132,Tryz.ntmps132
    go_wp2
    go_ret
    exact ⟨rfl,⟨v,hy.out.1⟩,hy.out.2⟩
  ·have e:votedS s t x=none:=Hd.out.trans (if_neg (fun h=>hc h.2));rw [e];clear e;have Hc:=Lib.hid hc;clear hc
   cases g1:(t == s.h.term)<;>cases g2:(s.h.vote != -1)
   all_goals
    go_enter Tryz.func132,Tryz.ntmps132
    go_wp2
   all_goals
    first
    | (go_ret;exact ⟨rfl,⟨v,h⟩,Below.refl _ _⟩)
    | (exfalso
       have a1 := Hq.out.1
       have a2 := Hq.out.2
       rw [g1] at a1
       rw [g2] at a2
       have b1 := of_decide_eq_true (p := True) rfl
       refine Hc.out ⟨by omega, ?_, by omega, by omega, by omega⟩
       rintro ⟨z1, z2⟩
       first | exact of_decide_eq_false a1.symm z1 | exact of_decide_eq_false a2.symm z2)
end
end Go.Proofs.YtgpgcnmnfnnkjaaGreatDoor
