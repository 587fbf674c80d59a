import Derived.Test.YtgpgcnmnfnnkjaaGreatDoorGStorePlays28
import Derived.Lib.SmallJoins
set_option linter.unusedVariables false
set_option linter.unusedSimpArgs false
set_option maxRecDepth 100000
set_option maxHeartbeats 16000000
namespace Go.Proofs.YtgpgcnmnfnnkjaaGreatDoor
section
open Go Go.RowKit Go.ChangeShapes Go.WideShapes Go.ChangeAt Go.Deep Go.Joins
def aslE:Enc AskL:=⟨10,fun x=>[.int .i64 x.kind,.int .i64 x.n,.int .i64 x.h.term,.int .i64 x.h.vote,.int .i64 x.h.base,.int .i64 x.h.bterm,.int .i64 x.h.members,.string x.h.snap,.slice x.hp x.h.log.length x.hc,.slice x.pp x.picks.length x.pc],fun _=>rfl,fun _ v hv=>by
 simp only [List.mem_cons,List.not_mem_nil,or_false] at hv
 rcases hv with rfl | rfl | rfl | rfl | rfl | rfl | rfl | rfl | rfl | rfl<;>rfl,by decide⟩
theorem list3 {cs:List Value} (h:cs.length=3):∃ a0 a1 a2,cs=[a0,a1,a2]:=by
 match cs,h with
 | [a0,a1,a2],_=>exact ⟨a0,a1,a2,rfl⟩
theorem list7 {cs:List Value} (h:cs.length=7):∃ a0 a1 a2 a3 a4 a5 a6,cs=[a0,a1,a2,a3,a4,a5,a6]:=by
 match cs,h with
 | [a0,a1,a2,a3,a4,a5,a6],_=>exact ⟨a0,a1,a2,a3,a4,a5,a6,rfl⟩
theorem list10 {cs:List Value} (h:cs.length=10):∃ a0 a1 a2 a3 a4 a5 a6 a7 a8 a9,cs=[a0,a1,a2,a3,a4,a5,a6,a7,a8,a9]:=by
 match cs,h with
 | [a0,a1,a2,a3,a4,a5,a6,a7,a8,a9],_=>exact ⟨a0,a1,a2,a3,a4,a5,a6,a7,a8,a9,rfl⟩
theorem open_intsL {H:Type} {enc:TypeId×Value→H} {P:Program} {W:World} {t e:TypeId} {v:Value} {fuel:Nat} {y:DataW H×List MemPlace}
 (hu:P.underlying t=some (.slice e)) (he:P.underlying e=some (.int .i64)) (hc:P.cellsOf e=1)
 (h:DataW.trod enc P W 0 (fun _=>true) true fuel t [v]=some y):∃ l:List Int,Rd intsE W v l∧(∀ x ∈ l, -9223372036854775808≤x∧x≤9223372036854775807):=by
 have hsh:∃ a len cap,v=.slice a len cap:=by
  rcases open_slice hu h with ⟨hcs,_⟩ | ⟨a,len,cap,_,_,_,_,hcs,_⟩
  ·exact ⟨none,0,0,by simpa using hcs⟩
  ·exact ⟨some a,len,cap,by simpa using hcs⟩
 obtain ⟨a,len,cap,rfl⟩:=hsh;have hf:DataW.trod enc P W 0 (fun _=>true) true fuel t (Value.slice a len cap).cells.toList=some y:=by simpa [Value.cells] using h
 rcases open_ints hu he hc hf with ⟨hcs,hx⟩ | ⟨x,l,c,zs,hcs,_,hl,hm,hz,hx,hcell,hwz⟩
 ·simp [Value.cells] at hcs
  obtain ⟨rfl,rfl,rfl⟩:=hcs;exact ⟨[],Rd.nil W,by simp⟩
 ·simp [Value.cells] at hcs
  obtain ⟨rfl,rfl,rfl⟩:=hcs;simp at hz
  have hlen:(zs.take len).length=len:=by rw [List.length_take];omega
  refine ⟨zs.take len,?_,fun y hy=>?_⟩
  ·unfold Rd;rw [hlen];refine ⟨by rw [intsE.all_length,hlen],intsE.all_oneCell _,some x,cap,rfl,hl,hm,fun h=>(by cases h),fun a ha hn=>?_⟩
   cases ha
   have hs:=spot_none (hcell 0 (by omega));refine ⟨hs,fun i u hu=>?_⟩;have hi:i<len:=by
    have:=(List.getElem?_eq_some_iff.1 hu).1;rw [intsE.all_length,hlen] at this;simpa [intsE] using this
   have e1:=intsE.all_get (zs.take len) i (by omega) 0 Nat.one_pos;simp only [intsE,Nat.mul_one,Nat.add_zero] at e1
   have hu':(Enc.all intsE (zs.take len))[i]?=some u:=hu;simp only [intsE] at hu'
   rw [e1] at hu';simp at hu'
   subst hu';have:=hcell i (by omega);rw [addr_add x hs] at this;rw [this];simp [List.getD,show i<zs.length from by omega]
  ·have:=hwz y (List.mem_of_mem_take hy);simp [Lit.wf,IntKind.min,IntKind.max,IntKind.bits,IntKind.signed] at this;omega
theorem dlen_weight {H:Type} {P:Program} {t e:TypeId} {d:DataW H} {n:Nat} (hu:P.underlying t=some (.slice e)) (hd:DLen d n):∃ m,n * P.bytesOf e≤m∧(n=0∨m ∈ d.weights P t):=by
 rcases hd with ⟨rfl,rfl⟩ | ⟨es,sp,rfl,rfl⟩
 ·exact ⟨0,by simp,.inl rfl⟩
 ·refine ⟨(es.length+sp.length) * P.bytesOf e,Nat.mul_le_mul_right _ (by omega),.inr ?_⟩;simp only [DataW.weights,hu,List.mem_cons,true_or]
theorem elem_ety {H:Type} {enc:TypeId×Value→H} {W:World} (fuel:Nat) (cs:List Value) (y:DataW H×List MemPlace) (h:DataW.trod enc Tryz.prog W 0 (fun _=>true) true fuel 73 cs=some y) :
 ∃ x:Ety,cs=etyE.enc x∧x.data.size ∈ y.1.weights Tryz.prog 73:=by
 have hu:=Tryz.underlying73;obtain ⟨xs,n,rfl,rfl,hlen,hxl,hf⟩:=DataW.trod_struct hu h;obtain ⟨a0,a1,a2,rfl⟩:=list3 (hlen.trans (by kernel_rfl));have k0:Tryz.prog.cellsOf 9=1:=by kernel_rfl
 have k1:Tryz.prog.cellsOf 3=1:=by kernel_rfl
 have h0:DataW.trod enc Tryz.prog W 0 (fun _=>true) true n 3 (([a0,a1,a2].drop 0).take (Tryz.prog.cellsOf 3))=xs[0]?:=hf 0 _ rfl;have h1:DataW.trod enc Tryz.prog W 0 (fun _=>true) true n 3 (([a0,a1,a2].drop 1).take (Tryz.prog.cellsOf 3))=xs[1]?:=hf 1 _ rfl;have h2:DataW.trod enc Tryz.prog W 0 (fun _=>true) true n 9 (([a0,a1,a2].drop 2).take (Tryz.prog.cellsOf 9))=xs[2]?:=hf 2 _ rfl;rw [k1] at h0 h1;rw [k0] at h2;simp only [List.drop_zero,List.take_succ_cons,List.take_zero,List.drop_succ_cons] at h0 h1 h2
 have hx0:xs[0]?=some (xs[0]'(by rw [hxl];decide)):=List.getElem?_eq_getElem _;have hx1:xs[1]?=some (xs[1]'(by rw [hxl];decide)):=List.getElem?_eq_getElem _;have hx2:xs[2]?=some (xs[2]'(by rw [hxl];decide)):=List.getElem?_eq_getElem _;obtain ⟨z0,e0,_,_⟩:=DataW.trod_int Tryz.underlying3 (h0.trans hx0);obtain ⟨z1,e1,_,_⟩:=DataW.trod_int Tryz.underlying3 (h1.trans hx1);obtain ⟨z2,e2,w2,_⟩:=DataW.trod_string Tryz.underlying9 (h2.trans hx2);simp only [List.cons.injEq,and_true] at e0 e1 e2
 subst e0;subst e1;subst e2;have m2:(xs.map (·.1))[2]?=some (DataW.lit (.string z2.data.toList)):=by rw [List.getElem?_map,hx2,Option.map_some,w2]
 exact ⟨⟨z0,z1,z2⟩,rfl,weigh_field hu (j:=2) rfl m2 _ weigh_string⟩
structure HrdLies {H:Type} (W:World) (h:Hrd) (p:Option Addr) (c:Nat) (d:DataW H):Prop where
 log:Rd etyE W (.slice p h.log.length c) h.log
 snap:h.snap.size ∈ d.weights Tryz.prog 24
 few:∃ m,h.log.length * 32≤m∧(h.log.length=0∨m ∈ d.weights Tryz.prog 24)
 data:∀ x ∈ h.log,x.data.size ∈ d.weights Tryz.prog 24
theorem elem_hrd {H:Type} {enc:TypeId×Value→H} {W:World} (fuel:Nat) (cs:List Value) (y:DataW H×List MemPlace) (h:DataW.trod enc Tryz.prog W 0 (fun _=>true) true fuel 24 cs=some y) :
 ∃ (x:Hrd) (p:Option Addr) (c:Nat),cs=[.int .i64 x.term,.int .i64 x.vote,.int .i64 x.base,.int .i64 x.bterm,.int .i64 x.members,.string x.snap,.slice p x.log.length c]∧HrdLies W x p c y.1:=by
 have hu:=Tryz.underlying24;obtain ⟨xs,n,rfl,rfl,hlen,hxl,hf⟩:=DataW.trod_struct hu h;obtain ⟨a0,a1,a2,a3,a4,a5,a6,rfl⟩:=list7 (hlen.trans (by kernel_rfl));have k0:Tryz.prog.cellsOf 9=1:=by kernel_rfl
 have k1:Tryz.prog.cellsOf 3=1:=by kernel_rfl
 have k2:Tryz.prog.cellsOf 22=1:=by kernel_rfl
 have h0:DataW.trod enc Tryz.prog W 0 (fun _=>true) true n 3 (([a0,a1,a2,a3,a4,a5,a6].drop 0).take (Tryz.prog.cellsOf 3))=xs[0]?:=hf 0 _ rfl;have h1:DataW.trod enc Tryz.prog W 0 (fun _=>true) true n 3 (([a0,a1,a2,a3,a4,a5,a6].drop 1).take (Tryz.prog.cellsOf 3))=xs[1]?:=hf 1 _ rfl;have h2:DataW.trod enc Tryz.prog W 0 (fun _=>true) true n 3 (([a0,a1,a2,a3,a4,a5,a6].drop 2).take (Tryz.prog.cellsOf 3))=xs[2]?:=hf 2 _ rfl;have h3:DataW.trod enc Tryz.prog W 0 (fun _=>true) true n 3 (([a0,a1,a2,a3,a4,a5,a6].drop 3).take (Tryz.prog.cellsOf 3))=xs[3]?:=hf 3 _ rfl
 have h4:DataW.trod enc Tryz.prog W 0 (fun _=>true) true n 3 (([a0,a1,a2,a3,a4,a5,a6].drop 4).take (Tryz.prog.cellsOf 3))=xs[4]?:=hf 4 _ rfl;have h5:DataW.trod enc Tryz.prog W 0 (fun _=>true) true n 9 (([a0,a1,a2,a3,a4,a5,a6].drop 5).take (Tryz.prog.cellsOf 9))=xs[5]?:=hf 5 _ rfl;have h6:DataW.trod enc Tryz.prog W 0 (fun _=>true) true n 22 (([a0,a1,a2,a3,a4,a5,a6].drop 6).take (Tryz.prog.cellsOf 22))=xs[6]?:=hf 6 _ rfl;rw [k1] at h0 h1 h2 h3 h4;rw [k0] at h5;rw [k2] at h6;simp only [List.drop_zero,List.take_succ_cons,List.take_zero,List.drop_succ_cons] at h0 h1 h2 h3 h4 h5 h6
 have hx:∀ j (hj:j<7),xs[j]?=some (xs[j]'(by rw [hxl];exact hj)):=fun j hj=>List.getElem?_eq_getElem _;obtain ⟨z0,e0,_,_⟩:=DataW.trod_int Tryz.underlying3 (h0.trans (hx 0 (by decide)));obtain ⟨z1,e1,_,_⟩:=DataW.trod_int Tryz.underlying3 (h1.trans (hx 1 (by decide)));obtain ⟨z2,e2,_,_⟩:=DataW.trod_int Tryz.underlying3 (h2.trans (hx 2 (by decide)));obtain ⟨z3,e3,_,_⟩:=DataW.trod_int Tryz.underlying3 (h3.trans (hx 3 (by decide)));obtain ⟨z4,e4,_,_⟩:=DataW.trod_int Tryz.underlying3 (h4.trans (hx 4 (by decide)));obtain ⟨z5,e5,w5,_⟩:=DataW.trod_string Tryz.underlying9 (h5.trans (hx 5 (by decide)))
 obtain ⟨v6,l6,e6,r6,dl6,g6⟩:=open_rd_core etyE Tryz.underlying22 (by kernel_rfl) (fun (x:Ety) (dx:DataW H)=>x.data.size ∈ dx.weights Tryz.prog 73) elem_ety (h6.trans (hx 6 (by decide)));simp only [List.cons.injEq,and_true] at e0 e1 e2 e3 e4 e5 e6
 subst e0;subst e1;subst e2;subst e3;subst e4;subst e5;subst e6;obtain ⟨p6,c6,rfl⟩:=r6.shape;have m5:(xs.map (·.1))[5]?=some (DataW.lit (.string z5.data.toList)):=by rw [List.getElem?_map,hx 5 (by decide),Option.map_some,w5]
 have m6:(xs.map (·.1))[6]?=some (xs[6]'(by rw [hxl];decide)).1:=by rw [List.getElem?_map,hx 6 (by decide),Option.map_some]
 refine ⟨⟨z0,z1,z2,z3,z4,z5,l6⟩,p6,c6,rfl,r6,weigh_field hu (j:=5) rfl m5 _ weigh_string,?_,fun x hx'=>?_⟩
 ·obtain ⟨m,hm1,hm2⟩:=dlen_weight Tryz.underlying22 dl6;have hb:Tryz.prog.bytesOf 73=32:=by kernel_rfl
  rw [hb] at hm1;exact ⟨m,hm1,hm2.imp id fun hm=>weigh_field hu (j:=6) rfl m6 _ hm⟩
 ·obtain ⟨dx,gx,hin⟩:=g6 x hx';exact weigh_field hu (j:=6) rfl m6 _ (hin _ gx)
theorem elem_asl {H:Type} {enc:TypeId×Value→H} {W:World} (fuel:Nat) (cs:List Value) (y:DataW H×List MemPlace) (h:DataW.trod enc Tryz.prog W 0 (fun _=>true) true fuel 57 cs=some y) :
 ∃ x:AskL,cs=aslE.enc x∧(Rd etyE W x.vh x.h.log∧Rd intsE W x.vp x.picks∧(∀ z ∈ x.picks,z≤9223372036854775807)∧(-9223372036854775808≤x.n∧x.n≤9223372036854775807))∧x.h.snap.size ∈ y.1.weights Tryz.prog 57∧(∃ m,x.h.log.length * 32≤m∧(x.h.log.length=0∨m ∈ y.1.weights Tryz.prog 57))∧∀ e ∈ x.h.log,e.data.size ∈ y.1.weights Tryz.prog 57:=by
 have hu:=Tryz.underlying57;obtain ⟨xs,n,rfl,rfl,hlen,hxl,hf⟩:=DataW.trod_struct hu h;obtain ⟨a0,a1,a2,a3,a4,a5,a6,a7,a8,a9,rfl⟩:=list10 (hlen.trans (by kernel_rfl));have k1:Tryz.prog.cellsOf 3=1:=by kernel_rfl
 have k2:Tryz.prog.cellsOf 24=7:=by kernel_rfl
 have k3:Tryz.prog.cellsOf 55=1:=by kernel_rfl
 have h0:DataW.trod enc Tryz.prog W 0 (fun _=>true) true n 3 (([a0,a1,a2,a3,a4,a5,a6,a7,a8,a9].drop 0).take (Tryz.prog.cellsOf 3))=xs[0]?:=hf 0 _ rfl;have h1:DataW.trod enc Tryz.prog W 0 (fun _=>true) true n 3 (([a0,a1,a2,a3,a4,a5,a6,a7,a8,a9].drop 1).take (Tryz.prog.cellsOf 3))=xs[1]?:=hf 1 _ rfl;have h2:DataW.trod enc Tryz.prog W 0 (fun _=>true) true n 24 (([a0,a1,a2,a3,a4,a5,a6,a7,a8,a9].drop 2).take (Tryz.prog.cellsOf 24))=xs[2]?:=hf 2 _ rfl;have h3:DataW.trod enc Tryz.prog W 0 (fun _=>true) true n 55 (([a0,a1,a2,a3,a4,a5,a6,a7,a8,a9].drop 9).take (Tryz.prog.cellsOf 55))=xs[3]?:=hf 3 _ rfl
 rw [k1] at h0 h1;rw [k2] at h2;rw [k3] at h3;simp only [List.drop_zero,List.take_succ_cons,List.take_zero,List.drop_succ_cons] at h0 h1 h2 h3
 have hx:∀ j (hj:j<4),xs[j]?=some (xs[j]'(by rw [hxl];exact hj)):=fun j hj=>List.getElem?_eq_getElem _;obtain ⟨z0,e0,_,_⟩:=DataW.trod_int Tryz.underlying3 (h0.trans (hx 0 (by decide)));obtain ⟨z1,e1,_,l1⟩:=DataW.trod_int Tryz.underlying3 (h1.trans (hx 1 (by decide)));obtain ⟨g,p2,c2,e2,hl⟩:=elem_hrd _ _ _ (h2.trans (hx 2 (by decide)));obtain ⟨l3,b3,r3⟩:=open_intsL Tryz.underlying55 Tryz.underlying3 (by kernel_rfl) (h3.trans (hx 3 (by decide)));simp only [List.cons.injEq,and_true] at e0 e1 e2
 obtain ⟨rfl,rfl,rfl,rfl,rfl,rfl,rfl⟩:=e2;subst e0;subst e1;obtain ⟨p3,c3,rfl⟩:=b3.shape;have m2:(xs.map (·.1))[2]?=some (xs[2]'(by rw [hxl];decide)).1:=by rw [List.getElem?_map,hx 2 (by decide),Option.map_some]
 refine ⟨⟨z0,z1,g,p2,c2,p3,c3,l3⟩,rfl,⟨hl.log,b3,fun z hz=>(r3 z hz).2,?_⟩,weigh_field hu (j:=2) rfl m2 _ hl.snap,?_,fun e he=>weigh_field hu (j:=2) rfl m2 _ (hl.data e he)⟩
 ·simp [Lit.wf,IntKind.min,IntKind.max,IntKind.bits,IntKind.signed] at l1;exact l1
 ·obtain ⟨m,hm1,hm2⟩:=hl.few;exact ⟨m,hm1,hm2.imp id fun hm=>weigh_field hu (j:=2) rfl m2 _ hm⟩
theorem open_asls {H:Type} {enc:TypeId×Value→H} {W:World} {base:Nat} {v:Value} {d:DataW H} {p:List MemPlace} {ts:List TypeId} {ds:List (DataW H)} (j:Nat)
 (ht:ts[j]?=some 54) (hd:ds[j]?=some d) (hok:Value.okWide Tryz.prog W .any base 54 v) (h:DataW.Trod enc Tryz.prog W 0 (fun _=>true) true 54 v d p)
 (hsz:(DataW.weightsEach Tryz.prog ts ds).all (· ≤ reachBytes)=true):∃ l:List AskL,Rd aslE W v l∧∀ x ∈ l,AskLOk W x:=by
 obtain ⟨l,h1,_,h3⟩:=open_rd aslE Tryz.underlying54 (by kernel_rfl) (fun (x:AskL) (dx:DataW H)=>(Rd etyE W x.vh x.h.log∧Rd intsE W x.vp x.picks∧(∀ z ∈ x.picks,z≤9223372036854775807)∧(-9223372036854775808≤x.n∧x.n≤9223372036854775807))∧x.h.snap.size ∈ dx.weights Tryz.prog 57∧(∃ m,x.h.log.length * 32≤m∧(x.h.log.length=0∨m ∈ dx.weights Tryz.prog 57))∧∀ e ∈ x.h.log,e.data.size ∈ dx.weights Tryz.prog 57) elem_asl hok h;refine ⟨l,h1,fun x hx=>?_⟩;obtain ⟨dx,⟨⟨g1,g2,g3,g4⟩,g5,⟨m,hm1,hm2⟩,g6⟩,hin⟩:=h3 x hx
 have hle:∀ n,n ∈ dx.weights Tryz.prog 57→n≤140737488351232:=fun n hn=>reach_of hsz ht hd (hin _ hn);refine ⟨g1,g2,g3,?_,by have:=hle _ g5;omega,fun e he=>by have:=hle _ (g6 e he);omega,g4⟩
 rcases hm2 with hm2 | hm2
 ·rw [hm2];omega
 ·have:=hle _ hm2;omega
end
end Go.Proofs.YtgpgcnmnfnnkjaaGreatDoor
