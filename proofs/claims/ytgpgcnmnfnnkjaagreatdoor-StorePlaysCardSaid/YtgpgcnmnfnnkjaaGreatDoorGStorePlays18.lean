import Derived.Test.YtgpgcnmnfnnkjaaGreatDoorGStorePlays17
set_option linter.unusedVariables false
set_option linter.unusedSimpArgs false
set_option maxRecDepth 100000
set_option maxHeartbeats 16000000
namespace Go.Proofs.YtgpgcnmnfnnkjaaGreatDoor
section
open Go Go.RowKit BigFrame Go.PlainAid
attribute [local go_sem] After.same
def renR (sn:ByteArray) (l:List Fil) (k:Nat):List Fil:=match l[k]? with
 | none=>l
 | some f=>updD (mD (delD l k) sn) (idxD (mD (delD l k) sn) sn).toNat fun x=>⟨x.name,f.data,f.kept⟩
def renameR (d:Dk) (s sn:ByteArray):Int×Dk:=if d.off=false∧namedD sn=false then (19,d) else onD d s fun l k=>renR sn l k
theorem delD_lo {m:List Fil} {i q:Nat} (hq:q<i) (hi:i<m.length) (h:q<(delD m i).length):(delD m i)[q]=m[q]:=by
 unfold delD at h ⊢; rw [List.getElem_append_left (by rw [List.length_take];omega),List.getElem_take]
theorem delD_hi {m:List Fil} {i:Nat} (hi:i<m.length) (h:i<(delD m i).length):∃ h':i+1<m.length,(delD m i)[i]=m[i+1]:=by
 have hl:(delD m i).length=m.length - 1:=by unfold delD;rw [List.length_append,List.length_take,List.length_drop];omega
 have h1:i+1<m.length:=by omega
 refine ⟨h1,?_⟩;have e:(delD m i)[i]?=m[i+1]?:=by
  unfold delD;rw [List.getElem?_append_right (by rw [List.length_take];omega),List.getElem?_drop]
  congr 1;rw [List.length_take];omega
 rw [List.getElem?_eq_getElem h,List.getElem?_eq_getElem h1] at e;exact Option.some.inj e
theorem pos_del {m:List Fil} (hs:SortD m) {i:Nat} (hi:i<m.length) {sn:ByteArray} (hn:m[i].name=sn):posD (delD m i) sn=i:=by
 have hl:(delD m i).length=m.length - 1:=by unfold delD;rw [List.length_append,List.length_take,List.length_drop];omega
 have hs2:=hs;unfold SortD at hs2;rw [List.pairwise_iff_getElem] at hs2;refine posD_at (by omega) (fun q h hq=>?_) (fun h=>?_)
 ·rw [delD_lo hq hi h, ←hn];exact hs2 q i (by omega) hi hq
 ·obtain ⟨h1,e⟩:=delD_hi hi h;rw [e, ←hn];exact ltS_asym (hs2 i (i+1) hi h1 (by omega))
theorem put_del {m:List Fil} (hs:SortD m) {i:Nat} (hi:i<m.length) {sn:ByteArray} (hn:m[i].name=sn) (a:List UInt8) (b:Nat):putD (delD m i) ⟨sn,a,b⟩=m.set i ⟨sn,a,b⟩:=by
 have e:m.set i ⟨sn,a,b⟩=m.take i++⟨sn,a,b⟩::m.drop (i+1):=List.set_eq_take_append_cons_drop.trans (if_pos hi);rw [e];unfold putD;rw [show (⟨sn,a,b⟩:Fil).name=sn from rfl,pos_del hs hi hn];have h1:(delD m i).take i=m.take i:=by
  unfold delD;rw [List.take_append_of_le_length (by rw [List.length_take];omega),List.take_take,Nat.min_self]
 have h2:(delD m i).drop i=m.drop (i+1):=by
  unfold delD;rw [List.drop_append,List.drop_eq_nil_of_le (by rw [List.length_take];omega),List.length_take,Nat.min_eq_left (Nat.le_of_lt hi),Nat.sub_self,List.drop_zero,List.nil_append]
 rw [h1,h2]
theorem set_put (m:List Fil) (sn:ByteArray) (a a':List UInt8) (b b':Nat):(putD m ⟨sn,a,b⟩).set (posD m sn) ⟨sn,a',b'⟩=putD m ⟨sn,a',b'⟩:=by
 unfold putD;have hl:(m.take (posD m sn)).length=posD m sn:=by have:=posD_le m sn;rw [List.length_take];omega
 show (m.take (posD m sn)++⟨sn,a,b⟩::m.drop (posD m sn)).set (posD m sn) _=m.take (posD m sn)++⟨sn,a',b'⟩::m.drop (posD m sn)
 rw [List.set_append,if_neg (by omega),hl,Nat.sub_self,List.set_cons_zero]
theorem none_del {l:List Fil} (hs:SortD l) {k:Nat} (hk:k<l.length):∀ x ∈ delD l k,hasN l[k].name x=false:=fun x hx=>by
 refine hasN_no ?_;intro e;have hs2:=hs;unfold SortD at hs2;rw [List.pairwise_iff_getElem] at hs2;unfold delD at hx
 rcases List.mem_append.1 hx with hx | hx
 ·obtain ⟨i,hi,rfl⟩:=List.getElem_of_mem hx;rw [List.length_take] at hi;rw [List.getElem_take] at e;exact ltS_ne (hs2 i k (by omega) hk (by omega)) e
 ·obtain ⟨i,hi,rfl⟩:=List.getElem_of_mem hx;rw [List.length_drop] at hi;rw [List.getElem_drop] at e;exact ltS_ne (hs2 k (k+1+i) hk (by omega) (by omega)) e.symm
theorem ren_put {m:List Fil} {sn:ByteArray} (h:∀ x ∈ m,hasN sn x=false) (f:Fil):updD (mD m sn) (idxD (mD m sn) sn).toNat (fun x=>⟨x.name,f.data,f.kept⟩)=putD m ⟨sn,f.data,f.kept⟩:=by
 have hx:idxD m sn<0:=by
  rcases idxD_spec m sn with ⟨h1,_⟩ | ⟨i,hi,_,h2,_⟩
  ·omega
  ·rw [h _ (List.getElem_mem hi)] at h2;cases h2
 have e:mD m sn=putD m ⟨sn,[],0⟩:=by unfold mD;rw [if_pos hx]
 have hlt:posD m sn<(putD m ⟨sn,[],0⟩).length:=by rw [putD_length];have:=posD_le m sn;omega
 have hat:(putD m ⟨sn,[],0⟩)[posD m sn]=⟨sn,[],0⟩:=by
  have hl:(m.take (posD m sn)).length=posD m sn:=by have:=posD_le m sn;rw [List.length_take];omega
  have e:(putD m ⟨sn,[],0⟩)[posD m sn]?=some ⟨sn,[],0⟩:=by
   unfold putD
   show (m.take (posD m sn)++(⟨sn,[],0⟩:Fil)::m.drop (posD m sn))[posD m sn]?=_
   rw [List.getElem?_append_right (by rw [hl];exact Nat.le_refl _),hl,Nat.sub_self];rfl
  rw [List.getElem?_eq_getElem hlt] at e;exact Option.some.inj e
 rw [e,idx_put h,Int.toNat_natCast,updD_at hlt,hat,set_put]
theorem renR_eq {l:List Fil} (hs:SortD l) {k:Nat} (hk:k<l.length) {s sn:ByteArray} (hn:hasN s l[k]=true):renR sn l k=if eqS s sn then l else moveD sn l k:=by
 have hns:l[k].name=s:=hasN_iff.1 hn;unfold renR moveD;rw [List.getElem?_eq_getElem hk]
 show updD _ _ _=if eqS s sn=true then l else putD _ _
 split
 ·rename_i h
  have h2:=(eqS_iff _ _).1 h;subst h2;have hno:=none_del hs hk;rw [hns] at hno;rw [ren_put hno l[k],put_del hs hk hns];have e:(⟨s,l[k].data,l[k].kept⟩:Fil)=l[k]:=by rw [←hns]
  rw [e,List.set_getElem_self]
 ·rcases idxD_spec (delD l k) sn with ⟨h1,h2⟩ | ⟨i,hi,h1,h2,_⟩
  ·rw [ren_put h2,if_neg (by omega)]
  ·have e:mD (delD l k) sn=delD l k:=by unfold mD;rw [if_neg (by omega)]
   have hni:(delD l k)[i].name=sn:=hasN_iff.1 h2;rw [e,h1,Int.toNat_natCast,updD_at hi,if_pos (by omega),put_del (hs.del k) hi hni,hni]
theorem renameR_eq {d:Dk} (hs:SortD d.fs) (s sn:ByteArray):renameR d s sn=renameD d s sn:=by
 unfold renameR renameD
 split
 ·rfl
 ·rcases knownD_spec d s with ⟨h,_⟩ | ⟨j,hj,h1,h2⟩
  ·rw [onD_no h,onD_no h]
  ·rw [onD_yes h1 h2,onD_yes h1 h2];have hn:hasN s d.fs[j]=true:=by
    rcases idxD_spec d.fs s with ⟨h3,_⟩ | ⟨i,hi,h3,h4,_⟩
    ·omega
    ·have e:i=j:=by omega
     subst e;exact h4
   unfold stepD;simp only [renR_eq hs hj hn]
section
variable {F G:Nat→Prop} {w w1 w2:World} {g:Nat} {v l o:Value} {ys:List Ent}
theorem RefV.less (h:RefV w F g v l o ys) (hg:G g) (hv:∀ k,v.ownBlock=some k→G k) (hy:∀ y ∈ ys,∀ k,y.v.ownBlock=some k→G k) (hl:∀ k,G k→k<w.heap.size):RefV w G g v l o ys:=⟨h.blk,⟨h.fil.row,h.fil.data,h.fil.apart,h.fil.off,hv,hy⟩,h.vg,h.yg,hg,hl⟩
theorem RefV.setEntA {gv n cap:Nat} (h:RefV w F g (.slice (some ⟨gv,0,none⟩) n cap) l o ys) {k:Nat} (hk:k<ys.length) {y:Ent} (ow:OwnB w 0 5 y.v y.data) (hF:∀ b,y.v.ownBlock=some b→F b) (hyg:y.v.ownBlock≠some g) (hyv:y.v.ownBlock≠some gv) (hap:∀ x ∈ ys,Apart y.v x.v)
 (row:OwnR entE w2 0 87 (.slice (some ⟨gv,0,none⟩) n cap) (ys.set k y)) (hgr:w.grownBy w2 (some gv)) :
 RefV w2 F g (.slice (some ⟨gv,0,none⟩) n cap) l o (ys.set k y)∧Chg F w w2:=by
 have c2:Chg (fun b=>b=gv) w w2:=.of_grown hgr fun b hb=>by cases hb;rfl
 have hFv:F gv:=h.fil.inV gv rfl;have hc:Chg F w w2:=c2.mono fun b _ hb=>by rw [hb];exact hFv
 have hvg:gv≠g:=fun e=>h.vg (by rw [e];rfl);have hof:∀ z ∈ ys.set k y,z=y∨z ∈ ys:=fun z hz=>by
  rcases List.mem_or_eq_of_mem_set hz with h | h
  ·exact .inr h
  ·exact .inl h
 refine ⟨⟨c2.blk h.blk (fun e=>hvg e.symm),⟨row,?_,?_,?_,h.fil.inV,?_⟩,h.vg,?_,h.inG,fun b hb=>Nat.lt_of_lt_of_le (h.lt b hb) hc.size⟩,hc⟩
 ·intro z hz
  rcases hof z hz with rfl | hz
  ·exact c2.ownB ow fun b hb e=>hyv (by rw [hb,e])
  ·exact c2.ownB (h.fil.data z hz) fun b hb e=>h.fil.off z hz gv rfl (by rw [hb,e])
 ·rw [List.pairwise_iff_getElem];intro i j hi hj hij;rw [List.length_set] at hi hj;rw [List.getElem_set,List.getElem_set]
  by_cases e1:k=i
  ·have e2:¬ k=j:=by omega
   rw [if_pos e1,if_neg e2];exact hap _ (List.getElem_mem hj)
  ·rw [if_neg e1]
   by_cases e2:k=j
   ·rw [if_pos e2];exact (hap _ (List.getElem_mem hi)).symm
   ·rw [if_neg e2];exact List.pairwise_iff_getElem.1 h.fil.apart i j hi hj hij
 ·intro z hz
  rcases hof z hz with rfl | hz
  ·intro b hb e;cases hb;exact hyv e
  ·exact h.fil.off z hz
 ·intro z hz
  rcases hof z hz with rfl | hz
  ·exact hF
  ·exact h.fil.inF z hz
 ·intro z hz
  rcases hof z hz with rfl | hz
  ·exact hyg
  ·exact h.yg z hz
end
theorem refRename {F:Nat→Prop} {g:Nat} {d:Dk} {w:World} (hd:RefAt w F g d) (ok:OkD d) (hfs:d.fs.length≤999999) (s sn:ByteArray) (hsn:sn.size≤4611686018427387904) :
 Calls Tryz.prog 119 #[.pointer (some ⟨g,0,none⟩),.string s,.string sn] w fun e w'=>e=.returned (.int .i64 (renameR d s sn).1)∧UndR w F g (renameR d s sn).2 w':=by
 have hlt:=hd.lt;have hT:=ok.tot;have hat:=refAt s w hd;have hnam:=refNamed sn w hsn;obtain ⟨v0,ys0,hv0,hy0⟩:=id hd;have c2:=hv0.blk.cell 2 _ rfl;have Hd:=Lib.hid hd;clear hd hv0 hy0
 cases hoff:d.off with
 | true =>
  rw [hoff] at c2;have hr:renameR d s sn=(18,d):=by unfold renameR;rw [if_neg (fun h=>by rw [hoff] at h;exact absurd h.1 (by decide))];exact onD_err (known_off hoff) (by decide)
  rw [hr];clear hr;generalize idxD d.fs s=x at *;go_enter Tryz.func119,Tryz.ntmps119
  go_wp2_with (go_at_call 51;refine hat.mono ?_;rintro e w' ⟨rfl,rfl⟩)
  go_ret
  exact ⟨rfl,UndR.start Hd.out⟩
 | false =>
  rw [hoff] at c2
  cases hnm:namedD sn with
  | false =>
   rw [hnm] at hnam;have hr:renameR d s sn=(19,d):=by unfold renameR;rw [if_pos ⟨hoff,hnm⟩]
   rw [hr];clear hr hnm;generalize idxD d.fs s=x at *;go_enter Tryz.func119,Tryz.ntmps119
   go_wp2_with fail
   refine hat.mono ?_;rintro e w' ⟨rfl,rfl⟩;go_wp2_with fail
   refine hnam.mono ?_;rintro e w' ⟨rfl,rfl⟩;go_wp2_with fail
   go_ret
   exact ⟨rfl,UndR.start Hd.out⟩
  | true =>
   rw [hnm] at hnam
   rcases idxD_spec d.fs s with ⟨hx,_⟩ | ⟨j,hj,hx,_,_⟩
   ·rw [hx] at hat;have hr:renameR d s sn=(11,d):=by unfold renameR;rw [if_neg (fun h=>by rw [hnm] at h;exact absurd h.2 (by decide))];exact onD_err (known_none hoff hx) (by decide)
    rw [hr];clear hr hnm hx;go_enter Tryz.func119,Tryz.ntmps119
    go_wp2_with fail
    refine hat.mono ?_;rintro e w' ⟨rfl,rfl⟩;go_wp2_with fail
    refine hnam.mono ?_;rintro e w' ⟨rfl,rfl⟩;go_wp2_with fail
    go_ret
    exact ⟨rfl,UndR.start Hd.out⟩
   ·have hr:renameR d s sn=stepD d fun l=>renR sn l j:=by unfold renameR;rw [if_neg (fun h=>by rw [hnm] at h;exact absurd h.2 (by decide))];exact onD_yes (known_at hoff hx) hx
    have HR:Hid (((powD d).1=false→renameR d s sn=(18,(powD d).2))∧((powD d).1=true→renameR d s sn=(0,{ (powD d).2 with fs:=renR sn d.fs j }))):=⟨fun h=>by rw [hr];exact stepD_no h,fun h=>by rw [hr];exact stepD_yes h⟩;rw [hx] at hat;have Hpf:=Lib.hid (powD_fs d);have hpow:=refPower Hd.out ok.lo ok.hi;obtain ⟨i,hi,hix⟩:=mD_has (delD d.fs j) sn;have Hix:=Lib.hid hix;have hput:Hid ((idxD (delD d.fs j) sn<0→(posD (delD d.fs j) sn:Int)=(i:Int))∧(0≤idxD (delD d.fs j) sn→idxD (delD d.fs j) sn=(i:Int))):=by
     refine ⟨fun hx=>?_,fun hx=>?_⟩
     ·have e:=hix;unfold mD at e;rw [if_pos hx] at e
      rcases idxD_spec (delD d.fs j) sn with ⟨_,h2⟩ | ⟨i,_,h1,_⟩
      ·rw [←e,idx_put h2]
      ·omega
     ·have e:=hix;unfold mD at e;rw [if_neg (by omega)] at e;exact e
    have Hren:Hid (∀ f:Fil,d.fs[j]?=some f→renR sn d.fs j=updD (mD (delD d.fs j) sn) (idxD (mD (delD d.fs j) sn) sn).toNat fun x=>⟨x.name,f.data,f.kept⟩):=fun f hf=>by unfold renR;rw [hf]
    have Hmd:Hid (mD (delD d.fs j) sn=if idxD (delD d.fs j) sn<0 then putD (delD d.fs j) ⟨sn,[],0⟩ else delD d.fs j):=rfl;have Hml:=Lib.hid (mD_length (delD d.fs j) sn);have Hdl:=Lib.hid (delD_length d.fs j);clear hr hx hoff hnm hix;go_enter Tryz.func119,Tryz.ntmps119
    go_wp2_with fail
    refine hat.mono ?_;rintro e w' ⟨rfl,rfl⟩;go_wp2_with fail
    refine hnam.mono ?_;rintro e w' ⟨rfl,rfl⟩;go_wp2_with fail
    refine hpow.mono ?_;rintro e w2 ⟨rfl,hd2,ch2⟩;clear hpow
    cases hpw:(powD d).1 with
    | false =>
     have hs:=HR.out.1 hpw;have Hs:=Lib.hid hs;have undB:=UndR.of hd2 ch2 hlt;clear hs hpw hd2 ch2;go_wp2_with fail
     go_ret
     exact ⟨by rw [Hs.out]<;>rfl,by rw [Hs.out];exact undB⟩
    | true =>
     have hs:=HR.out.2 hpw;have Hs:=Lib.hid hs;clear hs hpw;generalize hd1e:(powD d).2=d1 at *;clear hd1e;obtain ⟨v2,ys2,hv2,hy2⟩:=hd2;have hyd:ys2.map Ent.fil=d.fs:=by rw [hy2,Hpf.out]
     have Hyd:=Lib.hid hyd;have hjy:j<ys2.length:=by have h:=congrArg List.length hyd;rw [List.length_map] at h;omega
     have hys:ys2.length≤1000000:=by have h:=congrArg List.length hyd;rw [List.length_map] at h;omega
     obtain ⟨gv,cap,rfl,_,_,hq1,hq2⟩:=hv2.fil.row.head (by omega);unfold maxLen at hq2;have k0:=hv2.blk.cell 0 _ rfl;have z0:=hv2.blk.frozen 0;have hji:(j:Int)<(ys2.length:Int):=by omega
     have hj0:(0:Int)≤(j:Int):=by omega
     clear hy2 hyd;have hmem:ys2[j] ∈ ys2:=List.getElem_mem hjy;have hdat:=hv2.fil.data _ hmem;have hdl:(ys2[j]).data.length≤4194304:=by
      have h1:=totD_mem (l:=d.fs) (f:=(ys2[j]).fil) (by rw [←Hyd.out];exact List.mem_map.2 ⟨_,hmem,rfl⟩);have h2:(ys2[j]).fil.data.length=(ys2[j]).data.length:=rfl;omega
     have c21:w2.cell? ⟨gv,j * 3+1,none⟩=some (.slice ys2[j].p ys2[j].data.length ys2[j].c):=hv2.fil.row.cellAt rfl j hjy 1 (by decide);have c22:w2.cell? ⟨gv,j * 3+2,none⟩=some (.int .i64 ((ys2[j]).kept:Int)):=hv2.fil.row.cellAt rfl j hjy 2 (by decide);have f21:=hv2.fil.row.frozenAt rfl (j * 3+1);have f22:=hv2.fil.row.frozenAt rfl (j * 3+2);obtain ⟨y,hy⟩:∃ y,ys2[j]=y:=⟨_,rfl⟩;have Hy:=Lib.hid hy;have hfj:Hid (∀ h:j<d.fs.length,d.fs[j]=y.fil):=fun h=>by rw [←hy];simp only [←Hyd.out,List.getElem_map]
     rw [hy] at hdat hdl c21 c22;have hyF:∀ k,y.v.ownBlock=some k→F k:=fun k hk=>hv2.fil.inF _ hmem k (by rw [hy];exact hk);have hyg:y.v.ownBlock≠some g:=by have h:=hv2.yg _ hmem;rw [hy] at h;exact h
     have c20:w2.cell? ⟨gv,j * 3,none⟩=some (.string y.name):=by rw [←hy];exact hv2.fil.row.cellAt rfl j hjy 0 (by decide)
     have bA:=below_alloc w2 (.cells #[.string y.name,.slice y.p y.data.length y.c,.int .i64 (y.kept:Int)] 87);have kf:=Blk.new w2 #[.string y.name,.slice y.p y.data.length y.c,.int .i64 (y.kept:Int)] 87;have hgFs:∃ gF,gF=w2.heap.size:=⟨_,rfl⟩;have hFg2:∀ k,F k→k<w2.heap.size:=hv2.lt;have hwg2:=ch2.size;have hsA:(w2.alloc (.cells #[.string y.name,.slice y.p y.data.length y.c,.int .i64 (y.kept:Int)] 87)).heap.size=w2.heap.size+1:=by simp
     clear hmem;go_upto_region 11 with (fail)
     generalize hwA:w2.alloc (.cells #[.string y.name,.slice y.p y.data.length y.c,.int .i64 (y.kept:Int)] 87)=wA at *;obtain ⟨gF,hgFe⟩:∃ gF,gF=w2.heap.size:=⟨_,rfl⟩;rw [←hgFe] at kf hFg2 hwg2 hsA ⊢;have hFg:∀ k,F k→k<gF:=hFg2;have hwg:w.heap.size≤gF:=hwg2;have hv3:=hv2.ext bA;have ch3:=ch2.step (Chg.of_below (F:=F) bA);have hdat3:=hdat.ext bA;have hgF:¬ gF=g:=fun e=>by have:=hFg g hv2.inG;omega
     have hgA:gF<wA.heap.size:=by omega
     clear hv2 ch2 hdat c20 c21 c22 f21 f22 hwA k0 z0 bA hFg2 hwg2 hgFe hy;have k0:=hv3.blk.cell 0 _ rfl;have hjl1:j+1≤ys2.length:=hjy;have hA:=run_sub_to tRef (P:=Tryz.prog) hv3.fil.row.rd .i64 (j:Int) j rfl (by omega);have hB:=run_sub_from tRef (P:=Tryz.prog) hv3.fil.row.rd .i64 ((j:Int)+1) (j+1) (by omega) hjl1;have rA:=hv3.fil.row.rd.sub 0 j (by omega) (by omega);have rB:=hv3.fil.row.rd.sub (j+1) ys2.length hjl1 (Nat.le_refl _);rw [show (ys2.drop 0).take (j - 0)=ys2.take j from by simp,show entE.sz=3 from rfl] at rA
     rw [show (ys2.drop (j+1)).take (ys2.length - (j+1))=ys2.drop (j+1) from List.take_of_length_le (by simp),show entE.sz=3 from rfl] at rB;generalize subV (.slice (some ⟨gv,0,none⟩) ys2.length cap) 0 j 3=vA at *;generalize subV (.slice (some ⟨gv,0,none⟩) ys2.length cap) (j+1) ys2.length 3=vB at *;have htl:(ys2.take j).length≤1000000:=by rw [List.length_take];omega
     have hdl:(ys2.drop (j+1)).length≤1000000:=by rw [List.length_drop];omega
     have hc1:Hid ((([]:List Ent).length+(ys2.take j).length) * 48≤140737488355328):=by show _≤_;simp only [List.length_nil];omega
     have hc2:Hid ((([]++ys2.take j).length+(ys2.drop (j+1)).length) * 48≤140737488355328):=by show _≤_;simp only [List.nil_append];omega
     have hz:=hv3.datas.sub (del_sub ys2 j);have hwr:IntKind.wrap .i64 ((j:Int)+1)=(j:Int)+1:=by rw [IntKind.wrap_i64];omega
     have bD:=below_drew wA.heap.size wA;clear htl hdl;go_wp2_with fail
     refine wp_region_F (n:=19) (S:=fun w'=>w'.cell? ⟨g,0,none⟩=some (.slice (some ⟨gv,0,none⟩) ys2.length cap)) (by kernel_rfl) ?_;have hHeld:(fun w':World=>w'.cell? ⟨g,0,none⟩=some (.slice (some ⟨gv,0,none⟩) ys2.length cap)) wA.drew:=k0;refine tk ?_ 0 ?_ hHeld ?_;rotate_left
     ·intro w hSw;(try dsimp only at hSw);dsimp only [bare];go_simp<;>with_reducible rfl
     try simp only [lyB,lyP,lyA,lyZ,lyS]
     refine tk ?_ 2 ?_ hHeld ?_;rotate_left
     ·intro w hSw;(try dsimp only at hSw);dsimp only [bare];go_simp<;>with_reducible rfl
     try simp only [lyB,lyP,lyA,lyZ,lyS]
     refine tk ?_ 3 ?_ hHeld ?_;rotate_left
     ·intro w hSw;(try dsimp only at hSw);dsimp only [bare];go_simp<;>with_reducible rfl
     try simp only [lyB,lyP,lyA,lyZ,lyS]
     refine tk ?_ 4 ?_ hHeld ?_;rotate_left
     ·intro w hSw;(try dsimp only at hSw);dsimp only [bare];go_simp<;>with_reducible rfl
     try simp only [lyB,lyP,lyA,lyZ,lyS]
     refine tk ?_ 5 ?_ hHeld ?_;rotate_left
     ·intro w hSw;(try dsimp only at hSw);dsimp only [bare];go_simp<;>with_reducible rfl
     try simp only [lyB,lyP,lyA,lyZ,lyS]
     refine tk ?_ 6 ?_ hHeld ?_;rotate_left
     ·intro w hSw;(try dsimp only at hSw);dsimp only [bare];go_simp<;>with_reducible rfl
     try simp only [lyB,lyP,lyA,lyZ,lyS]
     refine tk ?_ 7 ?_ hHeld ?_;rotate_left
     ·intro w hSw;(try dsimp only at hSw);dsimp only [bare];go_simp<;>with_reducible rfl
     try simp only [lyB,lyP,lyA,lyZ,lyS]
     refine tk ?_ 9 ?_ hHeld ?_;rotate_left
     ·intro w hSw;(try dsimp only at hSw);dsimp only [bare];go_simp<;>with_reducible rfl
     try simp only [lyB,lyP,lyA,lyZ,lyS]
     refine tk ?_ 10 ?_ hHeld ?_;rotate_left
     ·intro w hSw;(try dsimp only at hSw);dsimp only [bare];go_simp<;>with_reducible rfl
     try simp only [lyB,lyP,lyA,lyZ,lyS]
     refine tk ?_ 11 ?_ hHeld ?_;rotate_left
     ·intro w hSw;(try dsimp only at hSw);dsimp only [bare];go_simp<;>with_reducible rfl
     try simp only [lyB,lyP,lyA,lyZ,lyS]
     refine tk ?_ 12 ?_ hHeld ?_;rotate_left
     ·intro w hSw;(try dsimp only at hSw);dsimp only [bare];go_simp<;>with_reducible rfl
     try simp only [lyB,lyP,lyA,lyZ,lyS]
     refine tk ?_ 13 ?_ hHeld ?_;rotate_left
     ·intro w hSw;(try dsimp only at hSw);dsimp only [bare];go_simp<;>with_reducible rfl
     try simp only [lyB,lyP,lyA,lyZ,lyS]
     refine tk ?_ 14 ?_ hHeld ?_;rotate_left
     ·intro w hSw;(try dsimp only at hSw);dsimp only [bare];go_simp<;>with_reducible rfl
     try simp only [lyB,lyP,lyA,lyZ,lyS]
     refine tk ?_ 15 ?_ hHeld ?_;rotate_left
     ·intro w hSw;(try dsimp only at hSw);dsimp only [bare];go_simp<;>with_reducible rfl
     try simp only [lyB,lyP,lyA,lyZ,lyS]
     refine wpAnyF_one 1 _ _ _ rfl (by kernel_rfl) (fun K hK=>?_);have ownE:=OwnR.litAt entE wA.drew #[] 87 [] 0 wA.heap.size wA.drew.heap.size rfl rfl rfl (Nat.zero_le _) bD.size;have bE:=bD.trans ((below_alloc wA.drew (.cells #[] 87)).mono bD.size);dsimp only [bare];go_simp;refine hK _ _ ((hv3.ext bE).blk.cell 0 _ rfl) (fun hHeld=>?_);clear hK K
     try simp only [lyB,lyP,lyA,lyZ,lyS]
     refine wpAnyF_one 8 _ _ _ rfl (by kernel_rfl) (fun K hK=>?_);refine step_appR (E:=entE) (s:=.tmp 37) (y:=.tmp 43) (B:=wA.heap.size) (l:=[]) (m:=ys2.take j) tRef rfl rfl ownE (by simp [Act.eval,Act.put]) (rA.ext bE) (by simp [Act.eval,Act.put]) hc1.out bE.size ?_;intro v8 w8 own8 g8 b8;have bF:=bE.trans b8;refine hK _ _ ((hv3.ext bF).blk.cell 0 _ rfl) (fun hHeld=>?_);clear hK K
     try simp only [lyB,lyP,lyA,lyZ,lyS]
     refine wpAnyF_one 16 _ _ _ rfl (by kernel_rfl) (fun K hK=>?_);refine step_appR (E:=entE) (s:=.tmp 44) (y:=.tmp 51) (B:=wA.heap.size) (l:=[]++ys2.take j) (m:=ys2.drop (j+1)) tRef rfl rfl own8 (by simp [Act.eval,Act.put]) (rB.ext bF) (by simp [Act.eval,Act.put]) hc2.out bF.size ?_;intro v9 w9 own9 g9 b9;have bG:=bF.trans b9;refine hK _ _ ((hv3.ext bG).blk.cell 0 _ rfl) (fun hHeld=>?_);clear hK K
     try simp only [lyB,lyP,lyA,lyZ,lyS]
     refine tk ?_ 17 ?_ hHeld ?_;rotate_left
     ·intro w hSw;(try dsimp only at hSw);dsimp only [bare];go_simp<;>with_reducible rfl
     try simp only [lyB,lyP,lyA,lyZ,lyS]
     refine tk ?_ 18 ?_ hHeld ?_;rotate_left
     ·intro w hSw;(try dsimp only at hSw);dsimp only [bare];go_simp<;>with_reducible rfl
     try simp only [lyB,lyP,lyA,lyZ,lyS]
     have fz:=(hv3.ext bG).blk.frozen 0;have own12:OwnR entE w9 wA.heap.size 87 v9 (ys2.take j++ys2.drop (j+1)):=by have h:=own9;rw [List.nil_append] at h;exact h
     have hres:=hv3.putRow (grown_below bG) (Own.base own12 (Nat.zero_le _)) (.inr (fun n hn=>(OwnR.lt own12 n hn).1)) hz;have hmap:(ys2.take j++ys2.drop (j+1)).map Ent.fil=delD d.fs j:=by
      unfold delD;rw [List.map_append,List.map_take,List.map_drop,Hyd.out]
     have hgl:=hv3.lt g hv3.inG;have hcg:Chg (fun k=>k=g) w9 (w9.setCell ⟨g,0,none⟩ v9):=Chg.setCell (F:=fun k=>k=g) (Chg.refl _ w9) (p:=⟨g,0,none⟩) rfl v9;have hyb:∀ k,y.v.ownBlock=some k→k<wA.heap.size:=fun k hk=>hv3.lt k (hyF k hk);have hd9:OwnB (w9.setCell ⟨g,0,none⟩ v9) 0 5 y.v y.data:=hcg.ownB (hdat3.ext bG) fun k hk e=>hyg (by rw [hk,e]);have kf9:Blk (w9.setCell ⟨g,0,none⟩ v9) gF #[.string y.name,.slice y.p y.data.length y.c,.int .i64 (y.kept:Int)] 87:=hcg.blk (kf.ext bG) hgF;have hap:∀ z ∈ ys2.take j++ys2.drop (j+1),Apart y.v z.v:=fun z hz=>by
      rcases List.mem_append.1 hz with h | h
      ·obtain ⟨q,hq,rfl⟩:=List.getElem_of_mem h;rw [List.length_take] at hq;rw [List.getElem_take, ←Hy.out];exact (List.pairwise_iff_getElem.1 hv3.fil.apart q j (by omega) hjy (by omega)).symm
      ·obtain ⟨q,hq,rfl⟩:=List.getElem_of_mem h;rw [List.length_drop] at hq;rw [List.getElem_drop, ←Hy.out];exact List.pairwise_iff_getElem.1 hv3.fil.apart j (j+1+q) hjy (by omega) (by omega)
     have hres1:=RefV.less (G:=fun k=>FF F wA (w9.setCell ⟨g,0,none⟩ v9) k∧y.v.ownBlock≠some k) hres.1 ⟨hres.1.inG,hyg⟩ (fun k hk=>⟨hres.1.fil.inV k hk,fun e=>by have h1:=(OwnR.lt own12 k hk).1;have h2:=hyb k e;omega⟩) (fun z hz k hk=>⟨hres.1.fil.inF z hz k hk,fun e=>hap z hz k e hk⟩) (fun k hk=>hres.1.lt k hk.1);have chB:Chg F w (w9.setCell ⟨g,0,none⟩ v9):=ch3.step hres.2;have hs9:wA.heap.size≤(w9.setCell ⟨g,0,none⟩ v9).heap.size:=hres.2.size;have r12:=own12.rd;have hLl:(ys2.take j++ys2.drop (j+1)).length≤1000000:=by rw [List.length_append,List.length_take,List.length_drop];omega
     clear hres own9 own12 hz hap hcg;generalize ys2.take j++ys2.drop (j+1)=L at *;obtain ⟨p9,c9,rfl⟩:=r12.shape;have Hres1:=Lib.hid hres1;have ChB:=Lib.hid chB;have Hd9:=Lib.hid hd9;have Kf9:=Lib.hid kf9;have Hmap:=Lib.hid hmap;have Hs9:=Lib.hid hs9;clear hres1 chB r12 hd9 kf9 hmap hs9 hdat3 kf hv3;refine wpAnyF_end (none) (Op.store 75 (Operand.tmp 54) (Operand.tmp 52)) 0 rfl (by kernel_rfl) (by kernel_rfl) (fun K hK=>?_);dsimp only [bare];go_simp;refine hK _ _ ?_;clear hK K
     try simp only [lyB,lyP,lyA,lyZ,lyS]
     have hv5:=Hres1.out;have ch5:=ChB.out;have hd5:=Hd9.out;have kf5:=Kf9.out;have hs5:=Hs9.out;clear Hres1 ChB Hd9 Kf9 Hs9 fz;generalize (World.setCell w9 ⟨g,0,none⟩ (.slice p9 L.length c9))=w5 at *;have hat5:=refAt (d:={ d1 with fs:=delD d.fs j }) sn w5 ⟨_,_,hv5,Hmap.out⟩;rw [show ({ d1 with fs:=delD d.fs j }:Dk).fs=delD d.fs j from rfl] at hat5;clear bD bE bF bG g8 g9 b8 b9 k0;go_upto_if 59 with ((go_at_call 51;refine hat5.mono ?_;rintro e w3 ⟨rfl,rfl⟩))
     go_cut [9] from 55 (fun q wi=>q=.int .i64 (i:Int)∧∃ (v:Value) (zs:List Ent) (F1:Nat→Prop),RefV wi F1 g v (.int .i64 d1.left) (.bool d1.off) zs∧Hid (zs.map Ent.fil=mD (delD d.fs j) sn)∧Hid (∀ k,F1 k→FF F w wi k∧y.v.ownBlock≠some k∧k≠gF)∧Chg F w wi∧OwnB wi 0 5 y.v y.data∧Blk wi gF #[.string y.name,.slice y.p y.data.length y.c,.int .i64 (y.kept:Int)] 87)
     case first =>
      have hgF5:∀ k,FF F w5 w5 k→True:=fun _ _=>trivial
      by_cases hx:idxD (delD d.fs j) sn<0
      ·have hmk:=refMake hv5 hLl sn;have hpe:=hput.out.1 hx;have Hpe:Hid (((posD (L.map Ent.fil) sn:Nat):Int)=(i:Int)):=by show _=_;rw [Hmap.out];exact hpe
       rw [Hpe.out] at hmk;have Hx:=Lib.hid hx;clear hpe hgF5;generalize hxx:idxD (delD d.fs j) sn=x at *;go_wp2_with fail
       refine hmk.mono ?_;rintro e w6 ⟨rfl,⟨v6,hX⟩,hc⟩;have hcF:Chg F w w6:=ch5.trans hc fun k hk hG=>by
        rcases hG.1 with h | h
        ·exact h
        ·have:=hwg;omega
       have hd6:OwnB w6 0 5 y.v y.data:=hc.ownB hd5 fun k hk hG=>hG.2 hk;have kf6:Blk w6 gF #[.string y.name,.slice y.p y.data.length y.c,.int .i64 (y.kept:Int)] 87:=hc.blk kf5 fun hG=>by
        rcases hG.1 with h | h
        ·have:=hFg gF h;omega
        ·omega
       have hm6:Hid ((insE L ⟨sn,none,0,[],0⟩).map Ent.fil=mD (delD d.fs j) sn):=by show _=_;rw [insE_fil,Hmap.out,Hmd.out,if_pos Hx.out];rfl
       have hF6:Hid (∀ k,FF (fun k=>FF F wA w5 k∧y.v.ownBlock≠some k) w5 w6 k→FF F w w6 k∧y.v.ownBlock≠some k∧k≠gF):=fun k hk=>by
        have h6:=hc.size
        rcases hk with ⟨hk1,hk2⟩ | hk
        ·rcases hk1 with h | h
         ·exact ⟨.inl h,hk2,by have:=hFg k h;omega⟩
         ·exact ⟨.inr ⟨by omega,by omega⟩,hk2,by omega⟩
        ·exact ⟨.inr ⟨by omega,hk.2⟩,fun e=>(by have:=hyb k e;omega),by omega⟩
       clear hmk hc ch5 hv5 hd5 kf5;go_wp2_with fail
       go_meet
       exact ⟨rfl,_,_,_,hX,hm6,hF6,hcF,hd6,kf6⟩
      ·have hxe:=hput.out.2 (by omega);have hm6:Hid (L.map Ent.fil=mD (delD d.fs j) sn):=by show _=_;rw [Hmap.out,Hmd.out,if_neg (by omega)]
       have hF6:Hid (∀ k,(FF F wA w5 k∧y.v.ownBlock≠some k)→FF F w w5 k∧y.v.ownBlock≠some k∧k≠gF):=fun k hk=>by
        rcases hk.1 with h | h
        ·exact ⟨.inl h,hk.2,by have:=hFg k h;omega⟩
        ·exact ⟨.inr ⟨by omega,h.2⟩,hk.2,by omega⟩
       have Hv5:=Lib.hid hv5;have Hd5:=Lib.hid hd5;have Kf5:=Lib.hid kf5;have Ch5:=Lib.hid ch5;rw [hxe];have hi0:¬ (i:Int)<0:=by omega
       clear hxe hx hat5 hv5 hd5 kf5 ch5 hgF5;go_wp2_with fail
       go_meet
       exact ⟨rfl,_,_,_,Hv5.out,hm6,hF6,Ch5.out,Hd5.out,Kf5.out⟩
     case rest =>
      clear hv5 hd5 kf5 ch5 hat5 hs5;obtain ⟨rfl,v6,zs,F1,hv6,hmz,hF1,ch6,hd6,kf6⟩:=hcut;obtain ⟨w6,hw6⟩:∃ z,z=wc:=⟨_,rfl⟩;subst hw6;have hzl:=congrArg List.length hmz.out;rw [List.length_map] at hzl;have hiz:i<zs.length:=by rw [hzl];exact hi
      have hzs:zs.length≤1000000:=by rw [hzl];have h1:=Hml.out;have h2:=Hdl.out;omega
      obtain ⟨gz,cz,rfl,_,_,hz1,hz2⟩:=hv6.fil.row.head (by omega);unfold maxLen at hz2;have k0:=hv6.blk.cell 0 _ rfl;have e1:=kf6.cell 1 _ rfl;have e2:=kf6.cell 2 _ rfl;have hii:(i:Int)<(zs.length:Int):=by omega
      have hi0:(0:Int)≤(i:Int):=by omega
      have fr1:=hv6.fil.row.frozenAt rfl (i * 3+1);have fr2:=hv6.fil.row.frozenAt rfl (i * 3+2);have e1':w6.cell? ⟨gF,1,none⟩=some (.slice y.p y.data.length y.c):=e1;have e2':w6.cell? ⟨gF,2,none⟩=some (.int .i64 (y.kept:Int)):=e2;clear e1 e2;have c61:w6.cell? ⟨gz,i * 3+1,none⟩=some (.slice zs[i].p zs[i].data.length zs[i].c):=hv6.fil.row.cellAt rfl i hiz 1 (by decide);have c62:w6.cell? ⟨gz,i * 3+2,none⟩=some (.int .i64 ((zs[i]).kept:Int)):=hv6.fil.row.cellAt rfl i hiz 2 (by decide);obtain ⟨x,hxz⟩:∃ x,zs[i]=x:=⟨_,rfl⟩;rw [hxz] at c61 c62
      have hst1:=hv6.fil.row.drew.stored rfl i hiz 1 (by decide) (.slice y.p y.data.length y.c) rfl ⟨x.name,y.p,y.c,y.data,x.kept⟩ (by rw [hxz];rfl);have hst2:=hst1.1.stored (by simp) i (by simpa using hiz) 2 (by decide) (.int .i64 (y.kept:Int)) rfl ⟨x.name,y.p,y.c,y.data,y.kept⟩ (by rw [List.getElem_set_self];rfl);rw [List.set_set] at hst2;have hgz1:F1 gz:=hv6.fil.inV gz rfl;have hgFz:gz≠gF:=(hF1.out gz hgz1).2.2;have hyz:y.v.ownBlock≠some gz:=fun e=>(hF1.out gz hgz1).2.1 e;have hv6':=hv6.drew.mono (G:=FF F w w6) (fun k hk=>(hF1.out k hk).1) (FF_lt hlt ch6.size)
      have hset:=RefV.setEntA hv6' hiz (y:=⟨x.name,y.p,y.c,y.data,y.kept⟩) (by exact hd6) (fun b hb=>.inl (hyF b hb)) (by exact hyg) (by exact hyz) (fun z hz b hb e=>(hF1.out b (hv6.fil.inF z hz b e)).2.1 hb) hst2.1 (grown_tr hst1.2 hst2.2);have hch:Chg F w _:=ch6.drew.trans hset.2 fun k hk hG=>by
       rcases hG with h | h
       ·exact h
       ·omega
      have hres:(zs.set i ⟨x.name,y.p,y.c,y.data,y.kept⟩).map Ent.fil=renR sn d.fs j:=by
       rw [map_set_fil,hmz.out,Hren.out y.fil (by rw [List.getElem?_eq_getElem hj];exact congrArg some (hfj.out hj)),Hix.out,Int.toNat_natCast,updD_at hi];have e2:(mD (delD d.fs j) sn)[i]=x.fil:=by rw [←hxz];simp only [←hmz.out,List.getElem_map]
       rw [e2];rfl
      have hfin:UndR w F g { d1 with fs:=renR sn d.fs j } _:=⟨(hset.1.mono (G:=FF F w _) (fun k hk=>by
       rcases hk with h | h
       ·exact .inl h
       ·exact .inr ⟨h.1,Nat.lt_of_lt_of_le h.2 hset.2.size⟩) (FF_lt hlt hch.size)).atFs hres,hch⟩
      have Hfin:=Lib.hid hfin;have kg1:=hv6.drew.blk.grown hst1.2 (fun e=>hv6.vg e);have kf1:Blk _ gF #[.string y.name,.slice y.p y.data.length y.c,.int .i64 (y.kept:Int)] 87:=kf6.drew.grown hst1.2 (fun e=>hgFz (Option.some.inj e));have m0:=kg1.cell 0 _ rfl;have m1:=kf1.cell 1 _ rfl;have m2:=kf1.cell 2 _ rfl;have fr3:=hst1.1.frozenAt (by simp) (i * 3+2);have bD:=below_drew w6.heap.size w6;have hsl:Hid ((zs.set i ⟨x.name,y.p,y.c,y.data,x.kept⟩).length=zs.length):=List.length_set;clear hset hch hfin hres hst1 hst2 kg1 kf1 hv6 hv6' kf6 hd6 ch6 hxz;go_wp2_with fail
      refine wp_region_F (n:=19) (S:=fun w'=>w'.cell? ⟨g,0,none⟩=some (.slice (some ⟨gz,0,none⟩) zs.length cz)∧w'.cell? ⟨gF,1,none⟩=some (.slice y.p y.data.length y.c)∧w'.cell? ⟨gF,2,none⟩=some (.int .i64 (y.kept:Int))) (by kernel_rfl) ?_;have hHeld:(fun w':World=>w'.cell? ⟨g,0,none⟩=some (.slice (some ⟨gz,0,none⟩) zs.length cz)∧w'.cell? ⟨gF,1,none⟩=some (.slice y.p y.data.length y.c)∧w'.cell? ⟨gF,2,none⟩=some (.int .i64 (y.kept:Int))) w6.drew:=⟨k0,e1',e2'⟩;refine tk ?_ 0 ?_ hHeld ?_;rotate_left
      ·rintro w ⟨_,_,_⟩;dsimp only [bare];go_simp<;>with_reducible rfl
      try simp only [lyB,lyP,lyA,lyZ,lyS]
      refine tk ?_ 1 ?_ hHeld ?_;rotate_left
      ·rintro w ⟨_,_,_⟩;dsimp only [bare];go_simp<;>with_reducible rfl
      try simp only [lyB,lyP,lyA,lyZ,lyS]
      refine tk ?_ 2 ?_ hHeld ?_;rotate_left
      ·rintro w ⟨_,_,_⟩;dsimp only [bare];go_simp<;>with_reducible rfl
      try simp only [lyB,lyP,lyA,lyZ,lyS]
      refine tk ?_ 3 ?_ hHeld ?_;rotate_left
      ·rintro w ⟨_,_,_⟩;dsimp only [bare];go_simp<;>with_reducible rfl
      try simp only [lyB,lyP,lyA,lyZ,lyS]
      refine tk ?_ 4 ?_ hHeld ?_;rotate_left
      ·rintro w ⟨_,_,_⟩;dsimp only [bare];go_simp<;>with_reducible rfl
      try simp only [lyB,lyP,lyA,lyZ,lyS]
      refine tk ?_ 5 ?_ hHeld ?_;rotate_left
      ·rintro w ⟨_,_,_⟩;dsimp only [bare];go_simp<;>with_reducible rfl
      try simp only [lyB,lyP,lyA,lyZ,lyS]
      refine tk ?_ 6 ?_ hHeld ?_;rotate_left
      ·rintro w ⟨_,_,_⟩;dsimp only [bare];go_simp<;>with_reducible rfl
      try simp only [lyB,lyP,lyA,lyZ,lyS]
      refine tk ?_ 7 ?_ hHeld ?_;rotate_left
      ·rintro w ⟨_,_,_⟩;dsimp only [bare];go_simp<;>with_reducible rfl
      try simp only [lyB,lyP,lyA,lyZ,lyS]
      refine tk ?_ 8 ?_ hHeld ?_;rotate_left
      ·rintro w ⟨_,_,_⟩;dsimp only [bare];go_simp<;>with_reducible rfl
      try simp only [lyB,lyP,lyA,lyZ,lyS]
      refine tk ?_ 9 ?_ hHeld ?_;rotate_left
      ·rintro w ⟨_,_,_⟩;dsimp only [bare];go_simp<;>with_reducible rfl
      try simp only [lyB,lyP,lyA,lyZ,lyS]
      refine tk ?_ 10 ?_ hHeld ?_;rotate_left
      ·rintro w ⟨_,_,_⟩;dsimp only [bare];go_simp<;>with_reducible rfl
      try simp only [lyB,lyP,lyA,lyZ,lyS]
      refine tk ?_ 11 ?_ hHeld ?_;rotate_left
      ·rintro w ⟨_,_,_⟩;dsimp only [bare];go_simp<;>with_reducible rfl
      try simp only [lyB,lyP,lyA,lyZ,lyS]
      refine tk ?_ 12 ?_ hHeld ?_;rotate_left
      ·rintro w ⟨_,_,_⟩;dsimp only [bare];go_simp<;>with_reducible rfl
      try simp only [lyB,lyP,lyA,lyZ,lyS]
      refine tk ?_ 13 ?_ hHeld ?_;rotate_left
      ·rintro w ⟨_,_,_⟩;dsimp only [bare];go_simp<;>with_reducible rfl
      try simp only [lyB,lyP,lyA,lyZ,lyS]
      refine tk ?_ 14 ?_ hHeld ?_;rotate_left
      ·rintro w ⟨_,_,_⟩;dsimp only [bare];go_simp<;>with_reducible rfl
      try simp only [lyB,lyP,lyA,lyZ,lyS]
      refine tk ?_ 15 ?_ hHeld ?_;rotate_left
      ·rintro w ⟨_,_,_⟩;dsimp only [bare];go_simp<;>with_reducible rfl
      try simp only [lyB,lyP,lyA,lyZ,lyS]
      refine wpAnyF_one 16 _ _ _ rfl (by kernel_rfl) (fun K hK=>?_);dsimp only [bare];go_simp;refine hK _ _ ⟨m0,m1,m2⟩ (fun hHeld=>?_);clear hK K
      try simp only [lyB,lyP,lyA,lyZ,lyS]
      refine tk ?_ 17 ?_ hHeld ?_;rotate_left
      ·rintro w ⟨_,_,_⟩;dsimp only [bare];go_simp<;>with_reducible rfl
      try simp only [lyB,lyP,lyA,lyZ,lyS]
      refine tk ?_ 18 ?_ hHeld ?_;rotate_left
      ·rintro w ⟨_,_,_⟩;dsimp only [bare];go_simp<;>with_reducible rfl
      try simp only [lyB,lyP,lyA,lyZ,lyS]
      refine wpAnyF_end (none) (Op.store 3 (Operand.tmp 80) (Operand.tmp 76)) 0 rfl (by kernel_rfl) (by kernel_rfl) (fun K hK=>?_);dsimp only [bare];go_simp;refine hK _ _ ?_;clear hK K
      try simp only [lyB,lyP,lyA,lyZ,lyS]
      go_wp2_with fail
      go_ret
      exact ⟨by rw [Hs.out]<;>rfl,by rw [Hs.out];exact Hfin.out⟩
end
section
open Go Go.RowKit BigFrame Go.PlainAid
theorem take_eq_succ {l m:List UInt8} {k:Nat} (h:l.take k=m.take k) (hl:k<l.length) (hm:k<m.length) (he:l[k]=m[k]):l.take (k+1)=m.take (k+1):=by
 rw [List.take_succ_eq_append_getElem hl,List.take_succ_eq_append_getElem hm,h,he]
theorem sameStrs (v u:Value) (l:List ByteArray) (w:World) (hv:Rd strE w v l) (hu:Rd strE w u l) :
 Calls Tryz.prog 41 #[v,u] w fun e w'=>e=.returned (.bool true)∧∃ n,w'=w.drewN n:=by
 obtain ⟨p,cap,rfl,h1,h2,h3,h4⟩:=hv.form;obtain ⟨q,dap,rfl,g1,g2,g3,g4⟩:=hu.form;clear hv hu h3 g3;unfold maxLen at h2 g2;go_enter Tryz.func41,Tryz.ntmps41
 go_wp2
 go_loopw [5] (fun i wr=>∃ k:Nat,k≤l.length∧i=.int .i64 k∧∃ n,wr=w.drewN n) (fun i _=>l.length - (intOf i).toNat)
 case atStart=>exact ⟨0,by omega,rfl,0,rfl⟩
 case round =>
  obtain ⟨k,hk,rfl,n,rfl⟩:=hrel
  by_cases hlt:k<l.length
  ·obtain ⟨b,off,rfl,hc⟩:=h4 (by omega);obtain ⟨b',off',rfl,hc'⟩:=g4 (by omega);have c1:w.cell? ⟨b,off+k,none⟩=some (.string l[k]):=by
    have h:=hc k hlt 0 (by decide);rw [show off+(k * strE.sz+0)=off+k from by show off+(k * 1+0)=_;omega] at h;exact h
   have c2:w.cell? ⟨b',off'+k,none⟩=some (.string l[k]):=by
    have h:=hc' k hlt 0 (by decide);rw [show off'+(k * strE.sz+0)=off'+k from by show off'+(k * 1+0)=_;omega] at h;exact h
   clear h4 g4 hc hc';have hi1:(k:Int)<(l.length:Int):=by omega
   go_wp2
   go_quiet (fail)
   go_wp2
   go_roundw
   case rel=>exact ⟨k+1,by omega,by go_num,_,by first | rfl | exact World.drewN_drewN _ _ _⟩
   case measure=>simp [intOf];omega
  ·go_wp2
   go_ret
   exact ⟨rfl,n,rfl⟩
theorem sameBytes (v u:Value) (l m:List UInt8) (w:World) (hv:Bytes w v l) (hu:Bytes w u m) :
 Calls Tryz.prog 67 #[v,u] w fun e w'=>e=.returned (.bool (decide (l=m)))∧∃ n,w'=w.drewN n:=by
 obtain ⟨p,cap,rfl,h1,h2,h3,h4⟩:=hv.form;obtain ⟨q,dap,rfl,g1,g2,g3,g4⟩:=hu.form;clear hv hu h3 g3;unfold maxLen at h2 g2
 by_cases hlen:l.length=m.length
 ·go_enter Tryz.func67,Tryz.ntmps67
  have Hl:=Lib.hid hlen;have hb:((l.length:Int) !=(m.length:Int))=false:=by simp [hlen]
  clear hlen;go_wp2
  go_loopw [5] (fun i wr=>∃ k:Nat,k≤l.length∧i=.int .i64 k∧Hid (l.take k=m.take k)∧∃ n,wr=w.drewN n) (fun i _=>l.length - (intOf i).toNat)
  case atStart=>exact ⟨0,by omega,rfl,rfl,0,rfl⟩
  case round =>
   obtain ⟨k,hk,rfl,ht,n,rfl⟩:=hrel
   by_cases hlt:k<l.length
   ·have hlt':k<m.length:=by have:=Hl.out;omega
    obtain ⟨b,off,rfl,hc⟩:=h4 (by omega);obtain ⟨b',off',rfl,hc'⟩:=g4 (by omega);replace hc:=hc k hlt;replace hc':=hc' k hlt';clear h4 g4;have hi1:(k:Int)<(l.length:Int):=by omega
    have hi2:(k:Int)<(m.length:Int):=by omega
    go_wp2
    go_quiet (fail)
    go_wp2
    ·go_ret
     have hne:((l[k].toNat:Int) !=(m[k].toNat:Int))=true:=by assumption
     refine ⟨?_,_,World.drewN_drewN _ _ _⟩;rw [decide_eq_false (fun h=>by subst h;simp at hne)];rfl
    ·go_roundw
     case rel =>
      have hne:((l[k].toNat:Int) !=(m[k].toNat:Int))=false:=by assumption
      exact ⟨k+1,by omega,by go_num,take_eq_succ ht hlt hlt' (by simp at hne;exact UInt8.toNat_inj.1 (by omega)),_,by first | rfl | exact World.drewN_drewN _ _ _⟩
     case measure=>simp [intOf];omega
   ·go_wp2
    go_ret
    refine ⟨?_,n,rfl⟩;have e:l.take k=m.take k:=ht;rw [List.take_of_length_le (by omega),List.take_of_length_le (by have:=Hl.out;omega)] at e;rw [decide_eq_true e];rfl
 ·go_enter Tryz.func67,Tryz.ntmps67
  have hb:((l.length:Int) !=(m.length:Int))=true:=by simp;omega
  go_wp2
  go_ret
  exact ⟨by rw [decide_eq_false (fun h=>hlen (by rw [h]))];rfl,0,rfl⟩

end
section
open Go Go.RowKit BigFrame Go.PlainAid
attribute [local go_sem] After.same
end
end Go.Proofs.YtgpgcnmnfnnkjaaGreatDoor
