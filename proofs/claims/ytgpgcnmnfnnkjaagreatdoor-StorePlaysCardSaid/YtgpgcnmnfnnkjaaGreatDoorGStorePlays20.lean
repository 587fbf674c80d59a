import Derived.Test.YtgpgcnmnfnnkjaaGreatDoorGStorePlays15
import Derived.Laws.BitsAllLaws
set_option linter.unusedVariables false
set_option linter.unusedSimpArgs false
set_option maxRecDepth 100000
set_option maxHeartbeats 16000000
namespace Go.Proofs.YtgpgcnmnfnnkjaaGreatDoor
section
open Go Go.RowKit BigFrame Go.PlainAid
attribute [local go_sem] After.same
theorem Blk.grow {w:World} {g:Nat} {cs:Array Value} {t:TypeId} (h:Blk w g cs t) (i:Nat) (v:Value):w.grownBy (w.setCell ⟨g,i,none⟩ v) (some g):=by
 unfold Blk at h;rw [setCell_eq_setRow w g i cs t (0,0) v h];exact grown_setRow w g _
theorem xor255_u8 (x:UInt8):bits .xor .u8 (x.toNat:Int) 255=((x ^^^ 255).toNat:Int):=by
 have h:(255:Int)=(((255:UInt8).toNat:Nat):Int):=rfl;rw [h,u8_xor_nat _ _ x.toNat_lt (255:UInt8).toNat_lt,UInt8.toNat_xor]
attribute [local go_sem] xor255_u8
def TornTo (w:World) (pick:Int) (y:Ent) (e:Ending) (w':World):Prop :=
 ∃ z:Ent,e=.returned (.agg #[.string z.name,.slice z.p z.data.length z.c,.int .i64 (z.kept:Int)])∧z.fil=tornD pick y.fil∧OwnB w' w.heap.size 5 z.v z.data∧Below w.heap.size w w'
def tornB (P u k:Nat) (l:List UInt8):List UInt8:=if 0<P % (u+1)∧P / (u+1) % 2=1 then flipLast (l.take (k+P % (u+1))) else l.take (k+P % (u+1))
theorem tornD_eq {pick:Int} {f:Fil} {u:Nat} (h:f.data.length=f.kept+u):tornD pick f=⟨f.name,tornB pick.toNat u f.kept f.data,(tornB pick.toNat u f.kept f.data).length⟩:=by
 unfold tornD tornB;have e:f.data.length - f.kept=u:=by omega
 simp only [e]
theorem flipLast_at {l:List UInt8} {m:Nat} (h:l.length=m+1):flipLast l=l.set m (l[m] ^^^ 255):=by
 unfold flipLast;rw [show l.length - 1=m from by omega,List.getElem?_eq_getElem (by omega)]
theorem dskTorn (y:Ent) (pick:Int) (w:World) (hdat:OwnB w 0 5 y.v y.data) (hk:y.kept≤y.data.length) (hl:y.data.length≤4194304) (hpk:pick≤9223372036854775807) :
 Calls Tryz.prog 74 #[.agg #[.string y.name,.slice y.p y.data.length y.c,.int .i64 (y.kept:Int)],.int .i64 pick] w (TornTo w pick y):=by
 obtain ⟨u,hu⟩:∃ u,y.data.length=y.kept+u:=⟨y.data.length - y.kept,by omega⟩;have HT:=Lib.hid (tornD_eq (pick:=pick) (f:=y.fil) hu);have he5:(y.data.length:Int) - (y.kept:Int)=(u:Int):=by omega
 have E5:=Lib.hid he5;have hul:(u:Int)≤4194304:=by omega
 have Hu:=Lib.hid hu;clear hu he5;have hb1:=below_alloc w (.cells #[.string y.name,.slice y.p y.data.length y.c,.int .i64 (y.kept:Int)] 96);have hb2:=below_alloc (w.alloc (.cells #[.string y.name,.slice y.p y.data.length y.c,.int .i64 (y.kept:Int)] 96)) (.cells #[.string ⟨#[]⟩,.slice none 0 0,.int .i64 0] 96);have kb:=(Blk.new w #[.string y.name,.slice y.p y.data.length y.c,.int .i64 (y.kept:Int)] 96).ext hb2;have kr:=Blk.new (w.alloc (.cells #[.string y.name,.slice y.p y.data.length y.c,.int .i64 (y.kept:Int)] 96)) #[.string ⟨#[]⟩,.slice none 0 0,.int .i64 0] 96
 have hs2:(w.alloc (.cells #[.string y.name,.slice y.p y.data.length y.c,.int .i64 (y.kept:Int)] 96)).heap.size=w.heap.size+1:=by simp
 rw [hs2] at kr;have hbb:=hb1.trans (hb2.mono hb1.size);clear hb1 hb2 hs2;have h0P:(0:Int)≤(pick.toNat:Int):=by omega
 obtain ⟨P,hP⟩:∃ P,pick.toNat=P:=⟨_,rfl⟩;rw [hP] at HT h0P;have HP:=Lib.hid hP;clear hP;go_enter Tryz.func74,Tryz.ntmps74
 go_upto_region 1 with (fail)
 generalize hw1:(w.alloc (.cells #[.string y.name,.slice y.p y.data.length y.c,.int .i64 (y.kept:Int)] 96)).alloc (.cells #[.string { data:=#[] },.slice none 0 0,.int .i64 0] 96)=w1 at *;clear hw1;have e5:=E5.out;have b1:=kb.cell 1 _ rfl;have b2:=kb.cell 2 _ rfl;go_upto_region 2 with (fail)
 clear b1 b2 e5
 go_cut [1] from 13 (fun q wi=>q=.int .i64 (P:Int)∧wi=w1)
 case first =>
  by_cases hneg:pick<0
  ·have hq:P=0:=by rw [←HP.out];omega
   have Hq:=Lib.hid hq;clear hq;go_wp2_with fail
   go_meet
   exact ⟨by rw [Hq.out];rfl,rfl⟩
  ·have hq:pick=(P:Int):=by rw [←HP.out];omega
   have Hq:=Lib.hid hq;clear hq;go_wp2_with fail
   go_meet
   exact ⟨by rw [Hq.out],rfl⟩
 case rest =>
 obtain ⟨rfl,rfl⟩:=hcut;have hPm:(P:Int)≤9223372036854775807:=by rw [←HP.out];omega
 have hu0:(0:Int)≤(u:Int):=by omega
 generalize wc=w1 at *;go_upto_region 3 with (fail)
 go_cut [6] from 15 (fun q wi=>q=.int .i64 ((P % (u+1):Nat):Int)∧wi=w1)
 case first =>
  have e6:(P:Int) % ((u:Int)+1)=((P % (u+1):Nat):Int):=by rw [Int.natCast_emod];rfl
  have E6:=Lib.hid e6;clear e6;go_wp2_with fail
  go_meet
  refine ⟨?_,rfl⟩;rw [←E6.out]
 case rest =>
 obtain ⟨rfl,rfl⟩:=hcut;generalize wc=w1 at *;obtain ⟨st,hst⟩:∃ st,P % (u+1)=st:=⟨_,rfl⟩;obtain ⟨Q,hQ⟩:∃ Q,P / (u+1)=Q:=⟨_,rfl⟩;have hstu:st≤u:=by have h:P % (u+1)<u+1:=Nat.mod_lt _ (Nat.succ_pos _);rw [hst] at h;omega
 have hle:y.kept+st≤y.data.length:=by have:=Hu.out;omega
 obtain ⟨L,hL⟩:∃ L,y.data.take (y.kept+st)=L:=⟨_,rfl⟩;have hLl:L.length=y.kept+st:=by rw [←hL,List.length_take];omega
 have hB:tornB P u y.kept y.data=if 0<st∧Q % 2=1 then flipLast L else L:=by unfold tornB;rw [hst,hQ,hL]
 have HB:=Lib.hid hB;have hQP:(Q:Int)≤(P:Int):=by rw [←hQ];exact Int.ofNat_le.2 (Nat.div_le_self _ _)
 have hQ0:(0:Int)≤(Q:Int):=by omega
 have hQm:(Q:Int)≤9223372036854775807:=by omega
 have hqe:(P:Int) / ((u:Int)+1)=(Q:Int):=by rw [←hQ,Int.natCast_ediv];rfl
 have Hqe:=Lib.hid hqe;rw [hst];obtain ⟨yp,yc,hyv,hsub,hown⟩:=cutV (hdat.ext hbb) hle;rw [hL] at hown;have hyv2:Value.slice y.p y.data.length y.c=.slice yp y.data.length yc:=hyv;have hslc:∀ W,(Instr.slice 26 (.slice yp y.data.length yc) none (some (.int .i64 ((y.kept:Int)+(st:Int)))) none).run Tryz.prog W=.ok (.slice yp (y.kept+st) yc) W:=fun W=>by
  have h:=run_sub_to tU8 (P:=Tryz.prog) (hdat.ext hbb).bytes .i64 ((y.kept:Int)+(st:Int)) (y.kept+st) (by omega) hle W;rw [hsub] at h;rw [←hyv2];exact h
 have hbyt:Bytes w1 (.slice yp (y.kept+st) yc) L:=hown.bytes;have hkst:(y.kept:Int)+(st:Int)≤4194304:=by omega
 have hst0:(0:Int)≤(st:Int):=by omega
 have hk0:(0:Int)≤(y.kept:Int):=by omega
 rw [hyv2] at kb;have b1:=kb.cell 1 _ rfl;have b2:=kb.cell 2 _ rfl;have hNlt:=kb.lt;have hRlt:=kr.lt;have hLm:L.length≤4194304:=by omega
 have HLl:=Lib.hid hLl;clear hst hQ hL hB hqe hyv hsub hyv2 hown hLl;go_upto_region 5 with ((at_builtin;refine wpList_app tU8 rfl rfl (Own.nil _ w1.heap.size _ _) rfl hbyt rfl (by omega) (Nat.le_refl _) ?_;intro v6 w6 own6 g6 b6;(replace own6:=OwnB.of (l:=L) own6 (by simp) (by simp));(obtain ⟨p6,c6,hv6⟩:=own6.bytes.shape);(have kb6:=kb.grown g6 (by simp [Value.ownBlock]));(have kr6:=kr.grown g6 (by simp [Value.ownBlock]));(have b61:=kb6.cell 1 _ rfl);(have f61:=kb6.frozen 1);subst hv6))
 have kb7:=kb6.set 1 (.slice p6 L.length c6);have gr7:=kb6.grow 1 (.slice p6 L.length c6);have kr7:=kr6.grown gr7 (fun e=>by have:=Option.some.inj e;omega);have hpN:(Value.slice p6 L.length c6).ownBlock≠some w.heap.size:=fun e=>by have:=(own6.lt _ e).1;omega
 have hpR:(Value.slice p6 L.length c6).ownBlock≠some (w.heap.size+1):=fun e=>by have:=(own6.lt _ e).1;omega
 have own7:OwnB (w6.setCell ⟨w.heap.size,1,none⟩ (.slice p6 L.length c6)) w1.heap.size 5 (.slice p6 L.length c6) L:=Own.grown own6 gr7 (.inr hpN);have hb7:=(hbb.trans (b6.mono hbb.size)).trans (below_grown gr7 (by have:=hbb.size;have:=b6.size;omega) (fun k h=>by cases h;exact Nat.le_refl _));have hdone:OwnB (w6.setCell ⟨w.heap.size,1,none⟩ (.slice p6 L.length c6)) w1.heap.size 5 (.slice p6 L.length c6) L∧True:=⟨own7,trivial⟩;clear own6 g6 b6 kb6 kr6 b61 f61 gr7 kb kr hbyt hslc b1 b2 hdone;generalize hw7:w6.setCell ⟨w.heap.size,1,none⟩ (.slice p6 L.length c6)=w7 at *;clear hw7
 simp only [lyA,lyZ,lyS] at kb7
 go_cut [37] from 28 (fun q wi=>q=.bool (decide (0<st∧Q % 2=1))∧wi=w7)
 case first =>
  by_cases h0:0<st
  ·have hi:(0:Int)<(st:Int):=by omega
   have e8:=Hqe.out
   by_cases hq:Q % 2=1
   ·have hq2:(((Q:Int) % 2) == 1)=true:=by simp;omega
    have hd:=Lib.hid (decide_eq_true (And.intro h0 hq));clear hq h0;go_wp2_with fail
    go_meet
    exact ⟨by rw [hd.out],rfl⟩
   ·have hq2:(((Q:Int) % 2) == 1)=false:=by simp;omega
    have hd:=Lib.hid (decide_eq_false (fun h:0<st∧Q % 2=1=>hq h.2));clear hq h0;go_wp2_with fail
    go_meet
    exact ⟨by rw [hd.out],rfl⟩
  ·have hi:¬ (0:Int)<(st:Int):=by omega
   have hd:=Lib.hid (decide_eq_false (fun h:0<st∧Q % 2=1=>h0 h.1));clear h0;go_wp2_with fail
   go_meet
   exact ⟨by rw [hd.out],rfl⟩
 case rest =>
 obtain ⟨rfl,rfl⟩:=hcut;generalize wc=w7 at *;go_upto_if 37 with (fail)
 go_cut [] from 37 (fun wi=>∃ L',L'.length=L.length∧tornB P u y.kept y.data=L'∧OwnB wi w1.heap.size 5 (.slice p6 L.length c6) L'∧Blk wi w.heap.size #[.string y.name,.slice p6 L.length c6,.int .i64 (y.kept:Int)] 96∧Blk wi (w.heap.size+1) #[.string ⟨#[]⟩,.slice none 0 0,.int .i64 0] 96∧Below w.heap.size w wi)
 case first =>
  by_cases hc:0<st∧Q % 2=1
  ·have hB:=HB.out;rw [if_pos hc] at hB;rw [decide_eq_true hc];obtain ⟨m,hm⟩:∃ m,L.length=m+1:=⟨L.length - 1,by have:=HLl.out;omega⟩;rw [flipLast_at hm] at hB;have HB2:=Lib.hid hB;have hmL:m<L.length:=by omega
   obtain ⟨g6,cc,hsh,hg1,hg2,hg3,hg4⟩:=own7.head (by omega);simp only [Value.slice.injEq,true_and] at hsh
   obtain ⟨rfl,rfl⟩:=hsh;have hst8:=own7.stored rfl m (L[m] ^^^ 255);have cm:=own7.cellAt rfl m hmL;have fm:=own7.frozenAt rfl m;have hgN:(some g6:Option Nat)≠some w.heap.size:=hpN;have hgR:(some g6:Option Nat)≠some (w.heap.size+1):=hpR;have kb8:=kb7.grown hst8.2 hgN;have kr8:=kr7.grown hst8.2 hgR;have hb8:=hb7.trans (below_grown hst8.2 hb7.size (fun k h=>by cases h;have:=hbb.size;omega));have b71:=kb7.cell 1 _ rfl;rw [show (#[Value.string y.name,.slice (some ⟨g6,0,none⟩) L.length c6,.int .i64 (y.kept:Int)]:Array Value)[1]=.slice (some ⟨g6,0,none⟩) (m+1) c6 from by rw [←hm];rfl] at b71
   have Hall:=Lib.hid (And.intro hst8.1 (And.intro kb8 (And.intro kr8 hb8)));have Hm:=Lib.hid hm;have hm0:(0:Int)≤(m:Int):=by omega
   have hmb:(m:Int)≤4194304:=by omega
   generalize L[m]=x at *;clear hst8 kb8 kr8 hb8 kb7 kr7 own7 hm hB hc hmL hg3;go_wp2_with fail
   go_meet
   exact ⟨_,List.length_set,HB2.out,Hall.out.1,Hall.out.2.1,Hall.out.2.2.1,Hall.out.2.2.2⟩
  ·have hB:=HB.out;rw [if_neg hc] at hB;rw [decide_eq_false hc];have HB2:=Lib.hid hB;clear hB hc;go_wp2_with fail
   go_meet
   exact ⟨L,rfl,HB2.out,own7,kb7,kr7,hb7⟩
 case rest =>
 obtain ⟨L',hL',hB,own8,kb8,kr8,hb8⟩:=hcut;obtain ⟨w8,hw8⟩:∃ z,z=wc:=⟨_,rfl⟩;subst hw8;have HB2:=Lib.hid hB;have HL':=Lib.hid hL';have b81:=kb8.cell 1 _ rfl;have b80:=kb8.cell 0 _ rfl;have b82:=kb8.cell 2 _ rfl;have f82:=kb8.frozen 2;have kb9:=kb8.set 2 (.int .i64 (L.length:Int));have gb9:=kb8.grow 2 (.int .i64 (L.length:Int));have kr9:=kr8.grown gb9 (fun e=>by have:=Option.some.inj e;omega);have own9:OwnB _ w1.heap.size 5 (.slice p6 L.length c6) L':=Own.grown own8 gb9 (.inr hpN);have hb9:=hb8.trans (below_grown gb9 hb8.size (fun k h=>by cases h;exact Nat.le_refl _));have d0:=kb9.cell 0 _ rfl
 have d1:=kb9.cell 1 _ rfl;have d2:=kb9.cell 2 _ rfl;have r0:=kr9.cell 0 _ rfl;have r1:=kr9.cell 1 _ rfl;have r2:=kr9.cell 2 _ rfl;have s0:=kr9.frozen 0;have s1:=kr9.frozen 1;have s2:=kr9.frozen 2;have kf:=((kr9.set 0 (.string y.name)).set 1 (.slice p6 L.length c6)).set 2 (.int .i64 (L.length:Int));have gf:=grown_tr (grown_tr (kr9.grow 0 (.string y.name)) ((kr9.set 0 (.string y.name)).grow 1 (.slice p6 L.length c6))) (((kr9.set 0 (.string y.name)).set 1 (.slice p6 L.length c6)).grow 2 (.int .i64 (L.length:Int)))
 have ownf:OwnB _ w1.heap.size 5 (.slice p6 L.length c6) L':=Own.grown own9 gf (.inr hpR);have hbf:=hb9.trans (below_grown gf (by have:=hb9.size;omega) (fun k h=>by cases h;exact Nat.le_succ _));have y0:=kf.cell 0 _ rfl;have y1:=kf.cell 1 _ rfl;have y2:=kf.cell 2 _ rfl;have Hend:=Lib.hid (And.intro ownf hbf);have hws:=hbb.size;clear hB hL' own8 own9 ownf hbf kb9 gb9 kr9 gf kf hb8 hb9 own7 kb7 kr7 hb7;go_wp2_with fail
 refine bodyPost_ret (v:=.agg #[.string y.name,.slice p6 L.length c6,.int .i64 (L.length:Int)]) (by simp [results,Tryz.results74,go_sem,y0,y1,y2]) rfl ?_;refine ⟨⟨y.name,p6,c6,L',L'.length⟩,by rw [HL'.out],?_,?_,Hend.out.2⟩
 ·rw [HT.out];show (⟨_,_,_⟩:Fil)=⟨_,_,_⟩;rw [show (y.fil).kept=y.kept from rfl,show (y.fil).data=y.data from rfl,HB2.out];rfl
 ·have h:=Own.base Hend.out.1 hws;unfold Ent.v;rw [HL'.out];exact h
end
section
open Go Go.RowKit BigFrame Go.PlainAid
attribute [local go_sem] After.same
def pk (picks:List Int) (k:Nat):Int:=(picks[k]?).getD 0
theorem crashTo_length (picks:List Int):∀ (l:List Fil) (i:Nat),(crashTo picks l i).length=l.length
 | [],_=>rfl
 | _::r,i=>by rw [crashTo,List.length_cons,List.length_cons,crashTo_length picks r (i+1)]
theorem crashTo_get (picks:List Int):∀ (l:List Fil) (i k:Nat) (h:k<l.length) (h':k<(crashTo picks l i).length),(crashTo picks l i)[k]=tornD (pk picks (i+k)) l[k]
 | [],_,k,h,_=>by simp at h
 | f::r,i,0,_,_=>rfl
 | f::r,i,k+1,h,h'=>by
  have h1:=crashTo_get picks r (i+1) k (by simpa using h) (by rw [crashTo_length];simpa using h);simp only [crashTo,List.getElem_cons_succ]
  rw [h1,show i+1+k=i+(k+1) from by omega]
def crS (picks:List Int) (l:List Fil) (k:Nat):List Fil:=(crashTo picks l 0).take k++l.drop k
theorem crS_zero (picks:List Int) (l:List Fil):crS picks l 0=l:=by unfold crS;simp
theorem crS_end (picks:List Int) (l:List Fil) {k:Nat} (h:l.length≤k):crS picks l k=crashTo picks l 0:=by
 unfold crS;rw [List.take_of_length_le (by rw [crashTo_length];exact h),List.drop_of_length_le h,List.append_nil]
theorem crS_at (picks:List Int) (l:List Fil) {k:Nat} (h:k<l.length) (h':k<(crS picks l k).length):(crS picks l k)[k]=l[k]:=by
 have h0:(crS picks l k)[k]?=l[k]?:=by
  unfold crS;rw [List.getElem?_append_right (by rw [List.length_take,crashTo_length];omega)];simp [List.length_take,crashTo_length,Nat.min_eq_left (Nat.le_of_lt h)]
 rw [List.getElem?_eq_getElem h',List.getElem?_eq_getElem h] at h0;exact Option.some.inj h0
theorem crS_step (picks:List Int) (l:List Fil) {k:Nat} (h:k<l.length):(crS picks l k).set k (tornD (pk picks k) l[k])=crS picks l (k+1):=by
 unfold crS;have hl:(List.take k (crashTo picks l 0)).length=k:=by rw [List.length_take,crashTo_length];omega
 have h2:k<(crashTo picks l 0).length:=by rw [crashTo_length];exact h
 rw [List.set_append,if_neg (by omega),hl,Nat.sub_self,List.drop_eq_getElem_cons h,List.set_cons_zero,List.take_succ_eq_append_getElem h2,List.append_assoc,crashTo_get picks l 0 k h h2,Nat.zero_add]
 rfl
theorem crS_length (picks:List Int) (l:List Fil) {k:Nat} (h:k≤l.length):(crS picks l k).length=l.length:=by
 unfold crS;rw [List.length_append,List.length_take,List.length_drop,crashTo_length];omega
theorem dskCrash {F:Nat→Prop} {g:Nat} {d:Dk} {w:World} (hd:DiskAt w F g d) (ok:OkD d) (hfs:d.fs.length≤1000000) (vp:Value) (picks:List Int) (hp:Rd intsE w vp picks) (hpF:picks≠[]→∀ k,vp.ownBlock=some k→¬ F k) (hpm:∀ x ∈ picks,x≤9223372036854775807) :
 Calls Tryz.prog 28 #[.pointer (some ⟨g,0,none⟩),vp] w fun e w'=>e=.returned (.tuple #[])∧Und w F g (crashD d picks) w':=by
 have hlt:=hd.lt;obtain ⟨pp,cp,rfl,hp1,hp2,_,_⟩:=hp.form;unfold maxLen at hp2;obtain ⟨v,ys,hv,hy⟩:=hd.open_;have hys:ys.length≤1000000:=by rw [DiskV.len_eq hy];exact hfs
 have s1:=hv.setCell 1 (.bool false) rfl;have s2:=s1.1.setCell 2 (.bool false) rfl;have s3:=s2.1.setCell 3 (.int .i64 0) rfl;have c1:=hv.blk.cell 1 _ rfl;have c2:=hv.blk.cell 2 _ rfl;have c3:=hv.blk.cell 3 _ rfl;have f1:=hv.blk.frozen 1;have f2:=hv.blk.frozen 2;have f3:=hv.blk.frozen 3;have chA:Chg F w (((w.setCell ⟨g,1,none⟩ (.bool false)).setCell ⟨g,2,none⟩ (.bool false)).setCell ⟨g,3,none⟩ (.int .i64 0)):=((s1.2.step s2.2).step s3.2).mono fun k _ hk=>by rw [hk];exact hv.inG
 have hvA:DiskV _ (FF F w (((w.setCell ⟨g,1,none⟩ (.bool false)).setCell ⟨g,2,none⟩ (.bool false)).setCell ⟨g,3,none⟩ (.int .i64 0))) g v (.bool false) (.bool false) (.int .i64 0) ys:=s3.1.ff chA.size;have HvA:=Lib.hid hvA;have ChA:=Lib.hid chA;have Hp:=Lib.hid hp;have HpF:=Lib.hid hpF;have Hpm:=Lib.hid hpm;have Hy:=Lib.hid hy;have hok1:=ok.tot;have Hok2:=Lib.hid ok.kept;have k0:=s3.1.blk.cell 0 _ rfl;obtain ⟨pv,cap,rfl,hq1,hq2,_,_⟩:=hv.fil.row.rd.form;unfold maxLen at hq2;clear s1 s2 s3 hvA chA hv hy hp hpF hpm hd ok;go_enter Tryz.func28,Tryz.ntmps28
 go_wp2_with fail
 clear c1 c2 c3 f1 f2 f3 k0;generalize hwA:((w.setCell ⟨g,1,none⟩ (.bool false)).setCell ⟨g,2,none⟩ (.bool false)).setCell ⟨g,3,none⟩ (.int .i64 0)=wA at *;clear hwA
 go_loopw [4,5,20] (fun _ _ i wr=>∃ (k:Nat) (zs:List Ent),k≤ys.length∧i=.int .i64 k∧DiskV wr (FF F w wr) g (.slice pv ys.length cap) (.bool false) (.bool false) (.int .i64 0) zs∧Hid (zs.map Ent.fil=crS picks d.fs k)∧Hid (zs.length=ys.length)∧Chg F w wr) (fun _ _ i _=>ys.length - (intOf i).toNat)
 case atStart=>exact ⟨0,ys,by omega,rfl,HvA.out,by show _=_;rw [crS_zero];exact Hy.out,rfl,ChA.out⟩
 case round =>
  obtain ⟨k,zs,hk,rfl,hv,hzf,hzl,ch⟩:=hrel;have hk0:(0:Int)≤(k:Int):=by omega
  by_cases hlt2:k<ys.length
  ·have hi:(k:Int)<(ys.length:Int):=by omega
   have hkz:k<zs.length:=by have:=hzl.out;omega
   have hkd:k<d.fs.length:=by rw [←DiskV.len_eq Hy.out];exact hlt2
   obtain ⟨gv,cap',hsh,_,hgv,hq3,hq4⟩:=hv.fil.row.head (by omega);rw [hzl.out] at hsh;simp only [Value.slice.injEq,true_and] at hsh
   obtain ⟨rfl,rfl⟩:=hsh;clear hq3 hq4;have hmem:zs[k] ∈ zs:=List.getElem_mem hkz;have hdat:=hv.fil.data _ hmem;have row0:=hv.fil.row;have c0:wr.cell? ⟨gv,k * 3,none⟩=some (.string zs[k].name):=row0.cellAt hzl.out.symm k hkz 0 (by decide);have c1:wr.cell? ⟨gv,k * 3+1,none⟩=some (.slice zs[k].p zs[k].data.length zs[k].c):=row0.cellAt hzl.out.symm k hkz 1 (by decide);have c2:wr.cell? ⟨gv,k * 3+2,none⟩=some (.int .i64 ((zs[k]).kept:Int)):=row0.cellAt hzl.out.symm k hkz 2 (by decide);have k0:=hv.blk.cell 0 _ rfl;have hfz:(zs[k]).fil=d.fs[k]:=by
    have h1:k<(crS picks d.fs k).length:=by rw [crS_length _ _ (Nat.le_of_lt hkd)];exact hkd
    have h2:=crS_at picks d.fs hkd h1;rw [←h2];simp only [←hzf.out,List.getElem_map]
   have hkl:(zs[k]).kept≤(zs[k]).data.length:=by
    have h1:=Hok2.out (zs[k]).fil (by rw [hfz];exact List.getElem_mem hkd);exact h1
   have hdl:(zs[k]).data.length≤4194304:=by
    have h1:=totD_mem (l:=d.fs) (f:=(zs[k]).fil) (by rw [hfz];exact List.getElem_mem hkd);have h2:(zs[k]).fil.data.length=(zs[k]).data.length:=rfl;omega
   have hstp:=Lib.hid (crS_step picks d.fs hkd);have Hv:=Lib.hid hv;have hmemL:Hid (∀ y,zs[k]=y→OwnB wr 0 5 zs[k].v zs[k].data):=fun _ _=>hdat;obtain ⟨y,hy⟩:∃ y,zs[k]=y:=⟨_,rfl⟩;have HY:=Lib.hid hy;rw [hy] at hdat c0 c1 c2 hfz hkl hdl;have Hfz:=Lib.hid hfz;have hgl:=hv.lt g hv.inG;clear hy hmem hfz hv hmemL row0
   by_cases hpk:k<picks.length
   ·have hpi:(k:Int)<(picks.length:Int):=by omega
    obtain ⟨pb,po,rfl⟩:=Rd.blk Hp.out (by omega);have hcp:wr.cell? ⟨pb,po+k,none⟩=some (.int .i64 picks[k]):=by
     have h1:Rd intsE wr (.slice (some ⟨pb,po,none⟩) picks.length cp) picks:=ch.cells Hp.out (HpF.out (fun e=>by rw [e] at hpk;simp at hpk));have h2:=h1.at_ hpk 0 (by decide);have h3:po+(k * intsE.sz+0)=po+k:=by show po+(k * 1+0)=_;omega
     rw [h3] at h2;exact h2
    have hpm:=Hpm.out _ (List.getElem_mem hpk);have hpe:pk picks k=picks[k]:=by unfold pk;rw [List.getElem?_eq_getElem hpk];rfl
    have Hpe:=Lib.hid hpe;clear hpe;generalize picks[k]=pick at *;go_upto_region 7 with (fail)
    refine wp_region_F (n:=15) (S:=fun w'=>w'.cell? ⟨g,0,none⟩=some (.slice (some ⟨gv,0,none⟩) ys.length cap)∧(w'.cell? ⟨gv,k * 3,none⟩=some (.string y.name)∧w'.cell? ⟨gv,k * 3+1,none⟩=some (.slice y.p y.data.length y.c)∧w'.cell? ⟨gv,k * 3+2,none⟩=some (.int .i64 (y.kept:Int)))) (by kernel_rfl) ?_;have hHeld:(fun w':World=>w'.cell? ⟨g,0,none⟩=some (.slice (some ⟨gv,0,none⟩) ys.length cap)∧(w'.cell? ⟨gv,k * 3,none⟩=some (.string y.name)∧w'.cell? ⟨gv,k * 3+1,none⟩=some (.slice y.p y.data.length y.c)∧w'.cell? ⟨gv,k * 3+2,none⟩=some (.int .i64 (y.kept:Int)))) wr.drew:=⟨k0,c0,c1,c2⟩
    refine tk ?_ 0 ?_ hHeld ?_;rotate_left
    ·rintro w ⟨_,_,_,_⟩;dsimp only [bare];go_simp<;>with_reducible rfl
    try simp only [lyB,lyP,lyA,lyZ,lyS]
    refine tk ?_ 1 ?_ hHeld ?_;rotate_left
    ·rintro w ⟨_,_,_,_⟩;dsimp only [bare];go_simp<;>with_reducible rfl
    try simp only [lyB,lyP,lyA,lyZ,lyS]
    refine tk ?_ 2 ?_ hHeld ?_;rotate_left
    ·rintro w ⟨_,_,_,_⟩;dsimp only [bare];go_simp<;>with_reducible rfl
    try simp only [lyB,lyP,lyA,lyZ,lyS]
    refine tk ?_ 3 ?_ hHeld ?_;rotate_left
    ·rintro w ⟨_,_,_,_⟩;dsimp only [bare];go_simp<;>with_reducible rfl
    try simp only [lyB,lyP,lyA,lyZ,lyS]
    refine tk ?_ 4 ?_ hHeld ?_;rotate_left
    ·rintro w ⟨_,_,_,_⟩;dsimp only [bare];go_simp<;>with_reducible rfl
    try simp only [lyB,lyP,lyA,lyZ,lyS]
    refine tk ?_ 5 ?_ hHeld ?_;rotate_left
    ·rintro w ⟨_,_,_,_⟩;dsimp only [bare];go_simp<;>with_reducible rfl
    try simp only [lyB,lyP,lyA,lyZ,lyS]
    refine tk ?_ 6 ?_ hHeld ?_;rotate_left
    ·rintro w ⟨_,_,_,_⟩;dsimp only [bare];go_simp<;>with_reducible rfl
    try simp only [lyB,lyP,lyA,lyZ,lyS]
    refine tk ?_ 7 ?_ hHeld ?_;rotate_left
    ·rintro w ⟨_,_,_,_⟩;dsimp only [bare];go_simp<;>with_reducible rfl
    try simp only [lyB,lyP,lyA,lyZ,lyS]
    refine tk ?_ 8 ?_ hHeld ?_;rotate_left
    ·rintro w ⟨_,_,_,_⟩;dsimp only [bare];go_simp<;>with_reducible rfl
    try simp only [lyB,lyP,lyA,lyZ,lyS]
    refine tk ?_ 9 ?_ hHeld ?_;rotate_left
    ·rintro w ⟨_,_,_,_⟩;dsimp only [bare];go_simp<;>with_reducible rfl
    try simp only [lyB,lyP,lyA,lyZ,lyS]
    refine tk ?_ 10 ?_ hHeld ?_;rotate_left
    ·rintro w ⟨_,_,_,_⟩;dsimp only [bare];go_simp<;>with_reducible rfl
    try simp only [lyB,lyP,lyA,lyZ,lyS]
    refine tk ?_ 11 ?_ hHeld ?_;rotate_left
    ·rintro w ⟨_,_,_,_⟩;dsimp only [bare];go_simp<;>with_reducible rfl
    try simp only [lyB,lyP,lyA,lyZ,lyS]
    refine tk ?_ 12 ?_ hHeld ?_;rotate_left
    ·rintro w ⟨_,_,_,_⟩;dsimp only [bare];go_simp<;>with_reducible rfl
    try simp only [lyB,lyP,lyA,lyZ,lyS]
    refine wpAnyF_one 13 _ _ _ rfl (by kernel_rfl) (fun K hK=>?_);dsimp only [bare];go_simp;refine (dskTorn y pick wr.drew hdat hkl hdl hpm).mono ?_;rintro e w7 ⟨z,rfl,hzt,ownz,bz⟩;dsimp only;have bz0:Below wr.heap.size wr w7:=(below_drew wr.heap.size wr).trans bz;have hv7:=Hv.out.ext bz0;have row7:=hv7.fil.row;have d0:w7.cell? ⟨gv,k * 3,none⟩=some (.string y.name):=(bz0.cell (p:=⟨gv,k * 3,none⟩) hgv).trans c0;have d1:w7.cell? ⟨gv,k * 3+1,none⟩=some (.slice y.p y.data.length y.c):=(bz0.cell (p:=⟨gv,k * 3+1,none⟩) hgv).trans c1
    have d2:w7.cell? ⟨gv,k * 3+2,none⟩=some (.int .i64 (y.kept:Int)):=(bz0.cell (p:=⟨gv,k * 3+2,none⟩) hgv).trans c2;have e0:w7.cell? ⟨g,0,none⟩=some (.slice (some ⟨gv,0,none⟩) ys.length cap):=hv7.blk.cell 0 _ rfl;have hput:=row7.put hzl.out.symm k hkz z;have hset:=Hv.out.setEnt (n:=ys.length) (w1:=w7) hkz (Chg.of_below bz0) (ownz.base (Nat.zero_le _)) (.inr fun n hn=>(ownz.lt n hn).1) hput.1 hput.2;have hfin:=DiskV.seqU hset hlt ch;have hmap:(zs.set k z).map Ent.fil=crS picks d.fs (k+1):=by rw [map_set_fil,hzf.out,hzt,Hfz.out, ←Hpe.out];exact hstp.out
    have Hfin:=Lib.hid hfin;have Hmap:=Lib.hid hmap;have g0:=row7.frozenAt hzl.out.symm (k * 3);have g1:=row7.frozenAt hzl.out.symm (k * 3+1);have g2:=row7.frozenAt hzl.out.symm (k * 3+2);clear hput hset hfin hmap hv7 row7;refine hK _ _ ⟨e0,d0,d1,d2⟩ (fun hHeld=>?_);clear hK K
    try simp only [lyB,lyP,lyA,lyZ,lyS]
    refine tk ?_ 14 ?_ hHeld ?_;rotate_left
    ·rintro w ⟨_,_,_,_⟩;dsimp only [bare];go_simp<;>with_reducible rfl
    try simp only [lyB,lyP,lyA,lyZ,lyS]
    refine wpAnyF_end (none) (Op.store 96 (Operand.tmp 45) (Operand.tmp 44)) 0 rfl (by kernel_rfl) (by kernel_rfl) (fun K hK=>?_);dsimp only [bare];go_simp;refine hK _ _ ?_;clear hK K
    try simp only [lyB,lyP,lyA,lyZ,lyS]
    go_wp2_with fail
    go_roundw
    case rel=>first | exact ⟨k+1,zs.set k z,by omega,by go_num,Hfin.out.1,Hmap.out,by show _=_;rw [List.length_set];exact hzl.out,Hfin.out.2⟩ | ((repeat apply Exists.intro);exact ⟨⟨k+1,zs.set k z,by omega,by go_num,Hfin.out.1,Hmap.out,by show _=_;rw [List.length_set];exact hzl.out,Hfin.out.2⟩,rfl⟩)
    case measure=>simp [intOf];omega
   ·have hpi:¬ (k:Int)<(picks.length:Int):=by omega
    have hpe:pk picks k=0:=by unfold pk;rw [List.getElem?_eq_none (by omega)];rfl
    have Hpe:=Lib.hid hpe;have hpm:(0:Int)≤9223372036854775807:=by decide
    clear hpe;go_upto_region 7 with (fail)
    refine wp_region_F (n:=15) (S:=fun w'=>w'.cell? ⟨g,0,none⟩=some (.slice (some ⟨gv,0,none⟩) ys.length cap)∧(w'.cell? ⟨gv,k * 3,none⟩=some (.string y.name)∧w'.cell? ⟨gv,k * 3+1,none⟩=some (.slice y.p y.data.length y.c)∧w'.cell? ⟨gv,k * 3+2,none⟩=some (.int .i64 (y.kept:Int)))) (by kernel_rfl) ?_;have hHeld:(fun w':World=>w'.cell? ⟨g,0,none⟩=some (.slice (some ⟨gv,0,none⟩) ys.length cap)∧(w'.cell? ⟨gv,k * 3,none⟩=some (.string y.name)∧w'.cell? ⟨gv,k * 3+1,none⟩=some (.slice y.p y.data.length y.c)∧w'.cell? ⟨gv,k * 3+2,none⟩=some (.int .i64 (y.kept:Int)))) wr.drew:=⟨k0,c0,c1,c2⟩
    refine tk ?_ 0 ?_ hHeld ?_;rotate_left
    ·rintro w ⟨_,_,_,_⟩;dsimp only [bare];go_simp<;>with_reducible rfl
    try simp only [lyB,lyP,lyA,lyZ,lyS]
    refine tk ?_ 1 ?_ hHeld ?_;rotate_left
    ·rintro w ⟨_,_,_,_⟩;dsimp only [bare];go_simp<;>with_reducible rfl
    try simp only [lyB,lyP,lyA,lyZ,lyS]
    refine tk ?_ 2 ?_ hHeld ?_;rotate_left
    ·rintro w ⟨_,_,_,_⟩;dsimp only [bare];go_simp<;>with_reducible rfl
    try simp only [lyB,lyP,lyA,lyZ,lyS]
    refine tk ?_ 3 ?_ hHeld ?_;rotate_left
    ·rintro w ⟨_,_,_,_⟩;dsimp only [bare];go_simp<;>with_reducible rfl
    try simp only [lyB,lyP,lyA,lyZ,lyS]
    refine tk ?_ 4 ?_ hHeld ?_;rotate_left
    ·rintro w ⟨_,_,_,_⟩;dsimp only [bare];go_simp<;>with_reducible rfl
    try simp only [lyB,lyP,lyA,lyZ,lyS]
    refine tk ?_ 5 ?_ hHeld ?_;rotate_left
    ·rintro w ⟨_,_,_,_⟩;dsimp only [bare];go_simp<;>with_reducible rfl
    try simp only [lyB,lyP,lyA,lyZ,lyS]
    refine tk ?_ 6 ?_ hHeld ?_;rotate_left
    ·rintro w ⟨_,_,_,_⟩;dsimp only [bare];go_simp<;>with_reducible rfl
    try simp only [lyB,lyP,lyA,lyZ,lyS]
    refine tk ?_ 7 ?_ hHeld ?_;rotate_left
    ·rintro w ⟨_,_,_,_⟩;dsimp only [bare];go_simp<;>with_reducible rfl
    try simp only [lyB,lyP,lyA,lyZ,lyS]
    refine tk ?_ 8 ?_ hHeld ?_;rotate_left
    ·rintro w ⟨_,_,_,_⟩;dsimp only [bare];go_simp<;>with_reducible rfl
    try simp only [lyB,lyP,lyA,lyZ,lyS]
    refine tk ?_ 9 ?_ hHeld ?_;rotate_left
    ·rintro w ⟨_,_,_,_⟩;dsimp only [bare];go_simp<;>with_reducible rfl
    try simp only [lyB,lyP,lyA,lyZ,lyS]
    refine tk ?_ 10 ?_ hHeld ?_;rotate_left
    ·rintro w ⟨_,_,_,_⟩;dsimp only [bare];go_simp<;>with_reducible rfl
    try simp only [lyB,lyP,lyA,lyZ,lyS]
    refine tk ?_ 11 ?_ hHeld ?_;rotate_left
    ·rintro w ⟨_,_,_,_⟩;dsimp only [bare];go_simp<;>with_reducible rfl
    try simp only [lyB,lyP,lyA,lyZ,lyS]
    refine tk ?_ 12 ?_ hHeld ?_;rotate_left
    ·rintro w ⟨_,_,_,_⟩;dsimp only [bare];go_simp<;>with_reducible rfl
    try simp only [lyB,lyP,lyA,lyZ,lyS]
    refine wpAnyF_one 13 _ _ _ rfl (by kernel_rfl) (fun K hK=>?_);dsimp only [bare];go_simp;refine (dskTorn y 0 wr.drew hdat hkl hdl hpm).mono ?_;rintro e w7 ⟨z,rfl,hzt,ownz,bz⟩;dsimp only;have bz0:Below wr.heap.size wr w7:=(below_drew wr.heap.size wr).trans bz;have hv7:=Hv.out.ext bz0;have row7:=hv7.fil.row;have d0:w7.cell? ⟨gv,k * 3,none⟩=some (.string y.name):=(bz0.cell (p:=⟨gv,k * 3,none⟩) hgv).trans c0;have d1:w7.cell? ⟨gv,k * 3+1,none⟩=some (.slice y.p y.data.length y.c):=(bz0.cell (p:=⟨gv,k * 3+1,none⟩) hgv).trans c1
    have d2:w7.cell? ⟨gv,k * 3+2,none⟩=some (.int .i64 (y.kept:Int)):=(bz0.cell (p:=⟨gv,k * 3+2,none⟩) hgv).trans c2;have e0:w7.cell? ⟨g,0,none⟩=some (.slice (some ⟨gv,0,none⟩) ys.length cap):=hv7.blk.cell 0 _ rfl;have hput:=row7.put hzl.out.symm k hkz z;have hset:=Hv.out.setEnt (n:=ys.length) (w1:=w7) hkz (Chg.of_below bz0) (ownz.base (Nat.zero_le _)) (.inr fun n hn=>(ownz.lt n hn).1) hput.1 hput.2;have hfin:=DiskV.seqU hset hlt ch;have hmap:(zs.set k z).map Ent.fil=crS picks d.fs (k+1):=by rw [map_set_fil,hzf.out,hzt,Hfz.out, ←Hpe.out];exact hstp.out
    have Hfin:=Lib.hid hfin;have Hmap:=Lib.hid hmap;have g0:=row7.frozenAt hzl.out.symm (k * 3);have g1:=row7.frozenAt hzl.out.symm (k * 3+1);have g2:=row7.frozenAt hzl.out.symm (k * 3+2);clear hput hset hfin hmap hv7 row7;refine hK _ _ ⟨e0,d0,d1,d2⟩ (fun hHeld=>?_);clear hK K
    try simp only [lyB,lyP,lyA,lyZ,lyS]
    refine tk ?_ 14 ?_ hHeld ?_;rotate_left
    ·rintro w ⟨_,_,_,_⟩;dsimp only [bare];go_simp<;>with_reducible rfl
    try simp only [lyB,lyP,lyA,lyZ,lyS]
    refine wpAnyF_end (none) (Op.store 96 (Operand.tmp 45) (Operand.tmp 44)) 0 rfl (by kernel_rfl) (by kernel_rfl) (fun K hK=>?_);dsimp only [bare];go_simp;refine hK _ _ ?_;clear hK K
    try simp only [lyB,lyP,lyA,lyZ,lyS]
    go_wp2_with fail
    go_roundw
    case rel=>first | exact ⟨k+1,zs.set k z,by omega,by go_num,Hfin.out.1,Hmap.out,by show _=_;rw [List.length_set];exact hzl.out,Hfin.out.2⟩ | ((repeat apply Exists.intro);exact ⟨⟨k+1,zs.set k z,by omega,by go_num,Hfin.out.1,Hmap.out,by show _=_;rw [List.length_set];exact hzl.out,Hfin.out.2⟩,rfl⟩)
    case measure=>simp [intOf];omega
  ·have hi:¬ (k:Int)<(ys.length:Int):=by omega
   have hend:=crS_end picks d.fs (k:=k) (by rw [←DiskV.len_eq Hy.out];omega);have hz:zs.map Ent.fil=(crashD d picks).fs:=by rw [hzf.out,hend];rfl
   have Hz:=Lib.hid hz;clear hend hz;go_wp2_with fail
   go_end0
   exact ⟨rfl,hv.at_ (d:=crashD d picks) Hz.out,ch⟩
end
section
open Go Go.RowKit BigFrame Go.PlainAid
def Gx (w0:World) (X:Nat→Prop) (k:Nat):Prop:=w0.heap.size≤k∧¬ X k
def DwS (w0:World) (X:Nat→Prop) (g:Nat) (d:Dk) (w:World):Prop:=(∃ F,DiskAt w F g d∧∀ k,F k→Gx w0 X k)∧(∀ k,X k→k<w.heap.size)
def okD (d:Dk):Bool:=decide (d.fs.length≤999999) && (decide (totD d.fs≤4194304) && ((d.fs.all fun f=>decide (f.kept≤f.data.length)) && (decide (-1≤d.left) && decide (d.left≤9223372036854775807))))
theorem okD_spec {d:Dk} (h:okD d=true):OkD d∧d.fs.length≤999999:=by
 unfold okD at h;simp only [Bool.and_eq_true,decide_eq_true_eq,List.all_eq_true] at h
 exact ⟨⟨by omega,h.2.1,h.2.2.1,h.2.2.2.1,h.2.2.2.2⟩,h.1⟩
theorem okD_of {d:Dk} (h:OkD d) (h2:d.fs.length≤999999):okD d=true:=by
 unfold okD;simp only [Bool.and_eq_true,decide_eq_true_eq,List.all_eq_true]
 exact ⟨h2,h.tot,h.kept,h.lo,h.hi⟩
section
variable {w0 w w':World} {X Y:Nat→Prop} {g:Nat} {d d':Dk}
theorem DwS.size (h:DwS w0 X g d w):w0.heap.size≤w.heap.size:=by
 obtain ⟨⟨F,h1,h2⟩,_⟩:=h;have:=(h2 g h1.inG).1;have:=h1.lt g h1.inG;omega
theorem DwS.und {F:Nat→Prop} (h1:DiskAt w F g d) (h2:∀ k,F k→Gx w0 X k) (hx:∀ k,X k→k<w.heap.size) (h:Und w F g d' w'):DwS w0 X g d' w'∧Chg (Gx w0 X) w w':=by
 have hs:w0.heap.size≤w.heap.size:=DwS.size ⟨⟨F,h1,h2⟩,hx⟩;refine ⟨⟨⟨_,h.1,fun k hk=>?_⟩,fun k hk=>Nat.lt_of_lt_of_le (hx k hk) h.2.size⟩,h.2.mono fun k _ hk=>h2 k hk⟩
 rcases hk with hk | hk
 ·exact h2 k hk
 ·exact ⟨by omega,fun hX=>by have:=hx k hX;omega⟩
theorem DwS.ext (h:DwS w0 X g d w) (hb:Below w.heap.size w w'):DwS w0 X g d w':=by
 obtain ⟨⟨F,h1,h2⟩,h3⟩:=h;exact ⟨⟨F,h1.ext hb,h2⟩,fun k hk=>Nat.lt_of_lt_of_le (h3 k hk) hb.size⟩
theorem DwS.drew (h:DwS w0 X g d w):DwS w0 X g d w.drew:=h.ext (below_drew _ _)
theorem DwS.mono (h:DwS w0 X g d w) (hy:∀ k,Y k→X k):DwS w0 Y g d w:=by
 obtain ⟨⟨F,h1,h2⟩,h3⟩:=h;exact ⟨⟨F,h1,fun k hk=>⟨(h2 k hk).1,fun hY=>(h2 k hk).2 (hy k hY)⟩⟩,fun k hk=>h3 k (hy k hk)⟩
theorem DwS.more (h:DwS w0 X g d w) (hb:Below w.heap.size w w') (hy:∀ k,Y k→X k∨(w.heap.size≤k∧k<w'.heap.size)):DwS w0 Y g d w':=by
 obtain ⟨⟨F,h1,h2⟩,h3⟩:=h;refine ⟨⟨F,h1.ext hb,fun k hk=>⟨(h2 k hk).1,fun hY=>?_⟩⟩,fun k hk=>?_⟩
 ·rcases hy k hY with h | h
  ·exact (h2 k hk).2 h
  ·have:=h1.lt k hk;omega
 ·rcases hy k hk with h | h
  ·exact Nat.lt_of_lt_of_le (h3 k h) hb.size
  ·exact h.2
theorem DwS.alloc (h:DwS w0 X g d w) (o:Obj):DwS w0 (fun k=>X k∨k=w.heap.size) g d (w.alloc o) :=
 h.more (below_alloc _ _) fun k hk=>hk.imp id fun e=>by subst e;exact ⟨Nat.le_refl _,by simp⟩
theorem Chg.gx (h:Chg (Gx w0 X) w w') (hs:w0.heap.size≤w.heap.size):Below w0.heap.size w w':=h.below (fun _ hk=>hk.1) hs
theorem Chg.gxO {v:Value} (hv:∀ k,v.ownBlock=some k→k<w0.heap.size∨X k):∀ k,v.ownBlock=some k→¬ Gx w0 X k:=fun k hk h=>by
 rcases hv k hk with h1 | h1
 ·have:=h.1;omega
 ·exact h.2 h1

theorem lNew (w0 w:World) (hs:w0.heap.size≤w.heap.size) (X:Nat→Prop) (hx:∀ k,X k→k<w.heap.size):Calls Tryz.prog 16 #[] w fun e w'=>e=.returned (.pointer (some ⟨w.heap.size,0,none⟩))∧DwS w0 X w.heap.size dk0 w'∧Below w.heap.size w w' :=
 (dskNew w).mono fun _ w' ⟨h1,h2,h3⟩=>⟨h1,⟨⟨_,h2,fun k hk=>⟨by have:=hk.1;omega,fun hX=>by have:=hk.1;have:=hx k hX;omega⟩⟩,fun k hk=>Nat.lt_of_lt_of_le (hx k hk) h3.size⟩,h3⟩
theorem lAppend (h:DwS w0 X g d w) (ok:okD d=true) {s:ByteArray} {p:List UInt8} {E:Int} (he:appendD d s p=(E,d')) (hs:s.size≤4611686018427387904) {vp:Value} (hp:Bytes w vp p) (hv:p≠[]→∀ k,vp.ownBlock=some k→k<w0.heap.size∨X k) :
 Calls Tryz.prog 17 #[.pointer (some ⟨g,0,none⟩),.string s,vp] w fun e w'=>e=.returned (.int .i64 E)∧DwS w0 X g d' w'∧Chg (Gx w0 X) w w':=by
 obtain ⟨⟨F,h1,h2⟩,h3⟩:=h;obtain ⟨o1,o2⟩:=okD_spec ok;refine (dskAppend h1 o1 o2 s hs vp p hp (fun he k hk hF=>Chg.gxO (hv he) k hk (h2 k hF))).mono ?_;rintro e w' ⟨rfl,hu⟩;rw [he] at hu ⊢;exact ⟨rfl,DwS.und h1 h2 h3 hu⟩
theorem lSync (h:DwS w0 X g d w) (ok:okD d=true) {s:ByteArray} {E:Int} (he:syncD d s=(E,d')) :
 Calls Tryz.prog 101 #[.pointer (some ⟨g,0,none⟩),.string s] w fun e w'=>e=.returned (.int .i64 E)∧DwS w0 X g d' w'∧Chg (Gx w0 X) w w':=by
 obtain ⟨⟨F,h1,h2⟩,h3⟩:=h;obtain ⟨o1,o2⟩:=okD_spec ok;refine (dskSync h1 o1 (by omega) s).mono ?_;rintro e w' ⟨rfl,hu⟩;rw [he] at hu ⊢;exact ⟨rfl,DwS.und h1 h2 h3 hu⟩
theorem lCut (h:DwS w0 X g d w) (ok:okD d=true) {s:ByteArray} {n E:Int} (he:cutD d s n=(E,d')) :
 Calls Tryz.prog 100 #[.pointer (some ⟨g,0,none⟩),.string s,.int .i64 n] w fun e w'=>e=.returned (.int .i64 E)∧DwS w0 X g d' w'∧Chg (Gx w0 X) w w':=by
 obtain ⟨⟨F,h1,h2⟩,h3⟩:=h;obtain ⟨o1,o2⟩:=okD_spec ok;refine (dskCut h1 o1 (by omega) s n).mono ?_;rintro e w' ⟨rfl,hu⟩;rw [he] at hu ⊢;exact ⟨rfl,DwS.und h1 h2 h3 hu⟩
theorem lRename (h:DwS w0 X g d w) (ok:okD d=true) {s sn:ByteArray} {E:Int} (he:renameD d s sn=(E,d')) (hs:sn.size≤4611686018427387904) :
 Calls Tryz.prog 140 #[.pointer (some ⟨g,0,none⟩),.string s,.string sn] w fun e w'=>e=.returned (.int .i64 E)∧DwS w0 X g d' w'∧Chg (Gx w0 X) w w':=by
 obtain ⟨⟨F,h1,h2⟩,h3⟩:=h;obtain ⟨o1,o2⟩:=okD_spec ok;refine (dskRename h1 o1 (by omega) s sn hs).mono ?_;rintro e w' ⟨rfl,hu⟩;rw [he] at hu ⊢;exact ⟨rfl,DwS.und h1 h2 h3 hu⟩
theorem lRemove (h:DwS w0 X g d w) (ok:okD d=true) {s:ByteArray} {E:Int} (he:removeD d s=(E,d')) :
 Calls Tryz.prog 79 #[.pointer (some ⟨g,0,none⟩),.string s] w fun e w'=>e=.returned (.int .i64 E)∧DwS w0 X g d' w'∧Chg (Gx w0 X) w w':=by
 obtain ⟨⟨F,h1,h2⟩,h3⟩:=h;obtain ⟨o1,o2⟩:=okD_spec ok;refine (dskRemove h1 o1 (by omega) s).mono ?_;rintro e w' ⟨rfl,hu⟩;rw [he] at hu ⊢;exact ⟨rfl,DwS.und h1 h2 h3 hu⟩
theorem lArm (h:DwS w0 X g d w) (n:Int):Calls Tryz.prog 26 #[.pointer (some ⟨g,0,none⟩),.int .i64 n] w fun e w'=>e=.returned (.tuple #[])∧DwS w0 X g (armD d n) w'∧Chg (Gx w0 X) w w':=by
 obtain ⟨⟨F,h1,h2⟩,h3⟩:=h;refine (dskArm h1 n).mono ?_;rintro e w' ⟨rfl,hu,hc⟩;have hc2:Chg F w w':=hc.mono fun k _ hk=>by rw [hk];exact h1.inG
 exact ⟨rfl,DwS.und h1 h2 h3 ⟨hu.ff hc2.size,hc2⟩⟩
theorem lCrash (h:DwS w0 X g d w) (ok:okD d=true) {picks:List Int} (he:crashD d picks=d') {vp:Value} (hp:Rd intsE w vp picks) (hv:picks≠[]→∀ k,vp.ownBlock=some k→k<w0.heap.size∨X k) (hm:∀ x ∈ picks,x≤9223372036854775807) :
 Calls Tryz.prog 28 #[.pointer (some ⟨g,0,none⟩),vp] w fun e w'=>e=.returned (.tuple #[])∧DwS w0 X g d' w'∧Chg (Gx w0 X) w w':=by
 obtain ⟨⟨F,h1,h2⟩,h3⟩:=h;obtain ⟨o1,o2⟩:=okD_spec ok;refine (dskCrash h1 o1 (by omega) vp picks hp (fun he k hk hF=>Chg.gxO (hv he) k hk (h2 k hF)) hm).mono ?_;rintro e w' ⟨rfl,hu⟩;rw [he] at hu;exact ⟨rfl,DwS.und h1 h2 h3 hu⟩
theorem lRead (h:DwS w0 X g d w) (ok:okD d=true) (s:ByteArray) {o:Option (List UInt8)} (he:readD d s=o):Calls Tryz.prog 62 #[.pointer (some ⟨g,0,none⟩),.string s] w fun e w'=>(∃ r,e=.returned (.tuple #[r,.bool o.isSome])∧OwnB w' w.heap.size 5 r (o.getD []))∧Below w.heap.size w w':=by
 obtain ⟨⟨F,h1,h2⟩,h3⟩:=h;subst he;refine (dskRead h1 (okD_spec ok).1.tot s).mono ?_;rintro e w' ⟨r,rfl,h5,h6⟩;exact ⟨⟨r,rfl,h5⟩,h6⟩
theorem lNames (h:DwS w0 X g d w) (ok:okD d=true):Calls Tryz.prog 34 #[.pointer (some ⟨g,0,none⟩)] w fun e w'=>(∃ r,e=.returned r∧OwnR strE w' w.heap.size 9 r (d.fs.map (·.name)))∧Below w.heap.size w w':=by
 obtain ⟨⟨F,h1,h2⟩,h3⟩:=h;refine (dskNames h1 (okD_spec ok).1.len).mono ?_;rintro e w' ⟨r,rfl,h5,h6⟩;exact ⟨⟨r,rfl,h5⟩,h6⟩
end
abbrev noX:Nat→Prop:=fun _=>False
def oneX (b:Nat):Nat→Prop:=fun k=>k=b
theorem DwS.one {w0 w:World} {g:Nat} {d:Dk} (h:DwS w0 noX g d w) (o:Obj):DwS w0 (oneX w.heap.size) g d (w.alloc o):=(h.alloc o).mono fun _ hk=>.inr hk
end
end Go.Proofs.YtgpgcnmnfnnkjaaGreatDoor
