import Derived.Deep.QuietTactic
import Derived.Laws.StructEq
import Derived.Laws.Cover1
import Derived.Shelf.Abstract
import Derived.Test.YtgpgcnmnfnnkjaaGreatDoorGStorePlays10
import Derived.Test.YtgpgcnmnfnnkjaaGreatDoorGStorePlays2
import Derived.Deep.CutBlock
set_option linter.unusedVariables false
set_option linter.unusedSimpArgs false
set_option maxRecDepth 100000
set_option maxHeartbeats 16000000
namespace Go.Proofs.YtgpgcnmnfnnkjaaGreatDoor
section
open Go Go.RowKit
theorem Rd.at_ {α:Type} {E:Enc α} {w:World} {b off n c:Nat} {l:List α} (h:Rd E w (.slice (some ⟨b,off,none⟩) n c) l) {k:Nat} (hk:k<l.length) (j:Nat) (hj:j<E.sz) :
 w.cell? ⟨b,off+(k * E.sz+j),none⟩=(E.enc l[k])[j]?:=by
 obtain ⟨p,cap,e,_,_,_,h4⟩:=h.form;obtain ⟨b',off',rfl,hc⟩:=h4 (by omega);simp only [Value.slice.injEq,Option.some.injEq,Addr.mk.injEq] at e
 obtain ⟨⟨rfl,rfl,_⟩,_,_⟩:=e;exact hc k hk j hj
theorem Rd.blk {α:Type} {E:Enc α} {w:World} {p:Option Addr} {n c:Nat} {l:List α} (h:Rd E w (.slice p n c) l) (hp:0<l.length):∃ b off,p=some ⟨b,off,none⟩:=by
 obtain ⟨p',cap,e,_,_,_,h4⟩:=h.form;obtain ⟨b',off',rfl,hc⟩:=h4 hp;simp only [Value.slice.injEq] at e
 exact ⟨b',off',e.1⟩
end
section
open Go Go.RowKit BigFrame Go.PlainAid

theorem dskNamed (s:ByteArray) (w:World) (hs:s.size≤4611686018427387904):Calls Tryz.prog 52 #[.string s] w fun e w'=>e=.returned (.bool (namedD s))∧w=w':=by
 have hb:=get_bt s;have Hn:Hid (namedD s=((decide (1≤s.size) && decide (s.size≤24)) && allB s (s.size - 0) 0)):=rfl;go_enter Tryz.func52,Tryz.ntmps52
 by_cases h1:1≤s.size
 ·by_cases h2:s.size≤24
  ·have i1:(1:Int)≤(s.size:Int):=by omega
   have i2:(s.size:Int)≤24:=by omega
   have e0:Hid (namedD s=(true && allB s (s.size - 0) 0)):=by show _=_;rw [Hn.out,decide_eq_true h1,decide_eq_true h2];rfl
   clear Hn;go_wp2
   go_loopw [3,4] (fun o i wr=>∃ (b:Bool) (k:Nat),o=.bool b∧i=.int .i64 k∧k≤s.size∧Hid (namedD s=(b && allB s (s.size - k) k))∧wr=w) (fun _ i _=>s.size - (intOf i).toNat)
   case atStart=>exact ⟨true,0,rfl,rfl,by omega,e0,rfl⟩
   case round =>
    obtain ⟨b,k,rfl,rfl,hk,hrl,rfl⟩:=hrel
    by_cases hlt:k<s.size
    ·have hi:(k:Int)<(s.size:Int):=by omega
     cases b with
     | false =>
      go_wp2
      go_ret
      exact ⟨ret_bool (by rw [hrl.out];rfl),rfl⟩
     | true =>
      have hst:=Lib.hid (allB_step hlt)
      by_cases h3:33≤bt s k
      ·by_cases h4:bt s k≤126
       ·have hnx:Hid (namedD s=(true && allB s (s.size - (k+1)) (k+1))):=by show _=_;rw [hrl.out,hst.out];unfold okB;rw [decide_eq_true h3,decide_eq_true h4];rfl
        go_wp2
        go_roundw
        case rel=>exact ⟨true,k+1,rfl,by go_num,by omega,hnx,by trivial⟩
        case measure=>simp [intOf];omega
       ·have hnx:Hid (namedD s=(false && allB s (s.size - (k+1)) (k+1))):=by show _=_;rw [hrl.out,hst.out];unfold okB;rw [decide_eq_true h3,decide_eq_false h4];rfl
        go_wp2
        go_roundw
        case rel=>exact ⟨false,k+1,rfl,by go_num,by omega,hnx,by trivial⟩
        case measure=>simp [intOf];omega
      ·have hnx:Hid (namedD s=(false && allB s (s.size - (k+1)) (k+1))):=by show _=_;rw [hrl.out,hst.out];unfold okB;rw [decide_eq_false h3];rfl
       go_wp2
       go_roundw
       case rel=>exact ⟨false,k+1,rfl,by go_num,by omega,hnx,by trivial⟩
       case measure=>simp [intOf];omega
    ·have hend:=allB_end (s:=s) (k:=k) (by omega);have hi:¬ (k:Int)<(s.size:Int):=by omega
     go_wp2
     go_ret
     exact ⟨ret_bool (by rw [hrl.out,hend,Bool.and_true]),rfl⟩
  ·have i1:(1:Int)≤(s.size:Int):=by omega
   have i2:¬ (s.size:Int)≤24:=by omega
   have i3:(0:Int)<(s.size:Int):=by omega
   have e0:namedD s=false:=by rw [Hn.out,decide_eq_false h2,Bool.and_false];rfl
   clear Hn;go_wp2
   go_loopw [3,4] (fun o i wr=>o=.bool false∧i=.int .i64 0∧wr=w) (fun _ i _=>s.size)
   case atStart=>exact ⟨rfl,rfl,rfl⟩
   case round =>
    obtain ⟨rfl,rfl,rfl⟩:=hrel;go_wp2
    go_ret
    exact ⟨ret_bool e0.symm,rfl⟩
 ·have i1:¬ (1:Int)≤(s.size:Int):=by omega
  have i3:¬ (0:Int)<(s.size:Int):=by omega
  have e0:namedD s=false:=by rw [Hn.out,decide_eq_false h1];rfl
  clear Hn;go_wp2
  go_loopw [3,4] (fun o i wr=>o=.bool false∧i=.int .i64 0∧wr=w) (fun _ i _=>s.size)
  case atStart=>exact ⟨rfl,rfl,rfl⟩
  case round =>
   obtain ⟨rfl,rfl,rfl⟩:=hrel;go_wp2
   go_ret
   exact ⟨ret_bool e0.symm,rfl⟩

theorem ent3 {w:World} {b off n c:Nat} {l:List Ent} (h:Rd entE w (.slice (some ⟨b,off,none⟩) n c) l) {k:Nat} (hk:k<l.length) :
 w.cell? ⟨b,off+k * 3,none⟩=some (.string l[k].name)∧w.cell? ⟨b,off+k * 3+1,none⟩=some (.slice l[k].p l[k].data.length l[k].c)∧w.cell? ⟨b,off+k * 3+2,none⟩=some (.int .i64 (l[k].kept:Int)) :=
 ⟨h.at_ hk 0 (by decide),h.at_ hk 1 (by decide),h.at_ hk 2 (by decide)⟩
def isN (s:ByteArray) (y:Ent):Bool:=eqS y.name s

theorem dskFindFn (y:Ent) (g:Nat) (s:ByteArray) (w:World) (hc:w.cell? ⟨g,0,none⟩=some (.string s)) (hg:g<w.heap.size) :
 Calls Tryz.prog 94 #[.agg #[.string y.name,.slice y.p y.data.length y.c,.int .i64 (y.kept:Int)],.pointer (some ⟨g,0,none⟩)] w fun e w'=>e=.returned (.bool (isN s y))∧Below w.heap.size w w':=by
 have hne:g≠w.heap.size:=by omega
 go_enter Tryz.func94,Tryz.ntmps94
 go_wp2
 go_ret
 exact ⟨rfl,below_alloc _ _⟩

theorem dskIdx (v:Value) (l:List Ent) (g:Nat) (s:ByteArray) (w:World) (hv:Rd entE w v l) (hg:g<w.heap.size) (hc:w.cell? ⟨g,0,none⟩=some (.string s)) :
 Calls Tryz.prog 93 #[v,.func (.func 94) #[] #[.pointer (some ⟨g,0,none⟩)]] w fun e w'=>e=.returned (.int .i64 (placeBy (isN s) l 0))∧Below w.heap.size w w':=by
 have eg:∀ args w,(callFunc 94 args).run Tryz.prog w=.ok (.enter 94 args) w:=enters_of Tryz.func94 (by kernel_rfl) rfl;obtain ⟨p,cap,rfl,h1,h2,h3,h4⟩:=hv.form;clear h3 h4;unfold maxLen at h2;go_enter Tryz.func93,Tryz.ntmps93
 go_wp2
 go_loopw [8] (fun i wr=>∃ k:Nat,k≤l.length∧i=.int .i64 k∧Hid (placeBy (isN s) l 0=placeBy (isN s) (l.drop k) k)∧Below w.heap.size w wr) (fun i _=>l.length - (intOf i).toNat)
 case atStart=>exact ⟨0,by omega,rfl,rfl,Below.refl _ _⟩
 case round =>
  obtain ⟨k,hk,rfl,hpl,hb⟩:=hrel
  by_cases hlt:k<l.length
  ·obtain ⟨b,off,rfl⟩:=Rd.blk hv (by omega);obtain ⟨c0,c1,c2⟩:=ent3 (hv.ext hb) hlt;have hi:(k:Int)<(l.length:Int):=by omega
   have hcr:wr.cell? ⟨g,0,none⟩=some (.string s):=(hb.cell (p:=⟨g,0,none⟩) hg).trans hc;have hgr:g<wr.heap.size:=Nat.lt_of_lt_of_le hg hb.size;have hhit:=Lib.hid (fun h=>placeBy_hit (p:=isN s) hlt h);have hmiss:=Lib.hid (fun h=>placeBy_miss (p:=isN s) hlt h);have hcall:=dskFindFn l[k] g s wr hcr hgr;clear hv hc;generalize l[k]=y at *
   cases hq:isN s y with
   | true =>
    rw [hq] at hcall;have Hq:=Lib.hid hq;clear hq;go_wp2_with (go_at_fn 94;refine hcall.mono ?_;rintro e w' ⟨rfl,hb'⟩)
    go_ret
    exact ⟨ret_int (by rw [hpl.out,hhit.out Hq.out]),hb.trans (hb'.mono hb.size)⟩
   | false =>
    rw [hq] at hcall;have Hq:=Lib.hid hq;clear hq;go_wp2_with (go_at_fn 94;refine hcall.mono ?_;rintro e w' ⟨rfl,hb'⟩)
    go_roundw
    case rel=>exact ⟨k+1,by omega,by go_num,hpl.out.trans (hmiss.out Hq.out),hb.trans (hb'.mono hb.size)⟩
    case measure=>simp [intOf];omega
  ·go_wp2
   go_ret
   exact ⟨ret_int (by rw [hpl.out,placeBy_end (by omega)]),hb⟩

theorem dskFind (F:Nat→Prop) (g:Nat) (d:Dk) (s:ByteArray) (w:World) (hd:DiskAt w F g d) :
 Calls Tryz.prog 55 #[.pointer (some ⟨g,0,none⟩),.string s] w fun e w'=>e=.returned (.int .i64 (idxD d.fs s))∧Below w.heap.size w w':=by
 obtain ⟨⟨v,ys,kb,hf,h3,h4,h5⟩,h6,h7⟩:=hd;have hv:=hf.row.rd;have ca:=below_alloc w (.cells #[.string s] 9);have hcon:=dskIdx v ys w.heap.size s (w.alloc (.cells #[.string s] 9)) (hv.ext ca) (by simp) (by simp);have hx:placeBy (isN s) ys 0=idxD d.fs s:=by unfold idxD;rw [←h5];exact placeBy_map Ent.fil (isN s) (fun _=>rfl) ys 0
 rw [hx] at hcon;have c0:=(kb.ext ca).cell 0 _ rfl;obtain ⟨p,cap,rfl⟩:=hv.shape;go_enter Tryz.func55,Tryz.ntmps55
 go_wp2_with (go_at_call 93;refine hcon.mono ?_;rintro e w' ⟨rfl,hb'⟩)
 go_ret
 exact ⟨rfl,ca.trans (hb'.mono (by simp))⟩

theorem dskKnown (F:Nat→Prop) (g:Nat) (d:Dk) (s:ByteArray) (w:World) (hd:DiskAt w F g d) :
 Calls Tryz.prog 114 #[.pointer (some ⟨g,0,none⟩),.string s] w fun e w'=>e=.returned (.tuple #[.int .i64 (knownD d s).1,.int .i64 (knownD d s).2])∧Below w.heap.size w w':=by
 have hcon:=dskFind F g d s w hd;obtain ⟨⟨v,ys,kb,hf,h3,h4,h5⟩,h6,h7⟩:=hd;have c1:=kb.cell 1 _ rfl;have Hk:Hid (knownD d s=if d.off then (0,18) else if idxD d.fs s<0 then (0,11) else (idxD d.fs s,0)):=rfl;generalize knownD d s=R at *;generalize idxD d.fs s=x at *;obtain ⟨o,ho⟩:∃ o,o=d.off:=⟨_,rfl⟩;rw [←ho] at c1 Hk;clear kb hf h3 h4 h5 h6 h7 ho;go_enter Tryz.func114,Tryz.ntmps114
 cases o with
 | true =>
  go_wp2
  refine bodyPost_ret (v:=.tuple #[.int .i64 0,.int .i64 18]) (by simp [results,Tryz.results114,go_sem]) rfl ⟨by rw [Hk.out];simp,Below.refl _ _⟩
 | false =>
  by_cases hx:x<0
  ·have Hx:=Lib.hid hx;go_wp2_with (go_at_call 55;refine hcon.mono ?_;rintro e w' ⟨rfl,hb'⟩)
   go_wp2
   refine bodyPost_ret (v:=.tuple #[.int .i64 0,.int .i64 11]) (by simp [results,Tryz.results114,go_sem]) rfl ⟨by rw [Hk.out];simp [Hx.out],hb'⟩
  ·have Hx:=Lib.hid hx;have hx2:0≤x:=by omega
   clear hx;go_wp2_with (go_at_call 55;refine hcon.mono ?_;rintro e w' ⟨rfl,hb'⟩)
   go_wp2
   refine bodyPost_ret (v:=.tuple #[.int .i64 x,.int .i64 0]) (by simp [results,Tryz.results114,go_sem]) rfl ⟨by rw [Hk.out];simp [show ¬ x<0 by omega],hb'⟩

end
section
open Go Go.RowKit BigFrame Go.PlainAid
attribute [local go_sem] After.same
def strE:Enc ByteArray:=⟨1,fun x=>[.string x],fun _=>rfl,fun _ v hv=>by simp only [List.mem_singleton] at hv;subst hv;rfl,Nat.one_pos⟩
theorem tStr:SlT Tryz.prog 35 9 1 16:=SlT.mk' (z:=.string ⟨#[]⟩) Tryz.underlying35 (by kernel_rfl) rfl (by decide) (by decide)
def powE (n:Int):Int:=if n=0 then 18 else 0
def powL (n:Int):Int:=if 0<n then n - 1 else n
def powO (o:Bool) (n:Int):Bool:=o || decide (n=0)
theorem powD_eq (d:Dk):powD d=(decide (d.left≠0),⟨d.fs,powO d.off d.left,powL d.left⟩):=by
 unfold powD powO powL
 by_cases h:d.left=0
 ·simp [h]
 ·simp [h]
theorem dskPower {F:Nat→Prop} {g:Nat} {v:Value} {o:Bool} {n:Int} {ys:List Ent} {w:World} (hd:DiskV w F g v (.bool o) (.bool (decide (0≤n))) (.int .i64 (max n 0)) ys) (h1 : -1≤n) (h2:n≤9223372036854775807) :
 Calls Tryz.prog 54 #[.pointer (some ⟨g,0,none⟩)] w fun e w'=>e=.returned (.int .i64 (powE n))∧DiskV w' F g v (.bool (powO o n)) (.bool (decide (0≤powL n))) (.int .i64 (max (powL n) 0)) ys∧Chg (fun k=>k=g) w w':=by
 have f1:=hd.blk.frozen 1;have f3:=hd.blk.frozen 3
 rcases Int.lt_trichotomy n 0 with h | h | h
 ·have c2:w.cell? ⟨g,2,none⟩=some (.bool false):=by rw [hd.blk.cell 2 _ rfl];show some (Value.bool (decide (0≤n)))=_;rw [decide_eq_false (by omega)]
  have e1:powE n=0:=if_neg (by omega);have e2:powO o n=o:=by unfold powO;rw [decide_eq_false (by omega),Bool.or_false]
  have e3:powL n=n:=if_neg (by omega);rw [e1,e2,e3];have Hd:=Lib.hid hd;clear hd e1 e2 e3 h h1 h2;go_enter Tryz.func54,Tryz.ntmps54
  go_wp2
  go_ret
  exact ⟨rfl,Hd.out,Chg.refl _ _⟩
 ·subst h;have c2:w.cell? ⟨g,2,none⟩=some (.bool true):=by rw [hd.blk.cell 2 _ rfl];rfl
  have c3:w.cell? ⟨g,3,none⟩=some (.int .i64 0):=by rw [hd.blk.cell 3 _ rfl];rfl
  have c1:=hd.blk.cell 1 _ rfl;have e2:powO o 0=true:=by unfold powO;simp
  rw [e2];have Hd:=Lib.hid (hd.setCell 1 (.bool true) rfl);clear hd e2 h1 h2;go_enter Tryz.func54,Tryz.ntmps54
  go_wp2
  go_ret
  exact ⟨rfl,Hd.out.1,Hd.out.2⟩
 ·have c2:w.cell? ⟨g,2,none⟩=some (.bool true):=by rw [hd.blk.cell 2 _ rfl];show some (Value.bool (decide (0≤n)))=_;rw [decide_eq_true (by omega)]
  have c3:w.cell? ⟨g,3,none⟩=some (.int .i64 n):=by rw [hd.blk.cell 3 _ rfl];show some (Value.int .i64 (max n 0))=_;rw [Int.max_eq_left (by omega)]
  have e1:powE n=0:=if_neg (by omega);have e2:powO o n=o:=by unfold powO;rw [decide_eq_false (by omega),Bool.or_false]
  have e3:powL n=n - 1:=if_pos h;have e4:decide (0≤n)=true:=decide_eq_true (by omega);have e5:decide (0≤n - 1)=true:=decide_eq_true (by omega);have e6:max (n - 1) 0=n - 1:=Int.max_eq_left (by omega);rw [e1,e2,e3,e5,e6];rw [e4] at hd;have Hd:=Lib.hid (hd.setCell 3 (.int .i64 (n - 1)) rfl);clear hd e1 e2 e3 e4 e5 e6;go_enter Tryz.func54,Tryz.ntmps54
  go_wp2
  go_ret
  exact ⟨rfl,Hd.out.1,Hd.out.2⟩
theorem dskArm {F:Nat→Prop} {g:Nat} {d:Dk} {w:World} (hd:DiskAt w F g d) (n:Int) :
 Calls Tryz.prog 26 #[.pointer (some ⟨g,0,none⟩),.int .i64 n] w fun e w'=>e=.returned (.tuple #[])∧DiskAt w' F g (armD d n)∧Chg (fun k=>k=g) w w':=by
 obtain ⟨v,ys,hv,hy⟩:=hd.open_;have f2:=hv.blk.frozen 2;have f3:=hv.blk.frozen 3;have c2:=hv.blk.cell 2 _ rfl;have c3:=hv.blk.cell 3 _ rfl
 by_cases h:0≤n
 ·have h0:max n 0=n:=Int.max_eq_left h;have s1:=hv.setCell 2 (.bool true) rfl;have s2:=s1.1.setCell 3 (.int .i64 n) rfl;have hz:DiskAt ((w.setCell ⟨g,2,none⟩ (.bool true)).setCell ⟨g,3,none⟩ (.int .i64 n)) F g (armD d n):=by
   refine DiskV.at_ (v:=v) (ys:=ys) ?_ hy;have e:(armD d n).left=n:=if_neg (by omega);rw [e,decide_eq_true h,h0];exact s2.1
  have Hz:=Lib.hid (And.intro hz (s1.2.step s2.2));clear hz s1 s2 hv hd;go_enter Tryz.func26,Tryz.ntmps26
  go_wp2
  go_end0
  exact ⟨rfl,Hz.out.1,Hz.out.2⟩
 ·have h0:max n 0=0:=Int.max_eq_right (by omega);have s1:=hv.setCell 2 (.bool false) rfl;have s2:=s1.1.setCell 3 (.int .i64 0) rfl;have hz:DiskAt ((w.setCell ⟨g,2,none⟩ (.bool false)).setCell ⟨g,3,none⟩ (.int .i64 0)) F g (armD d n):=by
   refine DiskV.at_ (v:=v) (ys:=ys) ?_ hy;have e:(armD d n).left = -1:=if_pos (by omega);rw [e];exact s2.1
  have Hz:=Lib.hid (And.intro hz (s1.2.step s2.2));have hneg:n<0:=by omega
  have hdn:decide (0≤n)=false:=decide_eq_false h;clear hz s1 s2 hv hd;go_enter Tryz.func26,Tryz.ntmps26
  go_wp2
  go_end0
  exact ⟨rfl,Hz.out.1,Hz.out.2⟩
theorem dskTotal {F:Nat→Prop} {g:Nat} {d:Dk} {w:World} (hd:DiskAt w F g d) (ht:totD d.fs≤4611686018427387904) :
 Calls Tryz.prog 53 #[.pointer (some ⟨g,0,none⟩)] w fun e w'=>e=.returned (.int .i64 (totD d.fs))∧Below w.heap.size w w':=by
 obtain ⟨v,ys,hv,hy⟩:=hd.open_;rw [←hy] at ht ⊢;clear hy hd;have rv:=hv.fil.row.rd;have c0:=hv.blk.cell 0 _ rfl;clear hv;obtain ⟨p,cap,rfl,h1,h2,h3,h4⟩:=rv.form;clear h3 h4;unfold maxLen at h2;go_enter Tryz.func53,Tryz.ntmps53
 go_wp2
 go_loopw [3,11] (fun n i wr=>∃ k:Nat,k≤ys.length∧i=.int .i64 k∧n=.int .i64 ((totD ((ys.map Ent.fil).take k):Nat):Int)∧Below w.heap.size w wr) (fun _ i _=>ys.length - (intOf i).toNat)
 case atStart=>exact ⟨0,by omega,rfl,by simp [totD],Below.refl _ _⟩
 case round =>
  obtain ⟨k,hk,rfl,rfl,hb⟩:=hrel
  by_cases hlt:k<ys.length
  ·obtain ⟨b,off,rfl⟩:=Rd.blk rv (by omega);obtain ⟨c0,c1,c2⟩:=ent3 (rv.ext hb) hlt;have hi:(k:Int)<(ys.length:Int):=by omega
   have hi0:(0:Int)≤(k:Int):=by omega
   have hst:=totD_take (l:=ys.map Ent.fil) (k:=k) (by simpa using hlt);rw [fil_get] at hst;have hle:=totD_take_le (ys.map Ent.fil) (k+1);have hyd:(ys[k]).fil.data.length=(ys[k]).data.length:=rfl;rw [hyd] at hst;rw [hst] at hle;have Hst:=Lib.hid hst;clear hst hyd rv;generalize totD ((ys.map Ent.fil).take k)=T at *;generalize ys[k]=y at *;have q1:(0:Int)≤(T:Int):=by omega
   have q2:(T:Int)+(y.data.length:Int)≤4611686018427387904:=by omega
   have q3:(0:Int)≤(y.data.length:Int):=by omega
   clear hle ht;have hb2:=hb.trans ((below_alloc wr (.cells #[.string y.name,.slice y.p y.data.length y.c,.int .i64 (y.kept:Int)] 96)).mono hb.size);go_wp2
   go_roundw
   case rel=>exact ⟨k+1,by omega,by go_num,by rw [Hst.out];go_num,hb2⟩
   case measure=>simp [intOf];omega
  ·have hkl:k=ys.length:=by omega
   have hi:¬ (k:Int)<(ys.length:Int):=by omega
   have Hk:=Lib.hid hkl;clear hkl;go_wp2
   go_ret
   exact ⟨ret_int (by rw [Hk.out,List.take_of_length_le (by simp)]),hb⟩
theorem dskNames {F:Nat→Prop} {g:Nat} {d:Dk} {w:World} (hd:DiskAt w F g d) (hl:d.fs.length≤1000000) :
 Calls Tryz.prog 34 #[.pointer (some ⟨g,0,none⟩)] w fun e w'=>∃ r,e=.returned r∧OwnR strE w' w.heap.size 9 r (d.fs.map (·.name))∧Below w.heap.size w w':=by
 obtain ⟨v,ys,hv,hy⟩:=hd.open_;rw [←hy] at hl ⊢;rw [List.length_map] at hl;clear hy hd;have rv:=hv.fil.row.rd;have c0:=hv.blk.cell 0 _ rfl;clear hv;obtain ⟨p,cap,rfl⟩:=rv.shape;have Hn:Hid ((ys.map Ent.fil).map (·.name)=ys.map (·.name)):=by show _=_;rw [List.map_map];rfl
 go_enter Tryz.func34,Tryz.ntmps34
 go_wp2
 go_loopw [3,11] (fun n i wr=>∃ k:Nat,k≤ys.length∧i=.int .i64 k∧OwnR strE wr w.heap.size 9 n ((ys.map (·.name)).take k)∧Below w.heap.size w wr) (fun _ i _=>ys.length - (intOf i).toNat)
 case atStart=>exact ⟨0,by omega,rfl,OwnR.nil _ _ _,Below.refl _ _⟩
 case round =>
  obtain ⟨k,hk,rfl,own,hb⟩:=hrel
  by_cases hlt:k<ys.length
  ·obtain ⟨b,off,rfl⟩:=Rd.blk rv (by omega);obtain ⟨c0,c1,c2⟩:=ent3 (rv.ext hb) hlt;have hi:(k:Int)<(ys.length:Int):=by omega
   have hi0:(0:Int)≤(k:Int):=by omega
   have hst:(ys.map (·.name)).take (k+1)=(ys.map (·.name)).take k++[(ys[k]).name]:=by rw [List.take_succ_eq_append_getElem (by simpa using hlt)];simp
   have hlk:((ys.map (·.name)).take k).length≤1000000:=by rw [List.length_take,List.length_map];omega
   have Hst:=Lib.hid hst;clear hst rv;generalize (ys.map (·.name)).take k=T at *;generalize ys[k]=y at *;have ca:=below_alloc wr (.cells #[.string y.name,.slice y.p y.data.length y.c,.int .i64 (y.kept:Int)] 96);generalize hwa:wr.alloc (.cells #[.string y.name,.slice y.p y.data.length y.c,.int .i64 (y.kept:Int)] 96)=wa;rw [hwa] at ca;have own2:=own.ext ca;have hb2:=hb.trans (ca.mono hb.size);have cb:=below_alloc wa (.cells #[.string y.name] 9);have hsz:wa.heap.size=wr.heap.size+1:=by rw [←hwa];simp
   have lit:=OwnR.litAt strE wa #[.string y.name] 9 [y.name] 1 0 (wr.heap.size+1) hsz rfl rfl (by unfold maxLen;omega) (Nat.zero_le _);clear hsz;have own3:=own2.ext cb;have hb3:=hb2.trans (cb.mono hb2.size);obtain ⟨pn,cn,rfl⟩:=own3.rd.shape;subst hwa;go_wp2_with (first | (at_builtin;refine wpList_appR (E:=strE) tStr rfl rfl own3 rfl lit.rd rfl (by simp;omega) hb3.size ?_;intro v4 w4 own4 g4 b4) | fail)
   go_roundw
   case rel=>exact ⟨k+1,by omega,by go_num,by rw [Hst.out];exact own4,hb3.trans (b4.mono (Nat.le_refl _))⟩
   case measure=>simp [intOf];omega
  ·have hkl:k=ys.length:=by omega
   have hi:¬ (k:Int)<(ys.length:Int):=by omega
   have Hk:=Lib.hid hkl;clear hkl;go_wp2
   go_ret
   exact ⟨_,rfl,by rw [Hk.out,List.take_of_length_le (by simp)] at own;exact own,hb⟩
def ReadsD (w:World) (d:Dk) (s:ByteArray) (e:Ending) (w':World):Prop:=∃ r,e=.returned (.tuple #[r,.bool (readD d s).isSome])∧OwnB w' w.heap.size 5 r ((readD d s).getD [])∧Below w.heap.size w w'
theorem idxD_spec (l:List Fil) (s:ByteArray):(idxD l s = -1∧∀ x ∈ l,hasN s x=false)∨∃ j,∃ h:j<l.length,idxD l s=(j:Int)∧hasN s l[j]=true∧∀ i (h':i<l.length),i<j→hasN s l[i]=false:=by
 rcases placeBy_spec (hasN s) l 0 with h | ⟨j,h,h1,h2,h3⟩
 ·exact .inl h
 ·exact .inr ⟨j,h,by unfold idxD;rw [h1,Nat.zero_add],h2,h3⟩
theorem tBytes:SlT Tryz.prog 26 5 1 1:=tU8
theorem dskRead {F:Nat→Prop} {g:Nat} {d:Dk} {w:World} (hd:DiskAt w F g d) (ht:totD d.fs≤4194304) (s:ByteArray) :
 Calls Tryz.prog 62 #[.pointer (some ⟨g,0,none⟩),.string s] w (ReadsD w d s):=by
 have hfind:=dskFind F g d s w hd;obtain ⟨v,ys,hv,hy⟩:=hd.open_
 rcases idxD_spec d.fs s with ⟨hx,_⟩ | ⟨j,hj,hx,_,_⟩
 ·have hr:readD d s=none:=by unfold readD;rw [if_pos (by omega)]
  have Hr:=Lib.hid hr;rw [hx] at hfind;clear hr hx hv hy hd;go_enter Tryz.func62,Tryz.ntmps62
  go_wp2_with (go_at_call 55;refine hfind.mono ?_;rintro e w' ⟨rfl,hb⟩)
  go_ret2
  exact ⟨_,by rw [Hr.out];rfl,by rw [Hr.out];exact OwnB.nil _ _ _,hb⟩
 ·have hjy:j<ys.length:=by rw [DiskV.len_eq hy];exact hj
  have hfj:d.fs[j]?=some (ys[j]).fil:=by rw [←hy,List.getElem?_map,List.getElem?_eq_getElem hjy];rfl
  have hr:readD d s=some (ys[j]).data:=by unfold readD;rw [if_neg (by omega),hx,Int.toNat_natCast,hfj];rfl
  have Hr:=Lib.hid hr;rw [hx] at hfind;have hmem:ys[j] ∈ ys:=List.getElem_mem hjy;have hdat:=(hv.fil.data _ hmem).bytes;have hlen:(ys[j]).data.length≤4194304:=by
   have h1:=totD_mem (l:=d.fs) (f:=(ys[j]).fil) (by rw [←hy];exact List.mem_map.2 ⟨_,hmem,rfl⟩);have h2:(ys[j]).fil.data.length=(ys[j]).data.length:=rfl;omega
  have rv:=hv.fil.row.rd;have c0:=hv.blk.cell 0 _ rfl;have hgl:=hv.lt g hv.inG;have hji:(j:Int)<(ys.length:Int):=by omega
  have hj0:(0:Int)≤(j:Int):=by omega
  obtain ⟨b,off,cap,rfl⟩:∃ b off cap,v=.slice (some ⟨b,off,none⟩) ys.length cap:=by
   obtain ⟨p,cap,rfl⟩:=rv.shape;obtain ⟨b,off,rfl⟩:=Rd.blk rv (by omega);exact ⟨b,off,cap,rfl⟩
  clear hr hx hy hd hfj hv ht;have hE:=fun w' (hb:Below w.heap.size w w')=>ent3 (rv.ext hb) hjy;have HE:=Lib.hid hE;have Rv:=Lib.hid rv;have c00:=fun w' (hb:Below w.heap.size w w')=>(hb.cell (p:=⟨g,0,none⟩) hgl).trans c0;have C00:=Lib.hid c00;clear hE rv c0 c00;have Hyv:Hid (OwnB w 0 5 (ys[j]).v (ys[j]).data→True):=fun _=>trivial;generalize ys[j]=y at *;have hdat':Bytes w (.slice y.p y.data.length y.c) y.data:=hdat;clear hdat hmem Hyv;go_enter Tryz.func62,Tryz.ntmps62
  go_wp2_with fail
  refine hfind.mono ?_;rintro e w' ⟨rfl,hb⟩;obtain ⟨e0,e1,e2⟩:=HE.out w' hb;have k0:=C00.out w' hb;have hdb:=hdat'.ext hb;go_wp2_with (first | (at_builtin;refine wpList_app tBytes rfl rfl (Own.nil _ w.heap.size _ _) rfl hdb rfl (by omega) hb.size ?_;intro v4 w4 own4 g4 b4) | fail)
  go_ret2
  exact ⟨_,by rw [Hr.out];rfl,by rw [Hr.out];exact OwnB.of own4 (by simp) (by simp),hb.trans b4⟩
theorem dskNew (w:World):Calls Tryz.prog 16 #[] w fun e w'=>e=.returned (.pointer (some ⟨w.heap.size,0,none⟩))∧DiskAt w' (fun k=>w.heap.size≤k∧k<w'.heap.size) w.heap.size dk0∧Below w.heap.size w w':=by
 have kb:=Blk.new w #[.slice none 0 0,.bool false,.bool false,.int .i64 0] 90;have hz:DiskAt (w.alloc (.cells #[.slice none 0 0,.bool false,.bool false,.int .i64 0] 90)) (fun k=>w.heap.size≤k∧k<(w.alloc (.cells #[.slice none 0 0,.bool false,.bool false,.int .i64 0] 90)).heap.size) w.heap.size dk0:=by
  refine DiskV.at_ (v:=.slice none 0 0) (ys:=[]) ⟨kb,⟨OwnR.nil _ _ _,by simp,by simp,by simp,by simp [Value.ownBlock],by simp⟩,by simp [Value.ownBlock],by simp,⟨Nat.le_refl _,kb.lt⟩,fun k h=>h.2⟩ rfl
 have Hz:=Lib.hid hz;clear hz kb;go_enter Tryz.func16,Tryz.ntmps16
 go_wp2
 go_ret
 exact ⟨rfl,Hz.out,below_alloc _ _⟩
end
section
open Go Go.RowKit BigFrame Go.PlainAid
attribute [local go_sem] After.same
def insE (ys:List Ent) (y:Ent):List Ent:=ys.take (posD (ys.map Ent.fil) y.name)++y::ys.drop (posD (ys.map Ent.fil) y.name)
theorem insE_fil (ys:List Ent) (y:Ent):(insE ys y).map Ent.fil=putD (ys.map Ent.fil) y.fil:=by
 unfold insE putD;rw [List.map_append,List.map_cons,List.map_take,List.map_drop];rfl
def DiskX (w:World) (F:Nat→Prop) (g:Nat) (o a l:Value) (ys:List Ent):Prop:=∃ v,DiskV w F g v o a l ys
theorem DiskV.back {F:Nat→Prop} {w w1 w2:World} {g:Nat} {v o a l:Value} {ys:List Ent} (h:DiskV w2 (FF F w1 w2) g v o a l ys) (hs:w.heap.size≤w1.heap.size) (h0:∀ k,F k→k<w.heap.size) (h12:w1.heap.size≤w2.heap.size):DiskV w2 (FF F w w2) g v o a l ys :=
 h.mono (fun k hk=>by
  rcases hk with hk | hk
  ·exact .inl hk
  ·exact .inr ⟨by omega,hk.2⟩) (FF_lt h0 (by omega))
theorem dskPut {F:Nat→Prop} {g:Nat} {v o a l:Value} {ys:List Ent} {w:World} {y:Ent} (hd:DiskV w F g v o a l ys) (hlen:ys.length≤1000000) (h1:OwnB w 0 5 y.v y.data) (h2:∀ x ∈ ys,Apart y.v x.v) (h3:Apart v y.v) (h4:∀ k,y.v.ownBlock=some k→F k) (h5:y.v.ownBlock≠some g) :
 Calls Tryz.prog 56 #[.pointer (some ⟨g,0,none⟩),.agg #[.string y.name,.slice y.p y.data.length y.c,.int .i64 (y.kept:Int)]] w fun e w'=>e=.returned (.tuple #[])∧DiskX w' (FF F w w') g o a l (insE ys y)∧Chg F w w':=by
 have ca:=below_alloc w (.cells #[.string y.name,.slice y.p y.data.length y.c,.int .i64 (y.kept:Int)] 96);have kb:=Blk.new w #[.string y.name,.slice y.p y.data.length y.c,.int .i64 (y.kept:Int)] 96;go_enter Tryz.func56,Tryz.ntmps56
 go_upto_block 0 with (fail)
 generalize hw1:w.alloc (.cells #[.string y.name,.slice y.p y.data.length y.c,.int .i64 (y.kept:Int)] 96)=w1 at *;clear hw1;have rv:=hd.fil.row.rd;obtain ⟨p,cap,rfl,q1,q2,q3,q4⟩:=rv.form;clear q3 q4;unfold maxLen at q2;have rv1:=rv.ext ca;have hd1:=Lib.hid (hd.ext ca);clear rv
 go_cut [4] from 4 (fun q wi=>∃ k:Nat,k≤ys.length∧q=.int .i64 k∧Hid (posD (ys.map Ent.fil) y.name=k)∧Below w1.heap.size w1 wi)
 case first =>
  go_wp2_with fail
  go_loopw [4] (fun q wi=>∃ k:Nat,k≤ys.length∧q=.int .i64 k∧Hid (∀ i (h:i<(ys.map Ent.fil).length),i<k→ltS (ys.map Ent.fil)[i].name y.name=true)∧Below w1.heap.size w1 wi) (fun q _=>ys.length - (intOf q).toNat)
  case atStart=>exact ⟨0,by omega,rfl,fun i h hi=>absurd hi (Nat.not_lt_zero _),Below.refl _ _⟩
  case round =>
   obtain ⟨j,hj,rfl,hlo,hbi⟩:=hrel;have kbi:=kb.ext hbi;have c0:=(hd1.out.ext hbi).blk.cell 0 _ rfl;have g0:=kbi.cell 0 _ rfl;have hj0:(0:Int)≤(j:Int):=by omega
   by_cases hjl:j<ys.length
   ·have hji:(j:Int)<(ys.length:Int):=by omega
    obtain ⟨gb,go,rfl⟩:=Rd.blk rv1 (by omega);obtain ⟨e0,_⟩:=ent3 (rv1.ext hbi) hjl;have hfl:j<(ys.map Ent.fil).length:=by simpa using hjl
    have hfg:(ys.map Ent.fil)[j].name=ys[j].name:=by rw [fil_get];rfl
    cases hlt2:ltS ys[j].name y.name with
    | true =>
     have hl3:Op.bytesLess (ys[j]).name.toList y.name.toList=true:=hlt2;have Hlo:=Lib.hid (fun i (h:i<(ys.map Ent.fil).length) (hi:i<j+1)=>show ltS (ys.map Ent.fil)[i].name y.name=true from by
      rcases Nat.lt_or_ge i j with h1 | h1
      ·exact hlo.out i h h1
      ·have e:i=j:=by omega
       subst e;rw [hfg];exact hlt2)
     clear hlt2 hfg hfl;go_wp2_with fail
     go_quiet (fail)
     go_wp2_with fail
     go_roundw
     case rel=>exact ⟨j+1,by omega,by go_num,Hlo,hbi.trans (below_drawn _ _ _)⟩
     case measure=>simp [intOf];omega
    | false =>
     have hl3:Op.bytesLess (ys[j]).name.toList y.name.toList=false:=hlt2;have Hp:=Lib.hid (posD_at (k:=j) (by omega) hlo.out (fun h=>by rw [hfg];exact hlt2));clear hlt2 hfg hfl;go_wp2_with fail
     go_quiet (fail)
     go_wp2_with fail
     go_meet
     exact ⟨j,hj,rfl,Hp,hbi.trans (below_drawn _ _ _)⟩
   ·have hji:¬ (j:Int)<(ys.length:Int):=by omega
    have Hp:=Lib.hid (posD_at (k:=j) (by simp;omega) hlo.out (fun h=>absurd (by simpa using h) hjl));go_wp2_with fail
    go_quiet (fail)
    go_wp2_with fail
    go_meet
    exact ⟨j,hj,rfl,Hp,hbi.trans (below_drawn _ _ _)⟩
 case rest =>
  obtain ⟨k,hk,rfl,Hp,hbi⟩:=hcut;obtain ⟨w2,hw2⟩:∃ z,z=wc:=⟨_,rfl⟩;subst hw2;have hb2:=ca.trans (hbi.mono ca.size);have hd2:=hd.ext hb2;have kb2:=kb.ext hbi;have c0:=hd2.blk.cell 0 _ rfl;have g0:=kb2.cell 0 _ rfl;have g1:=kb2.cell 1 _ rfl;have g2:=kb2.cell 2 _ rfl;have hN:=kb2.lt;have h12:OwnB w2 0 5 y.v y.data:=h1.ext hb2;have hgl:=hd2.lt g hd2.inG;have hFl:∀ k,F k→k<w.heap.size:=hd.lt;clear hd hd1 rv1 ca hbi kb2 kb h1;go_wp2_with fail
  have bD:=below_drew w2.heap.size w2;refine wp_region_F (n:=11) (S:=fun w'=>w'.cell? ⟨g,0,none⟩=some (.slice p ys.length cap)∧(w'.cell? ⟨w.heap.size,0,none⟩=some (.string y.name)∧w'.cell? ⟨w.heap.size,1,none⟩=some (.slice y.p y.data.length y.c)∧w'.cell? ⟨w.heap.size,2,none⟩=some (.int .i64 (y.kept:Int)))) (by kernel_rfl) ?_
  have hHeld:(fun w':World=>w'.cell? ⟨g,0,none⟩=some (.slice p ys.length cap)∧(w'.cell? ⟨w.heap.size,0,none⟩=some (.string y.name)∧w'.cell? ⟨w.heap.size,1,none⟩=some (.slice y.p y.data.length y.c)∧w'.cell? ⟨w.heap.size,2,none⟩=some (.int .i64 (y.kept:Int)))) w2.drew:=⟨c0,g0,g1,g2⟩;refine tk ?_ 0 ?_ hHeld ?_;rotate_left
  ·rintro w ⟨_,_,_,_⟩;dsimp only [bare];go_simp<;>with_reducible rfl
  try simp only [Act.put,lyA,lyZ,lyS]
  refine tk ?_ 1 ?_ hHeld ?_;rotate_left
  ·rintro w ⟨_,_,_,_⟩;dsimp only [bare];go_simp<;>with_reducible rfl
  try simp only [Act.put,lyA,lyZ,lyS]
  refine tk ?_ 2 ?_ hHeld ?_;rotate_left
  ·rintro w ⟨_,_,_,_⟩;dsimp only [bare];go_simp<;>with_reducible rfl
  try simp only [Act.put,lyA,lyZ,lyS]
  refine tk ?_ 3 ?_ hHeld ?_;rotate_left
  ·rintro w ⟨_,_,_,_⟩;dsimp only [bare];go_simp<;>with_reducible rfl
  try simp only [Act.put,lyA,lyZ,lyS]
  refine tk ?_ 4 ?_ hHeld ?_;rotate_left
  ·rintro w ⟨_,_,_,_⟩;dsimp only [bare];go_simp<;>with_reducible rfl
  try simp only [Act.put,lyA,lyZ,lyS]
  refine tk ?_ 5 ?_ hHeld ?_;rotate_left
  ·rintro w ⟨_,_,_,_⟩;dsimp only [bare];go_simp<;>with_reducible rfl
  try simp only [Act.put,lyA,lyZ,lyS]
  refine tk ?_ 6 ?_ hHeld ?_;rotate_left
  ·rintro w ⟨_,_,_,_⟩;dsimp only [bare];go_simp<;>with_reducible rfl
  try simp only [Act.put,lyA,lyZ,lyS]
  refine wpAnyF_one 7 _ _ _ rfl (by kernel_rfl) (fun K hK=>?_);dsimp only [bare];go_simp;obtain ⟨w3,hw3⟩:∃ z,z=(w2.alloc (.cells #[.string y.name,.slice y.p y.data.length y.c,.int .i64 (y.kept:Int)] 96)).drew:=⟨_,rfl⟩;have bE:Below w2.heap.size w2 w3:=by rw [hw3];exact (below_alloc w2 _).drew
  have hvb:w3.heap[w2.heap.size]?=some (.cells (entE.enc y).toArray 96 (0,0)):=by rw [hw3];exact Blk.new w2 #[.string y.name,.slice y.p y.data.length y.c,.int .i64 (y.kept:Int)] 96
  rw [←hw3];have hd3:=hd2.ext bE;have m0:=(bE.cell (p:=⟨w.heap.size,0,none⟩) hN).trans g0;have m1:=(bE.cell (p:=⟨w.heap.size,1,none⟩) hN).trans g1;have m2:=(bE.cell (p:=⟨w.heap.size,2,none⟩) hN).trans g2;refine hK _ _ ⟨hd3.blk.cell 0 _ rfl,m0,m1,m2⟩ (fun hHeld=>?_);clear hK K hHeld
  try simp only [Act.put,lyA,lyZ,lyS]
  refine wpAnyF_one 8 _ _ _ rfl (by kernel_rfl) (fun K hK=>?_);dsimp only [bare];go_simp;have hb3:=hb2.trans (bE.mono hb2.size);have hwl:=fun k hk=>hd3.fil.inV k hk;have hvs:(Value.slice p ys.length cap).ownBlock≠some w2.heap.size:=fun e=>by have h1:=hd2.lt _ (hd2.fil.inV _ e);omega
  have hvN:(Value.slice p ys.length cap).ownBlock≠some w.heap.size:=fun e=>Nat.lt_irrefl _ (hFl _ (hd2.fil.inV _ e));have hz:Datas w3 F g (.slice p ys.length cap) (ys.take k++y::ys.drop k):=hd3.datas.ins k (h12.ext bE) h2 h3 h4 h5;rw [←hw3];refine (insFil 0 w2.heap.size k (.slice p ys.length cap) ys y w3 hd3.fil.row hvb hvs hk (by omega) (Nat.zero_le _)).mono ?_;rintro e w4 ⟨v1,rfl,own1,hgr,_,hwh⟩;dsimp only;have hN3:w.heap.size<w3.heap.size:=Nat.lt_of_lt_of_le hN bE.size
  have kg:∀ i u,w3.cell? ⟨w.heap.size,i,none⟩=some u→w4.cell? ⟨w.heap.size,i,none⟩=some u:=fun i u h=>hgr.cell (a:=⟨w.heap.size,i,none⟩) h (fun e=>hvN e.symm);have kb4:Blk w4 g #[.slice p ys.length cap,o,a,l] 90:=hd3.blk.grown hgr hd3.vg;refine hK _ _ ⟨kb4.cell 0 _ rfl,kg _ _ m0,kg _ _ m1,kg _ _ m2⟩ (fun hHeld=>?_);clear hK K kg m0 m1 m2
  try simp only [Act.put,lyA,lyZ,lyS]
  refine tk ?_ 9 ?_ hHeld ?_;rotate_left
  ·rintro w ⟨_,_,_,_⟩;dsimp only [bare];go_simp<;>with_reducible rfl
  try simp only [Act.put,lyA,lyZ,lyS]
  refine tk ?_ 10 ?_ hHeld ?_;rotate_left
  ·rintro w ⟨_,_,_,_⟩;dsimp only [bare];go_simp<;>with_reducible rfl
  try simp only [Act.put,lyA,lyZ,lyS]
  have fz:=kb4.frozen 0;have c4:=kb4.cell 0 _ rfl;refine wpAnyF_end (none) (Op.store 88 (Operand.tmp 37) (Operand.tmp 35)) 0 rfl (by kernel_rfl) (by kernel_rfl) (fun K hK=>?_);have hres:=hd3.putRow hgr own1 hwh hz;have hend:DiskX (w4.setCell ⟨g,0,none⟩ v1) (FF F w (w4.setCell ⟨g,0,none⟩ v1)) g o a l (insE ys y):=by
   unfold insE;rw [Hp.out];exact ⟨v1,hres.1.back hb3.size hFl hres.2.size⟩
  have hchg:Chg F w (w4.setCell ⟨g,0,none⟩ v1):=(Chg.of_below hb3).step hres.2;generalize ys.take k++y::ys.drop k=zs at *;obtain ⟨p1,c1,rfl⟩:=own1.rd.shape;have Hend:=Lib.hid hend;have Hchg:=Lib.hid hchg;clear hend hchg hres hz own1 hwh hgr hw3;dsimp only [bare];go_simp;refine hK _ _ ?_;clear hK K
  try simp only [Act.put,lyA,lyZ,lyS]
  go_wp2_with fail
  go_end0
  exact ⟨rfl,Hend.out,Hchg.out⟩
end
end Go.Proofs.YtgpgcnmnfnnkjaaGreatDoor
