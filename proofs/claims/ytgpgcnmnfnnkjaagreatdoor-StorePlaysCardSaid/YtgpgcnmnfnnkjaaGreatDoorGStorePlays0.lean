import Derived.PlainAid
set_option linter.unusedVariables false
set_option linter.unusedSimpArgs false
set_option maxRecDepth 100000
set_option maxHeartbeats 16000000
namespace Go.Proofs.YtgpgcnmnfnnkjaaGreatDoor
section
def zig (n:Int):Nat:=if 0≤n then 2 * n.toNat else 2 * (-n).toNat - 1
def zag (u:Nat):Int:=if u % 2=1 then -((u / 2:Nat):Int) - 1 else ((u / 2:Nat):Int)
theorem zag_zig (n:Int):zag (zig n)=n:=by
 unfold zig zag
 by_cases h:0≤n
 ·rw [if_pos h,if_neg (by omega)];omega
 ·rw [if_neg h,if_pos (by omega)];omega
theorem zig_lt {n:Int} (h : -9223372036854775808≤n) (h2:n≤9223372036854775807):zig n<18446744073709551616:=by
 unfold zig;split<;>omega
theorem zag_lo {u:Nat} (h:u<18446744073709551616) : -9223372036854775808≤zag u:=by unfold zag;split<;>omega
theorem zag_hi {u:Nat} (h:u<18446744073709551616):zag u≤9223372036854775807:=by unfold zag;split<;>omega
def vint:Nat→Nat→List UInt8
 | 0,_=>[]
 | f+1,u=>if u<128 then [UInt8.ofNat u] else UInt8.ofNat (u % 128+128)::vint f (u / 128)
def numB (n:Int):List UInt8:=vint 10 (zig n)
def textB (s:List UInt8):List UInt8:=numB (s.length:Int)++s
theorem vint_small {f u:Nat} (h:u<128):vint (f+1) u=[UInt8.ofNat u]:=by rw [vint,if_pos h]
theorem vint_big {f u:Nat} (h:128≤u):vint (f+1) u=UInt8.ofNat (u % 128+128)::vint f (u / 128):=by rw [vint,if_neg (by omega)]
theorem vint_le:∀ (f u:Nat),(vint f u).length≤f
 | 0,_=>Nat.le_refl _
 | f+1,u=>by
  rw [vint];split
  ·simp
  ·rw [List.length_cons];have:=vint_le f (u / 128);omega
theorem numB_le (n:Int):(numB n).length≤10:=vint_le _ _
def vdec:List UInt8→Nat→Nat→Except Nat (Nat×Nat)
 | [],_,_=>.error 3
 | c::r,i,u =>
  if i=9∧1<c.toNat then .error 4
  else if 128≤c.toNat then vdec r (i+1) (u+c.toNat % 128 * 2 ^ (7 * i))
  else if c.toNat=0∧0<i then .error 4
  else .ok (u+c.toNat * 2 ^ (7 * i),i+1)
theorem toNat_ofNat_lt {n:Nat} (h:n<256):(UInt8.ofNat n).toNat=n:=by rw [UInt8.toNat_ofNat'];exact Nat.mod_eq_of_lt (by simpa using h)
theorem vdec_vint (r:List UInt8):∀ (f u i v:Nat),f+i=10→u<2 ^ (64 - 7 * i)→(0<i→0<u)→vdec (vint f u++r) i v=.ok (v+u * 2 ^ (7 * i),i+(vint f u).length)
 | 0,u,i,v,hf,hu,hi=>by
  have:i=10:=by omega
  subst this;have h1:u<1:=by simpa using hu
  have h2:=hi (by omega);omega
 | f+1,u,i,v,hf,hu,hi=>by
  by_cases h:u<128
  ·rw [vint_small h,List.singleton_append,vdec,toNat_ofNat_lt (by omega)];have h9:¬ (i=9∧1<u):=by
    rintro ⟨rfl,h1⟩;have:u<2:=by simpa using hu
    omega
   rw [if_neg h9,if_neg (by omega),if_neg (fun hc=>by have:=hi hc.2;omega)]
   rfl
  ·have h9:i≠9:=by
    rintro rfl;have:u<2:=by simpa using hu
    omega
   have hm:u % 128+128<256:=by have:=Nat.mod_lt u (show 0<128 by decide);omega
   rw [vint_big (by omega),List.cons_append,vdec,toNat_ofNat_lt hm,if_neg (fun hc=>h9 hc.1),if_pos (by omega)];have hd:u / 128<2 ^ (64 - 7 * (i+1)):=by
    rw [Nat.div_lt_iff_lt_mul (by decide)];have e:2 ^ (64 - 7 * (i+1)) * 128=2 ^ (64 - 7 * i):=by
     rw [show (128:Nat)=2 ^ 7 from rfl, ←Nat.pow_add];congr 1;omega
    rw [e];exact hu
   have ih:=vdec_vint r f (u / 128) (i+1) (v+(u % 128+128) % 128 * 2 ^ (7 * i)) (by omega) hd (fun _=>by omega);rw [ih,List.length_cons];have e2:(u % 128+128) % 128=u % 128:=by omega
   have e3:2 ^ (7 * (i+1))=128 * 2 ^ (7 * i):=by rw [show 7 * (i+1)=7+7 * i from by omega,Nat.pow_add]
   have e4:v+(u % 128+128) % 128 * 2 ^ (7 * i)+u / 128 * 2 ^ (7 * (i+1))=v+u * 2 ^ (7 * i):=by
    rw [e2,e3, ←Nat.mul_assoc,Nat.add_assoc, ←Nat.add_mul]
    congr 2
    omega
   rw [e4]
   congr 2
   omega
theorem vdec_num (r:List UInt8) {n:Int} (h : -9223372036854775808≤n) (h2:n≤9223372036854775807):vdec (numB n++r) 0 0=.ok (zig n,(numB n).length):=by
 have e:=vdec_vint r 10 (zig n) 0 0 rfl (by have:=zig_lt h h2;simpa using this) (fun h=>absurd h (by decide));unfold numB;rw [e];simp
theorem vdec_lt:∀ (l:List UInt8) (i v:Nat) {u k:Nat},i≤9→v<2 ^ (7 * i)→vdec l i v=.ok (u,k)→u<18446744073709551616∧i<k∧k≤i+l.length∧k≤10
 | [],_,_,_,_,_,_,h=>by simp [vdec] at h
 | c::r,i,v,u,k,hi,hv,h=>by
  rw [vdec] at h
  split at h
  ·cases h
  ·rename_i h9
   have hp:(2:Nat) ^ (7 * i) * 128=2 ^ (7 * (i+1)):=by rw [show (128:Nat)=2 ^ 7 from rfl, ←Nat.pow_add];congr 1
   have hc:=c.toNat_lt
   split at h
   ·rename_i h128
    have hi9:i≠9:=fun e=>h9 ⟨e,by omega⟩;have hm:c.toNat % 128≤127:=by omega
    have hv2:v+c.toNat % 128 * 2 ^ (7 * i)<2 ^ (7 * (i+1)):=by
     have h3:=Nat.mul_le_mul_right (2 ^ (7 * i)) hm;omega
    have h2:=vdec_lt r (i+1) _ (by omega) hv2 h;rw [List.length_cons];omega
   ·split at h
    ·cases h
    ·have he:=Except.ok.inj h;have hu:v+c.toNat * 2 ^ (7 * i)=u:=congrArg Prod.fst he;have hk:i+1=k:=congrArg Prod.snd he;subst hu;subst hk;rw [List.length_cons];refine ⟨?_,by omega,by omega,by omega⟩
     by_cases e:i=9
     ·subst e;have:c.toNat≤1:=by omega
      have h3:=Nat.mul_le_mul_right (2 ^ (7 * 9)) this;have h4:(2:Nat) ^ (7 * 9)=9223372036854775808:=by decide
      rw [h4] at hv h3 ⊢;omega
     ·have hp2:(2:Nat) ^ (7 * (i+1))≤2 ^ 63:=Nat.pow_le_pow_right (by decide) (by omega);have h3:=Nat.mul_le_mul_right (2 ^ (7 * i)) (show c.toNat≤127 by omega);have h4:(2:Nat) ^ 63=9223372036854775808:=by decide
      omega
end
section
structure Rdr where
 b:List UInt8
 pos:Nat
 err:Int
def rd0 (b:List UInt8):Rdr:=⟨b,0,0⟩
def rNum (r:Rdr):Int×Rdr :=
 if r.err=0 then
  match vdec (r.b.drop r.pos) 0 0 with
  | .ok (u,k)=>(zag u,⟨r.b,r.pos+k,0⟩)
  | .error e=>(0,⟨r.b,r.pos,e⟩)
 else (0,r)
def rWithin (lo hi:Int) (r:Rdr):Int×Rdr :=
 if (rNum r).2.err=0∧((rNum r).1<lo∨hi<(rNum r).1) then (0,⟨r.b,r.pos,2⟩) else rNum r
def rText (most:Int) (r:Rdr):List UInt8×Rdr :=
 let q:=rWithin 0 most r
 if q.2.err=0 then
  if ((r.b.length - q.2.pos:Nat):Int)<q.1 then ([],⟨r.b,r.pos,3⟩)
  else ((r.b.drop q.2.pos).take q.1.toNat,⟨r.b,q.2.pos+q.1.toNat,0⟩)
 else ([],q.2)
def rEnd (r:Rdr):Int×Rdr:=if r.err=0∧r.pos<r.b.length then (5,⟨r.b,r.pos,5⟩) else (r.err,r)
theorem rNum_b (r:Rdr):(rNum r).2.b=r.b:=by
 unfold rNum;split
 ·split<;>rfl
 ·rfl
theorem rNum_fits (r:Rdr) : -9223372036854775808≤(rNum r).1∧(rNum r).1≤9223372036854775807:=by
 unfold rNum;split
 ·split
  ·rename_i u k e
   have h2:=vdec_lt _ _ _ (by decide) (by decide) e;exact ⟨zag_lo h2.1,zag_hi h2.1⟩
  ·dsimp only;omega
 ·dsimp only;omega
theorem drop_at {a c:List UInt8} (b:List UInt8):(a++b++c).drop a.length=b++c:=by rw [List.append_assoc,List.drop_left]
theorem rNum_back (a c:List UInt8) {n:Int} (h : -9223372036854775808≤n) (h2:n≤9223372036854775807):rNum ⟨a++numB n++c,a.length,0⟩=(n,⟨a++numB n++c,a.length+(numB n).length,0⟩):=by
 unfold rNum;dsimp only;rw [if_pos rfl,drop_at,vdec_num c h h2];dsimp only;rw [zag_zig]
theorem rText_back (a c s:List UInt8) {most:Int} (hs:(s.length:Int)≤most) (hm:most≤9223372036854775807):rText most ⟨a++textB s++c,a.length,0⟩=(s,⟨a++textB s++c,a.length+(textB s).length,0⟩):=by
 have e:a++textB s++c=a++numB (s.length:Int)++(s++c):=by unfold textB;simp [List.append_assoc]
 have hn:=rNum_back a (s++c) (n:=(s.length:Int)) (by omega) (by omega);have hw:rWithin 0 most ⟨a++textB s++c,a.length,0⟩=((s.length:Int),⟨a++textB s++c,a.length+(numB (s.length:Int)).length,0⟩):=by
  unfold rWithin;rw [e,hn,if_neg];rintro ⟨_,h⟩;dsimp only at h;omega
 unfold rText;rw [hw];dsimp only;have hl:(a++textB s++c).length=a.length+(numB (s.length:Int)).length+s.length+c.length:=by rw [e];simp only [List.length_append];omega
 rw [if_pos rfl,if_neg (by rw [hl];omega)];have hd:(a++textB s++c).drop (a.length+(numB (s.length:Int)).length)=s++c:=by
  rw [e, ←List.length_append,List.drop_left]
 rw [hd,Int.toNat_natCast,List.take_left' rfl];unfold textB;rw [List.length_append,Nat.add_assoc]
theorem rEnd_back (a:List UInt8):rEnd ⟨a,a.length,0⟩=(0,⟨a,a.length,0⟩):=by unfold rEnd;rw [if_neg (by simp)]
end
section
structure Ety where
 term:Int
 members:Int
 data:ByteArray
structure Hrd where
 term:Int
 vote:Int
 base:Int
 bterm:Int
 members:Int
 snap:ByteArray
 log:List Ety
def bytesOf (s:ByteArray):List UInt8:=s.data.toList
def ofBytes (l:List UInt8):ByteArray:=⟨l.toArray⟩
theorem ofBytes_of (s:ByteArray):ofBytes (bytesOf s)=s:=rfl
theorem bytesOf_of (l:List UInt8):bytesOf (ofBytes l)=l:=rfl
def sNone:ByteArray:=⟨#[]⟩
def hrd0:Hrd:=⟨0,0,0,0,0,sNone,[]⟩
def fitsE (x:Ety) (behind term:Int):Bool :=
 decide (1≤x.term) && decide (behind≤x.term) && decide (x.term≤term) && decide (0≤x.members) && decide (x.members≤127) && decide (x.data.size≤1100) && (decide (x.members=0) || decide (x.data.size=0))
def logOk:List Ety→Int→Int→Bool
 | [],_,_=>true
 | x::r,behind,term=>fitsE x behind term && logOk r x.term term
def lastT (l:List Ety) (behind:Int):Int:=match l.getLast? with
 | some x=>x.term
 | none=>behind
theorem logOk_app (term:Int):∀ (l m:List Ety) (b:Int),logOk (l++m) b term=(logOk l b term && logOk m (lastT l b) term)
 | [],m,b=>by simp [logOk,lastT]
 | x::r,m,b=>by
  rw [List.cons_append,logOk,logOk,logOk_app term r m x.term,Bool.and_assoc]
  congr 2
  cases r with
  | nil=>rfl
  | cons y r=>rfl
theorem logOk_take {term b:Int} {l:List Ety} (h:logOk l b term=true) (k:Nat):logOk (l.take k) b term=true:=by
 rw [←List.take_append_drop k l,logOk_app,Bool.and_eq_true] at h;exact h.1
def headOk (h:Hrd):Bool :=
 decide (0≤h.term) && decide (h.term≤1099511627776) && decide (-1≤h.vote) && decide (h.vote<7) && decide (1≤h.members) && decide (h.members≤127) &&
 decide (0≤h.base) && decide (h.base≤1099511627776) && decide (0≤h.bterm) && decide (h.bterm≤h.term) && (decide (h.bterm=0) == decide (h.base=0))
def bareH (h:Hrd):Bool:=headOk h && decide (h.log.length≤200) && decide ((h.log.length:Int)≤1099511627776 - h.base) && logOk h.log h.bterm h.term
def rightH (h:Hrd):Bool:=bareH h && (decide (h.snap.size=0) == decide (h.base=0)) && decide (h.snap.size≤65536)
structure Sg where
 h:Hrd
 begun:Bool
 whole:Bool
 size:Nat
def sg0:Sg:=⟨hrd0,false,false,0⟩
def beganS (s:Sg) (h:Hrd):Option Sg:=if s.begun=false∧bareH h=true then some { s with h:=h,begun:=true } else none
def grownS (s:Sg) (x:Ety):Option Sg :=
 if s.h.log.length<200∧s.h.base+s.h.log.length<1099511627776∧fitsE x (lastT s.h.log s.h.bterm) s.h.term=true then some { s with h:={ s.h with log:=s.h.log++[x] } } else none
def doneS (s:Sg):Option Sg:=if s.begun=true∧s.whole=false then some { s with whole:=true } else none
def votedS (s:Sg) (t v:Int):Option Sg :=
 if s.whole=true∧s.h.term≤t∧¬ (t=s.h.term∧s.h.vote ≠ -1)∧t≤1099511627776 ∧ -1≤v∧v<7 then some { s with h:={ s.h with term:=t,vote:=v } } else none
def shorterS (s:Sg) (n:Int):Option Sg :=
 if s.whole=true∧s.h.base≤n∧n - s.h.base≤s.h.log.length then some { s with h:={ s.h with log:=s.h.log.take (n - s.h.base).toNat } } else none
inductive Rec where
 | beg (h:Hrd)
 | ety (x:Ety)
 | rdy
 | vot (t v:Int)
 | cut (n:Int)
def Rec.kind:Rec→Int
 | .beg _=>1
 | .ety _=>2
 | .rdy=>3
 | .vot _ _=>4
 | .cut _=>5
def ended (r:Rdr) (x:Rec):Option Rec:=if (rEnd r).1=0 then some x else none
def recBeg (r:Rdr):Option Rec :=
 let t:=rNum r
 let v:=rNum t.2
 let b:=rNum v.2
 let bt:=rNum b.2
 let m:=rNum bt.2
 ended m.2 (.beg ⟨t.1,v.1,b.1,bt.1,m.1,sNone,[]⟩)
def recEty (r:Rdr):Option Rec :=
 let t:=rNum r
 let m:=rNum t.2
 let d:=rText 1100 m.2
 ended d.2 (.ety ⟨t.1,m.1,ofBytes d.1⟩)
def recVot (r:Rdr):Option Rec :=
 let t:=rNum r
 let v:=rNum t.2
 ended v.2 (.vot t.1 v.1)
def recCut (r:Rdr):Option Rec:=ended (rNum r).2 (.cut (rNum r).1)
def parseR (p:List UInt8):Option Rec :=
 let q:=rNum (rd0 p)
 if q.1=1 then recBeg q.2 else if q.1=2 then recEty q.2 else if q.1=3 then ended q.2 .rdy else if q.1=4 then recVot q.2 else if q.1=5 then recCut q.2 else none
def stepS (s:Sg):Rec→Option Sg
 | .beg h=>beganS s h
 | .ety x=>if s.begun then grownS s x else none
 | .rdy=>doneS s
 | .vot t v=>votedS s t v
 | .cut n=>shorterS s n
def takeS (s:Sg) (p:List UInt8):Option Sg:=(parseR p).bind (stepS s)
structure SgOk (s:Sg):Prop where
 bare:s.begun=true→bareH s.h=true
 wh:s.whole=true→s.begun=true
 snap:s.h.snap=sNone
theorem SgOk.zero:SgOk sg0:=⟨fun h=>(by cases h),fun h=>(by cases h),rfl⟩
theorem bareH_iff (h:Hrd):bareH h=true↔headOk h=true∧h.log.length≤200∧(h.log.length:Int)≤1099511627776 - h.base∧logOk h.log h.bterm h.term=true:=by
 unfold bareH;simp only [Bool.and_eq_true,decide_eq_true_eq,and_assoc]
theorem SgOk.grown {s s':Sg} {x:Ety} (h:SgOk s) (hb:s.begun=true) (e:grownS s x=some s'):SgOk s'∧s'.begun=true:=by
 unfold grownS at e
 split at e
 ·rename_i hc
  cases e
  refine ⟨⟨fun _=>?_,h.wh,h.snap⟩,hb⟩;have h1:=(bareH_iff _).1 (h.bare hb);rw [bareH_iff];refine ⟨h1.1,by simp;omega,by simp;omega,?_⟩
  show logOk (s.h.log++[x]) s.h.bterm s.h.term=true
  rw [logOk_app,h1.2.2.2,Bool.true_and,logOk,hc.2.2];rfl
 ·cases e
theorem SgOk.shorter {s s':Sg} {n:Int} (h:SgOk s) (e:shorterS s n=some s'):SgOk s'∧s'.begun=s.begun:=by
 unfold shorterS at e
 split at e
 ·cases e
  refine ⟨⟨fun hb=>?_,h.wh,h.snap⟩,rfl⟩;have h1:=(bareH_iff _).1 (h.bare hb);rw [bareH_iff];have hl:(s.h.log.take (n - s.h.base).toNat).length≤s.h.log.length:=by rw [List.length_take];omega
  exact ⟨h1.1,by show (s.h.log.take _).length≤_;omega,by show ((s.h.log.take _).length:Int)≤1099511627776 - s.h.base;have:=h1.2.2.1;omega,logOk_take h1.2.2.2 _⟩
 ·cases e
end
section
def docNext (h:Hrd):Rec→Option Hrd
 | .beg g=>some g
 | .ety x=>some { h with log:=h.log++[x] }
 | .rdy=>some h
 | .vot t v=>if t<h.term∨(t=h.term∧h.vote ≠ -1) then none else some { h with term:=t,vote:=v }
 | .cut n=>if n<h.base∨h.base+h.log.length<n then none else some { h with log:=h.log.take (n - h.base).toNat }
def docOk (g:Hrd) (opn:Bool) (k:Int):Bool:=bareH g && (if opn then decide (k=2) || decide (k=3) else decide (k≠1) && decide (k≠3))
def docStep (h:Hrd) (opn:Bool) (r:Rec):Option Hrd:=(docNext h r).bind fun g=>if docOk g opn r.kind then some g else none
theorem headOk_iff (h:Hrd):headOk h=true↔(0≤h.term∧h.term≤1099511627776 ∧ -1≤h.vote∧h.vote<7∧1≤h.members∧h.members≤127∧0≤h.base∧h.base≤1099511627776∧0≤h.bterm∧h.bterm≤h.term∧(h.bterm=0↔h.base=0)):=by
 unfold headOk;simp only [Bool.and_eq_true,decide_eq_true_eq,beq_iff_eq,and_assoc,decide_eq_decide]
theorem fits_mono {x:Ety} {b t t':Int} (h:fitsE x b t=true) (ht:t≤t'):fitsE x b t'=true:=by
 unfold fitsE at *;simp only [Bool.and_eq_true,decide_eq_true_eq,Bool.or_eq_true] at *
 omega
theorem logOk_mono:∀ {l:List Ety} {b t t':Int},logOk l b t=true→t≤t'→logOk l b t'=true
 | [],_,_,_,_,_=>rfl
 | x::r,b,t,t',h,ht=>by
  rw [logOk,Bool.and_eq_true] at *;exact ⟨fits_mono h.1 ht,logOk_mono h.2 ht⟩
theorem docOk_no {g:Hrd} {o:Bool} {k:Int} (h:bareH g=false):docOk g o k=false:=by unfold docOk;rw [h];rfl
theorem doc_step {s:Sg} (ok:SgOk s) (hb:s.begun=true) (r:Rec):docStep s.h (!s.whole) r=(stepS s r).map (·.h):=by
 have hbare:=ok.bare hb;obtain ⟨hh,hl,hli,hlo⟩:=(bareH_iff _).1 hbare;have hh':=(headOk_iff _).1 hh;unfold docStep
 cases r with
 | beg h =>
  show (if docOk h (!s.whole) 1=true then some h else none)=(beganS s h).map (·.h)
  have h1:docOk h (!s.whole) 1=false:=by unfold docOk;cases s.whole<;>cases bareH h<;>rfl
  have h2:beganS s h=none:=if_neg (by rw [hb];simp);rw [h1,h2];rfl
 | ety x =>
  show (if docOk { s.h with log:=s.h.log++[x] } (!s.whole) 2=true then some _ else none)=(if s.begun=true then grownS s x else none).map (·.h)
  rw [if_pos hb];have hiff:bareH { s.h with log:=s.h.log++[x] }=true↔(s.h.log.length<200∧s.h.base+s.h.log.length<1099511627776∧fitsE x (lastT s.h.log s.h.bterm) s.h.term=true):=by
   rw [bareH_iff]
   show headOk s.h=true∧(s.h.log++[x]).length≤200∧((s.h.log++[x]).length:Int)≤1099511627776 - s.h.base∧logOk (s.h.log++[x]) s.h.bterm s.h.term=true↔_
   rw [logOk_app,hlo,Bool.true_and,logOk,logOk,Bool.and_true,List.length_append,List.length_singleton]
   constructor
   ·rintro ⟨_,h1,h2,h3⟩;exact ⟨by omega,by omega,h3⟩
   ·rintro ⟨h1,h2,h3⟩;exact ⟨hh,by omega,by omega,h3⟩
  unfold grownS
  cases hc:bareH { s.h with log:=s.h.log++[x] } with
  | true =>
   have h2:docOk { s.h with log:=s.h.log++[x] } (!s.whole) 2=true:=by unfold docOk;rw [hc];cases s.whole<;>rfl
   rw [if_pos (hiff.1 hc),if_pos h2];rfl
  | false =>
   have h3:¬ (s.h.log.length<200∧s.h.base+s.h.log.length<1099511627776∧fitsE x (lastT s.h.log s.h.bterm) s.h.term=true):=fun h=>by have h4:=hiff.2 h;rw [hc] at h4;cases h4
   rw [docOk_no hc,if_neg h3];rfl
 | rdy =>
  show (if docOk s.h (!s.whole) 3=true then some s.h else none)=(doneS s).map (·.h)
  unfold doneS docOk;rw [hbare,hb]
  cases s.whole<;>rfl
 | vot t v =>
  show (if t<s.h.term∨(t=s.h.term∧s.h.vote ≠ -1) then none else some _:Option Hrd).bind (fun g=>if docOk g (!s.whole) 4=true then some g else none)=(votedS s t v).map (·.h)
  unfold votedS
  by_cases hbad:t<s.h.term∨(t=s.h.term∧s.h.vote ≠ -1)
  ·rw [if_pos hbad,if_neg]
   ·rfl
   ·rintro ⟨_,h1,h2,_⟩
    rcases hbad with h | h
    ·omega
    ·exact h2 h
  ·rw [if_neg hbad];have hge:s.h.term≤t:=by
    rcases Int.lt_or_le t s.h.term with h | h
    ·exact absurd (.inl h) hbad
    ·exact h
   have hiff:bareH { s.h with term:=t,vote:=v }=true↔(t≤1099511627776 ∧ -1≤v∧v<7):=by
    rw [bareH_iff,headOk_iff];dsimp only
    constructor
    ·rintro ⟨h1,_⟩;exact ⟨h1.2.1,h1.2.2.1,h1.2.2.2.1⟩
    ·rintro ⟨h1,h2,h3⟩;exact ⟨⟨by omega,h1,h2,h3,hh'.2.2.2.2.1,hh'.2.2.2.2.2.1,hh'.2.2.2.2.2.2.1,hh'.2.2.2.2.2.2.2.1,hh'.2.2.2.2.2.2.2.2.1,by omega,hh'.2.2.2.2.2.2.2.2.2.2⟩,hl,hli,logOk_mono hlo hge⟩
   show (if docOk { s.h with term:=t,vote:=v } (!s.whole) 4=true then some _ else none)=_
   cases hw:s.whole with
   | false =>
    have h2:docOk { s.h with term:=t,vote:=v } (!false) 4=false:=by unfold docOk;cases bareH { s.h with term:=t,vote:=v }<;>rfl
    rw [h2,if_neg (show ¬ (false=true∧s.h.term≤t∧¬ (t=s.h.term∧s.h.vote ≠ -1)∧t≤1099511627776 ∧ -1≤v∧v<7) from fun h=>by cases h.1)];rfl
   | true =>
    cases hc:bareH { s.h with term:=t,vote:=v } with
    | true =>
     have h2:docOk { s.h with term:=t,vote:=v } (!true) 4=true:=by unfold docOk;rw [hc];rfl
     obtain ⟨h3,h4,h5⟩:=hiff.1 hc;rw [h2,if_pos (show true=true∧s.h.term≤t∧¬ (t=s.h.term∧s.h.vote ≠ -1)∧t≤1099511627776 ∧ -1≤v∧v<7 from ⟨rfl,hge,fun h=>hbad (.inr h),h3,h4,h5⟩)];rfl
    | false =>
     have h3:¬ (true=true∧s.h.term≤t∧¬ (t=s.h.term∧s.h.vote ≠ -1)∧t≤1099511627776 ∧ -1≤v∧v<7):=fun h=>by have h4:=hiff.2 ⟨h.2.2.2.1,h.2.2.2.2.1,h.2.2.2.2.2⟩;rw [hc] at h4;cases h4
     rw [docOk_no hc,if_neg h3];rfl
 | cut n =>
  show (if n<s.h.base∨s.h.base+s.h.log.length<n then none else some _:Option Hrd).bind (fun g=>if docOk g (!s.whole) 5=true then some g else none)=(shorterS s n).map (·.h)
  unfold shorterS
  by_cases hbad:n<s.h.base∨s.h.base+s.h.log.length<n
  ·rw [if_pos hbad,if_neg (by rintro ⟨_,h1,h2⟩;omega)];rfl
  ·rw [if_neg hbad];have hc:bareH { s.h with log:=s.h.log.take (n - s.h.base).toNat }=true:=by
    rw [bareH_iff];have hl2:(s.h.log.take (n - s.h.base).toNat).length≤s.h.log.length:=by rw [List.length_take];omega
    exact ⟨hh,Nat.le_trans hl2 hl,by show ((s.h.log.take _).length:Int)≤1099511627776 - s.h.base;omega,logOk_take hlo _⟩
   show (if docOk { s.h with log:=s.h.log.take (n - s.h.base).toNat } (!s.whole) 5=true then some _ else none)=_
   unfold docOk;rw [hc]
   cases hw:s.whole with
   | false=>rw [if_neg (show ¬ (false=true∧s.h.base≤n∧n - s.h.base≤s.h.log.length) from fun h=>by cases h.1)];rfl
   | true=>rw [if_pos (show true=true∧s.h.base≤n∧n - s.h.base≤s.h.log.length from ⟨rfl,by omega,by omega⟩)];rfl
end
end Go.Proofs.YtgpgcnmnfnnkjaaGreatDoor
