import Derived.Test.YtgpgcnmnfnnkjaaGreatDoorGStorePlays0
import Derived.Test.YtgpgcnmnfnnkjaaGreatDoorGStorePlays9
import Derived.Lib.ItoaNum
import Derived.Test.YtgpgcnmnfnnkjaaGreatDoorGStorePlays5
set_option linter.unusedVariables false
set_option linter.unusedSimpArgs false
set_option maxRecDepth 100000
set_option maxHeartbeats 16000000
namespace Go.Proofs.YtgpgcnmnfnnkjaaGreatDoor
section
open Go Go.RowKit Go.PlainAid
def readS:Nat→List UInt8→Sg→Sg
 | 0,_,s=>s
 | f+1,b,s=>if Frm.errAt b s.size=0 then
  match takeS s (Frm.payAt b s.size) with
  | some t=>readS f b { t with size:=(Frm.toAt b s.size).toNat }
  | none=>s
  else s
def readSeg (b:List UInt8):Sg:=readS (b.length+1) b sg0
def hdW:List UInt8:=[119,97,108,46]
def nameW (n:Nat):ByteArray:=⟨(hdW++Lib.decDigits n).toArray⟩
def digB (c:UInt8):Bool:=decide (48≤c.toNat) && decide (c.toNat≤57)
def valW (l:List UInt8) (n:Nat):Nat:=l.foldl (fun n c=>10 * n+(c.toNat - 48)) n
def digsW:List UInt8→Nat→Nat
 | [],n=>n
 | c::r,n=>if digB c then digsW r (10 * n+(c.toNat - 48)) else 0
def numW (s:ByteArray):Nat :=
 if s.size≤4∨(bytesOf s).take 4≠hdW∨18<s.size∨(bytesOf s)[4]?=some 48 then 0 else digsW ((bytesOf s).drop 4) 0
def posR (out:List Nat) (n:Nat):Nat→Nat
 | 0=>0
 | k+1=>if n<out.getD k 0 then posR out n k else k+1
def insW (out:List Nat) (n:Nat):List Nat:=out.take (posR out n out.length)++n::out.drop (posR out n out.length)
def segStep (out:List Nat) (s:ByteArray):List Nat:=if numW s=0 then out else insW out (numW s)
def segsW (l:List ByteArray):List Nat:=l.foldl segStep []
structure Wl where
 n:Nat
 h:Hrd
 down:Bool
def fileW (d:Dk) (n:Nat):List UInt8:=(readD d (nameW n)).getD []
def pickW (d:Dk):List Nat→Option (Nat×Sg)
 | []=>none
 | k::r=>if (readSeg (fileW d k)).whole then some (k,readSeg (fileW d k)) else pickW d r
def thenD (r:Int×Dk) (f:Dk→Int×Dk):Int×Dk:=if r.1=0 then f r.2 else r
def removesD:List Nat→Nat→Dk→Int×Dk
 | [],_,d=>(0,d)
 | k::r,n,d=>if k=n then removesD r n d else thenD (removeD d (nameW k)) (removesD r n)
def cutS (d:Dk) (n:Nat) (s:Sg):Int×Dk:=if 0<n∧s.size<(fileW d n).length then cutD d (nameW n) s.size else (0,d)
def cleanD (d:Dk) (l:List Nat) (n:Nat) (s:Sg):Int×Dk :=
 thenD (cutS d n s) fun d=>thenD (removesD l n d) fun d=>if 0<n then syncD d (nameW n) else (0,d)
def hrdV:Hrd:={ hrd0 with vote := -1 }
def pickN (d:Dk):Nat×Sg:=(pickW d (segsW (d.fs.map (·.name))).reverse).getD (0,sg0)
def openH (d:Dk):Hrd:=if (pickN d).1=0 then hrdV else (pickN d).2.h
def cleanW (d:Dk):Int×Dk:=cleanD d (segsW (d.fs.map (·.name))) (pickN d).1 (pickN d).2
def openW (d:Dk):Option Wl:=if (cleanW d).1=0 then some ⟨(pickN d).1,openH d,false⟩ else none
def bareOf (h:Hrd):Hrd:={ h with snap:=sNone }
def etyEq (x y:Ety):Bool:=decide (x.term=y.term) && decide (x.members=y.members) && eqS x.data y.data
def commonE:List Ety→List Ety→Nat
 | x::r,y::s=>if etyEq x y then commonE r s+1 else 0
 | _,_=>0
def sameW (x h:Hrd):Bool :=
 decide (h.term=x.term) && decide (h.vote=x.vote) && decide (h.base=x.base) && decide (h.bterm=x.bterm) && decide (h.members=x.members) &&
 decide (h.log.length=x.log.length) && decide (commonE h.log x.log=h.log.length)
def anewW (d:Dk) (w:Wl) (h:Hrd):Bool :=
 decide (w.n=0) || decide (8192<(fileW d w.n).length) || decide (h.base≠w.h.base) || decide (h.bterm≠w.h.bterm) || decide (h.members≠w.h.members) ||
 decide (h.term<w.h.term) || (decide (h.term=w.h.term) && decide (w.h.vote ≠ -1) && decide (h.vote≠w.h.vote))
def numsB:List Int→List UInt8
 | []=>[]
 | n::r=>numB n++numsB r
def recB (l:List Int):List UInt8:=Frm.one (numsB l)
def etyB (x:Ety):List UInt8:=Frm.one (numsB [2,x.term,x.members]++textB (bytesOf x.data))
def etysB (l:List Ety):List UInt8:=l.flatMap etyB
def layB (h:Hrd):List UInt8:=recB [1,h.term,h.vote,h.base,h.bterm,h.members]++etysB h.log++recB [3]
def moreB (x h:Hrd):List UInt8 :=
 (if h.term≠x.term∨h.vote≠x.vote then recB [4,h.term,h.vote] else []) ++
 (if commonE h.log x.log<x.log.length then recB [5,h.base+commonE h.log x.log] else [])++etysB (h.log.drop (commonE h.log x.log))
def writeD (d:Dk) (n:Nat) (b:List UInt8):Int×Dk:=thenD (appendD d (nameW n) b) fun d=>syncD d (nameW n)
def layW (d:Dk) (n:Nat) (h:Hrd):Int×Nat×Dk :=
 let r:=writeD d (n+1) (layB h)
 if r.1=0 then (if n=0 then (0,1,r.2) else let q:=removeD r.2 (nameW n);(q.1,n+1,q.2)) else (r.1,n,r.2)
def keepW (w:Wl) (h:Hrd) (r:Int×Nat×Dk):Int×Wl×Dk:=if r.1=0 then (0,⟨r.2.1,bareOf h,false⟩,r.2.2) else (r.1,⟨r.2.1,w.h,true⟩,r.2.2)
def saveW (d:Dk) (w:Wl) (h:Hrd):Int×Wl×Dk :=
 if rightH h=false then (1,w,d)
 else if w.down=true then (18,w,d)
 else if 0<w.n∧sameW w.h h=true then (0,w,d)
 else if anewW d w h=false then keepW w h ((writeD d w.n (moreB w.h h)).1,w.n,(writeD d w.n (moreB w.h h)).2)
 else if 14<(Lib.decDigits (w.n+1)).length then (14,w,d)
 else keepW w h (layW d w.n h)
end
section
open Go Go.RowKit Go.PlainAid
theorem SgOk.step {s t:Sg} {p:List UInt8} (ok:SgOk s) (h:takeS s p=some t):SgOk t:=by
 unfold takeS at h
 cases hp:parseR p with
 | none=>rw [hp] at h;cases h
 | some x =>
  rw [hp] at h;replace h:stepS s x=some t:=h
  cases x with
  | beg g =>
   have hs:g.snap=sNone:=by
    unfold parseR at hp;dsimp only at hp
    split at hp
    ·unfold recBeg ended at hp;dsimp only at hp
     split at hp
     ·cases hp;rfl
     ·cases hp
    ·split at hp
     ·unfold recEty ended at hp;dsimp only at hp;split at hp<;>cases hp
     ·split at hp
      ·unfold ended at hp;split at hp<;>cases hp
      ·split at hp
       ·unfold recVot ended at hp;dsimp only at hp;split at hp<;>cases hp
       ·split at hp
        ·unfold recCut ended at hp;split at hp<;>cases hp
        ·cases hp
   replace h:beganS s g=some t:=h;unfold beganS at h
   split at h
   ·rename_i hc
    cases h
    exact ⟨fun _=>hc.2,fun hw=>rfl,hs⟩
   ·cases h
  | ety x =>
   replace h:(if s.begun=true then grownS s x else none)=some t:=h
   split at h
   ·rename_i hb;exact (ok.grown hb h).1
   ·cases h
  | rdy =>
   replace h:doneS s=some t:=h;unfold doneS at h
   split at h
   ·rename_i hc;cases h;exact ⟨fun _=>ok.bare hc.1,fun _=>hc.1,ok.snap⟩
   ·cases h
  | vot a b =>
   replace h:votedS s a b=some t:=h;unfold votedS at h
   split at h
   ·rename_i hc
    cases h
    refine ⟨fun hb=>?_,ok.wh,ok.snap⟩;have hb1:=ok.bare (ok.wh hc.1);obtain ⟨hh,hl,hli,hlo⟩:=(bareH_iff _).1 hb1;have hh':=(headOk_iff _).1 hh;rw [bareH_iff,headOk_iff];dsimp only;exact ⟨⟨by omega,by omega,by omega,by omega,hh'.2.2.2.2.1,hh'.2.2.2.2.2.1,hh'.2.2.2.2.2.2.1,hh'.2.2.2.2.2.2.2.1,hh'.2.2.2.2.2.2.2.2.1,by omega,hh'.2.2.2.2.2.2.2.2.2.2⟩,hl,hli,logOk_mono hlo hc.2.1⟩
   ·cases h
  | cut n=>exact (ok.shorter (show shorterS s n=some t from h)).1
theorem SgOk.size {s:Sg} (ok:SgOk s) (n:Nat):SgOk { s with size:=n }:=⟨ok.bare,ok.wh,ok.snap⟩
theorem SgOk.read:∀ (f:Nat) (b:List UInt8) (s:Sg),SgOk s→SgOk (readS f b s)
 | 0,_,_,h=>h
 | f+1,b,s,h=>by
  rw [readS]
  split
  ·split
   ·rename_i t ht;exact SgOk.read f b _ ((h.step ht).size _)
   ·exact h
  ·exact h
theorem readSeg_ok (b:List UInt8):SgOk (readSeg b):=SgOk.read _ _ _ SgOk.zero
theorem frm_in {b:List UInt8} {a:Nat} (ha:a≤b.length) (h:Frm.errAt b a=0):∃ n:Nat,Frm.toAt b a=(n:Int)∧a+9≤n∧n≤b.length∧(Frm.payAt b a).length≤131072:=by
 have h2:Frm.err (b.drop a)=0:=by unfold Frm.errAt at h;rw [if_neg (by omega)] at h;simpa using h
 obtain ⟨e1,e2,e3,_⟩:=Frm.err_ok h2;rw [List.length_drop] at e3;refine ⟨a+8+Frm.len (b.drop a),?_,by omega,by omega,?_⟩
 ·unfold Frm.toAt;rw [if_pos h];simp
 ·unfold Frm.payAt;rw [if_pos h];simp only [Int.toNat_natCast];rw [Frm.pay_length h2];exact e2
theorem readS_stop {f:Nat} {b:List UInt8} {s:Sg} (h:Frm.errAt b s.size≠0):readS f b s=s:=by
 cases f with
 | zero=>rfl
 | succ f=>rw [readS,if_neg h]
theorem readS_no {f:Nat} {b:List UInt8} {s:Sg} (h:Frm.errAt b s.size=0) (ht:takeS s (Frm.payAt b s.size)=none):readS f b s=s:=by
 cases f with
 | zero=>rfl
 | succ f=>rw [readS,if_pos h,ht]
theorem readS_go {f:Nat} {b:List UInt8} {s t:Sg} (h:Frm.errAt b s.size=0) (ht:takeS s (Frm.payAt b s.size)=some t):readS (f+1) b s=readS f b { t with size:=(Frm.toAt b s.size).toNat }:=by rw [readS,if_pos h,ht]
end
section
open Go Go.RowKit Go.PlainAid
def hdP:List UInt8:=[115,110,97,112,46]
def freshS:ByteArray:=⟨#[115,110,97,112,46,116,109,112]⟩
def nameP (n:Nat):ByteArray:=⟨(hdP++Lib.decDigits n).toArray⟩
def numbB (l:List UInt8):Bool := !(decide (l.length≤5) || decide (l.take 5≠hdP) || decide (19<l.length) || decide (l[5]?=some 48)) && (l.drop 5).all digB
def numbS (s:ByteArray):Bool:=numbB (bytesOf s)
def payP (h:Hrd):List UInt8:=numsB [h.base,h.bterm,h.members]++textB (bytesOf h.snap)
def snapB (h:Hrd):List UInt8:=Frm.one (payP h)
def parseP (p:List UInt8) (h:Hrd):Option (List UInt8) :=
 let b:=rNum (rd0 p)
 let t:=rNum b.2
 let m:=rNum t.2
 let s:=rText 65536 m.2
 if (rEnd s.2).1=0∧b.1=h.base∧t.1=h.bterm∧m.1=h.members∧s.1≠[] then some s.1 else none
def readP (b:List UInt8) (h:Hrd):Option (List UInt8) :=
 if Frm.errAt b 0=0∧Frm.toAt b 0=b.length then parseP (Frm.payAt b 0) h else none
def dropS (n:Nat) (s:ByteArray):Bool:=(eqS s freshS || numbS s) && !(decide (0<n) && eqS s (nameP n))
def dropD (n:Nat):List ByteArray→Dk→Int×Dk
 | [],d=>(0,d)
 | s::r,d=>if dropS n s then thenD (removeD d s) (dropD n r) else dropD n r d
def cleanP (d:Dk) (n:Nat):Int×Dk:=dropD n (d.fs.map (·.name)) d
structure Sto where
 w:Wl
 snap:ByteArray
 down:Bool
def fileP (d:Dk) (n:Nat):List UInt8:=(readD d (nameP n)).getD []
def snapO (d:Dk) (h:Hrd):Option (List UInt8):=if h.base=0 then some [] else readP (fileP d h.base.toNat) h
def openP (d:Dk):Int×Option Sto×Dk :=
 match openW d with
 | none=>((cleanW d).1,none,(cleanW d).2)
 | some ws=>match snapO (cleanW d).2 ws.h with
  | none=>(4,none,(cleanW d).2)
  | some s=>if (cleanP (cleanW d).2 ws.h.base.toNat).1=0 then (0,some ⟨ws,ofBytes s,false⟩,(cleanP (cleanW d).2 ws.h.base.toNat).2)
   else ((cleanP (cleanW d).2 ws.h.base.toNat).1,none,(cleanP (cleanW d).2 ws.h.base.toNat).2)
def writeP (d:Dk) (h:Hrd):Int×Dk :=
 thenD (if (readD d freshS).isSome then removeD d freshS else (0,d)) fun d =>
 thenD (appendD d freshS (snapB h)) fun d=>thenD (syncD d freshS) fun d=>renameD d freshS (nameP h.base.toNat)
def wantsP (s:Sto) (h:Hrd):Bool :=
 decide (h.base≠0) && (decide (h.base≠s.w.h.base) || decide (h.bterm≠s.w.h.bterm) || decide (h.members≠s.w.h.members) || !eqS h.snap s.snap)
def hardP (s:Sto):Hrd:={ s.w.h with snap:=s.snap }
def allP (d:Dk) (s:Sto) (h:Hrd):Int×Sto×Dk :=
 let p:=if wantsP s h then writeP d h else (0,d)
 if p.1≠0 then (p.1,s,p.2) else
 let q:=saveW p.2 s.w h
 if q.1≠0 then (q.1,⟨q.2.1,s.snap,s.down⟩,q.2.2) else
 if h.base=s.w.h.base∧eqS h.snap s.snap=true then (0,⟨q.2.1,h.snap,s.down⟩,q.2.2) else
 ((cleanP q.2.2 h.base.toNat).1,⟨q.2.1,h.snap,s.down⟩,(cleanP q.2.2 h.base.toNat).2)
def saveP (d:Dk) (s:Sto) (h:Hrd):Int×Sto×Dk :=
 if rightH h=false then (1,s,d) else if s.down=true then (18,s,d) else
 let r:=allP d s h
 (r.1,⟨r.2.1.w,r.2.1.snap,decide (r.1≠0)⟩,r.2.2)
end
section
open Go Go.RowKit Go.PlainAid
def Rec.pay:Rec→List UInt8
 | .beg h=>numsB [1,h.term,h.vote,h.base,h.bterm,h.members]
 | .ety x=>numsB [2,x.term,x.members]++textB (bytesOf x.data)
 | .rdy=>numsB [3]
 | .vot t v=>numsB [4,t,v]
 | .cut n=>numsB [5,n]
def fitI (n:Int):Prop := -9223372036854775808≤n∧n≤9223372036854775807
def Rec.ok:Rec→Prop
 | .beg h=>fitI h.term∧fitI h.vote∧fitI h.base∧fitI h.bterm∧fitI h.members∧h.snap=sNone∧h.log=[]
 | .ety x=>fitI x.term∧fitI x.members∧x.data.size≤1100
 | .rdy=>True
 | .vot t v=>fitI t∧fitI v
 | .cut n=>fitI n
theorem rNum_at {L a c:List UInt8} {n:Int} (hL:L=a++numB n++c) (h:fitI n):rNum ⟨L,a.length,0⟩=(n,⟨L,(a++numB n).length,0⟩):=by
 subst hL;rw [List.length_append];exact rNum_back a c h.1 h.2
theorem rEnd_at {L:List UInt8} {n:Nat} (h:n=L.length):(rEnd ⟨L,n,0⟩).1=0:=by subst h;rw [rEnd_back]
theorem parse_pay (r:Rec) (h:r.ok):parseR r.pay=some r:=by
 cases r with
 | beg g =>
  obtain ⟨h1,h2,h3,h4,h5,h6,h7⟩:=h;have e1:=rNum_at (L:=Rec.pay (.beg g)) (a:=[]) (c:=numsB [g.term,g.vote,g.base,g.bterm,g.members]) (n:=1) (by simp [Rec.pay,numsB]) (by constructor<;>decide);have e2:=rNum_at (L:=Rec.pay (.beg g)) (a:=numB 1) (c:=numsB [g.vote,g.base,g.bterm,g.members]) (n:=g.term) (by simp [Rec.pay,numsB]) h1;have e3:=rNum_at (L:=Rec.pay (.beg g)) (a:=numB 1++numB g.term) (c:=numsB [g.base,g.bterm,g.members]) (n:=g.vote) (by simp [Rec.pay,numsB]) h2
  have e4:=rNum_at (L:=Rec.pay (.beg g)) (a:=numB 1++numB g.term++numB g.vote) (c:=numsB [g.bterm,g.members]) (n:=g.base) (by simp [Rec.pay,numsB]) h3;have e5:=rNum_at (L:=Rec.pay (.beg g)) (a:=numB 1++numB g.term++numB g.vote++numB g.base) (c:=numsB [g.members]) (n:=g.bterm) (by simp [Rec.pay,numsB]) h4;have e6:=rNum_at (L:=Rec.pay (.beg g)) (a:=numB 1++numB g.term++numB g.vote++numB g.base++numB g.bterm) (c:=[]) (n:=g.members) (by simp [Rec.pay,numsB]) h5
  have e7:=rEnd_at (L:=Rec.pay (.beg g)) (n:=(numB 1++numB g.term++numB g.vote++numB g.base++numB g.bterm++numB g.members).length) (by simp [Rec.pay,numsB]);have e1':rNum (rd0 (Rec.pay (.beg g)))=(1,⟨Rec.pay (.beg g),(numB 1).length,0⟩):=e1;unfold parseR;dsimp only;rw [e1',if_pos rfl];unfold recBeg ended;dsimp only;rw [e2];dsimp only;rw [e3];dsimp only;rw [e4];dsimp only;rw [e5];dsimp only;rw [e6];dsimp only;rw [if_pos e7]
  cases g;dsimp only at h6 h7;rw [h6,h7]
 | ety x =>
  obtain ⟨h1,h2,h3⟩:=h;have e1:rNum (rd0 (Rec.pay (.ety x)))=(2,⟨Rec.pay (.ety x),(numB 2).length,0⟩):=rNum_at (L:=Rec.pay (.ety x)) (a:=[]) (c:=numsB [x.term,x.members]++textB (bytesOf x.data)) (n:=2) (by simp [Rec.pay,numsB]) (by constructor<;>decide);have e2:=rNum_at (L:=Rec.pay (.ety x)) (a:=numB 2) (c:=numsB [x.members]++textB (bytesOf x.data)) (n:=x.term) (by simp [Rec.pay,numsB]) h1;have e3:=rNum_at (L:=Rec.pay (.ety x)) (a:=numB 2++numB x.term) (c:=textB (bytesOf x.data)) (n:=x.members) (by simp [Rec.pay,numsB]) h2
  have e4 := rText_back (numB 2 ++ numB x.term ++ numB x.members) [] (bytesOf x.data) (most := 1100) (by have : (bytesOf x.data).length = x.data.size := by simp [bytesOf]
                                                                                                         omega) (by decide)
  have eL:numB 2++numB x.term++numB x.members++textB (bytesOf x.data)++[]=Rec.pay (.ety x):=by simp [Rec.pay,numsB]
  rw [eL] at e4;have e5:=rEnd_at (L:=Rec.pay (.ety x)) (n:=(numB 2++numB x.term++numB x.members).length+(textB (bytesOf x.data)).length) (by simp [Rec.pay,numsB];omega);unfold parseR;dsimp only;rw [e1,if_neg (by simp),if_pos rfl];unfold recEty ended;dsimp only;rw [e2];dsimp only;rw [e3];dsimp only;rw [e4];dsimp only;rw [if_pos e5]
  rfl
 | rdy =>
  have e1:rNum (rd0 (Rec.pay .rdy))=(3,⟨Rec.pay .rdy,(numB 3).length,0⟩):=rNum_at (L:=Rec.pay .rdy) (a:=[]) (c:=[]) (n:=3) (by simp [Rec.pay,numsB]) (by constructor<;>decide);have e5:=rEnd_at (L:=Rec.pay .rdy) (n:=(numB 3).length) (by simp [Rec.pay,numsB]);unfold parseR;dsimp only;rw [e1,if_neg (by simp),if_neg (by simp),if_pos rfl];unfold ended;dsimp only;rw [if_pos e5]
 | vot t v =>
  obtain ⟨h1,h2⟩:=h;have e1:rNum (rd0 (Rec.pay (.vot t v)))=(4,⟨Rec.pay (.vot t v),(numB 4).length,0⟩):=rNum_at (L:=Rec.pay (.vot t v)) (a:=[]) (c:=numsB [t,v]) (n:=4) (by simp [Rec.pay,numsB]) (by constructor<;>decide);have e2:=rNum_at (L:=Rec.pay (.vot t v)) (a:=numB 4) (c:=numsB [v]) (n:=t) (by simp [Rec.pay,numsB]) h1;have e3:=rNum_at (L:=Rec.pay (.vot t v)) (a:=numB 4++numB t) (c:=[]) (n:=v) (by simp [Rec.pay,numsB]) h2;have e5:=rEnd_at (L:=Rec.pay (.vot t v)) (n:=(numB 4++numB t++numB v).length) (by simp [Rec.pay,numsB]);unfold parseR;dsimp only
  rw [e1,if_neg (by simp),if_neg (by simp),if_neg (by simp),if_pos rfl];unfold recVot ended;dsimp only;rw [e2];dsimp only;rw [e3];dsimp only;rw [if_pos e5]
 | cut n =>
  have e1:rNum (rd0 (Rec.pay (.cut n)))=(5,⟨Rec.pay (.cut n),(numB 5).length,0⟩):=rNum_at (L:=Rec.pay (.cut n)) (a:=[]) (c:=numsB [n]) (n:=5) (by simp [Rec.pay,numsB]) (by constructor<;>decide);have e2:=rNum_at (L:=Rec.pay (.cut n)) (a:=numB 5) (c:=[]) (n:=n) (by simp [Rec.pay,numsB]) h;have e5:=rEnd_at (L:=Rec.pay (.cut n)) (n:=(numB 5++numB n).length) (by simp [Rec.pay,numsB]);unfold parseR;dsimp only;rw [e1,if_neg (by simp),if_neg (by simp),if_neg (by simp),if_neg (by simp),if_pos rfl];unfold recCut ended;rw [e2];dsimp only;rw [if_pos e5]
theorem numB_pos (n:Int):1≤(numB n).length:=by
 unfold numB;rw [vint];split<;>simp
theorem pay_none (r:Rec) (h:r.ok):Frm.none' r.pay=false:=by
 rw [Frm.none_iff]
 cases r with
 | beg g =>
  have:=numB_pos 1;have:=numB_le 1;have:=numB_le g.term;have:=numB_le g.vote;have:=numB_le g.base;have:=numB_le g.bterm;have:=numB_le g.members;simp only [Rec.pay,numsB,List.length_append,List.length_nil];omega
 | ety x =>
  have:=numB_pos 2;have:=numB_le 2;have:=numB_le x.term;have:=numB_le x.members;have:=numB_le ((bytesOf x.data).length:Int);have h3:=h.2.2;have e:(bytesOf x.data).length=x.data.size:=by simp [bytesOf]
  simp only [Rec.pay,numsB,textB,List.length_append,List.length_nil];omega
 | rdy=>have:=numB_pos 3;have:=numB_le 3;simp only [Rec.pay,numsB,List.length_append,List.length_nil];omega
 | vot t v=>have:=numB_pos 4;have:=numB_le 4;have:=numB_le t;have:=numB_le v;simp only [Rec.pay,numsB,List.length_append,List.length_nil];omega
 | cut n=>have:=numB_pos 5;have:=numB_le 5;have:=numB_le n;simp only [Rec.pay,numsB,List.length_append,List.length_nil];omega
def catR (K:List Rec):List UInt8:=Frm.cat (K.map Rec.pay)
def okR (K:List Rec):Prop:=∀ r ∈ K,r.ok
theorem catR_cons (r:Rec) (K:List Rec):catR (r::K)=Frm.one r.pay++catR K:=rfl
def runR (s:Sg):List Rec→Option Sg
 | []=>some s
 | r::K=>(stepS s r).bind fun t=>runR t K
theorem stepS_at {s t:Sg} {r:Rec} (h:stepS s r=some t) (n:Nat):stepS { s with size:=n } r=some { t with size:=n }:=by
 cases r with
 | beg g=>replace h:beganS s g=some t:=h;show beganS _ g=_;unfold beganS at *; split at h<;>cases h;rename_i hc;rw [if_pos hc]
 | ety x =>
  replace h:(if s.begun=true then grownS s x else none)=some t:=h
  show (if s.begun=true then grownS { s with size:=n } x else none)=_
  split at h
  ·rename_i hb;rw [if_pos hb];unfold grownS at *; split at h<;>cases h;rename_i hc;rw [if_pos hc]
  ·cases h
 | rdy=>replace h:doneS s=some t:=h;show doneS _=_;unfold doneS at *; split at h<;>cases h;rename_i hc;rw [if_pos hc]
 | vot a b=>replace h:votedS s a b=some t:=h;show votedS _ a b=_;unfold votedS at *; split at h<;>cases h;rename_i hc;rw [if_pos hc]
 | cut m=>replace h:shorterS s m=some t:=h;show shorterS _ m=_;unfold shorterS at *; split at h<;>cases h;rename_i hc;rw [if_pos hc]
theorem runR_at:∀ (K:List Rec) {s t:Sg} (_:runR s K=some t) (n:Nat),runR { s with size:=n } K=some { t with size:=n }
 | [],s,t,h,n=>by cases h;rfl
 | r::K,s,t,h,n=>by
  rw [runR] at h ⊢
  cases hs:stepS s r with
  | none=>rw [hs] at h;cases h
  | some u=>rw [hs] at h;rw [stepS_at hs n];exact runR_at K h n
theorem frm_at {a:List UInt8} {r:Rec} (h:r.ok) (c:List UInt8):Frm.errAt (a++(Frm.one r.pay++c)) (a.length:Nat)=0∧Frm.payAt (a++(Frm.one r.pay++c)) (a.length:Nat)=r.pay∧Frm.toAt (a++(Frm.one r.pay++c)) (a.length:Nat)=((a.length+(Frm.one r.pay).length:Nat):Int):=by
 have h1:=pay_none r h;obtain ⟨w1,w2,w3,_⟩:=Frm.whole h1 c;have hd:(a++(Frm.one r.pay++c)).drop ((a.length:Nat):Int).toNat=Frm.one r.pay++c:=by rw [Int.toNat_natCast,List.drop_left]
 have he:Frm.errAt (a++(Frm.one r.pay++c)) (a.length:Nat)=0:=by
  unfold Frm.errAt;rw [if_neg (by rw [List.length_append];omega),hd];exact w1
 refine ⟨he,?_,?_⟩
 ·unfold Frm.payAt;rw [if_pos he,hd];exact w3
 ·unfold Frm.toAt;rw [if_pos he,hd,w2,Frm.one_length h1];omega
theorem readS_run:∀ (K:List Rec) {s t:Sg} {a c:List UInt8} (f:Nat),okR K→runR s K=some t→s.size=a.length→(a++(catR K++c)).length<f+s.size →
 ∃ g,(a++(catR K++c)).length<g+(a.length+(catR K).length)∧readS f (a++(catR K++c)) s=readS g (a++(catR K++c)) { t with size:=a.length+(catR K).length }
 | [],s,t,a,c,f,_,h,hs,hf=>by
  cases h
  refine ⟨f,by rw [hs] at hf;exact hf,?_⟩
  show readS f (a++c) s=readS f (a++c) { s with size:=a.length+0 }
  rw [Nat.add_zero, ←hs]
 | r::K,s,t,a,c,f,ok,h,hs,hf=>by
  have hr:=ok r (by simp);rw [runR] at h
  cases hu:stepS s r with
  | none=>rw [hu] at h;cases h
  | some u =>
   rw [hu] at h;replace h:runR u K=some t:=h;have e0:a++(catR (r::K)++c)=a++(Frm.one r.pay++(catR K++c)):=by rw [catR_cons,List.append_assoc]
   have e1:a++(catR (r::K)++c)=(a++Frm.one r.pay)++(catR K++c):=by rw [e0,List.append_assoc]
   obtain ⟨q1,q2,q3⟩:=frm_at (a:=a) hr (catR K++c);have hol:=Frm.one_length (pay_none r hr);have hle:a.length+(Frm.one r.pay).length≤(a++(catR (r::K)++c)).length:=by rw [e1,List.length_append,List.length_append];omega
   cases f with
   | zero=>rw [hs] at hf;omega
   | succ f =>
    have ht:takeS s (Frm.payAt (a++(catR (r::K)++c)) s.size)=some u:=by
     rw [e0,hs,q2];unfold takeS;rw [parse_pay r hr];exact hu
    have he:Frm.errAt (a++(catR (r::K)++c)) s.size=0:=by rw [e0,hs];exact q1
    have hto:(Frm.toAt (a++(catR (r::K)++c)) s.size).toNat=(a++Frm.one r.pay).length:=by rw [e0,hs,q3,Int.toNat_natCast,List.length_append]
    rw [readS_go he ht,hto];have hru:=runR_at K h (a++Frm.one r.pay).length;have hla:(a++Frm.one r.pay).length=a.length+(Frm.one r.pay).length:=List.length_append;obtain ⟨g,g1,g2⟩:=readS_run K (s:={ u with size:=(a++Frm.one r.pay).length }) (a:=a++Frm.one r.pay) (c:=c) f (fun x hx=>ok x (by simp [hx])) hru rfl (by
     rw [←e1];show _<f+(a++Frm.one r.pay).length;rw [hla];omega)
    rw [←e1] at g1 g2;have e2:(a++Frm.one r.pay).length+(catR K).length=a.length+(catR (r::K)).length:=by rw [catR_cons,List.length_append,List.length_append];omega
    rw [e2] at g1 g2;exact ⟨g,g1,g2⟩
theorem readSeg_run {K:List Rec} {t:Sg} {c:List UInt8} (ok:okR K) (h:runR sg0 K=some t) (hc:Frm.err c≠0):readSeg (catR K++c)={ t with size:=(catR K).length }:=by
 obtain ⟨g,g1,g2⟩:=readS_run K (a:=[]) (c:=c) ((catR K++c).length+1) ok h rfl (by show ([]++(catR K++c)).length<_;simp [sg0]);unfold readSeg;rw [List.nil_append] at g1 g2;rw [g2];simp only [List.length_nil,Nat.zero_add] at g1 ⊢
 refine readS_stop ?_
 show Frm.errAt (catR K++c) ((catR K).length:Nat)≠0
 unfold Frm.errAt;rw [if_neg (by rw [List.length_append];omega),Int.toNat_natCast,List.drop_left];exact hc
end
end Go.Proofs.YtgpgcnmnfnnkjaaGreatDoor
