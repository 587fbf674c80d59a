/- Walks of package wal: read. Walks of package wal: clean. -/
import Derived.Test.YtgpgcnmnfnnkjaaDoorGWalCuts41
import Derived.Test.YtgpgcnmnfnnkjaaDoorGWalCuts23
import Derived.Test.YtgpgcnmnfnnkjaaDoorGWalCuts30
set_option linter.unusedVariables false
set_option linter.unusedSimpArgs false
section
namespace Go.Proofs.YtgpgcnmnfnnkjaaDoor
open Go Go.RowKit Go.PlainAid
def cellN (w : World) (g i : Nat) : Nat := match w.cell? ⟨g, i, none⟩ with
  | some (.int _ n) => n.toNat
  | _ => 0
theorem SegV.cellN {w : World} {B g : Nat} {v : Value} {s : Sg} (h : SegV w B g v s) : cellN w g 9 = s.size := by unfold Go.Proofs.YtgpgcnmnfnnkjaaDoor.cellN; rw [h.c9]; simp
def ReadsS (w : World) (b : List UInt8) (e : Ending) (w' : World) : Prop := ∃ vl, e = .returned (.agg (segA (readSeg b) vl)) ∧ OwnR etyE w' w.heap.size 36 vl (readSeg b).h.log ∧ Below w.heap.size w w'
/-- the segment is laid into the result's block -/
theorem ReadsS.done {w wz : World} {b : List UInt8} {s : Sg} {pl : Option Addr} {cl : Nat} (hz : SegV wz (w.heap.size + 1) (w.heap.size + 1) (.slice pl s.h.log.length cl) s) (hs : s = readSeg b) (hb : Below w.heap.size w wz) :
    ReadsS w b (.returned (.agg (segA s (.slice pl s.h.log.length cl)))) ((((((((((wz.setCell ⟨w.heap.size, 0, none⟩ (.int .i64 s.h.term)).setCell ⟨w.heap.size, 1, none⟩ (.int .i64 s.h.vote)).setCell ⟨w.heap.size, 2, none⟩ (.int .i64 s.h.base)).setCell ⟨w.heap.size, 3, none⟩ (.int .i64 s.h.bterm)).setCell ⟨w.heap.size, 4, none⟩ (.int .i64 s.h.members)).setCell ⟨w.heap.size, 5, none⟩ (.string s.h.snap)).setCell ⟨w.heap.size, 6, none⟩ (.slice pl s.h.log.length cl)).setCell ⟨w.heap.size, 7, none⟩ (.bool s.begun)).setCell ⟨w.heap.size, 8, none⟩ (.bool s.whole)).setCell ⟨w.heap.size, 9, none⟩ (.int .i64 (s.size : Int))) := by
  have hc := (((((((((((Chg.refl (fun k => k = w.heap.size) wz).setCell (p := ⟨w.heap.size, 0, none⟩) rfl (.int .i64 s.h.term)).setCell (p := ⟨w.heap.size, 1, none⟩) rfl (.int .i64 s.h.vote)).setCell (p := ⟨w.heap.size, 2, none⟩) rfl (.int .i64 s.h.base)).setCell (p := ⟨w.heap.size, 3, none⟩) rfl (.int .i64 s.h.bterm)).setCell (p := ⟨w.heap.size, 4, none⟩) rfl (.int .i64 s.h.members)).setCell (p := ⟨w.heap.size, 5, none⟩) rfl (.string s.h.snap)).setCell (p := ⟨w.heap.size, 6, none⟩) rfl (.slice pl s.h.log.length cl)).setCell (p := ⟨w.heap.size, 7, none⟩) rfl (.bool s.begun)).setCell (p := ⟨w.heap.size, 8, none⟩) rfl (.bool s.whole)).setCell (p := ⟨w.heap.size, 9, none⟩) rfl (.int .i64 (s.size : Int)))
  subst hs
  exact ⟨_, rfl, (hc.ownR hz.log (fun k hk e => by have := (hz.log.lt k hk).1; omega)).base (Nat.le_succ _), hb.trans (hc.below (B := w.heap.size) (fun k hk => by rw [hk]; exact Nat.le_refl _) hb.size)⟩

set_option maxRecDepth 8000 in
set_option maxHeartbeats 4000000 in
theorem walRead (v : Value) (b : List UInt8) (w : World) (hv : Bytes w v b) (hb : b.length ≤ 35184372088000) :
    Calls Tryd.prog 27 #[v] w (ReadsS w b) := by
  obtain ⟨p, cap, rfl⟩ := hv.shape
  have kA := (Blk.new w #[.int .i64 0, .int .i64 0, .int .i64 0, .int .i64 0, .int .i64 0, .string ⟨#[]⟩, .slice none 0 0, .bool false, .bool false, .int .i64 0] 63).ext (below_alloc _ (.cells #[.int .i64 0, .int .i64 0, .int .i64 0, .int .i64 0, .int .i64 0, .string ⟨#[]⟩, .slice none 0 0, .bool false, .bool false, .int .i64 0] 63))
  have kB := Blk.new (w.alloc (.cells #[.int .i64 0, .int .i64 0, .int .i64 0, .int .i64 0, .int .i64 0, .string ⟨#[]⟩, .slice none 0 0, .bool false, .bool false, .int .i64 0] 63)) #[.int .i64 0, .int .i64 0, .int .i64 0, .int .i64 0, .int .i64 0, .string ⟨#[]⟩, .slice none 0 0, .bool false, .bool false, .int .i64 0] 63
  have bW : Below w.heap.size w ((w.alloc (.cells #[.int .i64 0, .int .i64 0, .int .i64 0, .int .i64 0, .int .i64 0, .string ⟨#[]⟩, .slice none 0 0, .bool false, .bool false, .int .i64 0] 63)).alloc (.cells #[.int .i64 0, .int .i64 0, .int .i64 0, .int .i64 0, .int .i64 0, .string ⟨#[]⟩, .slice none 0 0, .bool false, .bool false, .int .i64 0] 63)) := (below_alloc _ _).trans ((below_alloc _ _).mono (by simp))
  rw [show (w.alloc (.cells #[.int .i64 0, .int .i64 0, .int .i64 0, .int .i64 0, .int .i64 0, .string ⟨#[]⟩, .slice none 0 0, .bool false, .bool false, .int .i64 0] 63)).heap.size = w.heap.size + 1 from by simp] at kB
  have hv1 := hv.ext bW
  have s0 : SegAt ((w.alloc (.cells #[.int .i64 0, .int .i64 0, .int .i64 0, .int .i64 0, .int .i64 0, .string ⟨#[]⟩, .slice none 0 0, .bool false, .bool false, .int .i64 0] 63)).alloc (.cells #[.int .i64 0, .int .i64 0, .int .i64 0, .int .i64 0, .int .i64 0, .string ⟨#[]⟩, .slice none 0 0, .bool false, .bool false, .int .i64 0] 63)) (w.heap.size + 1) (w.heap.size + 1) sg0 := ⟨.slice none 0 0, kB, OwnR.nil _ _ _, by simp [Value.ownBlock], Nat.le_refl _, by decide⟩
  go_enter Tryd.func27, Tryd.ntmps27
  go_wp2
  generalize (w.alloc (.cells #[.int .i64 0, .int .i64 0, .int .i64 0, .int .i64 0, .int .i64 0, .string ⟨#[]⟩, .slice none 0 0, .bool false, .bool false, .int .i64 0] 63)).alloc (.cells #[.int .i64 0, .int .i64 0, .int .i64 0, .int .i64 0, .int .i64 0, .string ⟨#[]⟩, .slice none 0 0, .bool false, .bool false, .int .i64 0] 63) = W at *
  have hWs : w.heap.size + 1 < W.heap.size := kB.lt
  clear kB
  go_loopw [5] (fun _ wr => ∃ (s : Sg) (f : Nat), SegAt wr (w.heap.size + 1) (w.heap.size + 1) s ∧ Hid (SgOk s) ∧ Blk wr w.heap.size #[.int .i64 0, .int .i64 0, .int .i64 0, .int .i64 0, .int .i64 0, .string ⟨#[]⟩, .slice none 0 0, .bool false, .bool false, .int .i64 0] 63 ∧ s.size ≤ b.length ∧ Hid (readS f b s = readSeg b) ∧ b.length - s.size < f ∧ Below (w.heap.size + 1) W wr) (fun _ wr => b.length - cellN wr (w.heap.size + 1) 9)
  case atStart => exact ⟨sg0, b.length + 1, s0, SgOk.zero, kA, Nat.zero_le _, rfl, by omega, Below.refl _ _⟩
  case round =>
    obtain ⟨s, f, ⟨vl, hsg⟩, ok, kz, hsz, hrd, hf, hbw⟩ := hrel
    have c9 := hsg.c9
    have hlt := hsg.lt
    have hbr := bW.trans (hbw.mono (Nat.le_succ _))
    have hvr := hv.ext hbr
    have hcN := hsg.cellN
    clear s0 kA hv1
    go_wp2_with fail
    refine (frameNext _ b (s.size : Int) wr hvr (by omega)).mono ?_
    rintro e w2 ⟨r, rfl, own2, b2⟩
    have hz2 := hsg.ext b2
    have kz2 := kz.ext b2
    have hb2 := hbr.trans (b2.mono hbr.size)
    by_cases he : Frm.errAt b (s.size : Int) = 0
    · obtain ⟨n, hn, hn9, hnb, hpl⟩ := frm_in hsz he
      have hez : (((Frm.errAt b (s.size : Int) : Nat) : Int) != 0) = false := by rw [he]; rfl
      rw [hn]
      go_wp2_with fail
      refine (segTake hz2 ok.out r (Frm.payAt b s.size) own2.bytes (by omega) (by have := hz2.lt; omega)).mono ?_
      rintro e w3 ⟨rfl, hs3, b3⟩
      have kz3 := kz2.below b3 (Nat.lt_succ_self _)
      have hb3 := hb2.trans (b3.mono (Nat.le_succ _))
      cases ht : takeS s (Frm.payAt b s.size) with
      | none =>
        rw [ht] at hs3
        have hres := Lib.hid ((readS_no (f := f) he ht).symm.trans hrd.out)
        obtain ⟨vl3, hz⟩ := hs3
        replace hz : SegV w3 (w.heap.size + 1) (w.heap.size + 1) vl3 s := hz
        obtain ⟨pl, cl, rfl⟩ := hz.log.rd.shape
        have kz := kz3
        generalize hwz : w3 = wz at *
        clear hwz
        have q0 := hz.c0
        have z0 := kz.cell 0 _ rfl
        have f0 := kz.frozen 0
        have q1 := hz.c1
        have z1 := kz.cell 1 _ rfl
        have f1 := kz.frozen 1
        have q2 := hz.c2
        have z2 := kz.cell 2 _ rfl
        have f2 := kz.frozen 2
        have q3 := hz.c3
        have z3 := kz.cell 3 _ rfl
        have f3 := kz.frozen 3
        have q4 := hz.c4
        have z4 := kz.cell 4 _ rfl
        have f4 := kz.frozen 4
        have q5 := hz.c5
        have z5 := kz.cell 5 _ rfl
        have f5 := kz.frozen 5
        have q6 := hz.c6
        have z6 := kz.cell 6 _ rfl
        have f6 := kz.frozen 6
        have q7 := hz.c7
        have z7 := kz.cell 7 _ rfl
        have f7 := kz.frozen 7
        have q8 := hz.c8
        have z8 := kz.cell 8 _ rfl
        have f8 := kz.frozen 8
        have q9 := hz.c9
        have z9 := kz.cell 9 _ rfl
        have f9 := kz.frozen 9
        clear ok hrd hz2 hsg kz2 kz3 c9 hvr own2 hv
        go_wp2_with fail
        refine bodyPost_ret (v := .agg (segA s (.slice pl s.h.log.length cl))) (by simp [results, Tryd.results27, go_sem, *]) rfl ?_
        exact ReadsS.done hz hres.out hb3
      | some t =>
        rw [ht] at hs3
        obtain ⟨vl3, hz⟩ := hs3
        replace hz : SegV w3 (w.heap.size + 1) (w.heap.size + 1) vl3 t := hz
        obtain ⟨f', rfl⟩ : ∃ f', f = f' + 1 := ⟨f - 1, by omega⟩
        have hres := Lib.hid ((readS_go (f := f') he ht).symm.trans hrd.out)
        have hok := Lib.hid ((ok.out.step ht).size n)
        have h9 := hz.c9
        have g9 := hz.blk.frozen 9
        have hzs := hz.set (i := 9) (u := .int .i64 (n : Int)) (s' := { t with size := n }) rfl rfl
        have hbs := hz.below 9 (.int .i64 (n : Int))
        have kzs := (chg_cell (w.heap.size + 1) 9 (.int .i64 (n : Int)) w3).blk kz3 (by omega)
        have hcs := hzs.cellN
        have Hz := Lib.hid (And.intro hzs (And.intro kzs (hbw.trans ((b2.mono (by omega)).trans (b3.trans hbs)))))
        rw [hn, Int.toNat_natCast] at hres
        clear hzs kzs hbs ok hrd hz2 hsg kz2 kz3 c9 hvr own2 hv hz
        go_wp2_with fail
        go_roundw
        case rel => exact ⟨{ t with size := n }, f', ⟨_, Hz.out.1⟩, hok.out, Hz.out.2.1, hnb, hres.out, by show b.length - n < f'; omega, Hz.out.2.2⟩
        case measure => rw [hcs, hcN]; show b.length - n < _; omega
    · have hez : (((Frm.errAt b (s.size : Int) : Nat) : Int) != 0) = true := by simp; exact he
      have hres := Lib.hid ((readS_stop (f := f) he).symm.trans hrd.out)
      obtain ⟨pl, cl, rfl⟩ := hz2.log.rd.shape
      have kz := kz2
      have hz := hz2
      generalize hwz : w2 = wz at *
      clear hwz
      have q0 := hz.c0
      have z0 := kz.cell 0 _ rfl
      have f0 := kz.frozen 0
      have q1 := hz.c1
      have z1 := kz.cell 1 _ rfl
      have f1 := kz.frozen 1
      have q2 := hz.c2
      have z2 := kz.cell 2 _ rfl
      have f2 := kz.frozen 2
      have q3 := hz.c3
      have z3 := kz.cell 3 _ rfl
      have f3 := kz.frozen 3
      have q4 := hz.c4
      have z4 := kz.cell 4 _ rfl
      have f4 := kz.frozen 4
      have q5 := hz.c5
      have z5 := kz.cell 5 _ rfl
      have f5 := kz.frozen 5
      have q6 := hz.c6
      have z6 := kz.cell 6 _ rfl
      have f6 := kz.frozen 6
      have q7 := hz.c7
      have z7 := kz.cell 7 _ rfl
      have f7 := kz.frozen 7
      have q8 := hz.c8
      have z8 := kz.cell 8 _ rfl
      have f8 := kz.frozen 8
      have q9 := hz.c9
      have z9 := kz.cell 9 _ rfl
      have f9 := kz.frozen 9
      clear ok hrd hz2 hsg kz2 c9 hvr own2 hv
      go_wp2_with fail
      refine bodyPost_ret (v := .agg (segA s (.slice pl s.h.log.length cl))) (by simp [results, Tryd.results27, go_sem, *]) rfl ?_
      exact ReadsS.done hz hres.out hb2
end Go.Proofs.YtgpgcnmnfnnkjaaDoor
end

section
namespace Go.Proofs.YtgpgcnmnfnnkjaaDoor
open Go Go.RowKit Go.PlainAid BigFrame
def DidD (w0 w : World) (X : Nat → Prop) (g : Nat) (E : Int) (d' : Dk) (e : Ending) (w' : World) : Prop := e = .returned (.int .i64 E) ∧ DwS w0 X g d' w' ∧ Chg (Gx w0 X) w w'
theorem removesD_nil (n : Nat) (d : Dk) : removesD [] n d = (0, d) := rfl
theorem removesD_same {k n : Nat} (r : List Nat) (d : Dk) (h : k = n) : removesD (k :: r) n d = removesD r n d := by rw [removesD, if_pos h]
theorem removesD_go {k n : Nat} (r : List Nat) (d : Dk) (h : k ≠ n) : removesD (k :: r) n d = thenD (removeD d (nameW k)) (removesD r n) := by rw [removesD, if_neg h]

set_option maxRecDepth 8000 in
set_option maxHeartbeats 16000000 in
theorem walClean {w0 w : World} {X : Nat → Prop} {g : Nat} {d d' : Dk} (T0 : ∀ z, Below w0.heap.size w0 z → TabW z) (hd : DwS w0 X g d w) (hb0 : Below w0.heap.size w0 w) {m : Nat} (pi : PInv m d) (l : List Nat) (hll : l.length ≤ 300) (hm : m ≤ 500) (u : Value) (hu : Rd intsE w u (natI l)) (hux : ∀ k, u.ownBlock = some k → k < w0.heap.size ∨ X k) (hln : ∀ x ∈ l, x ≤ 99999999999999) (n : Nat) (N : Int) (hN : N = (n : Int)) (hn : n ≤ 99999999999999) (s : Sg) (v : Value) {E : Int} (he : cleanD d l n s = (E, d')) :
    Calls Tryd.prog 28 #[.pointer (some ⟨g, 0, none⟩), u, .int .i64 N, .agg (segA s v)] w (DidD w0 w X g E d') := by
  subst hN
  obtain ⟨pu, cu, rfl⟩ := hu.shape
  rw [natI_length] at hu hux ⊢
  have hcd : cleanD d l n s = thenD (cutS d n s) fun d => thenD (removesD l n d) fun d => if 0 < n then syncD d (nameW n) else (0, d) := rfl
  rw [he] at hcd
  have hcs : cutS d n s = if 0 < n ∧ s.size < (fileW d n).length then cutD d (nameW n) s.size else (0, d) := rfl
  have Hcd := Lib.hid hcd
  have Hcs := Lib.hid hcs
  clear he hcd hcs
  have hs0 := hb0.size
  have ca := below_alloc w (.cells (segA s v) 63)
  have kA := Blk.new w (segA s v) 63
  have hHs : (w.alloc (.cells (segA s v) 63)).heap.size = w.heap.size + 1 := by simp
  have hd0 := hd.ext ca
  have hb1 : Below w0.heap.size w0 (w.alloc (.cells (segA s v) 63)) := hb0.trans (ca.mono hs0)
  by_cases hn0 : 0 < n
  · have hni : (0 : Int) < (n : Int) := by omega
    have T1 := T0 _ hb1
    have c9 := kA.cell 9 _ rfl
    go_enter Tryd.func28, Tryd.ntmps28
    go_wp2_with fail
    refine (walNamed n _ rfl (by omega) _ T1).mono ?_
    rintro e w1 ⟨rfl, b1⟩
    have hd1 := hd0.ext b1
    go_wp2_with fail
    refine (lRead hd1 (pi.ok (by omega)) (nameW n) rfl).mono ?_
    rintro e w2 ⟨⟨r, rfl, own2⟩, b2⟩
    have hd2 := hd1.ext b2
    have b02 := ca.trans ((b1.trans (b2.mono b1.size)).mono (by omega))
    have kA2 := (kA.ext b1).ext b2
    have c92 : w2.cell? ⟨w.heap.size, 9, none⟩ = some (.int .i64 (s.size : Int)) := kA2.cell 9 _ rfl
    have hfw : fileW d n = (readD d (nameW n)).getD [] := rfl
    rw [← hfw] at own2
    clear hfw
    generalize (readD d (nameW n)).isSome = qb at *
    obtain ⟨pr, cr, rfl⟩ := own2.bytes.shape
    clear T1 c9
    by_cases hc : s.size < (fileW d n).length
    · have hci : (s.size : Int) < ((fileW d n).length : Int) := by omega
      have hcs := Hcs.out
      rw [if_pos ⟨hn0, hc⟩] at hcs
      obtain ⟨E1, D1, hcut⟩ : ∃ E1 D1, cutD d (nameW n) s.size = (E1, D1) := ⟨_, _, rfl⟩
      rw [hcut] at hcs
      have pi1 : PInv (m + 1) D1 := by have := pi.cut (nameW n) (s.size : Int); rw [hcut] at this; exact this
      have Hcs1 := Lib.hid hcs
      clear hcs hc
      generalize fileW d n = FL at *
      go_wp2_with fail
      have hdX : DwS w0 (fun k => X k ∨ k = w.heap.size) g d w2 := hd.more b02 (fun k hk => hk.imp id (fun e => by have := kA2.lt; omega))
      refine wp_region_F (n := 6) (S := fun w' : World => w'.cell? ⟨w.heap.size, 9, none⟩ = some (.int .i64 (s.size : Int))) (by kernel_rfl) ?_
      have hHeld : (fun w' : World => w'.cell? ⟨w.heap.size, 9, none⟩ = some (.int .i64 (s.size : Int))) w2.drew := c92
      refine wpAnyF_tk 0 (some 29) (Op.move (Operand.tmp 0)) 22 (v := ?_) rfl (by kernel_rfl) (fun _ _ _ h => h) ?_ hHeld ?_
      rotate_left
      · intro w hSw
        try dsimp only at hSw
        dsimp only [bare]
        go_simp <;> with_reducible rfl
      try simp only [bare, Act.put, List.setIfInBounds_toArray, List.set_cons_zero, List.set_cons_succ]
      refine wpAnyF_tk 1 (some 30) (Op.move (Operand.tmp 2)) 3 (v := ?_) rfl (by kernel_rfl) (fun _ _ _ h => h) ?_ hHeld ?_
      rotate_left
      · intro w hSw
        try dsimp only at hSw
        dsimp only [bare]
        go_simp <;> with_reducible rfl
      try simp only [bare, Act.put, List.setIfInBounds_toArray, List.set_cons_zero, List.set_cons_succ]
      refine wpAnyF_tk 3 (some 32) (Op.fieldAddr 63 (Operand.tmp 7) 3) 0 (v := ?_) rfl (by kernel_rfl) (fun _ _ _ h => h) ?_ hHeld ?_
      rotate_left
      · intro w hSw
        try dsimp only at hSw
        dsimp only [bare]
        go_simp <;> with_reducible rfl
      try simp only [bare, Act.put, List.setIfInBounds_toArray, List.set_cons_zero, List.set_cons_succ]
      refine wpAnyF_tk 4 (some 33) (Op.load 3 (Operand.tmp 32)) 3 (v := ?_) rfl (by kernel_rfl) (fun _ _ _ h => h) ?_ hHeld ?_
      rotate_left
      · intro w hSw
        try dsimp only at hSw
        dsimp only [bare]
        go_simp <;> with_reducible rfl
      try simp only [bare, Act.put, List.setIfInBounds_toArray, List.set_cons_zero, List.set_cons_succ]
      refine wpAnyF_one 2 (some 31) (Op.call { callee := Callee.value (Operand.func 26), args := #[Operand.tmp 30], argTypes := #[3] }) 9 rfl (by kernel_rfl) (fun K hK => ?_)
      dsimp only [bare]; go_simp
      have hb02 : Below w0.heap.size w0 w2 := hb0.trans (b02.mono hs0)
      refine (walNamed n _ rfl (by omega) w2.drew (T0 _ hb02.drew)).mono ?_
      rintro e w3 ⟨rfl, b3⟩
      dsimp only
      have bE : Below w2.heap.size w2 w3 := (below_drew _ _).trans b3
      have kA3 := kA2.ext bE
      refine hK _ _ (kA3.cell 9 _ rfl) (fun hHeld => ?_)
      clear hK K
      try simp only [bare, Act.put, List.setIfInBounds_toArray, List.set_cons_zero, List.set_cons_succ]
      refine wpAnyF_one 5 (some 34) (Op.call { callee := Callee.value (Operand.func 51), args := #[Operand.tmp 29, Operand.tmp 31, Operand.tmp 33], argTypes := #[22, 9, 3] }) 25 rfl (by kernel_rfl) (fun K hK => ?_)
      dsimp only [bare]; go_simp
      refine (lCut (hdX.ext bE) (pi.ok (by omega)) hcut).mono ?_
      rintro e w4 ⟨rfl, hd4, ch4⟩
      dsimp only
      have kA4 := ch4.blk kA3 (fun hG => hG.2 (.inr rfl))
      refine hK _ _ (kA4.cell 9 _ rfl) (fun hHeld => ?_)
      clear hK K
      try simp only [bare, Act.put, List.setIfInBounds_toArray, List.set_cons_zero, List.set_cons_succ]
      refine wpAnyF_end (some 11) (Op.assign (Operand.tmp 34)) 25 rfl (by kernel_rfl) (by kernel_rfl) (fun K hK => ?_)
      dsimp only [bare]; go_simp
      refine hK _ _ ?_
      clear hK K
      try simp only [bare, Act.put, List.setIfInBounds_toArray, List.set_cons_zero, List.set_cons_succ]
      have hdY := hd4.mono (Y := X) (fun k hk => .inl hk)
      have chY : Chg (Gx w0 X) w w4 := (Chg.of_below (b02.trans (bE.mono b02.size))).step (ch4.mono fun k _ hk => ⟨hk.1, fun hX => hk.2 (.inl hX)⟩)
      unfold thenD at Hcd
      by_cases hE : E1 = 0
      · subst hE
        have hcd := Hcd.out
        rw [Hcs1.out, if_pos rfl] at hcd
        have Hcd := Lib.hid hcd
        clear hcd
        go_wp2_with fail
        go_loopw [40] (fun i wr => ∃ (k : Nat) (dk : Dk), k ≤ l.length ∧ i = .int .i64 k ∧ Hid (removesD l n D1 = removesD (l.drop k) n dk) ∧ PInv (m + 1 + k) dk ∧ DwS w0 X g dk wr ∧ Chg (Gx w0 X) w wr) (fun i _ => l.length - (intOf i).toNat)
        case atStart => exact ⟨0, D1, by omega, rfl, rfl, pi1, hdY, chY⟩
        case round =>
          obtain ⟨k, dk, hk, rfl, hrem, pk, hdk, chk⟩ := hrel
          have hbk : Below w0.heap.size w0 wr := hb0.trans (chk.gx hs0)
          by_cases hlt : k < l.length
          · have huk := chk.cells hu (fun j hj hG => (hux j hj).elim (fun e => by have := hG.1; omega) (fun e => hG.2 e))
            obtain ⟨bb, off, rfl⟩ := Rd.blk (E := intsE) (l := natI l) (show Rd intsE wr (.slice pu l.length cu) (natI l) from huk) (by rw [natI_length]; omega)
            have c0 : wr.cell? ⟨bb, off + k, none⟩ = some (.int .i64 (l[k] : Nat)) := by
              have := (show Rd intsE wr (.slice (some ⟨bb, off, none⟩) l.length cu) (natI l) from huk).at_ (k := k) (by rw [natI_length]; exact hlt) 0 (by decide)
              simpa [intsE, natI] using this
            have hi : (k : Int) < (l.length : Int) := by omega
            have hi0 : (0 : Int) ≤ (k : Int) := by omega
            have hx := hln l[k] (List.getElem_mem hlt)
            have hr2 := hrem.out
            rw [List.drop_eq_getElem_cons hlt] at hr2
            clear huk
            generalize l[k] = x at *
            by_cases hxn : x = n
            · have hxi : ((x : Int) == (n : Int)) = true := by simp [hxn]
              have hr3 := Lib.hid (hr2.trans (removesD_same _ _ hxn))
              clear hr2 hxn hrem
              go_wp2_with fail
              go_roundw
              case rel => exact ⟨k + 1, dk, by omega, by go_num, hr3.out, by have := pk.up; exact this, hdk, chk⟩
              case measure => simp [intOf]; omega
            · have hxi : ((x : Int) == (n : Int)) = false := by simp; omega
              have hr3 := hr2.trans (removesD_go _ _ hxn)
              obtain ⟨E2, D2, hrm⟩ : ∃ E2 D2, removeD dk (nameW x) = (E2, D2) := ⟨_, _, rfl⟩
              rw [hrm] at hr3
              unfold thenD at hr3
              have pk2 : PInv (m + 1 + k + 1) D2 := by have := pk.remove (nameW x); rw [hrm] at this; exact this
              clear hr2 hxn hrem
              go_wp2_with fail
              refine (walNamed x _ rfl (by omega) wr (T0 _ hbk)).mono ?_
              rintro e w5 ⟨rfl, b5⟩
              go_wp2_with fail
              refine (lRemove (hdk.ext b5) (pk.ok (by omega)) hrm).mono ?_
              rintro e w6 ⟨rfl, hd6, ch6⟩
              have ch06 : Chg (Gx w0 X) w w6 := (chk.step (.of_below b5)).step ch6
              by_cases hE : E2 = 0
              · subst hE
                rw [if_pos rfl] at hr3
                have Hr3 := Lib.hid hr3
                clear hr3
                go_wp2_with fail
                go_roundw
                case rel => first | exact ⟨k + 1, D2, by omega, by go_num, Hr3.out, pk2, hd6, ch06⟩ | exact ⟨_, _, _, _, _, _, _, _, _, _, _, _, _, _, _, _, _, _, ⟨k + 1, D2, by omega, by go_num, Hr3.out, pk2, hd6, ch06⟩, by rw [decide_eq_false (show ¬ s.size < FL.length from by omega)]; rfl⟩
                case measure => simp [intOf]; omega
              · have hne : (E2 != 0) = true := by simpa using hE
                rw [if_neg hE] at hr3
                have hcd := Hcd.out
                unfold thenD at hcd
                rw [hr3, if_neg hE] at hcd
                simp only [Prod.mk.injEq] at hcd
                obtain ⟨rfl, rfl⟩ := hcd
                clear hr3
                go_wp2_with fail
                go_ret
                exact ⟨rfl, hd6, ch06⟩
          · have hi : ¬ (k : Int) < (l.length : Int) := by omega
            have hr2 := hrem.out
            rw [List.drop_of_length_le (by omega), removesD_nil] at hr2
            have hcd := Hcd.out
            unfold thenD at hcd
            rw [hr2, if_pos rfl] at hcd
            clear hr2 hrem
            rw [if_pos hn0] at hcd
            go_wp2_with fail
            refine (walNamed n _ rfl (by omega) wr (T0 _ hbk)).mono ?_
            rintro e w5 ⟨rfl, b5⟩
            go_wp2_with fail
            refine (lSync (hdk.ext b5) (pk.ok (by omega)) hcd.symm).mono ?_
            rintro e w6 ⟨rfl, hd6, ch6⟩
            go_wp2_with fail
            go_ret
            exact ⟨rfl, hd6, (chk.step (.of_below b5)).step ch6⟩
      · have hne : (E1 != 0) = true := by simpa using hE
        have hcd := Hcd.out
        rw [Hcs1.out, if_neg hE] at hcd
        simp only [Prod.mk.injEq] at hcd
        obtain ⟨rfl, rfl⟩ := hcd
        go_wp2_with fail
        go_ret
        exact ⟨rfl, hdY, chY⟩
    · have hci : ¬ (s.size : Int) < ((fileW d n).length : Int) := by omega
      have hcs := Hcs.out
      rw [if_neg (fun hh => hc hh.2)] at hcs
      have hcd := Hcd.out
      unfold thenD at hcd
      rw [hcs, if_pos rfl] at hcd
      have Hcd := Lib.hid hcd
      have chY : Chg (Gx w0 X) w w2 := .of_below b02
      clear hcs hcd hc
      generalize fileW d n = FL at *
      go_wp2_with fail
      go_loopw [40] (fun i wr => ∃ (k : Nat) (dk : Dk), k ≤ l.length ∧ i = .int .i64 k ∧ Hid (removesD l n d = removesD (l.drop k) n dk) ∧ PInv (m + k) dk ∧ DwS w0 X g dk wr ∧ Chg (Gx w0 X) w wr) (fun i _ => l.length - (intOf i).toNat)
      case atStart => exact ⟨0, d, by omega, rfl, rfl, pi, hd2, chY⟩
      case round =>
        obtain ⟨k, dk, hk, rfl, hrem, pk, hdk, chk⟩ := hrel
        have hbk : Below w0.heap.size w0 wr := hb0.trans (chk.gx hs0)
        by_cases hlt : k < l.length
        · have huk := chk.cells hu (fun j hj hG => (hux j hj).elim (fun e => by have := hG.1; omega) (fun e => hG.2 e))
          obtain ⟨bb, off, rfl⟩ := Rd.blk (E := intsE) (l := natI l) (show Rd intsE wr (.slice pu l.length cu) (natI l) from huk) (by rw [natI_length]; omega)
          have c0 : wr.cell? ⟨bb, off + k, none⟩ = some (.int .i64 (l[k] : Nat)) := by
            have := (show Rd intsE wr (.slice (some ⟨bb, off, none⟩) l.length cu) (natI l) from huk).at_ (k := k) (by rw [natI_length]; exact hlt) 0 (by decide)
            simpa [intsE, natI] using this
          have hi : (k : Int) < (l.length : Int) := by omega
          have hi0 : (0 : Int) ≤ (k : Int) := by omega
          have hx := hln l[k] (List.getElem_mem hlt)
          have hr2 := hrem.out
          rw [List.drop_eq_getElem_cons hlt] at hr2
          clear huk
          generalize l[k] = x at *
          by_cases hxn : x = n
          · have hxi : ((x : Int) == (n : Int)) = true := by simp [hxn]
            have hr3 := Lib.hid (hr2.trans (removesD_same _ _ hxn))
            clear hr2 hxn hrem
            go_wp2_with fail
            go_roundw
            case rel => exact ⟨k + 1, dk, by omega, by go_num, hr3.out, by have := pk.up; exact this, hdk, chk⟩
            case measure => simp [intOf]; omega
          · have hxi : ((x : Int) == (n : Int)) = false := by simp; omega
            have hr3 := hr2.trans (removesD_go _ _ hxn)
            obtain ⟨E2, D2, hrm⟩ : ∃ E2 D2, removeD dk (nameW x) = (E2, D2) := ⟨_, _, rfl⟩
            rw [hrm] at hr3
            unfold thenD at hr3
            have pk2 : PInv (m + k + 1) D2 := by have := pk.remove (nameW x); rw [hrm] at this; exact this
            clear hr2 hxn hrem
            go_wp2_with fail
            refine (walNamed x _ rfl (by omega) wr (T0 _ hbk)).mono ?_
            rintro e w5 ⟨rfl, b5⟩
            go_wp2_with fail
            refine (lRemove (hdk.ext b5) (pk.ok (by omega)) hrm).mono ?_
            rintro e w6 ⟨rfl, hd6, ch6⟩
            have ch06 : Chg (Gx w0 X) w w6 := (chk.step (.of_below b5)).step ch6
            by_cases hE : E2 = 0
            · subst hE
              rw [if_pos rfl] at hr3
              have Hr3 := Lib.hid hr3
              clear hr3
              go_wp2_with fail
              go_roundw
              case rel => first | exact ⟨k + 1, D2, by omega, by go_num, Hr3.out, pk2, hd6, ch06⟩ | exact ⟨_, _, _, _, _, _, _, _, _, _, _, _, _, _, _, _, _, _, ⟨k + 1, D2, by omega, by go_num, Hr3.out, pk2, hd6, ch06⟩, by rw [decide_eq_false (show ¬ s.size < FL.length from by omega)]; rfl⟩
              case measure => simp [intOf]; omega
            · have hne : (E2 != 0) = true := by simpa using hE
              rw [if_neg hE] at hr3
              have hcd := Hcd.out
              unfold thenD at hcd
              rw [hr3, if_neg hE] at hcd
              simp only [Prod.mk.injEq] at hcd
              obtain ⟨rfl, rfl⟩ := hcd
              clear hr3
              go_wp2_with fail
              go_ret
              exact ⟨rfl, hd6, ch06⟩
        · have hi : ¬ (k : Int) < (l.length : Int) := by omega
          have hr2 := hrem.out
          rw [List.drop_of_length_le (by omega), removesD_nil] at hr2
          have hcd := Hcd.out
          unfold thenD at hcd
          rw [hr2, if_pos rfl] at hcd
          clear hr2 hrem
          rw [if_pos hn0] at hcd
          go_wp2_with fail
          refine (walNamed n _ rfl (by omega) wr (T0 _ hbk)).mono ?_
          rintro e w5 ⟨rfl, b5⟩
          go_wp2_with fail
          refine (lSync (hdk.ext b5) (pk.ok (by omega)) hcd.symm).mono ?_
          rintro e w6 ⟨rfl, hd6, ch6⟩
          go_wp2_with fail
          go_ret
          exact ⟨rfl, hd6, (chk.step (.of_below b5)).step ch6⟩
  · have hni : ¬ (0 : Int) < (n : Int) := by omega
    have hcs := Hcs.out
    rw [if_neg (fun hh => hn0 hh.1)] at hcs
    have hcd := Hcd.out
    unfold thenD at hcd
    rw [hcs, if_pos rfl] at hcd
    have Hcd := Lib.hid hcd
    have chY : Chg (Gx w0 X) w (w.alloc (.cells (segA s v) 63)) := .of_below ca
    clear hcs hcd
    go_enter Tryd.func28, Tryd.ntmps28
    go_wp2_with fail
    go_loopw [40] (fun i wr => ∃ (k : Nat) (dk : Dk), k ≤ l.length ∧ i = .int .i64 k ∧ Hid (removesD l n d = removesD (l.drop k) n dk) ∧ PInv (m + k) dk ∧ DwS w0 X g dk wr ∧ Chg (Gx w0 X) w wr) (fun i _ => l.length - (intOf i).toNat)
    case atStart => exact ⟨0, d, by omega, rfl, rfl, pi, hd0, chY⟩
    case round =>
      obtain ⟨k, dk, hk, rfl, hrem, pk, hdk, chk⟩ := hrel
      have hbk : Below w0.heap.size w0 wr := hb0.trans (chk.gx hs0)
      by_cases hlt : k < l.length
      · have huk := chk.cells hu (fun j hj hG => (hux j hj).elim (fun e => by have := hG.1; omega) (fun e => hG.2 e))
        obtain ⟨bb, off, rfl⟩ := Rd.blk (E := intsE) (l := natI l) (show Rd intsE wr (.slice pu l.length cu) (natI l) from huk) (by rw [natI_length]; omega)
        have c0 : wr.cell? ⟨bb, off + k, none⟩ = some (.int .i64 (l[k] : Nat)) := by
          have := (show Rd intsE wr (.slice (some ⟨bb, off, none⟩) l.length cu) (natI l) from huk).at_ (k := k) (by rw [natI_length]; exact hlt) 0 (by decide)
          simpa [intsE, natI] using this
        have hi : (k : Int) < (l.length : Int) := by omega
        have hi0 : (0 : Int) ≤ (k : Int) := by omega
        have hx := hln l[k] (List.getElem_mem hlt)
        have hr2 := hrem.out
        rw [List.drop_eq_getElem_cons hlt] at hr2
        clear huk
        generalize l[k] = x at *
        by_cases hxn : x = n
        · have hxi : ((x : Int) == (n : Int)) = true := by simp [hxn]
          have hr3 := Lib.hid (hr2.trans (removesD_same _ _ hxn))
          clear hr2 hxn hrem
          go_wp2_with fail
          go_roundw
          case rel => exact ⟨k + 1, dk, by omega, by go_num, hr3.out, by have := pk.up; exact this, hdk, chk⟩
          case measure => simp [intOf]; omega
        · have hxi : ((x : Int) == (n : Int)) = false := by simp; omega
          have hr3 := hr2.trans (removesD_go _ _ hxn)
          obtain ⟨E2, D2, hrm⟩ : ∃ E2 D2, removeD dk (nameW x) = (E2, D2) := ⟨_, _, rfl⟩
          rw [hrm] at hr3
          unfold thenD at hr3
          have pk2 : PInv (m + k + 1) D2 := by have := pk.remove (nameW x); rw [hrm] at this; exact this
          clear hr2 hxn hrem
          go_wp2_with fail
          refine (walNamed x _ rfl (by omega) wr (T0 _ hbk)).mono ?_
          rintro e w5 ⟨rfl, b5⟩
          go_wp2_with fail
          refine (lRemove (hdk.ext b5) (pk.ok (by omega)) hrm).mono ?_
          rintro e w6 ⟨rfl, hd6, ch6⟩
          have ch06 : Chg (Gx w0 X) w w6 := (chk.step (.of_below b5)).step ch6
          by_cases hE : E2 = 0
          · subst hE
            rw [if_pos rfl] at hr3
            have Hr3 := Lib.hid hr3
            clear hr3
            go_wp2_with fail
            go_roundw
            case rel => first | exact ⟨k + 1, D2, by omega, by go_num, Hr3.out, pk2, hd6, ch06⟩ | exact ⟨_, _, _, _, _, _, _, _, _, _, _, _, _, _, _, _, _, _, ⟨k + 1, D2, by omega, by go_num, Hr3.out, pk2, hd6, ch06⟩, by rw [decide_eq_false (show ¬ s.size < FL.length from by omega)]; rfl⟩
            case measure => simp [intOf]; omega
          · have hne : (E2 != 0) = true := by simpa using hE
            rw [if_neg hE] at hr3
            have hcd := Hcd.out
            unfold thenD at hcd
            rw [hr3, if_neg hE] at hcd
            simp only [Prod.mk.injEq] at hcd
            obtain ⟨rfl, rfl⟩ := hcd
            clear hr3
            go_wp2_with fail
            go_ret
            exact ⟨rfl, hd6, ch06⟩
      · have hi : ¬ (k : Int) < (l.length : Int) := by omega
        have hr2 := hrem.out
        rw [List.drop_of_length_le (by omega), removesD_nil] at hr2
        have hcd := Hcd.out
        unfold thenD at hcd
        rw [hr2, if_pos rfl] at hcd
        clear hr2 hrem
        rw [if_neg hn0] at hcd
        simp only [Prod.mk.injEq] at hcd
        obtain ⟨rfl, rfl⟩ := hcd
        go_wp2_with fail
        go_ret
        exact ⟨rfl, hdk, chk⟩
end Go.Proofs.YtgpgcnmnfnnkjaaDoor
end
