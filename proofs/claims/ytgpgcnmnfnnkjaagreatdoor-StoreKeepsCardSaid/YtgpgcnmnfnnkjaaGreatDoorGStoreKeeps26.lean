/- Walks of package wal: read. -/
import Derived.Test.YtgpgcnmnfnnkjaaGreatDoorGStoreKeeps25
import Derived.Test.YtgpgcnmnfnnkjaaGreatDoorGStoreKeeps12
set_option linter.unusedVariables false
set_option linter.unusedSimpArgs false
section
namespace Go.Proofs.YtgpgcnmnfnnkjaaGreatDoor
open Go Go.RowKit Go.PlainAid
def cellN (w : World) (g i : Nat) : Nat := match w.cell? ⟨g, i, none⟩ with
 | some (.int _ n) => n.toNat
 | _ => 0
theorem SegV.cellN {w : World} {B g : Nat} {v : Value} {s : Sg} (h : SegV w B g v s) : cellN w g 9 = s.size := by unfold Go.Proofs.YtgpgcnmnfnnkjaaGreatDoor.cellN; rw [h.c9]; simp
def ReadsS (w : World) (b : List UInt8) (e : Ending) (w' : World) : Prop := ∃ vl, e = .returned (.agg (segA (readSeg b) vl)) ∧ OwnR etyE w' w.heap.size 73 vl (readSeg b).h.log ∧ Below w.heap.size w w'
theorem ReadsS.done {w wz : World} {b : List UInt8} {s : Sg} {pl : Option Addr} {cl : Nat} (hz : SegV wz (w.heap.size + 1) (w.heap.size + 1) (.slice pl s.h.log.length cl) s) (hs : s = readSeg b) (hb : Below w.heap.size w wz) :
 ReadsS w b (.returned (.agg (segA s (.slice pl s.h.log.length cl)))) ((((((((((wz.setCell ⟨w.heap.size, 0, none⟩ (.int .i64 s.h.term)).setCell ⟨w.heap.size, 1, none⟩ (.int .i64 s.h.vote)).setCell ⟨w.heap.size, 2, none⟩ (.int .i64 s.h.base)).setCell ⟨w.heap.size, 3, none⟩ (.int .i64 s.h.bterm)).setCell ⟨w.heap.size, 4, none⟩ (.int .i64 s.h.members)).setCell ⟨w.heap.size, 5, none⟩ (.string s.h.snap)).setCell ⟨w.heap.size, 6, none⟩ (.slice pl s.h.log.length cl)).setCell ⟨w.heap.size, 7, none⟩ (.bool s.begun)).setCell ⟨w.heap.size, 8, none⟩ (.bool s.whole)).setCell ⟨w.heap.size, 9, none⟩ (.int .i64 (s.size : Int))) := by
 have hc := (((((((((((Chg.refl (fun k => k = w.heap.size) wz).setCell (p := ⟨w.heap.size, 0, none⟩) rfl (.int .i64 s.h.term)).setCell (p := ⟨w.heap.size, 1, none⟩) rfl (.int .i64 s.h.vote)).setCell (p := ⟨w.heap.size, 2, none⟩) rfl (.int .i64 s.h.base)).setCell (p := ⟨w.heap.size, 3, none⟩) rfl (.int .i64 s.h.bterm)).setCell (p := ⟨w.heap.size, 4, none⟩) rfl (.int .i64 s.h.members)).setCell (p := ⟨w.heap.size, 5, none⟩) rfl (.string s.h.snap)).setCell (p := ⟨w.heap.size, 6, none⟩) rfl (.slice pl s.h.log.length cl)).setCell (p := ⟨w.heap.size, 7, none⟩) rfl (.bool s.begun)).setCell (p := ⟨w.heap.size, 8, none⟩) rfl (.bool s.whole)).setCell (p := ⟨w.heap.size, 9, none⟩) rfl (.int .i64 (s.size : Int)))
 subst hs
 exact ⟨_, rfl, (hc.ownR hz.log (fun k hk e => by have := (hz.log.lt k hk).1; omega)).base (Nat.le_succ _), hb.trans (hc.below (B := w.heap.size) (fun k hk => by rw [hk]; exact Nat.le_refl _) hb.size)⟩

set_option maxRecDepth 8000 in
set_option maxHeartbeats 4000000 in
theorem walRead (v : Value) (b : List UInt8) (w : World) (hv : Bytes w v b) (hb : b.length ≤ 35184372088000) :
 Calls Tryz.prog 64 #[v] w (ReadsS w b) := by
 obtain ⟨p, cap, rfl⟩ := hv.shape
 have kA := (Blk.new w #[.int .i64 0, .int .i64 0, .int .i64 0, .int .i64 0, .int .i64 0, .string ⟨#[]⟩, .slice none 0 0, .bool false, .bool false, .int .i64 0] 102).ext (below_alloc _ (.cells #[.int .i64 0, .int .i64 0, .int .i64 0, .int .i64 0, .int .i64 0, .string ⟨#[]⟩, .slice none 0 0, .bool false, .bool false, .int .i64 0] 102))
 have kB := Blk.new (w.alloc (.cells #[.int .i64 0, .int .i64 0, .int .i64 0, .int .i64 0, .int .i64 0, .string ⟨#[]⟩, .slice none 0 0, .bool false, .bool false, .int .i64 0] 102)) #[.int .i64 0, .int .i64 0, .int .i64 0, .int .i64 0, .int .i64 0, .string ⟨#[]⟩, .slice none 0 0, .bool false, .bool false, .int .i64 0] 102
 have bW : Below w.heap.size w ((w.alloc (.cells #[.int .i64 0, .int .i64 0, .int .i64 0, .int .i64 0, .int .i64 0, .string ⟨#[]⟩, .slice none 0 0, .bool false, .bool false, .int .i64 0] 102)).alloc (.cells #[.int .i64 0, .int .i64 0, .int .i64 0, .int .i64 0, .int .i64 0, .string ⟨#[]⟩, .slice none 0 0, .bool false, .bool false, .int .i64 0] 102)) := (below_alloc _ _).trans ((below_alloc _ _).mono (by simp))
 rw [show (w.alloc (.cells #[.int .i64 0, .int .i64 0, .int .i64 0, .int .i64 0, .int .i64 0, .string ⟨#[]⟩, .slice none 0 0, .bool false, .bool false, .int .i64 0] 102)).heap.size = w.heap.size + 1 from by simp] at kB
 have hv1 := hv.ext bW
 have s0 : SegAt ((w.alloc (.cells #[.int .i64 0, .int .i64 0, .int .i64 0, .int .i64 0, .int .i64 0, .string ⟨#[]⟩, .slice none 0 0, .bool false, .bool false, .int .i64 0] 102)).alloc (.cells #[.int .i64 0, .int .i64 0, .int .i64 0, .int .i64 0, .int .i64 0, .string ⟨#[]⟩, .slice none 0 0, .bool false, .bool false, .int .i64 0] 102)) (w.heap.size + 1) (w.heap.size + 1) sg0 := ⟨.slice none 0 0, kB, OwnR.nil _ _ _, by simp [Value.ownBlock], Nat.le_refl _, by decide⟩
 go_enter Tryz.func64, Tryz.ntmps64
 go_wp2
 generalize (w.alloc (.cells #[.int .i64 0, .int .i64 0, .int .i64 0, .int .i64 0, .int .i64 0, .string ⟨#[]⟩, .slice none 0 0, .bool false, .bool false, .int .i64 0] 102)).alloc (.cells #[.int .i64 0, .int .i64 0, .int .i64 0, .int .i64 0, .int .i64 0, .string ⟨#[]⟩, .slice none 0 0, .bool false, .bool false, .int .i64 0] 102) = W at *
 have hWs : w.heap.size + 1 < W.heap.size := kB.lt
 clear kB
 go_loopw [5] (fun _ wr => ∃ (s : Sg) (f : Nat), SegAt wr (w.heap.size + 1) (w.heap.size + 1) s ∧ Hid (SgOk s) ∧ Blk wr w.heap.size #[.int .i64 0, .int .i64 0, .int .i64 0, .int .i64 0, .int .i64 0, .string ⟨#[]⟩, .slice none 0 0, .bool false, .bool false, .int .i64 0] 102 ∧ s.size ≤ b.length ∧ Hid (readS f b s = readSeg b) ∧ b.length - s.size < f ∧ Below (w.heap.size + 1) W wr) (fun _ wr => b.length - cellN wr (w.heap.size + 1) 9)
 case atStart => exact ⟨sg0, b.length + 1, s0, SgOk.zero, kA, Nat.zero_le _, rfl, by omega, Below.refl _ _⟩
 case round =>
  obtain ⟨s, f, ⟨vl, hsg⟩, ok, kz, hsz, hrd, hf, hbw⟩ := hrel
  have c9 := hsg.c9
  have hlt := hsg.lt
  have hbr := bW.trans (hbw.mono (Nat.le_succ _))
  have hvr := hv.ext hbr
  have hcN := hsg.cellN
  clear s0 kA hv1
  go_wp2_with fail
  refine (frameNext _ b (s.size : Int) wr hvr (by omega)).mono ?_
  rintro e w2 ⟨r, rfl, own2, b2⟩
  have hz2 := hsg.ext b2
  have kz2 := kz.ext b2
  have hb2 := hbr.trans (b2.mono hbr.size)
  by_cases he : Frm.errAt b (s.size : Int) = 0
  · obtain ⟨n, hn, hn9, hnb, hpl⟩ := frm_in hsz he
    have hez : (((Frm.errAt b (s.size : Int) : Nat) : Int) != 0) = false := by rw [he]; rfl
    rw [hn]
    go_wp2_with fail
    refine (segTake hz2 ok.out r (Frm.payAt b s.size) own2.bytes (by omega) (by have := hz2.lt; omega)).mono ?_
    rintro e w3 ⟨rfl, hs3, b3⟩
    have kz3 := kz2.below b3 (Nat.lt_succ_self _)
    have hb3 := hb2.trans (b3.mono (Nat.le_succ _))
    cases ht : takeS s (Frm.payAt b s.size) with
    | none =>
     rw [ht] at hs3
     have hres := Lib.hid ((readS_no (f := f) he ht).symm.trans hrd.out)
     obtain ⟨vl3, hz⟩ := hs3
     replace hz : SegV w3 (w.heap.size + 1) (w.heap.size + 1) vl3 s := hz
     obtain ⟨pl, cl, rfl⟩ := hz.log.rd.shape
     have kz := kz3
     generalize hwz : w3 = wz at *
     clear hwz
     have q0 := hz.c0
     have z0 := kz.cell 0 _ rfl
     have f0 := kz.frozen 0
     have q1 := hz.c1
     have z1 := kz.cell 1 _ rfl
     have f1 := kz.frozen 1
     have q2 := hz.c2
     have z2 := kz.cell 2 _ rfl
     have f2 := kz.frozen 2
     have q3 := hz.c3
     have z3 := kz.cell 3 _ rfl
     have f3 := kz.frozen 3
     have q4 := hz.c4
     have z4 := kz.cell 4 _ rfl
     have f4 := kz.frozen 4
     have q5 := hz.c5
     have z5 := kz.cell 5 _ rfl
     have f5 := kz.frozen 5
     have q6 := hz.c6
     have z6 := kz.cell 6 _ rfl
     have f6 := kz.frozen 6
     have q7 := hz.c7
     have z7 := kz.cell 7 _ rfl
     have f7 := kz.frozen 7
     have q8 := hz.c8
     have z8 := kz.cell 8 _ rfl
     have f8 := kz.frozen 8
     have q9 := hz.c9
     have z9 := kz.cell 9 _ rfl
     have f9 := kz.frozen 9
     clear ok hrd hz2 hsg kz2 kz3 c9 hvr own2 hv
     go_wp2_with fail
     refine bodyPost_ret (v := .agg (segA s (.slice pl s.h.log.length cl))) (by simp [results, Tryz.results64, go_sem, *]) rfl ?_
     exact ReadsS.done hz hres.out hb3
    | some t =>
     rw [ht] at hs3
     obtain ⟨vl3, hz⟩ := hs3
     replace hz : SegV w3 (w.heap.size + 1) (w.heap.size + 1) vl3 t := hz
     obtain ⟨f', rfl⟩ : ∃ f', f = f' + 1 := ⟨f - 1, by omega⟩
     have hres := Lib.hid ((readS_go (f := f') he ht).symm.trans hrd.out)
     have hok := Lib.hid ((ok.out.step ht).size n)
     have h9 := hz.c9
     have g9 := hz.blk.frozen 9
     have hzs := hz.set (i := 9) (u := .int .i64 (n : Int)) (s' := { t with size := n }) rfl rfl
     have hbs := hz.below 9 (.int .i64 (n : Int))
     have kzs := (chg_cell (w.heap.size + 1) 9 (.int .i64 (n : Int)) w3).blk kz3 (by omega)
     have hcs := hzs.cellN
     have Hz := Lib.hid (And.intro hzs (And.intro kzs (hbw.trans ((b2.mono (by omega)).trans (b3.trans hbs)))))
     rw [hn, Int.toNat_natCast] at hres
     clear hzs kzs hbs ok hrd hz2 hsg kz2 kz3 c9 hvr own2 hv hz
     go_wp2_with fail
     go_roundw
     case rel => exact ⟨{ t with size := n }, f', ⟨_, Hz.out.1⟩, hok.out, Hz.out.2.1, hnb, hres.out, by show b.length - n < f'; omega, Hz.out.2.2⟩
     case measure => rw [hcs, hcN]; show b.length - n < _; omega
  · have hez : (((Frm.errAt b (s.size : Int) : Nat) : Int) != 0) = true := by simp; exact he
    have hres := Lib.hid ((readS_stop (f := f) he).symm.trans hrd.out)
    obtain ⟨pl, cl, rfl⟩ := hz2.log.rd.shape
    have kz := kz2
    have hz := hz2
    generalize hwz : w2 = wz at *
    clear hwz
    have q0 := hz.c0
    have z0 := kz.cell 0 _ rfl
    have f0 := kz.frozen 0
    have q1 := hz.c1
    have z1 := kz.cell 1 _ rfl
    have f1 := kz.frozen 1
    have q2 := hz.c2
    have z2 := kz.cell 2 _ rfl
    have f2 := kz.frozen 2
    have q3 := hz.c3
    have z3 := kz.cell 3 _ rfl
    have f3 := kz.frozen 3
    have q4 := hz.c4
    have z4 := kz.cell 4 _ rfl
    have f4 := kz.frozen 4
    have q5 := hz.c5
    have z5 := kz.cell 5 _ rfl
    have f5 := kz.frozen 5
    have q6 := hz.c6
    have z6 := kz.cell 6 _ rfl
    have f6 := kz.frozen 6
    have q7 := hz.c7
    have z7 := kz.cell 7 _ rfl
    have f7 := kz.frozen 7
    have q8 := hz.c8
    have z8 := kz.cell 8 _ rfl
    have f8 := kz.frozen 8
    have q9 := hz.c9
    have z9 := kz.cell 9 _ rfl
    have f9 := kz.frozen 9
    clear ok hrd hz2 hsg kz2 c9 hvr own2 hv
    go_wp2_with fail
    refine bodyPost_ret (v := .agg (segA s (.slice pl s.h.log.length cl))) (by simp [results, Tryz.results64, go_sem, *]) rfl ?_
    exact ReadsS.done hz hres.out hb2
end Go.Proofs.YtgpgcnmnfnnkjaaGreatDoor
end
