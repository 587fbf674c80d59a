/- The walk of WalPlays. -/
import Derived.Test.YtgpgcnmnfnnkjaaGreatDoorGWalPlays48
import Derived.Test.YtgpgcnmnfnnkjaaGreatDoorGWalPlays31
import Derived.Test.YtgpgcnmnfnnkjaaGreatDoorGWalPlays45
import Derived.Test.YtgpgcnmnfnnkjaaGreatDoorGWalPlays44
import Derived.Test.YtgpgcnmnfnnkjaaGreatDoorGWalPlays2
import Derived.StillTailTactics
import Derived.Deep.CutRange
set_option linter.unusedVariables false
set_option linter.unusedSimpArgs false
section
namespace Go.Proofs.YtgpgcnmnfnnkjaaGreatDoor
open Go Go.RowKit Go.PlainAid BigFrame
attribute [local go_sem] After.same
theorem ints_inL {w : World} {v : Value} {l : List Int} (h : Rd intsE w v l) : l ≠ [] → ∀ k, v.ownBlock = some k → k < w.heap.size := fun hn => Cells.lt h (by rw [intsE.all_length]; have h2 := List.length_pos_iff.2 hn; show 0 < l.length * 1; omega)
theorem ask10 {w : World} {b off n c : Nat} {l : List AskL} (h : Rd aslE w (.slice (some ⟨b, off, none⟩) n c) l) {k : Nat} (hk : k < l.length) : w.cell? ⟨b, off + k * 10, none⟩ = some (.int .i64 l[k].kind) ∧ w.cell? ⟨b, off + k * 10 + 1, none⟩ = some (.int .i64 l[k].n) ∧ w.cell? ⟨b, off + k * 10 + 2, none⟩ = some (.int .i64 l[k].h.term) ∧ w.cell? ⟨b, off + k * 10 + 3, none⟩ = some (.int .i64 l[k].h.vote) ∧ w.cell? ⟨b, off + k * 10 + 4, none⟩ = some (.int .i64 l[k].h.base) ∧ w.cell? ⟨b, off + k * 10 + 5, none⟩ = some (.int .i64 l[k].h.bterm) ∧ w.cell? ⟨b, off + k * 10 + 6, none⟩ = some (.int .i64 l[k].h.members) ∧ w.cell? ⟨b, off + k * 10 + 7, none⟩ = some (.string l[k].h.snap) ∧ w.cell? ⟨b, off + k * 10 + 8, none⟩ = some (.slice l[k].hp l[k].h.log.length l[k].hc) ∧ w.cell? ⟨b, off + k * 10 + 9, none⟩ = some (.slice l[k].pp l[k].picks.length l[k].pc) :=
 ⟨h.at_ hk 0 (by decide), h.at_ hk 1 (by decide), h.at_ hk 2 (by decide), h.at_ hk 3 (by decide), h.at_ hk 4 (by decide), h.at_ hk 5 (by decide), h.at_ hk 6 (by decide), h.at_ hk 7 (by decide), h.at_ hk 8 (by decide), h.at_ hk 9 (by decide)⟩
def PlS (w0 : World) (gD gR : Nat) (w : World) (X : Nat → Prop) (d : Dk) (tw tx : Value) : Prop :=
 TwoD w0 X gD gR d d w ∧ Below w0.heap.size w0 w ∧ ((tw = .pointer none ∧ tx = .pointer none) ∨ ∃ gw gr v vr ws wt, tw = .pointer (some ⟨gw, 0, none⟩) ∧ tx = .pointer (some ⟨gr, 0, none⟩) ∧ LgV w0 w X gD gR d d gw gr v vr ws wt ∧ Alk ws wt ∧ wt.h.snap = sNone)
section
variable {w0 w w' : World} {X : Nat → Prop} {gD gR : Nat} {d d' : Dk} {tw tx : Value}
theorem PlS.ext (h : PlS w0 gD gR w X d tw tx) (hb : Below w.heap.size w w') : PlS w0 gD gR w' X d tw tx := by
 obtain ⟨h1, h2, h3⟩ := h
 refine ⟨h1.ext hb, h2.trans (hb.mono h2.size), h3.imp id ?_⟩
 rintro ⟨gw, gr, v, vr, ws, wt, e1, e2, k, a, s⟩
 exact ⟨gw, gr, v, vr, ws, wt, e1, e2, k.ext hb, a, s⟩
theorem PlS.alloc (h : PlS w0 gD gR w X d tw tx) (o : Obj) : PlS w0 gD gR (w.alloc o) (fun j => X j ∨ j = w.heap.size) d tw tx := by
 obtain ⟨h1, h2, h3⟩ := h
 have hb := below_alloc w o
 refine ⟨h1.more hb (fun j hj => hj.imp id fun e => by subst e; exact ⟨Nat.le_refl _, by simp⟩), h2.trans (hb.mono h2.size), h3.imp id ?_⟩
 rintro ⟨gw, gr, v, vr, ws, wt, e1, e2, k, a, s⟩
 exact ⟨gw, gr, v, vr, ws, wt, e1, e2, k.alloc o, a, s⟩
theorem TwoD.chgX {dR : Dk} (h : TwoD w0 X gD gR d dR w) {G : Nat → Prop} (c : Chg G w w') (hG : ∀ k, G k → X k) : TwoD w0 X gD gR d dR w' := by
 obtain ⟨⟨FD, FR, h1, h2, h3, h4, h5⟩, h6⟩ := h
 exact ⟨⟨FD, FR, h1.chg c (fun k hk hg => (h3 k hk).2 (hG k hg)), h2.chg c (fun k hk hg => (h4 k hk).2 (hG k hg)), h3, h4, h5⟩, fun k hk => Nat.lt_of_lt_of_le (h6 k hk) c.size⟩
theorem PlS.disks (h : PlS w0 gD gR w X d tw tx) (t : TwoD w0 X gD gR d' d' w') (c : Chg (Gx w0 X) w w') : PlS w0 gD gR w' X d' tw tx := by
 obtain ⟨h1, h2, h3⟩ := h
 refine ⟨t, h2.trans (c.gx h2.size), h3.imp id ?_⟩
 rintro ⟨gw, gr, v, vr, ws, wt, e1, e2, k, a, s⟩
 exact ⟨gw, gr, v, vr, ws, wt, e1, e2, k.disks t c, a, s⟩
theorem PlS.lt (h : PlS w0 gD gR w X d tw tx) : ∀ b, (tw = .pointer (some ⟨b, 0, none⟩) ∨ tx = .pointer (some ⟨b, 0, none⟩)) → b < w.heap.size := by
 obtain ⟨_, _, ⟨rfl, rfl⟩ | ⟨gw, gr, v, vr, ws, wt, rfl, rfl, k, _, _⟩⟩ := h
 · rintro b (e | e) <;> cases e
 · rintro b (e | e)
   · cases e; exact k.vv.blk.lt
   · cases e; exact k.rv.blk.lt
end
set_option maxRecDepth 100000 in
set_option maxHeartbeats 16000000 in
theorem walPlays_walk (v0 : Value) (ls : List AskL) (w : World) (T : TabW w) (hv : Rd aslE w v0 ls) (hd : ∀ x ∈ ls, AskLOk w x) :
 Calls Tryz.prog 4 #[v0] w fun e w' => e = .returned (.bool true) ∧ Below w.heap.size w w' := by
 obtain ⟨w0, hw0⟩ : ∃ w0, w0 = w := ⟨_, rfl⟩
 rw [← hw0] at T hv hd ⊢
 clear hw0
 have T0 : ∀ z, Below w0.heap.size w0 z → TabW z := Lib.tabBelow_of_tabIs T
 have Tn := Lib.hid T0
 have Hd := Lib.hid hd
 clear T T0 hd
 obtain ⟨pl, cl, rfl⟩ := hv.shape
 have hl2 := hv.le
 unfold maxLen at hl2
 go_enter Tryz.func4, Tryz.ntmps4
 go_wp2_with fail
 refine (lNew w0 w0 (Nat.le_refl _) noX (fun _ h => h.elim)).mono ?_
 rintro e w1 ⟨rfl, d1, b1⟩
 generalize w0.heap.size = gD at d1
 go_wp2_with fail
 refine (rNew w1 w1 (Nat.le_refl _) (fun _ => False) (fun _ h => h.elim)).mono ?_
 rintro e w2 ⟨rfl, r2, b12⟩
 have t2 := TwoD.start d1 (fun _ h => h.elim) r2 b12
 have b2 := b1.trans (b12.mono b1.size)
 generalize w1.heap.size = gR at t2 r2
 have ho := t2.openD Tn.out b2 PInv.zero (by omega)
 unfold TwoOpD at ho
 rw [tw0, tw0c] at ho
 clear d1 r2 b12 b1
 go_wp2_with fail
 refine ho.mono ?_
 rintro e w3 ⟨⟨gw, v3, X3, rfl, hgw, hx3, t3, v3'⟩, c3⟩
 have b3 := b2.trans (c3.gx t2.size)
 have hgw0 : w0.heap.size ≤ gw := Nat.le_trans t2.size hgw
 have hgl := v3'.blk.lt
 have ho := t3.openR PInv.zero (by omega)
 unfold TwoOpR at ho
 rw [tw0, tw0c] at ho
 clear c3 t2 b2 hx3 hgw
 go_wp2_with fail
 refine ho.mono ?_
 rintro e w4 ⟨⟨gr, v4, X4, rfl, hgr, hx4, t4, v4', hv4⟩, c4⟩
 have b4 := b3.trans (c4.gx t3.size)
 have k4 : LgV w0 w4 X4 gD gR dk0 dk0 gw gr v3 v4 _ _ := ⟨t4, (v3'.keep c4).mono hx4, v4', b4, hgw0, Nat.le_trans t3.size hgr, by omega, fun e => by have := v3'.lX _ e; have := t3.2 _ this; omega, fun hne e => by have := hv4 _ e hne; omega⟩
 have st0 : PlS w0 gD gR w4 X4 dk0 (.pointer (some ⟨gw, 0, none⟩)) (.pointer (some ⟨gr, 0, none⟩)) := ⟨t4, b4, .inr ⟨gw, gr, v3, v4, _, _, rfl, rfl, k4, Alk.refl _, rfl⟩⟩
 have St0 := Lib.hid st0
 clear st0 k4 b4 c4 hv4 v4' t4 hx4 hgr ho b3 v3' t3 hgl hgw0
 go_wp2_with fail
 go_loopw [5, 6, 7, 8, 9] (fun tw te tx tg ti wr => ∃ (k : Nat) (d : Dk) (X : Nat → Prop), k ≤ ls.length ∧ k ≤ 25 ∧ ti = .int .i64 (k : Int) ∧ Hid (PInv k d) ∧ Hid (PlS w0 gD gR wr X d tw tx)) (fun _ _ _ _ ti _ => ls.length - (intOf ti).toNat)
 case atStart => exact ⟨0, dk0, X4, by omega, by omega, rfl, Lib.hid PInv.zero, St0⟩
 case round =>
  clear St0
  obtain ⟨k, d, X, hk, hk25, rfl, pi, st⟩ := hrel
  have hk0 : (0 : Int) ≤ (k : Int) := by omega
  have hb := st.out.2.1
  by_cases hend : k < ls.length ∧ k < 25
  · obtain ⟨hlt, hlt3⟩ := hend
    have hi4 : (k : Int) < (ls.length : Int) := by omega
    have hi5 : decide ((k : Int) < 25) = true := by simp; omega
    obtain ⟨pb, po, rfl⟩ := Rd.blk hv (by omega)
    have rr := hv.ext hb
    have hx := Hd.out _ (List.getElem_mem hlt)
    obtain ⟨a0, a1, a2, a3, a4, a5, a6, a7, a8, a9⟩ := ask10 rr hlt
    obtain ⟨x, hxe⟩ : ∃ x, ls[k] = x := ⟨_, rfl⟩
    rw [hxe] at a0 a1 a2 a3 a4 a5 a6 a7 a8 a9 hx
    have Hx := Lib.hid hx
    clear hxe rr hx
    have kA := Blk.new wr #[.int .i64 x.kind, .int .i64 x.n, .int .i64 x.h.term, .int .i64 x.h.vote, .int .i64 x.h.base, .int .i64 x.h.bterm, .int .i64 x.h.members, .string x.h.snap, .slice x.hp x.h.log.length x.hc, .slice x.pp x.picks.length x.pc] 57
    have ca := below_alloc wr (.cells #[.int .i64 x.kind, .int .i64 x.n, .int .i64 x.h.term, .int .i64 x.h.vote, .int .i64 x.h.base, .int .i64 x.h.bterm, .int .i64 x.h.members, .string x.h.snap, .slice x.hp x.h.log.length x.hc, .slice x.pp x.picks.length x.pc] 57)
    have stA := st.out.alloc (.cells #[.int .i64 x.kind, .int .i64 x.n, .int .i64 x.h.term, .int .i64 x.h.vote, .int .i64 x.h.base, .int .i64 x.h.bterm, .int .i64 x.h.members, .string x.h.snap, .slice x.hp x.h.log.length x.hc, .slice x.pp x.picks.length x.pc] 57)
    have hltA := st.out.lt
    have hbA := stA.2.1
    have y0 := kA.cell 0 _ rfl
    have y1 := kA.cell 1 _ rfl
    have y2 := kA.cell 2 _ rfl
    have y3 := kA.cell 3 _ rfl
    have y4 := kA.cell 4 _ rfl
    have y5 := kA.cell 5 _ rfl
    have y6 := kA.cell 6 _ rfl
    have y7 := kA.cell 7 _ rfl
    have y8 := kA.cell 8 _ rfl
    have y9 := kA.cell 9 _ rfl
    clear hb
    go_upto_region 10 with (fail)
    clear a0 a1 a2 a3 a4 a5 a6 a7 a8 a9
    generalize wr.alloc (.cells #[.int .i64 x.kind, .int .i64 x.n, .int .i64 x.h.term, .int .i64 x.h.vote, .int .i64 x.h.base, .int .i64 x.h.bterm, .int .i64 x.h.members, .string x.h.snap, .slice x.hp x.h.log.length x.hc, .slice x.pp x.picks.length x.pc] 57) = wA at *
    have hsm := refSmall x.h (.slice x.hp x.h.log.length x.hc) wA (Hx.out.log.ext hbA) (Nat.le_trans Hx.out.snap (by decide)) (fun y hy => Nat.le_trans (Hx.out.data y hy) (by decide))
    go_upto_region 10 with (fail)
    go_cut [56] from 47 to 56 (fun q wi => q = .bool (!smallH x.h || decide (20 < x.picks.length)) ∧ Below wA.heap.size wA wi)
    case first =>
     cases hs : smallH x.h with
     | false =>
      rw [hs] at hsm
      clear stA hltA
      go_wp2_with fail
      refine hsm.mono ?_
      rintro e w5 ⟨rfl, b5⟩
      have k5 := kA.ext b5
      have q0 := k5.cell 0 _ rfl
      have q1 := k5.cell 1 _ rfl
      have q2 := k5.cell 2 _ rfl
      have q3 := k5.cell 3 _ rfl
      have q4 := k5.cell 4 _ rfl
      have q5 := k5.cell 5 _ rfl
      have q6 := k5.cell 6 _ rfl
      have q7 := k5.cell 7 _ rfl
      have q8 := k5.cell 8 _ rfl
      have q9 := k5.cell 9 _ rfl
      clear y0 y1 y2 y3 y4 y5 y6 y7 y8 y9
      go_wp2_with fail
      go_meet
      exact ⟨by simp [hs], b5⟩
     | true =>
      rw [hs] at hsm
      clear stA hltA
      by_cases hp20 : 20 < x.picks.length
      · have h3i : (20 : Int) < (x.picks.length : Int) := by omega
        go_wp2_with fail
        refine hsm.mono ?_
        rintro e w5 ⟨rfl, b5⟩
        have k5 := kA.ext b5
        have q0 := k5.cell 0 _ rfl
        have q1 := k5.cell 1 _ rfl
        have q2 := k5.cell 2 _ rfl
        have q3 := k5.cell 3 _ rfl
        have q4 := k5.cell 4 _ rfl
        have q5 := k5.cell 5 _ rfl
        have q6 := k5.cell 6 _ rfl
        have q7 := k5.cell 7 _ rfl
        have q8 := k5.cell 8 _ rfl
        have q9 := k5.cell 9 _ rfl
        clear y0 y1 y2 y3 y4 y5 y6 y7 y8 y9
        go_wp2_with fail
        go_meet
        exact ⟨by simp [hs, hp20] <;> omega, b5⟩
      · have h3i : ¬ (20 : Int) < (x.picks.length : Int) := by omega
        go_wp2_with fail
        refine hsm.mono ?_
        rintro e w5 ⟨rfl, b5⟩
        have k5 := kA.ext b5
        have q0 := k5.cell 0 _ rfl
        have q1 := k5.cell 1 _ rfl
        have q2 := k5.cell 2 _ rfl
        have q3 := k5.cell 3 _ rfl
        have q4 := k5.cell 4 _ rfl
        have q5 := k5.cell 5 _ rfl
        have q6 := k5.cell 6 _ rfl
        have q7 := k5.cell 7 _ rfl
        have q8 := k5.cell 8 _ rfl
        have q9 := k5.cell 9 _ rfl
        clear y0 y1 y2 y3 y4 y5 y6 y7 y8 y9
        go_wp2_with fail
        go_meet
        exact ⟨by simp [hs, hp20] <;> omega, b5⟩
    case rest =>
    obtain ⟨rfl, b5⟩ := hcut
    obtain ⟨w5, hw5e⟩ : ∃ z, z = wc := ⟨_, rfl⟩
    subst hw5e
    have st5 := stA.ext b5
    have k5 := kA.ext b5
    clear hsm y0 y1 y2 y3 y4 y5 y6 y7 y8 y9 stA kA hbA
    obtain ⟨sm, hsm⟩ : ∃ b, (!smallH x.h || decide (20 < x.picks.length)) = b := ⟨_, rfl⟩
    rw [hsm]
    have St5 := Lib.hid st5
    clear st5
    cases sm with
    | true =>
     go_wp2_with fail
     go_roundw
     case rel => exact ⟨k + 1, d, _, by omega, by omega, by go_num, Lib.hid pi.out.up, St5⟩
     case measure => simp [intOf]; omega
    | false =>
    clear hsm
    have HltA := Lib.hid hltA
    have Kw := Lib.hid k5
    have Pi := pi
    clear hltA k5 ca
    go_upto_region 11 with (fail)
    have q0 := Kw.out.cell 0 _ rfl
    go_upto_block 2 with (fail)
    clear q0
    go_cut [5, 6, 7, 8] from 59 to 126 (fun tw te tx tg wi => ∃ (d' : Dk) (X' : Nat → Prop), PInv (k + 1) d' ∧ PlS w0 gD gR wi X' d' tw tx)
    case first => as_aux_lemma =>
     have st5 := St5.out
     have y0 := Kw.out.cell 0 _ rfl
     by_cases h1 : x.kind = 1
     · have h1b : (x.kind == 1) = true := by simpa using h1
       clear h1
       have Hl := Lib.hid (show Rd etyE w0 (.slice x.hp x.h.log.length x.hc) x.h.log from Hx.out.log)
       go_upto_region 13 with (fail)
       clear y0
       obtain ⟨tt, hb5, ⟨rfl, rfl⟩ | ⟨gx, gr, v, vr, ws, wt, rfl, rfl, L5, al, sn⟩⟩ := st5
       · have hRR : (rightH x.h != rightH x.h) = false := by simp
         refine wp_region_F (n := 21) (S := fun w' : World => w'.cell? ⟨wr.heap.size, 2, none⟩ = some (.int .i64 x.h.term) ∧ w'.cell? ⟨wr.heap.size, 3, none⟩ = some (.int .i64 x.h.vote) ∧ w'.cell? ⟨wr.heap.size, 4, none⟩ = some (.int .i64 x.h.base) ∧ w'.cell? ⟨wr.heap.size, 5, none⟩ = some (.int .i64 x.h.bterm) ∧ w'.cell? ⟨wr.heap.size, 6, none⟩ = some (.int .i64 x.h.members) ∧ w'.cell? ⟨wr.heap.size, 7, none⟩ = some (.string x.h.snap) ∧ w'.cell? ⟨wr.heap.size, 8, none⟩ = some (.slice x.hp x.h.log.length x.hc)) (by kernel_rfl) ?_
         have hHeld : (fun w' : World => w'.cell? ⟨wr.heap.size, 2, none⟩ = some (.int .i64 x.h.term) ∧ w'.cell? ⟨wr.heap.size, 3, none⟩ = some (.int .i64 x.h.vote) ∧ w'.cell? ⟨wr.heap.size, 4, none⟩ = some (.int .i64 x.h.base) ∧ w'.cell? ⟨wr.heap.size, 5, none⟩ = some (.int .i64 x.h.bterm) ∧ w'.cell? ⟨wr.heap.size, 6, none⟩ = some (.int .i64 x.h.members) ∧ w'.cell? ⟨wr.heap.size, 7, none⟩ = some (.string x.h.snap) ∧ w'.cell? ⟨wr.heap.size, 8, none⟩ = some (.slice x.hp x.h.log.length x.hc)) w5.drew := ⟨(Kw.out.ext (below_drew _ _)).cell 2 _ rfl, (Kw.out.ext (below_drew _ _)).cell 3 _ rfl, (Kw.out.ext (below_drew _ _)).cell 4 _ rfl, (Kw.out.ext (below_drew _ _)).cell 5 _ rfl, (Kw.out.ext (below_drew _ _)).cell 6 _ rfl, (Kw.out.ext (below_drew _ _)).cell 7 _ rfl, (Kw.out.ext (below_drew _ _)).cell 8 _ rfl⟩
         refine wpAnyF_tk 0 (some 61) (Op.fieldAddr 57 (Operand.tmp 10) 2) 0 (v := ?_) rfl (by kernel_rfl) (fun _ _ _ h => h) ?_ hHeld ?_
         rotate_left
         · intro w hSw
           try dsimp only at hSw
           obtain ⟨_, _, _, _, _, _, _⟩ := hSw
           dsimp only [bare]
           go_simp <;> with_reducible rfl
         try simp only [bare, Act.put, lyA, lyZ, lyS]
         refine wpAnyF_tk 1 (some 62) (Op.load 24 (Operand.tmp 61)) 24 (v := ?_) rfl (by kernel_rfl) (fun _ _ _ h => h) ?_ hHeld ?_
         rotate_left
         · intro w hSw
           try dsimp only at hSw
           obtain ⟨_, _, _, _, _, _, _⟩ := hSw
           dsimp only [bare]
           go_simp <;> with_reducible rfl
         try simp only [bare, Act.put, lyA, lyZ, lyS]
         refine wpAnyF_tk 3 (some 64) (Op.fieldAddr 57 (Operand.tmp 10) 2) 0 (v := ?_) rfl (by kernel_rfl) (fun _ _ _ h => h) ?_ hHeld ?_
         rotate_left
         · intro w hSw
           try dsimp only at hSw
           obtain ⟨_, _, _, _, _, _, _⟩ := hSw
           dsimp only [bare]
           go_simp <;> with_reducible rfl
         try simp only [bare, Act.put, lyA, lyZ, lyS]
         refine wpAnyF_tk 4 (some 65) (Op.load 24 (Operand.tmp 64)) 24 (v := ?_) rfl (by kernel_rfl) (fun _ _ _ h => h) ?_ hHeld ?_
         rotate_left
         · intro w hSw
           try dsimp only at hSw
           obtain ⟨_, _, _, _, _, _, _⟩ := hSw
           dsimp only [bare]
           go_simp <;> with_reducible rfl
         try simp only [bare, Act.put, lyA, lyZ, lyS]
         refine wpAnyF_one 2 (some 63) (Op.call { callee := Callee.value (Operand.func 23), args := #[Operand.tmp 62], argTypes := #[24] }) 4 rfl (by kernel_rfl) (fun K hK => ?_)
         dsimp only [bare]; go_simp
         (with_reducible refine (walRight x.h (.slice x.hp x.h.log.length x.hc) w5.drew (Hl.out.ext (hb5.trans ((below_drew w5.heap.size w5).mono hb5.size)))).mono ?_)
         rintro e w6 ⟨rfl, b6⟩
         dsimp only
         have b56 : Below w5.heap.size w5 w6 := (below_drew w5.heap.size w5).trans b6
         have k6 := Kw.out.ext b56
         refine hK _ _ ⟨k6.cell 2 _ rfl, k6.cell 3 _ rfl, k6.cell 4 _ rfl, k6.cell 5 _ rfl, k6.cell 6 _ rfl, k6.cell 7 _ rfl, k6.cell 8 _ rfl⟩ (fun hHeld => ?_)
         clear hK K
         try simp only [bare, Act.put, lyA, lyZ, lyS]
         refine wpAnyF_one 5 (some 66) (Op.call { callee := Callee.value (Operand.func 24), args := #[Operand.tmp 65], argTypes := #[24] }) 4 rfl (by kernel_rfl) (fun K hK => ?_)
         dsimp only [bare]; go_simp
         (with_reducible refine (refRight x.h (.slice x.hp x.h.log.length x.hc) w6 (Hl.out.ext (hb5.trans (b56.mono hb5.size)))).mono ?_)
         rintro e w7 ⟨rfl, b7⟩
         dsimp only
         have b57 := b56.trans (b7.mono b56.size)
         have k7 := Kw.out.ext b57
         refine hK _ _ ⟨k7.cell 2 _ rfl, k7.cell 3 _ rfl, k7.cell 4 _ rfl, k7.cell 5 _ rfl, k7.cell 6 _ rfl, k7.cell 7 _ rfl, k7.cell 8 _ rfl⟩ (fun hHeld => ?_)
         clear hK K
         try simp only [bare, Act.put, lyA, lyZ, lyS]
         refine wpAnyF_tk 6 (some 67) (Op.binOp BinOp.neq 4 (Operand.tmp 63) (Operand.tmp 66) 4) 4 (v := ?_) rfl (by kernel_rfl) (fun _ _ _ h => h) ?_ hHeld ?_
         rotate_left
         · intro w hSw
           try dsimp only at hSw
           obtain ⟨_, _, _, _, _, _, _⟩ := hSw
           dsimp only [bare]
           go_simp <;> with_reducible rfl
         try simp only [bare, Act.put, lyA, lyZ, lyS]
         refine wpAnyF_tk 7 (some 68) (Op.move (Operand.tmp 67)) 4 (v := ?_) rfl (by kernel_rfl) (fun _ _ _ h => h) ?_ hHeld ?_
         rotate_left
         · intro w hSw
           try dsimp only at hSw
           obtain ⟨_, _, _, _, _, _, _⟩ := hSw
           dsimp only [bare]
           go_simp <;> with_reducible rfl
         try simp only [bare, Act.put, lyA, lyZ, lyS]
         refine wpAnyF_tg 8 (some 69) (Op.move (Operand.tmp 5)) 45 (some (7, false)) (v := ?_) rfl (by kernel_rfl) (by kernel_rfl) (fun _ _ _ h => h) ?_ hHeld ?_
         rotate_left
         · intro w hSw
           try dsimp only at hSw
           obtain ⟨_, _, _, _, _, _, _⟩ := hSw
           dsimp only [bare]
           go_simp <;> with_reducible rfl
         try simp only [bare, Act.put, lyA, lyZ, lyS]
         refine wpAnyF_tg 9 (some 70) (Op.binOp BinOp.neq 45 (Operand.tmp 69) (Operand.const (Value.pointer none)) 45) 4 (some (7, false)) (v := ?_) rfl (by kernel_rfl) (by kernel_rfl) (fun _ _ _ h => h) ?_ hHeld ?_
         rotate_left
         · intro w hSw
           try dsimp only at hSw
           obtain ⟨_, _, _, _, _, _, _⟩ := hSw
           dsimp only [bare]
           go_simp <;> with_reducible rfl
         try simp only [bare, Act.put, lyA, lyZ, lyS]
         refine wpAnyF_tg 10 (some 71) (Op.move (Operand.tmp 70)) 4 (some (7, false)) (v := ?_) rfl (by kernel_rfl) (by kernel_rfl) (fun _ _ _ h => h) ?_ hHeld ?_
         rotate_left
         · intro w hSw
           try dsimp only at hSw
           obtain ⟨_, _, _, _, _, _, _⟩ := hSw
           dsimp only [bare]
           go_simp <;> with_reducible rfl
         try simp only [bare, Act.put, lyA, lyZ, lyS]
         refine wpAnyF_sk 11 (some 72) (Op.move (Operand.tmp 5)) 45 (some (10, true)) rfl (by kernel_rfl) (by kernel_rfl) (fun _ _ _ h => h) hHeld ?_
         try simp only [bare, Act.put, lyA, lyZ, lyS]
         refine wpAnyF_sk 12 (some 73) (Op.fieldAddr 57 (Operand.tmp 10) 2) 0 (some (10, true)) rfl (by kernel_rfl) (by kernel_rfl) (fun _ _ _ h => h) hHeld ?_
         try simp only [bare, Act.put, lyA, lyZ, lyS]
         refine wpAnyF_sk 13 (some 74) (Op.load 24 (Operand.tmp 73)) 24 (some (10, true)) rfl (by kernel_rfl) (by kernel_rfl) (fun _ _ _ h => h) hHeld ?_
         try simp only [bare, Act.put, lyA, lyZ, lyS]
         refine wpAnyF_sk 14 (some 75) (Op.call { callee := Callee.value (Operand.func 25), args := #[Operand.tmp 72, Operand.tmp 74], argTypes := #[45, 24] }) 42 (some (10, true)) rfl (by kernel_rfl) (by kernel_rfl) (fun _ _ _ h => h) hHeld ?_
         try simp only [bare, Act.put, lyA, lyZ, lyS]
         refine wpAnyF_sk 15 (some 76) (Op.move (Operand.tmp 7)) 31 (some (10, true)) rfl (by kernel_rfl) (by kernel_rfl) (fun _ _ _ h => h) hHeld ?_
         try simp only [bare, Act.put, lyA, lyZ, lyS]
         refine wpAnyF_sk 16 (some 77) (Op.fieldAddr 57 (Operand.tmp 10) 2) 0 (some (10, true)) rfl (by kernel_rfl) (by kernel_rfl) (fun _ _ _ h => h) hHeld ?_
         try simp only [bare, Act.put, lyA, lyZ, lyS]
         refine wpAnyF_sk 17 (some 78) (Op.load 24 (Operand.tmp 77)) 24 (some (10, true)) rfl (by kernel_rfl) (by kernel_rfl) (fun _ _ _ h => h) hHeld ?_
         try simp only [bare, Act.put, lyA, lyZ, lyS]
         refine wpAnyF_sk 18 (some 79) (Op.call { callee := Callee.value (Operand.func 12), args := #[Operand.tmp 76, Operand.tmp 78], argTypes := #[31, 24] }) 3 (some (10, true)) rfl (by kernel_rfl) (by kernel_rfl) (fun _ _ _ h => h) hHeld ?_
         try simp only [bare, Act.put, lyA, lyZ, lyS]
         refine wpAnyF_sk 19 (some 80) (Op.binOp BinOp.neq 3 (Operand.tmp 75) (Operand.tmp 79) 3) 4 (some (10, true)) rfl (by kernel_rfl) (by kernel_rfl) (fun _ _ _ h => h) hHeld ?_
         try simp only [bare, Act.put, lyA, lyZ, lyS]
         refine wpAnyF_tg 20 (some 81) (Op.pick (Operand.tmp 71) (Operand.tmp 80) (Operand.const (Value.bool false))) 4 (some (7, false)) (v := ?_) rfl (by kernel_rfl) (by kernel_rfl) (fun _ _ _ h => h) ?_ hHeld ?_
         rotate_left
         · intro w hSw
           try dsimp only at hSw
           obtain ⟨_, _, _, _, _, _, _⟩ := hSw
           dsimp only [bare]
           go_simp <;> with_reducible rfl
         try simp only [bare, Act.put, lyA, lyZ, lyS]
         refine wpAnyF_end (some 82) (Op.pick (Operand.tmp 68) (Operand.const (Value.bool true)) (Operand.tmp 81)) 4 rfl (by kernel_rfl) (by kernel_rfl) (fun K hK => ?_)
         dsimp only [bare]; go_simp
         refine hK _ _ ?_
         clear hK K
         try simp only [bare, Act.put, lyA, lyZ, lyS]
         have Fin := Lib.hid (show ∃ (d' : Dk) (X' : Nat → Prop), PInv (k + 1) d' ∧ PlS w0 gD gR w7 X' d' (.pointer none) (.pointer none) from ⟨_, _, Pi.out.up, tt.ext b57, hb5.trans (b57.mono hb5.size), .inl ⟨rfl, rfl⟩⟩)
         clear hHeld k6 k7 b57 b56 b6 b7 tt
         go_wp2_with fail
         go_meet
         exact Fin.out
       · have hRR : (rightH x.h != rightH x.h) = false := by simp
         have hgx : gx < wr.heap.size := HltA.out gx (.inl rfl)
         have hgr : gr < wr.heap.size := HltA.out gr (.inr rfl)
         obtain ⟨E, ws', dA, hsA⟩ : ∃ E ws' dA, saveW d ws x.h = (E, ws', dA) := ⟨_, _, _, rfl⟩
         obtain ⟨E2, wt', dB, hsB⟩ : ∃ E2 wt' dB, saveR d wt x.h = (E2, wt', dB) := ⟨_, _, _, rfl⟩
         obtain ⟨rfl, rfl, al2, sn2⟩ := al.saved hsA hsB sn
         have piS : PInv (k + 1) dA := by have := Pi.out.save ws x.h; rw [hsA] at this; exact this
         have HA := Lib.hid hsA
         have HB := Lib.hid hsB
         have Sn := Lib.hid sn
         have Sn2 := Lib.hid sn2
         have hEE : (E != E) = false := by simp
         clear hsA hsB sn sn2 al
         refine wp_region_F (n := 21) (S := fun w' : World => w'.cell? ⟨wr.heap.size, 2, none⟩ = some (.int .i64 x.h.term) ∧ w'.cell? ⟨wr.heap.size, 3, none⟩ = some (.int .i64 x.h.vote) ∧ w'.cell? ⟨wr.heap.size, 4, none⟩ = some (.int .i64 x.h.base) ∧ w'.cell? ⟨wr.heap.size, 5, none⟩ = some (.int .i64 x.h.bterm) ∧ w'.cell? ⟨wr.heap.size, 6, none⟩ = some (.int .i64 x.h.members) ∧ w'.cell? ⟨wr.heap.size, 7, none⟩ = some (.string x.h.snap) ∧ w'.cell? ⟨wr.heap.size, 8, none⟩ = some (.slice x.hp x.h.log.length x.hc)) (by kernel_rfl) ?_
         have hHeld : (fun w' : World => w'.cell? ⟨wr.heap.size, 2, none⟩ = some (.int .i64 x.h.term) ∧ w'.cell? ⟨wr.heap.size, 3, none⟩ = some (.int .i64 x.h.vote) ∧ w'.cell? ⟨wr.heap.size, 4, none⟩ = some (.int .i64 x.h.base) ∧ w'.cell? ⟨wr.heap.size, 5, none⟩ = some (.int .i64 x.h.bterm) ∧ w'.cell? ⟨wr.heap.size, 6, none⟩ = some (.int .i64 x.h.members) ∧ w'.cell? ⟨wr.heap.size, 7, none⟩ = some (.string x.h.snap) ∧ w'.cell? ⟨wr.heap.size, 8, none⟩ = some (.slice x.hp x.h.log.length x.hc)) w5.drew := ⟨(Kw.out.ext (below_drew _ _)).cell 2 _ rfl, (Kw.out.ext (below_drew _ _)).cell 3 _ rfl, (Kw.out.ext (below_drew _ _)).cell 4 _ rfl, (Kw.out.ext (below_drew _ _)).cell 5 _ rfl, (Kw.out.ext (below_drew _ _)).cell 6 _ rfl, (Kw.out.ext (below_drew _ _)).cell 7 _ rfl, (Kw.out.ext (below_drew _ _)).cell 8 _ rfl⟩
         refine wpAnyF_tk 0 (some 61) (Op.fieldAddr 57 (Operand.tmp 10) 2) 0 (v := ?_) rfl (by kernel_rfl) (fun _ _ _ h => h) ?_ hHeld ?_
         rotate_left
         · intro w hSw
           try dsimp only at hSw
           obtain ⟨_, _, _, _, _, _, _⟩ := hSw
           dsimp only [bare]
           go_simp <;> with_reducible rfl
         try simp only [bare, Act.put, lyA, lyZ, lyS]
         refine wpAnyF_tk 1 (some 62) (Op.load 24 (Operand.tmp 61)) 24 (v := ?_) rfl (by kernel_rfl) (fun _ _ _ h => h) ?_ hHeld ?_
         rotate_left
         · intro w hSw
           try dsimp only at hSw
           obtain ⟨_, _, _, _, _, _, _⟩ := hSw
           dsimp only [bare]
           go_simp <;> with_reducible rfl
         try simp only [bare, Act.put, lyA, lyZ, lyS]
         refine wpAnyF_tk 3 (some 64) (Op.fieldAddr 57 (Operand.tmp 10) 2) 0 (v := ?_) rfl (by kernel_rfl) (fun _ _ _ h => h) ?_ hHeld ?_
         rotate_left
         · intro w hSw
           try dsimp only at hSw
           obtain ⟨_, _, _, _, _, _, _⟩ := hSw
           dsimp only [bare]
           go_simp <;> with_reducible rfl
         try simp only [bare, Act.put, lyA, lyZ, lyS]
         refine wpAnyF_tk 4 (some 65) (Op.load 24 (Operand.tmp 64)) 24 (v := ?_) rfl (by kernel_rfl) (fun _ _ _ h => h) ?_ hHeld ?_
         rotate_left
         · intro w hSw
           try dsimp only at hSw
           obtain ⟨_, _, _, _, _, _, _⟩ := hSw
           dsimp only [bare]
           go_simp <;> with_reducible rfl
         try simp only [bare, Act.put, lyA, lyZ, lyS]
         refine wpAnyF_one 2 (some 63) (Op.call { callee := Callee.value (Operand.func 23), args := #[Operand.tmp 62], argTypes := #[24] }) 4 rfl (by kernel_rfl) (fun K hK => ?_)
         dsimp only [bare]; go_simp
         (with_reducible refine (walRight x.h (.slice x.hp x.h.log.length x.hc) w5.drew (Hl.out.ext (hb5.trans ((below_drew w5.heap.size w5).mono hb5.size)))).mono ?_)
         rintro e w6 ⟨rfl, b6⟩
         dsimp only
         have b56 : Below w5.heap.size w5 w6 := (below_drew w5.heap.size w5).trans b6
         have k6 := Kw.out.ext b56
         refine hK _ _ ⟨k6.cell 2 _ rfl, k6.cell 3 _ rfl, k6.cell 4 _ rfl, k6.cell 5 _ rfl, k6.cell 6 _ rfl, k6.cell 7 _ rfl, k6.cell 8 _ rfl⟩ (fun hHeld => ?_)
         clear hK K
         try simp only [bare, Act.put, lyA, lyZ, lyS]
         refine wpAnyF_one 5 (some 66) (Op.call { callee := Callee.value (Operand.func 24), args := #[Operand.tmp 65], argTypes := #[24] }) 4 rfl (by kernel_rfl) (fun K hK => ?_)
         dsimp only [bare]; go_simp
         (with_reducible refine (refRight x.h (.slice x.hp x.h.log.length x.hc) w6 (Hl.out.ext (hb5.trans (b56.mono hb5.size)))).mono ?_)
         rintro e w7 ⟨rfl, b7⟩
         dsimp only
         have b57 := b56.trans (b7.mono b56.size)
         have k7 := Kw.out.ext b57
         refine hK _ _ ⟨k7.cell 2 _ rfl, k7.cell 3 _ rfl, k7.cell 4 _ rfl, k7.cell 5 _ rfl, k7.cell 6 _ rfl, k7.cell 7 _ rfl, k7.cell 8 _ rfl⟩ (fun hHeld => ?_)
         clear hK K
         try simp only [bare, Act.put, lyA, lyZ, lyS]
         refine wpAnyF_tk 6 (some 67) (Op.binOp BinOp.neq 4 (Operand.tmp 63) (Operand.tmp 66) 4) 4 (v := ?_) rfl (by kernel_rfl) (fun _ _ _ h => h) ?_ hHeld ?_
         rotate_left
         · intro w hSw
           try dsimp only at hSw
           obtain ⟨_, _, _, _, _, _, _⟩ := hSw
           dsimp only [bare]
           go_simp <;> with_reducible rfl
         try simp only [bare, Act.put, lyA, lyZ, lyS]
         refine wpAnyF_tk 7 (some 68) (Op.move (Operand.tmp 67)) 4 (v := ?_) rfl (by kernel_rfl) (fun _ _ _ h => h) ?_ hHeld ?_
         rotate_left
         · intro w hSw
           try dsimp only at hSw
           obtain ⟨_, _, _, _, _, _, _⟩ := hSw
           dsimp only [bare]
           go_simp <;> with_reducible rfl
         try simp only [bare, Act.put, lyA, lyZ, lyS]
         refine wpAnyF_tg 8 (some 69) (Op.move (Operand.tmp 5)) 45 (some (7, false)) (v := ?_) rfl (by kernel_rfl) (by kernel_rfl) (fun _ _ _ h => h) ?_ hHeld ?_
         rotate_left
         · intro w hSw
           try dsimp only at hSw
           obtain ⟨_, _, _, _, _, _, _⟩ := hSw
           dsimp only [bare]
           go_simp <;> with_reducible rfl
         try simp only [bare, Act.put, lyA, lyZ, lyS]
         refine wpAnyF_tg 9 (some 70) (Op.binOp BinOp.neq 45 (Operand.tmp 69) (Operand.const (Value.pointer none)) 45) 4 (some (7, false)) (v := ?_) rfl (by kernel_rfl) (by kernel_rfl) (fun _ _ _ h => h) ?_ hHeld ?_
         rotate_left
         · intro w hSw
           try dsimp only at hSw
           obtain ⟨_, _, _, _, _, _, _⟩ := hSw
           dsimp only [bare]
           go_simp <;> with_reducible rfl
         try simp only [bare, Act.put, lyA, lyZ, lyS]
         refine wpAnyF_tg 10 (some 71) (Op.move (Operand.tmp 70)) 4 (some (7, false)) (v := ?_) rfl (by kernel_rfl) (by kernel_rfl) (fun _ _ _ h => h) ?_ hHeld ?_
         rotate_left
         · intro w hSw
           try dsimp only at hSw
           obtain ⟨_, _, _, _, _, _, _⟩ := hSw
           dsimp only [bare]
           go_simp <;> with_reducible rfl
         try simp only [bare, Act.put, lyA, lyZ, lyS]
         refine wpAnyF_tg 11 (some 72) (Op.move (Operand.tmp 5)) 45 (some (10, true)) (v := ?_) rfl (by kernel_rfl) (by kernel_rfl) (fun _ _ _ h => h) ?_ hHeld ?_
         rotate_left
         · intro w hSw
           try dsimp only at hSw
           obtain ⟨_, _, _, _, _, _, _⟩ := hSw
           dsimp only [bare]
           go_simp <;> with_reducible rfl
         try simp only [bare, Act.put, lyA, lyZ, lyS]
         refine wpAnyF_tg 12 (some 73) (Op.fieldAddr 57 (Operand.tmp 10) 2) 0 (some (10, true)) (v := ?_) rfl (by kernel_rfl) (by kernel_rfl) (fun _ _ _ h => h) ?_ hHeld ?_
         rotate_left
         · intro w hSw
           try dsimp only at hSw
           obtain ⟨_, _, _, _, _, _, _⟩ := hSw
           dsimp only [bare]
           go_simp <;> with_reducible rfl
         try simp only [bare, Act.put, lyA, lyZ, lyS]
         refine wpAnyF_tg 13 (some 74) (Op.load 24 (Operand.tmp 73)) 24 (some (10, true)) (v := ?_) rfl (by kernel_rfl) (by kernel_rfl) (fun _ _ _ h => h) ?_ hHeld ?_
         rotate_left
         · intro w hSw
           try dsimp only at hSw
           obtain ⟨_, _, _, _, _, _, _⟩ := hSw
           dsimp only [bare]
           go_simp <;> with_reducible rfl
         try simp only [bare, Act.put, lyA, lyZ, lyS]
         refine wpAnyF_tg 15 (some 76) (Op.move (Operand.tmp 7)) 31 (some (10, true)) (v := ?_) rfl (by kernel_rfl) (by kernel_rfl) (fun _ _ _ h => h) ?_ hHeld ?_
         rotate_left
         · intro w hSw
           try dsimp only at hSw
           obtain ⟨_, _, _, _, _, _, _⟩ := hSw
           dsimp only [bare]
           go_simp <;> with_reducible rfl
         try simp only [bare, Act.put, lyA, lyZ, lyS]
         refine wpAnyF_tg 16 (some 77) (Op.fieldAddr 57 (Operand.tmp 10) 2) 0 (some (10, true)) (v := ?_) rfl (by kernel_rfl) (by kernel_rfl) (fun _ _ _ h => h) ?_ hHeld ?_
         rotate_left
         · intro w hSw
           try dsimp only at hSw
           obtain ⟨_, _, _, _, _, _, _⟩ := hSw
           dsimp only [bare]
           go_simp <;> with_reducible rfl
         try simp only [bare, Act.put, lyA, lyZ, lyS]
         refine wpAnyF_tg 17 (some 78) (Op.load 24 (Operand.tmp 77)) 24 (some (10, true)) (v := ?_) rfl (by kernel_rfl) (by kernel_rfl) (fun _ _ _ h => h) ?_ hHeld ?_
         rotate_left
         · intro w hSw
           try dsimp only at hSw
           obtain ⟨_, _, _, _, _, _, _⟩ := hSw
           dsimp only [bare]
           go_simp <;> with_reducible rfl
         try simp only [bare, Act.put, lyA, lyZ, lyS]
         refine wpAnyF_og 14 (some 75) (Op.call { callee := Callee.value (Operand.func 25), args := #[Operand.tmp 72, Operand.tmp 74], argTypes := #[45, 24] }) 42 (some (10, true)) rfl (by kernel_rfl) (by kernel_rfl) (fun K hK => ?_)
         dsimp only [bare]; go_simp
         (with_reducible refine ((L5.ext b57).saveD Tn.out Pi.out (by omega) x.h (.slice x.hp x.h.log.length x.hc) (Hl.out.ext (hb5.trans (b57.mono hb5.size))) (fun hne j hj => .inl (Hl.out.ltE hne j hj)) (fun hne e => by have q1 := Hl.out.ltE hne _ e; have q2 := L5.gw0; omega) HA.out).mono ?_)
         rintro e w8 ⟨rfl, X8, v8, hx8, L8, c8⟩
         dsimp only
         have k8 := c8.blk k7 (fun hG => hG.elim (fun q => q.2 (.inr rfl)) (fun q => by omega))
         refine hK _ _ ⟨k8.cell 2 _ rfl, k8.cell 3 _ rfl, k8.cell 4 _ rfl, k8.cell 5 _ rfl, k8.cell 6 _ rfl, k8.cell 7 _ rfl, k8.cell 8 _ rfl⟩ (fun hHeld => ?_)
         clear hK K
         try simp only [bare, Act.put, lyA, lyZ, lyS]
         refine wpAnyF_og 18 (some 79) (Op.call { callee := Callee.value (Operand.func 12), args := #[Operand.tmp 76, Operand.tmp 78], argTypes := #[31, 24] }) 3 (some (10, true)) rfl (by kernel_rfl) (by kernel_rfl) (fun K hK => ?_)
         dsimp only [bare]; go_simp
         (with_reducible refine (L8.saveR Pi.out (by omega) Sn.out x.h (.slice x.hp x.h.log.length x.hc) (Hl.out.ext L8.hb) HB.out).mono ?_)
         rintro e w9 ⟨rfl, X9, v9, hx9, L9, c9⟩
         dsimp only
         have k9 := c9.blk k8 (fun hG => hG.elim (fun q => q.2 (hx8 _ (.inr rfl))) (fun q => by omega))
         refine hK _ _ ⟨k9.cell 2 _ rfl, k9.cell 3 _ rfl, k9.cell 4 _ rfl, k9.cell 5 _ rfl, k9.cell 6 _ rfl, k9.cell 7 _ rfl, k9.cell 8 _ rfl⟩ (fun hHeld => ?_)
         clear hK K
         try simp only [bare, Act.put, lyA, lyZ, lyS]
         refine wpAnyF_tg 19 (some 80) (Op.binOp BinOp.neq 3 (Operand.tmp 75) (Operand.tmp 79) 3) 4 (some (10, true)) (v := ?_) rfl (by kernel_rfl) (by kernel_rfl) (fun _ _ _ h => h) ?_ hHeld ?_
         rotate_left
         · intro w hSw
           try dsimp only at hSw
           obtain ⟨_, _, _, _, _, _, _⟩ := hSw
           dsimp only [bare]
           go_simp <;> with_reducible rfl
         try simp only [bare, Act.put, lyA, lyZ, lyS]
         refine wpAnyF_tg 20 (some 81) (Op.pick (Operand.tmp 71) (Operand.tmp 80) (Operand.const (Value.bool false))) 4 (some (7, false)) (v := ?_) rfl (by kernel_rfl) (by kernel_rfl) (fun _ _ _ h => h) ?_ hHeld ?_
         rotate_left
         · intro w hSw
           try dsimp only at hSw
           obtain ⟨_, _, _, _, _, _, _⟩ := hSw
           dsimp only [bare]
           go_simp <;> with_reducible rfl
         try simp only [bare, Act.put, lyA, lyZ, lyS]
         refine wpAnyF_end (some 82) (Op.pick (Operand.tmp 68) (Operand.const (Value.bool true)) (Operand.tmp 81)) 4 rfl (by kernel_rfl) (by kernel_rfl) (fun K hK => ?_)
         dsimp only [bare]; go_simp
         refine hK _ _ ?_
         clear hK K
         try simp only [bare, Act.put, lyA, lyZ, lyS]
         have Fin := Lib.hid (show ∃ (d' : Dk) (X' : Nat → Prop), PInv (k + 1) d' ∧ PlS w0 gD gR w9 X' d' (.pointer (some ⟨gx, 0, none⟩)) (.pointer (some ⟨gr, 0, none⟩)) from ⟨_, _, piS, L9.two, L9.hb, .inr ⟨gx, gr, v8, v9, ws', wt', rfl, rfl, L9, al2, Sn2.out⟩⟩)
         clear hHeld k6 k7 k8 k9 b57 b56 b6 b7 tt L5 L8 L9 c8 c9
         go_wp2_with fail
         go_meet
         exact Fin.out
     · have h1b : (x.kind == 1) = false := by simpa using h1
       clear h1
       by_cases h3 : x.kind = 3
       · have h3b : (x.kind == 3) = true := by simpa using h3
         clear h3
         have y1 := Kw.out.cell 1 _ rfl
         have hA := st5.1.armD x.n
         go_wp2_with fail
         refine hA.mono ?_
         rintro e w6 ⟨rfl, t6, c6⟩
         have k6 := c6.blk Kw.out (fun hG => hG.2 (.inr rfl))
         have hB := t6.armR x.n
         clear y0 y1 hA
         have y1 := k6.cell 1 _ rfl
         go_wp2_with fail
         refine hB.mono ?_
         rintro e w7 ⟨rfl, t7, c7⟩
         have Fin := Lib.hid (show ∃ (d' : Dk) (X' : Nat → Prop), PInv (k + 1) d' ∧ PlS w0 gD gR w7 X' d' u5 u7 from ⟨_, _, (Pi.out.arm0 Hx.out.n64.2).up, st5.disks t7 (c6.step c7)⟩)
         clear hB t6 c6 t7 c7 k6 y1 st5
         go_wp2_with fail
         go_meet
         exact Fin.out
       · have h3b : (x.kind == 3) = false := by simpa using h3
         clear h3
         by_cases h2 : x.kind = 2
         · have h2b : (x.kind == 2) = true := by simpa using h2
           have h4b : (x.kind == 4) = false := by simp [h2]
           clear h2
           have tt := st5.1
           have hb5 := st5.2.1
           cases how : openW d with
           | none =>
            have ho := tt.openD Tn.out hb5 Pi.out (by omega)
            unfold TwoOpD at ho
            rw [how] at ho
            go_wp2_with fail
            refine ho.mono ?_
            rintro e w8 ⟨⟨⟨E, hE0, hE, rfl⟩, t8⟩, c8⟩
            have hb8 := hb5.trans (c8.gx (tt).size)
            have ho2 := t8.openR Pi.out (by omega)
            unfold TwoOpR at ho2
            rw [how] at ho2
            have HE := Lib.hid hE
            clear ho c8 hE hE0
            go_wp2_with fail
            refine ho2.mono ?_
            rintro e w9 ⟨⟨⟨E2, hE2, hE3, rfl⟩, t9⟩, c9⟩
            have hb9 := hb8.trans (c9.gx t8.size)
            obtain rfl : E2 = E := hE3.trans HE.out.symm
            have hEE : (E2 != E2) = false := by simp
            have Fin := Lib.hid (show ∃ (d' : Dk) (X' : Nat → Prop), PInv (k + 1) d' ∧ PlS w0 gD gR w9 X' d' (.pointer none) (.pointer none) from ⟨_, _, Pi.out.clean.up, t9, hb9, .inl ⟨rfl, rfl⟩⟩)
            clear ho2 c9 t8 t9 HE hE3 hE2
            go_wp2_with fail
            go_meet
            exact Fin.out
           | some ws =>
            have ho := tt.openD Tn.out hb5 Pi.out (by omega)
            unfold TwoOpD at ho
            rw [how] at ho
            go_wp2_with fail
            refine ho.mono ?_
            rintro e w8 ⟨⟨gx, v8, X8, rfl, hgx, hx8, t8, v8'⟩, c8⟩
            have hb8 := hb5.trans (c8.gx (tt).size)
            have hgx0 : w0.heap.size ≤ gx := Nat.le_trans (tt).size hgx
            have hgl := v8'.blk.lt
            have ho2 := t8.openR Pi.out (by omega)
            unfold TwoOpR at ho2
            rw [how] at ho2
            clear ho c8
            go_wp2_with fail
            refine ho2.mono ?_
            rintro e w9 ⟨⟨gr, v9, X9, rfl, hgr, hx9, t9, v9', hv9⟩, c9⟩
            have hb9 := hb8.trans (c9.gx t8.size)
            have L9 : LgV w0 w9 X9 gD gR (cleanW d).2 (cleanW d).2 gx gr v8 v9 ws ws := ⟨t9, (v8'.keep c9).mono hx9, v9', hb9, hgx0, Nat.le_trans t8.size hgr, by omega, fun e => by have := v8'.lX _ e; have := t8.2 _ this; omega, fun hne e => by have := hv9 _ e hne; omega⟩
            have hEE : ((0 : Int) != 0) = false := by simp
            have Fin := Lib.hid (show ∃ (d' : Dk) (X' : Nat → Prop), PInv (k + 1) d' ∧ PlS w0 gD gR w9 X' d' (.pointer (some ⟨gx, 0, none⟩)) (.pointer (some ⟨gr, 0, none⟩)) from ⟨_, _, Pi.out.clean.up, t9, hb9, .inr ⟨gx, gr, v8, v9, ws, ws, rfl, rfl, L9, Alk.refl _, (open_snap how).1⟩⟩)
            clear ho2 c9 t8 t9 L9 hv9 v9' v8' hx8 hx9
            go_wp2_with fail
            go_meet
            exact Fin.out
         · have h2b : (x.kind == 2) = false := by simpa using h2
           clear h2
           by_cases h4 : x.kind = 4
           · have h4b : (x.kind == 4) = true := by simpa using h4
             clear h4
             have y9 := Kw.out.cell 9 _ rfl
             have hA := st5.1.crashD (Pi.out.ok (by omega)) (Hx.out.picks.ext st5.2.1) (fun hne q hq => .inl (ints_inL Hx.out.picks hne q hq)) Hx.out.hi
             unfold AskL.vp at hA
             go_wp2_with fail
             refine hA.mono ?_
             rintro e w6 ⟨rfl, t6, c6⟩
             have k6 := c6.blk Kw.out (fun hG => hG.2 (.inr rfl))
             have hb6 := st5.2.1.trans (c6.gx st5.1.size)
             have hB := t6.crashR (Pi.out.ok (by omega)) (Hx.out.picks.ext hb6) (fun hne q hq => .inl (ints_inL Hx.out.picks hne q hq)) Hx.out.hi
             unfold AskL.vp at hB
             clear y0 y9 hA
             have y9 := k6.cell 9 _ rfl
             go_wp2_with fail
             refine hB.mono ?_
             rintro e w7 ⟨rfl, t7, c7⟩
             have hb7 := hb6.trans (c7.gx t6.size)
             have piC := Pi.out.crash0 x.picks
             generalize crashD d x.picks = dC at *
             clear hB t6 c6 c7 k6 y9 st5
             cases how : openW dC with
             | none =>
              have ho := t7.openD Tn.out hb7 piC (by omega)
              unfold TwoOpD at ho
              rw [how] at ho
              go_wp2_with fail
              refine ho.mono ?_
              rintro e w8 ⟨⟨⟨E, hE0, hE, rfl⟩, t8⟩, c8⟩
              have hb8 := hb7.trans (c8.gx (t7).size)
              have ho2 := t8.openR piC (by omega)
              unfold TwoOpR at ho2
              rw [how] at ho2
              have HE := Lib.hid hE
              clear ho c8 hE hE0
              go_wp2_with fail
              refine ho2.mono ?_
              rintro e w9 ⟨⟨⟨E2, hE2, hE3, rfl⟩, t9⟩, c9⟩
              have hb9 := hb8.trans (c9.gx t8.size)
              obtain rfl : E2 = E := hE3.trans HE.out.symm
              have hEE : (E2 != E2) = false := by simp
              have Fin := Lib.hid (show ∃ (d' : Dk) (X' : Nat → Prop), PInv (k + 1) d' ∧ PlS w0 gD gR w9 X' d' (.pointer none) (.pointer none) from ⟨_, _, piC.clean.up, t9, hb9, .inl ⟨rfl, rfl⟩⟩)
              clear ho2 c9 t8 t9 HE hE3 hE2
              go_wp2_with fail
              go_meet
              exact Fin.out
             | some ws =>
              have ho := t7.openD Tn.out hb7 piC (by omega)
              unfold TwoOpD at ho
              rw [how] at ho
              go_wp2_with fail
              refine ho.mono ?_
              rintro e w8 ⟨⟨gx, v8, X8, rfl, hgx, hx8, t8, v8'⟩, c8⟩
              have hb8 := hb7.trans (c8.gx (t7).size)
              have hgx0 : w0.heap.size ≤ gx := Nat.le_trans (t7).size hgx
              have hgl := v8'.blk.lt
              have ho2 := t8.openR piC (by omega)
              unfold TwoOpR at ho2
              rw [how] at ho2
              clear ho c8
              go_wp2_with fail
              refine ho2.mono ?_
              rintro e w9 ⟨⟨gr, v9, X9, rfl, hgr, hx9, t9, v9', hv9⟩, c9⟩
              have hb9 := hb8.trans (c9.gx t8.size)
              have L9 : LgV w0 w9 X9 gD gR (cleanW dC).2 (cleanW dC).2 gx gr v8 v9 ws ws := ⟨t9, (v8'.keep c9).mono hx9, v9', hb9, hgx0, Nat.le_trans t8.size hgr, by omega, fun e => by have := v8'.lX _ e; have := t8.2 _ this; omega, fun hne e => by have := hv9 _ e hne; omega⟩
              have hEE : ((0 : Int) != 0) = false := by simp
              have Fin := Lib.hid (show ∃ (d' : Dk) (X' : Nat → Prop), PInv (k + 1) d' ∧ PlS w0 gD gR w9 X' d' (.pointer (some ⟨gx, 0, none⟩)) (.pointer (some ⟨gr, 0, none⟩)) from ⟨_, _, piC.clean.up, t9, hb9, .inr ⟨gx, gr, v8, v9, ws, ws, rfl, rfl, L9, Alk.refl _, (open_snap how).1⟩⟩)
              clear ho2 c9 t8 t9 L9 hv9 v9' v8' hx8 hx9
              go_wp2_with fail
              go_meet
              exact Fin.out
           · have h4b : (x.kind == 4) = false := by simpa using h4
             clear h4
             have Fin := Lib.hid (show ∃ (d' : Dk) (X' : Nat → Prop), PInv (k + 1) d' ∧ PlS w0 gD gR w5 X' d' u5 u7 from ⟨_, _, Pi.out.up, st5⟩)
             clear st5
             go_wp2_with fail
             go_meet
             exact Fin.out
    case rest =>
    obtain ⟨d', X', pi', st'⟩ := hcut
    obtain ⟨wx, hwx⟩ : ∃ z, z = wc := ⟨_, rfl⟩
    subst hwx
    have PiX := Lib.hid pi'
    clear pi' Kw HltA St5
    go_upto_region 27 with (fail)
    obtain ⟨tt, hbt, ⟨rfl, rfl⟩ | ⟨gx, gr, v, vr, ws, wt, rfl, rfl, L, al, sn⟩⟩ := st'
    · refine wp_region_F (n := 17) (S := fun _ : World => True) (by kernel_rfl) ?_
      have hHeld : (fun _ : World => True) wx.drew := True.intro
      refine wpAnyF_tk 0 (some 127) (Op.move (Operand.tmp 3)) 40 (v := ?_) rfl (by kernel_rfl) (fun _ _ _ h => h) ?_ hHeld ?_
      rotate_left
      · intro w hSw
        try dsimp only at hSw
        dsimp only [bare]
        go_simp <;> with_reducible rfl
      try simp only [bare, Act.put, lyA, lyZ, lyS]
      refine wpAnyF_tk 1 (some 128) (Op.move (Operand.tmp 4)) 29 (v := ?_) rfl (by kernel_rfl) (fun _ _ _ h => h) ?_ hHeld ?_
      rotate_left
      · intro w hSw
        try dsimp only at hSw
        dsimp only [bare]
        go_simp <;> with_reducible rfl
      try simp only [bare, Act.put, lyA, lyZ, lyS]
      refine wpAnyF_one 2 (some 129) (Op.call { callee := Callee.value (Operand.func 22), args := #[Operand.tmp 127, Operand.tmp 128], argTypes := #[40, 29] }) 4 rfl (by kernel_rfl) (fun K hK => ?_)
      dsimp only [bare]; go_simp
      (with_reducible refine (alikeL (by omega) PiX.out (tt.ext (below_drew _ _))).mono ?_)
      rintro e w11 ⟨rfl, b11⟩
      dsimp only
      have bx11 : Below wx.heap.size wx w11 := (below_drew wx.heap.size wx).trans b11
      refine hK _ _ True.intro (fun hHeld => ?_)
      clear hK K
      try simp only [bare, Act.put, lyA, lyZ, lyS]
      refine wpAnyF_tk 3 (some 130) (Op.unOp UnOp.not 4 (Operand.tmp 129)) 4 (v := ?_) rfl (by kernel_rfl) (fun _ _ _ h => h) ?_ hHeld ?_
      rotate_left
      · intro w hSw
        try dsimp only at hSw
        dsimp only [bare]
        go_simp <;> with_reducible rfl
      try simp only [bare, Act.put, lyA, lyZ, lyS]
      refine wpAnyF_tk 4 (some 131) (Op.move (Operand.tmp 130)) 4 (v := ?_) rfl (by kernel_rfl) (fun _ _ _ h => h) ?_ hHeld ?_
      rotate_left
      · intro w hSw
        try dsimp only at hSw
        dsimp only [bare]
        go_simp <;> with_reducible rfl
      try simp only [bare, Act.put, lyA, lyZ, lyS]
      refine wpAnyF_tg 5 (some 132) (Op.move (Operand.tmp 5)) 45 (some (4, false)) (v := ?_) rfl (by kernel_rfl) (by kernel_rfl) (fun _ _ _ h => h) ?_ hHeld ?_
      rotate_left
      · intro w hSw
        try dsimp only at hSw
        obtain ⟨_⟩ := hSw
        dsimp only [bare]
        go_simp <;> with_reducible rfl
      try simp only [bare, Act.put, lyA, lyZ, lyS]
      refine wpAnyF_tg 6 (some 133) (Op.binOp BinOp.neq 45 (Operand.tmp 132) (Operand.const (Value.pointer none)) 45) 4 (some (4, false)) (v := ?_) rfl (by kernel_rfl) (by kernel_rfl) (fun _ _ _ h => h) ?_ hHeld ?_
      rotate_left
      · intro w hSw
        try dsimp only at hSw
        obtain ⟨_⟩ := hSw
        dsimp only [bare]
        go_simp <;> with_reducible rfl
      try simp only [bare, Act.put, lyA, lyZ, lyS]
      refine wpAnyF_tg 7 (some 134) (Op.move (Operand.tmp 133)) 4 (some (4, false)) (v := ?_) rfl (by kernel_rfl) (by kernel_rfl) (fun _ _ _ h => h) ?_ hHeld ?_
      rotate_left
      · intro w hSw
        try dsimp only at hSw
        obtain ⟨_⟩ := hSw
        dsimp only [bare]
        go_simp <;> with_reducible rfl
      try simp only [bare, Act.put, lyA, lyZ, lyS]
      refine wpAnyF_sk 8 (some 135) (Op.move (Operand.tmp 5)) 45 (some (7, true)) rfl (by kernel_rfl) (by kernel_rfl) (fun _ _ _ h => h) hHeld ?_
      try simp only [bare, Act.put, lyA, lyZ, lyS]
      refine wpAnyF_sk 9 (some 136) (Op.call { callee := Callee.value (Operand.func 21), args := #[Operand.tmp 135], argTypes := #[45] }) 24 (some (7, true)) rfl (by kernel_rfl) (by kernel_rfl) (fun _ _ _ h => h) hHeld ?_
      try simp only [bare, Act.put, lyA, lyZ, lyS]
      refine wpAnyF_sk 10 (some 137) (Op.move (Operand.tmp 7)) 31 (some (7, true)) rfl (by kernel_rfl) (by kernel_rfl) (fun _ _ _ h => h) hHeld ?_
      try simp only [bare, Act.put, lyA, lyZ, lyS]
      refine wpAnyF_sk 11 (some 138) (Op.nilCheck (Operand.tmp 137)) 0 (some (7, true)) rfl (by kernel_rfl) (by kernel_rfl) (fun _ _ _ h => h) hHeld ?_
      try simp only [bare, Act.put, lyA, lyZ, lyS]
      refine wpAnyF_sk 12 (some 139) (Op.fieldAddr 51 (Operand.tmp 138) 1) 0 (some (7, true)) rfl (by kernel_rfl) (by kernel_rfl) (fun _ _ _ h => h) hHeld ?_
      try simp only [bare, Act.put, lyA, lyZ, lyS]
      refine wpAnyF_sk 13 (some 140) (Op.load 24 (Operand.tmp 139)) 24 (some (7, true)) rfl (by kernel_rfl) (by kernel_rfl) (fun _ _ _ h => h) hHeld ?_
      try simp only [bare, Act.put, lyA, lyZ, lyS]
      refine wpAnyF_sk 14 (some 141) (Op.call { callee := Callee.value (Operand.func 20), args := #[Operand.tmp 136, Operand.tmp 140], argTypes := #[24, 24] }) 4 (some (7, true)) rfl (by kernel_rfl) (by kernel_rfl) (fun _ _ _ h => h) hHeld ?_
      try simp only [bare, Act.put, lyA, lyZ, lyS]
      refine wpAnyF_sk 15 (some 142) (Op.unOp UnOp.not 4 (Operand.tmp 141)) 4 (some (7, true)) rfl (by kernel_rfl) (by kernel_rfl) (fun _ _ _ h => h) hHeld ?_
      try simp only [bare, Act.put, lyA, lyZ, lyS]
      refine wpAnyF_tg 16 (some 143) (Op.pick (Operand.tmp 134) (Operand.tmp 142) (Operand.const (Value.bool false))) 4 (some (4, false)) (v := ?_) rfl (by kernel_rfl) (by kernel_rfl) (fun _ _ _ h => h) ?_ hHeld ?_
      rotate_left
      · intro w hSw
        try dsimp only at hSw
        obtain ⟨_⟩ := hSw
        dsimp only [bare]
        go_simp <;> with_reducible rfl
      try simp only [bare, Act.put, lyA, lyZ, lyS]
      refine wpAnyF_end (some 144) (Op.pick (Operand.tmp 131) (Operand.const (Value.bool true)) (Operand.tmp 143)) 4 rfl (by kernel_rfl) (by kernel_rfl) (fun K hK => ?_)
      dsimp only [bare]; go_simp
      refine hK _ _ ?_
      clear hK K
      try simp only [bare, Act.put, lyA, lyZ, lyS]
      have Fin := Lib.hid (show PlS w0 gD gR w11 X' d' (.pointer none) (.pointer none) from ⟨tt.ext bx11, hbt.trans (bx11.mono hbt.size), .inl ⟨rfl, rfl⟩⟩)
      clear hHeld bx11 b11 tt
      go_wp2_with fail
      go_roundw
      case rel => exact ⟨k + 1, d', X', by omega, by omega, by go_num, PiX, Fin⟩
      case measure => simp [intOf]; omega
    · have hbw : bareOf ws.h = wt.h := by rw [al.h]; unfold bareOf; rw [← sn]
      obtain ⟨pv, cv, hpv⟩ := L.rv.log.shape
      subst hpv
      have hHard : ∀ z, Below wx.heap.size wx z → Calls Tryz.prog 21 #[.pointer (some ⟨gx, 0, none⟩)] z fun e w' => ∃ v', e = .returned (hrdA wt.h v') ∧ Rd etyE w' v' wt.h.log ∧ Below z.heap.size z w' := fun z hz => (walHard (L.ext hz).vv).mono fun e w' ⟨v', h1, h2, h3⟩ => ⟨v', by rw [h1, hbw], by rw [← al.h]; exact h2.rd, h3⟩
      have HH := Lib.hid hHard
      have Al := Lib.hid al
      have Sn := Lib.hid sn
      clear hHard hbw al sn
      refine wp_region_F (n := 17) (S := fun w' : World => w'.cell? ⟨gr, 1, none⟩ = some (.int .i64 wt.h.term) ∧ w'.cell? ⟨gr, 2, none⟩ = some (.int .i64 wt.h.vote) ∧ w'.cell? ⟨gr, 3, none⟩ = some (.int .i64 wt.h.base) ∧ w'.cell? ⟨gr, 4, none⟩ = some (.int .i64 wt.h.bterm) ∧ w'.cell? ⟨gr, 5, none⟩ = some (.int .i64 wt.h.members) ∧ w'.cell? ⟨gr, 6, none⟩ = some (.string wt.h.snap) ∧ w'.cell? ⟨gr, 7, none⟩ = some (.slice pv wt.h.log.length cv)) (by kernel_rfl) ?_
      have hHeld : (fun w' : World => w'.cell? ⟨gr, 1, none⟩ = some (.int .i64 wt.h.term) ∧ w'.cell? ⟨gr, 2, none⟩ = some (.int .i64 wt.h.vote) ∧ w'.cell? ⟨gr, 3, none⟩ = some (.int .i64 wt.h.base) ∧ w'.cell? ⟨gr, 4, none⟩ = some (.int .i64 wt.h.bterm) ∧ w'.cell? ⟨gr, 5, none⟩ = some (.int .i64 wt.h.members) ∧ w'.cell? ⟨gr, 6, none⟩ = some (.string wt.h.snap) ∧ w'.cell? ⟨gr, 7, none⟩ = some (.slice pv wt.h.log.length cv)) wx.drew := ⟨(L.ext (below_drew _ _)).rv.blk.cell 1 _ rfl, (L.ext (below_drew _ _)).rv.blk.cell 2 _ rfl, (L.ext (below_drew _ _)).rv.blk.cell 3 _ rfl, (L.ext (below_drew _ _)).rv.blk.cell 4 _ rfl, (L.ext (below_drew _ _)).rv.blk.cell 5 _ rfl, (L.ext (below_drew _ _)).rv.blk.cell 6 _ rfl, (L.ext (below_drew _ _)).rv.blk.cell 7 _ rfl⟩
      refine wpAnyF_tk 0 (some 127) (Op.move (Operand.tmp 3)) 40 (v := ?_) rfl (by kernel_rfl) (fun _ _ _ h => h) ?_ hHeld ?_
      rotate_left
      · intro w hSw
        try dsimp only at hSw
        obtain ⟨_, _, _, _, _, _, _⟩ := hSw
        dsimp only [bare]
        go_simp <;> with_reducible rfl
      try simp only [bare, Act.put, lyA, lyZ, lyS]
      refine wpAnyF_tk 1 (some 128) (Op.move (Operand.tmp 4)) 29 (v := ?_) rfl (by kernel_rfl) (fun _ _ _ h => h) ?_ hHeld ?_
      rotate_left
      · intro w hSw
        try dsimp only at hSw
        obtain ⟨_, _, _, _, _, _, _⟩ := hSw
        dsimp only [bare]
        go_simp <;> with_reducible rfl
      try simp only [bare, Act.put, lyA, lyZ, lyS]
      refine wpAnyF_one 2 (some 129) (Op.call { callee := Callee.value (Operand.func 22), args := #[Operand.tmp 127, Operand.tmp 128], argTypes := #[40, 29] }) 4 rfl (by kernel_rfl) (fun K hK => ?_)
      dsimp only [bare]; go_simp
      (with_reducible refine (alikeL (by omega) PiX.out (tt.ext (below_drew _ _))).mono ?_)
      rintro e w11 ⟨rfl, b11⟩
      dsimp only
      have bx11 : Below wx.heap.size wx w11 := (below_drew wx.heap.size wx).trans b11
      have L11 := L.ext bx11
      refine hK _ _ ⟨(L11).rv.blk.cell 1 _ rfl, (L11).rv.blk.cell 2 _ rfl, (L11).rv.blk.cell 3 _ rfl, (L11).rv.blk.cell 4 _ rfl, (L11).rv.blk.cell 5 _ rfl, (L11).rv.blk.cell 6 _ rfl, (L11).rv.blk.cell 7 _ rfl⟩ (fun hHeld => ?_)
      clear hK K
      try simp only [bare, Act.put, lyA, lyZ, lyS]
      refine wpAnyF_tk 3 (some 130) (Op.unOp UnOp.not 4 (Operand.tmp 129)) 4 (v := ?_) rfl (by kernel_rfl) (fun _ _ _ h => h) ?_ hHeld ?_
      rotate_left
      · intro w hSw
        try dsimp only at hSw
        obtain ⟨_, _, _, _, _, _, _⟩ := hSw
        dsimp only [bare]
        go_simp <;> with_reducible rfl
      try simp only [bare, Act.put, lyA, lyZ, lyS]
      refine wpAnyF_tk 4 (some 131) (Op.move (Operand.tmp 130)) 4 (v := ?_) rfl (by kernel_rfl) (fun _ _ _ h => h) ?_ hHeld ?_
      rotate_left
      · intro w hSw
        try dsimp only at hSw
        obtain ⟨_, _, _, _, _, _, _⟩ := hSw
        dsimp only [bare]
        go_simp <;> with_reducible rfl
      try simp only [bare, Act.put, lyA, lyZ, lyS]
      refine wpAnyF_tg 5 (some 132) (Op.move (Operand.tmp 5)) 45 (some (4, false)) (v := ?_) rfl (by kernel_rfl) (by kernel_rfl) (fun _ _ _ h => h) ?_ hHeld ?_
      rotate_left
      · intro w hSw
        try dsimp only at hSw
        obtain ⟨_, _, _, _, _, _, _⟩ := hSw
        dsimp only [bare]
        go_simp <;> with_reducible rfl
      try simp only [bare, Act.put, lyA, lyZ, lyS]
      refine wpAnyF_tg 6 (some 133) (Op.binOp BinOp.neq 45 (Operand.tmp 132) (Operand.const (Value.pointer none)) 45) 4 (some (4, false)) (v := ?_) rfl (by kernel_rfl) (by kernel_rfl) (fun _ _ _ h => h) ?_ hHeld ?_
      rotate_left
      · intro w hSw
        try dsimp only at hSw
        obtain ⟨_, _, _, _, _, _, _⟩ := hSw
        dsimp only [bare]
        go_simp <;> with_reducible rfl
      try simp only [bare, Act.put, lyA, lyZ, lyS]
      refine wpAnyF_tg 7 (some 134) (Op.move (Operand.tmp 133)) 4 (some (4, false)) (v := ?_) rfl (by kernel_rfl) (by kernel_rfl) (fun _ _ _ h => h) ?_ hHeld ?_
      rotate_left
      · intro w hSw
        try dsimp only at hSw
        obtain ⟨_, _, _, _, _, _, _⟩ := hSw
        dsimp only [bare]
        go_simp <;> with_reducible rfl
      try simp only [bare, Act.put, lyA, lyZ, lyS]
      refine wpAnyF_tg 8 (some 135) (Op.move (Operand.tmp 5)) 45 (some (7, true)) (v := ?_) rfl (by kernel_rfl) (by kernel_rfl) (fun _ _ _ h => h) ?_ hHeld ?_
      rotate_left
      · intro w hSw
        try dsimp only at hSw
        obtain ⟨_, _, _, _, _, _, _⟩ := hSw
        dsimp only [bare]
        go_simp <;> with_reducible rfl
      try simp only [bare, Act.put, lyA, lyZ, lyS]
      refine wpAnyF_tg 10 (some 137) (Op.move (Operand.tmp 7)) 31 (some (7, true)) (v := ?_) rfl (by kernel_rfl) (by kernel_rfl) (fun _ _ _ h => h) ?_ hHeld ?_
      rotate_left
      · intro w hSw
        try dsimp only at hSw
        obtain ⟨_, _, _, _, _, _, _⟩ := hSw
        dsimp only [bare]
        go_simp <;> with_reducible rfl
      try simp only [bare, Act.put, lyA, lyZ, lyS]
      refine wpAnyF_tg 11 (some 138) (Op.nilCheck (Operand.tmp 137)) 0 (some (7, true)) (v := ?_) rfl (by kernel_rfl) (by kernel_rfl) (fun _ _ _ h => h) ?_ hHeld ?_
      rotate_left
      · intro w hSw
        try dsimp only at hSw
        obtain ⟨_, _, _, _, _, _, _⟩ := hSw
        dsimp only [bare]
        go_simp <;> with_reducible rfl
      try simp only [bare, Act.put, lyA, lyZ, lyS]
      refine wpAnyF_tg 12 (some 139) (Op.fieldAddr 51 (Operand.tmp 138) 1) 0 (some (7, true)) (v := ?_) rfl (by kernel_rfl) (by kernel_rfl) (fun _ _ _ h => h) ?_ hHeld ?_
      rotate_left
      · intro w hSw
        try dsimp only at hSw
        obtain ⟨_, _, _, _, _, _, _⟩ := hSw
        dsimp only [bare]
        go_simp <;> with_reducible rfl
      try simp only [bare, Act.put, lyA, lyZ, lyS]
      refine wpAnyF_tg 13 (some 140) (Op.load 24 (Operand.tmp 139)) 24 (some (7, true)) (v := ?_) rfl (by kernel_rfl) (by kernel_rfl) (fun _ _ _ h => h) ?_ hHeld ?_
      rotate_left
      · intro w hSw
        try dsimp only at hSw
        obtain ⟨_, _, _, _, _, _, _⟩ := hSw
        dsimp only [bare]
        go_simp <;> with_reducible rfl
      try simp only [bare, Act.put, lyA, lyZ, lyS]
      refine wpAnyF_og 9 (some 136) (Op.call { callee := Callee.value (Operand.func 21), args := #[Operand.tmp 135], argTypes := #[45] }) 24 (some (7, true)) rfl (by kernel_rfl) (by kernel_rfl) (fun K hK => ?_)
      dsimp only [bare]; go_simp
      (with_reducible refine (HH.out w11 bx11).mono ?_)
      rintro e w12 ⟨v12, rfl, rd12, b12⟩
      dsimp only
      have bx12 := bx11.trans (b12.mono bx11.size)
      have L12 := L.ext bx12
      refine hK _ _ ⟨(L12).rv.blk.cell 1 _ rfl, (L12).rv.blk.cell 2 _ rfl, (L12).rv.blk.cell 3 _ rfl, (L12).rv.blk.cell 4 _ rfl, (L12).rv.blk.cell 5 _ rfl, (L12).rv.blk.cell 6 _ rfl, (L12).rv.blk.cell 7 _ rfl⟩ (fun hHeld => ?_)
      clear hK K
      try simp only [bare, Act.put, lyA, lyZ, lyS]
      refine wpAnyF_og 14 (some 141) (Op.call { callee := Callee.value (Operand.func 20), args := #[Operand.tmp 136, Operand.tmp 140], argTypes := #[24, 24] }) 4 (some (7, true)) rfl (by kernel_rfl) (by kernel_rfl) (fun K hK => ?_)
      dsimp only [bare]; go_simp
      (with_reducible refine (refSame wt.h wt.h v12 (.slice pv wt.h.log.length cv) rd12 L12.rv.log).mono ?_)
      rintro e w13 ⟨rfl, b13⟩
      dsimp only
      have bx13 := bx12.trans (b13.mono bx12.size)
      have L13 := L.ext bx13
      refine hK _ _ ⟨(L13).rv.blk.cell 1 _ rfl, (L13).rv.blk.cell 2 _ rfl, (L13).rv.blk.cell 3 _ rfl, (L13).rv.blk.cell 4 _ rfl, (L13).rv.blk.cell 5 _ rfl, (L13).rv.blk.cell 6 _ rfl, (L13).rv.blk.cell 7 _ rfl⟩ (fun hHeld => ?_)
      clear hK K
      try simp only [bare, Act.put, lyA, lyZ, lyS]
      refine wpAnyF_tg 15 (some 142) (Op.unOp UnOp.not 4 (Operand.tmp 141)) 4 (some (7, true)) (v := ?_) rfl (by kernel_rfl) (by kernel_rfl) (fun _ _ _ h => h) ?_ hHeld ?_
      rotate_left
      · intro w hSw
        try dsimp only at hSw
        obtain ⟨_, _, _, _, _, _, _⟩ := hSw
        dsimp only [bare]
        go_simp <;> with_reducible rfl
      try simp only [bare, Act.put, lyA, lyZ, lyS]
      refine wpAnyF_tg 16 (some 143) (Op.pick (Operand.tmp 134) (Operand.tmp 142) (Operand.const (Value.bool false))) 4 (some (4, false)) (v := ?_) rfl (by kernel_rfl) (by kernel_rfl) (fun _ _ _ h => h) ?_ hHeld ?_
      rotate_left
      · intro w hSw
        try dsimp only at hSw
        obtain ⟨_, _, _, _, _, _, _⟩ := hSw
        dsimp only [bare]
        go_simp <;> with_reducible rfl
      try simp only [bare, Act.put, lyA, lyZ, lyS]
      refine wpAnyF_end (some 144) (Op.pick (Operand.tmp 131) (Operand.const (Value.bool true)) (Operand.tmp 143)) 4 rfl (by kernel_rfl) (by kernel_rfl) (fun K hK => ?_)
      dsimp only [bare]; go_simp
      refine hK _ _ ?_
      clear hK K
      try simp only [bare, Act.put, lyA, lyZ, lyS]
      have Fin := Lib.hid (show PlS w0 gD gR w13 X' d' (.pointer (some ⟨gx, 0, none⟩)) (.pointer (some ⟨gr, 0, none⟩)) from ⟨tt.ext bx13, hbt.trans (bx13.mono hbt.size), .inr ⟨gx, gr, v, _, ws, wt, rfl, rfl, L13, Al.out, Sn.out⟩⟩)
      clear hHeld bx11 b11 bx12 b12 bx13 b13 L11 L12 L13 L tt rd12
      go_wp2_with fail
      go_roundw
      case rel => exact ⟨k + 1, d', X', by omega, by omega, by go_num, PiX, Fin⟩
      case measure => simp [intOf]; omega
  · rcases Nat.lt_or_ge k ls.length with hl | hl
    · have hi4 : (k : Int) < (ls.length : Int) := by omega
      have hi5 : decide ((k : Int) < 25) = false := by simp; omega
      go_wp2_with fail
      refine (walRuns_walk _ (Tn.out _ hb)).mono ?_
      rintro e w9 ⟨rfl, c9⟩
      have b9 := hb.trans (c9.mono hb.size)
      go_wp2_with fail
      go_ret
      exact ⟨rfl, b9⟩
    · have hi4 : ¬ (k : Int) < (ls.length : Int) := by omega
      go_wp2_with fail
      refine (walRuns_walk _ (Tn.out _ hb)).mono ?_
      rintro e w9 ⟨rfl, c9⟩
      have b9 := hb.trans (c9.mono hb.size)
      go_wp2_with fail
      go_ret
      exact ⟨rfl, b9⟩
end Go.Proofs.YtgpgcnmnfnnkjaaGreatDoor
end
