/- Both logs in one world: their calls. The walk of impostlaw18.alike: both disks hold the same. -/
import Derived.Test.YtgpgcnmnfnnkjaaGreatDoorGWalOpens45
import Derived.Test.YtgpgcnmnfnnkjaaGreatDoorGWalOpens46
import Derived.Test.YtgpgcnmnfnnkjaaGreatDoorGWalOpens42
import Derived.Test.YtgpgcnmnfnnkjaaGreatDoorGWalOpens29
import Derived.Test.YtgpgcnmnfnnkjaaGreatDoorGWalOpens23
import Derived.Test.YtgpgcnmnfnnkjaaGreatDoorGWalOpens20
set_option linter.unusedVariables false
set_option linter.unusedSimpArgs false
section
namespace Go.Proofs.YtgpgcnmnfnnkjaaGreatDoor
open Go Go.RowKit BigFrame Go.PlainAid
section
variable {w0 w w' : World} {X Y : Nat → Prop} {gD gR : Nat} {d dR d' : Dk}
def TwoOpD (w0 w : World) (X : Nat → Prop) (gD gR : Nat) (d dR : Dk) (o : Option Wl) (e : Ending) (w' : World) : Prop :=
 (match o with
 | none => (∃ E : Int, E ≠ 0 ∧ E = (cleanW d).1 ∧ e = .returned (.tuple #[.pointer none, .int .i64 E])) ∧ TwoD w0 X gD gR (cleanW d).2 dR w'
 | some ws => ∃ gw v X', e = .returned (.tuple #[.pointer (some ⟨gw, 0, none⟩), .int .i64 0]) ∧ w.heap.size ≤ gw ∧ (∀ k, X k → X' k) ∧ TwoD w0 X' gD gR (cleanW d).2 dR w' ∧ WalV w' X' gD gw v ws)
 ∧ Chg (Gx w0 X) w w'
theorem TwoD.openD (h : TwoD w0 X gD gR d dR w) (T0 : ∀ z, Below w0.heap.size w0 z → TabW z) (hb0 : Below w0.heap.size w0 w) {m : Nat} (pi : PInv m d) (hm : m ≤ 300) :
 Calls Tryz.prog 19 #[.pointer (some ⟨gD, 0, none⟩)] w (TwoOpD w0 w X gD gR d dR (openW d)) := by
 obtain ⟨Y, h1, _, h2, h3⟩ := h.prog
 refine (walOpen T0 h2 hb0 pi hm).mono ?_
 rintro e w' ⟨ho, h4, h5⟩
 refine ⟨?_, h5.mono fun k _ hk => ⟨hk.1, fun hx => hk.2 (h1 k hx)⟩⟩
 cases how : openW d with
 | none =>
  rw [how] at ho
  obtain ⟨X', a1, _, _, a4⟩ := h3 Y _ _ w' (fun _ h => h) (fun _ h => .inl h) h4 h5 (fun _ h => .inl h)
  exact ⟨ho, a4.mono a1⟩
 | some ws =>
  rw [how] at ho
  obtain ⟨gw, v, Y', g1, g2, g3, g4, g5, g6, g7⟩ := ho
  obtain ⟨X', a1, _, a3, a4⟩ := h3 Y' _ _ w' g3 g4 g5 h5 (fun _ h => .inl h)
  exact ⟨gw, v, X', g1, g2, a1, a4, g6.same_set (a3 _ g6.inX (.inr g2)) (fun j hj => a3 _ (g6.lX j hj) (.inr (g7 j hj)))⟩
def TwoOpR (w0 w : World) (X : Nat → Prop) (gD gR : Nat) (d dR : Dk) (o : Option Wl) (e : Ending) (w' : World) : Prop :=
 (match o with
 | none => (∃ E : Int, E ≠ 0 ∧ E = (cleanW dR).1 ∧ e = .returned (.tuple #[.pointer none, .int .i64 E])) ∧ TwoD w0 X gD gR d (cleanW dR).2 w'
 | some ws => ∃ gw v X', e = .returned (.tuple #[.pointer (some ⟨gw, 0, none⟩), .int .i64 0]) ∧ w.heap.size ≤ gw ∧ (∀ k, X k → X' k) ∧ TwoD w0 X' gD gR d (cleanW dR).2 w' ∧ RwV w' X' gR gw v ws ∧ ∀ k, v.ownBlock = some k → ws.h.log ≠ [] → w.heap.size ≤ k)
 ∧ Chg (Gx w0 X) w w'
theorem TwoD.openR (h : TwoD w0 X gD gR d dR w) {m : Nat} (pi : PInv m dR) (hm : m ≤ 300) :
 Calls Tryz.prog 11 #[.pointer (some ⟨gR, 0, none⟩)] w (TwoOpR w0 w X gD gR d dR (openW dR)) := by
 obtain ⟨Y, h1, _, h2, h3⟩ := h.doc
 refine (rkOpen h2 pi hm).mono ?_
 rintro e w' ⟨ho, h4, h5⟩
 refine ⟨?_, h5.mono fun k _ hk => ⟨hk.1, fun hx => hk.2 (h1 k hx)⟩⟩
 cases how : openW dR with
 | none =>
  rw [how] at ho
  obtain ⟨X', a1, _, _, a4⟩ := h3 Y _ _ w' (fun _ h => h) (fun _ h => .inl h) h4 h5 (fun _ h => .inl h)
  exact ⟨ho, a4.mono a1⟩
 | some ws =>
  rw [how] at ho
  obtain ⟨gw, v, Y', g1, g2, g3, g4, g5, g6, g7⟩ := ho
  obtain ⟨X', a1, _, a3, a4⟩ := h3 Y' _ _ w' g3 g4 g5 h5 (fun _ h => .inl h)
  exact ⟨gw, v, X', g1, g2, a1, a4, g6.same_set (a3 _ g6.inX (.inr g2)) (fun hne j hj => a3 _ (g6.lX hne j hj) (.inr (g7 j hj hne))), g7⟩
end
structure LgV (w0 w : World) (X : Nat → Prop) (gD gR : Nat) (d dR : Dk) (gw gr : Nat) (v vr : Value) (ws wt : Wl) : Prop where
 two : TwoD w0 X gD gR d dR w
 vv : WalV w X gD gw v ws
 rv : RwV w X gR gr vr wt
 hb : Below w0.heap.size w0 w
 gw0 : w0.heap.size ≤ gw
 gr0 : w0.heap.size ≤ gr
 ne : gw ≠ gr
 nv : v.ownBlock ≠ some gr
 nr : wt.h.log ≠ [] → vr.ownBlock ≠ some gw
section
variable {w0 w w' : World} {X Y : Nat → Prop} {gD gR gw gr : Nat} {d dR d' : Dk} {v vr : Value} {ws wt ws' : Wl}
theorem LgV.ext (k : LgV w0 w X gD gR d dR gw gr v vr ws wt) (hb : Below w.heap.size w w') : LgV w0 w' X gD gR d dR gw gr v vr ws wt :=
 ⟨k.two.ext hb, k.vv.ext hb, k.rv.ext hb, k.hb.trans (hb.mono k.hb.size), k.gw0, k.gr0, k.ne, k.nv, k.nr⟩
theorem LgV.alloc (k : LgV w0 w X gD gR d dR gw gr v vr ws wt) (o : Obj) : LgV w0 (w.alloc o) (fun j => X j ∨ j = w.heap.size) gD gR d dR gw gr v vr ws wt :=
 have hb := below_alloc w o
 ⟨k.two.more hb (fun j hj => hj.imp id fun e => by subst e; exact ⟨Nat.le_refl _, by simp⟩), (k.vv.ext hb).mono fun _ h => .inl h, (k.rv.ext hb).mono fun _ h => .inl h, k.hb.trans (hb.mono k.hb.size), k.gw0, k.gr0, k.ne, k.nv, k.nr⟩
theorem LgV.saveR (k : LgV w0 w X gD gR d dR gw gr v vr ws wt) {m : Nat} (pi : PInv m dR) (hm : m ≤ 880) (hsn : wt.h.snap = sNone) (h : Hrd) (u : Value) (hu : Rd etyE w u h.log) {E : Int} (he : saveR dR wt h = (E, ws', d')) :
 Calls Tryz.prog 12 #[.pointer (some ⟨gr, 0, none⟩), hrdA h u] w fun e w' => e = .returned (.int .i64 E) ∧ ∃ X' v', (∀ j, X j → X' j) ∧ LgV w0 w' X' gD gR d d' gw gr v v' ws ws' ∧ Chg (Gw w0 X gr) w w' := by
 obtain ⟨Y, h1, _, h2, h3⟩ := k.two.doc
 refine (rkSave h2 pi hm (k.rv.mono h1) hsn h u hu he).mono ?_
 rintro e w' ⟨rfl, Y', v', g1, g2, g3, g4, g5, g6⟩
 obtain ⟨X', a1, _, a3, a4⟩ := h3 Y' _ _ w' g1 g2 g3 g5 (fun j hj => hj.imp id fun e => by rw [e]; exact k.rv.inX)
 have cX : Chg (Gw w0 X gr) w w' := g5.mono fun j _ hj => hj.imp (fun q => ⟨q.1, fun hx => q.2 (h1 j hx)⟩) id
 have hgw := k.vv.blk.lt
 have hne2 : v' = vr → ws'.h.log ≠ [] → wt.h.log ≠ [] := fun e hne h0 => by
  obtain ⟨p, c, e1⟩ := g4.log.shape
  obtain ⟨p2, c2, e2⟩ := k.rv.log.shape
  rw [e, e2] at e1
  simp only [Value.slice.injEq] at e1
  rw [h0] at e1
  exact hne (List.eq_nil_of_length_eq_zero e1.2.1.symm)
 refine ⟨rfl, X', v', a1, ⟨a4, (k.vv.only cX ?_ ?_).mono a1, g4.same_set (a1 _ k.rv.inX) (fun hne j hj => a3 _ (g4.lX hne j hj) (g6.elim (fun e => .inl (k.rv.lX (hne2 e hne) j (by rw [← e]; exact hj))) (fun q => .inr (q j hj)))), k.hb.trans (cX.gwB k.hb.size k.gr0), k.gw0, k.gr0, k.ne, k.nv, fun hne e => ?_⟩, cX⟩
 · rintro (q | q)
   · exact q.2 k.vv.inX
   · exact k.ne q
 · intro j hj hq
   rcases hq with q | q
   · exact q.2 (k.vv.lX j hj)
   · exact k.nv (by rw [hj, q])
 · rcases g6 with q | q
   · exact k.nr (hne2 q hne) (by rw [← q]; exact e)
   · have := q _ e; omega
end
end Go.Proofs.YtgpgcnmnfnnkjaaGreatDoor
end

section
namespace Go.Proofs.YtgpgcnmnfnnkjaaGreatDoor
open Go Go.RowKit BigFrame Go.PlainAid
section
variable {w0 w : World} {X : Nat → Prop} {gD gR : Nat} {d dR : Dk}
theorem TwoD.namesD (h : TwoD w0 X gD gR d dR w) (ok : okD d = true) : Calls Tryz.prog 34 #[.pointer (some ⟨gD, 0, none⟩)] w fun e w' => (∃ r, e = .returned r ∧ OwnR strE w' w.heap.size 9 r (d.fs.map (·.name))) ∧ Below w.heap.size w w' := by
 obtain ⟨Y, _, _, h1, _⟩ := h.prog; exact lNames h1 ok
theorem TwoD.namesR (h : TwoD w0 X gD gR d dR w) (ok : okD dR = true) : Calls Tryz.prog 13 #[.pointer (some ⟨gR, 0, none⟩)] w fun e w' => (∃ r, e = .returned r ∧ OwnR strE w' w.heap.size 9 r (dR.fs.map (·.name))) ∧ Below w.heap.size w w' := by
 obtain ⟨Y, _, _, h1, _⟩ := h.doc; exact rNames h1 ok
theorem TwoD.readD (h : TwoD w0 X gD gR d dR w) (ok : okD d = true) (s : ByteArray) {o : Option (List UInt8)} (he : readD d s = o) : Calls Tryz.prog 62 #[.pointer (some ⟨gD, 0, none⟩), .string s] w fun e w' => (∃ r, e = .returned (.tuple #[r, .bool o.isSome]) ∧ OwnB w' w.heap.size 5 r (o.getD [])) ∧ Below w.heap.size w w' := by
 obtain ⟨Y, _, _, h1, _⟩ := h.prog; exact lRead h1 ok s he
theorem TwoD.readR (h : TwoD w0 X gD gR d dR w) (s : ByteArray) {o : Option (List UInt8)} (he : Proofs.YtgpgcnmnfnnkjaaGreatDoor.readD dR s = o) : Calls Tryz.prog 14 #[.pointer (some ⟨gR, 0, none⟩), .string s] w fun e w' => (∃ r, e = .returned (.tuple #[r, .bool o.isSome]) ∧ Bytes w' r (o.getD [])) ∧ w = w' := by
 obtain ⟨Y, _, _, h1, _⟩ := h.doc; exact rRead h1 s he
theorem PInv.fileAt {k : Nat} (h : PInv k d) {m : Nat} (hm : m < d.fs.length) : Proofs.YtgpgcnmnfnnkjaaGreatDoor.readD d d.fs[m].name = some d.fs[m].data := by
 rw [read_getF, h.l.sort.get hm]; rfl
end
set_option maxHeartbeats 8000000 in
set_option maxRecDepth 100000 in
theorem alikeL {w0 w : World} {X : Nat → Prop} {gD gR : Nat} {d : Dk} {k : Nat} (hk : k ≤ 900) (hp : PInv k d) (h : TwoD w0 X gD gR d d w) :
 Calls Tryz.prog 22 #[.pointer (some ⟨gD, 0, none⟩), .pointer (some ⟨gR, 0, none⟩)] w fun e w' => e = .returned (.bool true) ∧ Below w.heap.size w w' := by
 have Hp := Lib.hid hp
 have hok := Lib.hid (hp.ok (by omega))
 have hnam := h.namesR hok.out
 have hlen : (d.fs.map (·.name)).length ≤ 900 := by rw [List.length_map]; have := hp.l.len; omega
 clear hp
 go_enter Tryz.func22, Tryz.ntmps22
 go_wp2_with fail
 refine hnam.mono ?_
 rintro e w1 ⟨⟨r1, rfl, own1⟩, b1⟩
 have h1 := h.ext b1
 have rd1 := own1.rd
 clear hnam own1 h
 obtain ⟨N, hN⟩ : ∃ N, d.fs.map (·.name) = N := ⟨_, rfl⟩
 have HN := Lib.hid hN
 rw [hN] at rd1 hlen
 clear hN
 obtain ⟨p1, c1, rfl, hp1, hp2, _, _⟩ := rd1.form
 unfold maxLen at hp2
 have hnd := h1.namesD hok.out
 rw [HN.out] at hnd
 go_wp2_with fail
 refine hnd.mono ?_
 rintro e w2 ⟨⟨r2, rfl, own2⟩, b2⟩
 have h2 := h1.ext b2
 have rd2 := rd1.ext b2
 have bA := b1.trans (b2.mono b1.size)
 have hsm := sameStrs _ _ _ w2 own2.rd rd2
 clear hnd h1 rd1 own2 b1 b2
 go_wp2_with fail
 refine hsm.mono ?_
 rintro e w3 ⟨rfl, n3, hw3⟩
 have s3 : Below w2.heap.size w2 w3 := by rw [hw3]; exact below_drawn _ _ _
 have h3 := h2.ext s3
 have rd3 := rd2.ext s3
 have bB := bA.trans (s3.mono bA.size)
 clear hw3 hsm h2 rd2 bA s3
 go_wp2_with fail
 go_loopw [6] (fun i wr => ∃ m : Nat, m ≤ N.length ∧ i = .int .i64 m ∧ TwoD w0 X gD gR d d wr ∧ Rd strE wr (.slice p1 N.length c1) N ∧ Below w.heap.size w wr) (fun i _ => N.length - (intOf i).toNat)
 case atStart => exact ⟨0, by omega, rfl, h3, rd3, bB⟩
 case round =>
  clear h3 rd3 bB
  obtain ⟨m, hm, rfl, ht, rd, hb⟩ := hrel
  have hm0 : (0 : Int) ≤ (m : Int) := by omega
  by_cases hlt : m < N.length
  · have hi : (m : Int) < (N.length : Int) := by omega
    obtain ⟨gb, go, rfl⟩ := Rd.blk rd (by omega)
    have cm : wr.cell? ⟨gb, go + m, none⟩ = some (.string N[m]) := by
     have h2 := rd.at_ hlt 0 (by decide)
     rw [show go + (m * strE.sz + 0) = go + m from by show go + (m * 1 + 0) = _; omega] at h2; exact h2
    have hmd : m < d.fs.length := by have := hlt; rw [← HN.out, List.length_map] at this; exact this
    have hrv : readD d N[m] = some d.fs[m].data := by
     have e : N[m] = d.fs[m].name := by simp only [← HN.out, List.getElem_map]
     rw [e]; exact Hp.out.fileAt hmd
    have hgl : gb < wr.heap.size := by
     have h2 := Cells.lt rd (by rw [strE.all_length]; show 0 < N.length * 1; omega) gb rfl
     exact h2
    generalize N[m] = s at *
    generalize d.fs[m].data = B at *
    have hrd := ht.readD hok.out s hrv
    have Hrv := Lib.hid hrv
    clear hrv hmd
    go_wp2_with fail
    refine hrd.mono ?_
    rintro e w5 ⟨⟨rA, rfl, bytA⟩, b5⟩
    have t5 := ht.ext b5
    have rd5 := rd.ext b5
    have cm5 := (b5.cell (p := ⟨gb, go + m, none⟩) hgl).trans cm
    have hb5 := hb.trans (b5.mono hb.size)
    have hrr := t5.readR s Hrv.out
    have e1 : (some B : Option (List UInt8)).getD [] = B := rfl
    have e2 : (some B : Option (List UInt8)).isSome = true := rfl
    rw [e1] at bytA hrr
    rw [e2] at hrr ⊢
    clear hrd ht rd cm b5 hb e1 e2
    go_wp2_with fail
    refine hrr.mono ?_
    rintro e w' ⟨⟨rB, rfl, bytB⟩, rfl⟩
    have hsm := sameBytes rA rB B B w5 bytA.bytes bytB
    rw [decide_eq_true rfl] at hsm
    clear hrr bytA bytB cm5
    go_wp2_with fail
    refine hsm.mono ?_
    rintro e w6 ⟨rfl, n6, hw6⟩
    have s6 : Below w5.heap.size w5 w6 := by rw [hw6]; exact below_drawn _ _ _
    have t6 := t5.ext s6
    have rd6 := rd5.ext s6
    have b6 := hb5.trans (s6.mono hb5.size)
    clear hw6 hsm t5 rd5 hb5 s6
    go_wp2_with fail
    go_roundw
    case rel => exact ⟨m + 1, by omega, by go_num, t6, rd6, b6⟩
    case measure => simp [intOf]; omega
  · have hi : ¬ (m : Int) < (N.length : Int) := by omega
    go_wp2_with fail
    go_ret
    exact ⟨rfl, hb⟩
end Go.Proofs.YtgpgcnmnfnnkjaaGreatDoor
end
