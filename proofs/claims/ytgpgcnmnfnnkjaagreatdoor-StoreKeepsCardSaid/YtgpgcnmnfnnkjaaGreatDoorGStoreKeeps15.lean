/- Walks: Append, and what the other changes share. -/
import Derived.Test.YtgpgcnmnfnnkjaaGreatDoorGStoreKeeps14
import Derived.StillTailTactics
set_option linter.unusedVariables false
set_option linter.unusedSimpArgs false
section
namespace Go.Proofs.YtgpgcnmnfnnkjaaGreatDoor
open Go Go.RowKit BigFrame Go.PlainAid
attribute [local go_sem] After.same
theorem dskPowerAt {F : Nat → Prop} {g : Nat} {d : Dk} {w : World} (hd : DiskAt w F g d) (ok : OkD d) :
 Calls Tryz.prog 54 #[.pointer (some ⟨g, 0, none⟩)] w fun e w' => e = .returned (.int .i64 (powE d.left)) ∧ DiskAt w' F g (powD d).2 ∧ Chg F w w' := by
 obtain ⟨v, ys, hv, hy⟩ := hd.open_
 refine (dskPower hv ok.lo ok.hi).mono ?_
 rintro e w' ⟨rfl, h1, h2⟩
 refine ⟨rfl, ?_, h2.mono fun k _ hk => by rw [hk]; exact hv.inG⟩
 rw [powD_eq]
 exact h1.at_ hy
def Und (w : World) (F : Nat → Prop) (g : Nat) (d : Dk) (w' : World) : Prop := DiskAt w' (FF F w w') g d ∧ Chg F w w'
theorem Und.start {F : Nat → Prop} {g : Nat} {d : Dk} {w : World} (h : DiskAt w F g d) : Und w F g d w := ⟨h.ff (Nat.le_refl _), Chg.refl _ _⟩
theorem DiskAt.back {F : Nat → Prop} {w w1 w2 : World} {g : Nat} {d : Dk} (h : DiskAt w2 (FF F w1 w2) g d) (hs : w.heap.size ≤ w1.heap.size) (h0 : ∀ k, F k → k < w.heap.size) (h12 : w1.heap.size ≤ w2.heap.size) : DiskAt w2 (FF F w w2) g d :=
 h.mono (fun k hk => by
  rcases hk with hk | hk
  · exact .inl hk
  · exact .inr ⟨by omega, hk.2⟩) (FF_lt h0 (by omega))
theorem Und.step {F : Nat → Prop} {g : Nat} {d d' : Dk} {w w1 w2 : World} (h : Und w F g d w1) (h0 : ∀ k, F k → k < w.heap.size) (h2 : Und w1 (FF F w w1) g d' w2) : Und w F g d' w2 :=
 ⟨h2.1.seq h0 h2.2.size h.2.size, h.2.seq h2.2⟩
theorem Und.call {F : Nat → Prop} {g : Nat} {d d' : Dk} {w w1 w2 : World} (h : Und w F g d w1) (h2 : DiskAt w2 (FF F w w1) g d') (c : Chg (FF F w w1) w1 w2) (h0 : ∀ k, F k → k < w.heap.size) : Und w F g d' w2 :=
 h.step h0 ⟨h2.ff c.size, c⟩
theorem Und.ext {F : Nat → Prop} {g : Nat} {d : Dk} {w w1 w2 : World} (h : Und w F g d w1) (h0 : ∀ k, F k → k < w.heap.size) (hb : Below w1.heap.size w1 w2) : Und w F g d w2 :=
 h.call (h.1.ext hb) (.of_below hb) h0
theorem Und.drewN {F : Nat → Prop} {g : Nat} {d : Dk} {w w1 : World} (h : Und w F g d w1) (n : Nat) : Und w F g d (w1.drewN n) :=
 ⟨h.1.ext (below_drawn _ _ _), h.2.drewN n⟩
theorem OkD.pow {d : Dk} (ok : OkD d) : OkD (powD d).2 := by
 obtain ⟨h1, h2, h3, h4, h5⟩ := ok
 rw [powD_eq]
 refine ⟨h1, h2, h3, ?_, ?_⟩
 · show -1 ≤ powL d.left; unfold powL; split <;> omega
 · show powL d.left ≤ _; unfold powL; split <;> omega
theorem powD_fs (d : Dk) : (powD d).2.fs = d.fs := by rw [powD_eq]
theorem powE_eq {d : Dk} : powE d.left = if (powD d).1 then 0 else 18 := by
 rw [powD_eq]; unfold powE
 by_cases h : d.left = 0 <;> simp [h]
theorem idxD_has {l : List Fil} {s : ByteArray} (h : ∃ x ∈ l, hasN s x = true) : ∃ j, ∃ h : j < l.length, idxD l s = (j : Int) := by
 obtain ⟨x, hx, hn⟩ := h
 rcases idxD_spec l s with ⟨_, h2⟩ | ⟨j, hj, h1, _⟩
 · rw [h2 x hx] at hn; cases hn
 · exact ⟨j, hj, h1⟩
def mD (l : List Fil) (s : ByteArray) : List Fil := if idxD l s < 0 then putD l ⟨s, [], 0⟩ else l
theorem mD_has (l : List Fil) (s : ByteArray) : ∃ j, ∃ h : j < (mD l s).length, idxD (mD l s) s = (j : Int) := by
 unfold mD
 rcases idxD_spec l s with ⟨h1, _⟩ | ⟨j, hj, h1, _⟩
 · rw [if_pos (by omega)]
   exact idxD_has ⟨⟨s, [], 0⟩, by unfold putD; simp, eqS_refl s⟩
 · rw [if_neg (by omega)]
   exact ⟨j, hj, h1⟩
theorem addD_eq (s : ByteArray) (p : List UInt8) (l : List Fil) : addD s p l = updD (mD l s) (idxD (mD l s) s).toNat fun f => ⟨f.name, f.data ++ p, f.kept⟩ := rfl
theorem putD_length (l : List Fil) (f : Fil) : (putD l f).length = l.length + 1 := by
 unfold putD; rw [List.length_append, List.length_cons, List.length_take, List.length_drop]; omega
theorem totD_putD (l : List Fil) (f : Fil) : totD (putD l f) = totD l + f.data.length := by
 unfold putD
 rw [totD_append, totD_cons]
 have h := totD_append (l.take (posD l f.name)) (l.drop (posD l f.name))
 rw [List.take_append_drop] at h
 omega
theorem mD_length (l : List Fil) (s : ByteArray) : (mD l s).length ≤ l.length + 1 := by
 unfold mD; split
 · rw [putD_length]; exact Nat.le_refl _
 · omega
theorem totD_mD (l : List Fil) (s : ByteArray) : totD (mD l s) = totD l := by
 unfold mD; split
 · rw [totD_putD]; simp
 · rfl
theorem updD_at {l : List Fil} {k : Nat} (h : k < l.length) (f : Fil → Fil) : updD l k f = l.set k (f l[k]) := by unfold updD; rw [List.getElem?_eq_getElem h]
theorem totD_set {l : List Fil} {k : Nat} (h : k < l.length) (f : Fil) : totD (l.set k f) + l[k].data.length = totD l + f.data.length := by
 have e : l = l.take k ++ l[k] :: l.drop (k + 1) := by rw [← List.drop_eq_getElem_cons h, List.take_append_drop]
 have e2 : l.set k f = l.take k ++ f :: l.drop (k + 1) := List.set_eq_take_append_cons_drop.trans (if_pos h)
 rw [e2, totD_append, totD_cons]
 have h3 : totD l = totD (l.take k) + (l[k].data.length + totD (l.drop (k + 1))) := by
  conv => lhs; rw [e]
  rw [totD_append, totD_cons]
 omega
theorem DiskV.extU {F : Nat → Prop} {w w1 w2 : World} {g : Nat} {v o a l : Value} {ys : List Ent} (h : DiskV w1 (FF F w w1) g v o a l ys) (h0 : ∀ k, F k → k < w.heap.size) (hs : w.heap.size ≤ w1.heap.size) (hb : Below w1.heap.size w1 w2) : DiskV w2 (FF F w w2) g v o a l ys :=
 (h.ext hb).mono (fun k hk => by
  rcases hk with hk | hk
  · exact .inl hk
  · exact .inr ⟨hk.1, Nat.lt_of_lt_of_le hk.2 hb.size⟩) (FF_lt h0 (Nat.le_trans hs hb.size))
theorem DiskV.seqU {F : Nat → Prop} {w w1 w2 : World} {g : Nat} {v o a l : Value} {ys : List Ent} (h : DiskV w2 (FF (FF F w w1) w1 w2) g v o a l ys ∧ Chg (FF F w w1) w1 w2) (h0 : ∀ k, F k → k < w.heap.size) (c : Chg F w w1) : DiskV w2 (FF F w w2) g v o a l ys ∧ Chg F w w2 :=
 ⟨h.1.mono (fun k hk => FF.seq h.2.size c.size hk) (FF_lt h0 (Nat.le_trans c.size h.2.size)), c.seq h.2⟩
theorem map_set_fil (ys : List Ent) (j : Nat) (y : Ent) : (ys.set j y).map Ent.fil = (ys.map Ent.fil).set j y.fil := List.map_set
theorem dskPutNil {F : Nat → Prop} {g : Nat} {d : Dk} {w : World} (hd : DiskAt w F g d) (hl : d.fs.length ≤ 1000000) (s : ByteArray) :
 Calls Tryz.prog 56 #[.pointer (some ⟨g, 0, none⟩), .agg #[.string s, .slice none 0 0, .int .i64 0]] w fun e w' => e = .returned (.tuple #[]) ∧ Und w F g { d with fs := putD d.fs ⟨s, [], 0⟩ } w' := by
 obtain ⟨v, ys, hv, hy⟩ := hd.open_
 have hn : ∀ k, (Ent.v ⟨s, none, 0, [], 0⟩).ownBlock ≠ some k := fun k h => by simp [Ent.v, Value.ownBlock] at h
 refine (dskPut (y := ⟨s, none, 0, [], 0⟩) hv (by rw [DiskV.len_eq hy]; exact hl) (OwnB.nil _ _ _) (fun x _ k hk => absurd hk (hn k)) (fun k _ => hn k) (fun k hk => absurd hk (hn k)) (hn g)).mono ?_
 rintro e w' ⟨rfl, ⟨v1, hx⟩, hc⟩
 refine ⟨rfl, hx.at_ (d := { d with fs := putD d.fs ⟨s, [], 0⟩ }) ?_, hc⟩
 rw [insE_fil, hy]; rfl
set_option maxRecDepth 8000 in
set_option maxHeartbeats 4000000 in
theorem dskAppend {F : Nat → Prop} {g : Nat} {d : Dk} {w : World} (hd : DiskAt w F g d) (ok : OkD d) (hfs : d.fs.length ≤ 999999) (s : ByteArray) (hs : s.size ≤ 4611686018427387904) (vp : Value) (p : List UInt8) (hp : Bytes w vp p) (hpF : p ≠ [] → ∀ k, vp.ownBlock = some k → ¬ F k) :
 Calls Tryz.prog 17 #[.pointer (some ⟨g, 0, none⟩), .string s, vp] w fun e w' => e = .returned (.int .i64 (appendD d s p).1) ∧ Und w F g (appendD d s p).2 w' := by
 have hlt := hd.lt
 obtain ⟨pp, cp, rfl, hp1, hp2, _, _⟩ := hp.form
 unfold maxLen at hp2
 have hplen : p.length ≤ 9223372036854775807 := by omega
 have hp0 : (0 : Int) ≤ (p.length : Int) := by omega
 have hT := ok.tot
 have Hd := Lib.hid hd
 have Hp := Lib.hid hp
 have HpF := Lib.hid hpF
 obtain ⟨v, ys, hv, hy⟩ := hd.open_
 have c1 := hv.blk.cell 1 _ rfl
 clear hd hp hpF hv hy
 cases hoff : d.off with
 | true =>
  have hr : appendD d s p = (18, d) := by unfold appendD; rw [if_pos hoff]
  rw [hr]
  rw [hoff] at c1
  clear hr hoff
  go_enter Tryz.func17, Tryz.ntmps17
  go_wp2
  go_ret
  exact ⟨rfl, Und.start Hd.out⟩
 | false =>
  rw [hoff] at c1
  have hnam := dskNamed s w hs
  cases hnm : namedD s with
  | false =>
   have hr : appendD d s p = (19, d) := by unfold appendD; rw [if_neg (by rw [hoff]; decide), if_pos hnm]
   rw [hr]
   rw [hnm] at hnam
   clear hr hnm hoff
   go_enter Tryz.func17, Tryz.ntmps17
   go_wp2_with (go_at_call 52; refine hnam.mono ?_; rintro e w' ⟨rfl, rfl⟩)
   go_ret
   exact ⟨rfl, Und.start Hd.out⟩
  | true =>
   rw [hnm] at hnam
   have htot := dskTotal Hd.out (Nat.le_trans hT (by decide))
   by_cases hfull : 4194304 < totD d.fs + p.length
   · have hr : appendD d s p = (14, d) := by unfold appendD; rw [if_neg (by rw [hoff]; decide), if_neg (by rw [hnm]; decide), if_pos hfull]
     rw [hr]
     have hi : (4194304 : Int) - (totD d.fs : Int) < (p.length : Int) := by omega
     have hi0 : (0 : Int) ≤ (totD d.fs : Int) := by omega
     have hi1 : (totD d.fs : Int) ≤ 4194304 := by omega
     generalize totD d.fs = T at *
     clear hr hnm hoff
     go_enter Tryz.func17, Tryz.ntmps17
     go_wp2_with fail
     refine hnam.mono ?_
     rintro e w' ⟨rfl, rfl⟩
     go_wp2_with fail
     refine htot.mono ?_
     rintro e w1 ⟨rfl, hb⟩
     go_wp2_with fail
     go_ret
     exact ⟨rfl, (Und.start Hd.out).ext hlt hb⟩
   · have hr : appendD d s p = stepD d (addD s p) := by unfold appendD; rw [if_neg (by rw [hoff]; decide), if_neg (by rw [hnm]; decide), if_neg hfull]
     have hi : ¬ (4194304 : Int) - (totD d.fs : Int) < (p.length : Int) := by omega
     have hi0 : (0 : Int) ≤ (totD d.fs : Int) := by omega
     have hi1 : (totD d.fs : Int) ≤ 4194304 := by omega
     have hfull2 : totD d.fs + p.length ≤ 4194304 := by omega
     have Htm := Lib.hid (totD_mD d.fs s)
     have Hml := Lib.hid (mD_length d.fs s)
     have Hadd := Lib.hid (addD_eq s p d.fs)
     have Hmd : Hid (mD d.fs s = if idxD d.fs s < 0 then putD d.fs ⟨s, [], 0⟩ else d.fs) := rfl
     have Hpf := Lib.hid (powD_fs d)
     have Hr := Lib.hid hr
     obtain ⟨j, hj, hix⟩ := mD_has d.fs s
     have Hix := Lib.hid hix
     clear hr hnm hoff hfull hix
     generalize totD d.fs = T at *
     go_enter Tryz.func17, Tryz.ntmps17
     go_wp2_with fail
     refine hnam.mono ?_
     rintro e w' ⟨rfl, rfl⟩
     go_wp2_with fail
     refine htot.mono ?_
     rintro e w1 ⟨rfl, hb⟩
     have und1 := (Und.start Hd.out).ext hlt hb
     have hd1 := Hd.out.ext hb
     have hpow := dskPowerAt hd1 ok
     rw [powE_eq] at hpow
     clear htot hnam c1
     go_wp2_with fail
     refine hpow.mono ?_
     rintro e w2 ⟨rfl, hd2, ch2⟩
     have chA : Chg F w w2 := (Chg.of_below hb).step ch2
     have undB : Und w F g (powD d).2 w2 := ⟨hd2.mono (fun _ => .inl) (FF_lt hlt (by have := hb.size; have := ch2.size; omega)), chA⟩
     have Hsd : Hid (stepD d (addD s p) = if (powD d).1 then (0, { (powD d).2 with fs := addD s p d.fs }) else (18, (powD d).2)) := rfl
     clear hpow und1 hd1 hd2 ch2 chA hb
     cases hpw : (powD d).1 with
     | false =>
      rw [hpw] at Hsd
      simp only [Bool.false_eq_true, if_false] at Hsd ⊢
      go_wp2_with fail
      go_ret
      exact ⟨by rw [Hr.out, Hsd.out]; rfl, by rw [Hr.out, Hsd.out]; exact undB⟩
     | true =>
      rw [hpw] at Hsd
      simp only [if_true] at Hsd ⊢
      generalize hd1e : (powD d).2 = d1 at *
      have hfs1 : d1.fs = d.fs := Hpf.out
      have hfind := dskFind _ g d1 s w2 undB.1
      rw [hfs1] at hfind
      have hl1 : d1.fs.length ≤ 1000000 := by rw [hfs1]; omega
      have Hfs1 := Lib.hid hfs1
      clear hfs1 hd1e
      generalize mD d.fs s = m at *
      go_upto_if 33 with ((go_at_call 55; refine hfind.mono ?_; rintro e w3 ⟨rfl, hb3⟩))
      have undC := undB.ext hlt hb3
      clear undB hb3 hfind
      go_cut [] from 33 (fun wi => Und w F g { d1 with fs := m } wi)
      case first =>
       by_cases hx : idxD d.fs s < 0
       · have hput := dskPutNil undC.1 hl1 s
         have hmm := Hmd.out
         rw [if_pos hx] at hmm
         rw [Hfs1.out, ← hmm] at hput
         clear hmm
         go_wp2_with fail
         refine hput.mono ?_
         rintro e w4 ⟨rfl, hu⟩
         have undE := undC.step hlt hu
         go_wp2_with fail
         go_meet
         exact undE
       · have hmm := Hmd.out
         rw [if_neg hx] at hmm
         have e1 : ({ d1 with fs := m } : Dk) = d1 := by rw [hmm, ← Hfs1.out]
         rw [← e1] at undC
         have UndC := Lib.hid undC
         clear hmm e1 undC
         go_wp2_with fail
         go_meet
         exact UndC.out
      case rest =>
       have undE : Und w F g { d1 with fs := m } wc := hcut
       obtain ⟨w4, hw4⟩ : ∃ z, z = wc := ⟨_, rfl⟩
       subst hw4
       clear hcut undC
       have hfind2 : ∀ W, Below w4.heap.size w4 W → Calls Tryz.prog 55 #[.pointer (some ⟨g, 0, none⟩), .string s] W fun e w' => e = .returned (.int .i64 (j : Int)) ∧ Below W.heap.size W w' := fun W hW => by
        have h := dskFind _ g { d1 with fs := m } s W (undE.1.ext hW)
        have e1 : idxD ({ d1 with fs := m } : Dk).fs s = (j : Int) := Hix.out
        rw [e1] at h; exact h
       obtain ⟨v4, ys4, hv4, hy4⟩ := undE.1.open_
       have hjy : j < ys4.length := by rw [DiskV.len_eq hy4]; exact hj
       have hml := Hml.out
       have hys : ys4.length ≤ 1000000 := by rw [DiskV.len_eq hy4]; show m.length ≤ _; omega
       obtain ⟨gv, cap, rfl, _, _, hq1, hq2⟩ := hv4.fil.row.head (by omega)
       unfold maxLen at hq2
       have k0 := hv4.blk.cell 0 _ rfl
       have hgl := hv4.lt g hv4.inG
       have hji : (j : Int) < (ys4.length : Int) := by omega
       have hj0 : (0 : Int) ≤ (j : Int) := by omega
       have Hy4 : Hid (ys4.map Ent.fil = m) := hy4
       have Hix2 := Hix
       clear hml hy4 Hix
       go_wp2_with fail
       go_region_held3 (fun w' => w'.cell? ⟨g, 0, none⟩ = some (.slice (some ⟨gv, 0, none⟩) ys4.length cap)) (go_keep)
        (first | (go_at_call 55; (refine (hfind2 _ (below_drew _ _)).mono ?_); (rintro e w5 ⟨rfl, hb5⟩); (have k5 := (hb5.cell (p := ⟨g, 0, none⟩) hgl).trans k0)))
       all_goals
        have hbb := (below_drew w4.heap.size w4).trans hb5
        have hv5 := hv4.extU hlt undE.2.size hbb
        have ch5 : Chg F w w5 := undE.2.step (.of_below hbb)
        have hmem : ys4[j] ∈ ys4 := List.getElem_mem hjy
        have hdat := hv5.fil.data _ hmem
        have hoff5 := hv5.fil.off _ hmem
        have hp5 : Bytes w5 (.slice pp p.length cp) p := ch5.cellsE Nat.one_pos Hp.out (fun he => HpF.out (fun e => he (by rw [e]; rfl)))
        have hdl : (ys4[j]).data.length + p.length ≤ 4194304 := by
         have h1 := totD_mem (l := m) (f := (ys4[j]).fil) (by rw [← Hy4.out]; exact List.mem_map.2 ⟨_, hmem, rfl⟩)
         have h2 : (ys4[j]).fil.data.length = (ys4[j]).data.length := rfl
         rw [Htm.out] at h1; omega
        have c51 : w5.cell? ⟨gv, j * 3 + 1, none⟩ = some (.slice ys4[j].p ys4[j].data.length ys4[j].c) := hv5.fil.row.cellAt rfl j hjy 1 (by decide)
        obtain ⟨y, hy⟩ : ∃ y, ys4[j] = y := ⟨_, rfl⟩
        have Hy := Lib.hid hy
        rw [hy] at hdat hoff5 hdl c51
        have hdat' : OwnB w5 0 5 (.slice y.p y.data.length y.c) y.data := hdat
        have Hv5 := Lib.hid hv5
        clear hy hmem hv4 hbb hb5 undE hfind2 k0 k5 hdat hv5
        go_wp2_with (first | (at_builtin; refine wpList_appW tU8 rfl rfl hdat' rfl hp5 rfl (by omega) (Nat.zero_le _) ?_; intro v6 w6 own6 g6 _ h6; (obtain ⟨p6, c6, hv6, _⟩ := (Own.cells own6).form); (have row6 := Hv5.out.fil.row.grown g6 (.inr (fun e => hoff5 gv rfl e.symm))); (have c61 : w6.cell? ⟨gv, j * 3 + 1, none⟩ = some (.slice ys4[j].p ys4[j].data.length ys4[j].c) := row6.cellAt rfl j hjy 1 (by decide)); (have f61 := row6.frozenAt rfl (j * 3 + 1)); subst hv6) | fail)
        go_ret
        have hya : (⟨y.name, p6, c6, y.data ++ p, y.kept⟩ : Ent).v = .slice p6 (y.data.length + p.length) c6 := by unfold Ent.v; rw [List.length_append]
        have ow : OwnB w6 0 5 (⟨y.name, p6, c6, y.data ++ p, y.kept⟩ : Ent).v (y.data ++ p) := by rw [hya]; exact OwnB.snoc own6
        have hst := row6.stored rfl j hjy 1 (by decide) (.slice p6 (y.data.length + p.length) c6) rfl ⟨y.name, p6, c6, y.data ++ p, y.kept⟩ (by rw [Hy.out]; show [_, _, _] = _; rw [show (⟨y.name, p6, c6, y.data ++ p, y.kept⟩ : Ent).data.length = y.data.length + p.length from List.length_append]; rfl)
        have hset := Hv5.out.setEnt hjy (y := ⟨y.name, p6, c6, y.data ++ p, y.kept⟩) (Chg.of_grown g6 (fun k hk => by rw [Hy.out]; exact hk)) ow (by rw [hya, Hy.out]; exact h6.imp id fun h n hn => by rw [h] at hn; cases hn; exact Nat.le_refl _) hst.1 hst.2
        have hfin := DiskV.seqU hset hlt ch5
        have hres : (ys4.set j ⟨y.name, p6, c6, y.data ++ p, y.kept⟩).map Ent.fil = addD s p d.fs := by
         rw [map_set_fil, Hy4.out, Hadd.out, Hix2.out, Int.toNat_natCast, updD_at hj]
         have e2 : m[j] = y.fil := by rw [← Hy.out]; simp only [← Hy4.out, List.getElem_map]
         rw [e2]; rfl
        refine ⟨by rw [Hr.out, Hsd.out]; rfl, ?_⟩
        rw [Hr.out, Hsd.out]
        exact ⟨hfin.1.at_ (d := { d1 with fs := addD s p d.fs }) hres, hfin.2⟩
end Go.Proofs.YtgpgcnmnfnnkjaaGreatDoor
end
