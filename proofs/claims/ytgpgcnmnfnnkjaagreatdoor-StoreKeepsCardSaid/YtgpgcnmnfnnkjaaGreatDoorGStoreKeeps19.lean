/- The walk of (*disk.Disk).Crash. (of DskL, for the write-ahead log.) The disk's contracts as the laws use them: the blocks of the disk are some that were made since w0 and are none of X. -/
import Derived.Test.YtgpgcnmnfnnkjaaGreatDoorGStoreKeeps18
set_option linter.unusedVariables false
set_option linter.unusedSimpArgs false
section
namespace Go.Proofs.YtgpgcnmnfnnkjaaGreatDoor
open Go Go.RowKit BigFrame Go.PlainAid
attribute [local go_sem] After.same
def pk (picks : List Int) (k : Nat) : Int := (picks[k]?).getD 0
theorem crashTo_length (picks : List Int) : ∀ (l : List Fil) (i : Nat), (crashTo picks l i).length = l.length
 | [], _ => rfl
 | _ :: r, i => by rw [crashTo, List.length_cons, List.length_cons, crashTo_length picks r (i + 1)]
theorem crashTo_get (picks : List Int) : ∀ (l : List Fil) (i k : Nat) (h : k < l.length) (h' : k < (crashTo picks l i).length), (crashTo picks l i)[k] = tornD (pk picks (i + k)) l[k]
 | [], _, k, h, _ => by simp at h
 | f :: r, i, 0, _, _ => rfl
 | f :: r, i, k + 1, h, h' => by
  have h1 := crashTo_get picks r (i + 1) k (by simpa using h) (by rw [crashTo_length]; simpa using h)
  simp only [crashTo, List.getElem_cons_succ]
  rw [h1, show i + 1 + k = i + (k + 1) from by omega]
def crS (picks : List Int) (l : List Fil) (k : Nat) : List Fil := (crashTo picks l 0).take k ++ l.drop k
theorem crS_zero (picks : List Int) (l : List Fil) : crS picks l 0 = l := by unfold crS; simp
theorem crS_end (picks : List Int) (l : List Fil) {k : Nat} (h : l.length ≤ k) : crS picks l k = crashTo picks l 0 := by
 unfold crS
 rw [List.take_of_length_le (by rw [crashTo_length]; exact h), List.drop_of_length_le h, List.append_nil]
theorem crS_at (picks : List Int) (l : List Fil) {k : Nat} (h : k < l.length) (h' : k < (crS picks l k).length) : (crS picks l k)[k] = l[k] := by
 have h0 : (crS picks l k)[k]? = l[k]? := by
  unfold crS
  rw [List.getElem?_append_right (by rw [List.length_take, crashTo_length]; omega)]
  simp [List.length_take, crashTo_length, Nat.min_eq_left (Nat.le_of_lt h)]
 rw [List.getElem?_eq_getElem h', List.getElem?_eq_getElem h] at h0
 exact Option.some.inj h0
theorem crS_step (picks : List Int) (l : List Fil) {k : Nat} (h : k < l.length) : (crS picks l k).set k (tornD (pk picks k) l[k]) = crS picks l (k + 1) := by
 unfold crS
 have hl : (List.take k (crashTo picks l 0)).length = k := by rw [List.length_take, crashTo_length]; omega
 have h2 : k < (crashTo picks l 0).length := by rw [crashTo_length]; exact h
 rw [List.set_append, if_neg (by omega), hl, Nat.sub_self, List.drop_eq_getElem_cons h, List.set_cons_zero, List.take_succ_eq_append_getElem h2, List.append_assoc, crashTo_get picks l 0 k h h2, Nat.zero_add]
 rfl
theorem crS_length (picks : List Int) (l : List Fil) {k : Nat} (h : k ≤ l.length) : (crS picks l k).length = l.length := by
 unfold crS; rw [List.length_append, List.length_take, List.length_drop, crashTo_length]; omega
set_option maxRecDepth 8000 in
set_option maxHeartbeats 8000000 in
theorem dskCrash {F : Nat → Prop} {g : Nat} {d : Dk} {w : World} (hd : DiskAt w F g d) (ok : OkD d) (hfs : d.fs.length ≤ 1000000) (vp : Value) (picks : List Int) (hp : Rd intsE w vp picks) (hpF : picks ≠ [] → ∀ k, vp.ownBlock = some k → ¬ F k) (hpm : ∀ x ∈ picks, x ≤ 9223372036854775807) :
 Calls Tryz.prog 28 #[.pointer (some ⟨g, 0, none⟩), vp] w fun e w' => e = .returned (.tuple #[]) ∧ Und w F g (crashD d picks) w' := by
 have hlt := hd.lt
 obtain ⟨pp, cp, rfl, hp1, hp2, _, _⟩ := hp.form
 unfold maxLen at hp2
 obtain ⟨v, ys, hv, hy⟩ := hd.open_
 have hys : ys.length ≤ 1000000 := by rw [DiskV.len_eq hy]; exact hfs
 have s1 := hv.setCell 1 (.bool false) rfl
 have s2 := s1.1.setCell 2 (.bool false) rfl
 have s3 := s2.1.setCell 3 (.int .i64 0) rfl
 have c1 := hv.blk.cell 1 _ rfl
 have c2 := hv.blk.cell 2 _ rfl
 have c3 := hv.blk.cell 3 _ rfl
 have f1 := hv.blk.frozen 1
 have f2 := hv.blk.frozen 2
 have f3 := hv.blk.frozen 3
 have chA : Chg F w (((w.setCell ⟨g, 1, none⟩ (.bool false)).setCell ⟨g, 2, none⟩ (.bool false)).setCell ⟨g, 3, none⟩ (.int .i64 0)) := ((s1.2.step s2.2).step s3.2).mono fun k _ hk => by rw [hk]; exact hv.inG
 have hvA : DiskV _ (FF F w (((w.setCell ⟨g, 1, none⟩ (.bool false)).setCell ⟨g, 2, none⟩ (.bool false)).setCell ⟨g, 3, none⟩ (.int .i64 0))) g v (.bool false) (.bool false) (.int .i64 0) ys := s3.1.ff chA.size
 have HvA := Lib.hid hvA
 have ChA := Lib.hid chA
 have Hp := Lib.hid hp
 have HpF := Lib.hid hpF
 have Hpm := Lib.hid hpm
 have Hy := Lib.hid hy
 have hok1 := ok.tot
 have Hok2 := Lib.hid ok.kept
 have k0 := s3.1.blk.cell 0 _ rfl
 obtain ⟨pv, cap, rfl, hq1, hq2, _, _⟩ := hv.fil.row.rd.form
 unfold maxLen at hq2
 clear s1 s2 s3 hvA chA hv hy hp hpF hpm hd ok
 go_enter Tryz.func28, Tryz.ntmps28
 go_wp2_with fail
 clear c1 c2 c3 f1 f2 f3 k0
 generalize hwA : ((w.setCell ⟨g, 1, none⟩ (.bool false)).setCell ⟨g, 2, none⟩ (.bool false)).setCell ⟨g, 3, none⟩ (.int .i64 0) = wA at *
 clear hwA
 go_loopw [4, 5, 20] (fun _ _ i wr => ∃ (k : Nat) (zs : List Ent), k ≤ ys.length ∧ i = .int .i64 k ∧ DiskV wr (FF F w wr) g (.slice pv ys.length cap) (.bool false) (.bool false) (.int .i64 0) zs ∧ Hid (zs.map Ent.fil = crS picks d.fs k) ∧ Hid (zs.length = ys.length) ∧ Chg F w wr) (fun _ _ i _ => ys.length - (intOf i).toNat)
 case atStart => exact ⟨0, ys, by omega, rfl, HvA.out, by show _ = _; rw [crS_zero]; exact Hy.out, rfl, ChA.out⟩
 case round =>
  obtain ⟨k, zs, hk, rfl, hv, hzf, hzl, ch⟩ := hrel
  have hk0 : (0 : Int) ≤ (k : Int) := by omega
  by_cases hlt2 : k < ys.length
  · have hi : (k : Int) < (ys.length : Int) := by omega
    have hkz : k < zs.length := by have := hzl.out; omega
    have hkd : k < d.fs.length := by rw [← DiskV.len_eq Hy.out]; exact hlt2
    obtain ⟨gv, cap', hsh, _, hgv, hq3, hq4⟩ := hv.fil.row.head (by omega)
    rw [hzl.out] at hsh
    simp only [Value.slice.injEq, true_and] at hsh
    obtain ⟨rfl, rfl⟩ := hsh
    clear hq3 hq4
    have hmem : zs[k] ∈ zs := List.getElem_mem hkz
    have hdat := hv.fil.data _ hmem
    have row0 := hv.fil.row
    have c0 : wr.cell? ⟨gv, k * 3, none⟩ = some (.string zs[k].name) := row0.cellAt hzl.out.symm k hkz 0 (by decide)
    have c1 : wr.cell? ⟨gv, k * 3 + 1, none⟩ = some (.slice zs[k].p zs[k].data.length zs[k].c) := row0.cellAt hzl.out.symm k hkz 1 (by decide)
    have c2 : wr.cell? ⟨gv, k * 3 + 2, none⟩ = some (.int .i64 ((zs[k]).kept : Int)) := row0.cellAt hzl.out.symm k hkz 2 (by decide)
    have k0 := hv.blk.cell 0 _ rfl
    have hfz : (zs[k]).fil = d.fs[k] := by
     have h1 : k < (crS picks d.fs k).length := by rw [crS_length _ _ (Nat.le_of_lt hkd)]; exact hkd
     have h2 := crS_at picks d.fs hkd h1
     rw [← h2]; simp only [← hzf.out, List.getElem_map]
    have hkl : (zs[k]).kept ≤ (zs[k]).data.length := by
     have h1 := Hok2.out (zs[k]).fil (by rw [hfz]; exact List.getElem_mem hkd)
     exact h1
    have hdl : (zs[k]).data.length ≤ 4194304 := by
     have h1 := totD_mem (l := d.fs) (f := (zs[k]).fil) (by rw [hfz]; exact List.getElem_mem hkd)
     have h2 : (zs[k]).fil.data.length = (zs[k]).data.length := rfl
     omega
    have hstp := Lib.hid (crS_step picks d.fs hkd)
    have Hv := Lib.hid hv
    have hmemL : Hid (∀ y, zs[k] = y → OwnB wr 0 5 zs[k].v zs[k].data) := fun _ _ => hdat
    obtain ⟨y, hy⟩ : ∃ y, zs[k] = y := ⟨_, rfl⟩
    have HY := Lib.hid hy
    rw [hy] at hdat c0 c1 c2 hfz hkl hdl
    have Hfz := Lib.hid hfz
    have hgl := hv.lt g hv.inG
    clear hy hmem hfz hv hmemL row0
    by_cases hpk : k < picks.length
    · have hpi : (k : Int) < (picks.length : Int) := by omega
      obtain ⟨pb, po, rfl⟩ := Rd.blk Hp.out (by omega)
      have hcp : wr.cell? ⟨pb, po + k, none⟩ = some (.int .i64 picks[k]) := by
       have h1 : Rd intsE wr (.slice (some ⟨pb, po, none⟩) picks.length cp) picks := ch.cells Hp.out (HpF.out (fun e => by rw [e] at hpk; simp at hpk))
       have h2 := h1.at_ hpk 0 (by decide)
       have h3 : po + (k * intsE.sz + 0) = po + k := by show po + (k * 1 + 0) = _; omega
       rw [h3] at h2; exact h2
      have hpm := Hpm.out _ (List.getElem_mem hpk)
      have hpe : pk picks k = picks[k] := by unfold pk; rw [List.getElem?_eq_getElem hpk]; rfl
      have Hpe := Lib.hid hpe
      clear hpe
      generalize picks[k] = pick at *
      go_upto_region 7 with (fail)
      refine wp_region_F (n := 15) (S := fun w' => w'.cell? ⟨g, 0, none⟩ = some (.slice (some ⟨gv, 0, none⟩) ys.length cap) ∧ (w'.cell? ⟨gv, k * 3, none⟩ = some (.string y.name) ∧ w'.cell? ⟨gv, k * 3 + 1, none⟩ = some (.slice y.p y.data.length y.c) ∧ w'.cell? ⟨gv, k * 3 + 2, none⟩ = some (.int .i64 (y.kept : Int)))) (by kernel_rfl) ?_
      have hHeld : (fun w' : World => w'.cell? ⟨g, 0, none⟩ = some (.slice (some ⟨gv, 0, none⟩) ys.length cap) ∧ (w'.cell? ⟨gv, k * 3, none⟩ = some (.string y.name) ∧ w'.cell? ⟨gv, k * 3 + 1, none⟩ = some (.slice y.p y.data.length y.c) ∧ w'.cell? ⟨gv, k * 3 + 2, none⟩ = some (.int .i64 (y.kept : Int)))) wr.drew := ⟨k0, c0, c1, c2⟩
      refine wpAnyF_tk 0 _ _ _ (v := ?_) rfl (by kernel_rfl) (fun _ _ _ h => h) ?_ hHeld ?_
      rotate_left
      · intro w hSw
        try dsimp only at hSw
        obtain ⟨_, _, _, _⟩ := hSw
        dsimp only [bare]
        go_simp <;> with_reducible rfl
      try simp only [bare, Act.put, lyA, lyZ, lyS]
      refine wpAnyF_tk 1 _ _ _ (v := ?_) rfl (by kernel_rfl) (fun _ _ _ h => h) ?_ hHeld ?_
      rotate_left
      · intro w hSw
        try dsimp only at hSw
        obtain ⟨_, _, _, _⟩ := hSw
        dsimp only [bare]
        go_simp <;> with_reducible rfl
      try simp only [bare, Act.put, lyA, lyZ, lyS]
      refine wpAnyF_tk 2 _ _ _ (v := ?_) rfl (by kernel_rfl) (fun _ _ _ h => h) ?_ hHeld ?_
      rotate_left
      · intro w hSw
        try dsimp only at hSw
        obtain ⟨_, _, _, _⟩ := hSw
        dsimp only [bare]
        go_simp <;> with_reducible rfl
      try simp only [bare, Act.put, lyA, lyZ, lyS]
      refine wpAnyF_tk 3 _ _ _ (v := ?_) rfl (by kernel_rfl) (fun _ _ _ h => h) ?_ hHeld ?_
      rotate_left
      · intro w hSw
        try dsimp only at hSw
        obtain ⟨_, _, _, _⟩ := hSw
        dsimp only [bare]
        go_simp <;> with_reducible rfl
      try simp only [bare, Act.put, lyA, lyZ, lyS]
      refine wpAnyF_tk 4 _ _ _ (v := ?_) rfl (by kernel_rfl) (fun _ _ _ h => h) ?_ hHeld ?_
      rotate_left
      · intro w hSw
        try dsimp only at hSw
        obtain ⟨_, _, _, _⟩ := hSw
        dsimp only [bare]
        go_simp <;> with_reducible rfl
      try simp only [bare, Act.put, lyA, lyZ, lyS]
      refine wpAnyF_tk 5 _ _ _ (v := ?_) rfl (by kernel_rfl) (fun _ _ _ h => h) ?_ hHeld ?_
      rotate_left
      · intro w hSw
        try dsimp only at hSw
        obtain ⟨_, _, _, _⟩ := hSw
        dsimp only [bare]
        go_simp <;> with_reducible rfl
      try simp only [bare, Act.put, lyA, lyZ, lyS]
      refine wpAnyF_tk 6 _ _ _ (v := ?_) rfl (by kernel_rfl) (fun _ _ _ h => h) ?_ hHeld ?_
      rotate_left
      · intro w hSw
        try dsimp only at hSw
        obtain ⟨_, _, _, _⟩ := hSw
        dsimp only [bare]
        go_simp <;> with_reducible rfl
      try simp only [bare, Act.put, lyA, lyZ, lyS]
      refine wpAnyF_tk 7 _ _ _ (v := ?_) rfl (by kernel_rfl) (fun _ _ _ h => h) ?_ hHeld ?_
      rotate_left
      · intro w hSw
        try dsimp only at hSw
        obtain ⟨_, _, _, _⟩ := hSw
        dsimp only [bare]
        go_simp <;> with_reducible rfl
      try simp only [bare, Act.put, lyA, lyZ, lyS]
      refine wpAnyF_tk 8 _ _ _ (v := ?_) rfl (by kernel_rfl) (fun _ _ _ h => h) ?_ hHeld ?_
      rotate_left
      · intro w hSw
        try dsimp only at hSw
        obtain ⟨_, _, _, _⟩ := hSw
        dsimp only [bare]
        go_simp <;> with_reducible rfl
      try simp only [bare, Act.put, lyA, lyZ, lyS]
      refine wpAnyF_tk 9 _ _ _ (v := ?_) rfl (by kernel_rfl) (fun _ _ _ h => h) ?_ hHeld ?_
      rotate_left
      · intro w hSw
        try dsimp only at hSw
        obtain ⟨_, _, _, _⟩ := hSw
        dsimp only [bare]
        go_simp <;> with_reducible rfl
      try simp only [bare, Act.put, lyA, lyZ, lyS]
      refine wpAnyF_tk 10 _ _ _ (v := ?_) rfl (by kernel_rfl) (fun _ _ _ h => h) ?_ hHeld ?_
      rotate_left
      · intro w hSw
        try dsimp only at hSw
        obtain ⟨_, _, _, _⟩ := hSw
        dsimp only [bare]
        go_simp <;> with_reducible rfl
      try simp only [bare, Act.put, lyA, lyZ, lyS]
      refine wpAnyF_tk 11 _ _ _ (v := ?_) rfl (by kernel_rfl) (fun _ _ _ h => h) ?_ hHeld ?_
      rotate_left
      · intro w hSw
        try dsimp only at hSw
        obtain ⟨_, _, _, _⟩ := hSw
        dsimp only [bare]
        go_simp <;> with_reducible rfl
      try simp only [bare, Act.put, lyA, lyZ, lyS]
      refine wpAnyF_tk 12 _ _ _ (v := ?_) rfl (by kernel_rfl) (fun _ _ _ h => h) ?_ hHeld ?_
      rotate_left
      · intro w hSw
        try dsimp only at hSw
        obtain ⟨_, _, _, _⟩ := hSw
        dsimp only [bare]
        go_simp <;> with_reducible rfl
      try simp only [bare, Act.put, lyA, lyZ, lyS]
      refine wpAnyF_one 13 (some 44) (Op.call { callee := Callee.value (Operand.func 74), args := #[Operand.tmp 42, Operand.tmp 43], argTypes := #[96, 3] }) 96 rfl (by kernel_rfl) (fun K hK => ?_)
      dsimp only [bare]; go_simp
      refine (dskTorn y pick wr.drew hdat hkl hdl hpm).mono ?_
      rintro e w7 ⟨z, rfl, hzt, ownz, bz⟩
      dsimp only
      have bz0 : Below wr.heap.size wr w7 := (below_drew wr.heap.size wr).trans bz
      have hv7 := Hv.out.ext bz0
      have row7 := hv7.fil.row
      have d0 : w7.cell? ⟨gv, k * 3, none⟩ = some (.string y.name) := (bz0.cell (p := ⟨gv, k * 3, none⟩) hgv).trans c0
      have d1 : w7.cell? ⟨gv, k * 3 + 1, none⟩ = some (.slice y.p y.data.length y.c) := (bz0.cell (p := ⟨gv, k * 3 + 1, none⟩) hgv).trans c1
      have d2 : w7.cell? ⟨gv, k * 3 + 2, none⟩ = some (.int .i64 (y.kept : Int)) := (bz0.cell (p := ⟨gv, k * 3 + 2, none⟩) hgv).trans c2
      have e0 : w7.cell? ⟨g, 0, none⟩ = some (.slice (some ⟨gv, 0, none⟩) ys.length cap) := hv7.blk.cell 0 _ rfl
      have hput := row7.put hzl.out.symm k hkz z
      have hset := Hv.out.setEnt (n := ys.length) (w1 := w7) hkz (Chg.of_below bz0) (ownz.base (Nat.zero_le _)) (.inr fun n hn => (ownz.lt n hn).1) hput.1 hput.2
      have hfin := DiskV.seqU hset hlt ch
      have hmap : (zs.set k z).map Ent.fil = crS picks d.fs (k + 1) := by rw [map_set_fil, hzf.out, hzt, Hfz.out, ← Hpe.out]; exact hstp.out
      have Hfin := Lib.hid hfin
      have Hmap := Lib.hid hmap
      have g0 := row7.frozenAt hzl.out.symm (k * 3)
      have g1 := row7.frozenAt hzl.out.symm (k * 3 + 1)
      have g2 := row7.frozenAt hzl.out.symm (k * 3 + 2)
      clear hput hset hfin hmap hv7 row7
      refine hK _ _ ⟨e0, d0, d1, d2⟩ (fun hHeld => ?_)
      clear hK K
      try simp only [bare, Act.put, lyA, lyZ, lyS]
      refine wpAnyF_tk 14 _ _ _ (v := ?_) rfl (by kernel_rfl) (fun _ _ _ h => h) ?_ hHeld ?_
      rotate_left
      · intro w hSw
        try dsimp only at hSw
        obtain ⟨_, _, _, _⟩ := hSw
        dsimp only [bare]
        go_simp <;> with_reducible rfl
      try simp only [bare, Act.put, lyA, lyZ, lyS]
      refine wpAnyF_end (none) (Op.store 96 (Operand.tmp 45) (Operand.tmp 44)) 0 rfl (by kernel_rfl) (by kernel_rfl) (fun K hK => ?_)
      dsimp only [bare]; go_simp
      refine hK _ _ ?_
      clear hK K
      try simp only [bare, Act.put, lyA, lyZ, lyS]
      go_wp2_with fail
      go_roundw
      case rel => first | exact ⟨k + 1, zs.set k z, by omega, by go_num, Hfin.out.1, Hmap.out, by show _ = _; rw [List.length_set]; exact hzl.out, Hfin.out.2⟩ | ((repeat apply Exists.intro); exact ⟨⟨k + 1, zs.set k z, by omega, by go_num, Hfin.out.1, Hmap.out, by show _ = _; rw [List.length_set]; exact hzl.out, Hfin.out.2⟩, rfl⟩)
      case measure => simp [intOf]; omega
    · have hpi : ¬ (k : Int) < (picks.length : Int) := by omega
      have hpe : pk picks k = 0 := by unfold pk; rw [List.getElem?_eq_none (by omega)]; rfl
      have Hpe := Lib.hid hpe
      have hpm : (0 : Int) ≤ 9223372036854775807 := by decide
      clear hpe
      go_upto_region 7 with (fail)
      refine wp_region_F (n := 15) (S := fun w' => w'.cell? ⟨g, 0, none⟩ = some (.slice (some ⟨gv, 0, none⟩) ys.length cap) ∧ (w'.cell? ⟨gv, k * 3, none⟩ = some (.string y.name) ∧ w'.cell? ⟨gv, k * 3 + 1, none⟩ = some (.slice y.p y.data.length y.c) ∧ w'.cell? ⟨gv, k * 3 + 2, none⟩ = some (.int .i64 (y.kept : Int)))) (by kernel_rfl) ?_
      have hHeld : (fun w' : World => w'.cell? ⟨g, 0, none⟩ = some (.slice (some ⟨gv, 0, none⟩) ys.length cap) ∧ (w'.cell? ⟨gv, k * 3, none⟩ = some (.string y.name) ∧ w'.cell? ⟨gv, k * 3 + 1, none⟩ = some (.slice y.p y.data.length y.c) ∧ w'.cell? ⟨gv, k * 3 + 2, none⟩ = some (.int .i64 (y.kept : Int)))) wr.drew := ⟨k0, c0, c1, c2⟩
      refine wpAnyF_tk 0 _ _ _ (v := ?_) rfl (by kernel_rfl) (fun _ _ _ h => h) ?_ hHeld ?_
      rotate_left
      · intro w hSw
        try dsimp only at hSw
        obtain ⟨_, _, _, _⟩ := hSw
        dsimp only [bare]
        go_simp <;> with_reducible rfl
      try simp only [bare, Act.put, lyA, lyZ, lyS]
      refine wpAnyF_tk 1 _ _ _ (v := ?_) rfl (by kernel_rfl) (fun _ _ _ h => h) ?_ hHeld ?_
      rotate_left
      · intro w hSw
        try dsimp only at hSw
        obtain ⟨_, _, _, _⟩ := hSw
        dsimp only [bare]
        go_simp <;> with_reducible rfl
      try simp only [bare, Act.put, lyA, lyZ, lyS]
      refine wpAnyF_tk 2 _ _ _ (v := ?_) rfl (by kernel_rfl) (fun _ _ _ h => h) ?_ hHeld ?_
      rotate_left
      · intro w hSw
        try dsimp only at hSw
        obtain ⟨_, _, _, _⟩ := hSw
        dsimp only [bare]
        go_simp <;> with_reducible rfl
      try simp only [bare, Act.put, lyA, lyZ, lyS]
      refine wpAnyF_tk 3 _ _ _ (v := ?_) rfl (by kernel_rfl) (fun _ _ _ h => h) ?_ hHeld ?_
      rotate_left
      · intro w hSw
        try dsimp only at hSw
        obtain ⟨_, _, _, _⟩ := hSw
        dsimp only [bare]
        go_simp <;> with_reducible rfl
      try simp only [bare, Act.put, lyA, lyZ, lyS]
      refine wpAnyF_tk 4 _ _ _ (v := ?_) rfl (by kernel_rfl) (fun _ _ _ h => h) ?_ hHeld ?_
      rotate_left
      · intro w hSw
        try dsimp only at hSw
        obtain ⟨_, _, _, _⟩ := hSw
        dsimp only [bare]
        go_simp <;> with_reducible rfl
      try simp only [bare, Act.put, lyA, lyZ, lyS]
      refine wpAnyF_tk 5 _ _ _ (v := ?_) rfl (by kernel_rfl) (fun _ _ _ h => h) ?_ hHeld ?_
      rotate_left
      · intro w hSw
        try dsimp only at hSw
        obtain ⟨_, _, _, _⟩ := hSw
        dsimp only [bare]
        go_simp <;> with_reducible rfl
      try simp only [bare, Act.put, lyA, lyZ, lyS]
      refine wpAnyF_tk 6 _ _ _ (v := ?_) rfl (by kernel_rfl) (fun _ _ _ h => h) ?_ hHeld ?_
      rotate_left
      · intro w hSw
        try dsimp only at hSw
        obtain ⟨_, _, _, _⟩ := hSw
        dsimp only [bare]
        go_simp <;> with_reducible rfl
      try simp only [bare, Act.put, lyA, lyZ, lyS]
      refine wpAnyF_tk 7 _ _ _ (v := ?_) rfl (by kernel_rfl) (fun _ _ _ h => h) ?_ hHeld ?_
      rotate_left
      · intro w hSw
        try dsimp only at hSw
        obtain ⟨_, _, _, _⟩ := hSw
        dsimp only [bare]
        go_simp <;> with_reducible rfl
      try simp only [bare, Act.put, lyA, lyZ, lyS]
      refine wpAnyF_tk 8 _ _ _ (v := ?_) rfl (by kernel_rfl) (fun _ _ _ h => h) ?_ hHeld ?_
      rotate_left
      · intro w hSw
        try dsimp only at hSw
        obtain ⟨_, _, _, _⟩ := hSw
        dsimp only [bare]
        go_simp <;> with_reducible rfl
      try simp only [bare, Act.put, lyA, lyZ, lyS]
      refine wpAnyF_tk 9 _ _ _ (v := ?_) rfl (by kernel_rfl) (fun _ _ _ h => h) ?_ hHeld ?_
      rotate_left
      · intro w hSw
        try dsimp only at hSw
        obtain ⟨_, _, _, _⟩ := hSw
        dsimp only [bare]
        go_simp <;> with_reducible rfl
      try simp only [bare, Act.put, lyA, lyZ, lyS]
      refine wpAnyF_tk 10 _ _ _ (v := ?_) rfl (by kernel_rfl) (fun _ _ _ h => h) ?_ hHeld ?_
      rotate_left
      · intro w hSw
        try dsimp only at hSw
        obtain ⟨_, _, _, _⟩ := hSw
        dsimp only [bare]
        go_simp <;> with_reducible rfl
      try simp only [bare, Act.put, lyA, lyZ, lyS]
      refine wpAnyF_tk 11 _ _ _ (v := ?_) rfl (by kernel_rfl) (fun _ _ _ h => h) ?_ hHeld ?_
      rotate_left
      · intro w hSw
        try dsimp only at hSw
        obtain ⟨_, _, _, _⟩ := hSw
        dsimp only [bare]
        go_simp <;> with_reducible rfl
      try simp only [bare, Act.put, lyA, lyZ, lyS]
      refine wpAnyF_tk 12 _ _ _ (v := ?_) rfl (by kernel_rfl) (fun _ _ _ h => h) ?_ hHeld ?_
      rotate_left
      · intro w hSw
        try dsimp only at hSw
        obtain ⟨_, _, _, _⟩ := hSw
        dsimp only [bare]
        go_simp <;> with_reducible rfl
      try simp only [bare, Act.put, lyA, lyZ, lyS]
      refine wpAnyF_one 13 (some 44) (Op.call { callee := Callee.value (Operand.func 74), args := #[Operand.tmp 42, Operand.tmp 43], argTypes := #[96, 3] }) 96 rfl (by kernel_rfl) (fun K hK => ?_)
      dsimp only [bare]; go_simp
      refine (dskTorn y 0 wr.drew hdat hkl hdl hpm).mono ?_
      rintro e w7 ⟨z, rfl, hzt, ownz, bz⟩
      dsimp only
      have bz0 : Below wr.heap.size wr w7 := (below_drew wr.heap.size wr).trans bz
      have hv7 := Hv.out.ext bz0
      have row7 := hv7.fil.row
      have d0 : w7.cell? ⟨gv, k * 3, none⟩ = some (.string y.name) := (bz0.cell (p := ⟨gv, k * 3, none⟩) hgv).trans c0
      have d1 : w7.cell? ⟨gv, k * 3 + 1, none⟩ = some (.slice y.p y.data.length y.c) := (bz0.cell (p := ⟨gv, k * 3 + 1, none⟩) hgv).trans c1
      have d2 : w7.cell? ⟨gv, k * 3 + 2, none⟩ = some (.int .i64 (y.kept : Int)) := (bz0.cell (p := ⟨gv, k * 3 + 2, none⟩) hgv).trans c2
      have e0 : w7.cell? ⟨g, 0, none⟩ = some (.slice (some ⟨gv, 0, none⟩) ys.length cap) := hv7.blk.cell 0 _ rfl
      have hput := row7.put hzl.out.symm k hkz z
      have hset := Hv.out.setEnt (n := ys.length) (w1 := w7) hkz (Chg.of_below bz0) (ownz.base (Nat.zero_le _)) (.inr fun n hn => (ownz.lt n hn).1) hput.1 hput.2
      have hfin := DiskV.seqU hset hlt ch
      have hmap : (zs.set k z).map Ent.fil = crS picks d.fs (k + 1) := by rw [map_set_fil, hzf.out, hzt, Hfz.out, ← Hpe.out]; exact hstp.out
      have Hfin := Lib.hid hfin
      have Hmap := Lib.hid hmap
      have g0 := row7.frozenAt hzl.out.symm (k * 3)
      have g1 := row7.frozenAt hzl.out.symm (k * 3 + 1)
      have g2 := row7.frozenAt hzl.out.symm (k * 3 + 2)
      clear hput hset hfin hmap hv7 row7
      refine hK _ _ ⟨e0, d0, d1, d2⟩ (fun hHeld => ?_)
      clear hK K
      try simp only [bare, Act.put, lyA, lyZ, lyS]
      refine wpAnyF_tk 14 _ _ _ (v := ?_) rfl (by kernel_rfl) (fun _ _ _ h => h) ?_ hHeld ?_
      rotate_left
      · intro w hSw
        try dsimp only at hSw
        obtain ⟨_, _, _, _⟩ := hSw
        dsimp only [bare]
        go_simp <;> with_reducible rfl
      try simp only [bare, Act.put, lyA, lyZ, lyS]
      refine wpAnyF_end (none) (Op.store 96 (Operand.tmp 45) (Operand.tmp 44)) 0 rfl (by kernel_rfl) (by kernel_rfl) (fun K hK => ?_)
      dsimp only [bare]; go_simp
      refine hK _ _ ?_
      clear hK K
      try simp only [bare, Act.put, lyA, lyZ, lyS]
      go_wp2_with fail
      go_roundw
      case rel => first | exact ⟨k + 1, zs.set k z, by omega, by go_num, Hfin.out.1, Hmap.out, by show _ = _; rw [List.length_set]; exact hzl.out, Hfin.out.2⟩ | ((repeat apply Exists.intro); exact ⟨⟨k + 1, zs.set k z, by omega, by go_num, Hfin.out.1, Hmap.out, by show _ = _; rw [List.length_set]; exact hzl.out, Hfin.out.2⟩, rfl⟩)
      case measure => simp [intOf]; omega
  · have hi : ¬ (k : Int) < (ys.length : Int) := by omega
    have hend := crS_end picks d.fs (k := k) (by rw [← DiskV.len_eq Hy.out]; omega)
    have hz : zs.map Ent.fil = (crashD d picks).fs := by rw [hzf.out, hend]; rfl
    have Hz := Lib.hid hz
    clear hend hz
    go_wp2_with fail
    go_end0
    exact ⟨rfl, hv.at_ (d := crashD d picks) Hz.out, ch⟩
end Go.Proofs.YtgpgcnmnfnnkjaaGreatDoor
end

section
namespace Go.Proofs.YtgpgcnmnfnnkjaaGreatDoor
open Go Go.RowKit BigFrame Go.PlainAid
def Gx (w0 : World) (X : Nat → Prop) (k : Nat) : Prop := w0.heap.size ≤ k ∧ ¬ X k
def DwS (w0 : World) (X : Nat → Prop) (g : Nat) (d : Dk) (w : World) : Prop := (∃ F, DiskAt w F g d ∧ ∀ k, F k → Gx w0 X k) ∧ (∀ k, X k → k < w.heap.size)
def okD (d : Dk) : Bool := decide (d.fs.length ≤ 999999) && (decide (totD d.fs ≤ 4194304) && ((d.fs.all fun f => decide (f.kept ≤ f.data.length)) && (decide (-1 ≤ d.left) && decide (d.left ≤ 9223372036854775807))))
theorem okD_spec {d : Dk} (h : okD d = true) : OkD d ∧ d.fs.length ≤ 999999 := by
 unfold okD at h
 simp only [Bool.and_eq_true, decide_eq_true_eq, List.all_eq_true] at h
 exact ⟨⟨by omega, h.2.1, h.2.2.1, h.2.2.2.1, h.2.2.2.2⟩, h.1⟩
theorem okD_of {d : Dk} (h : OkD d) (h2 : d.fs.length ≤ 999999) : okD d = true := by
 unfold okD
 simp only [Bool.and_eq_true, decide_eq_true_eq, List.all_eq_true]
 exact ⟨h2, h.tot, h.kept, h.lo, h.hi⟩
section
variable {w0 w w' : World} {X Y : Nat → Prop} {g : Nat} {d d' : Dk}
theorem DwS.size (h : DwS w0 X g d w) : w0.heap.size ≤ w.heap.size := by
 obtain ⟨⟨F, h1, h2⟩, _⟩ := h
 have := (h2 g h1.inG).1
 have := h1.lt g h1.inG
 omega
theorem DwS.und {F : Nat → Prop} (h1 : DiskAt w F g d) (h2 : ∀ k, F k → Gx w0 X k) (hx : ∀ k, X k → k < w.heap.size) (h : Und w F g d' w') : DwS w0 X g d' w' ∧ Chg (Gx w0 X) w w' := by
 have hs : w0.heap.size ≤ w.heap.size := DwS.size ⟨⟨F, h1, h2⟩, hx⟩
 refine ⟨⟨⟨_, h.1, fun k hk => ?_⟩, fun k hk => Nat.lt_of_lt_of_le (hx k hk) h.2.size⟩, h.2.mono fun k _ hk => h2 k hk⟩
 rcases hk with hk | hk
 · exact h2 k hk
 · exact ⟨by omega, fun hX => by have := hx k hX; omega⟩
theorem DwS.ext (h : DwS w0 X g d w) (hb : Below w.heap.size w w') : DwS w0 X g d w' := by
 obtain ⟨⟨F, h1, h2⟩, h3⟩ := h
 exact ⟨⟨F, h1.ext hb, h2⟩, fun k hk => Nat.lt_of_lt_of_le (h3 k hk) hb.size⟩
theorem DwS.drewN (h : DwS w0 X g d w) (n : Nat) : DwS w0 X g d (w.drewN n) := h.ext (below_drawn _ _ _)
theorem DwS.drew (h : DwS w0 X g d w) : DwS w0 X g d w.drew := h.ext (below_drew _ _)
theorem DwS.mono (h : DwS w0 X g d w) (hy : ∀ k, Y k → X k) : DwS w0 Y g d w := by
 obtain ⟨⟨F, h1, h2⟩, h3⟩ := h
 exact ⟨⟨F, h1, fun k hk => ⟨(h2 k hk).1, fun hY => (h2 k hk).2 (hy k hY)⟩⟩, fun k hk => h3 k (hy k hk)⟩
theorem DwS.more (h : DwS w0 X g d w) (hb : Below w.heap.size w w') (hy : ∀ k, Y k → X k ∨ (w.heap.size ≤ k ∧ k < w'.heap.size)) : DwS w0 Y g d w' := by
 obtain ⟨⟨F, h1, h2⟩, h3⟩ := h
 refine ⟨⟨F, h1.ext hb, fun k hk => ⟨(h2 k hk).1, fun hY => ?_⟩⟩, fun k hk => ?_⟩
 · rcases hy k hY with h | h
   · exact (h2 k hk).2 h
   · have := h1.lt k hk; omega
 · rcases hy k hk with h | h
   · exact Nat.lt_of_lt_of_le (h3 k h) hb.size
   · exact h.2
theorem DwS.alloc (h : DwS w0 X g d w) (o : Obj) : DwS w0 (fun k => X k ∨ k = w.heap.size) g d (w.alloc o) :=
 h.more (below_alloc _ _) fun k hk => hk.imp id fun e => by subst e; exact ⟨Nat.le_refl _, by simp⟩
theorem Chg.gx (h : Chg (Gx w0 X) w w') (hs : w0.heap.size ≤ w.heap.size) : Below w0.heap.size w w' := h.below (fun _ hk => hk.1) hs
theorem Chg.gxO {v : Value} (hv : ∀ k, v.ownBlock = some k → k < w0.heap.size ∨ X k) : ∀ k, v.ownBlock = some k → ¬ Gx w0 X k := fun k hk h => by
 rcases hv k hk with h1 | h1
 · have := h.1; omega
 · exact h.2 h1

theorem lNew (w0 w : World) (hs : w0.heap.size ≤ w.heap.size) (X : Nat → Prop) (hx : ∀ k, X k → k < w.heap.size) : Calls Tryz.prog 16 #[] w fun e w' => e = .returned (.pointer (some ⟨w.heap.size, 0, none⟩)) ∧ DwS w0 X w.heap.size dk0 w' ∧ Below w.heap.size w w' :=
 (dskNew w).mono fun _ w' ⟨h1, h2, h3⟩ => ⟨h1, ⟨⟨_, h2, fun k hk => ⟨by have := hk.1; omega, fun hX => by have := hk.1; have := hx k hX; omega⟩⟩, fun k hk => Nat.lt_of_lt_of_le (hx k hk) h3.size⟩, h3⟩
theorem lAppend (h : DwS w0 X g d w) (ok : okD d = true) {s : ByteArray} {p : List UInt8} {E : Int} (he : appendD d s p = (E, d')) (hs : s.size ≤ 4611686018427387904) {vp : Value} (hp : Bytes w vp p) (hv : p ≠ [] → ∀ k, vp.ownBlock = some k → k < w0.heap.size ∨ X k) :
 Calls Tryz.prog 17 #[.pointer (some ⟨g, 0, none⟩), .string s, vp] w fun e w' => e = .returned (.int .i64 E) ∧ DwS w0 X g d' w' ∧ Chg (Gx w0 X) w w' := by
 obtain ⟨⟨F, h1, h2⟩, h3⟩ := h
 obtain ⟨o1, o2⟩ := okD_spec ok
 refine (dskAppend h1 o1 o2 s hs vp p hp (fun he k hk hF => Chg.gxO (hv he) k hk (h2 k hF))).mono ?_
 rintro e w' ⟨rfl, hu⟩
 rw [he] at hu ⊢
 exact ⟨rfl, DwS.und h1 h2 h3 hu⟩
theorem lSync (h : DwS w0 X g d w) (ok : okD d = true) {s : ByteArray} {E : Int} (he : syncD d s = (E, d')) :
 Calls Tryz.prog 101 #[.pointer (some ⟨g, 0, none⟩), .string s] w fun e w' => e = .returned (.int .i64 E) ∧ DwS w0 X g d' w' ∧ Chg (Gx w0 X) w w' := by
 obtain ⟨⟨F, h1, h2⟩, h3⟩ := h
 obtain ⟨o1, o2⟩ := okD_spec ok
 refine (dskSync h1 o1 (by omega) s).mono ?_
 rintro e w' ⟨rfl, hu⟩
 rw [he] at hu ⊢
 exact ⟨rfl, DwS.und h1 h2 h3 hu⟩
theorem lCut (h : DwS w0 X g d w) (ok : okD d = true) {s : ByteArray} {n E : Int} (he : cutD d s n = (E, d')) :
 Calls Tryz.prog 100 #[.pointer (some ⟨g, 0, none⟩), .string s, .int .i64 n] w fun e w' => e = .returned (.int .i64 E) ∧ DwS w0 X g d' w' ∧ Chg (Gx w0 X) w w' := by
 obtain ⟨⟨F, h1, h2⟩, h3⟩ := h
 obtain ⟨o1, o2⟩ := okD_spec ok
 refine (dskCut h1 o1 (by omega) s n).mono ?_
 rintro e w' ⟨rfl, hu⟩
 rw [he] at hu ⊢
 exact ⟨rfl, DwS.und h1 h2 h3 hu⟩
theorem lRename (h : DwS w0 X g d w) (ok : okD d = true) {s sn : ByteArray} {E : Int} (he : renameD d s sn = (E, d')) (hs : sn.size ≤ 4611686018427387904) :
 Calls Tryz.prog 140 #[.pointer (some ⟨g, 0, none⟩), .string s, .string sn] w fun e w' => e = .returned (.int .i64 E) ∧ DwS w0 X g d' w' ∧ Chg (Gx w0 X) w w' := by
 obtain ⟨⟨F, h1, h2⟩, h3⟩ := h
 obtain ⟨o1, o2⟩ := okD_spec ok
 refine (dskRename h1 o1 (by omega) s sn hs).mono ?_
 rintro e w' ⟨rfl, hu⟩
 rw [he] at hu ⊢
 exact ⟨rfl, DwS.und h1 h2 h3 hu⟩
theorem lRemove (h : DwS w0 X g d w) (ok : okD d = true) {s : ByteArray} {E : Int} (he : removeD d s = (E, d')) :
 Calls Tryz.prog 79 #[.pointer (some ⟨g, 0, none⟩), .string s] w fun e w' => e = .returned (.int .i64 E) ∧ DwS w0 X g d' w' ∧ Chg (Gx w0 X) w w' := by
 obtain ⟨⟨F, h1, h2⟩, h3⟩ := h
 obtain ⟨o1, o2⟩ := okD_spec ok
 refine (dskRemove h1 o1 (by omega) s).mono ?_
 rintro e w' ⟨rfl, hu⟩
 rw [he] at hu ⊢
 exact ⟨rfl, DwS.und h1 h2 h3 hu⟩
theorem lCrash (h : DwS w0 X g d w) (ok : okD d = true) {picks : List Int} (he : crashD d picks = d') {vp : Value} (hp : Rd intsE w vp picks) (hv : picks ≠ [] → ∀ k, vp.ownBlock = some k → k < w0.heap.size ∨ X k) (hm : ∀ x ∈ picks, x ≤ 9223372036854775807) :
 Calls Tryz.prog 28 #[.pointer (some ⟨g, 0, none⟩), vp] w fun e w' => e = .returned (.tuple #[]) ∧ DwS w0 X g d' w' ∧ Chg (Gx w0 X) w w' := by
 obtain ⟨⟨F, h1, h2⟩, h3⟩ := h
 obtain ⟨o1, o2⟩ := okD_spec ok
 refine (dskCrash h1 o1 (by omega) vp picks hp (fun he k hk hF => Chg.gxO (hv he) k hk (h2 k hF)) hm).mono ?_
 rintro e w' ⟨rfl, hu⟩
 rw [he] at hu
 exact ⟨rfl, DwS.und h1 h2 h3 hu⟩
theorem lRead (h : DwS w0 X g d w) (ok : okD d = true) (s : ByteArray) {o : Option (List UInt8)} (he : readD d s = o) : Calls Tryz.prog 62 #[.pointer (some ⟨g, 0, none⟩), .string s] w fun e w' => (∃ r, e = .returned (.tuple #[r, .bool o.isSome]) ∧ OwnB w' w.heap.size 5 r (o.getD [])) ∧ Below w.heap.size w w' := by
 obtain ⟨⟨F, h1, h2⟩, h3⟩ := h
 subst he
 refine (dskRead h1 (okD_spec ok).1.tot s).mono ?_
 rintro e w' ⟨r, rfl, h5, h6⟩
 exact ⟨⟨r, rfl, h5⟩, h6⟩
theorem lNames (h : DwS w0 X g d w) (ok : okD d = true) : Calls Tryz.prog 34 #[.pointer (some ⟨g, 0, none⟩)] w fun e w' => (∃ r, e = .returned r ∧ OwnR strE w' w.heap.size 9 r (d.fs.map (·.name))) ∧ Below w.heap.size w w' := by
 obtain ⟨⟨F, h1, h2⟩, h3⟩ := h
 refine (dskNames h1 (okD_spec ok).1.len).mono ?_
 rintro e w' ⟨r, rfl, h5, h6⟩
 exact ⟨⟨r, rfl, h5⟩, h6⟩
end
abbrev noX : Nat → Prop := fun _ => False
def oneX (b : Nat) : Nat → Prop := fun k => k = b
theorem DwS.one {w0 w : World} {g : Nat} {d : Dk} (h : DwS w0 noX g d w) (o : Obj) : DwS w0 (oneX w.heap.size) g d (w.alloc o) := (h.alloc o).mono fun _ hk => .inr hk
theorem nil_own {A : Prop} {w0 : World} {X : Nat → Prop} {n c : Nat} : A → ∀ k, (Value.slice none n c).ownBlock = some k → k < w0.heap.size ∨ X k := fun _ k h => by simp [Value.ownBlock] at h
end Go.Proofs.YtgpgcnmnfnnkjaaGreatDoor
end
