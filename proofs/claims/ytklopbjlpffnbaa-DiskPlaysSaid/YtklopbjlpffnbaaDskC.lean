/- The walk of (*disk.Disk).put. -/
import Derived.Test.YtklopbjlpffnbaaDskB
import Derived.Test.YtklopbjlpffnbaaInsFil
import Derived.Test.YtklopbjlpffnbaaDelFil
import Derived.Test.YtklopbjlpffnbaaRegG
import Derived.Deep.CutBlock
namespace Go.Proofs.Ytklopbjlpffnbaa
open Go Go.RowKit BigFrame Go.PlainAid
attribute [local go_sem] After.same
def insE (ys : List Ent) (y : Ent) : List Ent := ys.take (posD (ys.map Ent.fil) y.name) ++ y :: ys.drop (posD (ys.map Ent.fil) y.name)
theorem insE_fil (ys : List Ent) (y : Ent) : (insE ys y).map Ent.fil = putD (ys.map Ent.fil) y.fil := by
  unfold insE putD
  rw [List.map_append, List.map_cons, List.map_take, List.map_drop]; rfl
def DiskX (w : World) (F : Nat → Prop) (g : Nat) (o a l : Value) (ys : List Ent) : Prop := ∃ v, DiskV w F g v o a l ys
theorem DiskV.back {F : Nat → Prop} {w w1 w2 : World} {g : Nat} {v o a l : Value} {ys : List Ent} (h : DiskV w2 (FF F w1 w2) g v o a l ys) (hs : w.heap.size ≤ w1.heap.size) (h0 : ∀ k, F k → k < w.heap.size) (h12 : w1.heap.size ≤ w2.heap.size) : DiskV w2 (FF F w w2) g v o a l ys :=
  h.mono (fun k hk => by
    rcases hk with hk | hk
    · exact .inl hk
    · exact .inr ⟨by omega, hk.2⟩) (FF_lt h0 (by omega))
set_option maxHeartbeats 4000000 in
theorem dskPut {F : Nat → Prop} {g : Nat} {v o a l : Value} {ys : List Ent} {w : World} {y : Ent} (hd : DiskV w F g v o a l ys) (hlen : ys.length ≤ 1000000) (h1 : OwnB w 0 5 y.v y.data) (h2 : ∀ x ∈ ys, Apart y.v x.v) (h3 : Apart v y.v) (h4 : ∀ k, y.v.ownBlock = some k → F k) (h5 : y.v.ownBlock ≠ some g) :
    Calls Try.prog 32 #[.pointer (some ⟨g, 0, none⟩), .agg #[.string y.name, .slice y.p y.data.length y.c, .int .i64 (y.kept : Int)]] w fun e w' => e = .returned (.tuple #[]) ∧ DiskX w' (FF F w w') g o a l (insE ys y) ∧ Chg F w w' := by
  have ca := below_alloc w (.cells #[.string y.name, .slice y.p y.data.length y.c, .int .i64 (y.kept : Int)] 64)
  have kb := Blk.new w #[.string y.name, .slice y.p y.data.length y.c, .int .i64 (y.kept : Int)] 64
  go_enter Try.func32, Try.ntmps32
  go_upto_block 0 with (fail)
  generalize hw1 : w.alloc (.cells #[.string y.name, .slice y.p y.data.length y.c, .int .i64 (y.kept : Int)] 64) = w1 at *
  clear hw1
  have rv := hd.fil.row.rd
  obtain ⟨p, cap, rfl, q1, q2, q3, q4⟩ := rv.form
  clear q3 q4
  unfold maxLen at q2
  have rv1 := rv.ext ca
  have hd1 := Lib.hid (hd.ext ca)
  clear rv
  go_cut [4] from 4 (fun q wi => ∃ k : Nat, k ≤ ys.length ∧ q = .int .i64 k ∧ Hid (posD (ys.map Ent.fil) y.name = k) ∧ Below w1.heap.size w1 wi)
  case first =>
    go_wp2_with fail
    go_loopw [4] (fun q wi => ∃ k : Nat, k ≤ ys.length ∧ q = .int .i64 k ∧ Hid (∀ i (h : i < (ys.map Ent.fil).length), i < k → ltS (ys.map Ent.fil)[i].name y.name = true) ∧ Below w1.heap.size w1 wi) (fun q _ => ys.length - (intOf q).toNat)
    case atStart => exact ⟨0, by omega, rfl, fun i h hi => absurd hi (Nat.not_lt_zero _), Below.refl _ _⟩
    case round =>
      obtain ⟨j, hj, rfl, hlo, hbi⟩ := hrel
      have kbi := kb.ext hbi
      have c0 := (hd1.out.ext hbi).blk.cell 0 _ rfl
      have g0 := kbi.cell 0 _ rfl
      have hj0 : (0 : Int) ≤ (j : Int) := by omega
      by_cases hjl : j < ys.length
      · have hji : (j : Int) < (ys.length : Int) := by omega
        obtain ⟨gb, go, rfl⟩ := Rd.blk rv1 (by omega)
        obtain ⟨e0, _⟩ := ent3 (rv1.ext hbi) hjl
        have hfl : j < (ys.map Ent.fil).length := by simpa using hjl
        have hfg : (ys.map Ent.fil)[j].name = ys[j].name := by rw [fil_get]; rfl
        cases hlt2 : ltS ys[j].name y.name with
        | true =>
          have hl3 : Op.bytesLess (ys[j]).name.toList y.name.toList = true := hlt2
          have Hlo := Lib.hid (fun i (h : i < (ys.map Ent.fil).length) (hi : i < j + 1) => show ltS (ys.map Ent.fil)[i].name y.name = true from by
            rcases Nat.lt_or_ge i j with h1 | h1
            · exact hlo.out i h h1
            · have e : i = j := by omega
              subst e; rw [hfg]; exact hlt2)
          clear hlt2 hfg hfl
          go_wp2_with fail
          go_quiet (fail)
          go_wp2_with fail
          go_roundw
          case rel => exact ⟨j + 1, by omega, by go_num, Hlo, hbi.trans (below_drawn _ _ _)⟩
          case measure => simp [intOf]; omega
        | false =>
          have hl3 : Op.bytesLess (ys[j]).name.toList y.name.toList = false := hlt2
          have Hp := Lib.hid (posD_at (k := j) (by omega) hlo.out (fun h => by rw [hfg]; exact hlt2))
          clear hlt2 hfg hfl
          go_wp2_with fail
          go_quiet (fail)
          go_wp2_with fail
          go_meet
          exact ⟨j, hj, rfl, Hp, hbi.trans (below_drawn _ _ _)⟩
      · have hji : ¬ (j : Int) < (ys.length : Int) := by omega
        have Hp := Lib.hid (posD_at (k := j) (by simp; omega) hlo.out (fun h => absurd (by simpa using h) hjl))
        go_wp2_with fail
        go_quiet (fail)
        go_wp2_with fail
        go_meet
        exact ⟨j, hj, rfl, Hp, hbi.trans (below_drawn _ _ _)⟩
  case rest =>
    obtain ⟨k, hk, rfl, Hp, hbi⟩ := hcut
    obtain ⟨w2, hw2⟩ : ∃ z, z = wc := ⟨_, rfl⟩
    subst hw2
    have hb2 := ca.trans (hbi.mono ca.size)
    have hd2 := hd.ext hb2
    have kb2 := kb.ext hbi
    have c0 := hd2.blk.cell 0 _ rfl
    have g0 := kb2.cell 0 _ rfl
    have g1 := kb2.cell 1 _ rfl
    have g2 := kb2.cell 2 _ rfl
    have hN := kb2.lt
    have h12 : OwnB w2 0 5 y.v y.data := h1.ext hb2
    have hgl := hd2.lt g hd2.inG
    have hFl : ∀ k, F k → k < w.heap.size := hd.lt
    clear hd hd1 rv1 ca hbi kb2 kb h1
    go_wp2_with fail
    have bD := below_drew w2.heap.size w2
    refine wp_region_F (n := 11) (S := fun w' => w'.cell? ⟨g, 0, none⟩ = some (.slice p ys.length cap) ∧ (w'.cell? ⟨w.heap.size, 0, none⟩ = some (.string y.name) ∧ w'.cell? ⟨w.heap.size, 1, none⟩ = some (.slice y.p y.data.length y.c) ∧ w'.cell? ⟨w.heap.size, 2, none⟩ = some (.int .i64 (y.kept : Int)))) (by kernel_rfl) ?_
    have hHeld : (fun w' : World => w'.cell? ⟨g, 0, none⟩ = some (.slice p ys.length cap) ∧ (w'.cell? ⟨w.heap.size, 0, none⟩ = some (.string y.name) ∧ w'.cell? ⟨w.heap.size, 1, none⟩ = some (.slice y.p y.data.length y.c) ∧ w'.cell? ⟨w.heap.size, 2, none⟩ = some (.int .i64 (y.kept : Int)))) w2.drew := ⟨c0, g0, g1, g2⟩
    refine wpAnyF_tk 0 (some 27) (Op.move (Operand.tmp 0)) 22 (v := ?_) rfl (by kernel_rfl) (fun _ _ _ h => h) ?_ hHeld ?_
    rotate_left
    · intro w hSw
      try dsimp only at hSw
      obtain ⟨_, _, _, _⟩ := hSw
      dsimp only [bare]
      go_simp <;> with_reducible rfl
    try simp only [Act.put, List.setIfInBounds_toArray, List.set_cons_zero, List.set_cons_succ]
    refine wpAnyF_tk 1 (some 28) (Op.move (Operand.tmp 0)) 22 (v := ?_) rfl (by kernel_rfl) (fun _ _ _ h => h) ?_ hHeld ?_
    rotate_left
    · intro w hSw
      try dsimp only at hSw
      obtain ⟨_, _, _, _⟩ := hSw
      dsimp only [bare]
      go_simp <;> with_reducible rfl
    try simp only [Act.put, List.setIfInBounds_toArray, List.set_cons_zero, List.set_cons_succ]
    refine wpAnyF_tk 2 (some 29) (Op.nilCheck (Operand.tmp 28)) 0 (v := ?_) rfl (by kernel_rfl) (fun _ _ _ h => h) ?_ hHeld ?_
    rotate_left
    · intro w hSw
      try dsimp only at hSw
      obtain ⟨_, _, _, _⟩ := hSw
      dsimp only [bare]
      go_simp <;> with_reducible rfl
    try simp only [Act.put, List.setIfInBounds_toArray, List.set_cons_zero, List.set_cons_succ]
    refine wpAnyF_tk 3 (some 30) (Op.fieldAddr 58 (Operand.tmp 29) 0) 0 (v := ?_) rfl (by kernel_rfl) (fun _ _ _ h => h) ?_ hHeld ?_
    rotate_left
    · intro w hSw
      try dsimp only at hSw
      obtain ⟨_, _, _, _⟩ := hSw
      dsimp only [bare]
      go_simp <;> with_reducible rfl
    try simp only [Act.put, List.setIfInBounds_toArray, List.set_cons_zero, List.set_cons_succ]
    refine wpAnyF_tk 4 (some 31) (Op.load 56 (Operand.tmp 30)) 56 (v := ?_) rfl (by kernel_rfl) (fun _ _ _ h => h) ?_ hHeld ?_
    rotate_left
    · intro w hSw
      try dsimp only at hSw
      obtain ⟨_, _, _, _⟩ := hSw
      dsimp only [bare]
      go_simp <;> with_reducible rfl
    try simp only [Act.put, List.setIfInBounds_toArray, List.set_cons_zero, List.set_cons_succ]
    refine wpAnyF_tk 5 (some 32) (Op.move (Operand.tmp 4)) 3 (v := ?_) rfl (by kernel_rfl) (fun _ _ _ h => h) ?_ hHeld ?_
    rotate_left
    · intro w hSw
      try dsimp only at hSw
      obtain ⟨_, _, _, _⟩ := hSw
      dsimp only [bare]
      go_simp <;> with_reducible rfl
    try simp only [Act.put, List.setIfInBounds_toArray, List.set_cons_zero, List.set_cons_succ]
    refine wpAnyF_tk 6 (some 33) (Op.load 64 (Operand.tmp 3)) 64 (v := ?_) rfl (by kernel_rfl) (fun _ _ _ h => h) ?_ hHeld ?_
    rotate_left
    · intro w hSw
      try dsimp only at hSw
      obtain ⟨_, _, _, _⟩ := hSw
      dsimp only [bare]
      go_simp <;> with_reducible rfl
    try simp only [Act.put, List.setIfInBounds_toArray, List.set_cons_zero, List.set_cons_succ]
    refine wpAnyF_one 7 (some 34) (Op.buildSlice 56 1 #[(0, Operand.tmp 33)]) 56 rfl (by kernel_rfl) (fun K hK => ?_)
    dsimp only [bare]; go_simp
    obtain ⟨w3, hw3⟩ : ∃ z, z = (w2.alloc (.cells #[.string y.name, .slice y.p y.data.length y.c, .int .i64 (y.kept : Int)] 64)).drew := ⟨_, rfl⟩
    have bE : Below w2.heap.size w2 w3 := by rw [hw3]; exact (below_alloc w2 _).drew
    have hvb : w3.heap[w2.heap.size]? = some (.cells (entE.enc y).toArray 64 (0, 0)) := by rw [hw3]; exact Blk.new w2 #[.string y.name, .slice y.p y.data.length y.c, .int .i64 (y.kept : Int)] 64
    rw [← hw3]
    have hd3 := hd2.ext bE
    have m0 := (bE.cell (p := ⟨w.heap.size, 0, none⟩) hN).trans g0
    have m1 := (bE.cell (p := ⟨w.heap.size, 1, none⟩) hN).trans g1
    have m2 := (bE.cell (p := ⟨w.heap.size, 2, none⟩) hN).trans g2
    refine hK _ _ ⟨hd3.blk.cell 0 _ rfl, m0, m1, m2⟩ (fun hHeld => ?_)
    clear hK K hHeld
    try simp only [Act.put, List.setIfInBounds_toArray, List.set_cons_zero, List.set_cons_succ]
    refine wpAnyF_one 8 (some 35) (Op.call { callee := Callee.value (Operand.func 49), args := #[Operand.tmp 31, Operand.tmp 32, Operand.tmp 34], argTypes := #[56, 3, 56] }) 56 rfl (by kernel_rfl) (fun K hK => ?_)
    dsimp only [bare]; go_simp
    have hb3 := hb2.trans (bE.mono hb2.size)
    have hwl := fun k hk => hd3.fil.inV k hk
    have hvs : (Value.slice p ys.length cap).ownBlock ≠ some w2.heap.size := fun e => by have h1 := hd2.lt _ (hd2.fil.inV _ e); omega
    have hvN : (Value.slice p ys.length cap).ownBlock ≠ some w.heap.size := fun e => Nat.lt_irrefl _ (hFl _ (hd2.fil.inV _ e))
    have hz : Datas w3 F g (.slice p ys.length cap) (ys.take k ++ y :: ys.drop k) := hd3.datas.ins k (h12.ext bE) h2 h3 h4 h5
    rw [← hw3]
    refine (insFil 0 w2.heap.size k (.slice p ys.length cap) ys y w3 hd3.fil.row hvb hvs hk (by omega) (Nat.zero_le _)).mono ?_
    rintro e w4 ⟨v1, rfl, own1, hgr, _, hwh⟩
    dsimp only
    have hN3 : w.heap.size < w3.heap.size := Nat.lt_of_lt_of_le hN bE.size
    have kg : ∀ i u, w3.cell? ⟨w.heap.size, i, none⟩ = some u → w4.cell? ⟨w.heap.size, i, none⟩ = some u := fun i u h => hgr.cell (a := ⟨w.heap.size, i, none⟩) h (fun e => hvN e.symm)
    have kb4 : Blk w4 g #[.slice p ys.length cap, o, a, l] 58 := hd3.blk.grown hgr hd3.vg
    refine hK _ _ ⟨kb4.cell 0 _ rfl, kg _ _ m0, kg _ _ m1, kg _ _ m2⟩ (fun hHeld => ?_)
    clear hK K kg m0 m1 m2
    try simp only [Act.put, List.setIfInBounds_toArray, List.set_cons_zero, List.set_cons_succ]
    refine wpAnyF_tk 9 (some 36) (Op.nilCheck (Operand.tmp 27)) 0 (v := ?_) rfl (by kernel_rfl) (fun _ _ _ h => h) ?_ hHeld ?_
    rotate_left
    · intro w hSw
      try dsimp only at hSw
      obtain ⟨_, _, _, _⟩ := hSw
      dsimp only [bare]
      go_simp <;> with_reducible rfl
    try simp only [Act.put, List.setIfInBounds_toArray, List.set_cons_zero, List.set_cons_succ]
    refine wpAnyF_tk 10 (some 37) (Op.fieldAddr 58 (Operand.tmp 36) 0) 0 (v := ?_) rfl (by kernel_rfl) (fun _ _ _ h => h) ?_ hHeld ?_
    rotate_left
    · intro w hSw
      try dsimp only at hSw
      obtain ⟨_, _, _, _⟩ := hSw
      dsimp only [bare]
      go_simp <;> with_reducible rfl
    try simp only [Act.put, List.setIfInBounds_toArray, List.set_cons_zero, List.set_cons_succ]
    have fz := kb4.frozen 0
    have c4 := kb4.cell 0 _ rfl
    refine wpAnyF_end (none) (Op.store 56 (Operand.tmp 37) (Operand.tmp 35)) 0 rfl (by kernel_rfl) (by kernel_rfl) (fun K hK => ?_)
    have hres := hd3.putRow hgr own1 hwh hz
    have hend : DiskX (w4.setCell ⟨g, 0, none⟩ v1) (FF F w (w4.setCell ⟨g, 0, none⟩ v1)) g o a l (insE ys y) := by
      unfold insE; rw [Hp.out]
      exact ⟨v1, hres.1.back hb3.size hFl hres.2.size⟩
    have hchg : Chg F w (w4.setCell ⟨g, 0, none⟩ v1) := (Chg.of_below hb3).step hres.2
    generalize ys.take k ++ y :: ys.drop k = zs at *
    obtain ⟨p1, c1, rfl⟩ := own1.rd.shape
    have Hend := Lib.hid hend
    have Hchg := Lib.hid hchg
    clear hend hchg hres hz own1 hwh hgr hw3
    dsimp only [bare]; go_simp
    refine hK _ _ ?_
    clear hK K
    try simp only [Act.put, List.setIfInBounds_toArray, List.set_cons_zero, List.set_cons_succ]
    go_wp2_with fail
    go_end0
    exact ⟨rfl, Hend.out, Hchg.out⟩
end Go.Proofs.Ytklopbjlpffnbaa
