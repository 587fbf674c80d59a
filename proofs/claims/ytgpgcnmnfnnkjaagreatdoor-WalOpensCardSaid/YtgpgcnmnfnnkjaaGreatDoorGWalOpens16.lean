/- The document's disk lying open: what becomes of it when it is written. Walks of the document's disk: NewDisk, Name, at, power, Arm, Total, Read. -/
import Derived.Test.YtgpgcnmnfnnkjaaGreatDoorGWalOpens15
set_option linter.unusedVariables false
set_option linter.unusedSimpArgs false
section
namespace Go.Proofs.YtgpgcnmnfnnkjaaGreatDoor
open Go Go.RowKit Go.PlainAid
structure RefV (w : World) (F : Nat → Prop) (g : Nat) (v l o : Value) (ys : List Ent) : Prop where
 blk : Blk w g #[v, l, o] 77
 fil : Files w F 87 v ys
 vg : v.ownBlock ≠ some g
 yg : ∀ y ∈ ys, y.v.ownBlock ≠ some g
 inG : F g
 lt : ∀ k, F k → k < w.heap.size
def RefAt (w : World) (F : Nat → Prop) (g : Nat) (d : Dk) : Prop := ∃ v ys, RefV w F g v (.int .i64 d.left) (.bool d.off) ys ∧ ys.map Ent.fil = d.fs
theorem tRef : SlT Tryz.prog 75 87 3 48 := SlT.mk' (z := .agg #[.string ⟨#[]⟩, .slice none 0 0, .int .i64 0]) Tryz.underlying75 (by kernel_rfl) rfl (by decide) (by decide)
section
variable {F G : Nat → Prop} {w w' w1 w2 : World} {g : Nat} {v l o : Value} {ys zs : List Ent} {d d' : Dk}
theorem RefV.chg (h : RefV w F g v l o ys) (hc : Chg G w w') (hd : ∀ k, F k → ¬ G k) : RefV w' F g v l o ys :=
 ⟨hc.blk h.blk (hd g h.inG), h.fil.chg hc hd, h.vg, h.yg, h.inG, fun k hk => Nat.lt_of_lt_of_le (h.lt k hk) hc.size⟩
theorem RefV.ext (h : RefV w F g v l o ys) (hb : Below w.heap.size w w') : RefV w' F g v l o ys := h.chg (G := fun _ => False) (.of_below hb) fun _ _ h => h
theorem RefV.drew (h : RefV w F g v l o ys) : RefV w.drew F g v l o ys := h.ext ((Below.refl _ _).drew)
theorem RefV.drewN (h : RefV w F g v l o ys) (n : Nat) : RefV (w.drewN n) F g v l o ys := h.ext (below_drawn _ _ _)
theorem RefV.mono (h : RefV w F g v l o ys) (hg : ∀ k, F k → G k) (hl : ∀ k, G k → k < w.heap.size) : RefV w G g v l o ys := ⟨h.blk, h.fil.mono hg, h.vg, h.yg, hg g h.inG, hl⟩
theorem RefV.ff (h : RefV w1 F g v l o ys) (hs : w.heap.size ≤ w1.heap.size) : RefV w1 (FF F w w1) g v l o ys := h.mono (fun _ => .inl) fun k hk => by
 rcases hk with h' | h'
 · exact h.lt k h'
 · exact h'.2
theorem RefV.setCell (h : RefV w F g v l o ys) (i : Nat) (u : Value) {l' o' : Value} (he : (#[v, l, o] : Array Value).setIfInBounds i u = #[v, l', o']) :
 RefV (w.setCell ⟨g, i, none⟩ u) F g v l' o' ys ∧ Chg (fun k => k = g) w (w.setCell ⟨g, i, none⟩ u) := by
 have hc : Chg (fun k => k = g) w (w.setCell ⟨g, i, none⟩ u) := Chg.setCell (F := fun k => k = g) (Chg.refl _ w) (p := ⟨g, i, none⟩) rfl u
 have hb := h.blk.set i u
 rw [he] at hb
 refine ⟨⟨hb, ⟨?_, ?_, h.fil.apart, h.fil.off, h.fil.inV, h.fil.inF⟩, h.vg, h.yg, h.inG, fun k hk => Nat.lt_of_lt_of_le (h.lt k hk) hc.size⟩, hc⟩
 · exact hc.ownR h.fil.row fun k hk e => h.vg (by rw [hk, e])
 · exact fun y hy => hc.ownB (h.fil.data y hy) fun k hk e => h.yg y hy (by rw [hk, e])
theorem RefV.putRow (h : RefV w F g v l o ys) (hg : w.grownBy w1 v.ownBlock) {v1 : Value} (own : OwnR entE w1 0 87 v1 zs) (hv : v1.ownBlock = v.ownBlock ∨ ∀ n, v1.ownBlock = some n → w.heap.size ≤ n) (hz : Datas w F g v zs) :
 RefV (w1.setCell ⟨g, 0, none⟩ v1) (FF F w (w1.setCell ⟨g, 0, none⟩ v1)) g v1 l o zs ∧ Chg F w (w1.setCell ⟨g, 0, none⟩ v1) := by
 have c1 : Chg F w w1 := .of_grown hg h.fil.inV
 have hc : Chg F w (w1.setCell ⟨g, 0, none⟩ v1) := c1.setCell h.inG v1
 have hs : (w1.setCell ⟨g, 0, none⟩ v1).heap.size = w1.heap.size := by simp [World.setCell]
 have hb1 : Blk w1 g #[v, l, o] 77 := h.blk.grown hg h.vg
 have hgl : g < w.heap.size := h.lt g h.inG
 have hv1g : v1.ownBlock ≠ some g := by
  intro e
  rcases hv with hv | hv
  · exact h.vg (by rw [← hv, e])
  · have := hv g e; omega
 have hcg : Chg (fun k => k = g) w1 (w1.setCell ⟨g, 0, none⟩ v1) := Chg.setCell (F := fun k => k = g) (Chg.refl _ w1) (p := ⟨g, 0, none⟩) rfl v1
 refine ⟨⟨hb1.set 0 v1, ⟨?_, ?_, hz.apart, ?_, ?_, ?_⟩, hv1g, hz.yg, .inl h.inG, ?_⟩, hc⟩
 · exact hcg.ownR own fun k hk e => hv1g (by rw [hk, e])
 · intro y hy
   refine hcg.ownB ?_ fun k hk e => hz.yg y hy (by rw [hk, e])
   refine Own.grown (hz.data y hy) hg ?_
   cases hq : y.v.ownBlock with
   | none => exact .inl rfl
   | some k => exact .inr fun e => (hz.off y hy).symm k hq e.symm
 · intro y hy k hk
   rcases hv with hv | hv
   · exact hz.off y hy k (by rw [← hv, hk])
   · intro e
     have h1 := hv k hk
     have h2 := h.lt k (hz.inF y hy k e)
     omega
 · intro k hk
   rcases hv with hv | hv
   · exact .inl (h.fil.inV k (by rw [← hv, hk]))
   · exact .inr ⟨hv k hk, by rw [hs]; exact (OwnR.lt own k hk).2⟩
 · exact fun y hy k hk => .inl (hz.inF y hy k hk)
 · intro k hk
   rcases hk with hk | hk
   · exact Nat.lt_of_lt_of_le (h.lt k hk) hc.size
   · exact hk.2
theorem RefV.setEnt {gv n cap : Nat} (h : RefV w F g (.slice (some ⟨gv, 0, none⟩) n cap) l o ys) {k : Nat} (hk : k < ys.length) {y : Ent} (c : Chg (fun b => ys[k].v.ownBlock = some b) w w1) (ow : OwnB w1 0 5 y.v y.data)
 (hw : y.v.ownBlock = ys[k].v.ownBlock ∨ ∀ n, y.v.ownBlock = some n → w.heap.size ≤ n) (row : OwnR entE w2 0 87 (.slice (some ⟨gv, 0, none⟩) n cap) (ys.set k y)) (hg : w1.grownBy w2 (some gv)) :
 RefV w2 (FF F w w2) g (.slice (some ⟨gv, 0, none⟩) n cap) l o (ys.set k y) ∧ Chg F w w2 := by
 have hmem : ys[k] ∈ ys := List.getElem_mem hk
 have c1 : Chg F w w1 := c.mono fun b _ hb => h.fil.inF _ hmem b hb
 have c2 : Chg (fun b => b = gv) w1 w2 := .of_grown hg fun b hb => by cases hb; rfl
 have hFv : F gv := h.fil.inV gv rfl
 have hc : Chg F w w2 := c1.trans c2 fun b _ hb => by rw [hb]; exact hFv
 have hgl : g < w.heap.size := h.lt g h.inG
 have hgvl : gv < w.heap.size := h.lt gv hFv
 have hvg : gv ≠ g := fun e => h.vg (by rw [e]; rfl)
 have hyk := h.yg _ hmem
 have hyg : y.v.ownBlock ≠ some g := by
  intro e
  rcases hw with hw | hw
  · exact hyk (by rw [← hw, e])
  · have := hw g e; omega
 have hyv : y.v.ownBlock ≠ some gv := by
  intro e
  rcases hw with hw | hw
  · exact h.fil.off _ hmem gv rfl (by rw [← hw, e])
  · have := hw gv e; omega
 have hnew : ∀ (j : Nat) (hj : j < ys.length), j ≠ k → Apart ys[j].v y.v := fun j hj hjk b hb e => by
  rcases hw with hw | hw
  · have h1 : Apart ys[j].v ys[k].v := by
     rcases Nat.lt_or_gt_of_ne hjk with hlt | hgt
     · exact List.pairwise_iff_getElem.1 h.fil.apart j k hj hk hlt
     · exact (List.pairwise_iff_getElem.1 h.fil.apart k j hk hj hgt).symm
    exact h1 b hb (by rw [← hw, e])
  · have h1 := hw b e
    have h2 := h.lt b (h.fil.inF _ (List.getElem_mem hj) b hb)
    omega
 have hof : ∀ z ∈ ys.set k y, z = y ∨ ∃ (j : Nat) (hj : j < ys.length), j ≠ k ∧ z = ys[j] := fun z hz => by
  obtain ⟨j, hj, rfl⟩ := List.getElem_of_mem hz
  rw [List.length_set] at hj
  rw [List.getElem_set]
  by_cases e : k = j
  · rw [if_pos e]; exact .inl rfl
  · rw [if_neg e]; exact .inr ⟨j, hj, fun h => e h.symm, rfl⟩
 refine ⟨⟨?_, ⟨row, ?_, ?_, ?_, ?_, ?_⟩, h.vg, ?_, .inl h.inG, ?_⟩, hc⟩
 · exact c2.blk (c.blk h.blk (fun e => hyk e)) (fun e => hvg e.symm)
 · intro z hz
   rcases hof z hz with rfl | ⟨j, hj, hjk, rfl⟩
   · exact c2.ownB ow fun b hb e => hyv (by rw [hb, e])
   · refine c2.ownB (c.ownB (h.fil.data _ (List.getElem_mem hj)) fun b hb e => ?_) fun b hb e => ?_
     · rcases Nat.lt_or_gt_of_ne hjk with hlt | hgt
       · exact List.pairwise_iff_getElem.1 h.fil.apart j k hj hk hlt b hb e
       · exact (List.pairwise_iff_getElem.1 h.fil.apart k j hk hj hgt) b e hb
     · subst e
       exact h.fil.off _ (List.getElem_mem hj) b rfl hb
 · rw [List.pairwise_iff_getElem]
   intro i j hi hj hij
   rw [List.length_set] at hi hj
   rw [List.getElem_set, List.getElem_set]
   by_cases e1 : k = i
   · have e2 : ¬ k = j := by omega
     rw [if_pos e1, if_neg e2]
     exact (hnew j hj (by omega)).symm
   · rw [if_neg e1]
     by_cases e2 : k = j
     · rw [if_pos e2]; exact hnew i hi (by omega)
     · rw [if_neg e2]; exact List.pairwise_iff_getElem.1 h.fil.apart i j hi hj hij
 · intro z hz
   rcases hof z hz with rfl | ⟨j, hj, hjk, rfl⟩
   · intro b hb e; cases hb; exact hyv e
   · exact h.fil.off _ (List.getElem_mem hj)
 · exact fun b hb => .inl (h.fil.inV b hb)
 · intro z hz b hb
   rcases hof z hz with rfl | ⟨j, hj, hjk, rfl⟩
   · rcases hw with hw | hw
     · exact .inl (h.fil.inF _ hmem b (by rw [← hw, hb]))
     · exact .inr ⟨hw b hb, Nat.lt_of_lt_of_le (Own.lt ow b hb).2 c2.size⟩
   · exact .inl (h.fil.inF _ (List.getElem_mem hj) b hb)
 · intro z hz
   rcases hof z hz with rfl | ⟨j, hj, hjk, rfl⟩
   · exact hyg
   · exact h.yg _ (List.getElem_mem hj)
 · intro b hb
   rcases hb with hb | hb
   · exact Nat.lt_of_lt_of_le (h.lt b hb) hc.size
   · exact hb.2
theorem RefV.datas (h : RefV w F g v l o ys) : Datas w F g v ys := ⟨h.fil.data, h.fil.apart, h.fil.off, h.fil.inF, h.yg⟩
theorem RefV.at_ (h : RefV w F g v (.int .i64 d.left) (.bool d.off) ys) (hy : ys.map Ent.fil = d.fs) : RefAt w F g d := ⟨v, ys, h, hy⟩
theorem RefV.atFs {l' : List Fil} (h : RefV w F g v (.int .i64 d.left) (.bool d.off) ys) (hy : ys.map Ent.fil = l') : RefAt w F g { d with fs := l' } := ⟨v, ys, h, hy⟩
theorem RefAt.inG (h : RefAt w F g d) : F g := by obtain ⟨v, ys, h, _⟩ := h; exact h.inG
theorem RefAt.lt (h : RefAt w F g d) : ∀ k, F k → k < w.heap.size := by obtain ⟨v, ys, h, _⟩ := h; exact h.lt
theorem RefAt.chg (h : RefAt w F g d) (hc : Chg G w w') (hd : ∀ k, F k → ¬ G k) : RefAt w' F g d := by obtain ⟨v, ys, h, hy⟩ := h; exact ⟨v, ys, h.chg hc hd, hy⟩
theorem RefAt.ext (h : RefAt w F g d) (hb : Below w.heap.size w w') : RefAt w' F g d := by obtain ⟨v, ys, h, hy⟩ := h; exact ⟨v, ys, h.ext hb, hy⟩
theorem RefAt.mono (h : RefAt w F g d) (hg : ∀ k, F k → G k) (hl : ∀ k, G k → k < w.heap.size) : RefAt w G g d := by obtain ⟨v, ys, h, hy⟩ := h; exact ⟨v, ys, h.mono hg hl, hy⟩
theorem RefAt.ff (h : RefAt w1 F g d) (hs : w.heap.size ≤ w1.heap.size) : RefAt w1 (FF F w w1) g d := by obtain ⟨v, ys, h, hy⟩ := h; exact ⟨v, ys, h.ff hs, hy⟩
theorem RefV.seqU (h : RefV w2 (FF (FF F w w1) w1 w2) g v l o ys ∧ Chg (FF F w w1) w1 w2) (h0 : ∀ k, F k → k < w.heap.size) (c : Chg F w w1) : RefV w2 (FF F w w2) g v l o ys ∧ Chg F w w2 :=
 ⟨h.1.mono (fun k hk => FF.seq h.2.size c.size hk) (FF_lt h0 (Nat.le_trans c.size h.2.size)), c.seq h.2⟩
theorem RefV.extU (h : RefV w1 (FF F w w1) g v l o ys) (h0 : ∀ k, F k → k < w.heap.size) (hs : w.heap.size ≤ w1.heap.size) (hb : Below w1.heap.size w1 w2) : RefV w2 (FF F w w2) g v l o ys :=
 (h.ext hb).mono (fun k hk => by
  rcases hk with hk | hk
  · exact .inl hk
  · exact .inr ⟨hk.1, Nat.lt_of_lt_of_le hk.2 hb.size⟩) (FF_lt h0 (Nat.le_trans hs hb.size))
def UndR (w : World) (F : Nat → Prop) (g : Nat) (d : Dk) (w' : World) : Prop := RefAt w' (FF F w w') g d ∧ Chg F w w'
theorem UndR.start (h : RefAt w F g d) : UndR w F g d w := ⟨h.ff (Nat.le_refl _), Chg.refl _ _⟩
theorem UndR.step (h : UndR w F g d w1) (h0 : ∀ k, F k → k < w.heap.size) (h2 : UndR w1 (FF F w w1) g d' w2) : UndR w F g d' w2 :=
 ⟨h2.1.mono (fun _ hk => FF.seq h2.2.size h.2.size hk) (FF_lt h0 (Nat.le_trans h.2.size h2.2.size)), h.2.seq h2.2⟩
theorem UndR.ext (h : UndR w F g d w1) (h0 : ∀ k, F k → k < w.heap.size) (hb : Below w1.heap.size w1 w2) : UndR w F g d w2 :=
 h.step h0 ⟨(h.1.ext hb).ff hb.size, .of_below hb⟩
theorem UndR.drewN (h : UndR w F g d w1) (n : Nat) : UndR w F g d (w1.drewN n) := ⟨h.1.ext (below_drawn _ _ _), h.2.drewN n⟩
end
end Go.Proofs.YtgpgcnmnfnnkjaaGreatDoor
end

section
namespace Go.Proofs.YtgpgcnmnfnnkjaaGreatDoor
open Go Go.RowKit BigFrame Go.PlainAid
attribute [local go_sem] After.same
theorem refNew (w : World) : Calls Tryz.prog 10 #[] w fun e w' => e = .returned (.pointer (some ⟨w.heap.size, 0, none⟩)) ∧ RefAt w' (fun k => w.heap.size ≤ k ∧ k < w'.heap.size) w.heap.size dk0 ∧ Below w.heap.size w w' := by
 have kb := Blk.new w #[.slice none 0 0, .int .i64 (-1), .bool false] 77
 have hz : RefAt (w.alloc (.cells #[.slice none 0 0, .int .i64 (-1), .bool false] 77)) (fun k => w.heap.size ≤ k ∧ k < (w.alloc (.cells #[.slice none 0 0, .int .i64 (-1), .bool false] 77)).heap.size) w.heap.size dk0 := by
  refine RefV.at_ (v := .slice none 0 0) (ys := []) ⟨kb, ⟨OwnR.nil _ _ _, by simp, by simp, by simp, by simp [Value.ownBlock], by simp⟩, by simp [Value.ownBlock], by simp, ⟨Nat.le_refl _, kb.lt⟩, fun k h => h.2⟩ rfl
 have Hz := Lib.hid hz
 clear hz kb
 go_enter Tryz.func10, Tryz.ntmps10
 go_wp2
 go_ret
 exact ⟨rfl, Hz.out, below_alloc _ _⟩
theorem empty_iff {s : ByteArray} : s.toList = [] ↔ s.size = 0 := by
 rw [ByteArray.toList_eq]
 constructor
 · intro h
   have h2 := congrArg List.length h
   simpa using h2
 · intro h
   apply List.eq_nil_of_length_eq_zero
   simpa using h
theorem refNamed (s : ByteArray) (w : World) (hs : s.size ≤ 4611686018427387904) : Calls Tryz.prog 57 #[.string s] w fun e w' => e = .returned (.bool (namedD s)) ∧ w = w' := by
 have hb := get_bt s
 have Hn : Hid (namedD s = ((decide (1 ≤ s.size) && decide (s.size ≤ 24)) && allB s (s.size - 0) 0)) := rfl
 go_enter Tryz.func57, Tryz.ntmps57
 by_cases h1 : s.size = 0
 · have hnil : s.toList = [] := empty_iff.2 h1
   have e0 : namedD s = false := by rw [Hn.out, decide_eq_false (by omega)]; rfl
   clear Hn
   go_wp2
   go_ret
   exact ⟨ret_bool e0.symm, rfl⟩
 · have hnil : (s.toList == []) = false := beq_eq_false_iff_ne.2 (fun h => h1 (empty_iff.1 h))
   by_cases h2 : 24 < s.size
   · have i2 : (24 : Int) < (s.size : Int) := by omega
     have e0 : namedD s = false := by rw [Hn.out, decide_eq_false (show ¬ s.size ≤ 24 by omega)]; simp
     clear Hn
     go_wp2
     go_ret
     exact ⟨ret_bool e0.symm, rfl⟩
   · have i2 : ¬ (24 : Int) < (s.size : Int) := by omega
     have e0 : Hid (namedD s = allB s (s.size - 0) 0) := by show _ = _; rw [Hn.out, decide_eq_true (show 1 ≤ s.size by omega), decide_eq_true (show s.size ≤ 24 by omega)]; rfl
     clear Hn
     go_wp2
     go_loopw [3] (fun i wr => ∃ (k : Nat), i = .int .i64 k ∧ k ≤ s.size ∧ Hid (namedD s = allB s (s.size - k) k) ∧ wr = w) (fun i _ => s.size - (intOf i).toNat)
     case atStart => exact ⟨0, rfl, by omega, e0, rfl⟩
     case round =>
      obtain ⟨k, rfl, hk, hrl, rfl⟩ := hrel
      by_cases hlt : k < s.size
      · have hi : (k : Int) < (s.size : Int) := by omega
        have hst := Lib.hid (allB_step hlt)
        by_cases h3 : 33 ≤ bt s k
        · by_cases h4 : bt s k ≤ 126
          · have hnx : Hid (namedD s = allB s (s.size - (k + 1)) (k + 1)) := by show _ = _; rw [hrl.out, hst.out]; unfold okB; rw [decide_eq_true h3, decide_eq_true h4]; rfl
            have h3n : ¬ bt s k < 33 := by omega
            have h4n : ¬ 126 < bt s k := by omega
            clear hnil h1 h2 i2
            go_wp2
            go_roundw
            case rel => exact ⟨k + 1, by go_num, by omega, hnx, by trivial⟩
            case measure => simp [intOf]; omega
          · have hnx : namedD s = false := by rw [hrl.out, hst.out]; unfold okB; rw [decide_eq_true h3, decide_eq_false h4]; rfl
            have h3n : ¬ bt s k < 33 := by omega
            have h4n : 126 < bt s k := by omega
            have Hnx := Lib.hid hnx
            clear hnil h1 h2 i2 hnx
            go_wp2
            go_ret
            exact ⟨ret_bool Hnx.out.symm, rfl⟩
        · have hnx : namedD s = false := by rw [hrl.out, hst.out]; unfold okB; rw [decide_eq_false h3]; rfl
          have h3n : bt s k < 33 := by omega
          have Hnx := Lib.hid hnx
          clear hnil h1 h2 i2 hnx
          go_wp2
          go_ret
          exact ⟨ret_bool Hnx.out.symm, rfl⟩
      · have hend := allB_end (s := s) (k := k) (by omega)
        have hi : ¬ (k : Int) < (s.size : Int) := by omega
        clear hnil h1 h2 i2
        go_wp2
        go_ret
        exact ⟨ret_bool (by rw [hrl.out, hend]), rfl⟩
theorem refAt {F : Nat → Prop} {g : Nat} {d : Dk} (s : ByteArray) (w : World) (hd : RefAt w F g d) :
 Calls Tryz.prog 51 #[.pointer (some ⟨g, 0, none⟩), .string s] w fun e w' => e = .returned (.int .i64 (idxD d.fs s)) ∧ w = w' := by
 obtain ⟨v, ys, hv, hy⟩ := hd
 have hx : placeBy (isN s) ys 0 = idxD d.fs s := by unfold idxD; rw [← hy]; exact placeBy_map Ent.fil (isN s) (fun _ => rfl) ys 0
 rw [← hx]
 have rv := hv.fil.row.rd
 have c0 := hv.blk.cell 0 _ rfl
 clear hv hy hx
 obtain ⟨p, cap, rfl, h1, h2, h3, h4⟩ := rv.form
 clear h3 h4
 unfold maxLen at h2
 go_enter Tryz.func51, Tryz.ntmps51
 go_wp2
 go_loopw [5] (fun i wr => ∃ k : Nat, k ≤ ys.length ∧ i = .int .i64 k ∧ Hid (placeBy (isN s) ys 0 = placeBy (isN s) (ys.drop k) k) ∧ wr = w) (fun i _ => ys.length - (intOf i).toNat)
 case atStart => exact ⟨0, by omega, rfl, rfl, rfl⟩
 case round =>
  obtain ⟨k, hk, rfl, hpl, rfl⟩ := hrel
  by_cases hlt : k < ys.length
  · obtain ⟨b, off, rfl⟩ := Rd.blk rv (by omega)
    obtain ⟨e0, e1, e2⟩ := ent3 rv hlt
    have hi : (k : Int) < (ys.length : Int) := by omega
    have hi0 : (0 : Int) ≤ (k : Int) := by omega
    have hhit := Lib.hid (fun h => placeBy_hit (p := isN s) hlt h)
    have hmiss := Lib.hid (fun h => placeBy_miss (p := isN s) hlt h)
    clear rv
    generalize ys[k] = y at *
    cases hq : isN s y with
    | true =>
     have Hq := Lib.hid hq
     have hq2 : y.name.toList = s.toList := by simpa [isN, eqS] using hq
     clear hq
     go_wp2
     go_ret
     exact ⟨ret_int (by rw [hpl.out, hhit.out Hq.out]), rfl⟩
    | false =>
     have Hq := Lib.hid hq
     have hq2 : (y.name.toList == s.toList) = false := hq
     clear hq
     go_wp2
     go_roundw
     case rel => exact ⟨k + 1, by omega, by go_num, hpl.out.trans (hmiss.out Hq.out), by trivial⟩
     case measure => simp [intOf]; omega
  · have hi : ¬ (k : Int) < (ys.length : Int) := by omega
    go_wp2
    go_ret
    exact ⟨ret_int (by rw [hpl.out, placeBy_end (by omega)]), rfl⟩
theorem refPower {F : Nat → Prop} {g : Nat} {d : Dk} {w : World} (hd : RefAt w F g d) (h1 : -1 ≤ d.left) (h2 : d.left ≤ 9223372036854775807) :
 Calls Tryz.prog 59 #[.pointer (some ⟨g, 0, none⟩)] w fun e w' => e = .returned (.bool (powD d).1) ∧ RefAt w' F g (powD d).2 ∧ Chg F w w' := by
 obtain ⟨v, ys, hv, hy⟩ := hd
 have c1 := hv.blk.cell 1 _ rfl
 have c2 := hv.blk.cell 2 _ rfl
 have f1 := hv.blk.frozen 1
 have f2 := hv.blk.frozen 2
 rcases Int.lt_trichotomy d.left 0 with h | h | h
 · have hz : RefAt w F g (powD d).2 ∧ Chg F w w := by
    refine ⟨⟨v, ys, ?_, ?_⟩, Chg.refl _ _⟩
    · have e : powD d = (true, { d with left := d.left }) := by unfold powD; rw [if_neg (by omega), if_neg (by omega)]
      rw [e]; exact hv
    · rw [powD_fs]; exact hy
   have e1 : (powD d).1 = true := by unfold powD; rw [if_neg (by omega)]
   rw [e1]
   have Hz := Lib.hid hz
   have n1 : ¬ d.left = 0 := by omega
   have n2 : ¬ 0 < d.left := by omega
   clear hz e1 hv hy h
   generalize d.left = n at *
   go_enter Tryz.func59, Tryz.ntmps59
   go_wp2
   go_ret
   exact ⟨rfl, Hz.out.1, Hz.out.2⟩
 · have s1 := hv.setCell 2 (.bool true) rfl
   have hz : RefAt (w.setCell ⟨g, 2, none⟩ (.bool true)) F g (powD d).2 ∧ Chg F w (w.setCell ⟨g, 2, none⟩ (.bool true)) := by
    refine ⟨⟨v, ys, ?_, ?_⟩, s1.2.mono fun k _ hk => by rw [hk]; exact hv.inG⟩
    · have e : powD d = (false, { d with off := true }) := by unfold powD; rw [if_pos h]
      rw [e]; exact s1.1
    · rw [powD_fs]; exact hy
   have e1 : (powD d).1 = false := by unfold powD; rw [if_pos h]
   rw [e1]
   have Hz := Lib.hid hz
   clear hz e1 hv hy s1
   generalize d.left = n at *
   subst h
   go_enter Tryz.func59, Tryz.ntmps59
   go_wp2
   go_ret
   exact ⟨rfl, Hz.out.1, Hz.out.2⟩
 · have s1 := hv.setCell 1 (.int .i64 (d.left - 1)) rfl
   have hz : RefAt (w.setCell ⟨g, 1, none⟩ (.int .i64 (d.left - 1))) F g (powD d).2 ∧ Chg F w (w.setCell ⟨g, 1, none⟩ (.int .i64 (d.left - 1))) := by
    refine ⟨⟨v, ys, ?_, ?_⟩, s1.2.mono fun k _ hk => by rw [hk]; exact hv.inG⟩
    · have e : powD d = (true, { d with left := d.left - 1 }) := by unfold powD; rw [if_neg (by omega), if_pos h]
      rw [e]; exact s1.1
    · rw [powD_fs]; exact hy
   have e1 : (powD d).1 = true := by unfold powD; rw [if_neg (by omega)]
   rw [e1]
   have Hz := Lib.hid hz
   have n1 : ¬ d.left = 0 := by omega
   clear hz e1 hv hy s1
   generalize d.left = n at *
   go_enter Tryz.func59, Tryz.ntmps59
   go_wp2
   go_ret
   exact ⟨rfl, Hz.out.1, Hz.out.2⟩
theorem refTotal {F : Nat → Prop} {g : Nat} {d : Dk} {w : World} (hd : RefAt w F g d) (ht : totD d.fs ≤ 4611686018427387904) :
 Calls Tryz.prog 58 #[.pointer (some ⟨g, 0, none⟩)] w fun e w' => e = .returned (.int .i64 (totD d.fs)) ∧ w = w' := by
 obtain ⟨v, ys, hv, hy⟩ := hd
 rw [← hy] at ht ⊢
 clear hy
 have rv := hv.fil.row.rd
 have c0 := hv.blk.cell 0 _ rfl
 clear hv
 obtain ⟨p, cap, rfl, h1, h2, h3, h4⟩ := rv.form
 clear h3 h4
 unfold maxLen at h2
 go_enter Tryz.func58, Tryz.ntmps58
 go_wp2
 go_loopw [3, 4] (fun n i wr => ∃ k : Nat, k ≤ ys.length ∧ i = .int .i64 k ∧ n = .int .i64 ((totD ((ys.map Ent.fil).take k) : Nat) : Int) ∧ wr = w) (fun _ i _ => ys.length - (intOf i).toNat)
 case atStart => exact ⟨0, by omega, rfl, by simp [totD], rfl⟩
 case round =>
  obtain ⟨k, hk, rfl, rfl, rfl⟩ := hrel
  by_cases hlt : k < ys.length
  · obtain ⟨b, off, rfl⟩ := Rd.blk rv (by omega)
    obtain ⟨c0, c1, c2⟩ := ent3 rv hlt
    have hi : (k : Int) < (ys.length : Int) := by omega
    have hi0 : (0 : Int) ≤ (k : Int) := by omega
    have hst := totD_take (l := ys.map Ent.fil) (k := k) (by simpa using hlt)
    rw [fil_get] at hst
    have hle := totD_take_le (ys.map Ent.fil) (k + 1)
    have hyd : (ys[k]).fil.data.length = (ys[k]).data.length := rfl
    rw [hyd] at hst
    rw [hst] at hle
    have Hst := Lib.hid hst
    clear hst hyd rv
    generalize totD ((ys.map Ent.fil).take k) = T at *
    generalize ys[k] = y at *
    have q1 : (0 : Int) ≤ (T : Int) := by omega
    have q2 : (T : Int) + (y.data.length : Int) ≤ 4611686018427387904 := by omega
    have q3 : (0 : Int) ≤ (y.data.length : Int) := by omega
    clear hle ht
    go_wp2
    go_roundw
    case rel => exact ⟨k + 1, by omega, by go_num, by rw [Hst.out]; go_num, by trivial⟩
    case measure => simp [intOf]; omega
  · have hkl : k = ys.length := by omega
    have hi : ¬ (k : Int) < (ys.length : Int) := by omega
    have Hk := Lib.hid hkl
    clear hkl
    go_wp2
    go_ret
    exact ⟨ret_int (by rw [Hk.out, List.take_of_length_le (by simp)]), rfl⟩
theorem refNames {F : Nat → Prop} {g : Nat} {d : Dk} {w : World} (hd : RefAt w F g d) (hl : d.fs.length ≤ 1000000) :
 Calls Tryz.prog 13 #[.pointer (some ⟨g, 0, none⟩)] w fun e w' => ∃ r, e = .returned r ∧ OwnR strE w' w.heap.size 9 r (d.fs.map (·.name)) ∧ Below w.heap.size w w' := by
 obtain ⟨v, ys, hv, hy⟩ := hd
 rw [← hy] at hl ⊢
 rw [List.length_map] at hl
 clear hy
 have rv := hv.fil.row.rd
 have c0 := hv.blk.cell 0 _ rfl
 have hgl := hv.lt g hv.inG
 clear hv
 obtain ⟨p, cap, rfl⟩ := rv.shape
 have Hn : Hid ((ys.map Ent.fil).map (·.name) = ys.map (·.name)) := by show _ = _; rw [List.map_map]; rfl
 go_enter Tryz.func13, Tryz.ntmps13
 go_wp2
 go_loopw [3, 4] (fun n i wr => ∃ k : Nat, k ≤ ys.length ∧ i = .int .i64 k ∧ OwnR strE wr w.heap.size 9 n ((ys.map (·.name)).take k) ∧ Below w.heap.size w wr) (fun _ i _ => ys.length - (intOf i).toNat)
 case atStart => exact ⟨0, by omega, rfl, OwnR.nil _ _ _, Below.refl _ _⟩
 case round =>
  obtain ⟨k, hk, rfl, own, hb⟩ := hrel
  have k0 := (hb.cell (p := ⟨g, 0, none⟩) hgl).trans c0
  by_cases hlt : k < ys.length
  · obtain ⟨b, off, rfl⟩ := Rd.blk rv (by omega)
    obtain ⟨e0, e1, e2⟩ := ent3 (rv.ext hb) hlt
    have hi : (k : Int) < (ys.length : Int) := by omega
    have hi0 : (0 : Int) ≤ (k : Int) := by omega
    have hst : (ys.map (·.name)).take (k + 1) = (ys.map (·.name)).take k ++ [(ys[k]).name] := by rw [List.take_succ_eq_append_getElem (by simpa using hlt)]; simp
    have hlk : ((ys.map (·.name)).take k).length ≤ 1000000 := by rw [List.length_take, List.length_map]; omega
    have Hst := Lib.hid hst
    clear hst rv c0
    generalize (ys.map (·.name)).take k = T at *
    generalize ys[k] = y at *
    have cb := below_alloc wr (.cells #[.string y.name] 9)
    have lit := OwnR.litAt strE wr #[.string y.name] 9 [y.name] 1 0 wr.heap.size rfl rfl rfl (by unfold maxLen; omega) (Nat.zero_le _)
    have own3 := own.ext cb
    have hb3 := hb.trans (cb.mono hb.size)
    obtain ⟨pn, cn, rfl⟩ := own3.rd.shape
    go_wp2_with (first | (at_builtin; refine wpList_appR (E := strE) tStr rfl rfl own3 rfl lit.rd rfl (by simp; omega) hb3.size ?_; intro v4 w4 own4 g4 b4) | fail)
    go_roundw
    case rel => exact ⟨k + 1, by omega, by go_num, by rw [Hst.out]; exact own4, hb3.trans (b4.mono (Nat.le_refl _))⟩
    case measure => simp [intOf]; omega
  · have hkl : k = ys.length := by omega
    have hi : ¬ (k : Int) < (ys.length : Int) := by omega
    have Hk := Lib.hid hkl
    clear hkl
    go_wp2
    go_ret
    exact ⟨_, rfl, by rw [Hk.out, List.take_of_length_le (by simp)] at own; exact own, hb⟩
theorem refRead {F : Nat → Prop} {g : Nat} {d : Dk} {w : World} (hd : RefAt w F g d) (s : ByteArray) :
 Calls Tryz.prog 14 #[.pointer (some ⟨g, 0, none⟩), .string s] w fun e w' => (∃ r, e = .returned (.tuple #[r, .bool (readD d s).isSome]) ∧ Bytes w' r ((readD d s).getD [])) ∧ w = w' := by
 have hat := refAt s w hd
 obtain ⟨v, ys, hv, hy⟩ := hd
 rcases idxD_spec d.fs s with ⟨hx, _⟩ | ⟨j, hj, hx, _, _⟩
 · have hr : readD d s = none := by unfold readD; rw [if_pos (by omega)]
   have Hr := Lib.hid hr
   rw [hx] at hat
   clear hr hx hv hy
   go_enter Tryz.func14, Tryz.ntmps14
   go_wp2_with (go_at_call 51; refine hat.mono ?_; rintro e w' ⟨rfl, rfl⟩)
   go_ret2
   exact ⟨⟨_, by rw [Hr.out]; rfl, by rw [Hr.out]; exact Bytes.nil _⟩, rfl⟩
 · have hjy : j < ys.length := by rw [← hy, List.length_map] at hj; exact hj
   have hfj : d.fs[j]? = some (ys[j]).fil := by rw [← hy, List.getElem?_map, List.getElem?_eq_getElem hjy]; rfl
   have hr : readD d s = some (ys[j]).data := by unfold readD; rw [if_neg (by omega), hx, Int.toNat_natCast, hfj]; rfl
   have Hr := Lib.hid hr
   rw [hx] at hat
   have hdat := (hv.fil.data _ (List.getElem_mem hjy)).bytes
   have rv := hv.fil.row.rd
   have c0 := hv.blk.cell 0 _ rfl
   have hji : (j : Int) < (ys.length : Int) := by omega
   have hj0 : (0 : Int) ≤ (j : Int) := by omega
   obtain ⟨p, cap, rfl⟩ := rv.shape
   obtain ⟨b, off, rfl⟩ := Rd.blk rv (by omega)
   obtain ⟨e0, e1, e2⟩ := ent3 rv hjy
   clear hr hx hy hfj hv rv
   generalize ys[j] = y at *
   have hdat' : Bytes w (.slice y.p y.data.length y.c) y.data := hdat
   clear hdat
   go_enter Tryz.func14, Tryz.ntmps14
   go_wp2_with (go_at_call 51; refine hat.mono ?_; rintro e w' ⟨rfl, rfl⟩)
   go_ret2
   exact ⟨⟨_, by rw [Hr.out]; rfl, by rw [Hr.out]; exact hdat'⟩, rfl⟩
end Go.Proofs.YtgpgcnmnfnnkjaaGreatDoor
end
