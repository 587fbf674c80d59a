/- The document's disk lying open: what becomes of it when it is written. -/
import Derived.Test.YtklopbjlpffnbaaDskE
namespace Go.Proofs.Ytklopbjlpffnbaa
open Go Go.RowKit Go.PlainAid
structure RefV (w : World) (F : Nat → Prop) (g : Nat) (v l o : Value) (ys : List Ent) : Prop where
  blk : Blk w g #[v, l, o] 72
  fil : Files w F 82 v ys
  vg : v.ownBlock ≠ some g
  yg : ∀ y ∈ ys, y.v.ownBlock ≠ some g
  inG : F g
  lt : ∀ k, F k → k < w.heap.size
def RefAt (w : World) (F : Nat → Prop) (g : Nat) (d : Dk) : Prop := ∃ v ys, RefV w F g v (.int .i64 d.left) (.bool d.off) ys ∧ ys.map Ent.fil = d.fs
theorem tRef : SlT Try.prog 70 82 3 48 := SlT.mk' (z := .agg #[.string ⟨#[]⟩, .slice none 0 0, .int .i64 0]) Try.underlying70 (by kernel_rfl) rfl (by decide) (by decide)
section
variable {F G : Nat → Prop} {w w' w1 w2 : World} {g : Nat} {v l o : Value} {ys zs : List Ent} {d d' : Dk}
theorem RefV.chg (h : RefV w F g v l o ys) (hc : Chg G w w') (hd : ∀ k, F k → ¬ G k) : RefV w' F g v l o ys :=
  ⟨hc.blk h.blk (hd g h.inG), h.fil.chg hc hd, h.vg, h.yg, h.inG, fun k hk => Nat.lt_of_lt_of_le (h.lt k hk) hc.size⟩
theorem RefV.ext (h : RefV w F g v l o ys) (hb : Below w.heap.size w w') : RefV w' F g v l o ys := h.chg (G := fun _ => False) (.of_below hb) fun _ _ h => h
theorem RefV.drew (h : RefV w F g v l o ys) : RefV w.drew F g v l o ys := h.ext ((Below.refl _ _).drew)
theorem RefV.drewN (h : RefV w F g v l o ys) (n : Nat) : RefV (w.drewN n) F g v l o ys := h.ext (below_drawn _ _ _)
theorem RefV.mono (h : RefV w F g v l o ys) (hg : ∀ k, F k → G k) (hl : ∀ k, G k → k < w.heap.size) : RefV w G g v l o ys := ⟨h.blk, h.fil.mono hg, h.vg, h.yg, hg g h.inG, hl⟩
theorem RefV.ff (h : RefV w1 F g v l o ys) (hs : w.heap.size ≤ w1.heap.size) : RefV w1 (FF F w w1) g v l o ys := h.mono (fun _ => .inl) fun k hk => by
  rcases hk with h' | h'
  · exact h.lt k h'
  · exact h'.2
theorem RefV.setCell (h : RefV w F g v l o ys) (i : Nat) (u : Value) {l' o' : Value} (he : (#[v, l, o] : Array Value).setIfInBounds i u = #[v, l', o']) :
    RefV (w.setCell ⟨g, i, none⟩ u) F g v l' o' ys ∧ Chg (fun k => k = g) w (w.setCell ⟨g, i, none⟩ u) := by
  have hc : Chg (fun k => k = g) w (w.setCell ⟨g, i, none⟩ u) := Chg.setCell (F := fun k => k = g) (Chg.refl _ w) (p := ⟨g, i, none⟩) rfl u
  have hb := h.blk.set i u
  rw [he] at hb
  refine ⟨⟨hb, ⟨?_, ?_, h.fil.apart, h.fil.off, h.fil.inV, h.fil.inF⟩, h.vg, h.yg, h.inG, fun k hk => Nat.lt_of_lt_of_le (h.lt k hk) hc.size⟩, hc⟩
  · exact hc.ownR h.fil.row fun k hk e => h.vg (by rw [hk, e])
  · exact fun y hy => hc.ownB (h.fil.data y hy) fun k hk e => h.yg y hy (by rw [hk, e])
theorem RefV.putRow (h : RefV w F g v l o ys) (hg : w.grownBy w1 v.ownBlock) {v1 : Value} (own : OwnR entE w1 0 82 v1 zs) (hv : v1.ownBlock = v.ownBlock ∨ ∀ n, v1.ownBlock = some n → w.heap.size ≤ n) (hz : Datas w F g v zs) :
    RefV (w1.setCell ⟨g, 0, none⟩ v1) (FF F w (w1.setCell ⟨g, 0, none⟩ v1)) g v1 l o zs ∧ Chg F w (w1.setCell ⟨g, 0, none⟩ v1) := by
  have c1 : Chg F w w1 := .of_grown hg h.fil.inV
  have hc : Chg F w (w1.setCell ⟨g, 0, none⟩ v1) := c1.setCell h.inG v1
  have hs : (w1.setCell ⟨g, 0, none⟩ v1).heap.size = w1.heap.size := by simp [World.setCell]
  have hb1 : Blk w1 g #[v, l, o] 72 := h.blk.grown hg h.vg
  have hgl : g < w.heap.size := h.lt g h.inG
  have hv1g : v1.ownBlock ≠ some g := by
    intro e
    rcases hv with hv | hv
    · exact h.vg (by rw [← hv, e])
    · have := hv g e; omega
  have hcg : Chg (fun k => k = g) w1 (w1.setCell ⟨g, 0, none⟩ v1) := Chg.setCell (F := fun k => k = g) (Chg.refl _ w1) (p := ⟨g, 0, none⟩) rfl v1
  refine ⟨⟨hb1.set 0 v1, ⟨?_, ?_, hz.apart, ?_, ?_, ?_⟩, hv1g, hz.yg, .inl h.inG, ?_⟩, hc⟩
  · exact hcg.ownR own fun k hk e => hv1g (by rw [hk, e])
  · intro y hy
    refine hcg.ownB ?_ fun k hk e => hz.yg y hy (by rw [hk, e])
    refine Own.grown (hz.data y hy) hg ?_
    cases hq : y.v.ownBlock with
    | none => exact .inl rfl
    | some k => exact .inr fun e => (hz.off y hy).symm k hq e.symm
  · intro y hy k hk
    rcases hv with hv | hv
    · exact hz.off y hy k (by rw [← hv, hk])
    · intro e
      have h1 := hv k hk
      have h2 := h.lt k (hz.inF y hy k e)
      omega
  · intro k hk
    rcases hv with hv | hv
    · exact .inl (h.fil.inV k (by rw [← hv, hk]))
    · exact .inr ⟨hv k hk, by rw [hs]; exact (OwnR.lt own k hk).2⟩
  · exact fun y hy k hk => .inl (hz.inF y hy k hk)
  · intro k hk
    rcases hk with hk | hk
    · exact Nat.lt_of_lt_of_le (h.lt k hk) hc.size
    · exact hk.2
/-- one file is another: its bytes are written, or lie anew -/
theorem RefV.setEnt {gv n cap : Nat} (h : RefV w F g (.slice (some ⟨gv, 0, none⟩) n cap) l o ys) {k : Nat} (hk : k < ys.length) {y : Ent} (c : Chg (fun b => ys[k].v.ownBlock = some b) w w1) (ow : OwnB w1 0 5 y.v y.data)
    (hw : y.v.ownBlock = ys[k].v.ownBlock ∨ ∀ n, y.v.ownBlock = some n → w.heap.size ≤ n) (row : OwnR entE w2 0 82 (.slice (some ⟨gv, 0, none⟩) n cap) (ys.set k y)) (hg : w1.grownBy w2 (some gv)) :
    RefV w2 (FF F w w2) g (.slice (some ⟨gv, 0, none⟩) n cap) l o (ys.set k y) ∧ Chg F w w2 := by
  have hmem : ys[k] ∈ ys := List.getElem_mem hk
  have c1 : Chg F w w1 := c.mono fun b _ hb => h.fil.inF _ hmem b hb
  have c2 : Chg (fun b => b = gv) w1 w2 := .of_grown hg fun b hb => by cases hb; rfl
  have hFv : F gv := h.fil.inV gv rfl
  have hc : Chg F w w2 := c1.trans c2 fun b _ hb => by rw [hb]; exact hFv
  have hgl : g < w.heap.size := h.lt g h.inG
  have hgvl : gv < w.heap.size := h.lt gv hFv
  have hvg : gv ≠ g := fun e => h.vg (by rw [e]; rfl)
  have hyk := h.yg _ hmem
  have hyg : y.v.ownBlock ≠ some g := by
    intro e
    rcases hw with hw | hw
    · exact hyk (by rw [← hw, e])
    · have := hw g e; omega
  have hyv : y.v.ownBlock ≠ some gv := by
    intro e
    rcases hw with hw | hw
    · exact h.fil.off _ hmem gv rfl (by rw [← hw, e])
    · have := hw gv e; omega
  have hnew : ∀ (j : Nat) (hj : j < ys.length), j ≠ k → Apart ys[j].v y.v := fun j hj hjk b hb e => by
    rcases hw with hw | hw
    · have h1 : Apart ys[j].v ys[k].v := by
        rcases Nat.lt_or_gt_of_ne hjk with hlt | hgt
        · exact List.pairwise_iff_getElem.1 h.fil.apart j k hj hk hlt
        · exact (List.pairwise_iff_getElem.1 h.fil.apart k j hk hj hgt).symm
      exact h1 b hb (by rw [← hw, e])
    · have h1 := hw b e
      have h2 := h.lt b (h.fil.inF _ (List.getElem_mem hj) b hb)
      omega
  have hof : ∀ z ∈ ys.set k y, z = y ∨ ∃ (j : Nat) (hj : j < ys.length), j ≠ k ∧ z = ys[j] := fun z hz => by
    obtain ⟨j, hj, rfl⟩ := List.getElem_of_mem hz
    rw [List.length_set] at hj
    rw [List.getElem_set]
    by_cases e : k = j
    · rw [if_pos e]; exact .inl rfl
    · rw [if_neg e]; exact .inr ⟨j, hj, fun h => e h.symm, rfl⟩
  refine ⟨⟨?_, ⟨row, ?_, ?_, ?_, ?_, ?_⟩, h.vg, ?_, .inl h.inG, ?_⟩, hc⟩
  · exact c2.blk (c.blk h.blk (fun e => hyk e)) (fun e => hvg e.symm)
  · intro z hz
    rcases hof z hz with rfl | ⟨j, hj, hjk, rfl⟩
    · exact c2.ownB ow fun b hb e => hyv (by rw [hb, e])
    · refine c2.ownB (c.ownB (h.fil.data _ (List.getElem_mem hj)) fun b hb e => ?_) fun b hb e => ?_
      · rcases Nat.lt_or_gt_of_ne hjk with hlt | hgt
        · exact List.pairwise_iff_getElem.1 h.fil.apart j k hj hk hlt b hb e
        · exact (List.pairwise_iff_getElem.1 h.fil.apart k j hk hj hgt) b e hb
      · subst e
        exact h.fil.off _ (List.getElem_mem hj) b rfl hb
  · rw [List.pairwise_iff_getElem]
    intro i j hi hj hij
    rw [List.length_set] at hi hj
    rw [List.getElem_set, List.getElem_set]
    by_cases e1 : k = i
    · have e2 : ¬ k = j := by omega
      rw [if_pos e1, if_neg e2]
      exact (hnew j hj (by omega)).symm
    · rw [if_neg e1]
      by_cases e2 : k = j
      · rw [if_pos e2]; exact hnew i hi (by omega)
      · rw [if_neg e2]; exact List.pairwise_iff_getElem.1 h.fil.apart i j hi hj hij
  · intro z hz
    rcases hof z hz with rfl | ⟨j, hj, hjk, rfl⟩
    · intro b hb e; cases hb; exact hyv e
    · exact h.fil.off _ (List.getElem_mem hj)
  · exact fun b hb => .inl (h.fil.inV b hb)
  · intro z hz b hb
    rcases hof z hz with rfl | ⟨j, hj, hjk, rfl⟩
    · rcases hw with hw | hw
      · exact .inl (h.fil.inF _ hmem b (by rw [← hw, hb]))
      · exact .inr ⟨hw b hb, Nat.lt_of_lt_of_le (Own.lt ow b hb).2 c2.size⟩
    · exact .inl (h.fil.inF _ (List.getElem_mem hj) b hb)
  · intro z hz
    rcases hof z hz with rfl | ⟨j, hj, hjk, rfl⟩
    · exact hyg
    · exact h.yg _ (List.getElem_mem hj)
  · intro b hb
    rcases hb with hb | hb
    · exact Nat.lt_of_lt_of_le (h.lt b hb) hc.size
    · exact hb.2
theorem RefV.datas (h : RefV w F g v l o ys) : Datas w F g v ys := ⟨h.fil.data, h.fil.apart, h.fil.off, h.fil.inF, h.yg⟩
theorem RefV.at_ (h : RefV w F g v (.int .i64 d.left) (.bool d.off) ys) (hy : ys.map Ent.fil = d.fs) : RefAt w F g d := ⟨v, ys, h, hy⟩
theorem RefV.atFs {l' : List Fil} (h : RefV w F g v (.int .i64 d.left) (.bool d.off) ys) (hy : ys.map Ent.fil = l') : RefAt w F g { d with fs := l' } := ⟨v, ys, h, hy⟩
theorem RefAt.inG (h : RefAt w F g d) : F g := by obtain ⟨v, ys, h, _⟩ := h; exact h.inG
theorem RefAt.lt (h : RefAt w F g d) : ∀ k, F k → k < w.heap.size := by obtain ⟨v, ys, h, _⟩ := h; exact h.lt
theorem RefAt.chg (h : RefAt w F g d) (hc : Chg G w w') (hd : ∀ k, F k → ¬ G k) : RefAt w' F g d := by obtain ⟨v, ys, h, hy⟩ := h; exact ⟨v, ys, h.chg hc hd, hy⟩
theorem RefAt.ext (h : RefAt w F g d) (hb : Below w.heap.size w w') : RefAt w' F g d := by obtain ⟨v, ys, h, hy⟩ := h; exact ⟨v, ys, h.ext hb, hy⟩
theorem RefAt.mono (h : RefAt w F g d) (hg : ∀ k, F k → G k) (hl : ∀ k, G k → k < w.heap.size) : RefAt w G g d := by obtain ⟨v, ys, h, hy⟩ := h; exact ⟨v, ys, h.mono hg hl, hy⟩
theorem RefAt.ff (h : RefAt w1 F g d) (hs : w.heap.size ≤ w1.heap.size) : RefAt w1 (FF F w w1) g d := by obtain ⟨v, ys, h, hy⟩ := h; exact ⟨v, ys, h.ff hs, hy⟩
theorem RefV.seqU (h : RefV w2 (FF (FF F w w1) w1 w2) g v l o ys ∧ Chg (FF F w w1) w1 w2) (h0 : ∀ k, F k → k < w.heap.size) (c : Chg F w w1) : RefV w2 (FF F w w2) g v l o ys ∧ Chg F w w2 :=
  ⟨h.1.mono (fun k hk => FF.seq h.2.size c.size hk) (FF_lt h0 (Nat.le_trans c.size h.2.size)), c.seq h.2⟩
theorem RefV.extU (h : RefV w1 (FF F w w1) g v l o ys) (h0 : ∀ k, F k → k < w.heap.size) (hs : w.heap.size ≤ w1.heap.size) (hb : Below w1.heap.size w1 w2) : RefV w2 (FF F w w2) g v l o ys :=
  (h.ext hb).mono (fun k hk => by
    rcases hk with hk | hk
    · exact .inl hk
    · exact .inr ⟨hk.1, Nat.lt_of_lt_of_le hk.2 hb.size⟩) (FF_lt h0 (Nat.le_trans hs hb.size))
/-- a change of the document's disk that is under way -/
def UndR (w : World) (F : Nat → Prop) (g : Nat) (d : Dk) (w' : World) : Prop := RefAt w' (FF F w w') g d ∧ Chg F w w'
theorem UndR.start (h : RefAt w F g d) : UndR w F g d w := ⟨h.ff (Nat.le_refl _), Chg.refl _ _⟩
theorem UndR.step (h : UndR w F g d w1) (h0 : ∀ k, F k → k < w.heap.size) (h2 : UndR w1 (FF F w w1) g d' w2) : UndR w F g d' w2 :=
  ⟨h2.1.mono (fun _ hk => FF.seq h2.2.size h.2.size hk) (FF_lt h0 (Nat.le_trans h.2.size h2.2.size)), h.2.seq h2.2⟩
theorem UndR.ext (h : UndR w F g d w1) (h0 : ∀ k, F k → k < w.heap.size) (hb : Below w1.heap.size w1 w2) : UndR w F g d w2 :=
  h.step h0 ⟨(h.1.ext hb).ff hb.size, .of_below hb⟩
theorem UndR.drewN (h : UndR w F g d w1) (n : Nat) : UndR w F g d (w1.drewN n) := ⟨h.1.ext (below_drawn _ _ _), h.2.drewN n⟩
end
end Go.Proofs.Ytklopbjlpffnbaa
