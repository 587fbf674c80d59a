/- The disk lying open: what becomes of it when it is written. -/
import Derived.Test.YtgpgcnmnfnnkjaaDoorGStoreRuns10
set_option linter.unusedVariables false
set_option linter.unusedSimpArgs false
section
namespace Go.Proofs.YtgpgcnmnfnnkjaaDoor
open Go Go.RowKit Go.PlainAid

/-- the program's disk, open: its block, its row of files, their bytes -/
structure DiskV (w : World) (F : Nat → Prop) (g : Nat) (v o a l : Value) (ys : List Ent) : Prop where
 blk : Blk w g #[v, o, a, l] 58
 fil : Files w F 72 v ys
 vg : v.ownBlock ≠ some g
 yg : ∀ y ∈ ys, y.v.ownBlock ≠ some g
 inG : F g
 lt : ∀ k, F k → k < w.heap.size
/-- so much that sums stay small -/
structure OkD (d : Dk) : Prop where
 len : d.fs.length ≤ 1000000
 tot : totD d.fs ≤ 4194304
 kept : ∀ f ∈ d.fs, f.kept ≤ f.data.length
 lo : -1 ≤ d.left
 hi : d.left ≤ 9223372036854775807
section
variable {F G : Nat → Prop} {w w' w1 w2 : World} {g : Nat} {v o a l : Value} {ys zs : List Ent}
theorem DiskV.at_ {d : Dk} (h : DiskV w F g v (.bool d.off) (.bool (decide (0 ≤ d.left))) (.int .i64 (max d.left 0)) ys) (hy : ys.map Ent.fil = d.fs) : DiskAt w F g d := ⟨⟨v, ys, h.blk, h.fil, h.vg, h.yg, hy⟩, h.inG, h.lt⟩
theorem DiskAt.open_ {d : Dk} (h : DiskAt w F g d) : ∃ v ys, DiskV w F g v (.bool d.off) (.bool (decide (0 ≤ d.left))) (.int .i64 (max d.left 0)) ys ∧ ys.map Ent.fil = d.fs := by
 obtain ⟨⟨v, ys, h1, h2, h3, h4, h5⟩, h6, h7⟩ := h
 exact ⟨v, ys, ⟨h1, h2, h3, h4, h6, h7⟩, h5⟩
theorem DiskV.chg (h : DiskV w F g v o a l ys) (hc : Chg G w w') (hd : ∀ k, F k → ¬ G k) : DiskV w' F g v o a l ys :=
 ⟨hc.blk h.blk (hd g h.inG), h.fil.chg hc hd, h.vg, h.yg, h.inG, fun k hk => Nat.lt_of_lt_of_le (h.lt k hk) hc.size⟩
theorem DiskV.ext (h : DiskV w F g v o a l ys) (hb : Below w.heap.size w w') : DiskV w' F g v o a l ys := h.chg (G := fun _ => False) (.of_below hb) fun _ _ h => h
theorem DiskV.drew (h : DiskV w F g v o a l ys) : DiskV w.drew F g v o a l ys := h.ext ((Below.refl _ _).drew)
theorem DiskV.drewN (h : DiskV w F g v o a l ys) (n : Nat) : DiskV (w.drewN n) F g v o a l ys := h.ext (below_drawn _ _ _)
theorem DiskV.mono (h : DiskV w F g v o a l ys) (hg : ∀ k, F k → G k) (hl : ∀ k, G k → k < w.heap.size) : DiskV w G g v o a l ys := ⟨h.blk, h.fil.mono hg, h.vg, h.yg, hg g h.inG, hl⟩
theorem DiskV.ff (h : DiskV w1 F g v o a l ys) (hs : w.heap.size ≤ w1.heap.size) : DiskV w1 (FF F w w1) g v o a l ys := h.mono (fun _ => .inl) fun k hk => by
 rcases hk with h' | h'
 · exact h.lt k h'
 · exact h'.2
theorem DiskV.len_eq {d : Dk} (hy : ys.map Ent.fil = d.fs) : ys.length = d.fs.length := by rw [← hy, List.length_map]
/-- a store into the disk's own block beside the row of files -/
theorem DiskV.setCell (h : DiskV w F g v o a l ys) (i : Nat) (u : Value) {o' a' l' : Value} (he : (#[v, o, a, l] : Array Value).setIfInBounds i u = #[v, o', a', l']) :
 DiskV (w.setCell ⟨g, i, none⟩ u) F g v o' a' l' ys ∧ Chg (fun k => k = g) w (w.setCell ⟨g, i, none⟩ u) := by
 have hc : Chg (fun k => k = g) w (w.setCell ⟨g, i, none⟩ u) := Chg.setCell (F := fun k => k = g) (Chg.refl _ w) (p := ⟨g, i, none⟩) rfl u
 have hb := h.blk.set i u
 rw [he] at hb
 refine ⟨⟨hb, ⟨?_, ?_, h.fil.apart, h.fil.off, h.fil.inV, h.fil.inF⟩, h.vg, h.yg, h.inG, fun k hk => Nat.lt_of_lt_of_le (h.lt k hk) hc.size⟩, hc⟩
 · exact hc.ownR h.fil.row fun k hk e => h.vg (by rw [hk, e])
 · exact fun y hy => hc.ownB (h.fil.data y hy) fun k hk e => h.yg y hy (by rw [hk, e])
/-- what a row of files wants beside itself -/
structure Datas (w : World) (F : Nat → Prop) (g : Nat) (v : Value) (zs : List Ent) : Prop where
 data : ∀ y ∈ zs, OwnB w 0 5 y.v y.data
 apart : zs.Pairwise (fun a b => Apart a.v b.v)
 off : ∀ y ∈ zs, Apart v y.v
 inF : ∀ y ∈ zs, ∀ k, y.v.ownBlock = some k → F k
 yg : ∀ y ∈ zs, y.v.ownBlock ≠ some g
theorem DiskV.datas (h : DiskV w F g v o a l ys) : Datas w F g v ys := ⟨h.fil.data, h.fil.apart, h.fil.off, h.fil.inF, h.yg⟩
theorem Datas.sub (h : Datas w F g v ys) (hs : zs.Sublist ys) : Datas w F g v zs :=
 ⟨fun y hy => h.data y (hs.subset hy), h.apart.sublist hs, fun y hy => h.off y (hs.subset hy), fun y hy => h.inF y (hs.subset hy), fun y hy => h.yg y (hs.subset hy)⟩
theorem Datas.ins (h : Datas w F g v ys) {y : Ent} (k : Nat) (h1 : OwnB w 0 5 y.v y.data) (h2 : ∀ x ∈ ys, Apart y.v x.v) (h3 : Apart v y.v) (h4 : ∀ k, y.v.ownBlock = some k → F k) (h5 : y.v.ownBlock ≠ some g) : Datas w F g v (ys.take k ++ y :: ys.drop k) := by
 have hm : ∀ x, x ∈ ys.take k ++ y :: ys.drop k → x = y ∨ x ∈ ys := fun x hx => by
  rcases List.mem_append.1 hx with hx | hx
  · exact .inr (List.mem_of_mem_take hx)
  · rcases List.mem_cons.1 hx with hx | hx
    · exact .inl hx
    · exact .inr (List.mem_of_mem_drop hx)
 refine ⟨fun x hx => ?_, ?_, fun x hx => ?_, fun x hx => ?_, fun x hx => ?_⟩
 · rcases hm x hx with rfl | hx
   · exact h1
   · exact h.data x hx
 · have hp := h.apart
   rw [← List.take_append_drop k ys, List.pairwise_append] at hp
   rw [List.pairwise_append]
   refine ⟨hp.1, ?_, fun x hx z hz => ?_⟩
   · rw [List.pairwise_cons]
     exact ⟨fun z hz => h2 z (List.mem_of_mem_drop hz), hp.2.1⟩
   · rcases List.mem_cons.1 hz with rfl | hz
     · exact (h2 x (List.mem_of_mem_take hx)).symm
     · exact hp.2.2 x hx z hz
 · rcases hm x hx with rfl | hx
   · exact h3
   · exact h.off x hx
 · rcases hm x hx with rfl | hx
   · exact h4
   · exact h.inF x hx
 · rcases hm x hx with rfl | hx
   · exact h5
   · exact h.yg x hx
/-- another row of files is stored -/
theorem DiskV.putRow (h : DiskV w F g v o a l ys) (hg : w.grownBy w1 v.ownBlock) {v1 : Value} (own : OwnR entE w1 0 72 v1 zs) (hv : v1.ownBlock = v.ownBlock ∨ ∀ n, v1.ownBlock = some n → w.heap.size ≤ n) (hz : Datas w F g v zs) :
 DiskV (w1.setCell ⟨g, 0, none⟩ v1) (FF F w (w1.setCell ⟨g, 0, none⟩ v1)) g v1 o a l zs ∧ Chg F w (w1.setCell ⟨g, 0, none⟩ v1) := by
 have c1 : Chg F w w1 := .of_grown hg h.fil.inV
 have hc : Chg F w (w1.setCell ⟨g, 0, none⟩ v1) := c1.setCell h.inG v1
 have hs : (w1.setCell ⟨g, 0, none⟩ v1).heap.size = w1.heap.size := by simp [World.setCell]
 have hb1 : Blk w1 g #[v, o, a, l] 58 := h.blk.grown hg h.vg
 have hgl : g < w.heap.size := h.lt g h.inG
 have hv1g : v1.ownBlock ≠ some g := by
  intro e
  rcases hv with hv | hv
  · exact h.vg (by rw [← hv, e])
  · have := hv g e; omega
 have hcg : Chg (fun k => k = g) w1 (w1.setCell ⟨g, 0, none⟩ v1) := Chg.setCell (F := fun k => k = g) (Chg.refl _ w1) (p := ⟨g, 0, none⟩) rfl v1
 refine ⟨⟨hb1.set 0 v1, ⟨?_, ?_, hz.apart, ?_, ?_, ?_⟩, hv1g, hz.yg, .inl h.inG, ?_⟩, hc⟩
 · exact hcg.ownR own fun k hk e => hv1g (by rw [hk, e])
 · intro y hy
   refine hcg.ownB ?_ fun k hk e => hz.yg y hy (by rw [hk, e])
   refine Own.grown (hz.data y hy) hg ?_
   cases hq : y.v.ownBlock with
   | none => exact .inl rfl
   | some k => exact .inr fun e => (hz.off y hy).symm k hq e.symm
 · intro y hy k hk
   rcases hv with hv | hv
   · exact hz.off y hy k (by rw [← hv, hk])
   · intro e
     have h1 := hv k hk
     have h2 := h.lt k (hz.inF y hy k e)
     omega
 · intro k hk
   rcases hv with hv | hv
   · exact .inl (h.fil.inV k (by rw [← hv, hk]))
   · exact .inr ⟨hv k hk, by rw [hs]; exact (OwnR.lt own k hk).2⟩
 · exact fun y hy k hk => .inl (hz.inF y hy k hk)
 · intro k hk
   rcases hk with hk | hk
   · exact Nat.lt_of_lt_of_le (h.lt k hk) hc.size
   · exact hk.2
/-- one file is another: its bytes are written, or lie anew -/
theorem DiskV.setEnt {gv n cap : Nat} (h : DiskV w F g (.slice (some ⟨gv, 0, none⟩) n cap) o a l ys) {k : Nat} (hk : k < ys.length) {y : Ent} (c : Chg (fun b => ys[k].v.ownBlock = some b) w w1) (ow : OwnB w1 0 5 y.v y.data)
 (hw : y.v.ownBlock = ys[k].v.ownBlock ∨ ∀ n, y.v.ownBlock = some n → w.heap.size ≤ n) (row : OwnR entE w2 0 72 (.slice (some ⟨gv, 0, none⟩) n cap) (ys.set k y)) (hg : w1.grownBy w2 (some gv)) :
 DiskV w2 (FF F w w2) g (.slice (some ⟨gv, 0, none⟩) n cap) o a l (ys.set k y) ∧ Chg F w w2 := by
 have hmem : ys[k] ∈ ys := List.getElem_mem hk
 have c1 : Chg F w w1 := c.mono fun b _ hb => h.fil.inF _ hmem b hb
 have c2 : Chg (fun b => b = gv) w1 w2 := .of_grown hg fun b hb => by cases hb; rfl
 have hFv : F gv := h.fil.inV gv rfl
 have hc : Chg F w w2 := c1.trans c2 fun b _ hb => by rw [hb]; exact hFv
 have hgl : g < w.heap.size := h.lt g h.inG
 have hgvl : gv < w.heap.size := h.lt gv hFv
 have hvg : gv ≠ g := fun e => h.vg (by rw [e]; rfl)
 have hyk := h.yg _ hmem
 have hyg : y.v.ownBlock ≠ some g := by
  intro e
  rcases hw with hw | hw
  · exact hyk (by rw [← hw, e])
  · have := hw g e; omega
 have hyv : y.v.ownBlock ≠ some gv := by
  intro e
  rcases hw with hw | hw
  · exact h.fil.off _ hmem gv rfl (by rw [← hw, e])
  · have := hw gv e; omega
 have hnew : ∀ (j : Nat) (hj : j < ys.length), j ≠ k → Apart ys[j].v y.v := fun j hj hjk b hb e => by
  rcases hw with hw | hw
  · have h1 : Apart ys[j].v ys[k].v := by
     rcases Nat.lt_or_gt_of_ne hjk with hlt | hgt
     · exact List.pairwise_iff_getElem.1 h.fil.apart j k hj hk hlt
     · exact (List.pairwise_iff_getElem.1 h.fil.apart k j hk hj hgt).symm
    exact h1 b hb (by rw [← hw, e])
  · have h1 := hw b e
    have h2 := h.lt b (h.fil.inF _ (List.getElem_mem hj) b hb)
    omega
 have hof : ∀ z ∈ ys.set k y, z = y ∨ ∃ (j : Nat) (hj : j < ys.length), j ≠ k ∧ z = ys[j] := fun z hz => by
  obtain ⟨j, hj, rfl⟩ := List.getElem_of_mem hz
  rw [List.length_set] at hj
  rw [List.getElem_set]
  by_cases e : k = j
  · rw [if_pos e]; exact .inl rfl
  · rw [if_neg e]; exact .inr ⟨j, hj, fun h => e h.symm, rfl⟩
 refine ⟨⟨?_, ⟨row, ?_, ?_, ?_, ?_, ?_⟩, h.vg, ?_, .inl h.inG, ?_⟩, hc⟩
 · exact c2.blk (c.blk h.blk (fun e => hyk e)) (fun e => hvg e.symm)
 · intro z hz
   rcases hof z hz with rfl | ⟨j, hj, hjk, rfl⟩
   · exact c2.ownB ow fun b hb e => hyv (by rw [hb, e])
   · refine c2.ownB (c.ownB (h.fil.data _ (List.getElem_mem hj)) fun b hb e => ?_) fun b hb e => ?_
     · rcases Nat.lt_or_gt_of_ne hjk with hlt | hgt
       · exact List.pairwise_iff_getElem.1 h.fil.apart j k hj hk hlt b hb e
       · exact (List.pairwise_iff_getElem.1 h.fil.apart k j hk hj hgt) b e hb
     · subst e
       exact h.fil.off _ (List.getElem_mem hj) b rfl hb
 · rw [List.pairwise_iff_getElem]
   intro i j hi hj hij
   rw [List.length_set] at hi hj
   rw [List.getElem_set, List.getElem_set]
   by_cases e1 : k = i
   · have e2 : ¬ k = j := by omega
     rw [if_pos e1, if_neg e2]
     exact (hnew j hj (by omega)).symm
   · rw [if_neg e1]
     by_cases e2 : k = j
     · rw [if_pos e2]; exact hnew i hi (by omega)
     · rw [if_neg e2]; exact List.pairwise_iff_getElem.1 h.fil.apart i j hi hj hij
 · intro z hz
   rcases hof z hz with rfl | ⟨j, hj, hjk, rfl⟩
   · intro b hb e; cases hb; exact hyv e
   · exact h.fil.off _ (List.getElem_mem hj)
 · exact fun b hb => .inl (h.fil.inV b hb)
 · intro z hz b hb
   rcases hof z hz with rfl | ⟨j, hj, hjk, rfl⟩
   · rcases hw with hw | hw
     · exact .inl (h.fil.inF _ hmem b (by rw [← hw, hb]))
     · exact .inr ⟨hw b hb, Nat.lt_of_lt_of_le (Own.lt ow b hb).2 c2.size⟩
   · exact .inl (h.fil.inF _ (List.getElem_mem hj) b hb)
 · intro z hz
   rcases hof z hz with rfl | ⟨j, hj, hjk, rfl⟩
   · exact hyg
   · exact h.yg _ (List.getElem_mem hj)
 · intro b hb
   rcases hb with hb | hb
   · exact Nat.lt_of_lt_of_le (h.lt b hb) hc.size
   · exact hb.2
end
/-- where a row of which p holds at the beginning alone changes -/
theorem takeWhile_at {α : Type} {p : α → Bool} {l : List α} {k : Nat} (hk : k ≤ l.length) (h1 : ∀ i (h : i < l.length), i < k → p l[i] = true) (h2 : ∀ h : k < l.length, p l[k] = false) : (l.takeWhile p).length = k := by
 induction l generalizing k with
 | nil => simp at hk; simp [hk]
 | cons x r ih =>
  cases k with
  | zero =>
   have := h2 (by simp)
   simp only [List.getElem_cons_zero] at this
   rw [List.takeWhile_cons, this]; rfl
  | succ k =>
   have h0 := h1 0 (by simp) (by omega)
   simp only [List.getElem_cons_zero] at h0
   rw [List.takeWhile_cons, h0]
   simp only [if_true, List.length_cons]
   rw [ih (by simpa using hk) (fun i h hi => h1 (i + 1) (by simpa using h) (by omega)) (fun h => h2 (by simpa using h))]
theorem posD_at {l : List Fil} {s : ByteArray} {k : Nat} (hk : k ≤ l.length) (h1 : ∀ i (h : i < l.length), i < k → ltS l[i].name s = true) (h2 : ∀ h : k < l.length, ltS l[k].name s = false) : posD l s = k :=
 takeWhile_at hk h1 h2
theorem fil_get {ys : List Ent} {k : Nat} (h : k < (ys.map Ent.fil).length) : (ys.map Ent.fil)[k] = (ys[k]'(by simpa using h)).fil := by simp
theorem totD_cons (f : Fil) (l : List Fil) : totD (f :: l) = f.data.length + totD l := by simp [totD]
theorem totD_append (l m : List Fil) : totD (l ++ m) = totD l + totD m := by simp [totD, List.sum_append]
theorem totD_take {l : List Fil} {k : Nat} (h : k < l.length) : totD (l.take (k + 1)) = totD (l.take k) + l[k].data.length := by
 rw [List.take_succ_eq_append_getElem h, totD_append]; simp [totD]
theorem totD_take_le (l : List Fil) (k : Nat) : totD (l.take k) ≤ totD l := by
 have h := totD_append (l.take k) (l.drop k)
 rw [List.take_append_drop] at h; omega
theorem totD_mem {l : List Fil} {f : Fil} (h : f ∈ l) : f.data.length ≤ totD l := by
 induction l with
 | nil => simp at h
 | cons x r ih =>
  rw [totD_cons]
  rcases List.mem_cons.1 h with rfl | h
  · omega
  · have := ih h; omega
end Go.Proofs.YtgpgcnmnfnnkjaaDoor
end
