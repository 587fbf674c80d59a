/- The disk lying open: what becomes of it when it is written. The walk of slices.Insert at disk.file: a slice of the call's own, one element. What the walks of slices.Delete share: one element out of a row of the call's own. -/
import Derived.Test.YtgpgcnmnfnnkjaaGreatDoorGStoreKeeps9
import Derived.Test.YtgpgcnmnfnnkjaaGreatDoorGStoreKeeps7
import Derived.Deep.RegionLaw
set_option linter.unusedVariables false
set_option linter.unusedSimpArgs false
section
namespace Go.Proofs.YtgpgcnmnfnnkjaaGreatDoor
open Go Go.RowKit Go.PlainAid

structure DiskV (w : World) (F : Nat → Prop) (g : Nat) (v o a l : Value) (ys : List Ent) : Prop where
 blk : Blk w g #[v, o, a, l] 90
 fil : Files w F 96 v ys
 vg : v.ownBlock ≠ some g
 yg : ∀ y ∈ ys, y.v.ownBlock ≠ some g
 inG : F g
 lt : ∀ k, F k → k < w.heap.size
structure OkD (d : Dk) : Prop where
 len : d.fs.length ≤ 1000000
 tot : totD d.fs ≤ 4194304
 kept : ∀ f ∈ d.fs, f.kept ≤ f.data.length
 lo : -1 ≤ d.left
 hi : d.left ≤ 9223372036854775807
section
variable {F G : Nat → Prop} {w w' w1 w2 : World} {g : Nat} {v o a l : Value} {ys zs : List Ent}
theorem DiskV.at_ {d : Dk} (h : DiskV w F g v (.bool d.off) (.bool (decide (0 ≤ d.left))) (.int .i64 (max d.left 0)) ys) (hy : ys.map Ent.fil = d.fs) : DiskAt w F g d := ⟨⟨v, ys, h.blk, h.fil, h.vg, h.yg, hy⟩, h.inG, h.lt⟩
theorem DiskAt.open_ {d : Dk} (h : DiskAt w F g d) : ∃ v ys, DiskV w F g v (.bool d.off) (.bool (decide (0 ≤ d.left))) (.int .i64 (max d.left 0)) ys ∧ ys.map Ent.fil = d.fs := by
 obtain ⟨⟨v, ys, h1, h2, h3, h4, h5⟩, h6, h7⟩ := h
 exact ⟨v, ys, ⟨h1, h2, h3, h4, h6, h7⟩, h5⟩
theorem DiskV.chg (h : DiskV w F g v o a l ys) (hc : Chg G w w') (hd : ∀ k, F k → ¬ G k) : DiskV w' F g v o a l ys :=
 ⟨hc.blk h.blk (hd g h.inG), h.fil.chg hc hd, h.vg, h.yg, h.inG, fun k hk => Nat.lt_of_lt_of_le (h.lt k hk) hc.size⟩
theorem DiskV.ext (h : DiskV w F g v o a l ys) (hb : Below w.heap.size w w') : DiskV w' F g v o a l ys := h.chg (G := fun _ => False) (.of_below hb) fun _ _ h => h
theorem DiskV.drew (h : DiskV w F g v o a l ys) : DiskV w.drew F g v o a l ys := h.ext ((Below.refl _ _).drew)
theorem DiskV.drewN (h : DiskV w F g v o a l ys) (n : Nat) : DiskV (w.drewN n) F g v o a l ys := h.ext (below_drawn _ _ _)
theorem DiskV.mono (h : DiskV w F g v o a l ys) (hg : ∀ k, F k → G k) (hl : ∀ k, G k → k < w.heap.size) : DiskV w G g v o a l ys := ⟨h.blk, h.fil.mono hg, h.vg, h.yg, hg g h.inG, hl⟩
theorem DiskV.ff (h : DiskV w1 F g v o a l ys) (hs : w.heap.size ≤ w1.heap.size) : DiskV w1 (FF F w w1) g v o a l ys := h.mono (fun _ => .inl) fun k hk => by
 rcases hk with h' | h'
 · exact h.lt k h'
 · exact h'.2
theorem DiskV.len_eq {d : Dk} (hy : ys.map Ent.fil = d.fs) : ys.length = d.fs.length := by rw [← hy, List.length_map]
theorem DiskV.setCell (h : DiskV w F g v o a l ys) (i : Nat) (u : Value) {o' a' l' : Value} (he : (#[v, o, a, l] : Array Value).setIfInBounds i u = #[v, o', a', l']) :
 DiskV (w.setCell ⟨g, i, none⟩ u) F g v o' a' l' ys ∧ Chg (fun k => k = g) w (w.setCell ⟨g, i, none⟩ u) := by
 have hc : Chg (fun k => k = g) w (w.setCell ⟨g, i, none⟩ u) := Chg.setCell (F := fun k => k = g) (Chg.refl _ w) (p := ⟨g, i, none⟩) rfl u
 have hb := h.blk.set i u
 rw [he] at hb
 refine ⟨⟨hb, ⟨?_, ?_, h.fil.apart, h.fil.off, h.fil.inV, h.fil.inF⟩, h.vg, h.yg, h.inG, fun k hk => Nat.lt_of_lt_of_le (h.lt k hk) hc.size⟩, hc⟩
 · exact hc.ownR h.fil.row fun k hk e => h.vg (by rw [hk, e])
 · exact fun y hy => hc.ownB (h.fil.data y hy) fun k hk e => h.yg y hy (by rw [hk, e])
structure Datas (w : World) (F : Nat → Prop) (g : Nat) (v : Value) (zs : List Ent) : Prop where
 data : ∀ y ∈ zs, OwnB w 0 5 y.v y.data
 apart : zs.Pairwise (fun a b => Apart a.v b.v)
 off : ∀ y ∈ zs, Apart v y.v
 inF : ∀ y ∈ zs, ∀ k, y.v.ownBlock = some k → F k
 yg : ∀ y ∈ zs, y.v.ownBlock ≠ some g
theorem DiskV.datas (h : DiskV w F g v o a l ys) : Datas w F g v ys := ⟨h.fil.data, h.fil.apart, h.fil.off, h.fil.inF, h.yg⟩
theorem Datas.sub (h : Datas w F g v ys) (hs : zs.Sublist ys) : Datas w F g v zs :=
 ⟨fun y hy => h.data y (hs.subset hy), h.apart.sublist hs, fun y hy => h.off y (hs.subset hy), fun y hy => h.inF y (hs.subset hy), fun y hy => h.yg y (hs.subset hy)⟩
theorem Datas.ins (h : Datas w F g v ys) {y : Ent} (k : Nat) (h1 : OwnB w 0 5 y.v y.data) (h2 : ∀ x ∈ ys, Apart y.v x.v) (h3 : Apart v y.v) (h4 : ∀ k, y.v.ownBlock = some k → F k) (h5 : y.v.ownBlock ≠ some g) : Datas w F g v (ys.take k ++ y :: ys.drop k) := by
 have hm : ∀ x, x ∈ ys.take k ++ y :: ys.drop k → x = y ∨ x ∈ ys := fun x hx => by
  rcases List.mem_append.1 hx with hx | hx
  · exact .inr (List.mem_of_mem_take hx)
  · rcases List.mem_cons.1 hx with hx | hx
    · exact .inl hx
    · exact .inr (List.mem_of_mem_drop hx)
 refine ⟨fun x hx => ?_, ?_, fun x hx => ?_, fun x hx => ?_, fun x hx => ?_⟩
 · rcases hm x hx with rfl | hx
   · exact h1
   · exact h.data x hx
 · have hp := h.apart
   rw [← List.take_append_drop k ys, List.pairwise_append] at hp
   rw [List.pairwise_append]
   refine ⟨hp.1, ?_, fun x hx z hz => ?_⟩
   · rw [List.pairwise_cons]
     exact ⟨fun z hz => h2 z (List.mem_of_mem_drop hz), hp.2.1⟩
   · rcases List.mem_cons.1 hz with rfl | hz
     · exact (h2 x (List.mem_of_mem_take hx)).symm
     · exact hp.2.2 x hx z hz
 · rcases hm x hx with rfl | hx
   · exact h3
   · exact h.off x hx
 · rcases hm x hx with rfl | hx
   · exact h4
   · exact h.inF x hx
 · rcases hm x hx with rfl | hx
   · exact h5
   · exact h.yg x hx
theorem DiskV.putRow (h : DiskV w F g v o a l ys) (hg : w.grownBy w1 v.ownBlock) {v1 : Value} (own : OwnR entE w1 0 96 v1 zs) (hv : v1.ownBlock = v.ownBlock ∨ ∀ n, v1.ownBlock = some n → w.heap.size ≤ n) (hz : Datas w F g v zs) :
 DiskV (w1.setCell ⟨g, 0, none⟩ v1) (FF F w (w1.setCell ⟨g, 0, none⟩ v1)) g v1 o a l zs ∧ Chg F w (w1.setCell ⟨g, 0, none⟩ v1) := by
 have c1 : Chg F w w1 := .of_grown hg h.fil.inV
 have hc : Chg F w (w1.setCell ⟨g, 0, none⟩ v1) := c1.setCell h.inG v1
 have hs : (w1.setCell ⟨g, 0, none⟩ v1).heap.size = w1.heap.size := by simp [World.setCell]
 have hb1 : Blk w1 g #[v, o, a, l] 90 := h.blk.grown hg h.vg
 have hgl : g < w.heap.size := h.lt g h.inG
 have hv1g : v1.ownBlock ≠ some g := by
  intro e
  rcases hv with hv | hv
  · exact h.vg (by rw [← hv, e])
  · have := hv g e; omega
 have hcg : Chg (fun k => k = g) w1 (w1.setCell ⟨g, 0, none⟩ v1) := Chg.setCell (F := fun k => k = g) (Chg.refl _ w1) (p := ⟨g, 0, none⟩) rfl v1
 refine ⟨⟨hb1.set 0 v1, ⟨?_, ?_, hz.apart, ?_, ?_, ?_⟩, hv1g, hz.yg, .inl h.inG, ?_⟩, hc⟩
 · exact hcg.ownR own fun k hk e => hv1g (by rw [hk, e])
 · intro y hy
   refine hcg.ownB ?_ fun k hk e => hz.yg y hy (by rw [hk, e])
   refine Own.grown (hz.data y hy) hg ?_
   cases hq : y.v.ownBlock with
   | none => exact .inl rfl
   | some k => exact .inr fun e => (hz.off y hy).symm k hq e.symm
 · intro y hy k hk
   rcases hv with hv | hv
   · exact hz.off y hy k (by rw [← hv, hk])
   · intro e
     have h1 := hv k hk
     have h2 := h.lt k (hz.inF y hy k e)
     omega
 · intro k hk
   rcases hv with hv | hv
   · exact .inl (h.fil.inV k (by rw [← hv, hk]))
   · exact .inr ⟨hv k hk, by rw [hs]; exact (OwnR.lt own k hk).2⟩
 · exact fun y hy k hk => .inl (hz.inF y hy k hk)
 · intro k hk
   rcases hk with hk | hk
   · exact Nat.lt_of_lt_of_le (h.lt k hk) hc.size
   · exact hk.2
theorem DiskV.setEnt {gv n cap : Nat} (h : DiskV w F g (.slice (some ⟨gv, 0, none⟩) n cap) o a l ys) {k : Nat} (hk : k < ys.length) {y : Ent} (c : Chg (fun b => ys[k].v.ownBlock = some b) w w1) (ow : OwnB w1 0 5 y.v y.data)
 (hw : y.v.ownBlock = ys[k].v.ownBlock ∨ ∀ n, y.v.ownBlock = some n → w.heap.size ≤ n) (row : OwnR entE w2 0 96 (.slice (some ⟨gv, 0, none⟩) n cap) (ys.set k y)) (hg : w1.grownBy w2 (some gv)) :
 DiskV w2 (FF F w w2) g (.slice (some ⟨gv, 0, none⟩) n cap) o a l (ys.set k y) ∧ Chg F w w2 := by
 have hmem : ys[k] ∈ ys := List.getElem_mem hk
 have c1 : Chg F w w1 := c.mono fun b _ hb => h.fil.inF _ hmem b hb
 have c2 : Chg (fun b => b = gv) w1 w2 := .of_grown hg fun b hb => by cases hb; rfl
 have hFv : F gv := h.fil.inV gv rfl
 have hc : Chg F w w2 := c1.trans c2 fun b _ hb => by rw [hb]; exact hFv
 have hgl : g < w.heap.size := h.lt g h.inG
 have hgvl : gv < w.heap.size := h.lt gv hFv
 have hvg : gv ≠ g := fun e => h.vg (by rw [e]; rfl)
 have hyk := h.yg _ hmem
 have hyg : y.v.ownBlock ≠ some g := by
  intro e
  rcases hw with hw | hw
  · exact hyk (by rw [← hw, e])
  · have := hw g e; omega
 have hyv : y.v.ownBlock ≠ some gv := by
  intro e
  rcases hw with hw | hw
  · exact h.fil.off _ hmem gv rfl (by rw [← hw, e])
  · have := hw gv e; omega
 have hnew : ∀ (j : Nat) (hj : j < ys.length), j ≠ k → Apart ys[j].v y.v := fun j hj hjk b hb e => by
  rcases hw with hw | hw
  · have h1 : Apart ys[j].v ys[k].v := by
     rcases Nat.lt_or_gt_of_ne hjk with hlt | hgt
     · exact List.pairwise_iff_getElem.1 h.fil.apart j k hj hk hlt
     · exact (List.pairwise_iff_getElem.1 h.fil.apart k j hk hj hgt).symm
    exact h1 b hb (by rw [← hw, e])
  · have h1 := hw b e
    have h2 := h.lt b (h.fil.inF _ (List.getElem_mem hj) b hb)
    omega
 have hof : ∀ z ∈ ys.set k y, z = y ∨ ∃ (j : Nat) (hj : j < ys.length), j ≠ k ∧ z = ys[j] := fun z hz => by
  obtain ⟨j, hj, rfl⟩ := List.getElem_of_mem hz
  rw [List.length_set] at hj
  rw [List.getElem_set]
  by_cases e : k = j
  · rw [if_pos e]; exact .inl rfl
  · rw [if_neg e]; exact .inr ⟨j, hj, fun h => e h.symm, rfl⟩
 refine ⟨⟨?_, ⟨row, ?_, ?_, ?_, ?_, ?_⟩, h.vg, ?_, .inl h.inG, ?_⟩, hc⟩
 · exact c2.blk (c.blk h.blk (fun e => hyk e)) (fun e => hvg e.symm)
 · intro z hz
   rcases hof z hz with rfl | ⟨j, hj, hjk, rfl⟩
   · exact c2.ownB ow fun b hb e => hyv (by rw [hb, e])
   · refine c2.ownB (c.ownB (h.fil.data _ (List.getElem_mem hj)) fun b hb e => ?_) fun b hb e => ?_
     · rcases Nat.lt_or_gt_of_ne hjk with hlt | hgt
       · exact List.pairwise_iff_getElem.1 h.fil.apart j k hj hk hlt b hb e
       · exact (List.pairwise_iff_getElem.1 h.fil.apart k j hk hj hgt) b e hb
     · subst e
       exact h.fil.off _ (List.getElem_mem hj) b rfl hb
 · rw [List.pairwise_iff_getElem]
   intro i j hi hj hij
   rw [List.length_set] at hi hj
   rw [List.getElem_set, List.getElem_set]
   by_cases e1 : k = i
   · have e2 : ¬ k = j := by omega
     rw [if_pos e1, if_neg e2]
     exact (hnew j hj (by omega)).symm
   · rw [if_neg e1]
     by_cases e2 : k = j
     · rw [if_pos e2]; exact hnew i hi (by omega)
     · rw [if_neg e2]; exact List.pairwise_iff_getElem.1 h.fil.apart i j hi hj hij
 · intro z hz
   rcases hof z hz with rfl | ⟨j, hj, hjk, rfl⟩
   · intro b hb e; cases hb; exact hyv e
   · exact h.fil.off _ (List.getElem_mem hj)
 · exact fun b hb => .inl (h.fil.inV b hb)
 · intro z hz b hb
   rcases hof z hz with rfl | ⟨j, hj, hjk, rfl⟩
   · rcases hw with hw | hw
     · exact .inl (h.fil.inF _ hmem b (by rw [← hw, hb]))
     · exact .inr ⟨hw b hb, Nat.lt_of_lt_of_le (Own.lt ow b hb).2 c2.size⟩
   · exact .inl (h.fil.inF _ (List.getElem_mem hj) b hb)
 · intro z hz
   rcases hof z hz with rfl | ⟨j, hj, hjk, rfl⟩
   · exact hyg
   · exact h.yg _ (List.getElem_mem hj)
 · intro b hb
   rcases hb with hb | hb
   · exact Nat.lt_of_lt_of_le (h.lt b hb) hc.size
   · exact hb.2
end
theorem takeWhile_at {α : Type} {p : α → Bool} {l : List α} {k : Nat} (hk : k ≤ l.length) (h1 : ∀ i (h : i < l.length), i < k → p l[i] = true) (h2 : ∀ h : k < l.length, p l[k] = false) : (l.takeWhile p).length = k := by
 induction l generalizing k with
 | nil => simp at hk; simp [hk]
 | cons x r ih =>
  cases k with
  | zero =>
   have := h2 (by simp)
   simp only [List.getElem_cons_zero] at this
   rw [List.takeWhile_cons, this]; rfl
  | succ k =>
   have h0 := h1 0 (by simp) (by omega)
   simp only [List.getElem_cons_zero] at h0
   rw [List.takeWhile_cons, h0]
   simp only [if_true, List.length_cons]
   rw [ih (by simpa using hk) (fun i h hi => h1 (i + 1) (by simpa using h) (by omega)) (fun h => h2 (by simpa using h))]
theorem posD_at {l : List Fil} {s : ByteArray} {k : Nat} (hk : k ≤ l.length) (h1 : ∀ i (h : i < l.length), i < k → ltS l[i].name s = true) (h2 : ∀ h : k < l.length, ltS l[k].name s = false) : posD l s = k :=
 takeWhile_at hk h1 h2
theorem fil_get {ys : List Ent} {k : Nat} (h : k < (ys.map Ent.fil).length) : (ys.map Ent.fil)[k] = (ys[k]'(by simpa using h)).fil := by simp
theorem totD_cons (f : Fil) (l : List Fil) : totD (f :: l) = f.data.length + totD l := by simp [totD]
theorem totD_append (l m : List Fil) : totD (l ++ m) = totD l + totD m := by simp [totD, List.sum_append]
theorem totD_take {l : List Fil} {k : Nat} (h : k < l.length) : totD (l.take (k + 1)) = totD (l.take k) + l[k].data.length := by
 rw [List.take_succ_eq_append_getElem h, totD_append]; simp [totD]
theorem totD_take_le (l : List Fil) (k : Nat) : totD (l.take k) ≤ totD l := by
 have h := totD_append (l.take k) (l.drop k)
 rw [List.take_append_drop] at h; omega
theorem totD_mem {l : List Fil} {f : Fil} (h : f ∈ l) : f.data.length ≤ totD l := by
 induction l with
 | nil => simp at h
 | cons x r ih =>
  rw [totD_cons]
  rcases List.mem_cons.1 h with rfl | h
  · omega
  · have := ih h; omega
end Go.Proofs.YtgpgcnmnfnnkjaaGreatDoor
end

section
namespace Go.Proofs.YtgpgcnmnfnnkjaaGreatDoor
open Go Go.RowKit

set_option maxHeartbeats 2000000 in
theorem insFil_end (B : Nat) (v : Value) (l : List Ent) (x : Ent) (w : World) (own : OwnR entE w B 96 v l) (vx : Value) (hx : Rd entE w vx [x])
 (hbytes : (l.length + 1) * 48 ≤ 140737488355328) (hB : B ≤ w.heap.size) :
 Calls Tryz.prog 95 #[v, .int .i64 (l.length : Int), vx] w fun e w' =>
  ∃ v', e = .returned v' ∧ OwnR entE w' B 96 v' (l ++ [x]) ∧ w.grownBy w' v.ownBlock ∧ Below B w w' ∧ (v'.ownBlock = v.ownBlock ∨ v'.ownBlock = some w.heap.size) := by
 have hs := run_sub_from tFil (P := Tryz.prog) own.rd .i64 (l.length : Int) l.length rfl (Nat.le_refl _)
 obtain ⟨px, cx, rfl⟩ := hx.shapeN (n := 1) rfl
 obtain ⟨p, cap, rfl⟩ := own.rd.shape
 go_enter Tryz.func95, Tryz.ntmps95
 go_wp2_with (first
  | (at_builtin; refine wpList_appW tFil rfl rfl own rfl hx rfl (by simpa using hbytes) hB ?_; intro v6 w6 own6 g6 b6 h6)
  | fail)
 go_ret
 exact ⟨v6, rfl, OwnR.of own6 (by simp) (by rw [entE.all_append]), g6, b6, h6⟩

set_option maxHeartbeats 4000000 in
set_option maxRecDepth 100000 in
theorem insFil_shift (B g cap vb k : Nat) (l : List Ent) (x : Ent) (w : World) (cur : Array Value) (hg : w.heap[g]? = some (.cells cur 96 (0, 0))) (hcur : cur.size = cap * 3) (htake : cur.toList.take (l.length * 3) = entE.all l)
 (hvb : w.heap[vb]? = some (.cells (entE.enc x).toArray 96 (0, 0))) (hne : vb ≠ g) (hk : k < l.length) (hroom : l.length + 1 ≤ cap) (hmax : cap ≤ maxLen) (hB : B ≤ g) :
 Calls Tryz.prog 95 #[.slice (some ⟨g, 0, none⟩) l.length cap, .int .i64 (k : Int), .slice (some ⟨vb, 0, none⟩) 1 1] w fun e w' =>
  ∃ v', e = .returned v' ∧ OwnR entE w' B 96 v' (l.take k ++ x :: l.drop k) ∧ w.grownBy w' (some g) ∧ v'.ownBlock = some g := by
 unfold maxLen at hmax
 have hs1 := run_sl_from tFil (P := Tryz.prog) g l.length cap .i64 (k : Int) k rfl (by omega) (by omega) (by omega)
 have hs2 := run_sl_to tFil (P := Tryz.prog) g l.length cap .i64 ((l.length : Int) + 1) (l.length + 1) (by omega) hroom (by omega)
 have hs3 := run_sl_from tFil (P := Tryz.prog) g (l.length + 1) cap .i64 ((k : Int) + 1) (k + 1) (by omega) (by omega) hroom (by omega)
 rw [show l.length + 1 - (k + 1) = l.length - k from by omega] at hs3
 have hov : ∀ lb cb, (callFunc 123 #[.slice (some ⟨vb, 0, none⟩) 1 1, .slice (some ⟨g, (k + 1) * 3, none⟩) lb cb]).run Tryz.prog w = .ok (.value (.bool false)) w := fun lb cb => by
  rw [run_callFunc_extern Tryz.func123 (by kernel_rfl) (by kernel_rfl) (by kernel_rfl) (e := Extern.SlicesOverlaps.overlaps #[88, 88] #[4]) (by kernel_rfl),
   Lib.run_overlaps_apart w 88 4 96 Tryz.underlying88 3 (run_size tFil) ⟨vb, 0, none⟩ ⟨g, (k + 1) * 3, none⟩ 1 1 lb cb hne _ _ _ _ (by simp [World.shape?, hvb]; exact ⟨rfl, rfl⟩) (by simp [World.shape?, hg]; exact ⟨rfl, rfl⟩) (by rw [hcur]; omega) (by simp [World.frozen?, hvb]) (by simp [World.frozen?, hvb])]
  rfl
 have hs4 := run_sl_from tFil (P := Tryz.prog) g (l.length + 1) cap .i64 (k : Int) k rfl (by omega) hroom (by omega)
 have hz2 : ¬ ((k : Int) = (l.length : Int)) := by omega
 have hr : ¬ ((cap : Int) < (l.length : Int) + 1) := by omega
 go_enter Tryz.func95, Tryz.ntmps95
 have hall : ∀ j u, (entE.all l)[j]? = some u → w.cell? ⟨g, j, none⟩ = some u := fun j u hu => by
  rw [← htake, List.getElem?_take] at hu
  split at hu
  · simp only [World.cell?, hg]; simpa using hu
  · cases hu
 have hl1 : (entE.all (l.drop k)).length = (l.length - k) * 3 := by rw [entE.all_length, List.length_drop]; rfl
 have c1 : (entE.all (l.drop k)).length = Nat.min (l.length + 1 - k) (l.length - k) * 3 := by rw [hl1]; congr 1; exact (Nat.min_eq_right (by omega)).symm
 have c2 : ∀ j u, (entE.all (l.drop k))[j]? = some u → w.cell? ((⟨g, k * 3, none⟩ : Addr).add j) = some u := fun j u hu => by
  rw [addr_add _ rfl]
  rw [← entE.all_drop, List.getElem?_drop] at hu
  exact hall _ _ hu
 have c3 : (k + 1) * 3 + (entE.all (l.drop k)).length ≤ cur.size := by rw [hl1, hcur]; omega
 go_wp2_with (simp only [hov])
 have hw1 : IntKind.i64.wrap ((k : Int) + 1) = (k : Int) + 1 := by rw [IntKind.wrap_i64]; omega
 have hb1 : (0 : Int) ≤ (k : Int) + 1 := by omega
 have hb2 : (k : Int) + 1 ≤ (l.length : Int) + 1 := by omega
 have htn : ((k : Int) + 1).toNat = k + 1 := by omega
 have hb3 : ¬ (cap = k + 1) := by omega
 have hb4 : (k : Int) ≤ (l.length : Int) + 1 := by omega
 have hb5 : ¬ (cap = k) := by omega
 go_region_law (refine step_copyK tFil rfl rfl g ((k + 1) * 3) (l.length - k) (cap - (k + 1)) ⟨g, k * 3, none⟩ (l.length + 1 - k) (cap - k) (by simp [Act.eval, Act.put]) (by simp [Act.eval, Act.put]) cur _ hg (entE.all (l.drop k)) c1 c2 c3 (entE.all_oneCell _) ?_)
 clear hov hs1 hs2 hs3 hs4 hw1 htn c1 c2 hb3 hb5
 obtain ⟨w1, hw1⟩ : ∃ w1, w1 = w.drew.setRow g (splice cur.toList ((k + 1) * 3) (entE.all (l.drop k))).toArray := ⟨_, rfl⟩
 have hgrow1 : w.grownBy w1 (some g) := by rw [hw1]; have h := grown_setRow w.drew g (splice cur.toList ((k + 1) * 3) (entE.all (l.drop k))).toArray; exact ⟨h.os, h.tape, h.output, h.size, h.block⟩
 have hg1 : w1.heap[g]? = some (.cells (splice cur.toList ((k + 1) * 3) (entE.all (l.drop k))).toArray 96 (0, 0)) := by rw [hw1]; exact setRow_heap w.drew g cur _ _ _ hg
 have hv1 : ∀ j u, (entE.enc x)[j]? = some u → w1.cell? ((⟨vb, 0, none⟩ : Addr).add j) = some u := fun j u hu => by
  rw [addr_add _ rfl, Nat.zero_add]
  refine hgrow1.cell (a := ⟨vb, j, none⟩) ?_ (by intro e; exact hne (Option.some.inj e))
  simp only [World.cell?, hvb]; simpa using hu
 rw [← hw1]
 clear hw1
 have hlen2 : (splice cur.toList ((k + 1) * 3) (entE.all (l.drop k))).length = cur.size := by rw [length_splice _ _ _ (by simpa using c3)]; simp
 have hfin := splice_splice (L := cur.toList) (cs := entE.all (l.drop k)) (es := entE.enc x) (a := k * 3) (b := (k + 1) * 3) (by rw [entE.len]; show k * 3 + 3 = _; omega) (by simp; rw [hcur]; omega)
 rw [show (k + 1) * 3 + (entE.all (l.drop k)).length = (l.length + 1) * 3 from by rw [hl1]; omega] at hfin
 have hres := ins_cells entE cur.toList l x k (by omega) (ins_take entE _ _ _ (by omega) htake)
 have Hfin := Lib.hid hfin
 have Hres := Lib.hid hres
 clear hfin hres htake
 have hx1 : Nat.min 1 (l.length + 1 - k) = 1 := Nat.min_eq_left (by omega)
 have c4 : (entE.enc x).length = Nat.min 1 (l.length + 1 - k) * 3 := by rw [hx1, entE.len]; rfl
 have c5 : k * 3 + (entE.enc x).length ≤ (splice cur.toList ((k + 1) * 3) (entE.all (l.drop k))).toArray.size := by rw [List.size_toArray, hlen2, entE.len, hcur]; show k * 3 + 3 ≤ _; omega
 have hx0 : entE.all [x] = entE.enc x := entE.all_one x
 generalize splice cur.toList ((k + 1) * 3) (entE.all (l.drop k)) = cur1 at *
 generalize hex : entE.enc x = xs at *
 clear hall hl1 hr
 go_wp2_with (refine wpList_copyK tFil rfl rfl g (k * 3) (l.length + 1 - k) (cap - k) ⟨vb, 0, none⟩ 1 1 (by first | rfl | simp [Act.eval, Act.put]) (by first | rfl | simp [Act.eval, Act.put]) cur1.toArray _ hg1 xs c4 hv1 c5 (by rw [← hex]; exact entE.one x) ?_)
 have hg2 := setRow_heap w1 g cur1.toArray (splice cur1 (k * 3) xs).toArray _ _ hg1
 have hgrow2 := grown_setRow w1 g (splice cur1 (k * 3) xs).toArray
 have hl2 : (splice cur1 (k * 3) xs).length = cap * 3 := by rw [length_splice _ _ _ (by simpa using c5), hlen2, hcur]
 go_ret
 refine ⟨_, rfl, OwnR.of (n := l.length + 1) ⟨⟨?_, .inr ⟨g, cap, _, rfl, hB, hg2, hroom, by unfold maxLen; omega, by rw [List.size_toArray, hl2]; rfl, ?_⟩⟩, entE.all_oneCell _⟩ (by simp; omega) rfl, grown_tr hgrow1 hgrow2, rfl⟩
 · rw [entE.all_length]; congr 1; simp; omega
 · rw [Hfin.out]; exact Hres.out

set_option maxHeartbeats 4000000 in
set_option maxRecDepth 100000 in
theorem insFil_grow (B g vb k : Nat) (l : List Ent) (x : Ent) (w : World) (hl : ∀ j u, (entE.all l)[j]? = some u → w.cell? ⟨g, j, none⟩ = some u)
 (hvb : w.heap[vb]? = some (.cells (entE.enc x).toArray 96 (0, 0))) (hk : k < l.length) (hbytes : (l.length + 1) * 48 ≤ 140737488355328) (hB : B ≤ w.heap.size) :
 Calls Tryz.prog 95 #[.slice (some ⟨g, 0, none⟩) l.length l.length, .int .i64 (k : Int), .slice (some ⟨vb, 0, none⟩) 1 1] w fun e w' =>
  ∃ v', e = .returned v' ∧ OwnR entE w' B 96 v' (l.take k ++ x :: l.drop k) ∧ Below w.heap.size w w' := by
 have hs1 := run_sl_from tFil (P := Tryz.prog) g l.length l.length .i64 (k : Int) k rfl (by omega) (by omega) (by omega)
 have hs2 := run_sl_to tFil (P := Tryz.prog) g l.length l.length .i64 (k : Int) k rfl (by omega) (by omega)
 have hz2 : ¬ ((k : Int) = (l.length : Int)) := by omega
 have hbl : vb < w.heap.size := (Array.getElem?_eq_some_iff.1 hvb).1
 have hgl : g < w.heap.size := by
  have h0 : 0 < (entE.all l).length := by rw [entE.all_length]; show 0 < l.length * 3; omega
  exact World.block_lt_of_cell? w ⟨g, 0, none⟩ (hl 0 _ (List.getElem?_eq_getElem h0))
 have hlk : (entE.all (l.take k)).length = k * 3 := by rw [entE.all_length, List.length_take, Nat.min_eq_left (by omega)]; rfl
 have hlk2 : (entE.all (l.drop k)).length = (l.length - k) * 3 := by rw [entE.all_length, List.length_drop]; rfl
 obtain ⟨cap, zs, hrun, hcap, hmax, hzs⟩ := run_appMk tFil (P := Tryz.prog) Tryz.underlying3 w 88 ⟨g, 0, none⟩ k l.length (l.length + 1 - k) .i64 (entE.all (l.take k)) hlk (fun j u hu => by
  rw [addr_add _ rfl, Nat.zero_add]
  rw [← entE.all_take, List.getElem?_take] at hu
  split at hu
  · exact hl j u hu
  · cases hu) (by omega) (by omega) (by omega)
 rw [show k + (l.length + 1 - k) = l.length + 1 from by omega, show ((l.length + 1 - k : Nat) : Int) = (l.length : Int) + 1 - (k : Int) from by omega] at hrun
 rw [show k + (l.length + 1 - k) = l.length + 1 from by omega] at hcap
 obtain ⟨N, hN⟩ : ∃ N, N = w.heap.size := ⟨_, rfl⟩
 obtain ⟨L, hL⟩ : ∃ L, L = entE.all (l.take k) ++ zs := ⟨_, rfl⟩
 obtain ⟨w1, hw1⟩ : ∃ w1, w1 = w.drew.alloc (.cells (entE.all (l.take k) ++ zs).toArray 96) := ⟨_, rfl⟩
 have hb1 : Below w.heap.size w w1 := by rw [hw1]; exact (below_drew _ w).trans (below_alloc w.drew _)
 have hg1 : w1.heap[N]? = some (.cells L.toArray 96 (0, 0)) := by
  rw [hw1, hL, hN]; show (w.heap.push _)[w.heap.size]? = _; simp
 have hLl : L.length = cap * 3 := by rw [hL, List.length_append, hlk, hzs]; omega
 have hLk : L.take (k * 3) = entE.all (l.take k) := by rw [hL, ← hlk, List.take_left]
 rw [← hw1, ← hN] at hrun
 have hv1 : ∀ j u, (entE.enc x)[j]? = some u → w1.cell? ((⟨vb, 0, none⟩ : Addr).add j) = some u := fun j u hu => by
  rw [addr_add _ rfl, Nat.zero_add, hb1.cell (p := ⟨vb, j, none⟩) hbl]
  simp only [World.cell?, hvb]; simpa using hu
 have hl1 : ∀ j u, (entE.all l)[j]? = some u → w1.cell? ⟨g, j, none⟩ = some u := fun j u hu => by
  rw [hb1.cell (p := ⟨g, j, none⟩) hgl]; exact hl j u hu
 have hres := ins_cells entE L l x k (by omega) hLk
 have hfin := splice_splice' (L := L) (cs := entE.all (l.drop k)) (es := entE.enc x) (a := k * 3) (b := (k + 1) * 3) (by rw [entE.len]; show k * 3 + 3 = _; omega) (by omega)
 rw [show (k + 1) * 3 + (entE.all (l.drop k)).length = (l.length + 1) * 3 from by rw [hlk2]; omega] at hfin
 have Hfin := Lib.hid hfin
 have Hres := Lib.hid hres
 have hgN : g ≠ N := by omega
 have hvN : vb ≠ N := by omega
 have c4 : (entE.enc x).length = Nat.min 1 (l.length + 1 - k) * 3 := by rw [show Nat.min 1 (l.length + 1 - k) = 1 from Nat.min_eq_left (by omega), entE.len]; rfl
 have c5 : k * 3 + (entE.enc x).length ≤ L.toArray.size := by rw [List.size_toArray, entE.len, hLl]; show k * 3 + 3 ≤ _; omega
 have c1 : (entE.all (l.drop k)).length = Nat.min (l.length - k) (l.length - k) * 3 := by rw [hlk2]; congr 1; exact (Nat.min_self _).symm
 have c2 : ∀ W : World, w1.grownBy W (some N) → ∀ j u, (entE.all (l.drop k))[j]? = some u → W.cell? ((⟨g, k * 3, none⟩ : Addr).add j) = some u := fun W hW j u hu => by
  rw [addr_add _ rfl]
  rw [← entE.all_drop, List.getElem?_drop] at hu
  exact hW.cell (a := ⟨g, k * 3 + j, none⟩) (hl1 _ _ hu) (by intro e; exact hgN (Option.some.inj e))
 have C2 := Lib.hid c2
 have hlen2 : (splice L (k * 3) (entE.enc x)).length = L.length := length_splice _ _ _ (by simpa using c5)
 have c3 : (k + 1) * 3 + (entE.all (l.drop k)).length ≤ (splice L (k * 3) (entE.enc x)).toArray.size := by rw [List.size_toArray, hlen2, hLl, hlk2]; omega
 have hbx := entE.one x
 obtain ⟨L2, hL2⟩ : ∃ L2, L2 = splice L (k * 3) (entE.enc x) := ⟨_, rfl⟩
 obtain ⟨w2, hw2⟩ : ∃ w2, w2 = w1.setRow N (splice L (k * 3) (entE.enc x)).toArray := ⟨_, rfl⟩
 have hg2 : w2.heap[N]? = some (.cells L2.toArray 96 (0, 0)) := by rw [hw2, hL2]; exact setRow_heap w1 N L.toArray (splice L (k * 3) (entE.enc x)).toArray _ _ hg1
 have hgr2 : w1.grownBy w2 (some N) := by rw [hw2]; exact grown_setRow w1 N _
 rw [← hL2] at c3
 have Hw2 := Lib.hid (hw2.symm)
 have HL2 := Lib.hid hL2
 have HN := Lib.hid hN
 unfold maxLen at hmax
 generalize entE.enc x = xs at *
 clear hw1 hw2 hL2 hfin hres hLk hL hlk hlk2 hzs hl hvb c2 hlen2 hN hl1
 go_enter Tryz.func95, Tryz.ntmps95
 go_wp2_with (first
  | (at_builtin; refine Lib.wpList_append_run _ rfl _ _ _ _ rfl _ _ rfl rfl _ _ hrun ?_)
  | (refine wpList_copyK tFil rfl rfl N (k * 3) (l.length + 1 - k) (cap - k) ⟨vb, 0, none⟩ 1 1 (by first | rfl | simp [Act.eval, Act.put]) (by first | rfl | simp [Act.eval, Act.put]) L.toArray _ hg1 xs c4 hv1 c5 hbx ?_; rw [show L.toArray.toList = L from rfl, Hw2.out]))
 have hw1 : IntKind.i64.wrap ((k : Int) + 1) = (k : Int) + 1 := by rw [IntKind.wrap_i64]; omega
 have hb1' : (0 : Int) ≤ (k : Int) + 1 := by omega
 have hb2 : (k : Int) + 1 ≤ (l.length : Int) + 1 := by omega
 have htn : ((k : Int) + 1).toNat = k + 1 := by omega
 have hb3 : ¬ (cap = k + 1) := by omega
 have hb4 : (k : Int) ≤ (l.length : Int) := by omega
 have hb5 : ¬ (l.length = k) := by omega
 have c2 := C2.out w2.drew (grown_drew hgr2)
 go_region_law (refine step_copyK tFil rfl rfl N ((k + 1) * 3) (l.length - k) (cap - (k + 1)) ⟨g, k * 3, none⟩ (l.length - k) (l.length - k) (by simp [Act.eval, Act.put]) (by simp [Act.eval, Act.put]) L2.toArray _ hg2 (entE.all (l.drop k)) c1 c2 c3 (entE.all_oneCell _) ?_)
 obtain ⟨L3, hL3⟩ : ∃ L3, L3 = splice L2 ((k + 1) * 3) (entE.all (l.drop k)) := ⟨_, rfl⟩
 obtain ⟨w3, hw3⟩ : ∃ w3, w3 = w2.drew.setRow N (splice L2.toArray.toList ((k + 1) * 3) (entE.all (l.drop k))).toArray := ⟨_, rfl⟩
 have hg3 : w3.heap[N]? = some (.cells L3.toArray 96 (0, 0)) := by rw [hw3, hL3]; exact setRow_heap w2.drew N L2.toArray _ _ _ hg2
 have hgr3 : w2.grownBy w3 (some N) := by rw [hw3]; have h := grown_setRow w2.drew N (splice L2.toArray.toList ((k + 1) * 3) (entE.all (l.drop k))).toArray; exact ⟨h.os, h.tape, h.output, h.size, h.block⟩
 have hL3l : L3.length = cap * 3 := by
  have e2 : L2.length = L.length := by rw [HL2.out]; exact length_splice _ _ _ (by simpa using c5)
  rw [hL3, length_splice _ _ _ (by simpa using c3), e2, hLl]
 have hfin : L3.take ((l.length + 1) * 3) = entE.all (l.take k ++ x :: l.drop k) := by rw [hL3, HL2.out, Hfin.out]; exact Hres.out
 have Hf := Lib.hid hfin
 rw [← hw3]
 clear hw3 hL3 hfin c1 c2 c3 hrun
 go_wp2_with fail
 go_ret
 have hb3 : Below w.heap.size w w3 := hb1.grown (grown_tr hgr2 hgr3) hb1.size (fun k hk => by cases hk; have := HN.out; omega)
 refine ⟨_, rfl, OwnR.of (n := l.length + 1) ⟨⟨?_, .inr ⟨N, cap, _, rfl, by have := HN.out; omega, hg3, hcap, by unfold maxLen; omega, by rw [List.size_toArray, hL3l]; rfl, ?_⟩⟩, entE.all_oneCell _⟩ (by simp; omega) rfl, hb3⟩
 · rw [entE.all_length]; congr 1; simp; omega
 · exact Hf.out

theorem insFil (B vb k : Nat) (v : Value) (l : List Ent) (x : Ent) (w : World) (own : OwnR entE w B 96 v l) (hvb : w.heap[vb]? = some (.cells (entE.enc x).toArray 96 (0, 0))) (hne : v.ownBlock ≠ some vb)
 (hk : k ≤ l.length) (hbytes : (l.length + 1) * 48 ≤ 140737488355328) (hB : B ≤ w.heap.size) :
 Calls Tryz.prog 95 #[v, .int .i64 (k : Int), .slice (some ⟨vb, 0, none⟩) 1 1] w fun e w' =>
  ∃ v', e = .returned v' ∧ OwnR entE w' B 96 v' (l.take k ++ x :: l.drop k) ∧ w.grownBy w' v.ownBlock ∧ Below B w w' ∧ (v'.ownBlock = v.ownBlock ∨ ∀ n, v'.ownBlock = some n → w.heap.size ≤ n) := by
 rcases Nat.lt_or_ge k l.length with hlt | hge
 · obtain ⟨⟨h1, h2⟩, h3⟩ := own
   rcases h2 with ⟨rfl, h⟩ | ⟨g, cap, cur, rfl, hb, hg, hn, hm, hs, ht⟩
   · omega
   · have hne' : vb ≠ g := fun e => hne (by rw [e]; rfl)
     have hgl := (Array.getElem?_eq_some_iff.1 hg).1
     have ht' : cur.toList.take (l.length * 3) = entE.all l := ht
     rcases Nat.lt_or_ge l.length cap with hroom | hfull
     · refine (insFil_shift B g cap vb k l x w cur hg hs ht' hvb hne' hlt hroom hm hb).mono ?_
       rintro e w' ⟨v', he, own', hgr, hwh⟩
       exact ⟨v', he, own', hgr, below_grown hgr hB (fun k hk => by cases hk; exact hb), .inl hwh⟩
     · obtain rfl : cap = l.length := by omega
       have hall : ∀ j u, (entE.all l)[j]? = some u → w.cell? ⟨g, j, none⟩ = some u := fun j u hu => by
        rw [← ht', List.getElem?_take] at hu
        split at hu
        · simp only [World.cell?, hg]; simpa using hu
        · cases hu
       refine (insFil_grow w.heap.size g vb k l x w hall hvb hlt hbytes (Nat.le_refl _)).mono ?_
       rintro e w' ⟨v', he, own', hbel⟩
       exact ⟨v', he, own'.base hB, grown_below hbel, hbel.mono hB, .inr fun n hn => (own'.lt n hn).1⟩
 · obtain rfl : k = l.length := by omega
   have hx : Rd entE w (.slice (some ⟨vb, 0, none⟩) 1 1) [x] := by
    refine ⟨by rw [entE.all_length], entE.all_oneCell _, _, 1, rfl, Nat.le_refl _, by unfold maxLen; omega, fun h => (by cases h), fun a ha _ => ?_⟩
    cases ha
    refine ⟨rfl, fun i u hu => ?_⟩
    rw [entE.all_one] at hu
    simp only [World.cell?, hvb, Nat.zero_add]; simpa using hu
   refine (insFil_end B v l x w own _ hx hbytes hB).mono ?_
   rintro e w' ⟨v', he, own', hgr, hbel, hwh⟩
   rw [List.take_of_length_le (Nat.le_refl _), List.drop_of_length_le (Nat.le_refl _)]
   exact ⟨v', he, own', hgr, hbel, hwh.imp id fun h n hn => by rw [h] at hn; cases hn; exact Nat.le_refl _⟩

end Go.Proofs.YtgpgcnmnfnnkjaaGreatDoor
end

section
namespace Go.Proofs.YtgpgcnmnfnnkjaaGreatDoor
open Go Go.RowKit
theorem run_sl_btw {P : Program} {t e : TypeId} {sz bytes : Nat} (T : SlT P t e sz bytes) (g n cap : Nat) (k k' : IntKind) (I J : Int) (i j : Nat) (hI : I = (i : Int)) (hJ : J = (j : Int)) (hij : i ≤ j) (hj : j ≤ cap) (hic : i < cap) (w : World) :
 (Instr.slice t (.slice (some ⟨g, 0, none⟩) n cap) (some (.int k I)) (some (.int k' J)) none).run P w = .ok (.slice (some ⟨g, i * sz, none⟩) (j - i) (cap - i)) w := by
 subst hI; subst hJ
 obtain ⟨q, z, hq, hz, hs, hby, hzs⟩ := T.info
 have hne : ¬ cap = i := by omega
 simp [Instr.slice, run_underlying T.under, Instr.sliceBounds, Instr.sliceBound, asIntOf, hij, hj, hne, sizeOf, typeInfo, hq, hs, Addr.add]
 exact fun h => h.symm
section
variable {α : Type} {E : Enc α}
theorem zero_all (E : Enc α) (z0 : α) (z : Array Value) (hz : E.enc z0 = z.toList) (n : Nat) : (Builtin.zeroCells z n).toList = E.all (List.replicate n z0) := by
 have hl : z.size = E.sz := by have := E.len z0; rw [hz] at this; simpa using this
 rw [← made_all E z0 z hz n]
 unfold Builtin.zeroCells madeCells
 rw [hl]
theorem run_clearR {P : Program} {t e : TypeId} {bytes : Nat} (T : SlT P t e E.sz bytes) (z0 : α) (z : Value) (hv : ∀ w, (zeroValue e).run P w = .ok z w) (hz : E.enc z0 = z.cells.toList) (ty : TypeId) (g o c : Nat) (w : World)
 (hc : ∀ j, j < E.sz → (w.cell? ⟨g, o + j, none⟩).isSome = true) (hf : ∀ j, j < E.sz → w.frozen? ⟨g, o + j, none⟩ = false) :
 (Builtin.clear_ #[t] ty #[.slice (some ⟨g, o, none⟩) 1 c]).run P w = .ok (.tuple #[]) (w.setCells g o (E.enc z0)) := by
 have hzc : (Builtin.zeroCells z.cells 1).toList = E.enc z0 := by rw [zero_all E z0 z.cells hz 1]; simp [Enc.all]
 have hst := run_storeCells_cells (P := P) g o (E.enc z0) 0 w (by rw [E.len]; simpa using hc) (by rw [E.len]; simpa using hf) (E.one z0)
 simp only [Nat.add_zero] at hst
 simp [Builtin.clear_, run_underlying T.under, hv, hzc, hst]
theorem Own.cut {w : World} {B : Nat} {e : TypeId} {sz g n cap : Nat} {xs : List Value} (h : Own w B e sz (.slice (some ⟨g, 0, none⟩) n cap) n xs) (m : Nat) (hm : m ≤ n) : Own w B e sz (.slice (some ⟨g, 0, none⟩) m cap) m (xs.take (m * sz)) := by
 have hk : m * sz ≤ n * sz := Nat.mul_le_mul_right _ hm
 obtain ⟨⟨h1, h2⟩, h3⟩ := h
 refine ⟨⟨by rw [List.length_take]; omega, ?_⟩, fun u hu => h3 u (List.mem_of_mem_take hu)⟩
 rcases h2 with ⟨h', _⟩ | ⟨g', cap', cur, h', hb, hg, hn, hcm, hcs, ht⟩
 · simp at h'
 · simp only [Value.slice.injEq, Option.some.injEq, Addr.mk.injEq, and_true, true_and] at h'
   obtain ⟨rfl, rfl⟩ := h'
   exact .inr ⟨g, cap, cur, rfl, hb, hg, by omega, hcm, hcs, by rw [← ht, List.take_take, Nat.min_eq_left hk]⟩
theorem del_cells (E : Enc α) (l : List α) (k m : Nat) (hl : l.length = k + 1 + m) (zs : List Value) :
 (putAt (putAt (E.all l) (k * E.sz) (E.all (l.drop (k + 1)))) ((k + m) * E.sz) zs).take ((k + m) * E.sz) = E.all (l.take k ++ l.drop (k + 1)) := by
 have hk : (E.all (l.take k)).length = k * E.sz := by rw [E.all_length, List.length_take, Nat.min_eq_left (by omega)]
 have hd : (E.all (l.drop (k + 1))).length = m * E.sz := by rw [E.all_length, List.length_drop, hl]; congr 1; omega
 have hn : (E.all l).length = (k + 1 + m) * E.sz := by rw [E.all_length, hl]
 have e1 : (k + m) * E.sz = k * E.sz + m * E.sz := Nat.add_mul _ _ _
 have e2 : (k + 1 + m) * E.sz = k * E.sz + E.sz + m * E.sz := by rw [Nat.add_mul, Nat.add_mul, Nat.one_mul]
 apply List.ext_getElem?
 intro i
 rw [List.getElem?_take, E.all_append]
 by_cases hi : i < (k + m) * E.sz
 · rw [if_pos hi, putAt_get, if_neg (by omega), putAt_get, hd, hn]
   by_cases h2 : i < k * E.sz
   · rw [if_neg (by omega), List.getElem?_append_left (by omega), ← E.all_take, List.getElem?_take, if_pos h2]
   · rw [if_pos (by omega), List.getElem?_append_right (by omega), hk]
 · rw [if_neg hi, List.getElem?_eq_none]
   rw [List.length_append]; omega
end
end Go.Proofs.YtgpgcnmnfnnkjaaGreatDoor
end
