/- The disk's plain law: names rise; what is done to one file leaves the others. The walk of the document's Rename. Walks of impostbook.Same at strings and bytes. impostbook.Same[string] of two rows that are the same (out of RfT). -/
import Derived.Test.YtgpgcnmnfnnkjaaGreatDoorGWalOpens15
import Derived.Test.YtgpgcnmnfnnkjaaGreatDoorGWalOpens19
import Derived.Test.YtgpgcnmnfnnkjaaGreatDoorGWalOpens14
import Derived.Laws.CopyOwn
set_option linter.unusedVariables false
set_option linter.unusedSimpArgs false
section
namespace Go.Proofs.YtgpgcnmnfnnkjaaGreatDoor
open Go Go.RowKit Go.PlainAid
def SortD (l : List Fil) : Prop := l.Pairwise fun a b => ltS a.name b.name = true
def getF (l : List Fil) (s : ByteArray) : Option Fil := l.find? (hasN s)
theorem hasN_iff {s : ByteArray} {f : Fil} : hasN s f = true ↔ f.name = s := eqS_iff _ _
theorem hasN_no {s : ByteArray} {f : Fil} (h : f.name ≠ s) : hasN s f = false := by
 rw [Bool.eq_false_iff]; exact fun h2 => h (hasN_iff.1 h2)
theorem find_idx (l : List Fil) (s : ByteArray) : (idxD l s = -1 ∧ getF l s = none) ∨ ∃ j, ∃ h : j < l.length, idxD l s = (j : Int) ∧ getF l s = some l[j] ∧ l[j].name = s := by
 rcases idxD_spec l s with ⟨h1, h2⟩ | ⟨j, hj, h1, h2, h3⟩
 · exact .inl ⟨h1, List.find?_eq_none.2 fun x hx => by rw [h2 x hx]; decide⟩
 · refine .inr ⟨j, hj, h1, ?_, hasN_iff.1 h2⟩
   unfold getF
   have e : l = l.take j ++ l[j] :: l.drop (j + 1) := by rw [← List.drop_eq_getElem_cons hj, List.take_append_drop]
   have hn : (l.take j).find? (hasN s) = none := List.find?_eq_none.2 fun x hx => by
    obtain ⟨i, hi, rfl⟩ := List.getElem_of_mem hx
    rw [List.length_take] at hi
    rw [List.getElem_take, h3 i (by omega) (by omega)]; simp
   have e2 : l.find? (hasN s) = (l.take j ++ l[j] :: l.drop (j + 1)).find? (hasN s) := by rw [← e]
   rw [e2, List.find?_append, hn, Option.none_or, List.find?_cons, h2]
theorem read_getF (d : Dk) (s : ByteArray) : readD d s = (getF d.fs s).map (·.data) := by
 unfold readD
 rcases find_idx d.fs s with ⟨h1, h2⟩ | ⟨j, hj, h1, h2, _⟩
 · rw [if_pos (by omega), h2]; rfl
 · rw [if_neg (by omega), h1, h2, Int.toNat_natCast, List.getElem?_eq_getElem hj]
theorem idx_neg_iff (l : List Fil) (s : ByteArray) : idxD l s < 0 ↔ getF l s = none := by
 rcases find_idx l s with ⟨h1, h2⟩ | ⟨j, hj, h1, h2, _⟩
 · rw [h1, h2]; simp
 · rw [h1, h2]; simp
theorem get_mid {s : ByteArray} {x : Fil} (l1 l2 : List Fil) (h : x.name ≠ s) : getF (l1 ++ x :: l2) s = getF (l1 ++ l2) s := by
 unfold getF
 rw [List.find?_append, List.find?_append, List.find?_cons, hasN_no h]
theorem get_del {s : ByteArray} {l : List Fil} {k : Nat} (hk : k < l.length) (h : l[k].name ≠ s) : getF (delD l k) s = getF l s := by
 unfold delD
 rw [← get_mid (l.take k) (l.drop (k + 1)) h, ← List.drop_eq_getElem_cons hk, List.take_append_drop]
theorem get_set {s : ByteArray} {l : List Fil} {k : Nat} {y : Fil} (hk : k < l.length) (h : l[k].name ≠ s) (hy : y.name ≠ s) : getF (l.set k y) s = getF l s := by
 rw [List.set_eq_take_append_cons_drop, if_pos hk, get_mid _ _ hy, ← get_mid (l.take k) (l.drop (k + 1)) h, ← List.drop_eq_getElem_cons hk, List.take_append_drop]
theorem get_upd {s t : ByteArray} {l : List Fil} {f : Fil → Fil} {j : Nat} (hj : j < l.length) (hn : l[j].name = t) (h : t ≠ s) (hf : ∀ x, (f x).name = x.name) : getF (updD l j f) s = getF l s := by
 rw [updD_at hj, get_set hj (by rw [hn]; exact h) (by rw [hf, hn]; exact h)]
theorem mD_at (l : List Fil) (t : ByteArray) : ∃ j, ∃ h : j < (mD l t).length, idxD (mD l t) t = (j : Int) ∧ (mD l t)[j].name = t := by
 obtain ⟨j, hj, h1⟩ := mD_has l t
 rcases find_idx (mD l t) t with ⟨h2, _⟩ | ⟨i, hi, h2, _, h3⟩
 · omega
 · exact ⟨i, hi, h2, h3⟩
theorem onD_other {s t : ByteArray} {f : List Fil → Nat → List Fil} (d : Dk) (hf : ∀ j (hj : j < d.fs.length), d.fs[j].name = t → getF (f d.fs j) s = getF d.fs s) : getF (onD d t f).2.fs s = getF d.fs s := by
 unfold onD
 split
 · rfl
 · rename_i hk
   unfold stepD; split
   · rcases find_idx d.fs t with ⟨h1, _⟩ | ⟨j, hj, h1, _, h2⟩
     · exfalso; apply hk; unfold knownD; split
       · decide
       · rw [if_pos (by omega)]; decide
     · show getF (f d.fs (idxD d.fs t).toNat) s = _
       rw [h1, Int.toNat_natCast]; exact hf j hj h2
   · rw [powD_fs]
theorem sync_other {s t : ByteArray} (d : Dk) (h : t ≠ s) : getF (syncD d t).2.fs s = getF d.fs s := onD_other d fun _ hj hn => get_upd hj hn h fun _ => rfl
theorem remove_other {s t : ByteArray} (d : Dk) (h : t ≠ s) : getF (removeD d t).2.fs s = getF d.fs s := onD_other d fun _ hj hn => get_del hj (by rw [hn]; exact h)
theorem posD_spec (l : List Fil) (s : ByteArray) : (∀ i (h : i < l.length), i < posD l s → ltS l[i].name s = true) ∧ (∀ h : posD l s < l.length, ltS l[posD l s].name s = false) ∧ posD l s ≤ l.length := by
 unfold posD
 induction l with
 | nil => exact ⟨fun i h => by simp at h, fun h => by simp at h, by simp⟩
 | cons x r ih =>
  obtain ⟨i1, i2, i3⟩ := ih
  cases hx : ltS x.name s with
  | false =>
   have e : (List.takeWhile (fun f => ltS f.name s) (x :: r)).length = 0 := by rw [List.takeWhile_cons, hx]; rfl
   refine ⟨fun i h hi => by omega, fun h => ?_, by omega⟩
   simp only [e, List.getElem_cons_zero]; exact hx
  | true =>
   have e : (List.takeWhile (fun f => ltS f.name s) (x :: r)).length = (List.takeWhile (fun f => ltS f.name s) r).length + 1 := by rw [List.takeWhile_cons, hx]; rfl
   refine ⟨fun i h hi => ?_, fun h => ?_, by rw [e]; simp; exact i3⟩
   · cases i with
     | zero => exact hx
     | succ i => simp only [List.getElem_cons_succ]; exact i1 i (by simpa using h) (by omega)
   · simp only [e, List.getElem_cons_succ]
     exact i2 (by rw [e] at h; simpa using h)
theorem SortD.del {l : List Fil} (h : SortD l) (k : Nat) : SortD (delD l k) := List.Pairwise.sublist (del_sub l k) h
theorem SortD.set {l : List Fil} (h : SortD l) {k : Nat} (hk : k < l.length) {y : Fil} (hy : y.name = l[k].name) : SortD (l.set k y) := by
 unfold SortD at *
 rw [List.pairwise_iff_getElem] at *
 intro i j hi hj hij
 rw [List.length_set] at hi hj
 have g : ∀ m (hm : m < l.length), ((l.set k y)[m]'(by rw [List.length_set]; exact hm)).name = l[m].name := fun m hm => by
  rw [List.getElem_set]; split
  · rename_i e; subst e; exact hy
  · rfl
 rw [g i hi, g j hj]
 exact h i j hi hj hij
theorem get_none {l : List Fil} {s : ByteArray} (h : getF l s = none) : ∀ x ∈ l, x.name ≠ s := fun x hx e => by
 have := List.find?_eq_none.1 h x hx
 rw [hasN_iff.2 e] at this; simp at this
theorem SortD.put {l : List Fil} (h : SortD l) {x : Fil} (hn : getF l x.name = none) : SortD (putD l x) := by
 obtain ⟨p1, p2, p3⟩ := posD_spec l x.name
 have hne := get_none hn
 have hs := h
 unfold SortD at h hs ⊢
 unfold putD
 rw [← List.take_append_drop (posD l x.name) l, List.pairwise_append] at h
 rw [List.pairwise_iff_getElem] at hs
 have hgt : ∀ a ∈ l.drop (posD l x.name), ltS x.name a.name = true := fun a ha => by
  obtain ⟨i, hi, rfl⟩ := List.getElem_of_mem ha
  rw [List.length_drop] at hi
  rw [List.getElem_drop]
  have hp : posD l x.name < l.length := by omega
  have h0 : ltS x.name l[posD l x.name].name = true := by
   cases hq : ltS x.name l[posD l x.name].name with
   | true => rfl
   | false => exact absurd (ltS_total (p2 hp) hq) (hne _ (List.getElem_mem hp))
  rcases Nat.eq_zero_or_pos i with hi0 | hi0
  · subst hi0; exact h0
  · exact ltS_trans h0 (hs _ _ hp (by omega) (by omega))
 rw [List.pairwise_append]
 refine ⟨h.1, ?_, fun a ha b hb => ?_⟩
 · rw [List.pairwise_cons]; exact ⟨hgt, h.2.1⟩
 · have hax : ltS a.name x.name = true := by
    obtain ⟨i, hi, rfl⟩ := List.getElem_of_mem ha
    rw [List.length_take] at hi
    rw [List.getElem_take]; exact p1 i (by omega) (by omega)
   rcases List.mem_cons.1 hb with rfl | hb
   · exact hax
   · exact h.2.2 a ha b hb
theorem SortD.mD {l : List Fil} (h : SortD l) (s : ByteArray) : SortD (mD l s) := by
 unfold Go.Proofs.YtgpgcnmnfnnkjaaGreatDoor.mD; split
 · rename_i hx; exact h.put ((idx_neg_iff _ _).1 hx)
 · exact h
theorem SortD.addD {l : List Fil} (h : SortD l) (s : ByteArray) (p : List UInt8) : SortD (addD s p l) := by
 rw [addD_eq]
 obtain ⟨j, hj, h1, _⟩ := mD_at l s
 rw [h1, Int.toNat_natCast, updD_at hj]
 exact (h.mD s).set hj rfl
theorem SortD.idx {l : List Fil} (h : SortD l) {k : Nat} (hk : k < l.length) : idxD l l[k].name = (k : Int) := by
 rcases find_idx l l[k].name with ⟨_, h2⟩ | ⟨j, hj, h1, _, h2⟩
 · exact absurd rfl (get_none h2 _ (List.getElem_mem hk))
 · have e : j = k := by
    unfold SortD at h
    rw [List.pairwise_iff_getElem] at h
    rcases Nat.lt_trichotomy j k with hl | hl | hl
    · exact absurd h2 (ltS_ne (h j k hj hk hl))
    · exact hl
    · exact absurd h2.symm (ltS_ne (h k j hk hj hl))
   rw [h1, e]
theorem SortD.get {l : List Fil} (h : SortD l) {k : Nat} (hk : k < l.length) : getF l l[k].name = some l[k] := by
 rcases find_idx l l[k].name with ⟨_, h2⟩ | ⟨j, hj, h1, h3, _⟩
 · exact absurd rfl (get_none h2 _ (List.getElem_mem hk))
 · have e := h.idx hk
   rw [h1] at e
   have : j = k := by omega
   subst this; exact h3
theorem get_at {l : List Fil} {s : ByteArray} {f : Fil} (h : getF l s = some f) : ∃ j, ∃ hj : j < l.length, idxD l s = (j : Int) ∧ l[j] = f ∧ f.name = s := by
 rcases find_idx l s with ⟨_, h2⟩ | ⟨j, hj, h1, h2, h3⟩
 · rw [h2] at h; cases h
 · rw [h2] at h; cases h; exact ⟨j, hj, h1, rfl, h3⟩
theorem get_upd_self {l : List Fil} {s : ByteArray} {f : Fil} (h : getF l s = some f) {g : Fil → Fil} (hg : ∀ x, (g x).name = x.name) : getF (updD l (idxD l s).toNat g) s = some (g f) := by
 obtain ⟨j, hj, h1, h2, h3⟩ := get_at h
 rw [h1, Int.toNat_natCast, updD_at hj, h2]
 rcases idxD_spec l s with ⟨h4, _⟩ | ⟨i, hi, h4, _, h5⟩
 · omega
 · have : i = j := by omega
   subst this
   unfold getF
   rw [List.set_eq_take_append_cons_drop, if_pos hj, List.find?_append, List.find?_cons, hasN_iff.2 (by rw [hg, h3])]
   have hn : (l.take i).find? (hasN s) = none := List.find?_eq_none.2 fun x hx => by
    obtain ⟨m, hm, rfl⟩ := List.getElem_of_mem hx
    rw [List.length_take] at hm
    rw [List.getElem_take, h5 m (by omega) (by omega)]; simp
   rw [hn]; rfl
structure OnD (d : Dk) : Prop where
 off : d.off = false
 left : d.left = -1
theorem OnD.pow {d : Dk} (h : OnD d) : powD d = (true, d) := by
 rw [powD_eq, h.left]
 have e : (⟨d.fs, powO d.off (-1), powL (-1)⟩ : Dk) = d := by
  obtain ⟨fs, off, left⟩ := d
  have h1 : off = false := h.off
  have h2 : left = -1 := h.left
  subst h1; subst h2; rfl
 rw [e]; rfl
theorem OnD.step {d : Dk} (h : OnD d) (f : List Fil → List Fil) : stepD d f = (0, { d with fs := f d.fs }) := by unfold stepD; rw [h.pow]; rfl
theorem OnD.fs {d : Dk} (h : OnD d) (l : List Fil) : OnD { d with fs := l } := ⟨h.off, h.left⟩
theorem OnD.append {d : Dk} (h : OnD d) (s : ByteArray) (p : List UInt8) : appendD d s p = if namedD s = false then (19, d) else if 4194304 < totD d.fs + p.length then (14, d) else (0, { d with fs := addD s p d.fs }) := by
 unfold appendD; rw [if_neg (by rw [h.off]; decide), h.step]
theorem OnD.on {d : Dk} (h : OnD d) (s : ByteArray) (f : List Fil → Nat → List Fil) : onD d s f = if idxD d.fs s < 0 then (11, d) else (0, { d with fs := f d.fs (idxD d.fs s).toNat }) := by
 unfold onD knownD
 rw [if_neg (show ¬ d.off = true by rw [h.off]; decide)]
 split
 · rename_i h1; rw [if_pos (show (11 : Int) ≠ 0 by decide)]
 · rw [if_neg (fun h => h rfl), h.step]
theorem totD_addD (s : ByteArray) (p : List UInt8) (l : List Fil) : totD (addD s p l) = totD l + p.length := by
 rw [addD_eq]
 obtain ⟨j, hj, h1, _⟩ := mD_at l s
 rw [h1, Int.toNat_natCast, updD_at hj]
 have h2 := totD_set hj (⟨(mD l s)[j].name, (mD l s)[j].data ++ p, (mD l s)[j].kept⟩ : Fil)
 rw [totD_mD] at h2
 have h3 : (⟨(mD l s)[j].name, (mD l s)[j].data ++ p, (mD l s)[j].kept⟩ : Fil).data.length = (mD l s)[j].data.length + p.length := List.length_append
 omega
theorem addD_length (s : ByteArray) (p : List UInt8) (l : List Fil) : (addD s p l).length ≤ l.length + 1 := by
 rw [addD_eq]
 obtain ⟨j, hj, h1, _⟩ := mD_at l s
 rw [h1, Int.toNat_natCast, updD_at hj, List.length_set]
 exact mD_length l s
theorem putD_sub {l : List Fil} {x y : Fil} (h : y ∈ putD l x) : y = x ∨ y ∈ l := by
 unfold putD at h
 rcases List.mem_append.1 h with h | h
 · exact .inr (List.mem_of_mem_take h)
 · rcases List.mem_cons.1 h with h | h
   · exact .inl h
   · exact .inr (List.mem_of_mem_drop h)
theorem kept_mD {l : List Fil} (h : ∀ f ∈ l, f.kept ≤ f.data.length) (s : ByteArray) : ∀ f ∈ mD l s, f.kept ≤ f.data.length := fun f hf => by
 unfold mD at hf
 split at hf
 · rcases putD_sub hf with rfl | hf
   · exact Nat.zero_le _
   · exact h f hf
 · exact h f hf
theorem kept_set {l : List Fil} (h : ∀ f ∈ l, f.kept ≤ f.data.length) {k : Nat} {y : Fil} (hy : y.kept ≤ y.data.length) : ∀ f ∈ l.set k y, f.kept ≤ f.data.length := fun f hf => by
 rcases List.mem_or_eq_of_mem_set hf with hf | rfl
 · exact h f hf
 · exact hy
theorem kept_addD {l : List Fil} (h : ∀ f ∈ l, f.kept ≤ f.data.length) (s : ByteArray) (p : List UInt8) : ∀ f ∈ addD s p l, f.kept ≤ f.data.length := by
 rw [addD_eq]
 obtain ⟨j, hj, h1, _⟩ := mD_at l s
 rw [h1, Int.toNat_natCast, updD_at hj]
 refine kept_set (kept_mD h s) ?_
 have h2 := kept_mD h s _ (List.getElem_mem hj)
 show (mD l s)[j].kept ≤ ((mD l s)[j].data ++ p).length
 rw [List.length_append]; omega
theorem delD_sub {l : List Fil} {k : Nat} {y : Fil} (h : y ∈ delD l k) : y ∈ l := (del_sub l k).subset h
theorem totD_del (l : List Fil) (k : Nat) : totD (delD l k) ≤ totD l := by
 rcases Nat.lt_or_ge k l.length with h | h
 · have e : l = l.take k ++ l[k] :: l.drop (k + 1) := by rw [← List.drop_eq_getElem_cons h, List.take_append_drop]
   have h3 : totD l = totD (l.take k) + (l[k].data.length + totD (l.drop (k + 1))) := by
    conv => lhs; rw [e]
    rw [totD_append, totD_cons]
   unfold delD; rw [totD_append]; omega
 · unfold delD; rw [List.take_of_length_le h, List.drop_of_length_le (by omega), List.append_nil]; exact Nat.le_refl _
theorem delD_length (l : List Fil) (k : Nat) : (delD l k).length ≤ l.length := by unfold delD; rw [List.length_append, List.length_take, List.length_drop]; omega
end Go.Proofs.YtgpgcnmnfnnkjaaGreatDoor
end

section
namespace Go.Proofs.YtgpgcnmnfnnkjaaGreatDoor
open Go Go.RowKit BigFrame Go.PlainAid
attribute [local go_sem] After.same
section
variable {F G : Nat → Prop} {w w1 w2 : World} {g : Nat} {v l o : Value} {ys : List Ent}
end
end Go.Proofs.YtgpgcnmnfnnkjaaGreatDoor
end

section
namespace Go.Proofs.YtgpgcnmnfnnkjaaGreatDoor
open Go Go.RowKit BigFrame Go.PlainAid
theorem take_eq_succ {l m : List UInt8} {k : Nat} (h : l.take k = m.take k) (hl : k < l.length) (hm : k < m.length) (he : l[k] = m[k]) : l.take (k + 1) = m.take (k + 1) := by
 rw [List.take_succ_eq_append_getElem hl, List.take_succ_eq_append_getElem hm, h, he]
set_option maxHeartbeats 400000 in
theorem sameStrs (v u : Value) (l : List ByteArray) (w : World) (hv : Rd strE w v l) (hu : Rd strE w u l) :
 Calls Tryz.prog 41 #[v, u] w fun e w' => e = .returned (.bool true) ∧ ∃ n, w' = w.drewN n := by
 obtain ⟨p, cap, rfl, h1, h2, h3, h4⟩ := hv.form
 obtain ⟨q, dap, rfl, g1, g2, g3, g4⟩ := hu.form
 clear hv hu h3 g3
 unfold maxLen at h2 g2
 go_enter Tryz.func41, Tryz.ntmps41
 go_wp2
 go_loopw [5] (fun i wr => ∃ k : Nat, k ≤ l.length ∧ i = .int .i64 k ∧ ∃ n, wr = w.drewN n) (fun i _ => l.length - (intOf i).toNat)
 case atStart => exact ⟨0, by omega, rfl, 0, rfl⟩
 case round =>
  obtain ⟨k, hk, rfl, n, rfl⟩ := hrel
  by_cases hlt : k < l.length
  · obtain ⟨b, off, rfl, hc⟩ := h4 (by omega)
    obtain ⟨b', off', rfl, hc'⟩ := g4 (by omega)
    have c1 : w.cell? ⟨b, off + k, none⟩ = some (.string l[k]) := by
     have h := hc k hlt 0 (by decide)
     rw [show off + (k * strE.sz + 0) = off + k from by show off + (k * 1 + 0) = _; omega] at h; exact h
    have c2 : w.cell? ⟨b', off' + k, none⟩ = some (.string l[k]) := by
     have h := hc' k hlt 0 (by decide)
     rw [show off' + (k * strE.sz + 0) = off' + k from by show off' + (k * 1 + 0) = _; omega] at h; exact h
    clear h4 g4 hc hc'
    have hi1 : (k : Int) < (l.length : Int) := by omega
    go_wp2
    go_quiet (fail)
    go_wp2
    go_roundw
    case rel => exact ⟨k + 1, by omega, by go_num, _, by first | rfl | exact World.drewN_drewN _ _ _⟩
    case measure => simp [intOf]; omega
  · go_wp2
    go_ret
    exact ⟨rfl, n, rfl⟩
set_option maxHeartbeats 400000 in
theorem sameBytes (v u : Value) (l m : List UInt8) (w : World) (hv : Bytes w v l) (hu : Bytes w u m) :
 Calls Tryz.prog 67 #[v, u] w fun e w' => e = .returned (.bool (decide (l = m))) ∧ ∃ n, w' = w.drewN n := by
 obtain ⟨p, cap, rfl, h1, h2, h3, h4⟩ := hv.form
 obtain ⟨q, dap, rfl, g1, g2, g3, g4⟩ := hu.form
 clear hv hu h3 g3
 unfold maxLen at h2 g2
 by_cases hlen : l.length = m.length
 · go_enter Tryz.func67, Tryz.ntmps67
   have Hl := Lib.hid hlen
   have hb : ((l.length : Int) != (m.length : Int)) = false := by simp [hlen]
   clear hlen
   go_wp2
   go_loopw [5] (fun i wr => ∃ k : Nat, k ≤ l.length ∧ i = .int .i64 k ∧ Hid (l.take k = m.take k) ∧ ∃ n, wr = w.drewN n) (fun i _ => l.length - (intOf i).toNat)
   case atStart => exact ⟨0, by omega, rfl, rfl, 0, rfl⟩
   case round =>
    obtain ⟨k, hk, rfl, ht, n, rfl⟩ := hrel
    by_cases hlt : k < l.length
    · have hlt' : k < m.length := by have := Hl.out; omega
      obtain ⟨b, off, rfl, hc⟩ := h4 (by omega)
      obtain ⟨b', off', rfl, hc'⟩ := g4 (by omega)
      replace hc := hc k hlt
      replace hc' := hc' k hlt'
      clear h4 g4
      have hi1 : (k : Int) < (l.length : Int) := by omega
      have hi2 : (k : Int) < (m.length : Int) := by omega
      go_wp2
      go_quiet (fail)
      go_wp2
      · go_ret
        have hne : ((l[k].toNat : Int) != (m[k].toNat : Int)) = true := by assumption
        refine ⟨?_, _, World.drewN_drewN _ _ _⟩
        rw [decide_eq_false (fun h => by subst h; simp at hne)]; rfl
      · go_roundw
        case rel =>
         have hne : ((l[k].toNat : Int) != (m[k].toNat : Int)) = false := by assumption
         exact ⟨k + 1, by omega, by go_num, take_eq_succ ht hlt hlt' (by simp at hne; exact UInt8.toNat_inj.1 (by omega)), _, by first | rfl | exact World.drewN_drewN _ _ _⟩
        case measure => simp [intOf]; omega
    · go_wp2
      go_ret
      refine ⟨?_, n, rfl⟩
      have e : l.take k = m.take k := ht
      rw [List.take_of_length_le (by omega), List.take_of_length_le (by have := Hl.out; omega)] at e
      rw [decide_eq_true e]; rfl
 · go_enter Tryz.func67, Tryz.ntmps67
   have hb : ((l.length : Int) != (m.length : Int)) = true := by simp; omega
   go_wp2
   go_ret
   exact ⟨by rw [decide_eq_false (fun h => hlen (by rw [h]))]; rfl, 0, rfl⟩

end Go.Proofs.YtgpgcnmnfnnkjaaGreatDoor
end

section
namespace Go.Proofs.YtgpgcnmnfnnkjaaGreatDoor
open Go Go.RowKit BigFrame Go.PlainAid
attribute [local go_sem] After.same
end Go.Proofs.YtgpgcnmnfnnkjaaGreatDoor
end
