/- The disk's plain law: names rise; what is done to one file leaves the others. The walk of (*disk.Disk).Rename. impostbook.Same[string] of two rows that are the same (out of RfT). -/
import Derived.Test.YtgpgcnmnfnnkjaaGreatDoorGStoreCuts14
import Derived.Test.YtgpgcnmnfnnkjaaGreatDoorGStoreCuts13
set_option linter.unusedVariables false
set_option linter.unusedSimpArgs false
section
namespace Go.Proofs.YtgpgcnmnfnnkjaaGreatDoor
open Go Go.RowKit Go.PlainAid
def SortD (l : List Fil) : Prop := l.Pairwise fun a b => ltS a.name b.name = true
def getF (l : List Fil) (s : ByteArray) : Option Fil := l.find? (hasN s)
theorem hasN_iff {s : ByteArray} {f : Fil} : hasN s f = true ↔ f.name = s := eqS_iff _ _
theorem hasN_no {s : ByteArray} {f : Fil} (h : f.name ≠ s) : hasN s f = false := by
 rw [Bool.eq_false_iff]; exact fun h2 => h (hasN_iff.1 h2)
theorem find_idx (l : List Fil) (s : ByteArray) : (idxD l s = -1 ∧ getF l s = none) ∨ ∃ j, ∃ h : j < l.length, idxD l s = (j : Int) ∧ getF l s = some l[j] ∧ l[j].name = s := by
 rcases idxD_spec l s with ⟨h1, h2⟩ | ⟨j, hj, h1, h2, h3⟩
 · exact .inl ⟨h1, List.find?_eq_none.2 fun x hx => by rw [h2 x hx]; decide⟩
 · refine .inr ⟨j, hj, h1, ?_, hasN_iff.1 h2⟩
   unfold getF
   have e : l = l.take j ++ l[j] :: l.drop (j + 1) := by rw [← List.drop_eq_getElem_cons hj, List.take_append_drop]
   have hn : (l.take j).find? (hasN s) = none := List.find?_eq_none.2 fun x hx => by
    obtain ⟨i, hi, rfl⟩ := List.getElem_of_mem hx
    rw [List.length_take] at hi
    rw [List.getElem_take, h3 i (by omega) (by omega)]; simp
   have e2 : l.find? (hasN s) = (l.take j ++ l[j] :: l.drop (j + 1)).find? (hasN s) := by rw [← e]
   rw [e2, List.find?_append, hn, Option.none_or, List.find?_cons, h2]
theorem read_getF (d : Dk) (s : ByteArray) : readD d s = (getF d.fs s).map (·.data) := by
 unfold readD
 rcases find_idx d.fs s with ⟨h1, h2⟩ | ⟨j, hj, h1, h2, _⟩
 · rw [if_pos (by omega), h2]; rfl
 · rw [if_neg (by omega), h1, h2, Int.toNat_natCast, List.getElem?_eq_getElem hj]
theorem idx_neg_iff (l : List Fil) (s : ByteArray) : idxD l s < 0 ↔ getF l s = none := by
 rcases find_idx l s with ⟨h1, h2⟩ | ⟨j, hj, h1, h2, _⟩
 · rw [h1, h2]; simp
 · rw [h1, h2]; simp
theorem moveD_at0 {l : List Fil} {k : Nat} (h : k < l.length) (sn : ByteArray) : moveD sn l k = putD (if 0 ≤ idxD (delD l k) sn then delD (delD l k) (idxD (delD l k) sn).toNat else delD l k) ⟨sn, l[k].data, l[k].kept⟩ := by
 unfold moveD; rw [List.getElem?_eq_getElem h]
theorem get_mid {s : ByteArray} {x : Fil} (l1 l2 : List Fil) (h : x.name ≠ s) : getF (l1 ++ x :: l2) s = getF (l1 ++ l2) s := by
 unfold getF
 rw [List.find?_append, List.find?_append, List.find?_cons, hasN_no h]
theorem get_put {s : ByteArray} {x : Fil} (l : List Fil) (h : x.name ≠ s) : getF (putD l x) s = getF l s := by
 unfold putD; rw [get_mid _ _ h, List.take_append_drop]
theorem get_del {s : ByteArray} {l : List Fil} {k : Nat} (hk : k < l.length) (h : l[k].name ≠ s) : getF (delD l k) s = getF l s := by
 unfold delD
 rw [← get_mid (l.take k) (l.drop (k + 1)) h, ← List.drop_eq_getElem_cons hk, List.take_append_drop]
theorem get_set {s : ByteArray} {l : List Fil} {k : Nat} {y : Fil} (hk : k < l.length) (h : l[k].name ≠ s) (hy : y.name ≠ s) : getF (l.set k y) s = getF l s := by
 rw [List.set_eq_take_append_cons_drop, if_pos hk, get_mid _ _ hy, ← get_mid (l.take k) (l.drop (k + 1)) h, ← List.drop_eq_getElem_cons hk, List.take_append_drop]
theorem get_upd {s t : ByteArray} {l : List Fil} {f : Fil → Fil} {j : Nat} (hj : j < l.length) (hn : l[j].name = t) (h : t ≠ s) (hf : ∀ x, (f x).name = x.name) : getF (updD l j f) s = getF l s := by
 rw [updD_at hj, get_set hj (by rw [hn]; exact h) (by rw [hf, hn]; exact h)]
theorem get_mD {s t : ByteArray} (l : List Fil) (h : t ≠ s) : getF (mD l t) s = getF l s := by
 unfold mD; split
 · exact get_put l h
 · rfl
theorem mD_at (l : List Fil) (t : ByteArray) : ∃ j, ∃ h : j < (mD l t).length, idxD (mD l t) t = (j : Int) ∧ (mD l t)[j].name = t := by
 obtain ⟨j, hj, h1⟩ := mD_has l t
 rcases find_idx (mD l t) t with ⟨h2, _⟩ | ⟨i, hi, h2, _, h3⟩
 · omega
 · exact ⟨i, hi, h2, h3⟩
theorem get_addD {s t : ByteArray} {p : List UInt8} (l : List Fil) (h : t ≠ s) : getF (addD t p l) s = getF l s := by
 rw [addD_eq]
 obtain ⟨j, hj, h1, h2⟩ := mD_at l t
 rw [h1, Int.toNat_natCast, get_upd (f := fun f => ⟨f.name, f.data ++ p, f.kept⟩) hj h2 h (fun _ => rfl), get_mD l h]
theorem append_other {s t : ByteArray} {p : List UInt8} (d : Dk) (h : t ≠ s) : getF (appendD d t p).2.fs s = getF d.fs s := by
 unfold appendD
 split
 · rfl
 · split
   · rfl
   · split
     · rfl
     · unfold stepD; split
       · exact get_addD d.fs h
       · rw [powD_fs]
theorem onD_other {s t : ByteArray} {f : List Fil → Nat → List Fil} (d : Dk) (hf : ∀ j (hj : j < d.fs.length), d.fs[j].name = t → getF (f d.fs j) s = getF d.fs s) : getF (onD d t f).2.fs s = getF d.fs s := by
 unfold onD
 split
 · rfl
 · rename_i hk
   unfold stepD; split
   · rcases find_idx d.fs t with ⟨h1, _⟩ | ⟨j, hj, h1, _, h2⟩
     · exfalso; apply hk; unfold knownD; split
       · decide
       · rw [if_pos (by omega)]; decide
     · show getF (f d.fs (idxD d.fs t).toNat) s = _
       rw [h1, Int.toNat_natCast]; exact hf j hj h2
   · rw [powD_fs]
theorem sync_other {s t : ByteArray} (d : Dk) (h : t ≠ s) : getF (syncD d t).2.fs s = getF d.fs s := onD_other d fun _ hj hn => get_upd hj hn h fun _ => rfl
theorem remove_other {s t : ByteArray} (d : Dk) (h : t ≠ s) : getF (removeD d t).2.fs s = getF d.fs s := onD_other d fun _ hj hn => get_del hj (by rw [hn]; exact h)
theorem rename_other {s t u : ByteArray} (d : Dk) (h : t ≠ s) (h2 : u ≠ s) : getF (renameD d t u).2.fs s = getF d.fs s := by
 unfold renameD
 split
 · rfl
 · refine onD_other d fun j hj hn => ?_
   split
   · rfl
   · rw [moveD_at0 hj, get_put _ h2]
     split
     · rcases find_idx (delD d.fs j) u with ⟨h3, _⟩ | ⟨i, hi, h3, _, h4⟩
       · omega
       · rw [h3, Int.toNat_natCast, get_del hi (by rw [h4]; exact h2), get_del hj (by rw [hn]; exact h)]
     · exact get_del hj (by rw [hn]; exact h)
theorem posD_spec (l : List Fil) (s : ByteArray) : (∀ i (h : i < l.length), i < posD l s → ltS l[i].name s = true) ∧ (∀ h : posD l s < l.length, ltS l[posD l s].name s = false) ∧ posD l s ≤ l.length := by
 unfold posD
 induction l with
 | nil => exact ⟨fun i h => by simp at h, fun h => by simp at h, by simp⟩
 | cons x r ih =>
  obtain ⟨i1, i2, i3⟩ := ih
  cases hx : ltS x.name s with
  | false =>
   have e : (List.takeWhile (fun f => ltS f.name s) (x :: r)).length = 0 := by rw [List.takeWhile_cons, hx]; rfl
   refine ⟨fun i h hi => by omega, fun h => ?_, by omega⟩
   simp only [e, List.getElem_cons_zero]; exact hx
  | true =>
   have e : (List.takeWhile (fun f => ltS f.name s) (x :: r)).length = (List.takeWhile (fun f => ltS f.name s) r).length + 1 := by rw [List.takeWhile_cons, hx]; rfl
   refine ⟨fun i h hi => ?_, fun h => ?_, by rw [e]; simp; exact i3⟩
   · cases i with
     | zero => exact hx
     | succ i => simp only [List.getElem_cons_succ]; exact i1 i (by simpa using h) (by omega)
   · simp only [e, List.getElem_cons_succ]
     exact i2 (by rw [e] at h; simpa using h)
theorem SortD.del {l : List Fil} (h : SortD l) (k : Nat) : SortD (delD l k) := List.Pairwise.sublist (del_sub l k) h
theorem SortD.set {l : List Fil} (h : SortD l) {k : Nat} (hk : k < l.length) {y : Fil} (hy : y.name = l[k].name) : SortD (l.set k y) := by
 unfold SortD at *
 rw [List.pairwise_iff_getElem] at *
 intro i j hi hj hij
 rw [List.length_set] at hi hj
 have g : ∀ m (hm : m < l.length), ((l.set k y)[m]'(by rw [List.length_set]; exact hm)).name = l[m].name := fun m hm => by
  rw [List.getElem_set]; split
  · rename_i e; subst e; exact hy
  · rfl
 rw [g i hi, g j hj]
 exact h i j hi hj hij
theorem get_none {l : List Fil} {s : ByteArray} (h : getF l s = none) : ∀ x ∈ l, x.name ≠ s := fun x hx e => by
 have := List.find?_eq_none.1 h x hx
 rw [hasN_iff.2 e] at this; simp at this
theorem SortD.put {l : List Fil} (h : SortD l) {x : Fil} (hn : getF l x.name = none) : SortD (putD l x) := by
 obtain ⟨p1, p2, p3⟩ := posD_spec l x.name
 have hne := get_none hn
 have hs := h
 unfold SortD at h hs ⊢
 unfold putD
 rw [← List.take_append_drop (posD l x.name) l, List.pairwise_append] at h
 rw [List.pairwise_iff_getElem] at hs
 have hgt : ∀ a ∈ l.drop (posD l x.name), ltS x.name a.name = true := fun a ha => by
  obtain ⟨i, hi, rfl⟩ := List.getElem_of_mem ha
  rw [List.length_drop] at hi
  rw [List.getElem_drop]
  have hp : posD l x.name < l.length := by omega
  have h0 : ltS x.name l[posD l x.name].name = true := by
   cases hq : ltS x.name l[posD l x.name].name with
   | true => rfl
   | false => exact absurd (ltS_total (p2 hp) hq) (hne _ (List.getElem_mem hp))
  rcases Nat.eq_zero_or_pos i with hi0 | hi0
  · subst hi0; exact h0
  · exact ltS_trans h0 (hs _ _ hp (by omega) (by omega))
 rw [List.pairwise_append]
 refine ⟨h.1, ?_, fun a ha b hb => ?_⟩
 · rw [List.pairwise_cons]; exact ⟨hgt, h.2.1⟩
 · have hax : ltS a.name x.name = true := by
    obtain ⟨i, hi, rfl⟩ := List.getElem_of_mem ha
    rw [List.length_take] at hi
    rw [List.getElem_take]; exact p1 i (by omega) (by omega)
   rcases List.mem_cons.1 hb with rfl | hb
   · exact hax
   · exact h.2.2 a ha b hb
theorem SortD.mD {l : List Fil} (h : SortD l) (s : ByteArray) : SortD (mD l s) := by
 unfold Go.Proofs.YtgpgcnmnfnnkjaaGreatDoor.mD; split
 · rename_i hx; exact h.put ((idx_neg_iff _ _).1 hx)
 · exact h
theorem SortD.addD {l : List Fil} (h : SortD l) (s : ByteArray) (p : List UInt8) : SortD (addD s p l) := by
 rw [addD_eq]
 obtain ⟨j, hj, h1, _⟩ := mD_at l s
 rw [h1, Int.toNat_natCast, updD_at hj]
 exact (h.mD s).set hj rfl
theorem SortD.idx {l : List Fil} (h : SortD l) {k : Nat} (hk : k < l.length) : idxD l l[k].name = (k : Int) := by
 rcases find_idx l l[k].name with ⟨_, h2⟩ | ⟨j, hj, h1, _, h2⟩
 · exact absurd rfl (get_none h2 _ (List.getElem_mem hk))
 · have e : j = k := by
    unfold SortD at h
    rw [List.pairwise_iff_getElem] at h
    rcases Nat.lt_trichotomy j k with hl | hl | hl
    · exact absurd h2 (ltS_ne (h j k hj hk hl))
    · exact hl
    · exact absurd h2.symm (ltS_ne (h k j hk hj hl))
   rw [h1, e]
theorem SortD.get {l : List Fil} (h : SortD l) {k : Nat} (hk : k < l.length) : getF l l[k].name = some l[k] := by
 rcases find_idx l l[k].name with ⟨_, h2⟩ | ⟨j, hj, h1, h3, _⟩
 · exact absurd rfl (get_none h2 _ (List.getElem_mem hk))
 · have e := h.idx hk
   rw [h1] at e
   have : j = k := by omega
   subst this; exact h3
theorem get_at {l : List Fil} {s : ByteArray} {f : Fil} (h : getF l s = some f) : ∃ j, ∃ hj : j < l.length, idxD l s = (j : Int) ∧ l[j] = f ∧ f.name = s := by
 rcases find_idx l s with ⟨_, h2⟩ | ⟨j, hj, h1, h2, h3⟩
 · rw [h2] at h; cases h
 · rw [h2] at h; cases h; exact ⟨j, hj, h1, rfl, h3⟩
theorem get_upd_self {l : List Fil} {s : ByteArray} {f : Fil} (h : getF l s = some f) {g : Fil → Fil} (hg : ∀ x, (g x).name = x.name) : getF (updD l (idxD l s).toNat g) s = some (g f) := by
 obtain ⟨j, hj, h1, h2, h3⟩ := get_at h
 rw [h1, Int.toNat_natCast, updD_at hj, h2]
 rcases idxD_spec l s with ⟨h4, _⟩ | ⟨i, hi, h4, _, h5⟩
 · omega
 · have : i = j := by omega
   subst this
   unfold getF
   rw [List.set_eq_take_append_cons_drop, if_pos hj, List.find?_append, List.find?_cons, hasN_iff.2 (by rw [hg, h3])]
   have hn : (l.take i).find? (hasN s) = none := List.find?_eq_none.2 fun x hx => by
    obtain ⟨m, hm, rfl⟩ := List.getElem_of_mem hx
    rw [List.length_take] at hm
    rw [List.getElem_take, h5 m (by omega) (by omega)]; simp
   rw [hn]; rfl
theorem get_put_self {l : List Fil} {x : Fil} (h : getF l x.name = none) : getF (putD l x) x.name = some x := by
 unfold putD getF
 have hn : (l.take (posD l x.name)).find? (hasN x.name) = none := List.find?_eq_none.2 fun y hy => by
  rw [hasN_no (get_none h y (List.mem_of_mem_take hy))]; simp
 rw [List.find?_append, hn, Option.none_or, List.find?_cons, hasN_iff.2 rfl]
theorem get_mD_self (l : List Fil) (s : ByteArray) : getF (mD l s) s = some ((getF l s).getD ⟨s, [], 0⟩) := by
 unfold mD
 rcases find_idx l s with ⟨h1, h2⟩ | ⟨j, hj, h1, h2, _⟩
 · rw [if_pos (by omega), h2]; exact get_put_self (x := ⟨s, [], 0⟩) h2
 · rw [if_neg (by omega), h2]; rfl
theorem get_addD_self (l : List Fil) (s : ByteArray) (p : List UInt8) : getF (addD s p l) s = some ⟨((getF l s).getD ⟨s, [], 0⟩).name, ((getF l s).getD ⟨s, [], 0⟩).data ++ p, ((getF l s).getD ⟨s, [], 0⟩).kept⟩ := by
 rw [addD_eq]
 exact get_upd_self (get_mD_self l s) (g := fun f => ⟨f.name, f.data ++ p, f.kept⟩) fun _ => rfl
structure OnD (d : Dk) : Prop where
 off : d.off = false
 left : d.left = -1
theorem OnD.pow {d : Dk} (h : OnD d) : powD d = (true, d) := by
 rw [powD_eq, h.left]
 have e : (⟨d.fs, powO d.off (-1), powL (-1)⟩ : Dk) = d := by
  obtain ⟨fs, off, left⟩ := d
  have h1 : off = false := h.off
  have h2 : left = -1 := h.left
  subst h1; subst h2; rfl
 rw [e]; rfl
theorem OnD.step {d : Dk} (h : OnD d) (f : List Fil → List Fil) : stepD d f = (0, { d with fs := f d.fs }) := by unfold stepD; rw [h.pow]; rfl
theorem OnD.fs {d : Dk} (h : OnD d) (l : List Fil) : OnD { d with fs := l } := ⟨h.off, h.left⟩
theorem OnD.append {d : Dk} (h : OnD d) (s : ByteArray) (p : List UInt8) : appendD d s p = if namedD s = false then (19, d) else if 4194304 < totD d.fs + p.length then (14, d) else (0, { d with fs := addD s p d.fs }) := by
 unfold appendD; rw [if_neg (by rw [h.off]; decide), h.step]
theorem OnD.on {d : Dk} (h : OnD d) (s : ByteArray) (f : List Fil → Nat → List Fil) : onD d s f = if idxD d.fs s < 0 then (11, d) else (0, { d with fs := f d.fs (idxD d.fs s).toNat }) := by
 unfold onD knownD
 rw [if_neg (show ¬ d.off = true by rw [h.off]; decide)]
 split
 · rename_i h1; rw [if_pos (show (11 : Int) ≠ 0 by decide)]
 · rw [if_neg (fun h => h rfl), h.step]
theorem totD_addD (s : ByteArray) (p : List UInt8) (l : List Fil) : totD (addD s p l) = totD l + p.length := by
 rw [addD_eq]
 obtain ⟨j, hj, h1, _⟩ := mD_at l s
 rw [h1, Int.toNat_natCast, updD_at hj]
 have h2 := totD_set hj (⟨(mD l s)[j].name, (mD l s)[j].data ++ p, (mD l s)[j].kept⟩ : Fil)
 rw [totD_mD] at h2
 have h3 : (⟨(mD l s)[j].name, (mD l s)[j].data ++ p, (mD l s)[j].kept⟩ : Fil).data.length = (mD l s)[j].data.length + p.length := List.length_append
 omega
theorem addD_length (s : ByteArray) (p : List UInt8) (l : List Fil) : (addD s p l).length ≤ l.length + 1 := by
 rw [addD_eq]
 obtain ⟨j, hj, h1, _⟩ := mD_at l s
 rw [h1, Int.toNat_natCast, updD_at hj, List.length_set]
 exact mD_length l s
theorem putD_sub {l : List Fil} {x y : Fil} (h : y ∈ putD l x) : y = x ∨ y ∈ l := by
 unfold putD at h
 rcases List.mem_append.1 h with h | h
 · exact .inr (List.mem_of_mem_take h)
 · rcases List.mem_cons.1 h with h | h
   · exact .inl h
   · exact .inr (List.mem_of_mem_drop h)
theorem kept_mD {l : List Fil} (h : ∀ f ∈ l, f.kept ≤ f.data.length) (s : ByteArray) : ∀ f ∈ mD l s, f.kept ≤ f.data.length := fun f hf => by
 unfold mD at hf
 split at hf
 · rcases putD_sub hf with rfl | hf
   · exact Nat.zero_le _
   · exact h f hf
 · exact h f hf
theorem kept_set {l : List Fil} (h : ∀ f ∈ l, f.kept ≤ f.data.length) {k : Nat} {y : Fil} (hy : y.kept ≤ y.data.length) : ∀ f ∈ l.set k y, f.kept ≤ f.data.length := fun f hf => by
 rcases List.mem_or_eq_of_mem_set hf with hf | rfl
 · exact h f hf
 · exact hy
theorem kept_addD {l : List Fil} (h : ∀ f ∈ l, f.kept ≤ f.data.length) (s : ByteArray) (p : List UInt8) : ∀ f ∈ addD s p l, f.kept ≤ f.data.length := by
 rw [addD_eq]
 obtain ⟨j, hj, h1, _⟩ := mD_at l s
 rw [h1, Int.toNat_natCast, updD_at hj]
 refine kept_set (kept_mD h s) ?_
 have h2 := kept_mD h s _ (List.getElem_mem hj)
 show (mD l s)[j].kept ≤ ((mD l s)[j].data ++ p).length
 rw [List.length_append]; omega
theorem delD_sub {l : List Fil} {k : Nat} {y : Fil} (h : y ∈ delD l k) : y ∈ l := (del_sub l k).subset h
theorem totD_del (l : List Fil) (k : Nat) : totD (delD l k) ≤ totD l := by
 rcases Nat.lt_or_ge k l.length with h | h
 · have e : l = l.take k ++ l[k] :: l.drop (k + 1) := by rw [← List.drop_eq_getElem_cons h, List.take_append_drop]
   have h3 : totD l = totD (l.take k) + (l[k].data.length + totD (l.drop (k + 1))) := by
    conv => lhs; rw [e]
    rw [totD_append, totD_cons]
   unfold delD; rw [totD_append]; omega
 · unfold delD; rw [List.take_of_length_le h, List.drop_of_length_le (by omega), List.append_nil]; exact Nat.le_refl _
theorem delD_length (l : List Fil) (k : Nat) : (delD l k).length ≤ l.length := by unfold delD; rw [List.length_append, List.length_take, List.length_drop]; omega
end Go.Proofs.YtgpgcnmnfnnkjaaGreatDoor
end

section
namespace Go.Proofs.YtgpgcnmnfnnkjaaGreatDoor
open Go Go.RowKit BigFrame Go.PlainAid
attribute [local go_sem] After.same
theorem keepAside {w w1 : World} {v v1 y : Value} {g B : Nat} {e : TypeId} {l : List UInt8} (hg : w.grownBy w1 v.ownBlock) (hy : OwnB w B e y l) (h3 : Apart v y) (h5 : y.ownBlock ≠ some g) : OwnB (w1.setCell ⟨g, 0, none⟩ v1) B e y l := by
 have h1 : OwnB w1 B e y l := Own.grown hy hg (by
  cases hq : y.ownBlock with
  | none => exact .inl rfl
  | some k => exact .inr fun e => h3.symm k hq e.symm)
 have c : Chg (fun k => k = g) w1 (w1.setCell ⟨g, 0, none⟩ v1) := Chg.setCell (F := fun k => k = g) (Chg.refl _ w1) (p := ⟨g, 0, none⟩) rfl v1
 exact c.ownB h1 fun k hk e => h5 (by rw [hk, e])
theorem Apart.same {v v1 y : Value} (h : Apart v y) (e : v1.ownBlock = v.ownBlock) : Apart v1 y := fun k hk => h k (by rw [← e, hk])
theorem pair_at {ys : List Ent} (h : ys.Pairwise (fun a b => Apart a.v b.v)) {j : Nat} (hj : j < ys.length) : ∀ x ∈ ys.take j ++ ys.drop (j + 1), Apart ys[j].v x.v := fun x hx => by
 rcases List.mem_append.1 hx with hx | hx
 · obtain ⟨i, hi, rfl⟩ := List.getElem_of_mem hx
   rw [List.length_take] at hi
   rw [List.getElem_take]
   exact (List.pairwise_iff_getElem.1 h i j (by omega) hj (by omega)).symm
 · obtain ⟨i, hi, rfl⟩ := List.getElem_of_mem hx
   rw [List.length_drop] at hi
   rw [List.getElem_drop]
   exact List.pairwise_iff_getElem.1 h j (j + 1 + i) hj (by omega) (by omega)
theorem moveD_at {l : List Fil} {k : Nat} (h : k < l.length) (sn : ByteArray) : moveD sn l k = putD (if 0 ≤ idxD (delD l k) sn then delD (delD l k) (idxD (delD l k) sn).toNat else delD l k) ⟨sn, l[k].data, l[k].kept⟩ := by
 unfold moveD; rw [List.getElem?_eq_getElem h]
theorem del_fil (ys : List Ent) (j : Nat) : (ys.take j ++ ys.drop (j + 1)).map Ent.fil = delD (ys.map Ent.fil) j := by
 unfold delD; rw [List.map_append, List.map_take, List.map_drop]
def RenMid (wi : World) (G : Nat → Prop) (wa : World) (g N : Nat) (o a l : Value) (m : List Fil) (y : Ent) : Prop := ∃ v zs, DiskV wi (FF G wa wi) g v o a l zs ∧ zs.map Ent.fil = m ∧ zs.length ≤ 1000000 ∧ OwnB wi 0 5 y.v y.data ∧ Apart v y.v ∧ (∀ x ∈ zs, Apart y.v x.v) ∧ Blk wi N #[.string y.name, .slice y.p y.data.length y.c, .int .i64 (y.kept : Int)] 96 ∧ Chg G wa wi
set_option maxRecDepth 8000 in
set_option maxHeartbeats 4000000 in
theorem dskRename {F : Nat → Prop} {g : Nat} {d : Dk} {w : World} (hd : DiskAt w F g d) (ok : OkD d) (hfs : d.fs.length ≤ 1000000) (s sn : ByteArray) (hto : sn.size ≤ 4611686018427387904) :
 Calls Tryz.prog 140 #[.pointer (some ⟨g, 0, none⟩), .string s, .string sn] w fun e w' => e = .returned (.int .i64 (renameD d s sn).1) ∧ Und w F g (renameD d s sn).2 w' := by
 have hlt := hd.lt
 have hT := ok.tot
 have Hd := Lib.hid hd
 have hkn := dskKnown F g d s w hd
 have hnam := dskNamed sn w hto
 have c1 : w.cell? ⟨g, 1, none⟩ = some (.bool d.off) := by obtain ⟨v, ys, hv, _⟩ := hd.open_; exact hv.blk.cell 1 _ rfl
 cases hoff : d.off with
 | true =>
  have hk : knownD d s = (0, 18) := by unfold knownD; rw [if_pos hoff]
  have hr : renameD d s sn = (18, d) := by
   unfold renameD; rw [if_neg (fun h => by rw [hoff] at h; exact absurd h.1 (by decide))]
   rw [onD_no (by rw [hk]; decide), hk]
  rw [hr]
  rw [hk] at hkn
  rw [hoff] at c1
  clear hr hk hoff hnam
  go_enter Tryz.func140, Tryz.ntmps140
  go_wp2_with fail
  refine hkn.mono ?_
  rintro e w1 ⟨rfl, hb⟩
  have und1 := (Und.start Hd.out).ext hlt hb
  go_wp2_with fail
  go_ret
  exact ⟨rfl, und1⟩
 | false =>
  rw [hoff] at c1
  cases hnm : namedD sn with
  | false =>
   have hr : renameD d s sn = (19, d) := by unfold renameD; rw [if_pos ⟨hoff, hnm⟩]
   rw [hr]
   rw [hnm] at hnam
   clear hr hnm hoff hkn
   go_enter Tryz.func140, Tryz.ntmps140
   go_wp2_with (go_at_call 52; refine hnam.mono ?_; rintro e w' ⟨rfl, rfl⟩)
   go_ret
   exact ⟨rfl, Und.start Hd.out⟩
  | true =>
   have hr0 : renameD d s sn = onD d s fun l k => if eqS s sn then l else moveD sn l k := by unfold renameD; rw [if_neg (fun h => by rw [hnm] at h; exact absurd h.2 (by decide))]
   rw [hnm] at hnam
   clear hnm hoff
   rcases knownD_spec d s with ⟨hk, hk0⟩ | ⟨j, hj, hkj, hix⟩
   · have hr : renameD d s sn = ((knownD d s).2, d) := by rw [hr0]; exact onD_no hk
     rw [hr, hk0] at *
     generalize (knownD d s).2 = E at *
     have hE : (E == 0) = false := by simpa using hk
     have hE2 : (E != 0) = true := by simpa using hk
     clear hk hk0 hr hr0
     go_enter Tryz.func140, Tryz.ntmps140
     go_wp2_with fail
     refine hnam.mono ?_
     rintro e w' ⟨rfl, rfl⟩
     go_wp2_with fail
     refine hkn.mono ?_
     rintro e w1 ⟨rfl, hb⟩
     have und1 := (Und.start Hd.out).ext hlt hb
     go_wp2_with fail
     go_ret
     exact ⟨rfl, und1⟩
   · have hr : renameD d s sn = stepD d fun l => if eqS s sn then l else moveD sn l j := by rw [hr0]; exact onD_yes hkj hix
     have HR : Hid (((powD d).1 = false → renameD d s sn = (18, (powD d).2)) ∧ ((powD d).1 = true → renameD d s sn = (0, { (powD d).2 with fs := if eqS s sn then d.fs else moveD sn d.fs j }))) := ⟨fun h => by rw [hr]; exact stepD_no h, fun h => by rw [hr]; exact stepD_yes h⟩
     rw [hkj] at hkn
     have Hpf := Lib.hid (powD_fs d)
     clear hr hr0 hix hkj
     go_enter Tryz.func140, Tryz.ntmps140
     go_wp2_with fail
     refine hnam.mono ?_
     rintro e w' ⟨rfl, rfl⟩
     go_wp2_with fail
     refine hkn.mono ?_
     rintro e w1 ⟨rfl, hb⟩
     have hd1 := Hd.out.ext hb
     have hpow := dskPowerAt hd1 ok
     rw [powE_eq] at hpow
     go_wp2_with fail
     refine hpow.mono ?_
     rintro e w2 ⟨rfl, hd2, ch2⟩
     have chA : Chg F w w2 := (Chg.of_below hb).step ch2
     have undB : Und w F g (powD d).2 w2 := ⟨hd2.mono (fun _ => .inl) (FF_lt hlt (by have := hb.size; have := ch2.size; omega)), chA⟩
     clear hpow hd1 hd2 ch2 chA hb hkn hnam c1
     cases hpw : (powD d).1 with
     | false =>
      have hs := HR.out.1 hpw
      have Hs := Lib.hid hs
      clear hs hpw
      simp only [Bool.false_eq_true, if_false]
      go_wp2_with fail
      go_ret
      exact ⟨by rw [Hs.out]; rfl, by rw [Hs.out]; exact undB⟩
     | true =>
      have hs := HR.out.2 hpw
      clear hpw
      simp only [if_true]
      generalize hd1e : (powD d).2 = d1 at *
      clear hd1e
      cases heq : eqS s sn with
      | true =>
       rw [heq, if_pos rfl] at hs
       have hsm : ({ d1 with fs := d.fs } : Dk) = d1 := by rw [← Hpf.out]
       rw [hsm] at hs
       have Hs := Lib.hid hs
       clear hs hsm
       change (s.toList == sn.toList) = true at heq
       go_wp2_with fail
       go_ret
       exact ⟨by rw [Hs.out]; rfl, by rw [Hs.out]; exact undB⟩
      | false =>
       rw [heq, if_neg (by decide)] at hs
       rw [moveD_at hj] at hs
       have Hs := Lib.hid hs
       clear hs
       change (s.toList == sn.toList) = false at heq
       obtain ⟨v2, ys2, hv2, hy2⟩ := undB.1.open_
       have hyd : ys2.map Ent.fil = d.fs := by rw [hy2, Hpf.out]
       have Hyd := Lib.hid hyd
       have hjy : j < ys2.length := by rw [DiskV.len_eq hyd]; exact hj
       have hys : ys2.length ≤ 1000000 := by rw [DiskV.len_eq hyd]; exact hfs
       obtain ⟨gv, cap, rfl, _, _, hq1, hq2⟩ := hv2.fil.row.head (by omega)
       unfold maxLen at hq2
       have hji : (j : Int) < (ys2.length : Int) := by omega
       have hj0 : (0 : Int) ≤ (j : Int) := by omega
       have hmem : ys2[j] ∈ ys2 := List.getElem_mem hjy
       have hdat := hv2.fil.data _ hmem
       have c20 : w2.cell? ⟨gv, j * 3, none⟩ = some (.string ys2[j].name) := hv2.fil.row.cellAt rfl j hjy 0 (by decide)
       have c21 : w2.cell? ⟨gv, j * 3 + 1, none⟩ = some (.slice ys2[j].p ys2[j].data.length ys2[j].c) := hv2.fil.row.cellAt rfl j hjy 1 (by decide)
       have c22 : w2.cell? ⟨gv, j * 3 + 2, none⟩ = some (.int .i64 ((ys2[j]).kept : Int)) := hv2.fil.row.cellAt rfl j hjy 2 (by decide)
       have hpa := pair_at hv2.fil.apart hjy
       have hpo := hv2.fil.off _ hmem
       have hpF := hv2.fil.inF _ hmem
       have hpg := hv2.yg _ hmem
       have Hfj : Hid (∀ h : j < d.fs.length, d.fs[j] = ys2[j].fil) := fun h => by simp only [← Hyd.out, List.getElem_map]
       generalize ys2[j] = y at *
       clear hy2 hyd hmem
       have cbx := below_alloc w2 (.cells #[.string y.name, .slice y.p y.data.length y.c, .int .i64 (y.kept : Int)] 96)
       have kbx := Blk.new w2 #[.string y.name, .slice y.p y.data.length y.c, .int .i64 (y.kept : Int)] 96
       have hGlt := hv2.lt
       have k0 := hv2.blk.cell 0 _ rfl
       go_upto_region 9 with (fail)
       clear c20 c21 c22 k0
       generalize hwa : w2.alloc (.cells #[.string y.name, .slice y.p y.data.length y.c, .int .i64 (y.kept : Int)] 96) = wa at *
       clear hwa
       have hva := hv2.ext cbx
       have hdata := hdat.ext cbx
       have ch0 : Chg (FF F w w2) w2 wa := .of_below cbx
       have hNa := kbx.lt
       have hNG : ¬ (FF F w w2) w2.heap.size := fun h => Nat.lt_irrefl _ (hGlt _ h)
       clear hv2 hdat cbx
       have hdel := delFil 0 j _ ys2 wa hva.fil.row hjy (Nat.zero_le _)
       have hz := hva.datas.sub (del_sub ys2 j)
       have ka0 := hva.blk.cell 0 _ rfl
       go_wp2_with fail
       refine hdel.mono ?_
       rintro e w3 ⟨v3, rfl, own3, g3, _, hwh⟩
       have hput := hva.putRow g3 own3 (.inl hwh) hz
       have hy3 := keepAside (v1 := v3) (g := g) g3 hdata hpo hpg
       have hpo3 := hpo.same hwh
       have k3 : Blk w3 g _ _ := hva.blk.grown g3 hva.vg
       have c30 := k3.cell 0 _ rfl
       have f30 := k3.frozen 0
       have hzf : (ys2.take j ++ ys2.drop (j + 1)).map Ent.fil = delD d.fs j := by rw [del_fil, Hyd.out]
       have hzl : (ys2.take j ++ ys2.drop (j + 1)).length ≤ 1000000 := by rw [List.length_append, List.length_take, List.length_drop]; omega
       generalize ys2.take j ++ ys2.drop (j + 1) = zs at *
       have Hzf := Lib.hid hzf
       obtain ⟨p3, c3, rfl⟩ := own3.rd.shape
       clear hdel hz ka0 own3 g3 hwh hva hdata k3 hzf
       go_upto_region 10 with (fail)
       clear c30 f30
       obtain ⟨w4, hw4⟩ : ∃ z, z = w3.setCell ⟨g, 0, none⟩ (.slice p3 zs.length c3) := ⟨_, rfl⟩
       rw [← hw4] at hput hy3 ⊢
       clear hw4
       obtain ⟨hv4, ch4⟩ := hput
       have kb4 := ch4.blk kbx hNG
       have hfind := dskFind _ g { d1 with fs := delD d.fs j } sn w4 (hv4.at_ (d := { d1 with fs := delD d.fs j }) Hzf.out)
       have Hfin : Hid (∀ (X : Int), (idxD (delD d.fs j) sn = X) → (renameD d s sn = (0, { d1 with fs := putD (if 0 ≤ X then delD (delD d.fs j) X.toNat else delD d.fs j) ⟨sn, y.data, y.kept⟩ }))) := fun X hX => by rw [Hs.out, hX, Hfj.out hj]; rfl
       have kbA := kbx
       clear Hs kbx
       go_upto_if 61 with ((go_at_call 55; refine hfind.mono ?_; rintro e w5 ⟨rfl, hb5⟩))
       have hx0 : idxD ({ d1 with fs := delD d.fs j } : Dk).fs sn = idxD (delD d.fs j) sn := rfl
       rw [hx0]
       have hGlta : ∀ k, (FF F w w2) k → k < wa.heap.size := fun k hk => by have := hGlt k hk; omega
       have hv5' := DiskV.extU (F := FF F w w2) (w := wa) hv4 hGlta ch4.size hb5
       have hy5 := hy3.ext hb5
       have kb5 := kb4.ext hb5
       have ch5 : Chg (FF F w w2) wa w5 := ch4.step (.of_below hb5)
       clear hfind hb5 hv4 hy3 kb4 ch4 hx0
       obtain ⟨X, hX⟩ : ∃ X, idxD (delD d.fs j) sn = X := ⟨_, rfl⟩
       have Hr := Lib.hid (Hfin.out X hX)
       have HX := Lib.hid hX
       rw [hX]
       clear hX Hfin
       obtain ⟨m2, hm2⟩ : ∃ m2, m2 = (if 0 ≤ X then delD (delD d.fs j) X.toNat else delD d.fs j) := ⟨_, rfl⟩
       have Hm2 := Lib.hid hm2
       have hr := Hr.out
       rw [← hm2] at hr
       have Hr2 := Lib.hid hr
       clear hm2 hr Hr
       go_cut [] from 61 (fun wi => RenMid wi (FF F w w2) wa g w2.heap.size (.bool d1.off) (.bool (decide (0 ≤ d1.left))) (.int .i64 (max d1.left 0)) m2 y)
       case first =>
        rcases idxD_spec (delD d.fs j) sn with ⟨hx, _⟩ | ⟨k, hk, hx, _⟩
        · rw [HX.out] at hx
          subst hx
          have hm := Hm2.out
          rw [if_neg (by decide)] at hm
          have hmid : RenMid w5 (FF F w w2) wa g w2.heap.size (.bool d1.off) (.bool (decide (0 ≤ d1.left))) (.int .i64 (max d1.left 0)) m2 y :=
           ⟨_, zs, hv5', by rw [hm]; exact Hzf.out, hzl, hy5, hpo3, hpa, kb5, ch5⟩
          have Hmid := Lib.hid hmid
          clear hm hmid hv5' hy5 kb5 ch5
          go_wp2_with fail
          go_meet
          exact Hmid.out
        · rw [HX.out] at hx
          subst hx
          have hm := Hm2.out
          rw [if_pos (by omega), Int.toNat_natCast] at hm
          have Hm3 := Lib.hid hm
          have hkz : k < zs.length := by
           have h1 : zs.length = (delD d.fs j).length := by rw [← Hzf.out, List.length_map]
           omega
          have hk0 : (0 : Int) ≤ (k : Int) := by omega
          have hki : (k : Int) < (zs.length : Int) := by omega
          clear hm
          have hdel := delFil 0 k _ zs w5 hv5'.fil.row hkz (Nat.zero_le _)
          have hz := hv5'.datas.sub (del_sub zs k)
          have k50 := hv5'.blk.cell 0 _ rfl
          go_wp2_with fail
          refine hdel.mono ?_
          rintro e w6 ⟨v6, rfl, own6, g6, _, hwh⟩
          have hput := DiskV.seqU (F := FF F w w2) (w := wa) (hv5'.putRow g6 own6 (.inl hwh) hz) hGlta ch5
          have hy6 := keepAside (v1 := v6) (g := g) g6 hy5 hpo3 hpg
          have hpo6 := hpo3.same hwh
          have k6 : Blk w6 g _ _ := hv5'.blk.grown g6 hv5'.vg
          have c60 := k6.cell 0 _ rfl
          have f60 := k6.frozen 0
          have kb6 := hput.2.blk kbA hNG
          have hmid : RenMid (w6.setCell ⟨g, 0, none⟩ v6) (FF F w w2) wa g w2.heap.size (.bool d1.off) (.bool (decide (0 ≤ d1.left))) (.int .i64 (max d1.left 0)) m2 y :=
           ⟨v6, zs.take k ++ zs.drop (k + 1), hput.1, by rw [Hm3.out, del_fil, Hzf.out], by rw [List.length_append, List.length_take, List.length_drop]; omega, hy6, hpo6, fun x hx => hpa x ((del_sub zs k).subset hx), kb6, hput.2⟩
          generalize zs.take k ++ zs.drop (k + 1) = zs6 at *
          obtain ⟨p6, c6, rfl⟩ := own6.rd.shape
          have Hmid := Lib.hid hmid
          clear hmid hput hy6 hpo6 kb6 own6 g6 hwh hz hdel hv5' hy5 k6 k50
          go_wp2_with fail
          go_meet
          exact Hmid.out
       case rest =>
        obtain ⟨v6, zs6, hv6, hzf6, hzl6, hy6, hpo6, hpa6, kb6, ch6⟩ := hcut
        obtain ⟨w6, hw6⟩ : ∃ z, z = wc := ⟨_, rfl⟩
        subst hw6
        have Hzf6 := Lib.hid hzf6
        have b0 := kb6.cell 0 _ rfl
        have b1 := kb6.cell 1 _ rfl
        have b2 := kb6.cell 2 _ rfl
        have bf := kb6.frozen 0
        have kb7 := kb6.set 0 (.string sn)
        have m0 := kb7.cell 0 _ rfl
        have m1 := kb7.cell 1 _ rfl
        have m2' := kb7.cell 2 _ rfl
        have chN : Chg (fun k => k = w2.heap.size) w6 (w6.setCell ⟨w2.heap.size, 0, none⟩ (.string sn)) := Chg.setCell (F := fun k => k = w2.heap.size) (Chg.refl _ w6) (p := ⟨w2.heap.size, 0, none⟩) rfl _
        have hNG6 : ¬ (FF (FF F w w2) wa w6) w2.heap.size := fun h => by
         rcases h with h | h
         · exact hNG h
         · omega
        have hv7 := hv6.chg chN (fun k hk e => hNG6 (by rw [← e]; exact hk))
        have hy7 := chN.ownB hy6 (fun k hk e => hNG (by rw [← e]; exact hpF k hk))
        have hs7 : (w6.setCell ⟨w2.heap.size, 0, none⟩ (.string sn)).heap.size = w6.heap.size := by simp [World.setCell]
        have hput := dskPut (y := ⟨sn, y.p, y.c, y.data, y.kept⟩) hv7 hzl6 hy7 hpa6 hpo6 (fun k hk => .inl (hpF k hk)) hpg
        clear hzf6 hv6 kb6 kb7
        go_wp2_with fail
        refine hput.mono ?_
        rintro e w8 ⟨rfl, ⟨v8, hv8⟩, ch8⟩
        have s2 := undB.2.size
        have sA := ch0.size
        have s6 := ch6.size
        have s8 := ch8.size
        have hfinal : DiskV w8 (FF F w w8) g v8 _ _ _ _ := hv8.mono (fun k hk => by
         rcases hk with (((hk | hk) | hk) | hk)
         · exact .inl hk
         · exact .inr ⟨hk.1, by omega⟩
         · exact .inr ⟨by omega, by omega⟩
         · exact .inr ⟨by omega, hk.2⟩) (FF_lt hlt (by omega))
        have chw2 : Chg (FF F w w2) w2 w8 := ((ch0.step ch6).trans chN (fun k hk e => by omega)).trans ch8 (fun k hk h => by
         rcases h with h | h
         · exact h
         · omega)
        have hend : Und w F g (renameD d s sn).2 w8 := by
         rw [Hr2.out]
         refine ⟨hfinal.atFs ?_, undB.2.seq chw2⟩
         rw [insE_fil, Hzf6.out]; rfl
        have Hend := Lib.hid hend
        clear hend hfinal chw2 hv8 ch8
        go_wp2_with fail
        go_ret
        exact ⟨by rw [Hr2.out]; rfl, Hend.out⟩
end Go.Proofs.YtgpgcnmnfnnkjaaGreatDoor
end

section
namespace Go.Proofs.YtgpgcnmnfnnkjaaGreatDoor
open Go Go.RowKit BigFrame Go.PlainAid
attribute [local go_sem] After.same
set_option maxHeartbeats 400000 in
theorem sameStrs (v u : Value) (l : List ByteArray) (w : World) (hv : Rd strE w v l) (hu : Rd strE w u l) :
 Calls Tryz.prog 41 #[v, u] w fun e w' => e = .returned (.bool true) ∧ ∃ n, w' = w.drewN n := by
 obtain ⟨p, cap, rfl, h1, h2, h3, h4⟩ := hv.form
 obtain ⟨q, dap, rfl, g1, g2, g3, g4⟩ := hu.form
 clear hv hu h3 g3
 unfold maxLen at h2 g2
 go_enter Tryz.func41, Tryz.ntmps41
 go_wp2
 go_loopw [5] (fun i wr => ∃ k : Nat, k ≤ l.length ∧ i = .int .i64 k ∧ ∃ n, wr = w.drewN n) (fun i _ => l.length - (intOf i).toNat)
 case atStart => exact ⟨0, by omega, rfl, 0, rfl⟩
 case round =>
  obtain ⟨k, hk, rfl, n, rfl⟩ := hrel
  by_cases hlt : k < l.length
  · obtain ⟨b, off, rfl, hc⟩ := h4 (by omega)
    obtain ⟨b', off', rfl, hc'⟩ := g4 (by omega)
    have c1 : w.cell? ⟨b, off + k, none⟩ = some (.string l[k]) := by
     have h := hc k hlt 0 (by decide)
     rw [show off + (k * strE.sz + 0) = off + k from by show off + (k * 1 + 0) = _; omega] at h; exact h
    have c2 : w.cell? ⟨b', off' + k, none⟩ = some (.string l[k]) := by
     have h := hc' k hlt 0 (by decide)
     rw [show off' + (k * strE.sz + 0) = off' + k from by show off' + (k * 1 + 0) = _; omega] at h; exact h
    clear h4 g4 hc hc'
    have hi1 : (k : Int) < (l.length : Int) := by omega
    go_wp2
    go_quiet (fail)
    go_wp2
    go_roundw
    case rel => exact ⟨k + 1, by omega, by go_num, _, by first | rfl | exact World.drewN_drewN _ _ _⟩
    case measure => simp [intOf]; omega
  · go_wp2
    go_ret
    exact ⟨rfl, n, rfl⟩
end Go.Proofs.YtgpgcnmnfnnkjaaGreatDoor
end
