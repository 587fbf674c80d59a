/- What stays true of a disk (out of RfQ and DskKeepP, for the write-ahead log). -/
import Derived.Test.YtgpgcnmnfnnkjaaGreatDoorGStoreKeeps17
import Derived.Test.YtgpgcnmnfnnkjaaGreatDoorGStoreKeeps19
set_option linter.unusedVariables false
set_option linter.unusedSimpArgs false
section
namespace Go.Proofs.YtgpgcnmnfnnkjaaGreatDoor
open Go Go.RowKit Go.PlainAid
theorem flipLast_length (l : List UInt8) : (flipLast l).length = l.length := by unfold flipLast; split <;> simp
theorem tornB_le (P u k : Nat) (l : List UInt8) : (tornB P u k l).length ≤ l.length := by
 unfold tornB; split
 · rw [flipLast_length, List.length_take]; omega
 · rw [List.length_take]; omega
theorem tornD_le {pick : Int} {f : Fil} (h : f.kept ≤ f.data.length) : (tornD pick f).data.length ≤ f.data.length := by
 rw [tornD_eq (u := f.data.length - f.kept) (by omega)]; exact tornB_le _ _ _ _
theorem crash_tot (picks : List Int) : ∀ (l : List Fil) (i : Nat), (∀ f ∈ l, f.kept ≤ f.data.length) → totD (crashTo picks l i) ≤ totD l ∧ ∀ f ∈ crashTo picks l i, f.kept ≤ f.data.length
 | [], _, _ => ⟨Nat.le_refl _, fun f hf => by cases hf⟩
 | x :: r, i, h => by
  obtain ⟨h1, h2⟩ := crash_tot picks r (i + 1) fun f hf => h f (by simp [hf])
  have h3 := tornD_le (pick := (picks[i]?).getD 0) (h x (by simp))
  rw [crashTo]
  refine ⟨by rw [totD_cons, totD_cons]; omega, fun f hf => ?_⟩
  rcases List.mem_cons.1 hf with rfl | hf
  · exact Nat.le_refl _
  · exact h2 f hf
structure LInv (k : Nat) (l : List Fil) : Prop where
 sort : SortD l
 nam : ∀ f ∈ l, namedD f.name = true
 kept : ∀ f ∈ l, f.kept ≤ f.data.length
 tot : totD l ≤ 4194304
 len : l.length ≤ k
structure PInv (k : Nat) (d : Dk) : Prop where
 l : LInv k d.fs
 lo : -1 ≤ d.left
 hi : d.left ≤ 9223372036854775807
theorem PInv.ok {k : Nat} {d : Dk} (h : PInv k d) (hk : k ≤ 1000) : okD d = true :=
 okD_of ⟨by have := h.l.len; omega, h.l.tot, h.l.kept, h.lo, h.hi⟩ (by have := h.l.len; omega)
theorem PInv.zero : PInv 0 dk0 := ⟨⟨List.Pairwise.nil, by simp [dk0], by simp [dk0], by simp [dk0, totD], by simp [dk0]⟩, by decide, by decide⟩
theorem LInv.up {k : Nat} {l : List Fil} (h : LInv k l) : LInv (k + 1) l := ⟨h.sort, h.nam, h.kept, h.tot, by have := h.len; omega⟩
theorem PInv.up {k : Nat} {d : Dk} (h : PInv k d) : PInv (k + 1) d := ⟨h.l.up, h.lo, h.hi⟩
theorem PInv.pow {k : Nat} {d : Dk} (h : PInv k d) : PInv k (powD d).2 := by
 have ok := (OkD.pow (d := ⟨[], d.off, d.left⟩) ⟨by simp, by simp [totD], by simp, h.lo, h.hi⟩)
 have e : (powD d).2.left = (powD ⟨[], d.off, d.left⟩).2.left := by unfold powD; dsimp only; split <;> rfl
 exact ⟨by rw [powD_fs]; exact h.l, by rw [e]; exact ok.lo, by rw [e]; exact ok.hi⟩
theorem PInv.step {k : Nat} {d : Dk} (h : PInv k d) {f : List Fil → List Fil} (hf : LInv (k + 1) (f d.fs)) : PInv (k + 1) (stepD d f).2 := by
 have hp := h.pow
 unfold stepD
 split
 · exact ⟨hf, hp.lo, hp.hi⟩
 · exact hp.up
theorem PInv.on {k : Nat} {d : Dk} (h : PInv k d) {s : ByteArray} {f : List Fil → Nat → List Fil} (hf : ∀ j, j < d.fs.length → LInv (k + 1) (f d.fs j)) : PInv (k + 1) (onD d s f).2 := by
 rcases knownD_spec d s with ⟨h1, _⟩ | ⟨j, hj, h1, h2⟩
 · rw [onD_no h1]; exact h.up
 · rw [onD_yes h1 h2]; exact h.step (f := fun l => f l j) (hf j hj)
theorem LInv.set {k : Nat} {l : List Fil} (h : LInv k l) {j : Nat} (hj : j < l.length) {y : Fil} (hn : y.name = l[j].name) (hk : y.kept ≤ y.data.length) (ht : y.data.length ≤ l[j].data.length) : LInv (k + 1) (l.set j y) := by
 refine ⟨h.sort.set hj hn, fun f hf => ?_, fun f hf => ?_, ?_, by rw [List.length_set]; have := h.len; omega⟩
 · rcases List.mem_or_eq_of_mem_set hf with hf | rfl
   · exact h.nam f hf
   · rw [hn]; exact h.nam _ (List.getElem_mem hj)
 · rcases List.mem_or_eq_of_mem_set hf with hf | rfl
   · exact h.kept f hf
   · exact hk
 · have h1 := totD_set hj y; have := h.tot; omega
theorem LInv.del {k : Nat} {l : List Fil} (h : LInv k l) (j : Nat) : LInv k (delD l j) :=
 ⟨h.sort.del j, fun f hf => h.nam f (delD_sub hf), fun f hf => h.kept f (delD_sub hf), Nat.le_trans (totD_del _ _) h.tot, Nat.le_trans (delD_length _ _) h.len⟩
theorem LInv.mD {k : Nat} {l : List Fil} (h : LInv k l) {s : ByteArray} (hs : namedD s = true) : LInv (k + 1) (mD l s) := by
 refine ⟨h.sort.mD s, ?_, ?_, by rw [totD_mD]; exact h.tot, by have h1 := mD_length l s; have h2 := h.len; omega⟩
 · intro f hf
   unfold Proofs.YtgpgcnmnfnnkjaaGreatDoor.mD at hf
   split at hf
   · rcases putD_sub hf with rfl | hf
     · exact hs
     · exact h.nam f hf
   · exact h.nam f hf
 · intro f hf
   unfold Proofs.YtgpgcnmnfnnkjaaGreatDoor.mD at hf
   split at hf
   · rcases putD_sub hf with rfl | hf
     · exact Nat.zero_le _
     · exact h.kept f hf
   · exact h.kept f hf
theorem LInv.add {k : Nat} {l : List Fil} (h : LInv k l) {s : ByteArray} {p : List UInt8} (hs : namedD s = true) (ht : totD l + p.length ≤ 4194304) : LInv (k + 1) (addD s p l) := by
 have hm := h.mD hs
 obtain ⟨j, hj, hix⟩ := mD_has l s
 refine ⟨h.sort.addD s p, ?_, kept_addD h.kept s p, by rw [totD_addD]; exact ht, by have h1 := addD_length s p l; have h2 := h.len; omega⟩
 intro f hf
 rw [addD_eq, hix, Int.toNat_natCast, updD_at hj] at hf
 rcases List.mem_or_eq_of_mem_set hf with hf | rfl
 · exact hm.nam f hf
 · exact hm.nam ((Proofs.YtgpgcnmnfnnkjaaGreatDoor.mD l s)[j]) (List.getElem_mem hj)
theorem crash_names (picks : List Int) : ∀ (l : List Fil) (i : Nat), (crashTo picks l i).map (·.name) = l.map (·.name)
 | [], _ => rfl
 | x :: r, i => by rw [crashTo, List.map_cons, List.map_cons, crash_names picks r (i + 1)]; rfl
theorem sort_names {l m : List Fil} (e : m.map (·.name) = l.map (·.name)) (h : SortD l) : SortD m := by
 unfold SortD at *
 have h1 : (l.map (·.name)).Pairwise fun a b => ltS a b = true := List.pairwise_map.2 h
 rw [← e] at h1
 exact List.pairwise_map.1 h1
theorem LInv.crash {k : Nat} {l : List Fil} (h : LInv k l) (picks : List Int) : LInv k (crashTo picks l 0) := by
 obtain ⟨h1, h2⟩ := crash_tot picks l 0 h.kept
 have e := crash_names picks l 0
 refine ⟨sort_names e h.sort, fun f hf => ?_, h2, Nat.le_trans h1 h.tot, by rw [crashTo_length]; exact h.len⟩
 have hm : f.name ∈ (crashTo picks l 0).map (·.name) := List.mem_map.2 ⟨f, hf, rfl⟩
 rw [e] at hm
 obtain ⟨f', hf', e'⟩ := List.mem_map.1 hm
 rw [← e']; exact h.nam f' hf'
section
variable {k : Nat} {d : Dk}
theorem PInv.append (h : PInv k d) (s : ByteArray) (p : List UInt8) : PInv (k + 1) (appendD d s p).2 := by
 unfold appendD
 split
 · exact h.up
 · split
   · exact h.up
   · rename_i h1 h2
     split
     · exact h.up
     · exact h.step (f := addD s p) (h.l.add (by cases hn : namedD s; exact absurd hn h2; rfl) (by omega))
theorem PInv.sync (h : PInv k d) (s : ByteArray) : PInv (k + 1) (syncD d s).2 :=
 h.on fun j hj => by rw [updD_at hj]; exact h.l.set hj rfl (Nat.le_refl _) (Nat.le_refl _)
theorem PInv.cut (h : PInv k d) (s : ByteArray) (n : Int) : PInv (k + 1) (cutD d s n).2 := by
 unfold cutD
 split
 · exact h.up
 · refine h.on fun j hj => ?_
   rw [updD_at hj]
   have hk := h.l.kept _ (List.getElem_mem hj)
   exact h.l.set hj rfl (by show min _ _ ≤ (List.take _ _).length; rw [List.length_take]; omega) (by show (List.take _ _).length ≤ _; rw [List.length_take]; omega)
theorem PInv.remove (h : PInv k d) (s : ByteArray) : PInv (k + 1) (removeD d s).2 := h.on fun j _ => (h.l.del j).up
theorem PInv.crash (h : PInv k d) (picks : List Int) : PInv (k + 1) (crashD d picks) := ⟨(h.l.crash picks).up, by show (-1 : Int) ≤ -1; decide, by show (-1 : Int) ≤ _; decide⟩
end
end Go.Proofs.YtgpgcnmnfnnkjaaGreatDoor
end
