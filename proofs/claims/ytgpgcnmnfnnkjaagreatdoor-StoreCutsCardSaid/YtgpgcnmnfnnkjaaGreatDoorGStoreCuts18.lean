/- What stays true of a disk under Open and Save. The disk's calls by what is found under a name, plain: done, or nothing is changed. What a power failure leaves of records that were not synced, plain: those that are whole, and no frame behind them. WalRuns in plain words: what each step comes to. -/
import Derived.Test.YtgpgcnmnfnnkjaaGreatDoorGStoreCuts11
import Derived.Test.YtgpgcnmnfnnkjaaGreatDoorGStoreCuts17
import Derived.Test.YtgpgcnmnfnnkjaaGreatDoorGStoreCuts16
set_option linter.unusedVariables false
set_option linter.unusedSimpArgs false
section
namespace Go.Proofs.YtgpgcnmnfnnkjaaGreatDoor
open Go Go.RowKit Go.PlainAid
theorem LInv.more {k m : Nat} {l : List Fil} (h : LInv k l) (hm : k ≤ m) : LInv m l := ⟨h.sort, h.nam, h.kept, h.tot, by have := h.len; omega⟩
theorem PInv.more {k m : Nat} {d : Dk} (h : PInv k d) (hm : k ≤ m) : PInv m d := ⟨h.l.more hm, h.lo, h.hi⟩
theorem PInv.step0 {k : Nat} {d : Dk} (h : PInv k d) {f : List Fil → List Fil} (hf : LInv k (f d.fs)) : PInv k (stepD d f).2 := by
 have hp := h.pow
 unfold stepD
 split
 · exact ⟨hf, hp.lo, hp.hi⟩
 · exact hp
theorem PInv.on0 {k : Nat} {d : Dk} (h : PInv k d) {s : ByteArray} {f : List Fil → Nat → List Fil} (hf : ∀ j, j < d.fs.length → LInv k (f d.fs j)) : PInv k (onD d s f).2 := by
 rcases knownD_spec d s with ⟨h1, _⟩ | ⟨j, hj, h1, h2⟩
 · rw [onD_no h1]; exact h
 · rw [onD_yes h1 h2]; exact h.step0 (f := fun l => f l j) (hf j hj)
theorem PInv.len0 {k : Nat} {d' : Dk} (h : PInv (k + 1) d') (hl : d'.fs.length ≤ k) : PInv k d' := ⟨⟨h.l.sort, h.l.nam, h.l.kept, h.l.tot, hl⟩, h.lo, h.hi⟩
theorem stepD_len {d : Dk} {f : List Fil → List Fil} (hf : (f d.fs).length ≤ d.fs.length) : (stepD d f).2.fs.length ≤ d.fs.length := by
 unfold stepD
 split
 · exact hf
 · rw [powD_fs]; exact Nat.le_refl _
theorem onD_len {d : Dk} {s : ByteArray} {f : List Fil → Nat → List Fil} (hf : ∀ j, (f d.fs j).length ≤ d.fs.length) : (onD d s f).2.fs.length ≤ d.fs.length := by
 rcases knownD_spec d s with ⟨h1, _⟩ | ⟨j, hj, h1, h2⟩
 · rw [onD_no h1]; exact Nat.le_refl _
 · rw [onD_yes h1 h2]; exact stepD_len (f := fun l => f l j) (hf j)
theorem PInv.remove0 {k : Nat} {d : Dk} (h : PInv k d) (s : ByteArray) : PInv k (removeD d s).2 := h.on0 fun j _ => h.l.del j
theorem updD_len (l : List Fil) (k : Nat) (f : Fil → Fil) : (updD l k f).length ≤ l.length := by
 unfold updD; split <;> simp
theorem syncD_len (d : Dk) (s : ByteArray) : (syncD d s).2.fs.length ≤ d.fs.length := by
 unfold syncD; exact onD_len fun j => updD_len _ _ _
theorem cutD_len (d : Dk) (s : ByteArray) (n : Int) : (cutD d s n).2.fs.length ≤ d.fs.length := by
 unfold cutD
 split
 · exact Nat.le_refl _
 · exact onD_len fun j => updD_len _ _ _
theorem PInv.sync0 {k : Nat} {d : Dk} (h : PInv k d) (s : ByteArray) : PInv k (syncD d s).2 := (PInv.sync h s).len0 (Nat.le_trans (syncD_len d s) h.l.len)
theorem PInv.cut0 {k : Nat} {d : Dk} (h : PInv k d) (s : ByteArray) (n : Int) : PInv k (cutD d s n).2 := (PInv.cut h s n).len0 (Nat.le_trans (cutD_len d s n) h.l.len)
theorem PInv.then {k : Nat} {r : Int × Dk} {f : Dk → Int × Dk} (h : PInv k r.2) (hf : ∀ d, PInv k d → PInv k (f d).2) : PInv k (thenD r f).2 := by
 unfold thenD; split
 · exact hf _ h
 · exact h
theorem PInv.removes {k : Nat} : ∀ (l : List Nat) (n : Nat) (d : Dk), PInv k d → PInv k (removesD l n d).2
 | [], _, _, h => h
 | x :: r, n, d, h => by
  rw [removesD]; split
  · exact PInv.removes r n d h
  · exact (h.remove0 _).then fun d h => PInv.removes r n d h
theorem PInv.cutS {k : Nat} {d : Dk} (h : PInv k d) (n : Nat) (s : Sg) : PInv k (Proofs.YtgpgcnmnfnnkjaaGreatDoor.cutS d n s).2 := by
 unfold Proofs.YtgpgcnmnfnnkjaaGreatDoor.cutS; split
 · exact h.cut0 _ _
 · exact h
theorem PInv.clean {k : Nat} {d : Dk} (h : PInv k d) : PInv k (cleanW d).2 := by
 unfold cleanW cleanD
 refine (h.cutS _ _).then fun d h => (PInv.removes _ _ _ h).then fun d h => ?_
 split
 · exact h.sync0 _
 · exact h
theorem PInv.write {k : Nat} {d : Dk} (h : PInv k d) (n : Nat) (b : List UInt8) : PInv (k + 1) (writeD d n b).2 := by
 unfold writeD
 exact (h.append _ _).then fun d h => h.sync0 _
theorem PInv.lay {k : Nat} {d : Dk} (h : PInv k d) (n : Nat) (x : Hrd) : PInv (k + 1) (layW d n x).2.2 := by
 unfold layW
 dsimp only
 have h1 := h.write (n + 1) (layB x)
 split
 · split
   · exact h1
   · exact h1.remove0 _
 · exact h1
theorem PInv.keepW {k : Nat} {w : Wl} {h : Hrd} {r : Int × Nat × Dk} (p : PInv k r.2.2) : PInv k (Proofs.YtgpgcnmnfnnkjaaGreatDoor.keepW w h r).2.2 := by
 unfold Proofs.YtgpgcnmnfnnkjaaGreatDoor.keepW; split <;> exact p
theorem PInv.save {k : Nat} {d : Dk} (p : PInv k d) (w : Wl) (h : Hrd) : PInv (k + 1) (saveW d w h).2.2 := by
 unfold saveW
 repeat' (first | exact p.up | exact PInv.keepW (p.write _ _) | exact PInv.keepW (p.lay _ _) | split)
end Go.Proofs.YtgpgcnmnfnnkjaaGreatDoor
end

section
namespace Go.Proofs.YtgpgcnmnfnnkjaaGreatDoor
open Go Go.RowKit Go.PlainAid
theorem stepD_cases (d : Dk) (f : List Fil → List Fil) : ((stepD d f).1 = 18 ∧ (stepD d f).2.fs = d.fs) ∨ ((stepD d f).1 = 0 ∧ (stepD d f).2.fs = f d.fs) := by
 cases h : (powD d).1 with
 | true => rw [stepD_yes h]; exact .inr ⟨rfl, rfl⟩
 | false => rw [stepD_no h]; exact .inl ⟨rfl, powD_fs d⟩
theorem onD_cases (d : Dk) (s : ByteArray) (f : List Fil → Nat → List Fil) : ((onD d s f).1 ≠ 0 ∧ (onD d s f).2.fs = d.fs) ∨ ((onD d s f).1 = 0 ∧ ∃ j, ∃ hj : j < d.fs.length, idxD d.fs s = (j : Int) ∧ getF d.fs s = some d.fs[j] ∧ d.fs[j].name = s ∧ (onD d s f).2.fs = f d.fs j) := by
 rcases knownD_spec d s with ⟨h1, _⟩ | ⟨j, hj, h1, h2⟩
 · rw [onD_no h1]; exact .inl ⟨h1, rfl⟩
 · rw [onD_yes h1 h2]
   rcases stepD_cases d (fun l => f l j) with ⟨e1, e2⟩ | ⟨e1, e2⟩
   · exact .inl ⟨by rw [e1]; decide, e2⟩
   · rcases find_idx d.fs s with ⟨q1, _⟩ | ⟨i, hi, q1, q2, q3⟩
     · omega
     · have : i = j := by omega
       subst this
       exact .inr ⟨e1, i, hi, h2, q2, q3, e2⟩
theorem onD_on {d : Dk} (h : OnD d) {s : ByteArray} (hs : getF d.fs s ≠ none) (f : List Fil → Nat → List Fil) : (onD d s f).1 = 0 ∧ OnD (onD d s f).2 := by
 rw [h.on]
 rw [if_neg (fun e => hs ((idx_neg_iff _ _).1 e))]
 exact ⟨rfl, h.fs _⟩
theorem get_del_self {l : List Fil} (hs : SortD l) {j : Nat} (hj : j < l.length) {s : ByteArray} (hn : l[j].name = s) : getF (delD l j) s = none := by
 cases h : getF (delD l j) s with
 | none => rfl
 | some f =>
  exfalso
  obtain ⟨i, hi, _, e, en⟩ := get_at h
  have hlen : (delD l j).length = l.length - 1 := by unfold delD; rw [List.length_append, List.length_take, List.length_drop]; omega
  have hidx := hs.idx hj
  rw [hn] at hidx
  have he : (delD l j)[i]? = some f := by rw [List.getElem?_eq_getElem hi, e]
  unfold delD at he
  have fin : ∀ k, k ≠ j → l[k]? = some f → False := fun k hk hq => by
   obtain ⟨hkl, hkf⟩ := List.getElem?_eq_some_iff.1 hq
   have h3 := hs.idx hkl
   rw [hkf, en, hidx] at h3; omega
  by_cases hij : i < j
  · rw [List.getElem?_append_left (by rw [List.length_take]; omega), List.getElem?_take, if_pos hij] at he
    exact fin i (by omega) he
  · rw [List.getElem?_append_right (by rw [List.length_take]; omega), List.getElem?_drop, List.length_take] at he
    exact fin _ (by omega) he
theorem upd_self {l : List Fil} {s : ByteArray} {j : Nat} (hj : j < l.length) (hx : idxD l s = (j : Int)) (hg : getF l s = some l[j]) {g : Fil → Fil} (hn : ∀ x, (g x).name = x.name) : getF (updD l j g) s = some (g l[j]) := by
 have := get_upd_self hg hn
 rwa [hx, Int.toNat_natCast] at this
theorem sync_cases (d : Dk) (s : ByteArray) : ((syncD d s).1 ≠ 0 ∧ (syncD d s).2.fs = d.fs) ∨ ((syncD d s).1 = 0 ∧ ∃ f, getF d.fs s = some f ∧ f.name = s ∧ getF (syncD d s).2.fs s = some ⟨s, f.data, f.data.length⟩) := by
 unfold syncD
 rcases onD_cases d s (fun l k => updD l k fun f => ⟨f.name, f.data, f.data.length⟩) with h | ⟨h, j, hj, h1, h2, h3, h4⟩
 · exact .inl h
 · refine .inr ⟨h, d.fs[j], h2, h3, ?_⟩
   rw [h4, upd_self (g := fun f => ⟨f.name, f.data, f.data.length⟩) hj h1 h2 (fun _ => rfl)]
   rw [h3]
theorem cut_cases (d : Dk) (s : ByteArray) (n : Nat) : ((cutD d s n).1 ≠ 0 ∧ (cutD d s n).2.fs = d.fs) ∨ ((cutD d s n).1 = 0 ∧ ∃ f, getF d.fs s = some f ∧ f.name = s ∧ getF (cutD d s n).2.fs s = some ⟨s, f.data.take n, min f.kept n⟩) := by
 unfold cutD
 split
 · exact .inl ⟨by simp, rfl⟩
 · rcases onD_cases d s (fun l k => updD l k fun f => ⟨f.name, f.data.take (n : Int).toNat, min f.kept (n : Int).toNat⟩) with h | ⟨h, j, hj, h1, h2, h3, h4⟩
   · exact .inl h
   · refine .inr ⟨h, d.fs[j], h2, h3, ?_⟩
     rw [h4, upd_self (g := fun f => ⟨f.name, f.data.take (n : Int).toNat, min f.kept (n : Int).toNat⟩) hj h1 h2 (fun _ => rfl)]
     rw [h3, Int.toNat_natCast]
theorem remove_cases {d : Dk} (hs : SortD d.fs) (s : ByteArray) : ((removeD d s).1 ≠ 0 ∧ (removeD d s).2.fs = d.fs) ∨ ((removeD d s).1 = 0 ∧ getF d.fs s ≠ none ∧ getF (removeD d s).2.fs s = none) := by
 unfold removeD
 rcases onD_cases d s delD with h | ⟨h, j, hj, h1, h2, h3, h4⟩
 · exact .inl h
 · exact .inr ⟨h, by rw [h2]; simp, by rw [h4]; exact get_del_self hs hj h3⟩
theorem append_cases (d : Dk) (s : ByteArray) (p : List UInt8) : ((appendD d s p).1 ≠ 0 ∧ (appendD d s p).2.fs = d.fs) ∨ ((appendD d s p).1 = 0 ∧ (appendD d s p).2.fs = addD s p d.fs) := by
 unfold appendD
 split
 · exact .inl ⟨by simp, rfl⟩
 · split
   · exact .inl ⟨by simp, rfl⟩
   · split
     · exact .inl ⟨by simp, rfl⟩
     · rcases stepD_cases d (addD s p) with ⟨e1, e2⟩ | h
       · exact .inl ⟨by rw [e1]; decide, e2⟩
       · exact .inr h
theorem add_some {l : List Fil} {s : ByteArray} {f : Fil} (h : getF l s = some f) (p : List UInt8) : getF (addD s p l) s = some ⟨s, f.data ++ p, f.kept⟩ := by
 obtain ⟨_, _, _, _, hn⟩ := get_at h
 rw [get_addD_self, h]; dsimp only [Option.getD]; rw [hn]
theorem add_none {l : List Fil} {s : ByteArray} (h : getF l s = none) (p : List UInt8) : getF (addD s p l) s = some ⟨s, p, 0⟩ := by
 rw [get_addD_self, h]; rfl
theorem cut_other {s t : ByteArray} (d : Dk) (n : Int) (h : t ≠ s) : getF (cutD d t n).2.fs s = getF d.fs s := by
 unfold cutD
 split
 · rfl
 · exact onD_other d fun _ hj hn => get_upd hj hn h fun _ => rfl
theorem sync_on {d : Dk} (h : OnD d) {s : ByteArray} (hs : getF d.fs s ≠ none) : (syncD d s).1 = 0 ∧ OnD (syncD d s).2 := onD_on h hs _
theorem remove_on {d : Dk} (h : OnD d) {s : ByteArray} (hs : getF d.fs s ≠ none) : (removeD d s).1 = 0 ∧ OnD (removeD d s).2 := onD_on h hs _
theorem cut_on {d : Dk} (h : OnD d) {s : ByteArray} {f : Fil} (hf : getF d.fs s = some f) {n : Nat} (hn : n ≤ f.data.length) : (cutD d s n).1 = 0 ∧ OnD (cutD d s n).2 := by
 obtain ⟨j, hj, h1, h2, h3⟩ := get_at hf
 unfold cutD
 rw [if_neg]
 · exact onD_on h (by rw [hf]; simp) _
 · rintro ⟨_, e | e⟩
   · omega
   · rw [h1, Int.toNat_natCast, List.getElem?_eq_getElem hj, h2] at e
     dsimp only [Option.map, Option.getD] at e
     omega
theorem append_on {d : Dk} (h : OnD d) {s : ByteArray} (hs : namedD s = true) {p : List UInt8} (ht : totD d.fs + p.length ≤ 4194304) : (appendD d s p).1 = 0 ∧ OnD (appendD d s p).2 := by
 rw [h.append, if_neg (by rw [hs]; decide), if_neg (by omega)]
 exact ⟨rfl, h.fs _⟩
theorem OnD.crash (d : Dk) (picks : List Int) : OnD (crashD d picks) := ⟨rfl, rfl⟩
theorem crash_none (picks : List Int) {s : ByteArray} : ∀ (l : List Fil) (i : Nat), getF l s = none → getF (crashTo picks l i) s = none
 | [], _, _ => rfl
 | x :: r, i, h => by
  unfold getF at h ⊢
  rw [crashTo, List.find?_cons]
  rw [List.find?_cons] at h
  have e : hasN s (tornD ((picks[i]?).getD 0) x) = hasN s x := rfl
  rw [e]
  cases hx : hasN s x with
  | true => rw [hx] at h; cases h
  | false => rw [hx] at h; exact crash_none picks r (i + 1) h
theorem crash_some (picks : List Int) {s : ByteArray} {f : Fil} : ∀ (l : List Fil) (i : Nat), getF l s = some f → ∃ pick, getF (crashTo picks l i) s = some (tornD pick f)
 | [], _, h => by cases h
 | x :: r, i, h => by
  unfold getF at h ⊢
  rw [crashTo, List.find?_cons]
  rw [List.find?_cons] at h
  have e : hasN s (tornD ((picks[i]?).getD 0) x) = hasN s x := rfl
  rw [e]
  cases hx : hasN s x with
  | true => rw [hx] at h; cases h; exact ⟨_, rfl⟩
  | false => rw [hx] at h; exact crash_some picks r (i + 1) h
theorem crash_get0 (d : Dk) (picks : List Int) {s : ByteArray} {f : Fil} (h : getF d.fs s = some f) : ∃ pick, getF (crashD d picks).fs s = some (tornD pick f) := crash_some picks d.fs 0 h
theorem crash_back (d : Dk) (picks : List Int) {s : ByteArray} {g : Fil} (h : getF (crashD d picks).fs s = some g) : ∃ f pick, getF d.fs s = some f ∧ g = tornD pick f := by
 cases hf : getF d.fs s with
 | none => have e : getF (crashD d picks).fs s = none := crash_none picks d.fs 0 hf
           rw [h] at e; cases e
 | some f =>
  obtain ⟨pick, hp⟩ := crash_get0 d picks hf
  rw [h] at hp; cases hp
  exact ⟨f, pick, rfl, rfl⟩
theorem PInv.crash0 {k : Nat} {d : Dk} (h : PInv k d) (picks : List Int) : PInv k (crashD d picks) := ⟨h.l.crash picks, by show (-1 : Int) ≤ -1; decide, by show (-1 : Int) ≤ _; decide⟩
theorem PInv.arm0 {k : Nat} {d : Dk} (h : PInv k d) {n : Int} (hn : n ≤ 9223372036854775807) : PInv k (armD d n) := by
 refine ⟨h.l, ?_, ?_⟩
 · show -1 ≤ if n < 0 then -1 else n; split <;> omega
 · show (if n < 0 then -1 else n) ≤ _; split <;> omega
theorem totD_most {l : List Fil} {M : Nat} (h : ∀ f ∈ l, f.data.length ≤ M) : totD l ≤ l.length * M := by
 induction l with
 | nil => simp [totD]
 | cons x r ih =>
  have h1 := h x (by simp)
  have h2 := ih fun f hf => h f (by simp [hf])
  rw [totD_cons, List.length_cons, Nat.add_mul]; omega
end Go.Proofs.YtgpgcnmnfnnkjaaGreatDoor
end

section
namespace Go.Proofs.YtgpgcnmnfnnkjaaGreatDoor
open Go Go.RowKit Go.PlainAid
theorem xor255_ne (x : UInt8) : x ^^^ 255 ≠ x := fun h => by
 have h0 := congrArg (fun y : UInt8 => y.toNat.testBit 0) h
 simp only [UInt8.toNat_xor, Nat.testBit_xor] at h0
 have : (255 : UInt8).toNat.testBit 0 = true := by decide
 rw [this] at h0
 cases hx : x.toNat.testBit 0 <;> rw [hx] at h0 <;> simp at h0
def Torn (tl T : List UInt8) : Prop := ∃ n, n ≤ tl.length ∧ (T = tl.take n ∨ (0 < n ∧ T = flipLast (tl.take n)))
theorem Torn.nil {T : List UInt8} (h : Torn [] T) : T = [] := by
 obtain ⟨n, hn, h | ⟨h0, h⟩⟩ := h
 · rw [h]; simp
 · simp at hn; omega
theorem Torn.le {tl T : List UInt8} (h : Torn tl T) : T.length ≤ tl.length := by
 obtain ⟨n, hn, h | ⟨h0, h⟩⟩ := h
 · rw [h, List.length_take]; omega
 · rw [h, flipLast_length, List.length_take]; omega
theorem flipLast_app {a b : List UInt8} (h : b ≠ []) : flipLast (a ++ b) = a ++ flipLast b := by
 have hp : 0 < b.length := List.length_pos_iff.2 h
 rw [flipLast_at (l := a ++ b) (m := a.length + (b.length - 1)) (by rw [List.length_append]; omega), flipLast_at (l := b) (m := b.length - 1) (by omega)]
 rw [List.set_append_right _ _ (by omega), Nat.add_sub_cancel_left, List.getElem_append_right (by omega)]
 congr 3
 congr 1
 simp
theorem torn_file (pick : Int) (s : ByteArray) (kp tl : List UInt8) : ∃ T, Torn tl T ∧ tornD pick ⟨s, kp ++ tl, kp.length⟩ = ⟨s, kp ++ T, (kp ++ T).length⟩ := by
 rw [tornD_eq (f := ⟨s, kp ++ tl, kp.length⟩) (u := tl.length) (by simp)]
 have hst : pick.toNat % (tl.length + 1) < tl.length + 1 := Nat.mod_lt _ (Nat.succ_pos _)
 have hL : (kp ++ tl).take (kp.length + pick.toNat % (tl.length + 1)) = kp ++ tl.take (pick.toNat % (tl.length + 1)) := by
  rw [List.take_append, List.take_of_length_le (by omega), Nat.add_sub_cancel_left]
 by_cases hc : 0 < pick.toNat % (tl.length + 1) ∧ pick.toNat / (tl.length + 1) % 2 = 1
 · have hne : tl.take (pick.toNat % (tl.length + 1)) ≠ [] := fun e => by
    have := congrArg List.length e
    rw [List.length_take, List.length_nil] at this; omega
   have e : tornB pick.toNat tl.length kp.length (kp ++ tl) = kp ++ flipLast (tl.take (pick.toNat % (tl.length + 1))) := by
    unfold tornB; rw [if_pos hc, hL, flipLast_app hne]
   refine ⟨flipLast (tl.take (pick.toNat % (tl.length + 1))), ⟨_, by omega, .inr ⟨hc.1, rfl⟩⟩, ?_⟩
   dsimp only
   rw [e]
 · have e : tornB pick.toNat tl.length kp.length (kp ++ tl) = kp ++ tl.take (pick.toNat % (tl.length + 1)) := by
    unfold tornB; rw [if_neg hc, hL]
   refine ⟨tl.take (pick.toNat % (tl.length + 1)), ⟨_, by omega, .inl rfl⟩, ?_⟩
   dsimp only
   rw [e]
theorem torn_full (pick : Int) (s : ByteArray) (b : List UInt8) : tornD pick ⟨s, b, b.length⟩ = ⟨s, b, b.length⟩ := by
 obtain ⟨T, h1, h2⟩ := torn_file pick s b []
 rw [List.append_nil] at h2
 rw [h2, h1.nil, List.append_nil]
theorem getD_eq {l : List UInt8} {i : Nat} (h : i < l.length) : l.getD i 0 = l[i] := by rw [List.getD_eq_getElem?_getD, List.getElem?_eq_getElem h]; rfl
theorem flip_err {p : List UInt8} (h : Frm.none' p = false) {k : Nat} (h0 : 0 < k) (hk : k ≤ p.length + 8) : Frm.err (flipLast ((Frm.one p).take k)) ≠ 0 := by
 obtain ⟨h1, h2⟩ := (Frm.none_iff p).1 h
 have hol := Frm.one_length h
 have hl : ((Frm.one p).take k).length = (k - 1) + 1 := by rw [List.length_take]; omega
 have hfl := flipLast_length ((Frm.one p).take k)
 have hfe := flipLast_at hl
 generalize hr : flipLast ((Frm.one p).take k) = r at *
 have hrl : r.length = k := by omega
 have hat : ∀ i, i < k - 1 → r.getD i 0 = (Frm.one p).getD i 0 := fun i hi => by
  rw [getD_eq (by omega), getD_eq (by omega)]
  have : r[i]? = (Frm.one p)[i]? := by rw [hfe, List.getElem?_set_ne (by omega), List.getElem?_take, if_pos (by omega)]
  rw [List.getElem?_eq_getElem (by omega), List.getElem?_eq_getElem (by omega)] at this
  exact Option.some.inj this
 have hlast : r.getD (k - 1) 0 = (Frm.one p).getD (k - 1) 0 ^^^ 255 := by
  rw [getD_eq (by omega), getD_eq (by omega)]
  have : r[k - 1]? = some ((Frm.one p)[k - 1]'(by omega) ^^^ 255) := by
   have e := congrArg (fun l : List UInt8 => l[k - 1]?) hfe
   rw [List.getElem?_set_self (by omega), List.getElem_take] at e
   exact e
  rw [List.getElem?_eq_getElem (by omega)] at this
  exact Option.some.inj this
 unfold Frm.err
 by_cases h4 : k < 4
 · rw [if_pos (by omega)]; omega
 · rw [if_neg (by omega)]
   have hone4 : ∀ i, i < 4 → (Frm.one p).getD i 0 = (Frm.head p).getD i 0 := fun i hi => by
    rw [Frm.one_shape h, List.getD_eq_getElem?_getD, List.getElem?_append_left (by rw [Frm.head_length]; omega), List.getD_eq_getElem?_getD]
   by_cases h5 : k = 4
   · subst h5
     have e3 : (Frm.one p).getD 3 0 = 0 := by
      rw [hone4 3 (by omega)]
      show Crc.b 3 (BitVec.ofNat 32 p.length) = 0
      apply UInt8.toNat_inj.1
      rw [Crc.b_toNat, BitVec.toNat_ofNat, Nat.mod_eq_of_lt (show p.length < 2 ^ 32 by omega)]
      have : p.length / 2 ^ (8 * 3) = 0 := by rw [Nat.div_eq_zero_iff]; right; omega
      rw [this]; rfl
     have hlast' : r.getD 3 0 = 255 := by
      have := hlast
      rw [show 4 - 1 = 3 from rfl, e3] at this
      rw [this]; rfl
     have hlen : 255 * 16777216 ≤ Frm.len r := by
      unfold Frm.len Crc.num
      rw [Crc.num4_toNat, hlast']
      have : (255 : UInt8).toNat = 255 := rfl
      omega
     rw [if_pos (by omega)]; omega
   · have hlen : Frm.len r = p.length := by
      have e1 : Crc.num r = Crc.num (Frm.head p) := by
       unfold Crc.num
       rw [hat 0 (by omega), hat 1 (by omega), hat 2 (by omega), hat 3 (by omega), hone4 0 (by omega), hone4 1 (by omega), hone4 2 (by omega), hone4 3 (by omega)]
      have e2 := Frm.num_head p h2 []
      rw [List.append_nil] at e2
      unfold Frm.len at e2 ⊢
      rw [e1]; exact e2
     rw [hlen]
     rw [if_neg (by omega)]
     by_cases h6 : k < p.length + 8
     · rw [if_pos (by omega)]; omega
     · rw [if_neg (by omega)]
       have hkk : k = p.length + 8 := by omega
       have ht : r.take (4 + p.length) = Frm.head p ++ p := by
        apply List.ext_getElem?
        intro i
        rw [hfe, List.getElem?_take]
        have hsh := Frm.one_shape h
        split
        · rw [List.getElem?_set_ne (by omega), List.getElem?_take, if_pos (by omega), hsh, ← List.append_assoc, List.getElem?_append_left (by rw [List.length_append, Frm.head_length]; omega)]
        · rw [List.getElem?_eq_none (by rw [List.length_append, Frm.head_length]; omega)]
       have hd : ∀ i, (r.drop (4 + p.length)).getD i 0 = r.getD (4 + p.length + i) 0 := fun i => by rw [List.getD_eq_getElem?_getD, List.getElem?_drop, ← List.getD_eq_getElem?_getD]
       have ho : ∀ i, i < 4 → (Frm.one p).getD (4 + p.length + i) 0 = (Crc.le4 (Crc.on 0#32 (Frm.head p ++ p))).getD i 0 := fun i hi => by
        rw [Frm.one_shape h, ← List.append_assoc, List.getD_eq_getElem?_getD, List.getElem?_append_right (by rw [List.length_append, Frm.head_length]; omega), List.getD_eq_getElem?_getD]
        congr 2
        rw [List.length_append, Frm.head_length]; omega
       have hne : ¬ Crc.on 0#32 (r.take (4 + p.length)) = Crc.num (r.drop (4 + p.length)) := fun e => by
        rw [ht] at e
        have e2 : Crc.num (r.drop (4 + p.length)) = Crc.num (Crc.le4 (Crc.on 0#32 (Frm.head p ++ p))) := by rw [Crc.num_le4]; exact e.symm
        have e3 := congrArg BitVec.toNat e2
        unfold Crc.num at e3
        rw [hd 0, hd 1, hd 2, hd 3, hat _ (by omega), hat _ (by omega), hat _ (by omega), ho 0 (by omega), ho 1 (by omega), ho 2 (by omega), show 4 + p.length + 3 = k - 1 from by omega, hlast, show k - 1 = 4 + p.length + 3 from by omega, ho 3 (by omega), Crc.num4_toNat, Crc.num4_toNat] at e3
        have e4 : ((Crc.le4 (Crc.on 0#32 (Frm.head p ++ p))).getD 3 0 ^^^ 255).toNat = ((Crc.le4 (Crc.on 0#32 (Frm.head p ++ p))).getD 3 0).toNat := by omega
        exact xor255_ne _ (UInt8.toNat_inj.1 e4)
       rw [if_neg hne]; omega
theorem torn_cat : ∀ {K : List Rec} {T : List UInt8}, okR K → Torn (catR K) T → ∃ n c, n ≤ K.length ∧ T = catR (K.take n) ++ c ∧ Frm.err c ≠ 0 ∧ (n = K.length → c = [])
 | [], T, _, h => ⟨0, [], Nat.le_refl _, by rw [h.nil]; rfl, err_nil, fun _ => rfl⟩
 | r :: K, T, ok, h => by
  obtain ⟨n, hn, ht⟩ := h
  have hp := pay_none r (ok r (by simp))
  have hol := Frm.one_length hp
  rw [catR_cons] at hn ht
  rw [List.length_append] at hn
  by_cases h1 : n < (Frm.one r.pay).length
  · have e : (Frm.one r.pay ++ catR K).take n = (Frm.one r.pay).take n := by rw [List.take_append_of_le_length (by omega)]
    rw [e] at ht
    refine ⟨0, T, Nat.zero_le _, rfl, ?_, fun h => by simp at h⟩
    rcases ht with rfl | ⟨h0, rfl⟩
    · exact Frm.cut hp n (by omega)
    · exact flip_err hp h0 (by omega)
  · have e : (Frm.one r.pay ++ catR K).take n = Frm.one r.pay ++ (catR K).take (n - (Frm.one r.pay).length) := by rw [List.take_append, List.take_of_length_le (by omega)]
    rw [e] at ht
    have go : ∀ T', T = Frm.one r.pay ++ T' → Torn (catR K) T' → ∃ n c, n ≤ (r :: K).length ∧ T = catR ((r :: K).take n) ++ c ∧ Frm.err c ≠ 0 ∧ (n = (r :: K).length → c = []) := fun T' hT hT' => by
     obtain ⟨m, c, m1, m2, m3, m4⟩ := torn_cat (fun x hx => ok x (by simp [hx])) hT'
     refine ⟨m + 1, c, by simpa using m1, ?_, m3, fun h => m4 (by simpa using h)⟩
     rw [hT, m2, List.take_succ_cons, catR_cons, List.append_assoc]
    rcases ht with rfl | ⟨h0, rfl⟩
    · exact go _ rfl ⟨_, by omega, .inl rfl⟩
    · by_cases h2 : n = (Frm.one r.pay).length
      · refine ⟨0, _, Nat.zero_le _, rfl, ?_, fun h => by simp at h⟩
        rw [h2, Nat.sub_self, List.take_zero, List.append_nil]
        have := flip_err hp (k := (Frm.one r.pay).length) (by omega) (by omega)
        rwa [List.take_length] at this
      · have hne : (catR K).take (n - (Frm.one r.pay).length) ≠ [] := fun e => by
         have := congrArg List.length e
         rw [List.length_take, List.length_nil] at this; omega
        exact go _ (flipLast_app hne) ⟨_, by omega, .inr ⟨by omega, rfl⟩⟩
end Go.Proofs.YtgpgcnmnfnnkjaaGreatDoor
end

section
namespace Go.Proofs.YtgpgcnmnfnnkjaaGreatDoor
open Go Go.RowKit Go.PlainAid
def hr1 : Hrd := ⟨1, 0, 0, 0, 7, sNone, []⟩
def hr2 : Hrd := ⟨1, 0, 0, 0, 7, sNone, [⟨1, 0, ⟨#[120]⟩⟩]⟩
def hr3 : Hrd := ⟨1, 0, 1, 1, 7, ⟨#[115]⟩, []⟩
def sW1 : ByteArray := ⟨#[119, 97, 108, 46, 49]⟩
def sW2 : ByteArray := ⟨#[119, 97, 108, 46, 50]⟩
def wr0 : Wl := ⟨0, hrdV, false⟩
def sv1 : Int × Wl × Dk := saveW dk0 wr0 hr1
def wr1 : Wl := ⟨1, hr1, false⟩
def sv2 : Int × Wl × Dk := saveW sv1.2.2 wr1 hr2
def wr2 : Wl := ⟨1, hr2, false⟩
def dw3 : Dk := (cleanW sv2.2.2).2
def sv3 : Int × Wl × Dk := saveW dw3 wr2 hr3
end Go.Proofs.YtgpgcnmnfnnkjaaGreatDoor
end
