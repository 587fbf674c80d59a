/- The plain law of DiskKeeps: a file that was synced stays, whatever is done to others; what is left of what was appended since. -/
import Derived.Test.YtklopbjlpffnbaaDskLaw
import Derived.Test.YtklopbjlpffnbaaDskNames
namespace Go.Proofs.Ytklopbjlpffnbaa
open Go Go.RowKit Go.PlainAid
def sOwn : ByteArray := ⟨#[111, 119, 110]⟩
structure KInv (kp : List UInt8) (k : Nat) (d : Dk) : Prop where
  on : OnD d
  kept : ∀ f ∈ d.fs, f.kept ≤ f.data.length
  tot : totD d.fs ≤ 300 + 300 * k
  len : d.fs.length ≤ 1 + k
  own : getF d.fs sOwn = some ⟨sOwn, kp, kp.length⟩
theorem KInv.ok {kp : List UInt8} {k : Nat} {d : Dk} (h : KInv kp k d) (hk : k ≤ 1000) : okD d = true :=
  okD_of ⟨by have := h.len; omega, by have := h.tot; omega, h.kept, by rw [h.on.left]; decide, by rw [h.on.left]; decide⟩ (by have := h.len; omega)
theorem KInv.up {kp : List UInt8} {k : Nat} {d : Dk} (h : KInv kp k d) : KInv kp (k + 1) d := ⟨h.on, h.kept, by have := h.tot; omega, by have := h.len; omega, h.own⟩
theorem KInv.app {kp : List UInt8} {k : Nat} {d : Dk} (h : KInv kp k d) {s : ByteArray} (hs : s ≠ sOwn) {p : List UInt8} (hp : p.length ≤ 300) : KInv kp (k + 1) (appendD d s p).2 := by
  have ho := append_other (p := p) d hs
  rw [h.own] at ho
  rw [h.on.append] at ho ⊢
  split
  · exact h.up
  · split
    · exact h.up
    · rename_i h1 h2
      rw [if_neg h1, if_neg h2] at ho
      exact ⟨h.on.fs _, kept_addD h.kept s p, by have := h.tot; show totD (addD s p d.fs) ≤ _; rw [totD_addD]; omega, by have h1 := addD_length s p d.fs; have h2 := h.len; show (addD s p d.fs).length ≤ _; omega, ho⟩
theorem KInv.sync {kp : List UInt8} {k : Nat} {d : Dk} (h : KInv kp k d) {s : ByteArray} (hs : s ≠ sOwn) : KInv kp (k + 1) (syncD d s).2 := by
  have ho := sync_other d hs
  rw [h.own] at ho
  unfold syncD at ho ⊢
  rw [h.on.on] at ho ⊢
  rcases find_idx d.fs s with ⟨h1, _⟩ | ⟨j, hj, h1, _, _⟩
  · rw [if_pos (by omega)]; exact h.up
  · rw [if_neg (by omega), h1, Int.toNat_natCast, updD_at hj] at ho ⊢
    refine ⟨h.on.fs _, kept_set h.kept (Nat.le_refl _), ?_, ?_, ho⟩
    · have h2 := totD_set hj (⟨d.fs[j].name, d.fs[j].data, d.fs[j].data.length⟩ : Fil)
      have h3 := h.tot
      show totD (d.fs.set j _) ≤ _
      have h4 : (⟨d.fs[j].name, d.fs[j].data, d.fs[j].data.length⟩ : Fil).data.length = d.fs[j].data.length := rfl
      omega
    · show (d.fs.set j _).length ≤ _; rw [List.length_set]; have := h.len; omega
theorem KInv.rem {kp : List UInt8} {k : Nat} {d : Dk} (h : KInv kp k d) {s : ByteArray} (hs : s ≠ sOwn) : KInv kp (k + 1) (removeD d s).2 := by
  have ho := remove_other d hs
  rw [h.own] at ho
  unfold removeD at ho ⊢
  rw [h.on.on] at ho ⊢
  split
  · exact h.up
  · rename_i h1
    rw [if_neg h1] at ho
    exact ⟨h.on.fs _, fun f hf => h.kept f (delD_sub hf), Nat.le_trans (totD_del _ _) (by have := h.tot; omega), Nat.le_trans (delD_length _ _) (by have := h.len; omega), ho⟩
theorem totD_delD {l : List Fil} {k : Nat} (h : k < l.length) : totD (delD l k) + l[k].data.length = totD l := by
  have e : l = l.take k ++ l[k] :: l.drop (k + 1) := by rw [← List.drop_eq_getElem_cons h, List.take_append_drop]
  have h3 : totD l = totD (l.take k) + (l[k].data.length + totD (l.drop (k + 1))) := by
    conv => lhs; rw [e]
    rw [totD_append, totD_cons]
  unfold delD; rw [totD_append]; omega
theorem moveD_facts {l : List Fil} {k : Nat} (hk : k < l.length) (sn : ByteArray) (hkp : ∀ f ∈ l, f.kept ≤ f.data.length) : totD (moveD sn l k) ≤ totD l ∧ (moveD sn l k).length ≤ l.length ∧ ∀ f ∈ moveD sn l k, f.kept ≤ f.data.length := by
  rw [moveD_at0 hk]
  have h1 := totD_delD hk
  have hm : ∀ m : List Fil, totD m ≤ totD (delD l k) → m.length ≤ (delD l k).length → (∀ f ∈ m, f ∈ l) → totD (putD m ⟨sn, l[k].data, l[k].kept⟩) ≤ totD l ∧ (putD m ⟨sn, l[k].data, l[k].kept⟩).length ≤ l.length ∧ ∀ f ∈ putD m ⟨sn, l[k].data, l[k].kept⟩, f.kept ≤ f.data.length := fun m t1 t2 t3 => by
    refine ⟨?_, ?_, fun f hf => ?_⟩
    · rw [totD_putD]; show totD m + l[k].data.length ≤ _; omega
    · rw [putD_length]
      have : (delD l k).length + 1 = l.length := by unfold delD; rw [List.length_append, List.length_take, List.length_drop]; omega
      omega
    · rcases putD_sub hf with rfl | hf
      · show l[k].kept ≤ l[k].data.length; exact hkp l[k] (List.getElem_mem hk)
      · exact hkp f (t3 f hf)
  split
  · exact hm _ (totD_del _ _) (delD_length _ _) fun f hf => delD_sub (delD_sub hf)
  · exact hm _ (Nat.le_refl _) (Nat.le_refl _) fun f hf => delD_sub hf
theorem KInv.ren {kp : List UInt8} {k : Nat} {d : Dk} (h : KInv kp k d) {s sn : ByteArray} (hs : s ≠ sOwn) (hsn : sn ≠ sOwn) : KInv kp (k + 1) (renameD d s sn).2 := by
  have ho := rename_other d hs hsn
  rw [h.own] at ho
  unfold renameD at ho ⊢
  split
  · exact h.up
  · rename_i hc
    rw [if_neg hc] at ho
    rw [h.on.on] at ho ⊢
    rcases find_idx d.fs s with ⟨h1, _⟩ | ⟨j, hj, h1, _, _⟩
    · rw [if_pos (by omega)]; exact h.up
    · rw [if_neg (by omega), h1, Int.toNat_natCast] at ho ⊢
      obtain ⟨m1, m2, m3⟩ := moveD_facts hj sn h.kept
      have hall : ∀ l', (l' = d.fs ∨ l' = moveD sn d.fs j) → totD l' ≤ totD d.fs ∧ l'.length ≤ d.fs.length ∧ ∀ f ∈ l', f.kept ≤ f.data.length := fun l' hl => by
        rcases hl with rfl | rfl
        · exact ⟨Nat.le_refl _, Nat.le_refl _, h.kept⟩
        · exact ⟨m1, m2, m3⟩
      obtain ⟨a1, a2, a3⟩ := hall (if eqS s sn = true then d.fs else moveD sn d.fs j) (by split; exact .inl rfl; exact .inr rfl)
      exact ⟨h.on.fs _, a3, Nat.le_trans a1 (by have := h.tot; omega), Nat.le_trans a2 (by have := h.len; omega), ho⟩
theorem own_start (kp : List UInt8) (h : kp.length ≤ 300) : ∃ d1 d2, appendD dk0 sOwn kp = (0, d1) ∧ okD d1 = true ∧ syncD d1 sOwn = (0, d2) ∧ KInv kp 0 d2 := by
  refine ⟨oneF sOwn kp 0 false (-1), oneF sOwn kp kp.length false (-1), append_first (by kernel_rfl) (by omega), ok_one (by omega) (Nat.zero_le _) (by decide) (by decide), ?_, ?_⟩
  · have hon : OnD (oneF sOwn kp 0 false (-1)) := ⟨rfl, rfl⟩
    unfold syncD
    rw [hon.on]
    have hx : idxD (oneF sOwn kp 0 false (-1)).fs sOwn = 0 := idx_one _ _ _
    rw [hx, if_neg (by decide)]; rfl
  · refine ⟨⟨rfl, rfl⟩, fun f hf => ?_, by show totD [_] ≤ _; simp [totD]; omega, by simp [oneF], ?_⟩
    · simp only [oneF, List.mem_cons, List.not_mem_nil, or_false] at hf; subst hf; exact Nat.le_refl _
    · unfold getF oneF; rw [List.find?_cons, (hasN_iff.2 rfl : hasN sOwn ⟨sOwn, kp, kp.length⟩ = true)]
theorem own_tail {kp : List UInt8} {k : Nat} {d : Dk} (h : KInv kp k d) (hk : k ≤ 30) {tl : List UInt8} (ht : tl.length ≤ 300) : ∃ d1, appendD d sOwn tl = (0, d1) ∧ okD d1 = true ∧ getF d1.fs sOwn = some ⟨sOwn, kp ++ tl, kp.length⟩ := by
  have hn : namedD sOwn = true := by kernel_rfl
  refine ⟨{ d with fs := addD sOwn tl d.fs }, ?_, ?_, ?_⟩
  · rw [h.on.append, if_neg (by rw [hn]; decide), if_neg (by have := h.tot; omega)]
  · refine okD_of ⟨?_, ?_, kept_addD h.kept _ _, by rw [h.on.left]; decide, by rw [h.on.left]; decide⟩ ?_
    · have h1 := addD_length sOwn tl d.fs; have h2 := h.len; show (addD _ _ _).length ≤ _; omega
    · have := h.tot; show totD (addD _ _ _) ≤ _; rw [totD_addD]; omega
    · have h1 := addD_length sOwn tl d.fs; have h2 := h.len; show (addD _ _ _).length ≤ _; omega
  · show getF (addD sOwn tl d.fs) sOwn = _
    rw [get_addD_self, h.own]; rfl
theorem crash_get (picks : List Int) {s : ByteArray} {f : Fil} : ∀ (l : List Fil) (i : Nat), getF l s = some f → ∃ pick, getF (crashTo picks l i) s = some (tornD pick f)
  | [], _, h => by cases h
  | x :: r, i, h => by
    unfold getF at h ⊢
    rw [crashTo, List.find?_cons]
    rw [List.find?_cons] at h
    have e : hasN s (tornD ((picks[i]?).getD 0) x) = hasN s x := rfl
    rw [e]
    cases hx : hasN s x with
    | true => rw [hx] at h; cases h; exact ⟨_, rfl⟩
    | false => rw [hx] at h; exact crash_get picks r (i + 1) h
theorem tornD_le {pick : Int} {f : Fil} (h : f.kept ≤ f.data.length) : (tornD pick f).data.length ≤ f.data.length := by
  rw [tornD_eq (u := f.data.length - f.kept) (by omega)]; exact tornB_le _ _ _ _
theorem crash_tot (picks : List Int) : ∀ (l : List Fil) (i : Nat), (∀ f ∈ l, f.kept ≤ f.data.length) → totD (crashTo picks l i) ≤ totD l ∧ ∀ f ∈ crashTo picks l i, f.kept ≤ f.data.length
  | [], _, _ => ⟨Nat.le_refl _, fun f hf => by cases hf⟩
  | x :: r, i, h => by
    obtain ⟨h1, h2⟩ := crash_tot picks r (i + 1) fun f hf => h f (by simp [hf])
    have h3 := tornD_le (pick := (picks[i]?).getD 0) (h x (by simp))
    rw [crashTo]
    refine ⟨by rw [totD_cons, totD_cons]; omega, fun f hf => ?_⟩
    rcases List.mem_cons.1 hf with rfl | hf
    · exact Nat.le_refl _
    · exact h2 f hf
theorem okD_crash {d : Dk} (h : okD d = true) (picks : List Int) : okD (crashD d picks) = true := by
  obtain ⟨o, hl⟩ := okD_spec h
  obtain ⟨h1, h2⟩ := crash_tot picks d.fs 0 o.kept
  have h3 : (crashTo picks d.fs 0).length ≤ 999999 := by rw [crashTo_length]; exact hl
  exact okD_of ⟨by show (crashTo _ _ _).length ≤ _; omega, Nat.le_trans h1 o.tot, h2, by show (-1 : Int) ≤ -1; decide, by show (-1 : Int) ≤ _; decide⟩ h3
/-- what is left of a file -/
structure Left (kp tl B : List UInt8) (n : Nat) : Prop where
  len : B.length = kp.length + n
  le : n ≤ tl.length
  pre : B.take kp.length = kp
  at_ : ∀ i (h : i < n), B[kp.length + i]? = some (tl[i]'(Nat.lt_of_lt_of_le h le)) ∨ (i + 1 = n ∧ B[kp.length + i]? = some ((tl[i]'(Nat.lt_of_lt_of_le h le)) ^^^ 255))
theorem left_plain {kp tl : List UInt8} {n : Nat} (h : n ≤ tl.length) : Left kp tl (kp ++ tl.take n) n := by
  refine ⟨by rw [List.length_append, List.length_take]; omega, h, List.take_left' rfl, fun i hi => .inl ?_⟩
  rw [List.getElem?_append_right (by omega), Nat.add_sub_cancel_left, List.getElem?_take, if_pos hi, List.getElem?_eq_getElem (by omega)]
theorem left_flip {kp tl : List UInt8} {n : Nat} (h : n ≤ tl.length) (h0 : 0 < n) : Left kp tl (flipLast (kp ++ tl.take n)) n := by
  have hp := left_plain (kp := kp) h
  have hl : (kp ++ tl.take n).length = (kp.length + (n - 1)) + 1 := by rw [hp.len]; omega
  have hx : (kp ++ tl.take n)[kp.length + (n - 1)]'(by omega) = tl[n - 1]'(by omega) := by
    have h1 : (kp ++ tl.take n)[kp.length + (n - 1)]? = some (tl[n - 1]'(by omega)) := by
      rw [List.getElem?_append_right (by omega), Nat.add_sub_cancel_left, List.getElem?_take, if_pos (by omega), List.getElem?_eq_getElem (by omega)]
    rw [List.getElem?_eq_getElem (by omega)] at h1
    exact Option.some.inj h1
  rw [flipLast_at hl, hx]
  refine ⟨by rw [List.length_set]; exact hp.len, h, ?_, fun i hi => ?_⟩
  · have e : ((kp ++ tl.take n).set (kp.length + (n - 1)) (tl[n - 1] ^^^ 255)).take kp.length = (kp ++ tl.take n).take kp.length := by
      apply List.ext_getElem?
      intro j
      rw [List.getElem?_take, List.getElem?_take]
      split
      · rw [List.getElem?_set_ne (by omega)]
      · rfl
    rw [e]; exact hp.pre
  · by_cases hin : i + 1 = n
    · right
      refine ⟨hin, ?_⟩
      have hi2 : n - 1 = i := by omega
      subst hi2
      rw [List.getElem?_set_self (by omega)]
    · left
      rw [List.getElem?_set_ne (by omega), List.getElem?_append_right (by omega), Nat.add_sub_cancel_left, List.getElem?_take, if_pos hi, List.getElem?_eq_getElem (by omega)]
theorem left_of (P : Nat) (kp tl : List UInt8) : ∃ n, Left kp tl (tornB P tl.length kp.length (kp ++ tl)) n := by
  have hst : P % (tl.length + 1) < tl.length + 1 := Nat.mod_lt _ (Nat.succ_pos _)
  have hL : (kp ++ tl).take (kp.length + P % (tl.length + 1)) = kp ++ tl.take (P % (tl.length + 1)) := by
    rw [List.take_append, List.take_of_length_le (by omega), Nat.add_sub_cancel_left]
  refine ⟨P % (tl.length + 1), ?_⟩
  unfold tornB
  rw [hL]
  split
  · rename_i h; exact left_flip (by omega) h.1
  · exact left_plain (by omega)
theorem own_left {d : Dk} {kp tl : List UInt8} (h : getF d.fs sOwn = some ⟨sOwn, kp ++ tl, kp.length⟩) (picks : List Int) : ∃ B n, Left kp tl B n ∧ getF (crashD d picks).fs sOwn = some ⟨sOwn, B, B.length⟩ := by
  obtain ⟨pick, hp⟩ := crash_get picks d.fs 0 h
  obtain ⟨n, hn⟩ := left_of pick.toNat kp tl
  refine ⟨_, n, hn, ?_⟩
  show getF (crashTo picks d.fs 0) sOwn = _
  rw [hp, tornD_eq (f := ⟨sOwn, kp ++ tl, kp.length⟩) (u := tl.length) (by simp)]
theorem own_stays {d : Dk} {B : List UInt8} (h : getF d.fs sOwn = some ⟨sOwn, B, B.length⟩) (picks : List Int) : getF (crashD d picks).fs sOwn = some ⟨sOwn, B, B.length⟩ := by
  obtain ⟨pick, hp⟩ := crash_get picks d.fs 0 h
  show getF (crashTo picks d.fs 0) sOwn = _
  rw [hp, tornD_eq (f := ⟨sOwn, B, B.length⟩) (u := 0) (by simp)]
  have e : tornB pick.toNat 0 B.length B = B := by
    unfold tornB
    rw [if_neg (fun h => by have := h.1; omega), show pick.toNat % (0 + 1) = 0 from by omega, Nat.add_zero, List.take_length]
  show some (⟨sOwn, tornB pick.toNat 0 B.length B, (tornB pick.toNat 0 B.length B).length⟩ : Fil) = _
  rw [e]
end Go.Proofs.Ytklopbjlpffnbaa
