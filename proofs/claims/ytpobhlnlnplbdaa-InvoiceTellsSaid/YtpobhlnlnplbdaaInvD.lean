/- Walks: impostkeep.Totals; invoice.off, Back. -/
import Derived.Test.YtpobhlnlnplbdaaInvC
import Derived.Test.YtpobhlnlnplbdaaBookPart
namespace Go.Proofs.Ytpobhlnlnplbdaa
open Go Go.RowKit BigFrame
instance : DecidableEq Tot := fun a b => decidable_of_iff (a.net = b.net ∧ a.tax = b.tax ∧ a.gross = b.gross ∧ a.parts = b.parts) ⟨fun ⟨h1, h2, h3, h4⟩ => by cases a; cases b; simp_all, fun h => by subst h; exact ⟨rfl, rfl, rfl, rfl⟩⟩
theorem tot_eqb (t u : Tot) : ((t.net == u.net) && ((t.tax == u.tax) && ((t.gross == u.gross) && decide (t.parts = u.parts)))) = decide (t = u) := by
  rw [Bool.eq_iff_iff, decide_eq_true_iff]
  cases t; cases u; simp

set_option maxHeartbeats 2000000 in
set_option maxRecDepth 100000 in
theorem keepTotals (t u : Tot) (v x : Value) (w : World) (hv : Rd partE w v t.parts) (hx : Rd partE w x u.parts) :
    Calls Try.prog 37 #[.agg #[.int .i64 t.net, .int .i64 t.tax, .int .i64 t.gross, v], .agg #[.int .i64 u.net, .int .i64 u.tax, .int .i64 u.gross, x]] w fun e w' => e = .returned (.bool (decide (t = u))) ∧ Below w.heap.size w w' := by
  rw [← tot_eqb]
  have hb1 := below_alloc w (.cells #[.int .i64 t.net, .int .i64 t.tax, .int .i64 t.gross, v] 56)
  have hb2 := below_alloc (w.alloc (.cells #[.int .i64 t.net, .int .i64 t.tax, .int .i64 t.gross, v] 56)) (.cells #[.int .i64 u.net, .int .i64 u.tax, .int .i64 u.gross, x] 56)
  have hbb := hb1.trans (hb2.mono hb1.size)
  have hv2 := hv.ext hbb
  have hx2 := hx.ext hbb
  obtain ⟨p, cp, rfl⟩ := hv.shape
  obtain ⟨q, cq, rfl⟩ := hx.shape
  clear hb1 hb2 hv hx
  cases h1 : (t.net == u.net)
  · go_enter Try.func37, Try.ntmps37
    go_wp2_with fail
    go_ret
    exact ⟨rfl, hbb⟩
  · cases h2 : (t.tax == u.tax)
    · go_enter Try.func37, Try.ntmps37
      go_wp2_with fail
      go_ret
      exact ⟨rfl, hbb⟩
    · cases h3 : (t.gross == u.gross)
      · go_enter Try.func37, Try.ntmps37
        go_wp2_with fail
        go_ret
        exact ⟨rfl, hbb⟩
      · go_enter Try.func37, Try.ntmps37
        go_wp2_with fail
        refine (samePart _ _ t.parts u.parts _ hv2 hx2).mono ?_
        rintro e w1 ⟨rfl, m, rfl⟩
        obtain ⟨z, hz⟩ : ∃ z, z = decide (t.parts = u.parts) := ⟨_, rfl⟩
        rw [← hz]
        have Hz := Lib.hid hz
        clear hz
        go_wp2_with fail
        go_ret
        exact ⟨by simp [Hz.out], hbb.trans (below_drawn _ _ _)⟩

/-- numbers laid one by one at places -/
def setAll : World → List (Nat × Nat) → List Int → World
  | w, a :: ads, x :: xs => setAll (w.setCell ⟨a.1, a.2, none⟩ (.int .i64 x)) ads xs
  | w, _, _ => w
theorem setAll_snoc : ∀ (ads : List (Nat × Nat)) (xs : List Int) (a : Nat × Nat) (x : Int) (w : World), ads.length = xs.length → setAll w (ads ++ [a]) (xs ++ [x]) = (setAll w ads xs).setCell ⟨a.1, a.2, none⟩ (.int .i64 x)
  | [], [], a, x, w, _ => rfl
  | b :: ads, y :: xs, a, x, w, h => by
    simp only [List.cons_append, setAll]
    exact setAll_snoc ads xs a x _ (by simpa using h)
theorem setAll_cell (b o : Nat) : ∀ (ads : List (Nat × Nat)) (xs : List Int) (w : World), (∀ a ∈ ads, a ≠ (b, o)) → (setAll w ads xs).cell? ⟨b, o, none⟩ = w.cell? ⟨b, o, none⟩
  | [], _, _, _ => by unfold setAll; rfl
  | a :: ads, [], _, _ => by unfold setAll; rfl
  | a :: ads, x :: xs, w, h => by
    rw [setAll, setAll_cell b o ads xs _ (fun a ha => h a (by simp [ha]))]
    refine World.cell?_setCell_other _ _ _ _ ?_
    intro e
    have := h a (by simp)
    simp only [Addr.mk.injEq, and_true] at e
    exact this (Prod.ext e.1 e.2)
theorem setAll_frozen (p : Addr) : ∀ (ads : List (Nat × Nat)) (xs : List Int) (w : World), (setAll w ads xs).frozen? p = w.frozen? p
  | [], _, _ => by unfold setAll; rfl
  | a :: ads, [], _ => by unfold setAll; rfl
  | a :: ads, x :: xs, w => by rw [setAll, setAll_frozen p ads xs, World.frozen?_setCell]
theorem setAll_below {B : Nat} : ∀ {ads : List (Nat × Nat)} {xs : List Int} {w0 w : World}, Below B w0 w → (∀ a ∈ ads, B ≤ a.1) → Below B w0 (setAll w ads xs)
  | [], _, _, _, hb, _ => by unfold setAll; exact hb
  | a :: ads, [], _, _, hb, _ => by unfold setAll; exact hb
  | a :: ads, x :: xs, w0, w, hb, h => by
    rw [setAll]
    exact setAll_below (hb.setCell (h a (by simp)) _) (fun a ha => h a (by simp [ha]))
theorem setAll_blk {g : Nat} {cs : Array Value} {t : TypeId} : ∀ {ads : List (Nat × Nat)} {xs : List Int} {w : World}, Blk w g cs t → (∀ a ∈ ads, a.1 ≠ g) → Blk (setAll w ads xs) g cs t
  | [], _, _, hb, _ => by unfold setAll; exact hb
  | a :: ads, [], _, hb, _ => by unfold setAll; exact hb
  | a :: ads, x :: xs, w, hb, h => by
    rw [setAll]
    refine setAll_blk (w := w.setCell ⟨a.1, a.2, none⟩ (.int .i64 x)) ?_ (fun a ha => h a (by simp [ha]))
    unfold Blk at *
    rw [heap_setCell_other _ _ _ _ (fun e => h a (by simp) e.symm)]; exact hb
def OffR (w : World) (ads : List (Nat × Nat)) (xs : List Int) (e : Ending) (w' : World) : Prop :=
  ∃ ee, e = .returned (.int .i64 ee) ∧ ((ee = 0 ∧ xs.all (fun x => decide (Mon.fits (0 - x))) = true ∧ w' = setAll w ads (xs.map fun x => 0 - x)) ∨
    (ee = 7 ∧ xs.all (fun x => decide (Mon.fits (0 - x))) = false ∧ ∃ k, w' = setAll w (ads.take k) ((xs.map fun x => 0 - x).take k)))

set_option maxHeartbeats 4000000 in
set_option maxRecDepth 100000 in
theorem invOff (B b off cap : Nat) (ads : List (Nat × Nat)) (xs : List Int) (w : World) (hl : ads.length = xs.length) (hc : ads.length ≤ cap) (hm : cap ≤ maxLen)
    (hp : ∀ i (h : i < ads.length), w.cell? ⟨b, off + i, none⟩ = some (.pointer (some ⟨ads[i].1, ads[i].2, none⟩))) (hpb : ∀ a ∈ ads, a.1 ≠ b)
    (hx : ∀ i (h : i < ads.length) x, xs[i]? = some x → w.cell? ⟨ads[i].1, ads[i].2, none⟩ = some (.int .i64 x)) (hz : ∀ a ∈ ads, w.frozen? ⟨a.1, a.2, none⟩ = false)
    (hnd : ads.Nodup) (hf : ∀ x ∈ xs, Mon.fits x) (hB : ∀ a ∈ ads, B ≤ a.1) :
    Calls Try.prog 63 #[.slice (some ⟨b, off, none⟩) ads.length cap] w fun e w' => OffR w ads xs e w' ∧ Below B w w' := by
  unfold maxLen at hm
  have Hp := Lib.hid hp
  have Hx := Lib.hid hx
  have Hz := Lib.hid hz
  have Hl := Lib.hid hl
  clear hp hx hz hl
  go_enter Try.func63, Try.ntmps63
  go_wp2_with fail
  go_loopw [9] (fun i wr => ∃ k : Nat, k ≤ ads.length ∧ i = .int .i64 k ∧ Hid (wr = setAll w (ads.take k) ((xs.map fun x => 0 - x).take k)) ∧ Hid (∀ x ∈ xs.take k, Mon.fits (0 - x))) (fun i _ => ads.length - (intOf i).toNat)
  case atStart => exact ⟨0, by omega, rfl, by show _ = _; rw [List.take_zero, List.take_zero]; unfold setAll; rfl, fun x hx => by simp at hx⟩
  case round =>
    obtain ⟨k, hk, rfl, hw, hall⟩ := hrel
    have hki0 : (0 : Int) ≤ (k : Int) := by omega
    have hb : Below B w wr := by rw [hw.out]; exact setAll_below (Below.refl _ _) (fun a ha => hB a (List.mem_of_mem_take ha))
    by_cases hlt : k < ads.length
    · have hi : (k : Int) < (ads.length : Int) := by omega
      have hkx : k < xs.length := by have := Hl.out; omega
      have c0 : wr.cell? ⟨b, off + k, none⟩ = some (.pointer (some ⟨ads[k].1, ads[k].2, none⟩)) := by
        rw [hw.out, setAll_cell b (off + k) _ _ _ (fun a ha e => hpb a (List.mem_of_mem_take ha) (by rw [e]))]; exact Hp.out k hlt
      have c1 : wr.cell? ⟨ads[k].1, ads[k].2, none⟩ = some (.int .i64 xs[k]) := by
        rw [hw.out, setAll_cell _ _ _ _ _ (fun a ha e => ?_)]
        · exact Hx.out k hlt _ (List.getElem?_eq_getElem hkx)
        · obtain ⟨j, hj, rfl⟩ := List.getElem_of_mem ha
          rw [List.getElem_take] at e
          have hj2 : j < k := by rw [List.length_take] at hj; omega
          exact List.pairwise_iff_getElem.1 hnd j k (by omega) hlt hj2 e
      have f1 : wr.frozen? ⟨ads[k].1, ads[k].2, none⟩ = false := by rw [hw.out, setAll_frozen]; exact Hz.out _ (List.getElem_mem _)
      have hstep : Hid (wr.setCell ⟨ads[k].1, ads[k].2, none⟩ (.int .i64 (0 - xs[k])) = setAll w (ads.take (k + 1)) ((xs.map fun x => 0 - x).take (k + 1))) := by
        show _ = _
        rw [List.take_succ_eq_append_getElem hlt, List.take_succ_eq_append_getElem (by simpa using hkx), setAll_snoc _ _ _ _ _ (by simp; omega), hw.out]; simp
      have hal2 : Hid (Mon.fits (0 - xs[k]) → ∀ x ∈ xs.take (k + 1), Mon.fits (0 - x)) := fun h x hx => by
        rw [List.take_succ_eq_append_getElem hkx] at hx
        rcases List.mem_append.1 hx with hx | hx
        · exact hall.out x hx
        · simp at hx; rw [hx]; exact h
      have hno : Hid (¬ Mon.fits (0 - xs[k]) → xs.all (fun x => decide (Mon.fits (0 - x))) = false) := fun h => by
        rw [List.all_eq_false]; exact ⟨xs[k], List.getElem_mem _, by simpa using h⟩
      have hfx := hf _ (List.getElem_mem hkx)
      generalize xs[k] = x at *
      obtain ⟨a, ha⟩ : ∃ a, ads[k] = a := ⟨_, rfl⟩
      rw [ha] at c0 c1 f1 hstep
      have hsub := fun w => moneySub 0 x w fits0 hfx
      have Hw := Lib.hid hw.out
      clear ha hw hall
      go_wp2_with fail
      with_reducible refine (hsub _).mono ?_
      rintro e w' ⟨rfl, rfl⟩
      clear hsub
      by_cases hq : Mon.fits (0 - x)
      · rw [Mon.told_ok hq]
        have Hall := Lib.hid (hal2.out hq)
        clear hal2 hno hq
        generalize 0 - x = y at *
        go_wp2_with fail
        go_roundw
        case rel => exact ⟨k + 1, by omega, by go_num, hstep, Hall.out⟩
        case measure => simp [intOf]; omega
      · rw [Mon.told_no hq]
        have Hno := Lib.hid (hno.out hq)
        clear hal2 hno hq hstep
        go_wp2_with fail
        go_ret
        exact ⟨⟨7, rfl, .inr ⟨rfl, Hno.out, k, Hw.out⟩⟩, hb⟩
    · have hi : ¬ (k : Int) < (ads.length : Int) := by omega
      have hall2 : Hid (xs.all (fun x => decide (Mon.fits (0 - x))) = true) := by
        show _ = _
        rw [List.all_eq_true]; intro x hx
        have h := hall.out x (by rw [List.take_of_length_le (by have := Hl.out; omega)]; exact hx)
        simpa using h
      have hw2 : Hid (wr = setAll w ads (xs.map fun x => 0 - x)) := by
        show _ = _
        rw [hw.out, List.take_of_length_le (by omega), List.take_of_length_le (by have := Hl.out; simp; omega)]
      clear hw hall
      go_wp2_with fail
      go_ret
      exact ⟨⟨0, rfl, .inl ⟨rfl, hall2.out, hw2.out⟩⟩, hb⟩
end Go.Proofs.Ytpobhlnlnplbdaa
