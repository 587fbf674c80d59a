/- impostlaw11's few and table. -/
import Derived.Test.YtpobhlnlnplbdaaInvRuns
namespace Go.Proofs.Ytpobhlnlnplbdaa
open Go Go.RowKit
def tabI (l : List Rate) : List Rate := (l.take 30).foldl stepT []
theorem tabI_right (l : List Rate) : RightV (tabI l) := (tab_fold _ RightV.nil).1
set_option maxHeartbeats 4000000 in
theorem invFew (v u : Value) (l : List Rate) (m : List Ln) (w : World) (hv : Rd rateE w v l) (hu : Rd lnE w u m) :
    Calls Try.prog 38 #[v, u] w fun e w' => (∃ x y, e = .returned (.tuple #[x, y]) ∧ Rd rateE w x (l.take 30) ∧ Rd lnE w y (m.take 20)) ∧ w' = w := by
  obtain ⟨p, cap, rfl⟩ := hv.shape
  obtain ⟨q, cup, rfl⟩ := hu.shape
  by_cases h1 : 30 < l.length
  · have sa := run_sub_to tRate (P := Try.prog) hv .i64 30 30 rfl (by omega)
    have ra := hv.sub 0 30 (by omega) (by omega)
    have ia : (30 : Int) < (l.length : Int) := by omega
    rw [show rateE.sz = 5 from rfl] at ra
    generalize subV (.slice p l.length cap) 0 30 _ = va at *
    replace ra : Rd rateE w va (l.take 30) := by simpa using ra
    by_cases h2 : 20 < m.length
    · have sb := run_sub_to tLn (P := Try.prog) hu .i64 20 20 rfl (by omega)
      have rb := hu.sub 0 20 (by omega) (by omega)
      have ib : (20 : Int) < (m.length : Int) := by omega
      rw [show lnE.sz = 4 from rfl] at rb
      generalize subV (.slice q m.length cup) 0 20 _ = vb at *
      replace rb : Rd lnE w vb (m.take 20) := by simpa using rb
      clear hv hu
      go_enter Try.func38, Try.ntmps38
      go_wp2_with fail
      refine bodyPost_ret (v := .tuple #[va, vb]) (by simp [results, Try.results38, go_sem]) rfl ?_
      exact ⟨⟨_, _, rfl, ra, rb⟩, rfl⟩
    · have ib : ¬ (20 : Int) < (m.length : Int) := by omega
      have rb : Rd lnE w (.slice q m.length cup) (m.take 20) := by rw [List.take_of_length_le (by omega)]; exact hu
      clear hv hu
      go_enter Try.func38, Try.ntmps38
      go_wp2_with fail
      refine bodyPost_ret (v := .tuple #[va, .slice q m.length cup]) (by simp [results, Try.results38, go_sem]) rfl ?_
      exact ⟨⟨_, _, rfl, ra, rb⟩, rfl⟩
  · have ia : ¬ (30 : Int) < (l.length : Int) := by omega
    have ra : Rd rateE w (.slice p l.length cap) (l.take 30) := by rw [List.take_of_length_le (by omega)]; exact hv
    by_cases h2 : 20 < m.length
    · have sb := run_sub_to tLn (P := Try.prog) hu .i64 20 20 rfl (by omega)
      have rb := hu.sub 0 20 (by omega) (by omega)
      have ib : (20 : Int) < (m.length : Int) := by omega
      rw [show lnE.sz = 4 from rfl] at rb
      generalize subV (.slice q m.length cup) 0 20 _ = vb at *
      replace rb : Rd lnE w vb (m.take 20) := by simpa using rb
      clear hv hu
      go_enter Try.func38, Try.ntmps38
      go_wp2_with fail
      refine bodyPost_ret (v := .tuple #[.slice p l.length cap, vb]) (by simp [results, Try.results38, go_sem]) rfl ?_
      exact ⟨⟨_, _, rfl, ra, rb⟩, rfl⟩
    · have ib : ¬ (20 : Int) < (m.length : Int) := by omega
      have rb : Rd lnE w (.slice q m.length cup) (m.take 20) := by rw [List.take_of_length_le (by omega)]; exact hu
      clear hv hu
      go_enter Try.func38, Try.ntmps38
      go_wp2_with fail
      refine bodyPost_ret (v := .tuple #[.slice p l.length cap, .slice q m.length cup]) (by simp [results, Try.results38, go_sem]) rfl ?_
      exact ⟨⟨_, _, rfl, ra, rb⟩, rfl⟩
set_option maxHeartbeats 4000000 in
set_option maxRecDepth 100000 in
theorem invTable (v : Value) (l : List Rate) (w : World) (hv : Rd rateE w v l) :
    Calls Try.prog 42 #[v] w fun e w' => (∃ u, e = .returned u ∧ OwnR rateE w' w.heap.size 25 u (tabI l)) ∧ Below w.heap.size w w' := by
  obtain ⟨p, cap, rfl, h1, h2, h3, h4⟩ := hv.form
  clear h3 h4
  unfold maxLen at h2
  obtain ⟨w0, hw0⟩ : ∃ w0, w0 = w := ⟨_, rfl⟩
  rw [← hw0] at hv ⊢
  clear hw0
  have Hv := Lib.hid hv
  go_enter Try.func42, Try.ntmps42
  go_wp2_with fail
  go_loopw [3, 4] (fun t i wr => ∃ (k : Nat), k ≤ l.length ∧ k ≤ 30 ∧ i = .int .i64 k ∧ OwnR rateE wr w0.heap.size 25 t ((l.take k).foldl stepT []) ∧ Below w0.heap.size w0 wr) (fun _ i _ => l.length - (intOf i).toNat)
  case atStart => exact ⟨0, by omega, by omega, rfl, OwnR.nil _ _ _, Below.refl _ _⟩
  case round =>
    rename_i t _ _
    obtain ⟨k, hk, hk30, rfl, own, hb⟩ := hrel
    by_cases hlt : k < l.length ∧ k < 30
    · obtain ⟨hlt, h30⟩ := hlt
      obtain ⟨b, off, rfl⟩ := Rd.blk Hv.out (by omega)
      obtain ⟨c0, c1, c2, c3, c4⟩ := rate5 (Hv.out.ext hb) hlt
      have hi : (k : Int) < (l.length : Int) := by omega
      have hi30 : (k : Int) < 30 := by omega
      have hi0 : (0 : Int) ≤ (k : Int) := by omega
      have hst := Lib.hid (table_step hlt)
      have hsz := hb.size
      have hrd := own.rd
      clear hv
      generalize l[k] = x at *
      generalize (l.take k).foldl stepT [] = tl at *
      obtain ⟨pt, ct, rfl⟩ := hrd.shape
      go_wp2_with fail
      with_reducible refine (vatPut _ tl x _ hrd).mono ?_
      rintro e w3 ⟨hT, b3⟩
      have own3 := own.ext b3
      have hb3 := hb.trans (b3.mono hsz)
      clear own hrd c0 c1 c2 c3 c4
      obtain ⟨res, hres⟩ : ∃ z, putT tl x = z := ⟨_, rfl⟩
      rw [hres] at hT
      cases res with
      | error n =>
        have hn := put_error_ne hres
        have Hs := Lib.hid (stepT_no hres)
        obtain rfl := hT
        have n1 : (n == 0) = false := by simpa using hn
        clear hres hn
        go_wp2_with fail
        go_roundw
        case rel => exact ⟨k + 1, by omega, by omega, by go_num, by rw [hst.out, Hs.out]; exact own3, hb3⟩
        case measure => simp [intOf]; omega
      | ok m =>
        have Hs := Lib.hid (stepT_ok hres)
        obtain ⟨vm, rfl, ownM⟩ := hT
        clear hres own3
        go_wp2_with fail
        go_roundw
        case rel => exact ⟨k + 1, by omega, by omega, by go_num, by rw [hst.out, Hs.out]; exact ownM.base hsz, hb3⟩
        case measure => simp [intOf]; omega
    · have he : Hid (tabI l = (l.take k).foldl stepT []) := by
        show _ = _; unfold tabI
        rcases Nat.lt_or_ge k l.length with h | h
        · rw [show k = 30 from by omega]
        · rw [List.take_of_length_le h, List.take_of_length_le (by omega)]
      by_cases hlt2 : k < l.length
      · have hi : (k : Int) < (l.length : Int) := by omega
        have hi30 : ¬ (k : Int) < 30 := by omega
        have Hown := Lib.hid own
        clear own hv hlt
        go_wp2_with fail
        go_ret
        exact ⟨⟨_, rfl, by rw [he.out]; exact Hown.out⟩, hb⟩
      · have hi : ¬ (k : Int) < (l.length : Int) := by omega
        have Hown := Lib.hid own
        clear own hv hlt
        go_wp2_with fail
        go_ret
        exact ⟨⟨_, rfl, by rw [he.out]; exact Hown.out⟩, hb⟩
end Go.Proofs.Ytpobhlnlnplbdaa
