/- Walks of impostlaw7's row, finds, few, table; VatRuns. -/
import Derived.Test.YtpobhlnlnplbdaaVatC
import Derived.KernelRfl
namespace Go.Proofs.Ytpobhlnlnplbdaa
open Go Go.RowKit

set_option maxHeartbeats 400000 in
theorem vatMk (c : ByteArray) (y m d bp : Int) (w : World) :
    Calls Try.prog 16 #[.string c, .int .i64 y, .int .i64 m, .int .i64 d, .int .i64 bp] w fun e w' => e = .returned (.agg #[.string c, .int .i64 y, .int .i64 m, .int .i64 d, .int .i64 bp]) ∧ Below w.heap.size w w' := by
  go_enter Try.func16, Try.ntmps16
  go_wp2_with fail
  refine bodyPost_ret (v := .agg #[.string c, .int .i64 y, .int .i64 m, .int .i64 d, .int .i64 bp]) (by simp [results, Try.results16, go_sem]) rfl ⟨rfl, ?_⟩
  exact (Below.refl _ _).alloc (Nat.le_refl _) _
set_option maxHeartbeats 1000000 in
theorem vatFinds (v : Value) (l : List Rate) (c : ByteArray) (y m d bp : Int) (is : Bool) (w : World) (hv : Rd rateE w v l) :
    Calls Try.prog 18 #[v, .string c, .int .i64 y, .int .i64 m, .int .i64 d, .int .i64 bp, .bool is] w fun e w' => e = .returned (.bool (decide (findT l c ⟨y, m, d⟩ = (bp, is)))) ∧ Below w.heap.size w w' := by
  have hcall := vatFind v l c ⟨y, m, d⟩ w hv
  obtain ⟨sb, hs⟩ : ∃ z, findT l c ⟨y, m, d⟩ = z := ⟨_, rfl⟩
  rw [hs] at hcall ⊢
  obtain ⟨b, i⟩ := sb
  have hd : decide (((b, i) : Int × Bool) = (bp, is)) = ((b == bp) && (i == is)) := by rw [Bool.eq_iff_iff]; simp
  rw [hd]
  clear hs hd hv
  cases hb : (b == bp)
  all_goals
    go_enter Try.func18, Try.ntmps18
    go_wp2_with fail
    with_reducible refine hcall.mono ?_
    rintro e w1 ⟨rfl, b1⟩
    go_wp2_with fail
    go_ret
    exact ⟨rfl, b1⟩
set_option maxHeartbeats 1000000 in
theorem vatFew (v : Value) (l : List Rate) (w : World) (hv : Rd rateE w v l) :
    Calls Try.prog 20 #[v] w fun e w' => (∃ u, e = .returned u ∧ Rd rateE w u (l.take 40)) ∧ w' = w := by
  obtain ⟨p, cap, rfl⟩ := hv.shape
  by_cases h : 40 < l.length
  · have hs := run_sub_to tRate (P := Try.prog) hv .i64 40 40 rfl (by omega)
    have hr := hv.sub 0 40 (by omega) (by omega)
    have hi : (40 : Int) < (l.length : Int) := by omega
    rw [show rateE.sz = 5 from rfl] at hr
    generalize subV (.slice p l.length cap) 0 40 _ = u at *
    clear hv
    go_enter Try.func20, Try.ntmps20
    go_wp2_with fail
    go_ret
    exact ⟨⟨_, rfl, by simpa using hr⟩, rfl⟩
  · have hi : ¬ (40 : Int) < (l.length : Int) := by omega
    have Hv := Lib.hid hv
    clear hv
    go_enter Try.func20, Try.ntmps20
    go_wp2_with fail
    go_ret
    exact ⟨⟨_, rfl, by rw [List.take_of_length_le (by omega)]; exact Hv.out⟩, rfl⟩

def xv0 : List Rate := [⟨⟨#[102, 111, 111, 100]⟩, ⟨2000, 1, 1⟩, 700⟩, ⟨⟨#[102, 111, 111, 100]⟩, ⟨2020, 7, 1⟩, 500⟩, ⟨⟨#[115, 116, 100]⟩, ⟨2000, 1, 1⟩, 1900⟩]
def xv1 : List Rate := [⟨⟨#[102, 111, 111, 100]⟩, ⟨2000, 1, 1⟩, 700⟩, ⟨⟨#[102, 111, 111, 100]⟩, ⟨2010, 1, 1⟩, 600⟩, ⟨⟨#[102, 111, 111, 100]⟩, ⟨2020, 7, 1⟩, 500⟩, ⟨⟨#[115, 116, 100]⟩, ⟨2000, 1, 1⟩, 1900⟩]
theorem xf0 : findT xv0 ⟨#[102, 111, 111, 100]⟩ ⟨2020, 6, 30⟩ = (700, true) := by kernel_rfl
theorem xf1 : findT xv0 ⟨#[102, 111, 111, 100]⟩ ⟨2020, 7, 1⟩ = (500, true) := by kernel_rfl
theorem xf2 : findT xv0 ⟨#[102, 111, 111, 100]⟩ ⟨1999, 12, 31⟩ = (0, false) := by kernel_rfl
theorem xf3 : findT xv0 ⟨#[114, 101, 110, 116]⟩ ⟨2020, 1, 1⟩ = (0, false) := by kernel_rfl
theorem xf4 : findT xv1 ⟨#[102, 111, 111, 100]⟩ ⟨2015, 1, 1⟩ = (600, true) := by kernel_rfl
theorem xvr : rightT xv0 = true := by kernel_rfl
theorem xp1 : putT xv0 ⟨⟨#[102, 111, 111, 100]⟩, ⟨2010, 1, 1⟩, 600⟩ = .ok xv1 := by kernel_rfl
theorem xp2 : putT xv0 ⟨⟨#[102, 111, 111, 100]⟩, ⟨2000, 1, 1⟩, 1⟩ = .error 12 := by kernel_rfl
theorem xp3 : putT xv0 ⟨⟨#[55, 97]⟩, ⟨2000, 1, 1⟩, 1⟩ = .error 8 := by kernel_rfl

set_option maxHeartbeats 4000000 in
set_option maxRecDepth 100000 in
theorem vatRuns_walk (w : World) : Calls Try.prog 3 #[] w fun e w' => e = .returned (.bool true) ∧ Below w.heap.size w w' := by
  obtain ⟨w0, hw0⟩ : ∃ w0, w0 = w := ⟨_, rfl⟩
  rw [← hw0]
  have b_0 := Below.refl w0.heap.size w0
  clear hw0
  go_enter Try.func3, Try.ntmps3
  go_wp2_with fail
  with_reducible refine (vatMk ⟨#[102, 111, 111, 100]⟩ 2000 1 1 700 _).mono ?_
  rintro e w1 ⟨rfl, c1⟩
  have b_1 := b_0.trans (c1.mono b_0.size)
  clear b_0
  clear c1
  go_wp2_with fail
  with_reducible refine (vatMk ⟨#[102, 111, 111, 100]⟩ 2020 7 1 500 _).mono ?_
  rintro e w2 ⟨rfl, c2⟩
  have b_2 := b_1.trans (c2.mono b_1.size)
  clear b_1
  clear c2
  go_wp2_with fail
  with_reducible refine (vatMk ⟨#[115, 116, 100]⟩ 2000 1 1 1900 _).mono ?_
  rintro e w3 ⟨rfl, c3⟩
  have b_3 := b_2.trans (c3.mono b_2.size)
  clear b_2
  clear c3
  have c4 : Below w3.heap.size w3 (w3.alloc (.cells #[.string ⟨#[102, 111, 111, 100]⟩, .int .i64 2000, .int .i64 1, .int .i64 1, .int .i64 700, .string ⟨#[102, 111, 111, 100]⟩, .int .i64 2020, .int .i64 7, .int .i64 1, .int .i64 500, .string ⟨#[115, 116, 100]⟩, .int .i64 2000, .int .i64 1, .int .i64 1, .int .i64 1900] 25)) := below_alloc w3 _
  have b_4 := b_3.trans (c4.mono b_3.size)
  clear b_3
  clear c4
  have r_4 : Rd rateE (w3.alloc (.cells #[.string ⟨#[102, 111, 111, 100]⟩, .int .i64 2000, .int .i64 1, .int .i64 1, .int .i64 700, .string ⟨#[102, 111, 111, 100]⟩, .int .i64 2020, .int .i64 7, .int .i64 1, .int .i64 500, .string ⟨#[115, 116, 100]⟩, .int .i64 2000, .int .i64 1, .int .i64 1, .int .i64 1900] 25)) (.slice (some ⟨w3.heap.size, 0, none⟩) 3 3) xv0 := OwnR.rd (OwnR.litAt rateE w3 _ _ xv0 3 0 w3.heap.size rfl rfl rfl (by unfold maxLen; omega) (Nat.zero_le _))
  go_wp2_with fail
  generalize hw4 : w3.alloc (.cells #[.string ⟨#[102, 111, 111, 100]⟩, .int .i64 2000, .int .i64 1, .int .i64 1, .int .i64 700, .string ⟨#[102, 111, 111, 100]⟩, .int .i64 2020, .int .i64 7, .int .i64 1, .int .i64 500, .string ⟨#[115, 116, 100]⟩, .int .i64 2000, .int .i64 1, .int .i64 1, .int .i64 1900] 25) = w4 at *
  clear hw4
  with_reducible refine (vatRight _ xv0 _ r_4).mono ?_
  rintro e w5 ⟨rfl, c5⟩
  have b_5 := b_4.trans (c5.mono b_4.size)
  have r_5 := r_4.ext c5
  clear b_4 r_4
  rw [xvr]
  clear c5
  go_wp2_with fail
  with_reducible refine (vatFinds _ xv0 ⟨#[102, 111, 111, 100]⟩ 2020 6 30 700 true _ r_5).mono ?_
  rintro e w6 ⟨rfl, c6⟩
  have b_6 := b_5.trans (c6.mono b_5.size)
  have r_6 := r_5.ext c6
  clear b_5 r_5
  rw [decide_eq_true xf0]
  clear c6
  go_wp2_with fail
  with_reducible refine (vatFinds _ xv0 ⟨#[102, 111, 111, 100]⟩ 2020 7 1 500 true _ r_6).mono ?_
  rintro e w7 ⟨rfl, c7⟩
  have b_7 := b_6.trans (c7.mono b_6.size)
  have r_7 := r_6.ext c7
  clear b_6 r_6
  rw [decide_eq_true xf1]
  clear c7
  go_wp2_with fail
  with_reducible refine (vatFinds _ xv0 ⟨#[102, 111, 111, 100]⟩ 1999 12 31 0 false _ r_7).mono ?_
  rintro e w8 ⟨rfl, c8⟩
  have b_8 := b_7.trans (c8.mono b_7.size)
  have r_8 := r_7.ext c8
  clear b_7 r_7
  rw [decide_eq_true xf2]
  clear c8
  go_wp2_with fail
  with_reducible refine (vatFinds _ xv0 ⟨#[114, 101, 110, 116]⟩ 2020 1 1 0 false _ r_8).mono ?_
  rintro e w9 ⟨rfl, c9⟩
  have b_9 := b_8.trans (c9.mono b_8.size)
  have r_9 := r_8.ext c9
  clear b_8 r_8
  rw [decide_eq_true xf3]
  clear c9
  go_wp2_with fail
  with_reducible refine (vatMk ⟨#[102, 111, 111, 100]⟩ 2010 1 1 600 _).mono ?_
  rintro e w10 ⟨rfl, c10⟩
  have b_10 := b_9.trans (c10.mono b_9.size)
  have r_10 := r_9.ext c10
  clear b_9 r_9
  clear c10
  go_wp2_with fail
  with_reducible refine (vatPut _ xv0 ⟨⟨#[102, 111, 111, 100]⟩, ⟨2010, 1, 1⟩, 600⟩ _ r_10).mono ?_
  rintro e w11 ⟨hT, c11⟩
  have b_11 := b_10.trans (c11.mono b_10.size)
  have r_11 := r_10.ext c11
  clear b_10 r_10
  rw [xp1] at hT
  obtain ⟨vm, rfl, ownM⟩ := hT
  have m_11 := ownM.rd
  clear ownM
  obtain ⟨pm, km, rfl⟩ := m_11.shapeN (n := 4) rfl
  clear c11
  go_wp2_with fail
  with_reducible refine (vatMk ⟨#[102, 111, 111, 100]⟩ 2000 1 1 1 _).mono ?_
  rintro e w12 ⟨rfl, c12⟩
  have b_12 := b_11.trans (c12.mono b_11.size)
  have r_12 := r_11.ext c12
  have m_12 := m_11.ext c12
  clear b_11 r_11 m_11
  clear c12
  go_wp2_with fail
  with_reducible refine (vatPut _ xv0 ⟨⟨#[102, 111, 111, 100]⟩, ⟨2000, 1, 1⟩, 1⟩ _ r_12).mono ?_
  rintro e w13 ⟨hT, c13⟩
  have b_13 := b_12.trans (c13.mono b_12.size)
  have r_13 := r_12.ext c13
  have m_13 := m_12.ext c13
  clear b_12 r_12 m_12
  rw [xp2] at hT
  obtain rfl := hT
  clear c13
  go_wp2_with fail
  with_reducible refine (vatMk ⟨#[55, 97]⟩ 2000 1 1 1 _).mono ?_
  rintro e w14 ⟨rfl, c14⟩
  have b_14 := b_13.trans (c14.mono b_13.size)
  have r_14 := r_13.ext c14
  have m_14 := m_13.ext c14
  clear b_13 r_13 m_13
  clear c14
  go_wp2_with fail
  with_reducible refine (vatPut _ xv0 ⟨⟨#[55, 97]⟩, ⟨2000, 1, 1⟩, 1⟩ _ r_14).mono ?_
  rintro e w15 ⟨hT, c15⟩
  have b_15 := b_14.trans (c15.mono b_14.size)
  have r_15 := r_14.ext c15
  have m_15 := m_14.ext c15
  clear b_14 r_14 m_14
  rw [xp3] at hT
  obtain rfl := hT
  clear c15
  go_wp2_with fail
  with_reducible refine (vatFinds _ xv1 ⟨#[102, 111, 111, 100]⟩ 2015 1 1 600 true _ m_15).mono ?_
  rintro e w16 ⟨rfl, c16⟩
  have b_16 := b_15.trans (c16.mono b_15.size)
  have r_16 := r_15.ext c16
  have m_16 := m_15.ext c16
  clear b_15 r_15 m_15
  rw [decide_eq_true xf4]
  clear c16
  go_wp2_with fail
  go_ret
  exact ⟨rfl, b_16⟩

/-- what the first k rows come to, put one by one -/
theorem table_step {l : List Rate} {k : Nat} (hk : k < l.length) : (l.take (k + 1)).foldl stepT [] = stepT ((l.take k).foldl stepT []) l[k] := by
  rw [List.take_succ_eq_append_getElem hk, List.foldl_append]; rfl
theorem stepT_ok {t m : List Rate} {r : Rate} (h : putT t r = .ok m) : stepT t r = m := by unfold stepT; rw [h]
theorem stepT_no {t : List Rate} {r : Rate} {n : Int} (h : putT t r = .error n) : stepT t r = t := by unfold stepT; rw [h]
def tabT (l : List Rate) : List Rate := (l.take 40).foldl stepT []
theorem tabT_right (l : List Rate) : RightV (tabT l) := (tab_fold _ RightV.nil).1
theorem put_error_ne {t : List Rate} {r : Rate} {n : Int} (h : putT t r = .error n) : n ≠ 0 := by
  unfold putT at h
  split at h
  · cases h; decide
  · split at h
    · cases h; assumption
    · split at h
      · cases h; decide
      · split at h
        · cases h; decide
        · cases h

set_option maxHeartbeats 4000000 in
set_option maxRecDepth 100000 in
theorem vatTable (v : Value) (l : List Rate) (w : World) (hv : Rd rateE w v l) :
    Calls Try.prog 30 #[v] w fun e w' => (∃ u, e = .returned u ∧ OwnR rateE w' w.heap.size 25 u (tabT l)) ∧ Below w.heap.size w w' := by
  obtain ⟨p, cap, rfl, h1, h2, h3, h4⟩ := hv.form
  clear h3 h4
  unfold maxLen at h2
  obtain ⟨w0, hw0⟩ : ∃ w0, w0 = w := ⟨_, rfl⟩
  rw [← hw0] at hv ⊢
  clear hw0
  have Hv := Lib.hid hv
  go_enter Try.func30, Try.ntmps30
  go_wp2_with fail
  go_loopw [3, 4] (fun t i wr => ∃ (k : Nat), k ≤ l.length ∧ k ≤ 40 ∧ i = .int .i64 k ∧ OwnR rateE wr w0.heap.size 25 t ((l.take k).foldl stepT []) ∧ Below w0.heap.size w0 wr) (fun _ i _ => l.length - (intOf i).toNat)
  case atStart => exact ⟨0, by omega, by omega, rfl, OwnR.nil _ _ _, Below.refl _ _⟩
  case round =>
    rename_i t _ _
    obtain ⟨k, hk, hk40, rfl, own, hb⟩ := hrel
    by_cases hlt : k < l.length ∧ k < 40
    · obtain ⟨hlt, h40⟩ := hlt
      obtain ⟨b, off, rfl⟩ := Rd.blk Hv.out (by omega)
      obtain ⟨c0, c1, c2, c3, c4⟩ := rate5 (Hv.out.ext hb) hlt
      have hi : (k : Int) < (l.length : Int) := by omega
      have hi40 : (k : Int) < 40 := by omega
      have hi0 : (0 : Int) ≤ (k : Int) := by omega
      have hst := Lib.hid (table_step hlt)
      have hsz := hb.size
      have hrd := own.rd
      clear hv
      generalize l[k] = x at *
      generalize (l.take k).foldl stepT [] = tl at *
      obtain ⟨pt, ct, rfl⟩ := hrd.shape
      go_wp2_with fail
      with_reducible refine (vatPut _ tl x _ hrd).mono ?_
      rintro e w3 ⟨hT, b3⟩
      have own3 := own.ext b3
      have hb3 := hb.trans (b3.mono hsz)
      clear own hrd c0 c1 c2 c3 c4
      obtain ⟨res, hres⟩ : ∃ z, putT tl x = z := ⟨_, rfl⟩
      rw [hres] at hT
      cases res with
      | error n =>
        have hn := put_error_ne hres
        have Hs := Lib.hid (stepT_no hres)
        obtain rfl := hT
        have n1 : (n == 0) = false := by simpa using hn
        clear hres hn
        go_wp2_with fail
        go_roundw
        case rel => exact ⟨k + 1, by omega, by omega, by go_num, by rw [hst.out, Hs.out]; exact own3, hb3⟩
        case measure => simp [intOf]; omega
      | ok m =>
        have Hs := Lib.hid (stepT_ok hres)
        obtain ⟨vm, rfl, ownM⟩ := hT
        clear hres own3
        go_wp2_with fail
        go_roundw
        case rel => exact ⟨k + 1, by omega, by omega, by go_num, by rw [hst.out, Hs.out]; exact ownM.base hsz, hb3⟩
        case measure => simp [intOf]; omega
    · have he : Hid (tabT l = (l.take k).foldl stepT []) := by
        show _ = _; unfold tabT
        rcases Nat.lt_or_ge k l.length with h | h
        · rw [show k = 40 from by omega]
        · rw [List.take_of_length_le h, List.take_of_length_le (by omega)]
      by_cases hlt2 : k < l.length
      · have hi : (k : Int) < (l.length : Int) := by omega
        have hi40 : ¬ (k : Int) < 40 := by omega
        have Hown := Lib.hid own
        clear own hv hlt
        go_wp2_with fail
        go_ret
        exact ⟨⟨_, rfl, by rw [he.out]; exact Hown.out⟩, hb⟩
      · have hi : ¬ (k : Int) < (l.length : Int) := by omega
        have Hown := Lib.hid own
        clear own hv hlt
        go_wp2_with fail
        go_ret
        exact ⟨⟨_, rfl, by rw [he.out]; exact Hown.out⟩, hb⟩
end Go.Proofs.Ytpobhlnlnplbdaa
