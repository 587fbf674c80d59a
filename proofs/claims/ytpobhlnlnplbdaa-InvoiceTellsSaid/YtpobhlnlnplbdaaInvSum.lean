/- The walk of InvoiceSums. -/
import Derived.Test.YtpobhlnlnplbdaaInvTab
import Derived.Test.YtpobhlnlnplbdaaInvSumP
namespace Go.Proofs.Ytpobhlnlnplbdaa
open Go Go.RowKit
/-- a total that lies in a block, and its error's number -/
def TotIn (w0 : World) (t : Tot) (n : Int) (ta te : Value) (wx : World) : Prop := ∃ (N : Nat) (v : Value), ta = .pointer (some ⟨N, 0, none⟩) ∧ te = .int .i64 n ∧ Blk wx N #[.int .i64 t.net, .int .i64 t.tax, .int .i64 t.gross, v] 56 ∧ Rd partE wx v t.parts ∧ Below w0.heap.size w0 wx
theorem TotIn.set {w0 z X : World} {NZ : Nat} {v : Value} {t : Tot} {n : Int} (own : OwnR partE z X.heap.size 64 v t.parts) (k : Blk z NZ #[.int .i64 0, .int .i64 0, .int .i64 0, .slice none 0 0] 56) (hlt : NZ < X.heap.size) (hz : Below w0.heap.size w0 z) (hge : w0.heap.size ≤ NZ) :
    TotIn w0 t n (.pointer (some ⟨NZ, 0, none⟩)) (.int .i64 n) ((((z.setCell ⟨NZ, 0, none⟩ (.int .i64 t.net)).setCell ⟨NZ, 1, none⟩ (.int .i64 t.tax)).setCell ⟨NZ, 2, none⟩ (.int .i64 t.gross)).setCell ⟨NZ, 3, none⟩ v) := by
  have hn : ∀ x, x = v → x.ownBlock ≠ some NZ := fun x e => by rw [e]; exact own.notAt hlt
  refine ⟨NZ, _, rfl, rfl, (((k.set 0 _).set 1 _).set 2 _).set 3 _, ?_, (((hz.setCell hge _).setCell hge _).setCell hge _).setCell hge _⟩
  exact Rd.away (p := ⟨NZ, 3, none⟩) (Rd.away (p := ⟨NZ, 2, none⟩) (Rd.away (p := ⟨NZ, 1, none⟩) (Rd.away (p := ⟨NZ, 0, none⟩) own.rd _ (hn _ rfl)) _ (hn _ rfl)) _ (hn _ rfl)) _ (hn _ rfl)
theorem TotIn.new {w0 z : World} {v : Value} {t : Tot} {n : Int} (r : Rd partE z v t.parts) (hz : Below w0.heap.size w0 z) :
    TotIn w0 t n (.pointer (some ⟨z.heap.size, 0, none⟩)) (.int .i64 n) (z.alloc (.cells #[.int .i64 t.net, .int .i64 t.tax, .int .i64 t.gross, v] 56)) :=
  ⟨_, v, rfl, rfl, Blk.new _ _ _, r.ext (below_alloc _ _), hz.trans ((below_alloc _ _).mono hz.size)⟩

set_option maxHeartbeats 8000000 in
set_option maxRecDepth 100000 in
theorem invoiceSums_walk (vt : Value) (T : List Rate) (d : Day) (vl : Value) (ls : List Ln) (w : World) (ht : Rd rateE w vt T) (hv : Rd lnE w vl ls) (hf : ∀ x ∈ ls, Mon.fits x.count ∧ Mon.fits x.price) :
    Calls Try.prog 12 #[vt, .agg #[.int .i64 d.y, .int .i64 d.m, .int .i64 d.d], vl] w fun e w' => e = .returned (.bool true) ∧ Below w.heap.size w w' := by
  obtain ⟨w0, hw0⟩ : ∃ w0, w0 = w := ⟨_, rfl⟩
  rw [← hw0] at ht hv ⊢
  clear hw0
  have hb1 := below_alloc w0 (.cells #[.int .i64 d.y, .int .i64 d.m, .int .i64 d.d] 23)
  have kd := Blk.new w0 #[.int .i64 d.y, .int .i64 d.m, .int .i64 d.d] 23
  have b_1 := hb1
  have ht1 := ht.ext hb1
  have hv1 := hv.ext hb1
  clear ht hv hb1
  go_enter Try.func12, Try.ntmps12
  go_wp2_with fail
  generalize hw1 : w0.alloc (.cells #[.int .i64 d.y, .int .i64 d.m, .int .i64 d.d] 23) = w1 at *
  clear hw1
  with_reducible refine (invFew _ _ T ls _ ht1 hv1).mono ?_
  rintro e w' ⟨⟨x, y, rfl, rT, rL⟩, hw'⟩
  have hw2 := hw'.symm
  clear hw'
  subst hw2
  have hf2 : ∀ x ∈ ls.take 20, Mon.fits x.count ∧ Mon.fits x.price := fun x hx => hf x (List.mem_of_mem_take hx)
  generalize T.take 30 = T1 at *
  generalize ls.take 20 = l1 at *
  clear ht1 hv1 hf
  have Hf := Lib.hid hf2
  clear hf2
  go_upto_region 2 with (fail)
  obtain ⟨z1, hz1⟩ : ∃ z, totalV (tabI T1) d l1 = z := ⟨_, rfl⟩
  have Hz := Lib.hid hz1
  clear hz1
  go_cut [7, 8] from 18 to 25 (fun ta te wx => TotIn w1 (resT z1) (errT z1) ta te wx)
  case first =>
    have d0 := kd.cell 0 _ rfl
    have d1 := kd.cell 1 _ rfl
    have d2 := kd.cell 2 _ rfl
    go_region_held3 (fun w' => w'.cell? ⟨w0.heap.size, 0, none⟩ = some (.int .i64 d.y) ∧ w'.cell? ⟨w0.heap.size, 1, none⟩ = some (.int .i64 d.m) ∧ w'.cell? ⟨w0.heap.size, 2, none⟩ = some (.int .i64 d.d))
      (first | with_reducible exact ⟨(kdz.out _ _ _ _).cell 0 _ rfl, (kdz.out _ _ _ _).cell 1 _ rfl, (kdz.out _ _ _ _).cell 2 _ rfl⟩ | go_keep)
      (first
            | (go_at_call 42; (with_reducible refine (invTable _ T1 _ (by first | with_reducible exact rT.drew | with_reducible exact (rT.ext (below_alloc _ _)).drew)).mono ?_); (rintro e z0 ⟨hTb, a0⟩); (obtain ⟨ut, rfl, ownTb⟩ := hTb); (have rTb := ownTb.rd); clear ownTb; (have hz0 : Below w1.heap.size w1 z0 := (by first | with_reducible exact (below_drew w1.heap.size w1).trans (a0.mono (below_drew w1.heap.size w1).size) | with_reducible exact ((below_alloc w1 _).trans (below_drew _ _)).trans (a0.mono ((below_alloc w1 _).trans (below_drew _ _)).size))); (have ka0 := kd.ext hz0); (have h0_0 := ka0.cell 0 _ rfl); (have h0_1 := ka0.cell 1 _ rfl); (have h0_2 := ka0.cell 2 _ rfl))
            | (go_at_call 35; (with_reducible change Calls _ _ _ z0 _); (have kz : Blk z0 (w1.heap.size) #[.int .i64 0, .int .i64 0, .int .i64 0, .slice none 0 0] 56 := (by with_reducible exact ((Blk.new w1 #[.int .i64 0, .int .i64 0, .int .i64 0, .slice none 0 0] 56).drew).ext a0)); (have bX : Below w1.heap.size w1 z0 := hz0); (have rX : Rd rateE z0 ut (tabI T1) := rTb); (have lX := rL.ext bX); (with_reducible refine (invTotal _ _ (tabI T1) d l1 _ rX lX Hf.out).mono ?_); (rintro e z3 ⟨hT, a3⟩); (rw [Hz.out] at hT); (obtain ⟨vT, rfl, ownT⟩ := hT.uni); clear hT; (have rP := ownT.rd); (obtain ⟨pT, cT, rfl⟩ := rP.shape); (have hz3 := bX.trans (a3.mono bX.size)); (have ka3 := kd.ext hz3); (have g0 := ka3.cell 0 _ rfl); (have g1 := ka3.cell 1 _ rfl); (have g2 := ka3.cell 2 _ rfl); (have kz9 := kz.ext a3); (have e0 := kz9.cell 0 _ rfl); (have f0 := kz9.frozen 0); (have e1 := kz9.cell 1 _ rfl); (have f1 := kz9.frozen 1); (have e2 := kz9.cell 2 _ rfl); (have f2 := kz9.frozen 2); (have e3 := kz9.cell 3 _ rfl); (have f3 := kz9.frozen 3); (have hge : w1.heap.size ≤ w1.heap.size := Nat.le_refl _); (have hltz := kz.lt); (have hne : w0.heap.size ≠ w1.heap.size := by have h1 := kd.lt; omega); (have kdz0 := fun a b c d => ka3.aside4 hne a b c d); (have kdz := Lib.hid kdz0); clear kdz0)
            | (go_at_call 35; (with_reducible change Calls _ _ _ (z0.alloc (.cells #[.int .i64 0, .int .i64 0, .int .i64 0, .slice none 0 0] 56)) _); (have kz : Blk (z0.alloc (.cells #[.int .i64 0, .int .i64 0, .int .i64 0, .slice none 0 0] 56)) (z0.heap.size) #[.int .i64 0, .int .i64 0, .int .i64 0, .slice none 0 0] 56 := (by with_reducible exact Blk.new z0 #[.int .i64 0, .int .i64 0, .int .i64 0, .slice none 0 0] 56)); (have bX : Below w1.heap.size w1 (z0.alloc (.cells #[.int .i64 0, .int .i64 0, .int .i64 0, .slice none 0 0] 56)) := (hz0.trans ((below_alloc _ _).mono hz0.size))); (have rX : Rd rateE (z0.alloc (.cells #[.int .i64 0, .int .i64 0, .int .i64 0, .slice none 0 0] 56)) ut (tabI T1) := rTb.ext (below_alloc _ _)); (have lX := rL.ext bX); (with_reducible refine (invTotal _ _ (tabI T1) d l1 _ rX lX Hf.out).mono ?_); (rintro e z3 ⟨hT, a3⟩); (rw [Hz.out] at hT); (obtain ⟨vT, rfl, ownT⟩ := hT.uni); clear hT; (have rP := ownT.rd); (obtain ⟨pT, cT, rfl⟩ := rP.shape); (have hz3 := bX.trans (a3.mono bX.size)); (have ka3 := kd.ext hz3); (have g0 := ka3.cell 0 _ rfl); (have g1 := ka3.cell 1 _ rfl); (have g2 := ka3.cell 2 _ rfl); (have kz9 := kz.ext a3); (have e0 := kz9.cell 0 _ rfl); (have f0 := kz9.frozen 0); (have e1 := kz9.cell 1 _ rfl); (have f1 := kz9.frozen 1); (have e2 := kz9.cell 2 _ rfl); (have f2 := kz9.frozen 2); (have e3 := kz9.cell 3 _ rfl); (have f3 := kz9.frozen 3); (have hge : w1.heap.size ≤ z0.heap.size := hz0.size); (have hltz := kz.lt); (have hne : w0.heap.size ≠ z0.heap.size := by have h1 := kd.lt; omega); (have kdz0 := fun a b c d => ka3.aside4 hne a b c d); (have kdz := Lib.hid kdz0); clear kdz0)
            | (go_at_call 35; (with_reducible change Calls _ _ _ z0 _); (have bX : Below w1.heap.size w1 z0 := hz0); (have rX : Rd rateE z0 ut (tabI T1) := rTb); (have lX := rL.ext bX); (with_reducible refine (invTotal _ _ (tabI T1) d l1 _ rX lX Hf.out).mono ?_); (rintro e z3 ⟨hT, a3⟩); (rw [Hz.out] at hT); (obtain ⟨vT, rfl, ownT⟩ := hT.uni); clear hT; (have rP := ownT.rd); (obtain ⟨pT, cT, rfl⟩ := rP.shape); (have hz3 := bX.trans (a3.mono bX.size)); (have ka3 := kd.ext hz3); (have g0 := ka3.cell 0 _ rfl); (have g1 := ka3.cell 1 _ rfl); (have g2 := ka3.cell 2 _ rfl)))
    all_goals go_wp2_with fail
    all_goals go_meet
    all_goals first | exact TotIn.set ownT kz9 hltz hz3 hge | exact TotIn.new rP hz3
  case rest =>
    obtain ⟨N, v, rfl, rfl, kt, rt, hb⟩ := hcut
    clear rT rL Hf kd
    have b2 := b_1.trans (hb.mono b_1.size)
    clear hb b_1
    have bz := b2.size
    cases z1 with
    | error n =>
      have hn : n ≠ 0 := totalV_ne Hz.out
      have hn1 : (n != 0) = true := by simpa using hn
      have t0 := kt.cell 0 _ rfl
      have t1 := kt.cell 1 _ rfl
      have t2 := kt.cell 2 _ rfl
      have t3 := kt.cell 3 _ rfl
      simp only [resT, errT, tot0] at *
      obtain ⟨pv, cv, rfl⟩ := rt.shapeN (n := 0) rfl
      clear rt kt Hz hn
      go_wp2_with fail
      with_reducible refine (invoiceRuns_walk _).mono ?_
      rintro e w9 ⟨rfl, c9⟩
      have b9 := b2.trans (c9.mono bz)
      go_wp2_with fail
      go_ret
      exact ⟨rfl, b9⟩
    | ok t =>
      obtain ⟨s1, s2, s3, s4, s5, s6, s7, s8⟩ := sums_law Hz.out
      clear Hz
      simp only [resT, errT] at *
      obtain ⟨pv, cv, rfl⟩ := rt.shape
      obtain ⟨bb, off, rfl⟩ := Rd.blk rt s5
      skip
      have hbz := Below.refl wc.heap.size wc
      have Hs4 := Lib.hid s4
      have Hs5 := Lib.hid s5
      have e1 := Lib.hid (w64in' s6)
      have e2 := Lib.hid (w64in' s7)
      have f3 : (t.gross == wrap64 (t.net + t.tax)) = true := by rw [← s3, w64in' s8]; simp
      rw [s1] at e1
      rw [s2] at e2
      have Hs1 := Lib.hid s1
      have Hs2 := Lib.hid s2
      clear s1 s2 s3 s4 s5 s6 s7 s8
      have hlm : t.parts.length ≤ 9223372036854775807 := by obtain ⟨_, _, _, h1, h2, _⟩ := rt.form; unfold maxLen at h2; omega
      have t0 := kt.cell 0 _ rfl
      have t1 := kt.cell 1 _ rfl
      have t2 := kt.cell 2 _ rfl
      have t3 := kt.cell 3 _ rfl
      go_wp2_with fail
      clear t0 t1 t2 t3
      go_loopw [9, 10, 11] (fun s u i wr => ∃ (k : Nat), k ≤ t.parts.length ∧ s = .int .i64 (wrap64 (sumN (t.parts.take k))) ∧ u = .int .i64 (wrap64 (sumX (t.parts.take k))) ∧ i = .int .i64 k ∧ Blk wr N #[.int .i64 t.net, .int .i64 t.tax, .int .i64 t.gross, .slice (some ⟨bb, off, none⟩) t.parts.length cv] 56 ∧ Rd partE wr (.slice (some ⟨bb, off, none⟩) t.parts.length cv) t.parts ∧ Below w0.heap.size w0 wr) (fun _ _ i _ => t.parts.length - (intOf i).toNat)
      case atStart => exact ⟨0, by omega, by simp [sumN, wrap64], by simp [sumX, wrap64], rfl, kt, rt, b2⟩
      case round =>
        clear kt rt b2 hbz
        obtain ⟨k, hk, hs, hu, rfl, kt, rt, hb⟩ := hrel
        have t0 := kt.cell 0 _ rfl
        have t1 := kt.cell 1 _ rfl
        have t2 := kt.cell 2 _ rfl
        have t3 := kt.cell 3 _ rfl
        by_cases hlt : k < t.parts.length
        · obtain ⟨c0, c1, c2, c3⟩ := part4 rt hlt
          have hi : (k : Int) < (t.parts.length : Int) := by omega
          have hi0 : (0 : Int) ≤ (k : Int) := by omega
          have hsn := Lib.hid (sumN_take hlt)
          have hsx := Lib.hid (sumX_take hlt)
          have hls := Lib.hid (fun (j : Nat) (hj : j < t.parts.length) (h : j < k) => rising_at Hs4.out hj hlt h)
          obtain ⟨a, ha⟩ : ∃ a, sumN (t.parts.take k) = a := ⟨_, rfl⟩
          obtain ⟨c, hc⟩ : ∃ c, sumX (t.parts.take k) = c := ⟨_, rfl⟩
          rw [ha] at hs hsn
          rw [hc] at hu hsx
          subst hs hu
          clear ha hc
          rcases k with _ | j
          · simp only [Nat.zero_mul, Nat.add_zero] at c0 c1 c2 c3
            obtain ⟨x, hx⟩ : ∃ x, t.parts[0] = x := ⟨_, rfl⟩
            rw [hx] at c0 c1 c2 c3
            have Hx := Lib.hid hx
            clear hx
            go_wp2_with fail
            go_quiet (fail)
            go_wp2_with fail
            go_roundw
            case rel => exact ⟨0 + 1, by omega, by rw [hsn.out, Hx.out, wrap64_add], by rw [hsx.out, Hx.out, wrap64_add], by go_num, kt.drewN _, rt.drewN _, hb.trans (below_drawn _ _ _)⟩
            case measure => simp [intOf]; omega
          · obtain ⟨e0, _⟩ := part4 rt (show j < t.parts.length by omega)
            obtain ⟨x, hx⟩ : ∃ x, t.parts[j + 1] = x := ⟨_, rfl⟩
            rw [hx] at c0 c1 c2 c3
            have Hx := Lib.hid hx
            clear hx
            have hw : IntKind.i64.wrap ((j : Int) + 1 - 1) = (j : Int) := by rw [IntKind.wrap_i64]; omega
            have hj0 : (0 : Int) ≤ (j : Int) := by omega
            have hjl2 : (j : Int) < (t.parts.length : Int) := by omega
            have hll := hls.out j (by omega) (by omega)
            rw [Hx.out] at hll
            change Op.bytesLess (t.parts[j]).cat.toList x.cat.toList = true at hll
            go_wp2_with fail
            go_quiet (fail)
            go_wp2_with fail
            go_roundw
            case rel => exact ⟨(j + 1) + 1, by omega, by rw [hsn.out, Hx.out, wrap64_add], by rw [hsx.out, Hx.out, wrap64_add], by go_num, kt.drewN _, rt.drewN _, hb.trans (below_drawn _ _ _)⟩
            case measure => simp [intOf]; omega
        · have hi : ¬ (k : Int) < (t.parts.length : Int) := by omega
          have hkk : k = t.parts.length := by omega
          have hp0 : (0 : Int) < (t.parts.length : Int) := by have := Hs5.out; omega
          rw [hkk, List.take_length, e1.out, ← Hs1.out] at hs
          rw [hkk, List.take_length, e2.out, ← Hs2.out] at hu
          subst hs hu
          have bz := hb.size
          clear kt rt
          go_wp2_with fail
          with_reducible refine (invoiceRuns_walk _).mono ?_
          rintro e w9 ⟨rfl, c9⟩
          have b9 := hb.trans (c9.mono bz)
          go_wp2_with fail
          go_ret
          exact ⟨rfl, b9⟩
end Go.Proofs.Ytpobhlnlnplbdaa
