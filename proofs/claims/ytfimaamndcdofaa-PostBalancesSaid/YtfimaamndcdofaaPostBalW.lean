/- The walk of PostBalances. -/
import Derived.Test.YtfimaamndcdofaaPostTellsW
import Derived.Test.YtfimaamndcdofaaPostBalP
import Derived.Deep.RegionHeld
import Derived.Deep.CutRange
namespace Go.Proofs.Ytfimaamndcdofaa
open Go Go.RowKit

theorem conv_one (g cap k : Nat) (hk : k < 12) (W : World) (h0 : W.cell? ⟨g, 0, none⟩ = some (.int .u8 (97 + (k : Int)))) :
    (convert 45 9 (.slice (some ⟨g, 0, none⟩) 1 cap)).run Try.prog W = .ok (.string (nmB k)) W := by
  have e : nmB k = ⟨[UInt8.ofNat (97 + k)].toArray⟩ := rfl
  rw [e]
  apply run_convert_bytes_back (P := Try.prog) W 45 9 5 ⟨g, 0, none⟩ cap [UInt8.ofNat (97 + k)] Try.underlying45 Try.underlying5 Try.underlying9
  intro j hj
  match j, hj with
  | 0, _ => rw [addr_add _ rfl, Nat.zero_add, h0]; simp; omega

theorem blk_at (w : World) (H : Nat) (cs : Array Value) (t : TypeId) (h : w.heap.size = H) : Blk (w.alloc (.cells cs t)) H cs t := by subst h; exact Blk.new _ _ _
theorem Blk.far {w : World} {g : Nat} {cs : Array Value} {t : TypeId} (h : Blk w g cs t) {p : Addr} (hp : g ≠ p.block) (u : Value) : Blk (w.setCell p u) g cs t := (Below.heap_setCell w p u g hp).trans h

set_option maxHeartbeats 8000000 in
set_option maxRecDepth 100000 in
theorem postBalances_walk (vp : Value) (l : List Part) (times : Int) (w : World) (hp : Rd partE w vp l) :
    Calls Try.prog 5 #[vp, .int .i64 times] w fun e w' => e = .returned (.bool true) ∧ Below w.heap.size w w' := by
  obtain ⟨pl, cl, rfl, l_1, l_2, l_3, l_4⟩ := hp.form
  unfold maxLen at l_2
  clear l_3 hp
  go_enter Try.func5, Try.ntmps5
  go_wp2_with fail
  have hk0 : Blk (w.alloc (.cells #[.int .i64 0, .int .i64 0, .int .i64 0, .slice none 0 0] 30)) w.heap.size #[.int .i64 0, .int .i64 0, .int .i64 0, .slice none 0 0] 30 := Blk.new _ _ _
  have b0 := below_alloc w (.cells #[.int .i64 0, .int .i64 0, .int .i64 0, .slice none 0 0] 30)
  go_loopw [6] (fun i wr => ∃ (k : Nat) (vP : Value), k ≤ l.length ∧ k ≤ 12 ∧ i = .int .i64 k ∧ OwnR partE wr (w.heap.size + 1) 27 vP (bparts (l.take k)) ∧ Blk wr w.heap.size #[.int .i64 (nets (bparts (l.take k))), .int .i64 (taxes (bparts (l.take k))), .int .i64 0, vP] 30 ∧ Below w.heap.size w wr) (fun i _ => l.length - (intOf i).toNat)
  case atStart => exact ⟨0, .slice none 0 0, by omega, by omega, rfl, OwnR.nil _ _ _, hk0, b0⟩
  case round =>
    obtain ⟨k, vP, hk, hk12, rfl, own, hbk, hbel⟩ := hrel
    clear hk0 b0
    by_cases hlt : k < l.length ∧ k < 12
    · obtain ⟨hlt, hlt12⟩ := hlt
      obtain ⟨bl, offl, rfl, lc⟩ := l_4 (by omega)
      have x2 := lc k hlt 2 (by decide)
      have x3 := lc k hlt 3 (by decide)
      simp only [partE, List.getElem?_cons_zero, List.getElem?_cons_succ] at x2 x3
      have hbl : bl < w.heap.size := World.block_lt_of_cell? w _ x2
      rw [← hbel.cell (p := ⟨bl, _, none⟩) hbl] at x2 x3
      simp only [← Nat.add_assoc] at x2 x3
      have hki : (k : Int) < (l.length : Int) := by omega
      have hki12 : (k : Int) < 12 := by omega
      have hts := Lib.hid (bparts_take_succ hlt)
      generalize hx : l[k] = x at *
      clear hx lc l_4
      have e1 : IntKind.i64.wrap (97 + (k : Int)) = 97 + (k : Int) := by rw [IntKind.wrap_i64]; omega
      have e2 : IntKind.u8.wrap (97 + (k : Int)) = 97 + (k : Int) := by simp [IntKind.wrap, IntKind.bits, IntKind.signed]; omega
      have hk0 : (0 : Int) ≤ (k : Int) := by omega
      have cv := fun (W : World) (g cap : Nat) h0 => conv_one g cap k hlt12 W h0
      go_upto_region 5 with (fail)
      go_cut [7] from 14 to 59 (fun t7 wx => ∃ N : Nat, t7 = .pointer (some ⟨N, 0, none⟩) ∧ wr.heap.size ≤ N ∧ Blk wx N #[.string (bpart k x).cat, .int .i64 (bpart k x).bp, .int .i64 (bpart k x).net, .int .i64 (bpart k x).tax] 27 ∧ Below wr.heap.size wr wx)
      case first =>
        go_region_held (fun w' => w'.cell? ⟨bl, offl + k * 4 + 2, none⟩ = some (.int .i64 x.net) ∧ w'.cell? ⟨bl, offl + k * 4 + 3, none⟩ = some (.int .i64 x.tax)) (go_keep)
          ((go_at_call 21; (with_reducible refine (withinCalls _ _ _ _ (by omega) (by omega) (by omega)).mono ?_); (rintro e w' ⟨rfl, rfl⟩)))
        all_goals
          go_wp2_with fail
          go_meet
          first
            | exact ⟨_, rfl, by simp, (blk_at _ _ _ _ (by simp)).drew, ((below_alloc wr _).trans ((below_alloc _ _).mono (by simp))).trans (below_drew _ _)⟩
            | exact ⟨_, rfl, Nat.le_refl _, ((Blk.new wr _ _).ext (below_alloc _ _)).drew, ((below_alloc wr _).trans ((below_alloc _ _).mono (by simp))).trans (below_drew _ _)⟩
      case rest =>
        obtain ⟨N, rfl, hN, hbN, bN⟩ := hcut
        clear cv e1 e2
        have own1 := own.ext bN
        have hbk1 := hbk.ext bN
        have hbel1 := hbel.trans (bN.mono hbel.size)
        have hs0 := hbel1.size
        have hwl := hbk.lt
        have hbkx := hbk1.ext (below_alloc wc (.cells #[.string (bpart k x).cat, .int .i64 (bpart k x).bp, .int .i64 (bpart k x).net, .int .i64 (bpart k x).tax] 27))
        have hbNx := hbN.ext (below_alloc wc (.cells #[.string (bpart k x).cat, .int .i64 (bpart k x).bp, .int .i64 (bpart k x).net, .int .i64 (bpart k x).tax] 27))
        have ownx := own1.ext (below_alloc wc (.cells #[.string (bpart k x).cat, .int .i64 (bpart k x).bp, .int .i64 (bpart k x).net, .int .i64 (bpart k x).tax] 27))
        have srcx : Rd partE (wc.alloc (.cells #[.string (bpart k x).cat, .int .i64 (bpart k x).bp, .int .i64 (bpart k x).net, .int .i64 (bpart k x).tax] 27)) (.slice (some ⟨wc.heap.size, 0, none⟩) 1 1) [bpart k x] := OwnR.rd (OwnR.litAt partE wc _ _ [bpart k x] 1 0 wc.heap.size rfl rfl rfl one_max (Nat.zero_le _))
        have hne : vP.ownBlock ≠ some N := fun e => by have := (own.lt N e).2; omega
        have l3 := hbk1.cell 3 _ rfl
        have n0 := hbN.cell 0 _ rfl
        have n1 := hbN.cell 1 _ rfl
        have n2 := hbN.cell 2 _ rfl
        have n3 := hbN.cell 3 _ rfl
        have hlb : ((bparts (l.take k)).length + 1) * 40 ≤ 140737488355328 := by rw [bparts_length, List.length_take]; omega
        have Hlb := Lib.hid hlb
        clear hlb
        generalize hq : bpart k x = q at *
        have Hq := Lib.hid hq
        clear hq
        have hszx : (wc.alloc (.cells #[.string q.cat, .int .i64 q.bp, .int .i64 q.net, .int .i64 q.tax] 27)).heap.size = wc.heap.size + 1 := by simp
        have Hszx := Lib.hid hszx
        clear hszx
        go_wp2_with (first
          | (at_builtin; refine wpList_appR (E := partE) tPart rfl rfl ownx rfl srcx rfl Hlb.out (by have := Hszx.out; omega) ?_; (intro v2 w2 own2 g2 b2); (have hbk2 := hbkx.below b2 (by omega)); (have hbN2 := hbNx.grown g2 hne); (have c3 := hbk2.cell 3 _ rfl); (have f3 := hbk2.frozen 3); (obtain ⟨p2, cp2, rfl⟩ := own2.rd.shapeN (n := (bparts (l.take k)).length + 1) (by simp)))
          | fail)
        obtain ⟨W3, hW3⟩ : ∃ W3, W3 = w2.setCell ⟨w.heap.size, 3, none⟩ (.slice p2 ((bparts (l.take k)).length + 1) cp2) := ⟨_, rfl⟩
        rw [← hW3]
        have hbk3 : Blk W3 w.heap.size #[.int .i64 (nets (bparts (l.take k))), .int .i64 (taxes (bparts (l.take k))), .int .i64 0, .slice p2 ((bparts (l.take k)).length + 1) cp2] 30 := by rw [hW3]; exact hbk2.set 3 _
        have hbN3 : Blk W3 N #[.string q.cat, .int .i64 q.bp, .int .i64 q.net, .int .i64 q.tax] 27 := by rw [hW3]; exact hbN2.far (by simp; omega) _
        have gr3 : w2.grownBy W3 (some w.heap.size) := by rw [hW3]; exact ⟨rfl, rfl, rfl, by simp, fun b _ hb => Below.heap_setCell w2 _ _ b (fun e => hb (by rw [e]))⟩
        have own3 := own2.grown gr3 (.inr (fun e => by have := (own2.lt _ e).1; omega))
        have bel3 : Below w.heap.size w W3 := (hbel1.trans ((below_alloc wc (.cells #[.string q.cat, .int .i64 q.bp, .int .i64 q.net, .int .i64 q.tax] 27)).mono hs0)).trans ((b2.mono (by omega)).trans (below_grown gr3 (by have := hbk2.lt; omega) (fun b e => by cases e; exact Nat.le_refl _)))
        clear hW3 hbk2 hbN2 gr3 own2 b2 g2 c3 f3 hbkx hbNx ownx srcx own1 hbk1 hbel1 hbN n0 n1 n2 n3 l3 bN
        have hqb : (-1099511627776 ≤ q.net ∧ q.net ≤ 1099511627776) ∧ (-1099511627776 ≤ q.tax ∧ q.tax ≤ 1099511627776) := by rw [← Hq.out]; exact ⟨within_bounds _ _ _ (by omega), within_bounds _ _ _ (by omega)⟩
        obtain ⟨⟨q1, q2⟩, q3, q4⟩ := hqb
        have hnb := nets_bound (ps := bparts (l.take k)) (fun p hp => (bparts_bound hp).1)
        have htb := taxes_bound (ps := bparts (l.take k)) (fun p hp => (bparts_bound hp).2)
        have hlk : (bparts (l.take k)).length = k := by rw [bparts_length, List.length_take]; omega
        rw [hlk] at hnb htb
        have Hlk := Lib.hid hlk
        clear hlk
        obtain ⟨s1, s2⟩ := hnb
        obtain ⟨s3, s4⟩ := htb
        have hns : nets (bparts (l.take (k + 1))) = nets (bparts (l.take k)) + q.net := by rw [hts.out, nets_append, nets_one]
        have hxs : taxes (bparts (l.take (k + 1))) = taxes (bparts (l.take k)) + q.tax := by rw [hts.out, taxes_append, taxes_one]
        have Hns := Lib.hid hns
        have Hxs := Lib.hid hxs
        clear hns hxs
        generalize nets (bparts (l.take k)) = An at *
        generalize taxes (bparts (l.take k)) = At at *
        have t1 : -13194139533312 ≤ An := by omega
        have t2 : An ≤ 13194139533312 := by omega
        have t3 : -13194139533312 ≤ At := by omega
        have t4 : At ≤ 13194139533312 := by omega
        clear s1 s2 s3 s4
        have a0 : W3.cell? ⟨w.heap.size, 0, none⟩ = some (.int .i64 An) := hbk3.cell 0 _ rfl
        have a1 : W3.cell? ⟨w.heap.size, 1, none⟩ = some (.int .i64 At) := hbk3.cell 1 _ rfl
        have g0 := hbk3.frozen 0
        have g1 := hbk3.frozen 1
        have m2 : W3.cell? ⟨N, 2, none⟩ = some (.int .i64 q.net) := hbN3.cell 2 _ rfl
        have m3 : W3.cell? ⟨N, 3, none⟩ = some (.int .i64 q.tax) := hbN3.cell 3 _ rfl
        have w1 : IntKind.i64.wrap (An + q.net) = An + q.net := by rw [IntKind.wrap_i64]; omega
        have w2' : IntKind.i64.wrap (At + q.tax) = At + q.tax := by rw [IntKind.wrap_i64]; omega
        have hNw : ¬ N = w.heap.size := by omega
        go_region
        all_goals
          clear w1 w2'
          go_wp2_with fail
          go_roundw
          case rel =>
            have gr4 : W3.grownBy ((W3.setCell ⟨w.heap.size, 0, none⟩ (.int .i64 (An + q.net))).setCell ⟨w.heap.size, 1, none⟩ (.int .i64 (At + q.tax))) (some w.heap.size) := ⟨rfl, rfl, rfl, by simp, fun b _ hb => (Below.heap_setCell _ _ _ b (fun e => hb (by rw [e]))).trans (Below.heap_setCell W3 _ _ b (fun e => hb (by rw [e])))⟩
            refine ⟨k + 1, .slice p2 ((bparts (l.take k)).length + 1) cp2, by omega, by omega, by go_num, ?_, ?_, ?_⟩
            · rw [hts.out]
              exact (own3.grown gr4 (.inr (fun e => by have := (own3.lt _ e).1; omega))).drew
            · rw [Hns.out, Hxs.out]
              exact ((hbk3.set 0 _).set 1 _).drew
            · exact ((bel3.setCell (p := ⟨w.heap.size, 0, none⟩) (Nat.le_refl _) _).setCell (p := ⟨w.heap.size, 1, none⟩) (Nat.le_refl _) _).trans (below_drew _ _)
          case measure => simp [intOf]; omega
    · have hcase : (¬ (k : Int) < (l.length : Int)) ∨ ((k : Int) < (l.length : Int) ∧ ¬ (k : Int) < 12) := by omega
      have lt12 : (l.take k).length ≤ 12 := by rw [List.length_take]; omega
      clear hlt l_4
      generalize l.take k = lk at *
      have hpl := bparts_length lk
      have hpb := fun p (hp : p ∈ bparts lk) => bparts_bound hp
      have hpc := Lib.hid (fun p (hp : p ∈ bparts lk) => bparts_cat hp)
      have hnb := nets_bound (ps := bparts lk) (fun p hp => (hpb p hp).1)
      have htb := taxes_bound (ps := bparts lk) (fun p hp => (hpb p hp).2)
      have Hnd := Lib.hid (names_nodup (l := lk) lt12)
      rw [hpl] at hnb htb
      have Hpb := Lib.hid hpb
      obtain ⟨s1, s2⟩ := hnb
      obtain ⟨s3, s4⟩ := htb
      have t1 : -13194139533312 ≤ nets (bparts lk) := by omega
      have t2 : nets (bparts lk) ≤ 13194139533312 := by omega
      have t3 : -13194139533312 ≤ taxes (bparts lk) := by omega
      have t4 : taxes (bparts lk) ≤ 13194139533312 := by omega
      have hpl12 : (bparts lk).length ≤ 12 := by omega
      clear s1 s2 s3 s4 hpb hpl lt12
      have Hrs := Lib.hid (rowsOf_sum (nets (bparts lk) + taxes (bparts lk)) (bparts lk))
      have Hen := Lib.hid (entries_ok (g := nets (bparts lk) + taxes (bparts lk)) (ps := bparts lk) (fun p hp => by have := Hpb.out p hp; unfold Mon.fits; omega))
      have hrl := rowsOf_length (nets (bparts lk) + taxes (bparts lk)) (bparts lk)
      have Hrb := Lib.hid (rowsOf_bound (g := nets (bparts lk) + taxes (bparts lk)) (ps := bparts lk) (by omega) (fun p hp => Hpb.out p hp))
      have Hnd2 := Lib.hid (Hnd.out (nets (bparts lk) + taxes (bparts lk)))
      generalize hps : bparts lk = ps at *
      have Hps := Lib.hid hps
      clear hps Hnd
      generalize hAn : nets ps = An at *
      generalize hAt : taxes ps = At at *
      have HAn := Lib.hid hAn
      have HAt := Lib.hid hAt
      clear hAn hAt
      generalize hrows : rowsOf (An + At) ps = rows at *
      have Hrows := Lib.hid hrows
      clear hrows
      have Hrl := Lib.hid hrl
      have hr25 : rows.length ≤ 25 := by omega
      clear hrl
      have Hfit : Hid (∀ x ∈ rows, Mon.fits x.2) := fun x hx => by have := Hrb.out x hx; unfold Mon.fits; omega
      have Hsum : Hid ((rows.map (·.2)).sum = 0) := by show _ = _; rw [Hrs.out]; omega
      have a0 : wr.cell? ⟨w.heap.size, 0, none⟩ = some (.int .i64 An) := hbk.cell 0 _ rfl
      have a1 : wr.cell? ⟨w.heap.size, 1, none⟩ = some (.int .i64 At) := hbk.cell 1 _ rfl
      have a2 : wr.cell? ⟨w.heap.size, 2, none⟩ = some (.int .i64 0) := hbk.cell 2 _ rfl
      have a3 : wr.cell? ⟨w.heap.size, 3, none⟩ = some vP := hbk.cell 3 _ rfl
      have g2 := hbk.frozen 2
      obtain ⟨pP, cP, rfl⟩ := own.rd.shape
      rcases hcase with hki | ⟨hki, hki12⟩
      all_goals
        go_wp2_with fail
        have gr5 : wr.grownBy (wr.setCell ⟨w.heap.size, 2, none⟩ (.int .i64 (An + At))) (some w.heap.size) := ⟨rfl, rfl, rfl, by simp, fun b _ hb => Below.heap_setCell wr _ _ b (fun e => hb (by rw [e]))⟩
        have own5 := own.grown gr5 (.inr (fun e => by have := (own.lt _ e).1; omega))
        have hbk5 : Blk (wr.setCell ⟨w.heap.size, 2, none⟩ (.int .i64 (An + At))) w.heap.size #[.int .i64 An, .int .i64 At, .int .i64 (An + At), .slice pP ps.length cP] 30 := hbk.set 2 _
        have bel5 := hbel.setCell (p := ⟨w.heap.size, 2, none⟩) (Nat.le_refl _) (.int .i64 (An + At))
        generalize wr.setCell ⟨w.heap.size, 2, none⟩ (.int .i64 (An + At)) = w5 at *
        have rP5 := own5.rd
        clear gr5 own hbk hbel a0 a1 a2 a3 g2
        have hpl2 : (2 * ps.length + 1) * 24 ≤ 140737488355328 := by omega
        with_reducible refine (postEntries An At (An + At) _ ps _ rP5 (fun p hp => by have := Hpb.out p hp; unfold Mon.fits; omega) (fun p hp => by have := hpc.out p hp; omega) hpl2).mono ?_
        rintro e w6 ⟨hT, b6⟩
        rw [Hen.out] at hT
        obtain ⟨vl, rfl, ownL⟩ := hT
        have rL6 := ownL.rd
        have bel6 := bel5.trans (b6.mono bel5.size)
        have hbk6 := hbk5.ext b6
        clear ownL own5 rP5 hbk5 b6 bel5 hpl2
        go_wp2_with fail
        with_reducible refine (postBalanced _ rows _ rL6 Hfit.out (by omega)).mono ?_
        rintro e w7 ⟨rfl, b7⟩
        rw [decide_eq_true (show (amts rows).sum = 0 from Hsum.out)]
        have rL7 := rL6.ext b7
        have bel7 := bel6.trans (b7.mono bel6.size)
        have hbk7 := hbk6.ext b7
        clear rL6 hbk6 b7 bel6
        go_wp2_with fail
        with_reducible refine (withinCalls times 1 20 _ (by omega) (by omega) (by omega)).mono ?_
        rintro e w' ⟨rfl, rfl⟩
        obtain ⟨T1, T2⟩ := within_bounds times 1 20 (by omega)
        generalize within times 1 20 = T at *
        have a3 : w7.cell? ⟨w.heap.size, 3, none⟩ = some (.slice pP ps.length cP) := hbk7.cell 3 _ rfl
        have hwl7 := hbk7.lt
        obtain ⟨pL, cL, rfl⟩ := rL7.shape
        go_wp2_with fail
        go_loopw [10, 11] (fun bk i wx => ∃ (j : Nat) (book : List Bal), i = .int .i64 (T - (j : Int)) ∧ (j : Int) ≤ T ∧ Rd balE wx bk book ∧ Hid (BkAt rows j book) ∧ Below w7.heap.size w7 wx) (fun _ i _ => (intOf i).toNat)
        case atStart => exact ⟨0, [], by simp, by omega, Rd.nil _, BkAt.zero rows, Below.refl _ _⟩
        case round =>
          obtain ⟨j, book, rfl, hjT, rB, hB, belx⟩ := hrel
          by_cases hj : (j : Int) < T
          · have hpos : (0 : Int) < T - (j : Int) := by omega
            obtain ⟨m, hm1, hm2, hm3⟩ := hB.out.next (by omega) hr25 Hsum.out Hnd2.out Hrb.out
            have Hm1 := Lib.hid hm1
            have Hm2 := Lib.hid hm2
            have Hm3 := Lib.hid hm3
            have hsm := hB.out.small
            have nb : (book.length + rows.length + 1) * 24 ≤ 140737488355328 := by omega
            have nm : m.length * 8 ≤ 140737488355328 := by omega
            have hmne : ((m.length : Int) != 2 * (ps.length : Int) + 1) = false := by have := Hrl.out; simp; omega
            clear hm1 hm2 hm3 hsm
            have rLx := rL7.ext belx
            obtain ⟨pb, cb, rfl⟩ := rB.shape
            have a3x : ∀ wz, Below wr.heap.size wr wz → wz.cell? ⟨w.heap.size, 3, none⟩ = some (.slice pP ps.length cP) := fun wz hz => by
              rw [hz.cell (p := ⟨w.heap.size, 3, none⟩) (by have := belx.size; show w.heap.size < _; omega), belx.cell (p := ⟨w.heap.size, 3, none⟩) hwl7]; exact a3
            have A3 := Lib.hid a3x
            clear a3x
            go_wp2_with fail
            with_reducible refine (postEnter _ _ book rows _ rB rLx hB.out.fits Hfit.out nb).mono ?_
            rintro e x1 ⟨hT, c1⟩
            rw [Hm1.out] at hT
            obtain ⟨vm, rfl, ownM⟩ := hT
            have rM1 := ownM.rd
            clear ownM
            obtain ⟨pm, cm, rfl⟩ := rM1.shape
            go_wp2_with fail
            with_reducible refine (postRight _ m _ rM1).mono ?_
            rintro e x2 ⟨rfl, n2, hx2⟩
            rw [(right_up m).2 Hm2.out.up]
            have c2 : Below x1.heap.size x1 x2 := by rw [hx2]; exact below_drawn _ _ _
            clear hx2
            have rM2 := rM1.ext c2
            have c12 := c1.trans (c2.mono c1.size)
            clear rM1 c1 c2
            go_wp2_with fail
            with_reducible refine (postBalanced _ m _ rM2 Hm2.out.fits nm).mono ?_
            rintro e x3 ⟨rfl, c3⟩
            rw [decide_eq_true (show (amts m).sum = 0 from Hm2.out.sum)]
            have rM3 := rM2.ext c3
            have c13 := c12.trans (c3.mono c12.size)
            have a33 := A3.out x3 c13
            clear rM2 c12 c3
            go_wp2_with fail
            go_roundw
            case rel => exact ⟨j + 1, m, by rw [show T - ((j + 1 : Nat) : Int) = T - (j : Int) - 1 from by omega], by omega, rM3, Hm2, belx.trans (c13.mono belx.size)⟩
            case measure => simp [intOf]; omega
          · have hpos : ¬ (0 : Int) < T - (j : Int) := by omega
            have b8 := bel7.trans (belx.mono bel7.size)
            obtain ⟨pb, cb, rfl⟩ := rB.shape
            go_wp2_with fail
            with_reducible refine (postRuns_walk _).mono ?_
            rintro e x9 ⟨rfl, c9⟩
            go_wp2_with fail
            go_ret
            exact ⟨rfl, b8.trans (c9.mono b8.size)⟩
end Go.Proofs.Ytfimaamndcdofaa
