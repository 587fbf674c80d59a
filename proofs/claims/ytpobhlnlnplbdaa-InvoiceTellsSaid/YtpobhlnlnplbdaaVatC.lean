/- Walks: vat.Put, the document's Put. -/
import Derived.Test.YtpobhlnlnplbdaaVatB
import Derived.Deep.RegionHeld3
namespace Go.Proofs.Ytpobhlnlnplbdaa
open Go Go.RowKit BigFrame
attribute [local go_sem] After.same

set_option maxHeartbeats 8000000 in
set_option maxRecDepth 100000 in
theorem vatPut (v : Value) (l : List Rate) (r : Rate) (w : World) (hv : Rd rateE w v l) :
    Calls Try.prog 19 #[v, .agg #[.string r.cat, .int .i64 r.day.y, .int .i64 r.day.m, .int .i64 r.day.d, .int .i64 r.bp]] w fun e w' => TellsL rateE w' w.heap.size 25 (putT l r) e ∧ Below w.heap.size w w' := by
  obtain ⟨p, cap, rfl, h1, h2, h3, h4⟩ := hv.form
  clear h3 h4
  unfold maxLen at h2
  have hb1 := below_alloc w (.cells #[.string r.cat, .int .i64 r.day.y, .int .i64 r.day.m, .int .i64 r.day.d, .int .i64 r.bp] 25)
  have kr := Blk.new w #[.string r.cat, .int .i64 r.day.y, .int .i64 r.day.m, .int .i64 r.day.d, .int .i64 r.bp] 25
  have hvW := hv.ext hb1
  clear hv
  go_enter Try.func19, Try.ntmps19
  go_wp2_with fail
  generalize hW : w.alloc (.cells #[.string r.cat, .int .i64 r.day.y, .int .i64 r.day.m, .int .i64 r.day.d, .int .i64 r.bp] 25) = W at *
  clear hW
  with_reducible refine (vatRight _ l _ hvW).mono ?_
  rintro e w1 ⟨rfl, b1⟩
  have bx := hb1.trans (b1.mono hb1.size)
  have k1 := kr.ext b1
  have hv1 := hvW.ext b1
  clear hb1 b1 kr hvW
  cases hr : rightT l with
  | false =>
    have Hf := Lib.hid (put_arg (r := r) hr)
    clear hr
    go_wp2_with fail
    go_ret2
    exact ⟨by rw [Hf.out]; rfl, bx⟩
  | true =>
    have Hr := Lib.hid hr
    have hl24 := rightT_len hr
    clear hr
    have x0 := k1.cell 0 _ rfl
    have x1 := k1.cell 1 _ rfl
    have x2 := k1.cell 2 _ rfl
    have x3 := k1.cell 3 _ rfl
    have x4 := k1.cell 4 _ rfl
    go_wp2_with fail
    with_reducible refine (vatRow r _).mono ?_
    rintro e w2 ⟨rfl, b2⟩
    have bx2 := bx.trans (b2.mono bx.size)
    have k2 := k1.ext b2
    have hv2 := hv1.ext b2
    clear bx b2 k1 hv1 x0 x1 x2 x3 x4
    by_cases hq : rowT r = 0
    rotate_left
    · have Hf := Lib.hid (put_row Hr.out hq)
      obtain ⟨n, hn⟩ : ∃ n, n = rowT r := ⟨_, rfl⟩
      rw [← hn] at hq ⊢
      have n1 : (n == 0) = false := by simpa using hq
      have n2 : (n != 0) = true := by simpa using hq
      have Hn := Lib.hid hn
      clear hq hn
      go_wp2_with fail
      go_ret2
      exact ⟨by rw [Hf.out, ← Hn.out]; rfl, bx2⟩
    · have Hq := Lib.hid hq
      rw [hq]
      clear hq
      go_wp2_with fail
      go_loopw [7, 20] (fun c i wr => ∃ (k : Nat), k ≤ l.length ∧ i = .int .i64 k ∧ c = .int .i64 (nA l r k) ∧ Hid ((l.take k).any (sameT r) = false) ∧ Below w2.heap.size w2 wr) (fun _ i _ => l.length - (intOf i).toNat)
      case atStart => exact ⟨0, by omega, rfl, by rw [nA_zero]; rfl, by show _ = _; simp, Below.refl _ _⟩
      case round =>
        obtain ⟨k, hk, rfl, rfl, hsm, hb⟩ := hrel
        by_cases hlt : k < l.length
        · obtain ⟨b, off, rfl⟩ := Rd.blk hv2 (by omega)
          obtain ⟨c0, c1, c2, c3, c4⟩ := rate5 (hv2.ext hb) hlt
          have hi : (k : Int) < (l.length : Int) := by omega
          have hi0 : (0 : Int) ≤ (k : Int) := by omega
          have hhit := Lib.hid (fun h => same_hit (r := r) hlt h)
          have hmiss := Lib.hid (fun h => same_step (r := r) hlt hsm.out h)
          have hyes := Lib.hid (fun h => nA_yes (r := r) hlt h)
          have hno := Lib.hid (fun h => nA_no (r := r) hlt h)
          have hle := nA_le l r k
          have hbz := bx2.trans (hb.mono bx2.size)
          have kq := k2.ext hb
          clear hsm
          generalize l[k] = x at *
          have ha := below_alloc wr (.cells #[.string x.cat, .int .i64 x.day.y, .int .i64 x.day.m, .int .i64 x.day.d, .int .i64 x.bp] 25)
          have kx := Blk.new wr #[.string x.cat, .int .i64 x.day.y, .int .i64 x.day.m, .int .i64 x.day.d, .int .i64 x.bp] 25
          have ka := kq.ext ha
          have hbA := hb.trans (ha.mono hb.size)
          have y0 := ka.cell 0 _ rfl
          have x0 := kx.cell 0 _ rfl
          have y1 := ka.cell 1 _ rfl
          have x1 := kx.cell 1 _ rfl
          have y2 := ka.cell 2 _ rfl
          have x2 := kx.cell 2 _ rfl
          have y3 := ka.cell 3 _ rfl
          have x3 := kx.cell 3 _ rfl
          have y4 := ka.cell 4 _ rfl
          have x4 := kx.cell 4 _ rfl
          generalize nA l r k = na at *
          have heql := eql_day x.day r.day
          cases he : eqS x.cat r.cat with
          | true =>
            have he2 : (x.cat.toList == r.cat.toList) = true := he
            have Hs := same_day he
            cases hd : decide (x.day = r.day) with
            | true =>
              rw [hd] at heql Hs
              have Hf := Lib.hid (put_taken Hr.out Hq.out (hhit.out Hs))
              clear he hhit hmiss hyes hno Hs hd
              go_wp2_with fail
              go_ret2
              exact ⟨by rw [Hf.out]; rfl, bx2.trans (hbA.mono bx2.size)⟩
            | false =>
              rw [hd] at heql Hs
              have Hm := Lib.hid (hmiss.out Hs)
              clear he hhit hmiss Hs hd
              go_wp2_with fail
              generalize hW : wr.alloc (.cells #[.string x.cat, .int .i64 x.day.y, .int .i64 x.day.m, .int .i64 x.day.d, .int .i64 x.bp] 25) = W at *
              clear hW
              with_reducible refine (vatAhead x r _).mono ?_
              rintro e w3 ⟨rfl, b3⟩
              have hb3 := hbA.trans (b3.mono hbA.size)
              clear kx ka ha b3 hbA x0 y0 x1 y1 x2 y2 x3 y3 x4 y4
              have hna0 : (0 : Int) ≤ (na : Int) := by omega
              cases hbf : aheadT x r with
              | true =>
                have Hn := Lib.hid (hyes.out hbf)
                clear hbf hyes hno
                go_wp2_with fail
                go_roundw
                case rel => exact ⟨k + 1, by omega, by go_num, by rw [Hn.out]; go_num, Hm.out, hb3⟩
                case measure => simp [intOf]; omega
              | false =>
                have Hn := Lib.hid (hno.out hbf)
                clear hbf hyes hno
                go_wp2_with fail
                go_roundw
                case rel => exact ⟨k + 1, by omega, by go_num, by rw [Hn.out], Hm.out, hb3⟩
                case measure => simp [intOf]; omega
          | false =>
            have he2 : (x.cat.toList == r.cat.toList) = false := he
            have Hm := Lib.hid (hmiss.out (same_cat he))
            clear he hhit hmiss heql
            go_wp2_with fail
            generalize hW : wr.alloc (.cells #[.string x.cat, .int .i64 x.day.y, .int .i64 x.day.m, .int .i64 x.day.d, .int .i64 x.bp] 25) = W at *
            clear hW
            with_reducible refine (vatAhead x r _).mono ?_
            rintro e w3 ⟨rfl, b3⟩
            have hb3 := hbA.trans (b3.mono hbA.size)
            clear kx ka ha b3 hbA x0 y0 x1 y1 x2 y2 x3 y3 x4 y4
            have hna0 : (0 : Int) ≤ (na : Int) := by omega
            cases hbf : aheadT x r with
            | true =>
              have Hn := Lib.hid (hyes.out hbf)
              clear hbf hyes hno
              go_wp2_with fail
              go_roundw
              case rel => exact ⟨k + 1, by omega, by go_num, by rw [Hn.out]; go_num, Hm.out, hb3⟩
              case measure => simp [intOf]; omega
            | false =>
              have Hn := Lib.hid (hno.out hbf)
              clear hbf hyes hno
              go_wp2_with fail
              go_roundw
              case rel => exact ⟨k + 1, by omega, by go_num, by rw [Hn.out], Hm.out, hb3⟩
              case measure => simp [intOf]; omega
        · have hi : ¬ (k : Int) < (l.length : Int) := by omega
          have hke : k = l.length := by omega
          have Hs : Hid (l.any (sameT r) = false) := by show _ = _; rw [← hsm.out, List.take_of_length_le (by omega)]
          have Hc : nA l r k = cntT l r := by rw [hke]; exact nA_all ((rightV_iff l).1 Hr.out).up
          have hcl := cntT_le l r
          rw [Hc]
          clear hsm hke Hc
          by_cases h24 : 24 ≤ l.length
          · have Hf := Lib.hid (put_long Hr.out Hq.out Hs.out h24)
            have h24' : (24 : Int) ≤ (l.length : Int) := by omega
            go_wp2_with fail
            go_ret2
            exact ⟨by rw [Hf.out]; rfl, bx2.trans (hb.mono bx2.size)⟩
          · have Hf := Lib.hid (put_yes Hr.out Hq.out Hs.out h24)
            have h24' : ¬ (24 : Int) ≤ (l.length : Int) := by omega
            have hbz := bx2.trans (hb.mono bx2.size)
            have kq := k2.ext hb
            have hvr := hv2.ext hb
            generalize cntT l r = c at *
            have hlN : w.heap.size < wr.heap.size := kq.lt
            have hszz := hbz.size
            go_wp2_with fail
            clear hv2 k2 bx2 hb Hs
            obtain ⟨W, hW⟩ : ∃ W, W = wr := ⟨_, rfl⟩
            subst hW
            have hc1 : (([] : List Rate).length + l.length) * 48 ≤ 140737488355328 := by simp; omega
            have hc2 : (l.length + 1) * 48 ≤ 140737488355328 := by omega
            have Hc1 := Lib.hid hc1
            have Hc2 := Lib.hid hc2
            have hci : (c : Int) ≤ (l.length : Int) := by omega
            have hvA := hvr.drew
            have bL : Below W.heap.size W (W.drew.alloc (.cells #[.string r.cat, .int .i64 r.day.y, .int .i64 r.day.m, .int .i64 r.day.d, .int .i64 r.bp] 25)) := (below_drew _ _).trans (below_alloc W.drew _)
            have hsL : (W.drew.alloc (.cells #[.string r.cat, .int .i64 r.day.y, .int .i64 r.day.m, .int .i64 r.day.d, .int .i64 r.bp] 25)).heap.size = W.heap.size + 1 := by show (W.heap.push _).size = _; simp
            have HsL := Lib.hid hsL
            have kL : Blk (W.drew.alloc (.cells #[.string r.cat, .int .i64 r.day.y, .int .i64 r.day.m, .int .i64 r.day.d, .int .i64 r.bp] 25)) W.heap.size #[.string r.cat, .int .i64 r.day.y, .int .i64 r.day.m, .int .i64 r.day.d, .int .i64 r.bp] 25 := Blk.new W.drew _ _
            have HkL := Lib.hid kL
            have Hkq := Lib.hid kq
            have Hvr := Lib.hid hvr
            clear hc1 hc2 hsL kL
            have s0 := kq.cell 0 _ rfl
            have s1 := kq.cell 1 _ rfl
            have s2 := kq.cell 2 _ rfl
            have s3 := kq.cell 3 _ rfl
            have s4 := kq.cell 4 _ rfl
            clear kq hvr hvA
            go_region_held3 (fun w' => w'.cell? ⟨w.heap.size, 0, none⟩ = some (.string r.cat) ∧ w'.cell? ⟨w.heap.size, 1, none⟩ = some (.int .i64 r.day.y) ∧ w'.cell? ⟨w.heap.size, 2, none⟩ = some (.int .i64 r.day.m) ∧ w'.cell? ⟨w.heap.size, 3, none⟩ = some (.int .i64 r.day.d) ∧ w'.cell? ⟨w.heap.size, 4, none⟩ = some (.int .i64 r.bp))
              (first | go_keep | (simp only [World.cell?_alloc_some]; go_keep))
              (first
                | (refine step_appR (E := rateE) (s := .const (.slice none 0 0)) (y := .tmp 45) (B := W.heap.size) (l := []) (m := l) tRate rfl rfl (OwnR.nil W.drew _ _) rfl (by exact Hvr.out) (by simp [Act.eval, Act.put]) Hc1.out (Nat.le_refl _) ?_; intro v8 w8 own8 g8 b8; replace b8 : Below W.heap.size W w8 := (below_drew _ _).trans b8; have k8 := Hkq.out.ext b8; have t0 := k8.cell 0 _ rfl; have t1 := k8.cell 1 _ rfl; have t2 := k8.cell 2 _ rfl; have t3 := k8.cell 3 _ rfl; have t4 := k8.cell 4 _ rfl; have Hwa : Hid (W.heap.size ≤ w8.heap.size) := b8.size; clear g8 k8)
                | (refine step_appR (E := rateE) (s := .const (.slice none 0 0)) (y := .tmp 45) (B := W.heap.size + 1) (l := []) (m := l) tRate rfl rfl (OwnR.nil (W.drew.alloc (.cells #[.string r.cat, .int .i64 r.day.y, .int .i64 r.day.m, .int .i64 r.day.d, .int .i64 r.bp] 25)) _ _) rfl (Hvr.out.ext bL) (by simp [Act.eval, Act.put]) Hc1.out (Nat.le_of_eq HsL.out.symm) ?_; intro v8 w8 own8 g8 b8; have kv8 := HkL.out.below b8 (Nat.lt_succ_self _); have b8' : Below W.heap.size W w8 := bL.trans (b8.mono (Nat.le_succ _)); have k8 := Hkq.out.ext b8'; have t0 := k8.cell 0 _ rfl; have t1 := k8.cell 1 _ rfl; have t2 := k8.cell 2 _ rfl; have t3 := k8.cell 3 _ rfl; have t4 := k8.cell 4 _ rfl; have hwb : W.heap.size + 1 ≤ w8.heap.size := Nat.le_trans (Nat.le_of_eq HsL.out.symm) b8.size; have Hwb := Lib.hid hwb; clear hwb; clear g8 k8)
                | ((have o8 : OwnR rateE (w8.alloc (.cells #[.string r.cat, .int .i64 r.day.y, .int .i64 r.day.m, .int .i64 r.day.d, .int .i64 r.bp] 25)) W.heap.size 25 v8 l := own8.ext (below_alloc w8 _)); (have hvb8 : (w8.alloc (.cells #[.string r.cat, .int .i64 r.day.y, .int .i64 r.day.m, .int .i64 r.day.d, .int .i64 r.bp] 25)).heap[w8.heap.size]? = some (.cells (rateE.enc r).toArray 25 (0, 0)) := Blk.new _ _ _); (have hn8 : v8.ownBlock ≠ some w8.heap.size := fun e => by have := (own8.lt _ e).2; omega); (have hB8 : W.heap.size ≤ (w8.alloc (.cells #[.string r.cat, .int .i64 r.day.y, .int .i64 r.day.m, .int .i64 r.day.d, .int .i64 r.bp] 25)).heap.size := Nat.le_trans Hwa.out (below_alloc w8 _).size); go_at_call 48; (with_reducible refine (insRate W.heap.size w8.heap.size c v8 l r _ o8 hvb8 hn8 hcl Hc2.out hB8).mono ?_); (rintro e w9 ⟨v9, rfl, own9, g9, b9⟩); (have own10 := own9); (have b10 : Below W.heap.size W w9 := (b8.trans ((below_alloc w8 _).mono b8.size)).trans b9); (have k9 := Hkq.out.ext b10); (have p0 := k9.cell 0 _ rfl); (have p1 := k9.cell 1 _ rfl); (have p2 := k9.cell 2 _ rfl); (have p3 := k9.cell 3 _ rfl); (have p4 := k9.cell 4 _ rfl); clear k9 g9)
                | ((have hvb8 : w8.heap[W.heap.size]? = some (.cells (rateE.enc r).toArray 25 (0, 0)) := kv8); (have o8 : OwnR rateE w8 (W.heap.size + 1) 25 v8 l := own8); (have hn8 : v8.ownBlock ≠ some W.heap.size := fun e => by have := (own8.lt _ e).1; omega); (have hB8 := Hwb.out); go_at_call 48; (with_reducible refine (insRate (W.heap.size + 1) W.heap.size c v8 l r _ o8 hvb8 hn8 hcl Hc2.out hB8).mono ?_); (rintro e w9 ⟨v9, rfl, own9, g9, b9⟩); (have own10 := own9.base (Nat.le_succ _)); (have b10 : Below W.heap.size W w9 := b8'.trans (b9.mono (Nat.le_succ _))); (have k9 := Hkq.out.ext b10); (have p0 := k9.cell 0 _ rfl); (have p1 := k9.cell 1 _ rfl); (have p2 := k9.cell 2 _ rfl); (have p3 := k9.cell 3 _ rfl); (have p4 := k9.cell 4 _ rfl); clear k9 g9))
            all_goals
              go_wp2_with fail
              go_ret2
              exact ⟨by rw [Hf.out]; exact ⟨_, rfl, by exact own10.base hszz⟩, hbz.trans (b10.mono hszz)⟩

set_option maxHeartbeats 8000000 in
set_option maxRecDepth 100000 in
theorem refPut (v : Value) (l : List Rate) (r : Rate) (w : World) (hv : Rd rateE w v l) :
    Calls Try.prog 28 #[v, .agg #[.string r.cat, .int .i64 r.day.y, .int .i64 r.day.m, .int .i64 r.day.d, .int .i64 r.bp]] w fun e w' => TellsL rateE w' w.heap.size 25 (putT l r) e ∧ Below w.heap.size w w' := by
  obtain ⟨p, cap, rfl, h1, h2, h3, h4⟩ := hv.form
  clear h3 h4
  unfold maxLen at h2
  have hb1 := below_alloc w (.cells #[.string r.cat, .int .i64 r.day.y, .int .i64 r.day.m, .int .i64 r.day.d, .int .i64 r.bp] 25)
  have kr := Blk.new w #[.string r.cat, .int .i64 r.day.y, .int .i64 r.day.m, .int .i64 r.day.d, .int .i64 r.bp] 25
  have hvW := hv.ext hb1
  clear hv
  go_enter Try.func28, Try.ntmps28
  go_wp2_with fail
  generalize hW : w.alloc (.cells #[.string r.cat, .int .i64 r.day.y, .int .i64 r.day.m, .int .i64 r.day.d, .int .i64 r.bp] 25) = W at *
  clear hW
  with_reducible refine (refTable _ l _ hvW).mono ?_
  rintro e w1 ⟨rfl, b1⟩
  have bx := hb1.trans (b1.mono hb1.size)
  have k1 := kr.ext b1
  have hv1 := hvW.ext b1
  clear hb1 b1 kr hvW
  cases hr : rightT l with
  | false =>
    have Hf := Lib.hid (put_arg (r := r) hr)
    clear hr
    go_wp2_with fail
    go_ret2
    exact ⟨by rw [Hf.out]; rfl, bx⟩
  | true =>
    have Hr := Lib.hid hr
    have hl24 := rightT_len hr
    clear hr
    have x0 := k1.cell 0 _ rfl
    have x1 := k1.cell 1 _ rfl
    have x2 := k1.cell 2 _ rfl
    have x3 := k1.cell 3 _ rfl
    have x4 := k1.cell 4 _ rfl
    go_wp2_with fail
    with_reducible refine (refRow r _).mono ?_
    rintro e w2 ⟨rfl, b2⟩
    have bx2 := bx.trans (b2.mono bx.size)
    have k2 := k1.ext b2
    have hv2 := hv1.ext b2
    clear bx b2 k1 hv1 x0 x1 x2 x3 x4
    by_cases hq : rowT r = 0
    rotate_left
    · have Hf := Lib.hid (put_row Hr.out hq)
      obtain ⟨n, hn⟩ : ∃ n, n = rowT r := ⟨_, rfl⟩
      rw [← hn] at hq ⊢
      have n1 : (n == 0) = false := by simpa using hq
      have n2 : (n != 0) = true := by simpa using hq
      have Hn := Lib.hid hn
      clear hq hn
      go_wp2_with fail
      go_ret2
      exact ⟨by rw [Hf.out, ← Hn.out]; rfl, bx2⟩
    · have Hq := Lib.hid hq
      rw [hq]
      clear hq
      go_wp2_with fail
      have HV := Lib.hid ((rightV_iff l).1 Hr.out)
      have hrr := (rowT_ok Hq.out).2.1
      have Hrr := Lib.hid hrr
      clear hrr
      go_loopw [7] (fun i wr => ∃ (k : Nat), k ≤ l.length ∧ i = .int .i64 k ∧ Hid (∀ j (h : j < l.length), j < k → aheadT l[j] r = true) ∧ Below w2.heap.size w2 wr) (fun i _ => l.length - (intOf i).toNat)
      case atStart => exact ⟨0, by omega, rfl, fun j h hj => by omega, Below.refl _ _⟩
      case round =>
        obtain ⟨k, hk, rfl, hall, hb⟩ := hrel
        have kq := k2.ext hb
        have hvr := hv2.ext hb
        have hi0 : (0 : Int) ≤ (k : Int) := by omega
        obtain ⟨W, hW⟩ : ∃ W, W = wr := ⟨_, rfl⟩
        subst hW
        by_cases hlt : k < l.length
        · obtain ⟨b, off, rfl⟩ := Rd.blk hv2 (by omega)
          obtain ⟨c0, c1, c2, c3, c4⟩ := rate5 hvr hlt
          have hi : (k : Int) < (l.length : Int) := by omega
          have hrx := (rowT_ok (HV.out.good l[k] (List.getElem_mem hlt))).2.1
          have hbl : b < W.heap.size := World.block_lt_of_cell? W _ c0
          have hgo : Hid (aheadT l[k] r = true → ∀ j (h : j < l.length), j < k + 1 → aheadT l[j] r = true) := fun h1 j h hj => by
            by_cases e : j = k
            · subst e; exact h1
            · exact hall.out j h (by omega)
          have hst : Hid (aheadT l[k] r = false → cntT l r = k ∧ l.any (sameT r) = !aheadT r l[k]) := fun h1 => ⟨cntT_is hk hall.out (fun _ => h1), any_same_at HV.out Hq.out hlt hall.out h1⟩
          clear hall
          generalize l[k] = x at *
          have Hrx := Lib.hid hrx
          clear hrx
          cases hax : aheadT x r with
          | true =>
            have Hgo := Lib.hid (hgo.out hax)
            have Hax := Lib.hid hax
            clear hax hgo hst hvr
            go_wp2_with fail
            have hxkq0 : ∀ z : After W, z.1.cell? ⟨w.heap.size, 0, none⟩ = some (.string r.cat) := fun z => (kq.ext z.2).cell 0 _ rfl
            have hxkq1 : ∀ z : After W, z.1.cell? ⟨w.heap.size, 1, none⟩ = some (.int .i64 r.day.y) := fun z => (kq.ext z.2).cell 1 _ rfl
            have hxkq2 : ∀ z : After W, z.1.cell? ⟨w.heap.size, 2, none⟩ = some (.int .i64 r.day.m) := fun z => (kq.ext z.2).cell 2 _ rfl
            have hxkq3 : ∀ z : After W, z.1.cell? ⟨w.heap.size, 3, none⟩ = some (.int .i64 r.day.d) := fun z => (kq.ext z.2).cell 3 _ rfl
            have hxkq4 : ∀ z : After W, z.1.cell? ⟨w.heap.size, 4, none⟩ = some (.int .i64 r.bp) := fun z => (kq.ext z.2).cell 4 _ rfl
            have hyc0 : ∀ z : After W, z.1.cell? ⟨b, off + k * 5, none⟩ = some (.string x.cat) := fun z => (z.2.cell (p := ⟨b, off + k * 5, none⟩) hbl).trans c0
            have hyc1 : ∀ z : After W, z.1.cell? ⟨b, off + k * 5 + 1, none⟩ = some (.int .i64 x.day.y) := fun z => (z.2.cell (p := ⟨b, off + k * 5 + 1, none⟩) hbl).trans c1
            have hyc2 : ∀ z : After W, z.1.cell? ⟨b, off + k * 5 + 2, none⟩ = some (.int .i64 x.day.m) := fun z => (z.2.cell (p := ⟨b, off + k * 5 + 2, none⟩) hbl).trans c2
            have hyc3 : ∀ z : After W, z.1.cell? ⟨b, off + k * 5 + 3, none⟩ = some (.int .i64 x.day.d) := fun z => (z.2.cell (p := ⟨b, off + k * 5 + 3, none⟩) hbl).trans c3
            have hyc4 : ∀ z : After W, z.1.cell? ⟨b, off + k * 5 + 4, none⟩ = some (.int .i64 x.bp) := fun z => (z.2.cell (p := ⟨b, off + k * 5 + 4, none⟩) hbl).trans c4
            have hcl0 : ∀ z : After W, Calls Try.prog 53 #[.agg #[.string x.cat, .int .i64 x.day.y, .int .i64 x.day.m, .int .i64 x.day.d, .int .i64 x.bp], .agg #[.string r.cat, .int .i64 r.day.y, .int .i64 r.day.m, .int .i64 r.day.d, .int .i64 r.bp]] z.1 fun e w' => e = .returned (.bool true) ∧ ∃ y : After W, w' = y.1 := fun z => z.call ((refBefore x r _ Hrx.out Hrr.out).mono fun e w' h => ⟨by rw [h.1, Hax.out], h.2⟩)
            refine wp_region_after (by kernel_rfl) (by kernel_rfl) ?_
            repeat (go_big_quiet_step (first | with_reducible exact hcl0 _))
            refine wpQuiet_nil ?_
            rintro w7 ⟨⟨w7x, c7⟩, hw7⟩
            change w7 = w7x at hw7
            subst hw7
            clear hxkq0 hxkq1 hxkq2 hxkq3 hxkq4 hyc0 hyc1 hyc2 hyc3 hyc4 hcl0
            have hb7 := hb.trans (c7.mono hb.size)
            go_wp2_with fail
            go_roundw
            case rel => exact ⟨k + 1, by omega, by go_num, Hgo.out, hb7⟩
            case measure => simp [intOf]; omega
          | false =>
            obtain ⟨hcn, has⟩ := hst.out hax
            have Hcn := Lib.hid hcn
            have Hax := Lib.hid hax
            clear hax hgo hst hcn hvr
            cases hbx : aheadT r x with
            | false =>
              have Hbx := Lib.hid hbx
              rw [hbx] at has
              have Has := Lib.hid has
              clear hbx has
              go_wp2_with fail
              have hxkq0 : ∀ z : After W, z.1.cell? ⟨w.heap.size, 0, none⟩ = some (.string r.cat) := fun z => (kq.ext z.2).cell 0 _ rfl
              have hxkq1 : ∀ z : After W, z.1.cell? ⟨w.heap.size, 1, none⟩ = some (.int .i64 r.day.y) := fun z => (kq.ext z.2).cell 1 _ rfl
              have hxkq2 : ∀ z : After W, z.1.cell? ⟨w.heap.size, 2, none⟩ = some (.int .i64 r.day.m) := fun z => (kq.ext z.2).cell 2 _ rfl
              have hxkq3 : ∀ z : After W, z.1.cell? ⟨w.heap.size, 3, none⟩ = some (.int .i64 r.day.d) := fun z => (kq.ext z.2).cell 3 _ rfl
              have hxkq4 : ∀ z : After W, z.1.cell? ⟨w.heap.size, 4, none⟩ = some (.int .i64 r.bp) := fun z => (kq.ext z.2).cell 4 _ rfl
              have hyc0 : ∀ z : After W, z.1.cell? ⟨b, off + k * 5, none⟩ = some (.string x.cat) := fun z => (z.2.cell (p := ⟨b, off + k * 5, none⟩) hbl).trans c0
              have hyc1 : ∀ z : After W, z.1.cell? ⟨b, off + k * 5 + 1, none⟩ = some (.int .i64 x.day.y) := fun z => (z.2.cell (p := ⟨b, off + k * 5 + 1, none⟩) hbl).trans c1
              have hyc2 : ∀ z : After W, z.1.cell? ⟨b, off + k * 5 + 2, none⟩ = some (.int .i64 x.day.m) := fun z => (z.2.cell (p := ⟨b, off + k * 5 + 2, none⟩) hbl).trans c2
              have hyc3 : ∀ z : After W, z.1.cell? ⟨b, off + k * 5 + 3, none⟩ = some (.int .i64 x.day.d) := fun z => (z.2.cell (p := ⟨b, off + k * 5 + 3, none⟩) hbl).trans c3
              have hyc4 : ∀ z : After W, z.1.cell? ⟨b, off + k * 5 + 4, none⟩ = some (.int .i64 x.bp) := fun z => (z.2.cell (p := ⟨b, off + k * 5 + 4, none⟩) hbl).trans c4
              have hcl0 : ∀ z : After W, Calls Try.prog 53 #[.agg #[.string x.cat, .int .i64 x.day.y, .int .i64 x.day.m, .int .i64 x.day.d, .int .i64 x.bp], .agg #[.string r.cat, .int .i64 r.day.y, .int .i64 r.day.m, .int .i64 r.day.d, .int .i64 r.bp]] z.1 fun e w' => e = .returned (.bool false) ∧ ∃ y : After W, w' = y.1 := fun z => z.call ((refBefore x r _ Hrx.out Hrr.out).mono fun e w' h => ⟨by rw [h.1, Hax.out], h.2⟩)
              refine wp_region_after (by kernel_rfl) (by kernel_rfl) ?_
              repeat (go_big_quiet_step (first | with_reducible exact hcl0 _))
              refine wpQuiet_nil ?_
              rintro w7 ⟨⟨w7x, c7⟩, hw7⟩
              change w7 = w7x at hw7
              subst hw7
              clear hxkq0 hxkq1 hxkq2 hxkq3 hxkq4 hyc0 hyc1 hyc2 hyc3 hyc4 hcl0
              have hb7 := hb.trans (c7.mono hb.size)
              have kq7 := kq.ext c7
              have d0 := (c7.cell (p := ⟨b, off + k * 5, none⟩) hbl).trans c0
              have d1 := (c7.cell (p := ⟨b, off + k * 5 + 1, none⟩) hbl).trans c1
              have d2 := (c7.cell (p := ⟨b, off + k * 5 + 2, none⟩) hbl).trans c2
              have d3 := (c7.cell (p := ⟨b, off + k * 5 + 3, none⟩) hbl).trans c3
              have d4 := (c7.cell (p := ⟨b, off + k * 5 + 4, none⟩) hbl).trans c4
              have hbl7 := Nat.lt_of_lt_of_le hbl c7.size
              clear c0 c1 c2 c3 c4 kq c7 hb hbl
              go_wp2_with fail
              have hpkq70 : ∀ z : After w7, z.1.cell? ⟨w.heap.size, 0, none⟩ = some (.string r.cat) := fun z => (kq7.ext z.2).cell 0 _ rfl
              have hpkq71 : ∀ z : After w7, z.1.cell? ⟨w.heap.size, 1, none⟩ = some (.int .i64 r.day.y) := fun z => (kq7.ext z.2).cell 1 _ rfl
              have hpkq72 : ∀ z : After w7, z.1.cell? ⟨w.heap.size, 2, none⟩ = some (.int .i64 r.day.m) := fun z => (kq7.ext z.2).cell 2 _ rfl
              have hpkq73 : ∀ z : After w7, z.1.cell? ⟨w.heap.size, 3, none⟩ = some (.int .i64 r.day.d) := fun z => (kq7.ext z.2).cell 3 _ rfl
              have hpkq74 : ∀ z : After w7, z.1.cell? ⟨w.heap.size, 4, none⟩ = some (.int .i64 r.bp) := fun z => (kq7.ext z.2).cell 4 _ rfl
              have hrd0 : ∀ z : After w7, z.1.cell? ⟨b, off + k * 5, none⟩ = some (.string x.cat) := fun z => (z.2.cell (p := ⟨b, off + k * 5, none⟩) hbl7).trans d0
              have hrd1 : ∀ z : After w7, z.1.cell? ⟨b, off + k * 5 + 1, none⟩ = some (.int .i64 x.day.y) := fun z => (z.2.cell (p := ⟨b, off + k * 5 + 1, none⟩) hbl7).trans d1
              have hrd2 : ∀ z : After w7, z.1.cell? ⟨b, off + k * 5 + 2, none⟩ = some (.int .i64 x.day.m) := fun z => (z.2.cell (p := ⟨b, off + k * 5 + 2, none⟩) hbl7).trans d2
              have hrd3 : ∀ z : After w7, z.1.cell? ⟨b, off + k * 5 + 3, none⟩ = some (.int .i64 x.day.d) := fun z => (z.2.cell (p := ⟨b, off + k * 5 + 3, none⟩) hbl7).trans d3
              have hrd4 : ∀ z : After w7, z.1.cell? ⟨b, off + k * 5 + 4, none⟩ = some (.int .i64 x.bp) := fun z => (z.2.cell (p := ⟨b, off + k * 5 + 4, none⟩) hbl7).trans d4
              have hcm0 : ∀ z : After w7, Calls Try.prog 53 #[.agg #[.string r.cat, .int .i64 r.day.y, .int .i64 r.day.m, .int .i64 r.day.d, .int .i64 r.bp], .agg #[.string x.cat, .int .i64 x.day.y, .int .i64 x.day.m, .int .i64 x.day.d, .int .i64 x.bp]] z.1 fun e w' => e = .returned (.bool false) ∧ ∃ y : After w7, w' = y.1 := fun z => z.call ((refBefore r x _ Hrr.out Hrx.out).mono fun e w' h => ⟨by rw [h.1, Hbx.out], h.2⟩)
              refine wp_region_after (by kernel_rfl) (by kernel_rfl) ?_
              repeat (go_big_quiet_step (first | with_reducible exact hcm0 _))
              refine wpQuiet_nil ?_
              rintro w8 ⟨⟨w8x, c8⟩, hw8⟩
              change w8 = w8x at hw8
              subst hw8
              clear hpkq70 hpkq71 hpkq72 hpkq73 hpkq74 hrd0 hrd1 hrd2 hrd3 hrd4 hcm0
              have hb8 := hb7.trans (c8.mono hb7.size)
              have Hf := Lib.hid (put_taken Hr.out Hq.out Has.out)
              go_wp2_with fail
              go_ret2
              exact ⟨by rw [Hf.out]; rfl, bx2.trans (hb8.mono bx2.size)⟩
            | true =>
              have Hbx := Lib.hid hbx
              rw [hbx] at has
              have Has := Lib.hid has
              clear hbx has
              go_wp2_with fail
              have hxkq0 : ∀ z : After W, z.1.cell? ⟨w.heap.size, 0, none⟩ = some (.string r.cat) := fun z => (kq.ext z.2).cell 0 _ rfl
              have hxkq1 : ∀ z : After W, z.1.cell? ⟨w.heap.size, 1, none⟩ = some (.int .i64 r.day.y) := fun z => (kq.ext z.2).cell 1 _ rfl
              have hxkq2 : ∀ z : After W, z.1.cell? ⟨w.heap.size, 2, none⟩ = some (.int .i64 r.day.m) := fun z => (kq.ext z.2).cell 2 _ rfl
              have hxkq3 : ∀ z : After W, z.1.cell? ⟨w.heap.size, 3, none⟩ = some (.int .i64 r.day.d) := fun z => (kq.ext z.2).cell 3 _ rfl
              have hxkq4 : ∀ z : After W, z.1.cell? ⟨w.heap.size, 4, none⟩ = some (.int .i64 r.bp) := fun z => (kq.ext z.2).cell 4 _ rfl
              have hyc0 : ∀ z : After W, z.1.cell? ⟨b, off + k * 5, none⟩ = some (.string x.cat) := fun z => (z.2.cell (p := ⟨b, off + k * 5, none⟩) hbl).trans c0
              have hyc1 : ∀ z : After W, z.1.cell? ⟨b, off + k * 5 + 1, none⟩ = some (.int .i64 x.day.y) := fun z => (z.2.cell (p := ⟨b, off + k * 5 + 1, none⟩) hbl).trans c1
              have hyc2 : ∀ z : After W, z.1.cell? ⟨b, off + k * 5 + 2, none⟩ = some (.int .i64 x.day.m) := fun z => (z.2.cell (p := ⟨b, off + k * 5 + 2, none⟩) hbl).trans c2
              have hyc3 : ∀ z : After W, z.1.cell? ⟨b, off + k * 5 + 3, none⟩ = some (.int .i64 x.day.d) := fun z => (z.2.cell (p := ⟨b, off + k * 5 + 3, none⟩) hbl).trans c3
              have hyc4 : ∀ z : After W, z.1.cell? ⟨b, off + k * 5 + 4, none⟩ = some (.int .i64 x.bp) := fun z => (z.2.cell (p := ⟨b, off + k * 5 + 4, none⟩) hbl).trans c4
              have hcl0 : ∀ z : After W, Calls Try.prog 53 #[.agg #[.string x.cat, .int .i64 x.day.y, .int .i64 x.day.m, .int .i64 x.day.d, .int .i64 x.bp], .agg #[.string r.cat, .int .i64 r.day.y, .int .i64 r.day.m, .int .i64 r.day.d, .int .i64 r.bp]] z.1 fun e w' => e = .returned (.bool false) ∧ ∃ y : After W, w' = y.1 := fun z => z.call ((refBefore x r _ Hrx.out Hrr.out).mono fun e w' h => ⟨by rw [h.1, Hax.out], h.2⟩)
              refine wp_region_after (by kernel_rfl) (by kernel_rfl) ?_
              repeat (go_big_quiet_step (first | with_reducible exact hcl0 _))
              refine wpQuiet_nil ?_
              rintro w7 ⟨⟨w7x, c7⟩, hw7⟩
              change w7 = w7x at hw7
              subst hw7
              clear hxkq0 hxkq1 hxkq2 hxkq3 hxkq4 hyc0 hyc1 hyc2 hyc3 hyc4 hcl0
              have hb7 := hb.trans (c7.mono hb.size)
              have kq7 := kq.ext c7
              have d0 := (c7.cell (p := ⟨b, off + k * 5, none⟩) hbl).trans c0
              have d1 := (c7.cell (p := ⟨b, off + k * 5 + 1, none⟩) hbl).trans c1
              have d2 := (c7.cell (p := ⟨b, off + k * 5 + 2, none⟩) hbl).trans c2
              have d3 := (c7.cell (p := ⟨b, off + k * 5 + 3, none⟩) hbl).trans c3
              have d4 := (c7.cell (p := ⟨b, off + k * 5 + 4, none⟩) hbl).trans c4
              have hbl7 := Nat.lt_of_lt_of_le hbl c7.size
              clear c0 c1 c2 c3 c4 kq c7 hb hbl
              go_wp2_with fail
              have hpkq70 : ∀ z : After w7, z.1.cell? ⟨w.heap.size, 0, none⟩ = some (.string r.cat) := fun z => (kq7.ext z.2).cell 0 _ rfl
              have hpkq71 : ∀ z : After w7, z.1.cell? ⟨w.heap.size, 1, none⟩ = some (.int .i64 r.day.y) := fun z => (kq7.ext z.2).cell 1 _ rfl
              have hpkq72 : ∀ z : After w7, z.1.cell? ⟨w.heap.size, 2, none⟩ = some (.int .i64 r.day.m) := fun z => (kq7.ext z.2).cell 2 _ rfl
              have hpkq73 : ∀ z : After w7, z.1.cell? ⟨w.heap.size, 3, none⟩ = some (.int .i64 r.day.d) := fun z => (kq7.ext z.2).cell 3 _ rfl
              have hpkq74 : ∀ z : After w7, z.1.cell? ⟨w.heap.size, 4, none⟩ = some (.int .i64 r.bp) := fun z => (kq7.ext z.2).cell 4 _ rfl
              have hrd0 : ∀ z : After w7, z.1.cell? ⟨b, off + k * 5, none⟩ = some (.string x.cat) := fun z => (z.2.cell (p := ⟨b, off + k * 5, none⟩) hbl7).trans d0
              have hrd1 : ∀ z : After w7, z.1.cell? ⟨b, off + k * 5 + 1, none⟩ = some (.int .i64 x.day.y) := fun z => (z.2.cell (p := ⟨b, off + k * 5 + 1, none⟩) hbl7).trans d1
              have hrd2 : ∀ z : After w7, z.1.cell? ⟨b, off + k * 5 + 2, none⟩ = some (.int .i64 x.day.m) := fun z => (z.2.cell (p := ⟨b, off + k * 5 + 2, none⟩) hbl7).trans d2
              have hrd3 : ∀ z : After w7, z.1.cell? ⟨b, off + k * 5 + 3, none⟩ = some (.int .i64 x.day.d) := fun z => (z.2.cell (p := ⟨b, off + k * 5 + 3, none⟩) hbl7).trans d3
              have hrd4 : ∀ z : After w7, z.1.cell? ⟨b, off + k * 5 + 4, none⟩ = some (.int .i64 x.bp) := fun z => (z.2.cell (p := ⟨b, off + k * 5 + 4, none⟩) hbl7).trans d4
              have hcm0 : ∀ z : After w7, Calls Try.prog 53 #[.agg #[.string r.cat, .int .i64 r.day.y, .int .i64 r.day.m, .int .i64 r.day.d, .int .i64 r.bp], .agg #[.string x.cat, .int .i64 x.day.y, .int .i64 x.day.m, .int .i64 x.day.d, .int .i64 x.bp]] z.1 fun e w' => e = .returned (.bool true) ∧ ∃ y : After w7, w' = y.1 := fun z => z.call ((refBefore r x _ Hrr.out Hrx.out).mono fun e w' h => ⟨by rw [h.1, Hbx.out], h.2⟩)
              refine wp_region_after (by kernel_rfl) (by kernel_rfl) ?_
              repeat (go_big_quiet_step (first | with_reducible exact hcm0 _))
              refine wpQuiet_nil ?_
              rintro w8 ⟨⟨w8x, c8⟩, hw8⟩
              change w8 = w8x at hw8
              subst hw8
              clear hpkq70 hpkq71 hpkq72 hpkq73 hpkq74 hrd0 hrd1 hrd2 hrd3 hrd4 hcm0
              have hb8 := hb7.trans (c8.mono hb7.size)
              clear kq7 hb7 d0 d1 d2 d3 d4 hbl7 c8
              obtain ⟨w1, hw1⟩ : ∃ z, z = w8 := ⟨_, rfl⟩
              subst hw1
              have b12 := bx2.trans (hb8.mono bx2.size)
              have kz := k2.ext hb8
              have hvz := hv2.ext hb8
              by_cases h24 : 24 ≤ l.length
              · have Hf := Lib.hid (put_long Hr.out Hq.out Has.out h24)
                have h24' : (24 : Int) ≤ (l.length : Int) := by omega
                go_wp2_with fail
                go_ret2
                exact ⟨by rw [Hf.out]; rfl, b12⟩
              · have hf := put_yes Hr.out Hq.out Has.out h24
                rw [Hcn.out] at hf
                have Hf := Lib.hid hf
                have h24' : ¬ (24 : Int) ≤ (l.length : Int) := by omega
                have hsz := b12.size
                have hlN : w.heap.size < w1.heap.size := kz.lt
                have hkl : (k : Int) ≤ (l.length : Int) := by omega
                clear hf
                have hA := run_sub_to tRate (P := Try.prog) hvz .i64 (k : Int) k rfl hk
                have hB := run_sub_from tRate (P := Try.prog) hvz .i64 (k : Int) k rfl hk
                have rA := hvz.sub 0 k (by omega) hk
                have rB := hvz.sub k l.length hk (Nat.le_refl _)
                rw [show (l.drop 0).take (k - 0) = l.take k from by simp, show rateE.sz = 5 from rfl] at rA
                rw [show (l.drop k).take (l.length - k) = l.drop k from List.take_of_length_le (by simp), show rateE.sz = 5 from rfl] at rB
                generalize subV (.slice (some ⟨b, off, none⟩) l.length cap) 0 k 5 = vA at *
                generalize subV (.slice (some ⟨b, off, none⟩) l.length cap) k l.length 5 = vB at *
                have Hkz := Lib.hid kz
                have z0 := kz.cell 0 _ rfl
                have z1 := kz.cell 1 _ rfl
                have z2 := kz.cell 2 _ rfl
                have z3 := kz.cell 3 _ rfl
                have z4 := kz.cell 4 _ rfl
                clear kz hvz hv2 k2
                go_wp2_with fail
                have bA : Below w1.heap.size w1 (w1.drew.alloc (.cells #[] 25)) := (below_drew _ _).trans (below_alloc w1.drew _)
                have bB : Below w1.heap.size w1 ((w1.drew.alloc (.cells #[] 25)).alloc (.cells #[.string r.cat, .int .i64 r.day.y, .int .i64 r.day.m, .int .i64 r.day.d, .int .i64 r.bp] 25)) := bA.trans ((below_alloc _ _).mono bA.size)
                have bC0 : Below w1.heap.size w1 (w1.drew.alloc (.cells #[.string r.cat, .int .i64 r.day.y, .int .i64 r.day.m, .int .i64 r.day.d, .int .i64 r.bp] 25)) := (below_drew _ _).trans (below_alloc w1.drew _)
                have bC : Below w1.heap.size w1 ((w1.drew.alloc (.cells #[.string r.cat, .int .i64 r.day.y, .int .i64 r.day.m, .int .i64 r.day.d, .int .i64 r.bp] 25)).alloc (.cells #[] 25)) := bC0.trans ((below_alloc _ _).mono bC0.size)
                have hSe : (w1.drew.alloc (.cells #[] 25)).heap.size = w1.heap.size + 1 := by show (w1.heap.push _).size = _; simp
                have hSl : (w1.drew.alloc (.cells #[.string r.cat, .int .i64 r.day.y, .int .i64 r.day.m, .int .i64 r.day.d, .int .i64 r.bp] 25)).heap.size = w1.heap.size + 1 := by show (w1.heap.push _).size = _; simp
                have ownA : OwnR rateE (w1.drew.alloc (.cells #[] 25)) w1.heap.size 25 (.slice (some ⟨w1.heap.size, 0, none⟩) 0 0) [] := OwnR.litAt rateE w1.drew #[] _ [] 0 w1.heap.size w1.heap.size rfl rfl rfl (Nat.zero_le _) (Nat.le_refl _)
                have ownB := ownA.ext (below_alloc _ (.cells #[.string r.cat, .int .i64 r.day.y, .int .i64 r.day.m, .int .i64 r.day.d, .int .i64 r.bp] 25))
                have ownC : OwnR rateE ((w1.drew.alloc (.cells #[.string r.cat, .int .i64 r.day.y, .int .i64 r.day.m, .int .i64 r.day.d, .int .i64 r.bp] 25)).alloc (.cells #[] 25)) w1.heap.size 25 (.slice (some ⟨w1.heap.size + 1, 0, none⟩) 0 0) [] := OwnR.litAt rateE _ #[] _ [] 0 w1.heap.size (w1.heap.size + 1) hSl rfl rfl (Nat.zero_le _) (by omega)
                have LB : Rd rateE ((w1.drew.alloc (.cells #[] 25)).alloc (.cells #[.string r.cat, .int .i64 r.day.y, .int .i64 r.day.m, .int .i64 r.day.d, .int .i64 r.bp] 25)) (.slice (some ⟨w1.heap.size + 1, 0, none⟩) 1 1) [r] := OwnR.rd (OwnR.litAt rateE _ _ _ [r] 1 0 (w1.heap.size + 1) hSe rfl rfl (by unfold maxLen; omega) (Nat.zero_le _))
                have LC : Rd rateE ((w1.drew.alloc (.cells #[.string r.cat, .int .i64 r.day.y, .int .i64 r.day.m, .int .i64 r.day.d, .int .i64 r.bp] 25)).alloc (.cells #[] 25)) (.slice (some ⟨w1.heap.size, 0, none⟩) 1 1) [r] := Rd.ext (OwnR.rd (OwnR.litAt rateE w1.drew _ _ [r] 1 0 w1.heap.size rfl rfl rfl (by unfold maxLen; omega) (Nat.zero_le _))) (below_alloc _ _)
                have hneB : (Value.slice (some ⟨w1.heap.size + 1, 0, none⟩) 1 1).ownBlock ≠ (Value.slice (some ⟨w1.heap.size, 0, none⟩) 0 0).ownBlock := by simp [Value.ownBlock]
                have hneC : (Value.slice (some ⟨w1.heap.size, 0, none⟩) 1 1).ownBlock ≠ (Value.slice (some ⟨w1.heap.size + 1, 0, none⟩) 0 0).ownBlock := by simp [Value.ownBlock]
                have HneB := Lib.hid hneB
                have HneC := Lib.hid hneC
                have hc1 : (([] : List Rate).length + (l.take k).length) * 48 ≤ 140737488355328 := by simp; omega
                have hc2 : (([] ++ l.take k).length + [r].length) * 48 ≤ 140737488355328 := by simp; omega
                have hc3 : (([] ++ l.take k ++ [r]).length + (l.drop k).length) * 48 ≤ 140737488355328 := by simp; omega
                have Hc1 := Lib.hid hc1
                have Hc2 := Lib.hid hc2
                have Hc3 := Lib.hid hc3
                have HLB := Lib.hid LB
                have HLC := Lib.hid LC
                clear hc1 hc2 hc3 hSe hSl hneB hneC LB LC
                go_region_held3 (fun w' => w'.cell? ⟨w.heap.size, 0, none⟩ = some (.string r.cat) ∧ w'.cell? ⟨w.heap.size, 1, none⟩ = some (.int .i64 r.day.y) ∧ w'.cell? ⟨w.heap.size, 2, none⟩ = some (.int .i64 r.day.m) ∧ w'.cell? ⟨w.heap.size, 3, none⟩ = some (.int .i64 r.day.d) ∧ w'.cell? ⟨w.heap.size, 4, none⟩ = some (.int .i64 r.bp))
                  (first | go_keep | (simp only [World.cell?_alloc_some]; go_keep))
                  (first
                  | (refine step_appR (E := rateE) (s := .tmp 46) (y := .tmp 49) (B := w1.heap.size) (l := []) (m := l.take k) tRate rfl rfl (by first | exact ownA | exact ownB | exact ownC) (by simp [Act.eval, Act.put]) (by first | exact rA.ext bA | exact rA.ext bB | exact rA.ext bC) (by simp [Act.eval, Act.put]) Hc1.out (by first | exact bA.size | exact bB.size | exact bC.size) ?_; intro v8 w8 own8 g8 b8; have b18 : Below w1.heap.size w1 w8 := (by first | exact bA.trans b8 | exact bB.trans b8 | exact bC.trans b8); have L8 : True ∧ (Rd rateE w8 (.slice (some ⟨w1.heap.size + 1, 0, none⟩) 1 1) [r] ∨ Rd rateE w8 (.slice (some ⟨w1.heap.size, 0, none⟩) 1 1) [r] ∨ True) := (by first | exact ⟨trivial, .inl (HLB.out.grown g8 (.inr HneB.out))⟩ | exact ⟨trivial, .inr (.inl (HLC.out.grown g8 (.inr HneC.out)))⟩ | exact ⟨trivial, .inr (.inr trivial)⟩); have kk := Hkz.out.ext b18; have t0 := kk.cell 0 _ rfl; have t1 := kk.cell 1 _ rfl; have t2 := kk.cell 2 _ rfl; have t3 := kk.cell 3 _ rfl; have t4 := kk.cell 4 _ rfl; clear L8 kk; clear b8)
                  | (refine step_appR (E := rateE) (s := .tmp 50) (y := .tmp 52) (B := w1.heap.size) (l := [] ++ l.take k) (m := [r]) tRate rfl rfl (by first | exact own8 | exact own8.ext (below_alloc _ _)) (by simp [Act.eval, Act.put]) (by first | exact OwnR.rd (OwnR.litAt rateE w8 _ _ [r] 1 0 w8.heap.size rfl rfl rfl (by unfold maxLen; omega) (Nat.zero_le _)) | exact HLB.out.grown g8 (.inr HneB.out) | exact HLC.out.grown g8 (.inr HneC.out)) (by simp [Act.eval, Act.put]) Hc2.out (by first | exact b18.size | exact (b18.trans ((below_alloc _ _).mono b18.size)).size) ?_; intro v9 w9 own9 g9 b9; have b19 : Below w1.heap.size w1 w9 := (by first | exact b18.trans b9 | exact (b18.trans ((below_alloc _ _).mono b18.size)).trans b9); have rB9 := rB.ext b19; have hs9 := b19.size; have kk := Hkz.out.ext b19; have q0 := kk.cell 0 _ rfl; have q1 := kk.cell 1 _ rfl; have q2 := kk.cell 2 _ rfl; have q3 := kk.cell 3 _ rfl; have q4 := kk.cell 4 _ rfl; clear g9 kk)
                  | (refine step_appR (E := rateE) (s := .tmp 53) (y := .tmp 56) tRate rfl rfl own9 (by simp [Act.eval, Act.put]) rB9 (by simp [Act.eval, Act.put]) Hc3.out hs9 ?_; intro v10 w10 own10 g10 b10; have kk := Hkz.out.ext (b19.trans b10); have p0 := kk.cell 0 _ rfl; have p1 := kk.cell 1 _ rfl; have p2 := kk.cell 2 _ rfl; have p3 := kk.cell 3 _ rfl; have p4 := kk.cell 4 _ rfl; clear g10 kk))
                all_goals
                  go_wp2_with fail
                  go_ret2
                  exact ⟨by rw [Hf.out]; exact ⟨_, rfl, by have h := own10.base hsz; rw [List.nil_append, List.append_assoc] at h; exact h⟩, b12.trans ((b19.trans b10).mono hsz)⟩
        · have hi : ¬ (k : Int) < (l.length : Int) := by omega
          have hke : k = l.length := by omega
          have Hcn : Hid (cntT l r = k) := cntT_is hk hall.out (fun h => absurd h hlt)
          have Has : Hid (l.any (sameT r) = false) := any_same_end (fun j h _ => hall.out j h (by omega))
          clear hall hke hvr
          go_wp2_with fail
          have hxkq0 : ∀ z : After W, z.1.cell? ⟨w.heap.size, 0, none⟩ = some (.string r.cat) := fun z => (kq.ext z.2).cell 0 _ rfl
          have hxkq1 : ∀ z : After W, z.1.cell? ⟨w.heap.size, 1, none⟩ = some (.int .i64 r.day.y) := fun z => (kq.ext z.2).cell 1 _ rfl
          have hxkq2 : ∀ z : After W, z.1.cell? ⟨w.heap.size, 2, none⟩ = some (.int .i64 r.day.m) := fun z => (kq.ext z.2).cell 2 _ rfl
          have hxkq3 : ∀ z : After W, z.1.cell? ⟨w.heap.size, 3, none⟩ = some (.int .i64 r.day.d) := fun z => (kq.ext z.2).cell 3 _ rfl
          have hxkq4 : ∀ z : After W, z.1.cell? ⟨w.heap.size, 4, none⟩ = some (.int .i64 r.bp) := fun z => (kq.ext z.2).cell 4 _ rfl
          refine wp_region_after (by kernel_rfl) (by kernel_rfl) ?_
          repeat (go_big_quiet_step (fail))
          refine wpQuiet_nil ?_
          rintro w7 ⟨⟨w7x, c7⟩, hw7⟩
          change w7 = w7x at hw7
          subst hw7
          clear hxkq0 hxkq1 hxkq2 hxkq3 hxkq4
          have hb7 := hb.trans (c7.mono hb.size)
          have kq7 := kq.ext c7
          clear kq c7 hb
          go_wp2_with fail
          have hpkq70 : ∀ z : After w7, z.1.cell? ⟨w.heap.size, 0, none⟩ = some (.string r.cat) := fun z => (kq7.ext z.2).cell 0 _ rfl
          have hpkq71 : ∀ z : After w7, z.1.cell? ⟨w.heap.size, 1, none⟩ = some (.int .i64 r.day.y) := fun z => (kq7.ext z.2).cell 1 _ rfl
          have hpkq72 : ∀ z : After w7, z.1.cell? ⟨w.heap.size, 2, none⟩ = some (.int .i64 r.day.m) := fun z => (kq7.ext z.2).cell 2 _ rfl
          have hpkq73 : ∀ z : After w7, z.1.cell? ⟨w.heap.size, 3, none⟩ = some (.int .i64 r.day.d) := fun z => (kq7.ext z.2).cell 3 _ rfl
          have hpkq74 : ∀ z : After w7, z.1.cell? ⟨w.heap.size, 4, none⟩ = some (.int .i64 r.bp) := fun z => (kq7.ext z.2).cell 4 _ rfl
          refine wp_region_after (by kernel_rfl) (by kernel_rfl) ?_
          repeat (go_big_quiet_step (fail))
          refine wpQuiet_nil ?_
          rintro w8 ⟨⟨w8x, c8⟩, hw8⟩
          change w8 = w8x at hw8
          subst hw8
          clear hpkq70 hpkq71 hpkq72 hpkq73 hpkq74
          have hb8 := hb7.trans (c8.mono hb7.size)
          clear kq7 hb7 c8
          obtain ⟨w1, hw1⟩ : ∃ z, z = w8 := ⟨_, rfl⟩
          subst hw1
          have b12 := bx2.trans (hb8.mono bx2.size)
          have kz := k2.ext hb8
          have hvz := hv2.ext hb8
          by_cases h24 : 24 ≤ l.length
          · have Hf := Lib.hid (put_long Hr.out Hq.out Has.out h24)
            have h24' : (24 : Int) ≤ (l.length : Int) := by omega
            go_wp2_with fail
            go_ret2
            exact ⟨by rw [Hf.out]; rfl, b12⟩
          · have hf := put_yes Hr.out Hq.out Has.out h24
            rw [Hcn.out] at hf
            have Hf := Lib.hid hf
            have h24' : ¬ (24 : Int) ≤ (l.length : Int) := by omega
            have hsz := b12.size
            have hlN : w.heap.size < w1.heap.size := kz.lt
            have hkl : (k : Int) ≤ (l.length : Int) := by omega
            clear hf
            have hA := run_sub_to tRate (P := Try.prog) hvz .i64 (k : Int) k rfl hk
            have hB := run_sub_from tRate (P := Try.prog) hvz .i64 (k : Int) k rfl hk
            have rA := hvz.sub 0 k (by omega) hk
            have rB := hvz.sub k l.length hk (Nat.le_refl _)
            rw [show (l.drop 0).take (k - 0) = l.take k from by simp, show rateE.sz = 5 from rfl] at rA
            rw [show (l.drop k).take (l.length - k) = l.drop k from List.take_of_length_le (by simp), show rateE.sz = 5 from rfl] at rB
            generalize subV (.slice p l.length cap) 0 k 5 = vA at *
            generalize subV (.slice p l.length cap) k l.length 5 = vB at *
            have Hkz := Lib.hid kz
            have z0 := kz.cell 0 _ rfl
            have z1 := kz.cell 1 _ rfl
            have z2 := kz.cell 2 _ rfl
            have z3 := kz.cell 3 _ rfl
            have z4 := kz.cell 4 _ rfl
            clear kz hvz hv2 k2
            go_wp2_with fail
            have bA : Below w1.heap.size w1 (w1.drew.alloc (.cells #[] 25)) := (below_drew _ _).trans (below_alloc w1.drew _)
            have bB : Below w1.heap.size w1 ((w1.drew.alloc (.cells #[] 25)).alloc (.cells #[.string r.cat, .int .i64 r.day.y, .int .i64 r.day.m, .int .i64 r.day.d, .int .i64 r.bp] 25)) := bA.trans ((below_alloc _ _).mono bA.size)
            have bC0 : Below w1.heap.size w1 (w1.drew.alloc (.cells #[.string r.cat, .int .i64 r.day.y, .int .i64 r.day.m, .int .i64 r.day.d, .int .i64 r.bp] 25)) := (below_drew _ _).trans (below_alloc w1.drew _)
            have bC : Below w1.heap.size w1 ((w1.drew.alloc (.cells #[.string r.cat, .int .i64 r.day.y, .int .i64 r.day.m, .int .i64 r.day.d, .int .i64 r.bp] 25)).alloc (.cells #[] 25)) := bC0.trans ((below_alloc _ _).mono bC0.size)
            have hSe : (w1.drew.alloc (.cells #[] 25)).heap.size = w1.heap.size + 1 := by show (w1.heap.push _).size = _; simp
            have hSl : (w1.drew.alloc (.cells #[.string r.cat, .int .i64 r.day.y, .int .i64 r.day.m, .int .i64 r.day.d, .int .i64 r.bp] 25)).heap.size = w1.heap.size + 1 := by show (w1.heap.push _).size = _; simp
            have ownA : OwnR rateE (w1.drew.alloc (.cells #[] 25)) w1.heap.size 25 (.slice (some ⟨w1.heap.size, 0, none⟩) 0 0) [] := OwnR.litAt rateE w1.drew #[] _ [] 0 w1.heap.size w1.heap.size rfl rfl rfl (Nat.zero_le _) (Nat.le_refl _)
            have ownB := ownA.ext (below_alloc _ (.cells #[.string r.cat, .int .i64 r.day.y, .int .i64 r.day.m, .int .i64 r.day.d, .int .i64 r.bp] 25))
            have ownC : OwnR rateE ((w1.drew.alloc (.cells #[.string r.cat, .int .i64 r.day.y, .int .i64 r.day.m, .int .i64 r.day.d, .int .i64 r.bp] 25)).alloc (.cells #[] 25)) w1.heap.size 25 (.slice (some ⟨w1.heap.size + 1, 0, none⟩) 0 0) [] := OwnR.litAt rateE _ #[] _ [] 0 w1.heap.size (w1.heap.size + 1) hSl rfl rfl (Nat.zero_le _) (by omega)
            have LB : Rd rateE ((w1.drew.alloc (.cells #[] 25)).alloc (.cells #[.string r.cat, .int .i64 r.day.y, .int .i64 r.day.m, .int .i64 r.day.d, .int .i64 r.bp] 25)) (.slice (some ⟨w1.heap.size + 1, 0, none⟩) 1 1) [r] := OwnR.rd (OwnR.litAt rateE _ _ _ [r] 1 0 (w1.heap.size + 1) hSe rfl rfl (by unfold maxLen; omega) (Nat.zero_le _))
            have LC : Rd rateE ((w1.drew.alloc (.cells #[.string r.cat, .int .i64 r.day.y, .int .i64 r.day.m, .int .i64 r.day.d, .int .i64 r.bp] 25)).alloc (.cells #[] 25)) (.slice (some ⟨w1.heap.size, 0, none⟩) 1 1) [r] := Rd.ext (OwnR.rd (OwnR.litAt rateE w1.drew _ _ [r] 1 0 w1.heap.size rfl rfl rfl (by unfold maxLen; omega) (Nat.zero_le _))) (below_alloc _ _)
            have hneB : (Value.slice (some ⟨w1.heap.size + 1, 0, none⟩) 1 1).ownBlock ≠ (Value.slice (some ⟨w1.heap.size, 0, none⟩) 0 0).ownBlock := by simp [Value.ownBlock]
            have hneC : (Value.slice (some ⟨w1.heap.size, 0, none⟩) 1 1).ownBlock ≠ (Value.slice (some ⟨w1.heap.size + 1, 0, none⟩) 0 0).ownBlock := by simp [Value.ownBlock]
            have HneB := Lib.hid hneB
            have HneC := Lib.hid hneC
            have hc1 : (([] : List Rate).length + (l.take k).length) * 48 ≤ 140737488355328 := by simp; omega
            have hc2 : (([] ++ l.take k).length + [r].length) * 48 ≤ 140737488355328 := by simp; omega
            have hc3 : (([] ++ l.take k ++ [r]).length + (l.drop k).length) * 48 ≤ 140737488355328 := by simp; omega
            have Hc1 := Lib.hid hc1
            have Hc2 := Lib.hid hc2
            have Hc3 := Lib.hid hc3
            have HLB := Lib.hid LB
            have HLC := Lib.hid LC
            clear hc1 hc2 hc3 hSe hSl hneB hneC LB LC
            go_region_held3 (fun w' => w'.cell? ⟨w.heap.size, 0, none⟩ = some (.string r.cat) ∧ w'.cell? ⟨w.heap.size, 1, none⟩ = some (.int .i64 r.day.y) ∧ w'.cell? ⟨w.heap.size, 2, none⟩ = some (.int .i64 r.day.m) ∧ w'.cell? ⟨w.heap.size, 3, none⟩ = some (.int .i64 r.day.d) ∧ w'.cell? ⟨w.heap.size, 4, none⟩ = some (.int .i64 r.bp))
              (first | go_keep | (simp only [World.cell?_alloc_some]; go_keep))
              (first
              | (refine step_appR (E := rateE) (s := .tmp 46) (y := .tmp 49) (B := w1.heap.size) (l := []) (m := l.take k) tRate rfl rfl (by first | exact ownA | exact ownB | exact ownC) (by simp [Act.eval, Act.put]) (by first | exact rA.ext bA | exact rA.ext bB | exact rA.ext bC) (by simp [Act.eval, Act.put]) Hc1.out (by first | exact bA.size | exact bB.size | exact bC.size) ?_; intro v8 w8 own8 g8 b8; have b18 : Below w1.heap.size w1 w8 := (by first | exact bA.trans b8 | exact bB.trans b8 | exact bC.trans b8); have L8 : True ∧ (Rd rateE w8 (.slice (some ⟨w1.heap.size + 1, 0, none⟩) 1 1) [r] ∨ Rd rateE w8 (.slice (some ⟨w1.heap.size, 0, none⟩) 1 1) [r] ∨ True) := (by first | exact ⟨trivial, .inl (HLB.out.grown g8 (.inr HneB.out))⟩ | exact ⟨trivial, .inr (.inl (HLC.out.grown g8 (.inr HneC.out)))⟩ | exact ⟨trivial, .inr (.inr trivial)⟩); have kk := Hkz.out.ext b18; have t0 := kk.cell 0 _ rfl; have t1 := kk.cell 1 _ rfl; have t2 := kk.cell 2 _ rfl; have t3 := kk.cell 3 _ rfl; have t4 := kk.cell 4 _ rfl; clear L8 kk; clear b8)
              | (refine step_appR (E := rateE) (s := .tmp 50) (y := .tmp 52) (B := w1.heap.size) (l := [] ++ l.take k) (m := [r]) tRate rfl rfl (by first | exact own8 | exact own8.ext (below_alloc _ _)) (by simp [Act.eval, Act.put]) (by first | exact OwnR.rd (OwnR.litAt rateE w8 _ _ [r] 1 0 w8.heap.size rfl rfl rfl (by unfold maxLen; omega) (Nat.zero_le _)) | exact HLB.out.grown g8 (.inr HneB.out) | exact HLC.out.grown g8 (.inr HneC.out)) (by simp [Act.eval, Act.put]) Hc2.out (by first | exact b18.size | exact (b18.trans ((below_alloc _ _).mono b18.size)).size) ?_; intro v9 w9 own9 g9 b9; have b19 : Below w1.heap.size w1 w9 := (by first | exact b18.trans b9 | exact (b18.trans ((below_alloc _ _).mono b18.size)).trans b9); have rB9 := rB.ext b19; have hs9 := b19.size; have kk := Hkz.out.ext b19; have q0 := kk.cell 0 _ rfl; have q1 := kk.cell 1 _ rfl; have q2 := kk.cell 2 _ rfl; have q3 := kk.cell 3 _ rfl; have q4 := kk.cell 4 _ rfl; clear g9 kk)
              | (refine step_appR (E := rateE) (s := .tmp 53) (y := .tmp 56) tRate rfl rfl own9 (by simp [Act.eval, Act.put]) rB9 (by simp [Act.eval, Act.put]) Hc3.out hs9 ?_; intro v10 w10 own10 g10 b10; have kk := Hkz.out.ext (b19.trans b10); have p0 := kk.cell 0 _ rfl; have p1 := kk.cell 1 _ rfl; have p2 := kk.cell 2 _ rfl; have p3 := kk.cell 3 _ rfl; have p4 := kk.cell 4 _ rfl; clear g10 kk))
            all_goals
              go_wp2_with fail
              go_ret2
              exact ⟨by rw [Hf.out]; exact ⟨_, rfl, by have h := own10.base hsz; rw [List.nil_append, List.append_assoc] at h; exact h⟩, b12.trans ((b19.trans b10).mono hsz)⟩
end Go.Proofs.Ytpobhlnlnplbdaa
