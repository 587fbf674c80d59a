/- The walk of impostref8.Enter. -/
import Derived.Test.YtfimaamndcdofaaEnter
import Derived.Deep.RegionHeld3
import Derived.Deep.DrawnRows
namespace Go.Proofs.Ytfimaamndcdofaa
open Go Go.RowKit
attribute [local go_sem ↓] Go.wp_at_zero Go.wp_at_succ

set_option maxHeartbeats 4000000 in
set_option maxRecDepth 100000 in
theorem refEnter (v u : Value) (book l : List Bal) (w : World) (hv : Rd balE w v book) (hu : Rd balE w u l) (hfb : ∀ y ∈ book, Mon.fits y.2) (hfl : ∀ y ∈ l, Mon.fits y.2) (hlen : (book.length + l.length + 1) * 24 ≤ 140737488355328) :
    Calls Try.prog 16 #[v, u] w fun e w' => TellsL balE w' w.heap.size 33 (enter book l) e ∧ Below w.heap.size w w' := by
  obtain ⟨q, dap, rfl, g1, g2, g3, g4⟩ := hu.form
  obtain ⟨p, cap, rfl⟩ := hv.shape
  unfold maxLen at g2
  clear g3
  have Hfb := Lib.hid hfb
  have Hfl := Lib.hid hfl
  clear hfb hfl
  by_cases hr : rightB book = true
  · have He : Hid (enter book l = enterTo book l) := by show _ = _; unfold enter; rw [if_pos hr]
    have Hr := Lib.hid hr
    clear hr
    go_enter Try.func16, Try.ntmps16
    go_wp2_with fail
    with_reducible refine (bookRight _ book _ hv).mono ?_
    rintro e w' ⟨rfl, n0, rfl⟩
    rw [Hr.out]
    have hv0 := hv.drewN n0
    have b0 := below_drawn w.heap.size w n0
    have own0 : OwnR balE ((w.drewN n0).alloc (.cells #[] 33)) w.heap.size 33 (.slice (some ⟨w.heap.size, 0, none⟩) 0 0) [] := OwnR.litAt balE (w.drewN n0) #[] _ [] 0 w.heap.size w.heap.size rfl rfl rfl (Nat.zero_le _) (Nat.le_refl _)
    have hs0 : w.heap.size ≤ ((w.drewN n0).alloc (.cells #[] 33)).heap.size := by simp
    have hv1 := hv0.ext (below_alloc (w.drewN n0) (.cells #[] 33))
    have b0' : Below w.heap.size w ((w.drewN n0).alloc (.cells #[] 33)) := b0.trans (below_alloc (w.drewN n0) _)
    go_wp2_with (first
      | (at_builtin; refine wpList_appR (E := balE) tBal rfl rfl own0 rfl hv1 rfl (by simp; omega) hs0 ?_; intro v1 w1 own1 g1' b1; clear g1')
      | fail)
    have own1 : OwnR balE w1 w.heap.size 33 v1 book := by simpa using own1
    replace b1 := b0'.trans b1
    clear hv0 b0 hs0 hv1 b0' own0
    go_loopw [6, 7] (fun a i wr => ∃ (k : Nat) (acc : List Bal), k ≤ l.length ∧ i = .int .i64 k ∧ OwnR balE wr w.heap.size 33 a acc ∧ acc.length ≤ book.length + k ∧ Hid (∀ y ∈ acc, Mon.fits y.2) ∧ Hid (enterTo book l = enterTo acc (l.drop k)) ∧ Below w.heap.size w wr) (fun _ i _ => l.length - (intOf i).toNat)
    case atStart => exact ⟨0, book, by omega, rfl, own1, by omega, Hfb, rfl, b1⟩
    case round =>
      obtain ⟨k, acc, hk, rfl, own, hal, hfa, hent, hb⟩ := hrel
      clear own1 b1 hv
      have hsz := hb.size
      by_cases hlt : k < l.length
      · obtain ⟨b, off, rfl, hc⟩ := g4 (by omega)
        have c0 := hc k hlt 0 (by decide)
        have c1 := hc k hlt 1 (by decide)
        simp only [balE, List.getElem?_cons_zero, List.getElem?_cons_succ] at c0 c1
        have hbl : b < w.heap.size := World.block_lt_of_cell? w _ c0
        rw [← hb.cell (p := ⟨b, _, none⟩) hbl] at c0 c1
        simp only [Nat.add_zero, ← Nat.add_assoc] at c0 c1
        have hi : (k : Int) < (l.length : Int) := by omega
        have hk0 : (0 : Int) ≤ (k : Int) := by omega
        have hfx := Lib.hid (Hfl.out l[k] (List.getElem_mem hlt))
        have hyes := Lib.hid (fun m => enter_yes (acc := acc) (m := m) hlt)
        have hno := Lib.hid (fun n => enter_no (acc := acc) (n := n) hlt)
        clear g4 hc
        generalize l[k] = x at *
        have hown := own.lt
        obtain ⟨pa, ca, rfl, a1, a2, a3, a4⟩ := own.rd.form
        have hbig : (acc.length + 1) * 24 ≤ 140737488355328 := Nat.le_trans (Nat.mul_le_mul_right 24 (by omega)) hlen
        have Hbig := Lib.hid hbig
        clear hbig hlen
        go_wp2_with fail
        go_loopw [8] (fun i ws => ∃ j : Nat, j ≤ acc.length ∧ i = .int .i64 j ∧ Hid (∀ i (h : i < acc.length), i < j → ltB acc[i].1 x.1 = true) ∧ ∃ n, ws = wr.drewN n) (fun i _ => acc.length - (intOf i).toNat)
        case atStart => exact ⟨0, by omega, rfl, fun i h hi => by omega, 0, rfl⟩
        case round =>
          obtain ⟨j, hj, rfl, hlow, nd, rfl⟩ := hrel
          unfold maxLen at a2
          have hj0 : (0 : Int) ≤ (j : Int) := by omega
          by_cases hjl : j < acc.length
          · obtain ⟨ba, offa, rfl, ac⟩ := a4 (by omega)
            have y0 := ac j hjl 0 (by decide)
            have y1 := ac j hjl 1 (by decide)
            simp only [balE, List.getElem?_cons_zero, List.getElem?_cons_succ, Nat.add_zero, ← Nat.add_assoc] at y0 y1
            have hj1 : (j : Int) < (acc.length : Int) := by omega
            clear ac
            by_cases hless : ltB acc[j].1 x.1 = true
            · have Hless := Lib.hid hless
              have hls : Op.bytesLess acc[j].1.toList x.1.toList = true := hless
              clear hless
              go_wp2_with fail
              go_quiet (fail)
              go_wp2_with fail
              go_roundw
              case rel =>
                refine ⟨j + 1, by omega, by go_num, fun i h hi => ?_, _, by first | rfl | exact World.drewN_drewN _ _ _⟩
                by_cases e : i = j
                · subst e; exact Hless.out
                · exact hlow.out i h (by omega)
              case measure => simp [intOf]; omega
            · have hls : Op.bytesLess acc[j].1.toList x.1.toList = false := by simpa [ltB] using hless
              have hf : Hid (findB acc x.1 = j) := findB_of hj hlow.out (fun h => by simpa using hless)
              clear hless
              have hje : ((j : Int) == (acc.length : Int)) = false := by simp; omega
              by_cases heq : eqB acc[j].1 x.1 = true
              · have hes : (acc[j].1.toList == x.1.toList) = true := heq
                obtain ⟨m, hm'⟩ : ∃ m, withB acc x.1 = m := ⟨_, rfl⟩
                have hma : m = acc := hm'.symm.trans (withB_eq hf.out hjl heq)
                have hm := Lib.hid hm'
                clear heq hm'
                go_wp2_with fail
                go_quiet (fail)
                go_wp2_with fail
                go_quiet (fail)
                generalize hW : World.drewN _ _ = W
                simp only [World.drewN_drewN] at hW
                have own3 : OwnR balE W w.heap.size 33 (.slice (some ⟨ba, offa, none⟩) acc.length ca) m := by rw [← hW, hma]; exact own.drewN _
                generalize Value.slice (some ⟨ba, offa, none⟩) acc.length ca = v2 at own3 ⊢
                have hbW : Below w.heap.size w W := by rw [← hW]; exact hb.trans (below_drawn _ _ _)
                have C1 : W.cell? ⟨b, off + k * 2 + 1, none⟩ = some (.int .i64 x.2) := by rw [← hW]; exact c1
                clear hW own c0 c1 y0 y1 hes hls hma
                have hjm : j < m.length := by rw [← hm.out, ← hf.out]; exact withB_lt _ _
                have hml : m.length ≤ acc.length + 1 := by rw [← hm.out]; exact withB_length _ _
                have hfm : Hid (∀ y ∈ m, Mon.fits y.2) := by show _; rw [← hm.out]; exact withB_fits hfa.out
                obtain ⟨gm, cm, rfl, e1, e2, e3, e4⟩ := own3.head (by omega)
                unfold maxLen at e4
                have z0 := own3.cellAt rfl j hjm 0 (by decide)
                have z1 := own3.cellAt rfl j hjm 1 (by decide)
                simp only [balE, List.getElem?_cons_zero, List.getElem?_cons_succ, Nat.add_zero] at z0 z1
                have hfy := Lib.hid (hfm.out m[j] (List.getElem_mem hjm))
                have hjm1 : (j : Int) < (m.length : Int) := by omega
                have hput := Lib.hid (fun h => putB_yes (x := x) hm.out hf.out hjm h)
                have hputn := Lib.hid (fun h => putB_no (x := x) hm.out hf.out hjm h)
                have hf1 := own3.frozenAt rfl (j * 2 + 1)
                by_cases hz : Mon.fits (m[j].2 + x.2)
                · obtain ⟨z, hz'⟩ : ∃ z, z = m[j].2 + x.2 := ⟨_, rfl⟩
                  have hadd : ∀ V : World, Calls Try.prog 27 #[.int .i64 m[j].2, .int .i64 x.2] V fun e w' => e = .returned (.tuple #[.int .i64 z, .int .i64 0]) ∧ V = w' := fun V => by
                    have h := refAdd m[j].2 x.2 V hfy.out hfx.out
                    rw [Mon.told_ok hz, ← hz'] at h; exact h
                  have Hz := Lib.hid hz
                  have Hz' := Lib.hid hz'
                  have Hadd := Lib.hid hadd
                  obtain ⟨own4, gr4⟩ := own3.stored rfl j hjm 1 (by decide) (.int .i64 z) rfl (m[j].1, z) rfl
                  clear hz hz' hadd
                  go_wp2_with fail
                  go_quiet ((go_at_call 27; exact quiet_left (Hadd.out _)))
                  go_wp2_with fail
                  go_roundw
                  case rel =>
                    refine ⟨k + 1, m.set j (m[j].1, z), by omega, by go_num, own4, by rw [List.length_set]; omega, ?_, ?_, ?_⟩
                    · exact set_fits hfm.out (by show Mon.fits z; rw [Hz'.out]; exact Hz.out)
                    · show _ = _
                      rw [hent.out, Hz'.out]; exact hyes.out _ (hput.out Hz.out)
                    · exact (hbW.trans (below_drawn _ _ _)).setCell (p := ⟨gm, _, none⟩) e1 _
                  case measure => simp [intOf]; omega
                · have hadd : ∀ V : World, Calls Try.prog 27 #[.int .i64 m[j].2, .int .i64 x.2] V fun e w' => e = .returned (.tuple #[.int .i64 0, .int .i64 7]) ∧ V = w' := fun V => by
                    have h := refAdd m[j].2 x.2 V hfy.out hfx.out
                    rw [Mon.told_no hz] at h; exact h
                  have Hz := Lib.hid hz
                  have Hadd := Lib.hid hadd
                  clear hz hadd
                  go_wp2_with fail
                  go_quiet ((go_at_call 27; exact quiet_left (Hadd.out _)))
                  go_wp2_with fail
                  go_ret2
                  refine ⟨?_, hbW.trans (below_drawn _ _ _)⟩
                  rw [He.out, hent.out, hno.out 7 (hputn.out Hz.out)]
                  rfl
              · have hes : (acc[j].1.toList == x.1.toList) = false := by simpa [eqB] using heq
                have hm : Hid (withB acc x.1 = acc.take j ++ (x.1, 0) :: acc.drop j) := withB_ne hf.out hjl (by simpa using heq)
                clear heq
                go_wp2_with fail
                go_quiet (fail)
                go_wp2_with fail
                go_quiet (fail)
                clear y0 y1 hes hls
                generalize hW0 : World.drewN _ _ = W0
                simp only [World.drewN_drewN] at hW0
                have own20 : OwnR balE W0 w.heap.size 33 (.slice (some ⟨ba, offa, none⟩) acc.length ca) acc := by rw [← hW0]; exact own.drewN _
                have hbW0 : Below w.heap.size w W0 := by rw [← hW0]; exact hb.trans (below_drawn _ _ _)
                have hsz0 := hbW0.size
                have C0 : W0.cell? ⟨b, off + k * 2, none⟩ = some (.string x.1) := by rw [← hW0]; exact c0
                have C1 : W0.cell? ⟨b, off + k * 2 + 1, none⟩ = some (.int .i64 x.2) := by rw [← hW0]; exact c1
                clear hW0 own c0 c1
                have hA := own20.rd.sub 0 j (Nat.zero_le _) hj
                have hB := own20.rd.sub j acc.length hj (Nat.le_refl _)
                have rA := run_sub_to tBal (P := Try.prog) own20.rd .i64 (j : Int) j rfl hj
                have rB := run_sub_from tBal (P := Try.prog) own20.rd .i64 (j : Int) j rfl hj
                have sz2 : balE.sz = 2 := rfl
                rw [sz2] at hA hB
                rw [show (acc.drop 0).take (j - 0) = acc.take j from by simp] at hA
                rw [show (acc.drop j).take (acc.length - j) = acc.drop j from List.take_of_length_le (by simp)] at hB
                generalize subV (.slice (some ⟨ba, offa, none⟩) acc.length ca) 0 j 2 = vA at *
                generalize subV (.slice (some ⟨ba, offa, none⟩) acc.length ca) j acc.length 2 = vB at *
                obtain ⟨pA, cA, rfl⟩ := hA.shapeN (n := j) (by rw [List.length_take]; omega)
                obtain ⟨pB, cB, rfl⟩ := hB.shapeN (n := acc.length - j) (by simp)
                have lA : (acc.take j).length = j := by rw [List.length_take]; omega
                have lB : (acc.drop j).length = acc.length - j := by simp
                have LA := Lib.hid lA
                have LB := Lib.hid lB
                have hbb : b < W0.heap.size := Nat.lt_of_lt_of_le hbl hsz0
                clear lA lB sz2 a4 own20
                go_wp2_with fail
                have hm1 : 1 ≤ maxLen := by unfold maxLen; decide
                have hle1 : W0.heap.size ≤ (W0.drew.alloc (.cells #[] 33)).heap.size := (below_alloc W0.drew _).size
                have hq1 : Below W0.heap.size W0 (W0.drew.alloc (.cells #[] 33)) := (below_drew _ W0).trans (below_alloc W0.drew _)
                have hq2 : Below W0.heap.size W0 ((W0.drew.alloc (.cells #[] 33)).alloc (.cells #[.string x.1, .int .i64 0] 33)) := hq1.trans ((below_alloc _ _).mono hle1)
                have hle2 : W0.heap.size ≤ ((W0.drew.alloc (.cells #[] 33)).alloc (.cells #[.string x.1, .int .i64 0] 33)).heap.size := hq2.size
                have hlel : W0.heap.size ≤ (W0.drew.alloc (.cells #[.string x.1, .int .i64 0] 33)).heap.size := (below_alloc W0.drew _).size
                have hq3 : Below W0.heap.size W0 ((W0.drew.alloc (.cells #[.string x.1, .int .i64 0] 33)).alloc (.cells #[] 33)) := ((below_drew _ W0).trans (below_alloc W0.drew _)).trans ((below_alloc _ _).mono hlel)
                have hle3 : W0.heap.size ≤ ((W0.drew.alloc (.cells #[.string x.1, .int .i64 0] 33)).alloc (.cells #[] 33)).heap.size := hq3.size
                have hsl : (W0.drew.alloc (.cells #[.string x.1, .int .i64 0] 33)).heap.size = W0.heap.size + 1 := by show (W0.heap.push _).size = _; simp
                have hse : (W0.drew.alloc (.cells #[] 33)).heap.size = W0.heap.size + 1 := by show (W0.heap.push _).size = _; simp
                have hL2 : Rd balE ((W0.drew.alloc (.cells #[] 33)).alloc (.cells #[.string x.1, .int .i64 0] 33)) (.slice (some ⟨W0.heap.size + 1, 0, none⟩) 1 1) [(x.1, 0)] := OwnR.rd (OwnR.litAt balE (W0.drew.alloc (.cells #[] 33)) #[.string x.1, .int .i64 0] 33 [(x.1, 0)] 1 0 (W0.heap.size + 1) hse rfl rfl hm1 (Nat.zero_le _))
                have hL3 : Rd balE ((W0.drew.alloc (.cells #[.string x.1, .int .i64 0] 33)).alloc (.cells #[] 33)) (.slice (some ⟨W0.heap.size, 0, none⟩) 1 1) [(x.1, 0)] := Rd.ext (OwnR.rd (OwnR.litAt balE W0.drew #[.string x.1, .int .i64 0] 33 [(x.1, 0)] 1 0 W0.heap.size rfl rfl rfl hm1 (Nat.zero_le _))) (below_alloc _ _)
                have hn2 : (Value.slice (some ⟨W0.heap.size + 1, 0, none⟩) 1 1).ownBlock ≠ (Value.slice (some ⟨W0.heap.size, 0, none⟩) 0 0).ownBlock := by simp [Value.ownBlock]
                have hn3 : (Value.slice (some ⟨W0.heap.size, 0, none⟩) 1 1).ownBlock ≠ (Value.slice (some ⟨W0.heap.size + 1, 0, none⟩) 0 0).ownBlock := by simp [Value.ownBlock]
                have HL2 := Lib.hid hL2
                have Hsl := Lib.hid hsl
                clear hsl hse
                go_region_held3 (fun w' => w'.cell? ⟨b, off + k * 2, none⟩ = some (.string x.1))
                  (first | go_keep | (rw [q8.cell hbb]; go_keep) | (rw [q9.cell hbb]; go_keep) | (rw [q10.cell hbb]; go_keep))
                  (first | (refine step_appR (E := balE) (s := .tmp 59) (y := .tmp 62) tBal rfl rfl (B := W0.heap.size) (l := []) (m := acc.take j) (OwnR.litAt balE W0.drew #[] 33 [] 0 W0.heap.size W0.heap.size rfl rfl rfl (Nat.zero_le _) (Nat.le_refl _)) (by simp [Act.eval, Act.put]) (Rd.ext hA.drew (below_alloc W0.drew (.cells #[] 33))) (by simp [Act.eval, Act.put]) ?_ hle1 ?_; (have h1 := LA.out; have h2 := Hbig.out; show (0 + (acc.take j).length) * 24 ≤ 140737488355328; rw [h1]; exact Nat.le_trans (Nat.mul_le_mul_right 24 (by omega)) h2); intro v8 w8 own8 g8 q8; replace q8 : Below W0.heap.size W0 w8 := hq1.trans q8) | (refine step_appR (E := balE) (s := .tmp 59) (y := .tmp 62) tBal rfl rfl (B := W0.heap.size) (l := []) (m := acc.take j) (OwnR.ext (OwnR.litAt balE W0.drew #[] 33 [] 0 W0.heap.size W0.heap.size rfl rfl rfl (Nat.zero_le _) (Nat.le_refl _)) (below_alloc (W0.drew.alloc (.cells #[] 33)) (.cells #[.string x.1, .int .i64 0] 33))) (by simp [Act.eval, Act.put]) (Rd.ext (Rd.ext hA.drew (below_alloc W0.drew (.cells #[] 33))) (below_alloc (W0.drew.alloc (.cells #[] 33)) (.cells #[.string x.1, .int .i64 0] 33))) (by simp [Act.eval, Act.put]) ?_ hle2 ?_; (have h1 := LA.out; have h2 := Hbig.out; show (0 + (acc.take j).length) * 24 ≤ 140737488355328; rw [h1]; exact Nat.le_trans (Nat.mul_le_mul_right 24 (by omega)) h2); intro v8 w8 own8 g8 q8; have hL8 := Rd.grown hL2 g8 (.inr hn2); replace q8 : Below W0.heap.size W0 w8 := hq2.trans q8) | (refine step_appR (E := balE) (s := .tmp 59) (y := .tmp 62) tBal rfl rfl (B := W0.heap.size) (l := []) (m := acc.take j) (OwnR.litAt balE (W0.drew.alloc (.cells #[.string x.1, .int .i64 0] 33)) #[] 33 [] 0 W0.heap.size (W0.heap.size + 1) Hsl.out rfl rfl (Nat.zero_le _) hlel) (by simp [Act.eval, Act.put]) (Rd.ext (Rd.ext hA.drew (below_alloc W0.drew (.cells #[.string x.1, .int .i64 0] 33))) (below_alloc (W0.drew.alloc (.cells #[.string x.1, .int .i64 0] 33)) (.cells #[] 33))) (by simp [Act.eval, Act.put]) ?_ hle3 ?_; (have h1 := LA.out; have h2 := Hbig.out; show (0 + (acc.take j).length) * 24 ≤ 140737488355328; rw [h1]; exact Nat.le_trans (Nat.mul_le_mul_right 24 (by omega)) h2); intro v8 w8 own8 g8 q8; have hL8 := Rd.grown hL3 g8 (.inr hn3); replace q8 : Below W0.heap.size W0 w8 := hq3.trans q8) | (refine step_appR (E := balE) (s := .tmp 63) (y := .tmp 70) tBal rfl rfl (B := W0.heap.size) (l := [] ++ acc.take j) (m := [(x.1, 0)]) (OwnR.ext own8 (below_alloc w8 (.cells #[.string x.1, .int .i64 0] 33))) (by simp [Act.eval, Act.put]) (OwnR.rd (OwnR.litAt balE w8 #[.string x.1, .int .i64 0] 33 [(x.1, 0)] 1 0 w8.heap.size rfl rfl rfl hm1 (Nat.zero_le _))) (by simp [Act.eval, Act.put]) ?_ (Nat.le_trans q8.size (below_alloc w8 (.cells #[.string x.1, .int .i64 0] 33)).size) ?_; (have h1 := LA.out; have h2 := Hbig.out; show ((acc.take j).length + 1) * 24 ≤ 140737488355328; rw [h1]; exact Nat.le_trans (Nat.mul_le_mul_right 24 (by omega)) h2); intro v9 w9 own9 g9 q9; replace q9 : Below W0.heap.size W0 w9 := (q8.trans ((below_alloc w8 (.cells #[.string x.1, .int .i64 0] 33)).mono q8.size)).trans q9) | (refine step_appR (E := balE) (s := .tmp 63) (y := .tmp 70) tBal rfl rfl (B := W0.heap.size) (l := [] ++ acc.take j) (m := [(x.1, 0)]) own8 (by simp [Act.eval, Act.put]) hL8 (by simp [Act.eval, Act.put]) ?_ q8.size ?_; (have h1 := LA.out; have h2 := Hbig.out; show ((acc.take j).length + 1) * 24 ≤ 140737488355328; rw [h1]; exact Nat.le_trans (Nat.mul_le_mul_right 24 (by omega)) h2); intro v9 w9 own9 g9 q9; replace q9 : Below W0.heap.size W0 w9 := q8.trans q9) | (refine step_appR (E := balE) (s := .tmp 71) (y := .tmp 74) tBal rfl rfl (B := W0.heap.size) (l := [] ++ acc.take j ++ [(x.1, 0)]) (m := acc.drop j) own9 (by simp [Act.eval, Act.put]) (hB.ext q9) (by simp [Act.eval, Act.put]) ?_ q9.size ?_; (have h1 := LA.out; have h3 := LB.out; have h2 := Hbig.out; rw [List.nil_append, List.length_append, h1, h3]; exact Nat.le_trans (Nat.mul_le_mul_right 24 (by simp; omega)) h2); intro v10 w10 own10 g10 q10; replace q10 : Below W0.heap.size W0 w10 := q9.trans q10))
                all_goals
                  have own3 : OwnR balE w10 w.heap.size 33 v10 (acc.take j ++ (x.1, 0) :: acc.drop j) := by
                    have h := own10.base hsz0
                    rw [List.nil_append, List.append_assoc] at h; exact h
                  have hbW : Below w.heap.size w w10 := hbW0.trans (q10.mono hsz0)
                  have C1' : w10.cell? ⟨b, off + k * 2 + 1, none⟩ = some (.int .i64 x.2) := by rw [q10.cell hbb]; exact C1
                  rw [← hm.out] at own3
                  obtain ⟨m, hm'⟩ : ∃ m, withB acc x.1 = m := ⟨_, rfl⟩
                  rw [hm'] at own3
                  replace hm : Hid (withB acc x.1 = m) := hm'
                  clear hm' own10 C0 C1
                  have hjm : j < m.length := by rw [← hm.out, ← hf.out]; exact withB_lt _ _
                  have hml : m.length ≤ acc.length + 1 := by rw [← hm.out]; exact withB_length _ _
                  have hfm : Hid (∀ y ∈ m, Mon.fits y.2) := by show _; rw [← hm.out]; exact withB_fits hfa.out
                  obtain ⟨gm, cm, rfl, e1, e2, e3, e4⟩ := own3.head (by omega)
                  unfold maxLen at e4
                  have z0 := own3.cellAt rfl j hjm 0 (by decide)
                  have z1 := own3.cellAt rfl j hjm 1 (by decide)
                  simp only [balE, List.getElem?_cons_zero, List.getElem?_cons_succ, Nat.add_zero] at z0 z1
                  have hfy := Lib.hid (hfm.out m[j] (List.getElem_mem hjm))
                  have hjm1 : (j : Int) < (m.length : Int) := by omega
                  have hput := Lib.hid (fun h => putB_yes (x := x) hm.out hf.out hjm h)
                  have hputn := Lib.hid (fun h => putB_no (x := x) hm.out hf.out hjm h)
                  have hf1 := own3.frozenAt rfl (j * 2 + 1)
                  by_cases hz : Mon.fits (m[j].2 + x.2)
                  · obtain ⟨z, hz'⟩ : ∃ z, z = m[j].2 + x.2 := ⟨_, rfl⟩
                    have hadd : ∀ V : World, Calls Try.prog 27 #[.int .i64 m[j].2, .int .i64 x.2] V fun e w' => e = .returned (.tuple #[.int .i64 z, .int .i64 0]) ∧ V = w' := fun V => by
                      have h := refAdd m[j].2 x.2 V hfy.out hfx.out
                      rw [Mon.told_ok hz, ← hz'] at h; exact h
                    have Hz := Lib.hid hz
                    have Hz' := Lib.hid hz'
                    have Hadd := Lib.hid hadd
                    obtain ⟨own4, gr4⟩ := own3.stored rfl j hjm 1 (by decide) (.int .i64 z) rfl (m[j].1, z) rfl
                    clear hz hz' hadd
                    go_wp2_with fail
                    go_quiet ((go_at_call 27; exact quiet_left (Hadd.out _)))
                    go_wp2_with fail
                    go_roundw
                    case rel =>
                      refine ⟨k + 1, m.set j (m[j].1, z), by omega, by go_num, own4, by rw [List.length_set]; omega, ?_, ?_, ?_⟩
                      · exact set_fits hfm.out (by show Mon.fits z; rw [Hz'.out]; exact Hz.out)
                      · show _ = _
                        rw [hent.out, Hz'.out]; exact hyes.out _ (hput.out Hz.out)
                      · exact (hbW.trans (below_drawn _ _ _)).setCell (p := ⟨gm, _, none⟩) e1 _
                    case measure => simp [intOf]; omega
                  · have hadd : ∀ V : World, Calls Try.prog 27 #[.int .i64 m[j].2, .int .i64 x.2] V fun e w' => e = .returned (.tuple #[.int .i64 0, .int .i64 7]) ∧ V = w' := fun V => by
                      have h := refAdd m[j].2 x.2 V hfy.out hfx.out
                      rw [Mon.told_no hz] at h; exact h
                    have Hz := Lib.hid hz
                    have Hadd := Lib.hid hadd
                    clear hz hadd
                    go_wp2_with fail
                    go_quiet ((go_at_call 27; exact quiet_left (Hadd.out _)))
                    go_wp2_with fail
                    go_ret2
                    refine ⟨?_, hbW.trans (below_drawn _ _ _)⟩
                    rw [He.out, hent.out, hno.out 7 (hputn.out Hz.out)]
                    rfl
          · have hjl' : j = acc.length := by omega
            have hj1 : ¬ (j : Int) < (acc.length : Int) := by omega
            have hje : ((j : Int) == (acc.length : Int)) = true := by simp; omega
            have hf : Hid (findB acc x.1 = j) := findB_of hj hlow.out (fun h => by omega)
            have hm : Hid (withB acc x.1 = acc.take j ++ (x.1, 0) :: acc.drop j) := withB_end hf.out hjl'
            have hd1 : decide ((j : Int) < (acc.length : Int)) = false := by simpa using hj1
            clear hjl'
            go_wp2_with fail
            go_quiet (fail)
            go_wp2_with fail
            go_quiet (fail)
            generalize hW0 : World.drewN _ _ = W0
            simp only [World.drewN_drewN] at hW0
            have own20 : OwnR balE W0 w.heap.size 33 (.slice pa acc.length ca) acc := by rw [← hW0]; exact own.drewN _
            have hbW0 : Below w.heap.size w W0 := by rw [← hW0]; exact hb.trans (below_drawn _ _ _)
            have hsz0 := hbW0.size
            have C0 : W0.cell? ⟨b, off + k * 2, none⟩ = some (.string x.1) := by rw [← hW0]; exact c0
            have C1 : W0.cell? ⟨b, off + k * 2 + 1, none⟩ = some (.int .i64 x.2) := by rw [← hW0]; exact c1
            clear hW0 own c0 c1
            have hA := own20.rd.sub 0 j (Nat.zero_le _) hj
            have hB := own20.rd.sub j acc.length hj (Nat.le_refl _)
            have rA := run_sub_to tBal (P := Try.prog) own20.rd .i64 (j : Int) j rfl hj
            have rB := run_sub_from tBal (P := Try.prog) own20.rd .i64 (j : Int) j rfl hj
            have sz2 : balE.sz = 2 := rfl
            rw [sz2] at hA hB
            rw [show (acc.drop 0).take (j - 0) = acc.take j from by simp] at hA
            rw [show (acc.drop j).take (acc.length - j) = acc.drop j from List.take_of_length_le (by simp)] at hB
            generalize subV (.slice pa acc.length ca) 0 j 2 = vA at *
            generalize subV (.slice pa acc.length ca) j acc.length 2 = vB at *
            obtain ⟨pA, cA, rfl⟩ := hA.shapeN (n := j) (by rw [List.length_take]; omega)
            obtain ⟨pB, cB, rfl⟩ := hB.shapeN (n := acc.length - j) (by simp)
            have lA : (acc.take j).length = j := by rw [List.length_take]; omega
            have lB : (acc.drop j).length = acc.length - j := by simp
            have LA := Lib.hid lA
            have LB := Lib.hid lB
            have hbb : b < W0.heap.size := Nat.lt_of_lt_of_le hbl hsz0
            clear lA lB sz2 a4 own20
            go_wp2_with fail
            have hm1 : 1 ≤ maxLen := by unfold maxLen; decide
            have hle1 : W0.heap.size ≤ (W0.drew.alloc (.cells #[] 33)).heap.size := (below_alloc W0.drew _).size
            have hq1 : Below W0.heap.size W0 (W0.drew.alloc (.cells #[] 33)) := (below_drew _ W0).trans (below_alloc W0.drew _)
            have hq2 : Below W0.heap.size W0 ((W0.drew.alloc (.cells #[] 33)).alloc (.cells #[.string x.1, .int .i64 0] 33)) := hq1.trans ((below_alloc _ _).mono hle1)
            have hle2 : W0.heap.size ≤ ((W0.drew.alloc (.cells #[] 33)).alloc (.cells #[.string x.1, .int .i64 0] 33)).heap.size := hq2.size
            have hlel : W0.heap.size ≤ (W0.drew.alloc (.cells #[.string x.1, .int .i64 0] 33)).heap.size := (below_alloc W0.drew _).size
            have hq3 : Below W0.heap.size W0 ((W0.drew.alloc (.cells #[.string x.1, .int .i64 0] 33)).alloc (.cells #[] 33)) := ((below_drew _ W0).trans (below_alloc W0.drew _)).trans ((below_alloc _ _).mono hlel)
            have hle3 : W0.heap.size ≤ ((W0.drew.alloc (.cells #[.string x.1, .int .i64 0] 33)).alloc (.cells #[] 33)).heap.size := hq3.size
            have hsl : (W0.drew.alloc (.cells #[.string x.1, .int .i64 0] 33)).heap.size = W0.heap.size + 1 := by show (W0.heap.push _).size = _; simp
            have hse : (W0.drew.alloc (.cells #[] 33)).heap.size = W0.heap.size + 1 := by show (W0.heap.push _).size = _; simp
            have hL2 : Rd balE ((W0.drew.alloc (.cells #[] 33)).alloc (.cells #[.string x.1, .int .i64 0] 33)) (.slice (some ⟨W0.heap.size + 1, 0, none⟩) 1 1) [(x.1, 0)] := OwnR.rd (OwnR.litAt balE (W0.drew.alloc (.cells #[] 33)) #[.string x.1, .int .i64 0] 33 [(x.1, 0)] 1 0 (W0.heap.size + 1) hse rfl rfl hm1 (Nat.zero_le _))
            have hL3 : Rd balE ((W0.drew.alloc (.cells #[.string x.1, .int .i64 0] 33)).alloc (.cells #[] 33)) (.slice (some ⟨W0.heap.size, 0, none⟩) 1 1) [(x.1, 0)] := Rd.ext (OwnR.rd (OwnR.litAt balE W0.drew #[.string x.1, .int .i64 0] 33 [(x.1, 0)] 1 0 W0.heap.size rfl rfl rfl hm1 (Nat.zero_le _))) (below_alloc _ _)
            have hn2 : (Value.slice (some ⟨W0.heap.size + 1, 0, none⟩) 1 1).ownBlock ≠ (Value.slice (some ⟨W0.heap.size, 0, none⟩) 0 0).ownBlock := by simp [Value.ownBlock]
            have hn3 : (Value.slice (some ⟨W0.heap.size, 0, none⟩) 1 1).ownBlock ≠ (Value.slice (some ⟨W0.heap.size + 1, 0, none⟩) 0 0).ownBlock := by simp [Value.ownBlock]
            have HL2 := Lib.hid hL2
            have Hsl := Lib.hid hsl
            clear hsl hse
            go_region_held3 (fun w' => w'.cell? ⟨b, off + k * 2, none⟩ = some (.string x.1))
              (first | go_keep | (rw [q8.cell hbb]; go_keep) | (rw [q9.cell hbb]; go_keep) | (rw [q10.cell hbb]; go_keep))
              (first | (refine step_appR (E := balE) (s := .tmp 59) (y := .tmp 62) tBal rfl rfl (B := W0.heap.size) (l := []) (m := acc.take j) (OwnR.litAt balE W0.drew #[] 33 [] 0 W0.heap.size W0.heap.size rfl rfl rfl (Nat.zero_le _) (Nat.le_refl _)) (by simp [Act.eval, Act.put]) (Rd.ext hA.drew (below_alloc W0.drew (.cells #[] 33))) (by simp [Act.eval, Act.put]) ?_ hle1 ?_; (have h1 := LA.out; have h2 := Hbig.out; show (0 + (acc.take j).length) * 24 ≤ 140737488355328; rw [h1]; exact Nat.le_trans (Nat.mul_le_mul_right 24 (by omega)) h2); intro v8 w8 own8 g8 q8; replace q8 : Below W0.heap.size W0 w8 := hq1.trans q8) | (refine step_appR (E := balE) (s := .tmp 59) (y := .tmp 62) tBal rfl rfl (B := W0.heap.size) (l := []) (m := acc.take j) (OwnR.ext (OwnR.litAt balE W0.drew #[] 33 [] 0 W0.heap.size W0.heap.size rfl rfl rfl (Nat.zero_le _) (Nat.le_refl _)) (below_alloc (W0.drew.alloc (.cells #[] 33)) (.cells #[.string x.1, .int .i64 0] 33))) (by simp [Act.eval, Act.put]) (Rd.ext (Rd.ext hA.drew (below_alloc W0.drew (.cells #[] 33))) (below_alloc (W0.drew.alloc (.cells #[] 33)) (.cells #[.string x.1, .int .i64 0] 33))) (by simp [Act.eval, Act.put]) ?_ hle2 ?_; (have h1 := LA.out; have h2 := Hbig.out; show (0 + (acc.take j).length) * 24 ≤ 140737488355328; rw [h1]; exact Nat.le_trans (Nat.mul_le_mul_right 24 (by omega)) h2); intro v8 w8 own8 g8 q8; have hL8 := Rd.grown hL2 g8 (.inr hn2); replace q8 : Below W0.heap.size W0 w8 := hq2.trans q8) | (refine step_appR (E := balE) (s := .tmp 59) (y := .tmp 62) tBal rfl rfl (B := W0.heap.size) (l := []) (m := acc.take j) (OwnR.litAt balE (W0.drew.alloc (.cells #[.string x.1, .int .i64 0] 33)) #[] 33 [] 0 W0.heap.size (W0.heap.size + 1) Hsl.out rfl rfl (Nat.zero_le _) hlel) (by simp [Act.eval, Act.put]) (Rd.ext (Rd.ext hA.drew (below_alloc W0.drew (.cells #[.string x.1, .int .i64 0] 33))) (below_alloc (W0.drew.alloc (.cells #[.string x.1, .int .i64 0] 33)) (.cells #[] 33))) (by simp [Act.eval, Act.put]) ?_ hle3 ?_; (have h1 := LA.out; have h2 := Hbig.out; show (0 + (acc.take j).length) * 24 ≤ 140737488355328; rw [h1]; exact Nat.le_trans (Nat.mul_le_mul_right 24 (by omega)) h2); intro v8 w8 own8 g8 q8; have hL8 := Rd.grown hL3 g8 (.inr hn3); replace q8 : Below W0.heap.size W0 w8 := hq3.trans q8) | (refine step_appR (E := balE) (s := .tmp 63) (y := .tmp 70) tBal rfl rfl (B := W0.heap.size) (l := [] ++ acc.take j) (m := [(x.1, 0)]) (OwnR.ext own8 (below_alloc w8 (.cells #[.string x.1, .int .i64 0] 33))) (by simp [Act.eval, Act.put]) (OwnR.rd (OwnR.litAt balE w8 #[.string x.1, .int .i64 0] 33 [(x.1, 0)] 1 0 w8.heap.size rfl rfl rfl hm1 (Nat.zero_le _))) (by simp [Act.eval, Act.put]) ?_ (Nat.le_trans q8.size (below_alloc w8 (.cells #[.string x.1, .int .i64 0] 33)).size) ?_; (have h1 := LA.out; have h2 := Hbig.out; show ((acc.take j).length + 1) * 24 ≤ 140737488355328; rw [h1]; exact Nat.le_trans (Nat.mul_le_mul_right 24 (by omega)) h2); intro v9 w9 own9 g9 q9; replace q9 : Below W0.heap.size W0 w9 := (q8.trans ((below_alloc w8 (.cells #[.string x.1, .int .i64 0] 33)).mono q8.size)).trans q9) | (refine step_appR (E := balE) (s := .tmp 63) (y := .tmp 70) tBal rfl rfl (B := W0.heap.size) (l := [] ++ acc.take j) (m := [(x.1, 0)]) own8 (by simp [Act.eval, Act.put]) hL8 (by simp [Act.eval, Act.put]) ?_ q8.size ?_; (have h1 := LA.out; have h2 := Hbig.out; show ((acc.take j).length + 1) * 24 ≤ 140737488355328; rw [h1]; exact Nat.le_trans (Nat.mul_le_mul_right 24 (by omega)) h2); intro v9 w9 own9 g9 q9; replace q9 : Below W0.heap.size W0 w9 := q8.trans q9) | (refine step_appR (E := balE) (s := .tmp 71) (y := .tmp 74) tBal rfl rfl (B := W0.heap.size) (l := [] ++ acc.take j ++ [(x.1, 0)]) (m := acc.drop j) own9 (by simp [Act.eval, Act.put]) (hB.ext q9) (by simp [Act.eval, Act.put]) ?_ q9.size ?_; (have h1 := LA.out; have h3 := LB.out; have h2 := Hbig.out; rw [List.nil_append, List.length_append, h1, h3]; exact Nat.le_trans (Nat.mul_le_mul_right 24 (by simp; omega)) h2); intro v10 w10 own10 g10 q10; replace q10 : Below W0.heap.size W0 w10 := q9.trans q10))
            all_goals
              have own3 : OwnR balE w10 w.heap.size 33 v10 (acc.take j ++ (x.1, 0) :: acc.drop j) := by
                have h := own10.base hsz0
                rw [List.nil_append, List.append_assoc] at h; exact h
              have hbW : Below w.heap.size w w10 := hbW0.trans (q10.mono hsz0)
              have C1' : w10.cell? ⟨b, off + k * 2 + 1, none⟩ = some (.int .i64 x.2) := by rw [q10.cell hbb]; exact C1
              rw [← hm.out] at own3
              obtain ⟨m, hm'⟩ : ∃ m, withB acc x.1 = m := ⟨_, rfl⟩
              rw [hm'] at own3
              replace hm : Hid (withB acc x.1 = m) := hm'
              clear hm' own10 C0 C1
              have hjm : j < m.length := by rw [← hm.out, ← hf.out]; exact withB_lt _ _
              have hml : m.length ≤ acc.length + 1 := by rw [← hm.out]; exact withB_length _ _
              have hfm : Hid (∀ y ∈ m, Mon.fits y.2) := by show _; rw [← hm.out]; exact withB_fits hfa.out
              obtain ⟨gm, cm, rfl, e1, e2, e3, e4⟩ := own3.head (by omega)
              unfold maxLen at e4
              have z0 := own3.cellAt rfl j hjm 0 (by decide)
              have z1 := own3.cellAt rfl j hjm 1 (by decide)
              simp only [balE, List.getElem?_cons_zero, List.getElem?_cons_succ, Nat.add_zero] at z0 z1
              have hfy := Lib.hid (hfm.out m[j] (List.getElem_mem hjm))
              have hjm1 : (j : Int) < (m.length : Int) := by omega
              have hput := Lib.hid (fun h => putB_yes (x := x) hm.out hf.out hjm h)
              have hputn := Lib.hid (fun h => putB_no (x := x) hm.out hf.out hjm h)
              have hf1 := own3.frozenAt rfl (j * 2 + 1)
              by_cases hz : Mon.fits (m[j].2 + x.2)
              · obtain ⟨z, hz'⟩ : ∃ z, z = m[j].2 + x.2 := ⟨_, rfl⟩
                have hadd : ∀ V : World, Calls Try.prog 27 #[.int .i64 m[j].2, .int .i64 x.2] V fun e w' => e = .returned (.tuple #[.int .i64 z, .int .i64 0]) ∧ V = w' := fun V => by
                  have h := refAdd m[j].2 x.2 V hfy.out hfx.out
                  rw [Mon.told_ok hz, ← hz'] at h; exact h
                have Hz := Lib.hid hz
                have Hz' := Lib.hid hz'
                have Hadd := Lib.hid hadd
                obtain ⟨own4, gr4⟩ := own3.stored rfl j hjm 1 (by decide) (.int .i64 z) rfl (m[j].1, z) rfl
                clear hz hz' hadd
                go_wp2_with fail
                go_quiet ((go_at_call 27; exact quiet_left (Hadd.out _)))
                go_wp2_with fail
                go_roundw
                case rel =>
                  refine ⟨k + 1, m.set j (m[j].1, z), by omega, by go_num, own4, by rw [List.length_set]; omega, ?_, ?_, ?_⟩
                  · exact set_fits hfm.out (by show Mon.fits z; rw [Hz'.out]; exact Hz.out)
                  · show _ = _
                    rw [hent.out, Hz'.out]; exact hyes.out _ (hput.out Hz.out)
                  · exact (hbW.trans (below_drawn _ _ _)).setCell (p := ⟨gm, _, none⟩) e1 _
                case measure => simp [intOf]; omega
              · have hadd : ∀ V : World, Calls Try.prog 27 #[.int .i64 m[j].2, .int .i64 x.2] V fun e w' => e = .returned (.tuple #[.int .i64 0, .int .i64 7]) ∧ V = w' := fun V => by
                  have h := refAdd m[j].2 x.2 V hfy.out hfx.out
                  rw [Mon.told_no hz] at h; exact h
                have Hz := Lib.hid hz
                have Hadd := Lib.hid hadd
                clear hz hadd
                go_wp2_with fail
                go_quiet ((go_at_call 27; exact quiet_left (Hadd.out _)))
                go_wp2_with fail
                go_ret2
                refine ⟨?_, hbW.trans (below_drawn _ _ _)⟩
                rw [He.out, hent.out, hno.out 7 (hputn.out Hz.out)]
                rfl
      · have hk' : k = l.length := by omega
        have hi : ¬ (k : Int) < (l.length : Int) := by omega
        have hE := hent.out
        rw [hk', List.drop_of_length_le (Nat.le_refl _)] at hE
        have HE := Lib.hid hE
        clear hE hk'
        go_wp2_with fail
        go_ret2
        exact ⟨by rw [He.out, HE.out]; exact ⟨_, rfl, own⟩, hb⟩
  · have He : Hid (enter book l = .error 1) := by show _ = _; unfold enter; rw [if_neg hr]
    have Hr : Hid (rightB book = false) := by show rightB book = false; simpa using hr
    clear hr
    go_enter Try.func16, Try.ntmps16
    go_wp2_with fail
    with_reducible refine (bookRight _ book _ hv).mono ?_
    rintro e w' ⟨rfl, n0, rfl⟩
    rw [Hr.out]
    go_wp2_with fail
    go_ret2
    exact ⟨by rw [He.out]; rfl, below_drawn _ _ _⟩
end Go.Proofs.Ytfimaamndcdofaa
