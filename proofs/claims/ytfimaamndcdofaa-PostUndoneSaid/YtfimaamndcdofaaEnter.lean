/- The walk of post.Enter. -/
import Derived.Test.YtfimaamndcdofaaBookE
import Derived.Test.YtfimaamndcdofaaRight
import Derived.Test.YtfimaamndcdofaaInsBal
import Derived.Test.YtfimaamndcdofaaRds2
import Derived.Test.YtfimaamndcdofaaMoney
import Derived.Deep.Cut
namespace Go.Proofs.Ytfimaamndcdofaa
open Go Go.RowKit

theorem quiet_left {P : Program} {f : FuncId} {args : Array Value} {w : World} {n : Nat} {v : Value}
    (h : Calls P f args (w.drewN n) fun e w' => e = .returned v ∧ w.drewN n = w') : Calls P f args (w.drewN n) fun e w' => e = .returned v ∧ ∃ m, w' = w.drewN m :=
  h.mono fun _ _ ⟨he, hm⟩ => ⟨he, n, hm.symm⟩
theorem findB_end {l : List Bal} {a : ByteArray} {k : Nat} (hk : k = l.length) (h1 : ∀ j (h : j < l.length), j < k → ltB l[j].1 a = true) : findB l a = k :=
  findB_of (by omega) h1 (fun h => by omega)

set_option maxHeartbeats 4000000 in
theorem postEnter (v u : Value) (book l : List Bal) (w : World) (hv : Rd balE w v book) (hu : Rd balE w u l) (hfb : ∀ y ∈ book, Mon.fits y.2) (hfl : ∀ y ∈ l, Mon.fits y.2) (hlen : (book.length + l.length + 1) * 24 ≤ 140737488355328) :
    Calls Try.prog 9 #[v, u] w fun e w' => TellsL balE w' w.heap.size 33 (enter book l) e ∧ Below w.heap.size w w' := by
  obtain ⟨q, dap, rfl, g1, g2, g3, g4⟩ := hu.form
  obtain ⟨p, cap, rfl⟩ := hv.shape
  unfold maxLen at g2
  clear g3
  have Hfb := Lib.hid hfb
  have Hfl := Lib.hid hfl
  clear hfb hfl
  by_cases hr : rightB book = true
  · have He : Hid (enter book l = enterTo book l) := by show _ = _; unfold enter; rw [if_pos hr]
    have Hr := Lib.hid hr
    clear hr
    go_enter Try.func9, Try.ntmps9
    go_wp2_with fail
    with_reducible refine (postRight _ book _ hv).mono ?_
    rintro e w' ⟨rfl, n0, rfl⟩
    rw [Hr.out]
    have hv0 := hv.drewN n0
    have b0 := below_drawn w.heap.size w n0
    have hs0 : w.heap.size ≤ (w.drewN n0).heap.size := Nat.le_refl _
    go_wp2_with (first
      | (at_builtin; refine wpList_appR (E := balE) tBal rfl rfl (OwnR.nil _ w.heap.size _) rfl hv0 rfl (by simp; omega) hs0 ?_; intro v1 w1 own1 g1' b1; clear g1')
      | fail)
    have own1 : OwnR balE w1 w.heap.size 33 v1 book := by simpa using own1
    replace b1 := b0.trans b1
    clear hv0 b0 hs0
    go_loopw [6, 19] (fun a i wr => ∃ (k : Nat) (acc : List Bal), k ≤ l.length ∧ i = .int .i64 k ∧ OwnR balE wr w.heap.size 33 a acc ∧ acc.length ≤ book.length + k ∧ Hid (∀ y ∈ acc, Mon.fits y.2) ∧ Hid (enterTo book l = enterTo acc (l.drop k)) ∧ Below w.heap.size w wr) (fun _ i _ => l.length - (intOf i).toNat)
    case atStart => exact ⟨0, book, by omega, rfl, own1, by omega, Hfb, rfl, b1⟩
    case round =>
      obtain ⟨k, acc, hk, rfl, own, hal, hfa, hent, hb⟩ := hrel
      clear own1 b1 hv
      have hsz := hb.size
      by_cases hlt : k < l.length
      · obtain ⟨b, off, rfl, hc⟩ := g4 (by omega)
        have c0 := hc k hlt 0 (by decide)
        have c1 := hc k hlt 1 (by decide)
        simp only [balE, List.getElem?_cons_zero, List.getElem?_cons_succ] at c0 c1
        have hbl : b < w.heap.size := World.block_lt_of_cell? w _ c0
        rw [← hb.cell (p := ⟨b, _, none⟩) hbl] at c0 c1
        simp only [Nat.add_zero, ← Nat.add_assoc] at c0 c1
        have hi : (k : Int) < (l.length : Int) := by omega
        have hfx := Lib.hid (Hfl.out l[k] (List.getElem_mem hlt))
        have hyes := Lib.hid (fun m => enter_yes (acc := acc) (m := m) hlt)
        have hno := Lib.hid (fun n => enter_no (acc := acc) (n := n) hlt)
        clear g4 hc
        generalize l[k] = x at *
        obtain ⟨wo, hwo⟩ : ∃ wo, wo = wr.alloc (.cells #[.string x.1, .int .i64 x.2] 33) := ⟨_, rfl⟩
        have hblk : Blk wo wr.heap.size #[.string x.1, .int .i64 x.2] 33 := by rw [hwo]; exact Blk.new _ _ _
        have hwb : Below wr.heap.size wr wo := by rw [hwo]; exact below_alloc _ _
        have own2 := own.ext hwb
        have hown := own.lt
        obtain ⟨pa, ca, rfl, a1, a2, a3, a4⟩ := own2.rd.form
        go_wp2_with fail
        rw [← hwo]
        have x0 := hblk.cell 0 _ rfl
        have x1 := hblk.cell 1 _ rfl
        have hwos : wo.heap.size = wr.heap.size + 1 := by rw [hwo]; simp
        clear hwo
        go_loopw [9] (fun i ws => ∃ j : Nat, j ≤ acc.length ∧ i = .int .i64 j ∧ Hid (∀ i (h : i < acc.length), i < j → ltB acc[i].1 x.1 = true) ∧ ∃ n, ws = wo.drewN n) (fun i _ => acc.length - (intOf i).toNat)
        case atStart => exact ⟨0, by omega, rfl, fun i h hi => by omega, 0, rfl⟩
        case round =>
          obtain ⟨j, hj, rfl, hlow, nd, rfl⟩ := hrel
          unfold maxLen at a2
          have hX0 := hblk
          have hown1 := hown
          by_cases hjl : j < acc.length
          · obtain ⟨ba, offa, rfl, ac⟩ := a4 (by omega)
            have y0 := ac j hjl 0 (by decide)
            have y1 := ac j hjl 1 (by decide)
            simp only [balE, List.getElem?_cons_zero, List.getElem?_cons_succ, Nat.add_zero, ← Nat.add_assoc] at y0 y1
            have hj1 : (j : Int) < (acc.length : Int) := by omega
            have hj0 : (0 : Int) ≤ (j : Int) := by omega
            clear ac a4
            by_cases hless : ltB acc[j].1 x.1 = true
            · have Hless := Lib.hid hless
              have hls : Op.bytesLess acc[j].1.toList x.1.toList = true := hless
              clear hless
              go_wp2_with fail
              go_quiet (fail)
              go_wp2_with fail
              go_roundw
              case rel =>
                refine ⟨j + 1, by omega, by go_num, fun i h hi => ?_, _, by first | rfl | exact World.drewN_drewN _ _ _⟩
                by_cases e : i = j
                · subst e; exact Hless.out
                · exact hlow.out i h (by omega)
              case measure => simp [intOf]; omega
            · have hls : Op.bytesLess acc[j].1.toList x.1.toList = false := by simpa [ltB] using hless
              have hf : Hid (findB acc x.1 = j) := findB_of hj hlow.out (fun h => by simpa using hless)
              clear hless
              have hje : ((j : Int) == (acc.length : Int)) = false := by simp; omega
              by_cases heq : eqB acc[j].1 x.1 = true
              · have hes : (acc[j].1.toList == x.1.toList) = true := heq
                obtain ⟨m, hm'⟩ : ∃ m, withB acc x.1 = m := ⟨_, rfl⟩
                have hma : m = acc := hm'.symm.trans (withB_eq hf.out hjl heq)
                have hm := Lib.hid hm'
                clear heq hm'
                go_wp2_with fail
                go_quiet (fail)
                go_wp2_with fail
                go_quiet (fail)
                generalize hW : World.drewN _ _ = W
                simp only [World.drewN_drewN] at hW
                have own3 : OwnR balE W w.heap.size 33 (.slice (some ⟨ba, offa, none⟩) acc.length ca) m := by rw [← hW, hma]; exact own2.drewN _
                generalize Value.slice (some ⟨ba, offa, none⟩) acc.length ca = v2 at own3 ⊢
                have hX : Blk W wr.heap.size #[.string x.1, .int .i64 x.2] 33 := by rw [← hW]; exact hX0.drewN _
                have hbW : Below w.heap.size w W := by rw [← hW]; exact (hb.trans (hwb.mono hsz)).trans (below_drawn _ _ _)
                clear hW hX0 own2 own x0 x1 y0 y1 hes hls hma
                have hjm : j < m.length := by rw [← hm.out, ← hf.out]; exact withB_lt _ _
                have hml : m.length ≤ acc.length + 1 := by rw [← hm.out]; exact withB_length _ _
                have hfm : Hid (∀ y ∈ m, Mon.fits y.2) := by show _; rw [← hm.out]; exact withB_fits hfa.out
                obtain ⟨gm, cm, rfl, e1, e2, e3, e4⟩ := own3.head (by omega)
                unfold maxLen at e4
                have z0 := own3.cellAt rfl j hjm 0 (by decide)
                have z1 := own3.cellAt rfl j hjm 1 (by decide)
                simp only [balE, List.getElem?_cons_zero, List.getElem?_cons_succ, Nat.add_zero] at z0 z1
                have hfy := Lib.hid (hfm.out m[j] (List.getElem_mem hjm))
                have hjm1 : (j : Int) < (m.length : Int) := by omega
                have hput := Lib.hid (fun h => putB_yes (x := x) hm.out hf.out hjm h)
                have hputn := Lib.hid (fun h => putB_no (x := x) hm.out hf.out hjm h)
                have X1 := hX.cell 1 _ rfl
                have hf1 := own3.frozenAt rfl (j * 2 + 1)
                by_cases hz : Mon.fits (m[j].2 + x.2)
                · obtain ⟨z, hz'⟩ : ∃ z, z = m[j].2 + x.2 := ⟨_, rfl⟩
                  have hadd : ∀ V : World, Calls Try.prog 24 #[.int .i64 m[j].2, .int .i64 x.2] V fun e w' => e = .returned (.tuple #[.int .i64 z, .int .i64 0]) ∧ V = w' := fun V => by
                    have h := moneyAdd m[j].2 x.2 V hfy.out hfx.out
                    rw [Mon.told_ok hz, ← hz'] at h; exact h
                  have Hz := Lib.hid hz
                  have Hz' := Lib.hid hz'
                  have Hadd := Lib.hid hadd
                  obtain ⟨own4, gr4⟩ := own3.stored rfl j hjm 1 (by decide) (.int .i64 z) rfl (m[j].1, z) rfl
                  clear hz hz' hadd
                  go_wp2_with fail
                  go_quiet ((go_at_call 24; exact quiet_left (Hadd.out _)))
                  go_wp2_with fail
                  go_roundw
                  case rel =>
                    refine ⟨k + 1, m.set j (m[j].1, z), by omega, by go_num, own4, by rw [List.length_set]; omega, ?_, ?_, ?_⟩
                    · exact set_fits hfm.out (by show Mon.fits z; rw [Hz'.out]; exact Hz.out)
                    · show _ = _
                      rw [hent.out, Hz'.out]; exact hyes.out _ (hput.out Hz.out)
                    · exact (hbW.trans (below_drawn _ _ _)).setCell (p := ⟨gm, _, none⟩) e1 _
                  case measure => simp [intOf]; omega
                · have hadd : ∀ V : World, Calls Try.prog 24 #[.int .i64 m[j].2, .int .i64 x.2] V fun e w' => e = .returned (.tuple #[.int .i64 0, .int .i64 7]) ∧ V = w' := fun V => by
                    have h := moneyAdd m[j].2 x.2 V hfy.out hfx.out
                    rw [Mon.told_no hz] at h; exact h
                  have Hz := Lib.hid hz
                  have Hadd := Lib.hid hadd
                  clear hz hadd
                  go_wp2_with fail
                  go_quiet ((go_at_call 24; exact quiet_left (Hadd.out _)))
                  go_wp2_with fail
                  go_ret2
                  refine ⟨?_, hbW.trans (below_drawn _ _ _)⟩
                  rw [He.out, hent.out, hno.out 7 (hputn.out Hz.out)]
                  rfl
              · have hes : (acc[j].1.toList == x.1.toList) = false := by simpa [eqB] using heq
                have hm : Hid (withB acc x.1 = acc.take j ++ (x.1, 0) :: acc.drop j) := withB_ne hf.out hjl (by simpa using heq)
                clear heq
                go_wp2_with fail
                go_quiet (fail)
                go_wp2_with fail
                go_quiet (fail)
                clear y0 y1 hes hls
                generalize hW0 : World.drewN _ _ = W0
                simp only [World.drewN_drewN] at hW0
                have own20 : OwnR balE W0 w.heap.size 33 (.slice (some ⟨ba, offa, none⟩) acc.length ca) acc := by rw [← hW0]; exact own2.drewN _
                have hX1 : Blk W0 wr.heap.size #[.string x.1, .int .i64 x.2] 33 := by rw [← hW0]; exact hX0.drewN _
                have hbW0 : Below w.heap.size w W0 := by rw [← hW0]; exact (hb.trans (hwb.mono hsz)).trans (below_drawn _ _ _)
                have hown0 := own20.lt
                have hsz0 := hbW0.size
                have X00 := hX1.cell 0 _ rfl
                clear hW0 hX0 own2 own x0 x1 hown
                go_wp2_with fail
                obtain ⟨W1, hW1⟩ : ∃ W1, W1 = W0.alloc (.cells #[.string x.1, .int .i64 0] 33) := ⟨_, rfl⟩
                have hvb1 : Blk W1 W0.heap.size #[.string x.1, .int .i64 0] 33 := by rw [hW1]; exact Blk.new _ _ _
                have hb01 : Below W0.heap.size W0 W1 := by rw [hW1]; exact below_alloc _ _
                rw [← hW1]
                clear hW1
                have hinsc := insBal w.heap.size W0.heap.size j _ acc (x.1, 0) W1 (own20.ext hb01) hvb1 (fun e => by have := hown0 _ e; omega) hj (Nat.le_trans (Nat.mul_le_mul_right 24 (by omega)) hlen) (Nat.le_trans hsz0 hb01.size)
                with_reducible refine hinsc.mono ?_
                clear hinsc
                rintro e w2 ⟨v2, rfl, own3, gr3, b3⟩
                have hX : Blk w2 wr.heap.size #[.string x.1, .int .i64 x.2] 33 := (hX1.ext hb01).grown gr3 (fun e => by have := hown0 _ e; have := hX1.lt; have := hown1 _ e; omega)
                have hbW : Below w.heap.size w w2 := (hbW0.trans (hb01.mono hsz0)).trans b3
                rw [← hm.out] at own3
                obtain ⟨m, hm'⟩ : ∃ m, withB acc x.1 = m := ⟨_, rfl⟩
                rw [hm'] at own3
                replace hm : Hid (withB acc x.1 = m) := hm'
                clear hm' hX1 own20 X00
                have hjm : j < m.length := by rw [← hm.out, ← hf.out]; exact withB_lt _ _
                have hml : m.length ≤ acc.length + 1 := by rw [← hm.out]; exact withB_length _ _
                have hfm : Hid (∀ y ∈ m, Mon.fits y.2) := by show _; rw [← hm.out]; exact withB_fits hfa.out
                obtain ⟨gm, cm, rfl, e1, e2, e3, e4⟩ := own3.head (by omega)
                unfold maxLen at e4
                have z0 := own3.cellAt rfl j hjm 0 (by decide)
                have z1 := own3.cellAt rfl j hjm 1 (by decide)
                simp only [balE, List.getElem?_cons_zero, List.getElem?_cons_succ, Nat.add_zero] at z0 z1
                have hfy := Lib.hid (hfm.out m[j] (List.getElem_mem hjm))
                have hjm1 : (j : Int) < (m.length : Int) := by omega
                have hput := Lib.hid (fun h => putB_yes (x := x) hm.out hf.out hjm h)
                have hputn := Lib.hid (fun h => putB_no (x := x) hm.out hf.out hjm h)
                have X1 := hX.cell 1 _ rfl
                have hf1 := own3.frozenAt rfl (j * 2 + 1)
                by_cases hz : Mon.fits (m[j].2 + x.2)
                · obtain ⟨z, hz'⟩ : ∃ z, z = m[j].2 + x.2 := ⟨_, rfl⟩
                  have hadd : ∀ V : World, Calls Try.prog 24 #[.int .i64 m[j].2, .int .i64 x.2] V fun e w' => e = .returned (.tuple #[.int .i64 z, .int .i64 0]) ∧ V = w' := fun V => by
                    have h := moneyAdd m[j].2 x.2 V hfy.out hfx.out
                    rw [Mon.told_ok hz, ← hz'] at h; exact h
                  have Hz := Lib.hid hz
                  have Hz' := Lib.hid hz'
                  have Hadd := Lib.hid hadd
                  obtain ⟨own4, gr4⟩ := own3.stored rfl j hjm 1 (by decide) (.int .i64 z) rfl (m[j].1, z) rfl
                  clear hz hz' hadd
                  go_wp2_with fail
                  go_quiet ((go_at_call 24; exact quiet_left (Hadd.out _)))
                  go_wp2_with fail
                  go_roundw
                  case rel =>
                    refine ⟨k + 1, m.set j (m[j].1, z), by omega, by go_num, own4, by rw [List.length_set]; omega, ?_, ?_, ?_⟩
                    · exact set_fits hfm.out (by show Mon.fits z; rw [Hz'.out]; exact Hz.out)
                    · show _ = _
                      rw [hent.out, Hz'.out]; exact hyes.out _ (hput.out Hz.out)
                    · exact (hbW.trans (below_drawn _ _ _)).setCell (p := ⟨gm, _, none⟩) e1 _
                  case measure => simp [intOf]; omega
                · have hadd : ∀ V : World, Calls Try.prog 24 #[.int .i64 m[j].2, .int .i64 x.2] V fun e w' => e = .returned (.tuple #[.int .i64 0, .int .i64 7]) ∧ V = w' := fun V => by
                    have h := moneyAdd m[j].2 x.2 V hfy.out hfx.out
                    rw [Mon.told_no hz] at h; exact h
                  have Hz := Lib.hid hz
                  have Hadd := Lib.hid hadd
                  clear hz hadd
                  go_wp2_with fail
                  go_quiet ((go_at_call 24; exact quiet_left (Hadd.out _)))
                  go_wp2_with fail
                  go_ret2
                  refine ⟨?_, hbW.trans (below_drawn _ _ _)⟩
                  rw [He.out, hent.out, hno.out 7 (hputn.out Hz.out)]
                  rfl
          · have hjl' : j = acc.length := by omega
            have hj1 : ¬ (j : Int) < (acc.length : Int) := by omega
            have hje : ((j : Int) == (acc.length : Int)) = true := by simp; omega
            have hf : Hid (findB acc x.1 = j) := findB_of hj hlow.out (fun h => by omega)
            have hm : Hid (withB acc x.1 = acc.take j ++ (x.1, 0) :: acc.drop j) := withB_end hf.out hjl'
            have hd1 : decide ((j : Int) < (acc.length : Int)) = false := by simpa using hj1
            clear hjl'
            go_wp2_with fail
            go_quiet (fail)
            go_wp2_with fail
            go_quiet (fail)
            generalize hW0 : World.drewN _ _ = W0
            simp only [World.drewN_drewN] at hW0
            have own20 : OwnR balE W0 w.heap.size 33 (.slice pa acc.length ca) acc := by rw [← hW0]; exact own2.drewN _
            have hX1 : Blk W0 wr.heap.size #[.string x.1, .int .i64 x.2] 33 := by rw [← hW0]; exact hX0.drewN _
            have hbW0 : Below w.heap.size w W0 := by rw [← hW0]; exact (hb.trans (hwb.mono hsz)).trans (below_drawn _ _ _)
            have hown0 := own20.lt
            have hsz0 := hbW0.size
            have X00 := hX1.cell 0 _ rfl
            clear hW0 hX0 own2 own x0 x1 hown
            go_wp2_with fail
            obtain ⟨W1, hW1⟩ : ∃ W1, W1 = W0.alloc (.cells #[.string x.1, .int .i64 0] 33) := ⟨_, rfl⟩
            have hvb1 : Blk W1 W0.heap.size #[.string x.1, .int .i64 0] 33 := by rw [hW1]; exact Blk.new _ _ _
            have hb01 : Below W0.heap.size W0 W1 := by rw [hW1]; exact below_alloc _ _
            rw [← hW1]
            clear hW1
            have hinsc := insBal w.heap.size W0.heap.size j _ acc (x.1, 0) W1 (own20.ext hb01) hvb1 (fun e => by have := hown0 _ e; omega) hj (Nat.le_trans (Nat.mul_le_mul_right 24 (by omega)) hlen) (Nat.le_trans hsz0 hb01.size)
            with_reducible refine hinsc.mono ?_
            clear hinsc
            rintro e w2 ⟨v2, rfl, own3, gr3, b3⟩
            have hX : Blk w2 wr.heap.size #[.string x.1, .int .i64 x.2] 33 := (hX1.ext hb01).grown gr3 (fun e => by have := hown0 _ e; have := hX1.lt; have := hown1 _ e; omega)
            have hbW : Below w.heap.size w w2 := (hbW0.trans (hb01.mono hsz0)).trans b3
            rw [← hm.out] at own3
            obtain ⟨m, hm'⟩ : ∃ m, withB acc x.1 = m := ⟨_, rfl⟩
            rw [hm'] at own3
            replace hm : Hid (withB acc x.1 = m) := hm'
            clear hm' hX1 own20 X00
            have hjm : j < m.length := by rw [← hm.out, ← hf.out]; exact withB_lt _ _
            have hml : m.length ≤ acc.length + 1 := by rw [← hm.out]; exact withB_length _ _
            have hfm : Hid (∀ y ∈ m, Mon.fits y.2) := by show _; rw [← hm.out]; exact withB_fits hfa.out
            obtain ⟨gm, cm, rfl, e1, e2, e3, e4⟩ := own3.head (by omega)
            unfold maxLen at e4
            have z0 := own3.cellAt rfl j hjm 0 (by decide)
            have z1 := own3.cellAt rfl j hjm 1 (by decide)
            simp only [balE, List.getElem?_cons_zero, List.getElem?_cons_succ, Nat.add_zero] at z0 z1
            have hfy := Lib.hid (hfm.out m[j] (List.getElem_mem hjm))
            have hjm1 : (j : Int) < (m.length : Int) := by omega
            have hput := Lib.hid (fun h => putB_yes (x := x) hm.out hf.out hjm h)
            have hputn := Lib.hid (fun h => putB_no (x := x) hm.out hf.out hjm h)
            have X1 := hX.cell 1 _ rfl
            have hf1 := own3.frozenAt rfl (j * 2 + 1)
            by_cases hz : Mon.fits (m[j].2 + x.2)
            · obtain ⟨z, hz'⟩ : ∃ z, z = m[j].2 + x.2 := ⟨_, rfl⟩
              have hadd : ∀ V : World, Calls Try.prog 24 #[.int .i64 m[j].2, .int .i64 x.2] V fun e w' => e = .returned (.tuple #[.int .i64 z, .int .i64 0]) ∧ V = w' := fun V => by
                have h := moneyAdd m[j].2 x.2 V hfy.out hfx.out
                rw [Mon.told_ok hz, ← hz'] at h; exact h
              have Hz := Lib.hid hz
              have Hz' := Lib.hid hz'
              have Hadd := Lib.hid hadd
              obtain ⟨own4, gr4⟩ := own3.stored rfl j hjm 1 (by decide) (.int .i64 z) rfl (m[j].1, z) rfl
              clear hz hz' hadd
              go_wp2_with fail
              go_quiet ((go_at_call 24; exact quiet_left (Hadd.out _)))
              go_wp2_with fail
              go_roundw
              case rel =>
                refine ⟨k + 1, m.set j (m[j].1, z), by omega, by go_num, own4, by rw [List.length_set]; omega, ?_, ?_, ?_⟩
                · exact set_fits hfm.out (by show Mon.fits z; rw [Hz'.out]; exact Hz.out)
                · show _ = _
                  rw [hent.out, Hz'.out]; exact hyes.out _ (hput.out Hz.out)
                · exact (hbW.trans (below_drawn _ _ _)).setCell (p := ⟨gm, _, none⟩) e1 _
              case measure => simp [intOf]; omega
            · have hadd : ∀ V : World, Calls Try.prog 24 #[.int .i64 m[j].2, .int .i64 x.2] V fun e w' => e = .returned (.tuple #[.int .i64 0, .int .i64 7]) ∧ V = w' := fun V => by
                have h := moneyAdd m[j].2 x.2 V hfy.out hfx.out
                rw [Mon.told_no hz] at h; exact h
              have Hz := Lib.hid hz
              have Hadd := Lib.hid hadd
              clear hz hadd
              go_wp2_with fail
              go_quiet ((go_at_call 24; exact quiet_left (Hadd.out _)))
              go_wp2_with fail
              go_ret2
              refine ⟨?_, hbW.trans (below_drawn _ _ _)⟩
              rw [He.out, hent.out, hno.out 7 (hputn.out Hz.out)]
              rfl
      · have hk' : k = l.length := by omega
        have hi : ¬ (k : Int) < (l.length : Int) := by omega
        have hE := hent.out
        rw [hk', List.drop_of_length_le (Nat.le_refl _)] at hE
        have HE := Lib.hid hE
        clear hE hk'
        go_wp2_with fail
        go_ret2
        exact ⟨by rw [He.out, HE.out]; exact ⟨_, rfl, own⟩, hb⟩
  · have He : Hid (enter book l = .error 1) := by show _ = _; unfold enter; rw [if_neg hr]
    have Hr : Hid (rightB book = false) := by show rightB book = false; simpa using hr
    clear hr
    go_enter Try.func9, Try.ntmps9
    go_wp2_with fail
    with_reducible refine (postRight _ book _ hv).mono ?_
    rintro e w' ⟨rfl, n0, rfl⟩
    rw [Hr.out]
    go_wp2_with fail
    go_ret2
    exact ⟨by rw [He.out]; rfl, below_drawn _ _ _⟩
end Go.Proofs.Ytfimaamndcdofaa
