/- Walks of package pack: the reader's Within, Text, End, Err. -/
import Derived.Test.YtgpgcnmnfnnkjaaDoorGStoreRuns14
set_option linter.unusedVariables false
set_option linter.unusedSimpArgs false
section
namespace Go.Proofs.YtgpgcnmnfnnkjaaDoor
open Go Go.RowKit

theorem rdrErr (g : Nat) (v : Value) (r : Rdr) (w : World) (h : RdrAt w g v r) :
 Calls Tryd.prog 71 #[.pointer (some ⟨g, 0, none⟩)] w fun x w' => x = .returned (.int .i64 r.err) ∧ w = w' := by
 have c2 := h.blk.cell 2 _ rfl
 go_enter Tryd.func71, Tryd.ntmps71
 go_wp2
 go_ret
 exact ⟨rfl, rfl⟩

set_option maxRecDepth 4000 in
set_option maxHeartbeats 1000000 in
theorem rdrWithin (g : Nat) (v : Value) (r : Rdr) (lo hi : Int) (w : World) (h : RdrAt w g v r) :
 Calls Tryd.prog 83 #[.pointer (some ⟨g, 0, none⟩), .int .i64 lo, .int .i64 hi] w fun x w' => x = .returned (.int .i64 (rWithin lo hi r).1) ∧ RdrAt w' g v (rWithin lo hi r).2 ∧ Chg (fun k => k = g) w w' := by
 have c1 := h.blk.cell 1 _ rfl
 have hle := h.le
 have hcall := rdrNum g v r w h
 have hb := rNum_b r
 have hw : rWithin lo hi r = if (rNum r).2.err = 0 ∧ ((rNum r).1 < lo ∨ hi < (rNum r).1) then (0, ⟨r.b, r.pos, 2⟩) else rNum r := rfl
 rw [hw]
 clear hw
 generalize hq : rNum r = q at *
 obtain ⟨n, r'⟩ := q
 dsimp only at hb hcall ⊢
 have Hq := Lib.hid hq
 clear hq h
 by_cases he : r'.err = 0
 · by_cases hlo : n < lo
   · rw [if_pos ⟨he, .inl hlo⟩]
     go_enter Tryd.func83, Tryd.ntmps83
     go_wp2_with fail
     refine hcall.mono ?_
     rintro e w1 ⟨rfl, h1, ch1⟩
     have d2 := h1.blk.cell 2 _ rfl
     rw [he] at d2
     go_wp2_with fail
     refine (rdrWrong g v r' r.pos _ 2 rfl _ h1 (by rw [hb]; exact hle)).mono ?_
     rintro e w2 ⟨rfl, h2, ch2⟩
     rw [hb] at h2
     go_wp2_with fail
     go_ret
     exact ⟨rfl, h2, ch1.step ch2⟩
   · by_cases hhi : hi < n
     · rw [if_pos ⟨he, .inr hhi⟩]
       go_enter Tryd.func83, Tryd.ntmps83
       go_wp2_with fail
       refine hcall.mono ?_
       rintro e w1 ⟨rfl, h1, ch1⟩
       have d2 := h1.blk.cell 2 _ rfl
       rw [he] at d2
       go_wp2_with fail
       refine (rdrWrong g v r' r.pos _ 2 rfl _ h1 (by rw [hb]; exact hle)).mono ?_
       rintro e w2 ⟨rfl, h2, ch2⟩
       rw [hb] at h2
       go_wp2_with fail
       go_ret
       exact ⟨rfl, h2, ch1.step ch2⟩
     · rw [if_neg (fun h => h.2.elim hlo hhi)]
       go_enter Tryd.func83, Tryd.ntmps83
       go_wp2_with fail
       refine hcall.mono ?_
       rintro e w1 ⟨rfl, h1, ch1⟩
       have d2 := h1.blk.cell 2 _ rfl
       rw [he] at d2
       go_wp2
       go_ret
       exact ⟨rfl, h1, ch1⟩
 · have hne : (r'.err == 0) = false := by simpa using he
   rw [if_neg (fun h => he h.1)]
   go_enter Tryd.func83, Tryd.ntmps83
   go_wp2_with fail
   refine hcall.mono ?_
   rintro e w1 ⟨rfl, h1, ch1⟩
   have d2 := h1.blk.cell 2 _ rfl
   go_wp2
   go_ret
   exact ⟨rfl, h1, ch1⟩

set_option maxHeartbeats 1000000 in
theorem rdrEnd (g : Nat) (v : Value) (r : Rdr) (w : World) (h : RdrAt w g v r) :
 Calls Tryd.prog 63 #[.pointer (some ⟨g, 0, none⟩)] w fun x w' => x = .returned (.int .i64 (rEnd r).1) ∧ RdrAt w' g v (rEnd r).2 ∧ Chg (fun k => k = g) w w' := by
 obtain ⟨p, cap, rfl⟩ := h.byt.shape
 have c0 := h.blk.cell 0 _ rfl
 have c1 := h.blk.cell 1 _ rfl
 have c2 := h.blk.cell 2 _ rfl
 have f2 := h.blk.frozen 2
 have hs := Lib.hid (fun k => (h.drewN k).setE 5)
 have hc := Lib.hid (fun k => (Chg.of_below (F := fun k => k = g) (below_drawn w.heap.size w k)).step (chg_cell g 2 (.int .i64 5) (w.drewN k)))
 by_cases he : r.err = 0
 · rw [he] at c2
   by_cases hl : r.pos < r.b.length
   · have e1 : rEnd r = (5, ⟨r.b, r.pos, 5⟩) := if_pos ⟨he, hl⟩
     have hli : (r.pos : Int) < (r.b.length : Int) := by omega
     rw [e1]
     clear e1
     go_enter Tryd.func63, Tryd.ntmps63
     go_wp2
     go_quiet (fail)
     go_wp2
     go_ret
     exact ⟨rfl, hs.out _, hc.out _⟩
   · have e1 : rEnd r = (r.err, r) := if_neg (fun h => hl h.2)
     have hli : ¬ (r.pos : Int) < (r.b.length : Int) := by omega
     rw [e1, he]
     clear e1
     go_enter Tryd.func63, Tryd.ntmps63
     go_wp2
     go_quiet (fail)
     go_wp2
     go_ret
     exact ⟨rfl, h.drewN _, Chg.of_below (below_drawn _ _ _)⟩
 · have hne : (r.err == 0) = false := by simpa using he
   have e1 : rEnd r = (r.err, r) := if_neg (fun h => he h.1)
   rw [e1]
   clear e1
   go_enter Tryd.func63, Tryd.ntmps63
   go_wp2
   go_quiet (fail)
   go_wp2
   go_ret
   exact ⟨rfl, h.drewN _, Chg.of_below (below_drawn _ _ _)⟩

set_option maxRecDepth 4000 in
set_option maxHeartbeats 2000000 in
theorem rdrText (g : Nat) (v : Value) (r : Rdr) (most : Int) (w : World) (h : RdrAt w g v r) :
 Calls Tryd.prog 62 #[.pointer (some ⟨g, 0, none⟩), .int .i64 most] w fun x w' => x = .returned (.string ⟨(rText most r).1.toArray⟩) ∧ RdrAt w' g v (rText most r).2 ∧ Chg (fun k => k = g) w w' := by
 obtain ⟨p, cap, rfl⟩ := h.byt.shape
 have c1 := h.blk.cell 1 _ rfl
 have hle := h.le
 have hcall := rdrWithin g _ r 0 most w h
 have hb : (rWithin 0 most r).2.b = r.b := by unfold rWithin; split; rfl; exact rNum_b r
 have hlo : (rWithin 0 most r).2.err = 0 → 0 ≤ (rWithin 0 most r).1 := by
  unfold rWithin; intro he; split at he
  · cases he
  · rename_i hn; rw [if_neg hn]
    rcases Int.lt_or_le (rNum r).1 0 with h | h
    · exact absurd ⟨he, .inl h⟩ hn
    · exact h
 have hhi : (rWithin 0 most r).1 ≤ 9223372036854775807 := by
  by_cases hx : (rNum r).2.err = 0 ∧ ((rNum r).1 < 0 ∨ most < (rNum r).1)
  · unfold rWithin; rw [if_pos hx]; show (0 : Int) ≤ _; decide
  · unfold rWithin; rw [if_neg hx]; exact (rNum_fits r).2
 have hw : rText most r = if (rWithin 0 most r).2.err = 0 then (if (((r.b.length - (rWithin 0 most r).2.pos : Nat) : Int) < (rWithin 0 most r).1) then ([], ⟨r.b, r.pos, 3⟩) else ((r.b.drop (rWithin 0 most r).2.pos).take (rWithin 0 most r).1.toNat, ⟨r.b, (rWithin 0 most r).2.pos + (rWithin 0 most r).1.toNat, 0⟩)) else ([], (rWithin 0 most r).2) := rfl
 rw [hw]
 clear hw
 generalize rWithin 0 most r = q at *
 obtain ⟨n, r'⟩ := q
 dsimp only at hb hlo hhi hcall ⊢
 by_cases he : r'.err = 0
 · rw [if_pos he]
   have hlo := hlo he
   by_cases hs : ((r.b.length - r'.pos : Nat) : Int) < n
   · rw [if_pos hs]
     go_enter Tryd.func62, Tryd.ntmps62
     go_wp2_with fail
     refine hcall.mono ?_
     rintro e w1 ⟨rfl, h1, ch1⟩
     have d0 := h1.blk.cell 0 _ rfl
     have d1 := h1.blk.cell 1 _ rfl
     have d2 := h1.blk.cell 2 _ rfl
     have hle1 := h1.le
     have hbig := h1.big
     rw [hb] at hle1 hbig
     rw [he] at d2
     have hs1 : (r.b.length : Int) - (r'.pos : Int) < n := by omega
     go_wp2
     go_quiet (fail)
     go_wp2_with fail
     refine (rdrWrong g _ r' r.pos _ 3 rfl _ (h1.drewN _) (by rw [hb]; exact hle)).mono ?_
     rintro e w2 ⟨rfl, h2, ch2⟩
     rw [hb] at h2
     go_wp2_with fail
     go_ret
     exact ⟨rfl, h2, ch1.step ((Chg.of_below (below_drawn _ _ _)).step ch2)⟩
   · rw [if_neg hs]
     obtain ⟨m, rfl⟩ := Int.eq_ofNat_of_zero_le hlo
     go_enter Tryd.func62, Tryd.ntmps62
     go_wp2_with fail
     refine hcall.mono ?_
     rintro e w1 ⟨rfl, h1, ch1⟩
     have d0 := h1.blk.cell 0 _ rfl
     have d1 := h1.blk.cell 1 _ rfl
     have d2 := h1.blk.cell 2 _ rfl
     have hle1 := h1.le
     have hbig := h1.big
     rw [hb] at hle1 hbig
     rw [he] at d2
     have hs1 : ¬ (r.b.length : Int) - (r'.pos : Int) < (m : Int) := by omega
     have hbt := h1.byt
     have hsl := run_sub tBytesP (P := Tryd.prog) hbt .i64 .i64 (r'.pos : Int) ((r'.pos : Int) + (m : Int)) r'.pos (r'.pos + m) rfl (by omega) (by omega) (by rw [hb]; omega)
     have hsb := hbt.sub r'.pos (r'.pos + m) (by omega) (by rw [hb]; omega)
     rw [hb, Nat.add_sub_cancel_left] at hsb
     have hcv := fun (k : Nat) => run_bytes_string (P := Tryd.prog) Tryd.underlying64 Tryd.underlying5 Tryd.underlying9 (hsb.drewN k)
     have f1 := h1.blk.frozen 1
     have hz := fun (k : Nat) => (h1.drewN k).setP (p := r'.pos + m) (P := (r'.pos : Int) + (m : Int)) (by omega) (by rw [hb]; omega)
     have hch := fun (k : Nat) => (Chg.of_below (F := fun k => k = g) (below_drawn w1.heap.size w1 k)).step (chg_cell g 1 (.int .i64 ((r'.pos : Int) + (m : Int))) (w1.drewN k))
     have Hz := Lib.hid (And.intro hz hch)
     have Hch1 := Lib.hid ch1
     have Hb := Lib.hid hb
     have hin0 : (0 : Int) ≤ (r'.pos : Int) := by omega
     clear hbt hsb hz hch h h1 ch1 c1 hb hs hcall
     generalize subV _ r'.pos (r'.pos + m) 1 = vs at *
     go_wp2
     go_quiet (fail)
     go_wp2
     go_quiet (fail)
     go_wp2
     go_ret
     have h9 := Hz.out.1
     rw [Hb.out, he] at h9
     exact ⟨rfl, h9 _, Hch1.out.step (Hz.out.2 _)⟩
 · have hne : (r'.err != 0) = true := by simpa using he
   rw [if_neg he]
   go_enter Tryd.func62, Tryd.ntmps62
   go_wp2_with fail
   refine hcall.mono ?_
   rintro e w1 ⟨rfl, h1, ch1⟩
   have d2 := h1.blk.cell 2 _ rfl
   go_wp2
   go_ret
   exact ⟨rfl, h1, ch1⟩
end Go.Proofs.YtgpgcnmnfnnkjaaDoor
end
