/- The walk of impostlaw18.WalRuns. -/
import Derived.Test.YtgpgcnmnfnnkjaaGreatDoorGWalPlays30
import Derived.Test.YtgpgcnmnfnnkjaaGreatDoorGWalPlays43
import Derived.Test.YtgpgcnmnfnnkjaaGreatDoorGWalPlays41
import Derived.Test.YtgpgcnmnfnnkjaaGreatDoorGWalPlays24
import Derived.Test.YtgpgcnmnfnnkjaaGreatDoorGWalPlays19
import Derived.Deep.RegionHeld3
set_option linter.unusedVariables false
set_option linter.unusedSimpArgs false
section
namespace Go.Proofs.YtgpgcnmnfnnkjaaGreatDoor
open Go Go.RowKit Go.PlainAid BigFrame
attribute [local go_sem] After.same
theorem Rd.zero {w w' : World} {v : Value} (h : Rd etyE w v []) : Rd etyE w' v [] := by
 obtain ⟨h1, h0, p, cap, rfl, h2, h3, h4, h5⟩ := h
 exact ⟨h1, h0, p, cap, rfl, h2, h3, h4, fun a ha hn => absurd hn (by simp)⟩
set_option maxRecDepth 8000 in
set_option maxHeartbeats 8000000 in
theorem walRuns_walk (w : World) (T : TabW w) : Calls Tryz.prog 9 #[] w fun e w' => e = .returned (.bool true) ∧ Below w.heap.size w w' := by
 obtain ⟨w0, hw0⟩ : ∃ w0, w0 = w := ⟨_, rfl⟩
 rw [← hw0] at T ⊢
 clear hw0
 have T0 : ∀ z, Below w0.heap.size w0 z → TabW z := Lib.tabBelow_of_tabIs T
 have Tn := Lib.hid T0
 clear T T0
 go_enter Tryz.func9, Tryz.ntmps9
 go_wp2_with fail
 refine (lNew w0 w0 (Nat.le_refl _) noX (fun _ h => h.elim)).mono ?_
 rintro e w1 ⟨rfl, d1, b1⟩
 generalize w0.heap.size = G at d1
 have ho := walOpen (w := w1) Tn.out d1 b1 PInv.zero (by omega)
 rw [tw0, tw0c] at ho
 go_wp2_with fail
 refine ho.mono ?_
 rintro e w2 ⟨⟨gw, v2, X2, rfl, hgw, hx2, -, d2, v2', -⟩, -, c2⟩
 have b2 := b1.trans (c2.gx d1.size)
 have hgw0 : w0.heap.size ≤ gw := Nat.le_trans d1.size hgw
 have hgl := v2'.blk.lt
 clear ho c2 d1 b1 hx2 hgw
 have d2a := d2.alloc (.cells #[.int .i64 1, .int .i64 0, .int .i64 0, .int .i64 0, .int .i64 7, .string ⟨#[]⟩, .slice none 0 0] 24)
 have a2 := below_alloc w2 (.cells #[.int .i64 1, .int .i64 0, .int .i64 0, .int .i64 0, .int .i64 7, .string ⟨#[]⟩, .slice none 0 0] 24)
 have v2a := (v2'.ext a2).mono (Y := fun k => X2 k ∨ k = w2.heap.size) (fun _ h => .inl h)
 have kz := Blk.new w2 #[.int .i64 1, .int .i64 0, .int .i64 0, .int .i64 0, .int .i64 7, .string ⟨#[]⟩, .slice none 0 0] 24
 have b2a := b2.trans (a2.mono b2.size)
 have y0 := kz.cell 0 _ rfl
 have zy0 := kz.frozen 0
 have y1 := kz.cell 1 _ rfl
 have zy1 := kz.frozen 1
 have y2 := kz.cell 2 _ rfl
 have zy2 := kz.frozen 2
 have y3 := kz.cell 3 _ rfl
 have zy3 := kz.frozen 3
 have y4 := kz.cell 4 _ rfl
 have zy4 := kz.frozen 4
 have y5 := kz.cell 5 _ rfl
 have zy5 := kz.frozen 5
 have y6 := kz.cell 6 _ rfl
 have zy6 := kz.frozen 6
 have hs := walSave Tn.out d2a b2a hgw0 PInv.zero (by omega) v2a hr1 (.slice none 0 0) (Rd.nil _) (nil_own True.intro) (by simp [Value.ownBlock]) tw1e
 go_wp2_with fail
 refine hs.mono ?_
 rintro e w3 ⟨rfl, X3, v3, hx3, -, d3, v3', c3⟩
 have kz3 : Blk w3 w2.heap.size #[.int .i64 1, .int .i64 0, .int .i64 0, .int .i64 0, .int .i64 7, .string ⟨#[]⟩, .slice none 0 0] 24 := c3.blk kz (fun h => by rcases h with h | h; exact h.2 (.inr rfl); omega)
 have hX3 : X3 w2.heap.size := hx3 _ (.inr rfl)
 have b3 := b2a.trans (c3.gwB b2a.size hgw0)
 clear y0 zy0 y1 zy1 y2 zy2 y3 zy3 y4 zy4 y5 zy5 y6 zy6
 clear hs d2a a2 v2a b2a kz c3 hx3 d2 v2' b2
 have hn := lNames d3 (pw1.ok (by omega))
 rw [tw1n] at hn
 go_wp2_with fail
 refine hn.mono ?_
 rintro e w4 ⟨⟨r4, rfl, own4⟩, c4⟩
 have a4 := below_alloc w4 (.cells #[.string sW1] 9)
 have l4 : Rd strE (w4.alloc (.cells #[.string sW1] 9)) (.slice (some ⟨w4.heap.size, 0, none⟩) 1 1) [sW1] := (OwnR.litAt strE w4 #[.string sW1] 9 [sW1] 1 0 w4.heap.size rfl rfl rfl (by unfold maxLen; omega) (Nat.zero_le _)).rd
 have hsm := sameStrs _ _ _ _ (own4.rd.ext a4) l4
 have cc : Below w3.heap.size w3 (w4.alloc (.cells #[.string sW1] 9)) := c4.trans (a4.mono c4.size)
 clear hn own4 c4 a4 l4
 go_wp2_with fail
 refine hsm.mono ?_
 rintro e w5 ⟨rfl, nn, hw⟩
 have cd : Below w3.heap.size w3 w5 := by rw [hw]; exact cc.trans (below_drawn _ _ _)
 have b5 := b3.trans (cd.mono b3.size)
 have d5 := d3.ext cd
 have v5 := v3'.ext cd
 have kz5 := kz3.ext cd
 clear hsm hw cc cd b3 d3 v3' kz3
 have hgl5 := v5.blk.lt
 have hw2l := kz5.lt
 have hne : w2.heap.size ≠ gw := by omega
 have hne5 : w5.heap.size ≠ gw := by omega
 have hne6 : w5.heap.size ≠ w2.heap.size := by omega
 have hle2 : w0.heap.size ≤ w2.heap.size := by omega
 have u0 := kz5.cell 0 _ rfl
 have zu0 := kz5.frozen 0
 have u1 := kz5.cell 1 _ rfl
 have zu1 := kz5.frozen 1
 have u2 := kz5.cell 2 _ rfl
 have zu2 := kz5.frozen 2
 have u3 := kz5.cell 3 _ rfl
 have zu3 := kz5.frozen 3
 have u4 := kz5.cell 4 _ rfl
 have zu4 := kz5.frozen 4
 have u5 := kz5.cell 5 _ rfl
 have zu5 := kz5.frozen 5
 have u6 := kz5.cell 6 _ rfl
 have zu6 := kz5.frozen 6
 have cs := chg_cell w2.heap.size 6 (.slice (some ⟨w5.heap.size, 0, none⟩) 1 1) w5
 have es : (w5.setCell ⟨w2.heap.size, 6, none⟩ (.slice (some ⟨w5.heap.size, 0, none⟩) 1 1)).heap.size = w5.heap.size := by simp
 have ds := d5.chgX cs (fun k hk => .inl (by rw [hk]; exact hX3))
 have bs : Below w0.heap.size w0 _ := b5.trans (cs.below (B := w0.heap.size) (fun k hk => by rw [hk]; exact hle2) b5.size)
 have ks : Blk _ w2.heap.size #[.int .i64 1, .int .i64 0, .int .i64 0, .int .i64 0, .int .i64 7, .string ⟨#[]⟩, .slice (some ⟨w5.heap.size, 0, none⟩) 1 1] 24 := kz5.set 6 (.slice (some ⟨w5.heap.size, 0, none⟩) 1 1)
 have vs : WalV _ X3 G gw v3 wr1 := ⟨cs.blk v5.blk (fun e => hne e.symm), Rd.zero v5.log, v5.inX, v5.lX, v5.off, v5.few, v5.num⟩
 have a5 := below_alloc (w5.setCell ⟨w2.heap.size, 6, none⟩ (.slice (some ⟨w5.heap.size, 0, none⟩) 1 1)) (.cells #[.int .i64 1, .int .i64 0, .string ⟨#[120]⟩] 73)
 have d6 := ds.alloc (.cells #[.int .i64 1, .int .i64 0, .string ⟨#[120]⟩] 73)
 have b6 := bs.trans (a5.mono bs.size)
 have kz6 := ks.ext a5
 have l6 : Rd etyE ((w5.setCell ⟨w2.heap.size, 6, none⟩ (.slice (some ⟨w5.heap.size, 0, none⟩) 1 1)).alloc (.cells #[.int .i64 1, .int .i64 0, .string ⟨#[120]⟩] 73)) (.slice (some ⟨w5.heap.size, 0, none⟩) 1 1) [⟨1, 0, ⟨#[120]⟩⟩] := (OwnR.litAt etyE _ #[.int .i64 1, .int .i64 0, .string ⟨#[120]⟩] 73 [⟨1, 0, ⟨#[120]⟩⟩] 1 0 w5.heap.size es rfl rfl (by unfold maxLen; omega) (Nat.zero_le _)).rd
 rw [es] at d6
 have v6 := (vs.ext a5).mono (Y := fun k => X3 k ∨ k = w5.heap.size) (fun _ h => .inl h)
 have s0 := kz6.cell 0 _ rfl
 have zs0 := kz6.frozen 0
 have s1 := kz6.cell 1 _ rfl
 have zs1 := kz6.frozen 1
 have s2 := kz6.cell 2 _ rfl
 have zs2 := kz6.frozen 2
 have s3 := kz6.cell 3 _ rfl
 have zs3 := kz6.frozen 3
 have s4 := kz6.cell 4 _ rfl
 have zs4 := kz6.frozen 4
 have s5 := kz6.cell 5 _ rfl
 have zs5 := kz6.frozen 5
 have s6 := kz6.cell 6 _ rfl
 have zs6 := kz6.frozen 6
 clear cs es ds bs ks vs a5 d5 v5 kz5 b5
 go_wp2_with fail
 clear u0 zu0 u1 zu1 u2 zu2 u3 zu3 u4 zu4 u5 zu5 u6 zu6
 generalize hz6 : (w5.setCell ⟨w2.heap.size, 6, none⟩ (.slice (some ⟨w5.heap.size, 0, none⟩) 1 1)).alloc (.cells #[.int .i64 1, .int .i64 0, .string ⟨#[120]⟩] 73) = w6 at *
 clear hz6
 have hs := walSave Tn.out d6 b6 hgw0 pw1 (by omega) v6 hr2 (.slice (some ⟨w5.heap.size, 0, none⟩) 1 1) l6 (fun k hk => .inr (.inr (by cases hk; rfl))) (by simp [Value.ownBlock]; exact hne5) tw2e
 go_wp2_with fail
 refine hs.mono ?_
 rintro e w7 ⟨rfl, X7, v7, hx7, -, d7, v7', c7⟩
 have kz7 : Blk w7 w2.heap.size #[.int .i64 1, .int .i64 0, .int .i64 0, .int .i64 0, .int .i64 7, .string ⟨#[]⟩, .slice (some ⟨w5.heap.size, 0, none⟩) 1 1] 24 := c7.blk kz6 (fun h => by rcases h with h | h; exact h.2 (.inl hX3); exact hne h)
 have l7 := c7.cells l6 (fun k hk h => by cases hk; rcases h with h | h; exact h.2 (.inr rfl); exact hne5 h)
 have hX7 : X7 w2.heap.size := hx7 _ (.inl hX3)
 have hY7 : X7 w5.heap.size := hx7 _ (.inr rfl)
 have b7 := b6.trans (c7.gwB b6.size hgw0)
 clear s0 zs0 s1 zs1 s2 zs2 s3 zs3 s4 zs4 s5 zs5 s6 zs6
 clear hs d6 b6 kz6 l6 v6 c7 hx7
 have q0 := kz7.cell 0 _ rfl
 have zq0 := kz7.frozen 0
 have q1 := kz7.cell 1 _ rfl
 have zq1 := kz7.frozen 1
 have q2 := kz7.cell 2 _ rfl
 have zq2 := kz7.frozen 2
 have q3 := kz7.cell 3 _ rfl
 have zq3 := kz7.frozen 3
 have q4 := kz7.cell 4 _ rfl
 have zq4 := kz7.frozen 4
 have q5 := kz7.cell 5 _ rfl
 have zq5 := kz7.frozen 5
 have q6 := kz7.cell 6 _ rfl
 have zq6 := kz7.frozen 6
 have ho := walOpen Tn.out d7 b7 pw2 (by omega)
 rw [tw3] at ho
 go_wp2_with fail
 refine ho.mono ?_
 rintro e w8 ⟨⟨gx, v8, X8, rfl, hgx, hx8, -, d8, v8', -⟩, -, c8⟩
 have kz8 : Blk w8 w2.heap.size #[.int .i64 1, .int .i64 0, .int .i64 0, .int .i64 0, .int .i64 7, .string ⟨#[]⟩, .slice (some ⟨w5.heap.size, 0, none⟩) 1 1] 24 := c8.blk kz7 (fun h => h.2 hX7)
 have l8 : Rd etyE w8 (.slice (some ⟨w5.heap.size, 0, none⟩) 1 1) hr2.log := c8.cells l7 (fun k hk h => by cases hk; exact h.2 hY7)
 have hgx0 : w0.heap.size ≤ gx := Nat.le_trans d7.size hgx
 have b8 := b7.trans (c8.gx d7.size)
 have hd8 := b8.size
 clear ho d7 b7 kz7 l7 v7' c8 hx8
 clear q0 zq0 q1 zq1 q2 zq2 q3 zq3 q4 zq4 q5 zq5 q6 zq6
 have x0 := kz8.cell 0 _ rfl
 have zx0 := kz8.frozen 0
 have x1 := kz8.cell 1 _ rfl
 have zx1 := kz8.frozen 1
 have x2 := kz8.cell 2 _ rfl
 have zx2 := kz8.frozen 2
 have x3 := kz8.cell 3 _ rfl
 have zx3 := kz8.frozen 3
 have x4 := kz8.cell 4 _ rfl
 have zx4 := kz8.frozen 4
 have x5 := kz8.cell 5 _ rfl
 have zx5 := kz8.frozen 5
 have x6 := kz8.cell 6 _ rfl
 have zx6 := kz8.frozen 6
 go_wp2_with fail
 go_region_held3 (fun w' => w'.cell? ⟨w2.heap.size, 0, none⟩ = some (.int .i64 1) ∧ w'.cell? ⟨w2.heap.size, 1, none⟩ = some (.int .i64 0) ∧ w'.cell? ⟨w2.heap.size, 2, none⟩ = some (.int .i64 0) ∧ w'.cell? ⟨w2.heap.size, 3, none⟩ = some (.int .i64 0) ∧ w'.cell? ⟨w2.heap.size, 4, none⟩ = some (.int .i64 7) ∧ w'.cell? ⟨w2.heap.size, 5, none⟩ = some (.string ⟨#[]⟩) ∧ w'.cell? ⟨w2.heap.size, 6, none⟩ = some (.slice (some ⟨w5.heap.size, 0, none⟩) 1 1)) (go_keep)
  (first
   | (go_at_call 21; refine (walHard (v8'.ext (below_drew _ _))).mono ?_; rintro e w9 ⟨v9, rfl, own9, b9⟩; (have s9 := (below_drew _ _).trans b9); (have kz9 := kz8.ext s9); (have m0 := kz9.cell 0 _ rfl); (have m1 := kz9.cell 1 _ rfl); (have m2 := kz9.cell 2 _ rfl); (have m3 := kz9.cell 3 _ rfl); (have m4 := kz9.cell 4 _ rfl); (have m5 := kz9.cell 5 _ rfl); (have m6 := kz9.cell 6 _ rfl))
   | (go_at_call 20; refine (refSame hr2 hr2 v9 _ own9.rd (l8.ext s9)).mono ?_; rintro e w10 ⟨rfl, b10⟩; (have kz10 := kz9.ext b10); (have k0 := kz10.cell 0 _ rfl); (have k1 := kz10.cell 1 _ rfl); (have k2 := kz10.cell 2 _ rfl); (have k3 := kz10.cell 3 _ rfl); (have k4 := kz10.cell 4 _ rfl); (have k5 := kz10.cell 5 _ rfl); (have k6 := kz10.cell 6 _ rfl)))
 all_goals
  have b810 : Below w8.heap.size w8 w10 := s9.trans (b10.mono s9.size)
  have b10' := b8.trans (b810.mono b8.size)
  have d10 := d8.ext b810
  have v10 := v8'.ext b810
  clear own9 b9 s9 kz9 b10 kz10 b810 kz8 l8 d8 b8 v8'
  clear m0 m1 m2 m3 m4 m5 m6 k0 k1 k2 k3 k4 k5 k6
  have hs := walSave Tn.out d10 b10' hgx0 pw3 (by omega) v10 hr3 (.slice none 0 0) (Rd.nil _) (nil_own True.intro) (by simp [Value.ownBlock]) tw4e
  go_wp2_with fail
  refine hs.mono ?_
  rintro e w11 ⟨rfl, X11, v11, hx11, -, d11, v11', c11⟩
  have b11 := b10'.trans (c11.gwB b10'.size hgx0)
  clear hs d10 b10' v10 c11 hx11
  go_wp2_with fail
  refine (walOpenNil _).mono ?_
  rintro e w' ⟨rfl, rfl⟩
  have hn := lNames d11 (pw4.ok (by omega))
  rw [tw4n] at hn
  go_wp2_with fail
  refine hn.mono ?_
  rintro e w12 ⟨⟨r12, rfl, own12⟩, c12⟩
  have a12 := below_alloc w12 (.cells #[.string sW2] 9)
  have l12 : Rd strE (w12.alloc (.cells #[.string sW2] 9)) (.slice (some ⟨w12.heap.size, 0, none⟩) 1 1) [sW2] := (OwnR.litAt strE w12 #[.string sW2] 9 [sW2] 1 0 w12.heap.size rfl rfl rfl (by unfold maxLen; omega) (Nat.zero_le _)).rd
  have hsm := sameStrs _ _ _ _ (own12.rd.ext a12) l12
  have cc : Below w11.heap.size w11 (w12.alloc (.cells #[.string sW2] 9)) := c12.trans (a12.mono c12.size)
  clear hn own12 c12 a12 l12
  go_wp2_with fail
  refine hsm.mono ?_
  rintro e w13 ⟨rfl, nn, hw⟩
  have cd : Below w11.heap.size w11 w13 := by rw [hw]; exact cc.trans (below_drawn _ _ _)
  have b13 := b11.trans (cd.mono b11.size)
  have d13 := d11.ext cd
  have v13 := v11'.ext cd
  clear hsm hw cc cd b11 d11 v11'
  have hs := walSave Tn.out d13 b13 hgx0 pw4 (by omega) v13 hr4 (.slice none 0 0) (Rd.nil _) (nil_own True.intro) (by simp [Value.ownBlock]) tw5e
  go_wp2_with fail
  refine hs.mono ?_
  rintro e w14 ⟨rfl, X14, v14, hx14, -, d14, v14', c14⟩
  have b14 := b13.trans (c14.gwB b13.size hgx0)
  clear hs d13 b13 v13 c14 d14 v14'
  go_wp2_with fail
  go_ret
  exact ⟨rfl, b14⟩
end Go.Proofs.YtgpgcnmnfnnkjaaGreatDoor
end
