/- Same of two rows of entries; what was with some more entries (impostlaw19.some). The walk of impostlaw19.StoreRuns. -/
import Derived.Test.YtgpgcnmnfnnkjaaGreatDoorGStoreCuts32
import Derived.Test.YtgpgcnmnfnnkjaaGreatDoorGStoreCuts24
import Derived.Test.YtgpgcnmnfnnkjaaGreatDoorGStoreCuts37
import Derived.Test.YtgpgcnmnfnnkjaaGreatDoorGStoreCuts15
set_option linter.unusedVariables false
set_option linter.unusedSimpArgs false
section
namespace Go.Proofs.YtgpgcnmnfnnkjaaGreatDoor
open Go Go.RowKit Go.PlainAid BigFrame
attribute [local go_sem] After.same
set_option maxHeartbeats 1000000 in
theorem sameEtyQ (v u : Value) (l : List Ety) (w : World) (hv : Rd etyE w v l) (hu : Rd etyE w u l) :
 Calls Tryz.prog 83 #[v, u] w fun e w' => e = .returned (.bool true) ∧ ∃ n, w' = w.drewN n := by
 obtain ⟨p, cap, rfl⟩ := hv.shape
 obtain ⟨q, dap, rfl⟩ := hu.shape
 have m1 := hv.le
 unfold maxLen at m1
 go_enter Tryz.func83, Tryz.ntmps83
 go_wp2
 go_loopw [5] (fun i wr => ∃ k : Nat, k ≤ l.length ∧ i = .int .i64 k ∧ ∃ n, wr = w.drewN n) (fun i _ => l.length - (intOf i).toNat)
 case atStart => exact ⟨0, by omega, rfl, 0, rfl⟩
 case round =>
  obtain ⟨k, hk, rfl, n, rfl⟩ := hrel
  by_cases hlt : k < l.length
  · obtain ⟨ba, oa, rfl⟩ := Rd.blk hv (by omega)
    obtain ⟨bb, ob, rfl⟩ := Rd.blk hu (by omega)
    obtain ⟨a0, a1, a2⟩ := ety3 hv hlt
    obtain ⟨b0, b1, b2⟩ := ety3 hu hlt
    have hi1 : (k : Int) < (l.length : Int) := by omega
    have hi0 : (0 : Int) ≤ (k : Int) := by omega
    generalize l[k] = x at *
    have heql := fun (z : World) => neq_ety x x z
    rw [etyEq_self] at heql
    go_wp2
    go_quiet (fail)
    go_wp2
    go_roundw
    case rel => exact ⟨k + 1, by omega, by go_num, _, by first | rfl | exact World.drewN_drewN _ _ _⟩
    case measure => simp [intOf]; omega
  · have hi1 : ¬ (k : Int) < (l.length : Int) := by omega
    go_wp2
    go_ret
    exact ⟨rfl, n, rfl⟩
theorem subQ_own {v : Value} {i j sz k : Nat} (h : (subV v i j sz).ownBlock = some k) : v.ownBlock = some k := by
 cases v with
 | slice p n c =>
  change (Value.slice (subP p c i sz) (j - i) (c - i)).ownBlock = some k at h
  by_cases e : c = i
  · have e1 : subP p c i sz = p := if_pos e
    rw [e1] at h
    cases p with
    | none => simp [Value.ownBlock] at h
    | some a => exact h
  · have e1 : subP p c i sz = p.map (·.add (i * sz)) := if_neg e
    rw [e1] at h
    cases p with
    | none => simp [Value.ownBlock] at h
    | some a =>
     have e2 : (a.add (i * sz)).block = a.block := by unfold Addr.add; split <;> rfl
     have e3 : (a.add (i * sz)).block = k := by simpa [Value.ownBlock] using h
     show some a.block = some k
     rw [← e2, e3]
 | _ => exact h
theorem take_front : ∀ {a b : List Ety}, commonE a b = b.length → a.take b.length = b := fun {a b} h => by
 have := commonE_take a b
 rw [h, List.take_length] at this; exact this
structure SomeQ (x y z : Hrd) : Prop where
 le : y.log.length ≤ x.log.length
 front : x.log.take y.log.length = y.log
 same : ({ x with log := y.log } : Hrd) = y
 more : y.log.length < x.log.length → x.log.length ≤ z.log.length ∧ z.base = y.base ∧ z.log.take x.log.length = x.log
theorem SomeE.q {x y z : Hrd} (h : SomeE x y z) : SomeQ x y z := by
 rcases h with e | ⟨h1, h2, h3, h4, h5, h6, h7, j, j1, j2, e⟩
 · subst e
   exact ⟨Nat.le_refl _, List.take_length, rfl, fun q => absurd q (Nat.lt_irrefl _)⟩
 · subst e
   have hl : (z.log.take j).length = j := by rw [List.length_take]; omega
   refine ⟨by show _ ≤ (z.log.take j).length; omega, ?_, ?_, fun _ => ⟨by show (z.log.take j).length ≤ _; omega, h1, ?_⟩⟩
   · show (z.log.take j).take y.log.length = y.log
     rw [List.take_take, Nat.min_eq_left j1]; exact take_front h7
   · cases y; cases z; simp only [Hrd.mk.injEq] at *; exact ⟨h5, h6, h1, h2, h3, h4, trivial⟩
   · show z.log.take (z.log.take j).length = z.log.take j
     rw [hl]
open Classical in
set_option maxRecDepth 8000 in
set_option maxHeartbeats 4000000 in
theorem lawSome {w : World} (x y z : Hrd) (u v t : Value) (hu : Rd etyE w u x.log) (hv : Rd etyE w v y.log) (ht : Rd etyE w t z.log) (hB : SomeQ x y z) :
 Calls Tryz.prog 40 #[hrdA x u, hrdA y v, hrdA z t] w fun e w' => e = .returned (.bool true) ∧ Below w.heap.size w w' := by
 obtain ⟨p, pc, rfl⟩ := hu.shape
 obtain ⟨q, qc, rfl⟩ := hv.shape
 obtain ⟨r, rc, rfl⟩ := ht.shape
 have m1 := hu.le
 have m2 := hv.le
 have m3 := ht.le
 unfold maxLen at m1 m2 m3
 obtain ⟨s, hs0⟩ : ∃ s, s = w.heap.size := ⟨_, rfl⟩
 obtain ⟨c1, hc1⟩ : ∃ c, c = s + 1 := ⟨_, rfl⟩
 obtain ⟨c2, hc2⟩ : ∃ c, c = s + 1 + 1 := ⟨_, rfl⟩
 have b0 := below_alloc w (.cells #[.int .i64 x.term, .int .i64 x.vote, .int .i64 x.base, .int .i64 x.bterm, .int .i64 x.members, .string x.snap, .slice p x.log.length pc] 24)
 have b1 := b0.trans ((below_alloc (w.alloc (.cells #[.int .i64 x.term, .int .i64 x.vote, .int .i64 x.base, .int .i64 x.bterm, .int .i64 x.members, .string x.snap, .slice p x.log.length pc] 24)) (.cells #[.int .i64 y.term, .int .i64 y.vote, .int .i64 y.base, .int .i64 y.bterm, .int .i64 y.members, .string y.snap, .slice q y.log.length qc] 24)).mono (by simp))
 have b2 := b1.trans ((below_alloc ((w.alloc (.cells #[.int .i64 x.term, .int .i64 x.vote, .int .i64 x.base, .int .i64 x.bterm, .int .i64 x.members, .string x.snap, .slice p x.log.length pc] 24)).alloc (.cells #[.int .i64 y.term, .int .i64 y.vote, .int .i64 y.base, .int .i64 y.bterm, .int .i64 y.members, .string y.snap, .slice q y.log.length qc] 24)) (.cells #[.int .i64 z.term, .int .i64 z.vote, .int .i64 z.base, .int .i64 z.bterm, .int .i64 z.members, .string z.snap, .slice r z.log.length rc] 24)).mono (by simp <;> omega))
 have kX := ((Blk.new w #[.int .i64 x.term, .int .i64 x.vote, .int .i64 x.base, .int .i64 x.bterm, .int .i64 x.members, .string x.snap, .slice p x.log.length pc] 24).ext (below_alloc (w.alloc (.cells #[.int .i64 x.term, .int .i64 x.vote, .int .i64 x.base, .int .i64 x.bterm, .int .i64 x.members, .string x.snap, .slice p x.log.length pc] 24)) (.cells #[.int .i64 y.term, .int .i64 y.vote, .int .i64 y.base, .int .i64 y.bterm, .int .i64 y.members, .string y.snap, .slice q y.log.length qc] 24))).ext (below_alloc _ (.cells #[.int .i64 z.term, .int .i64 z.vote, .int .i64 z.base, .int .i64 z.bterm, .int .i64 z.members, .string z.snap, .slice r z.log.length rc] 24))
 have kY := (Blk.new (w.alloc (.cells #[.int .i64 x.term, .int .i64 x.vote, .int .i64 x.base, .int .i64 x.bterm, .int .i64 x.members, .string x.snap, .slice p x.log.length pc] 24)) #[.int .i64 y.term, .int .i64 y.vote, .int .i64 y.base, .int .i64 y.bterm, .int .i64 y.members, .string y.snap, .slice q y.log.length qc] 24).ext (below_alloc _ (.cells #[.int .i64 z.term, .int .i64 z.vote, .int .i64 z.base, .int .i64 z.bterm, .int .i64 z.members, .string z.snap, .slice r z.log.length rc] 24))
 have kZ := Blk.new ((w.alloc (.cells #[.int .i64 x.term, .int .i64 x.vote, .int .i64 x.base, .int .i64 x.bterm, .int .i64 x.members, .string x.snap, .slice p x.log.length pc] 24)).alloc (.cells #[.int .i64 y.term, .int .i64 y.vote, .int .i64 y.base, .int .i64 y.bterm, .int .i64 y.members, .string y.snap, .slice q y.log.length qc] 24)) #[.int .i64 z.term, .int .i64 z.vote, .int .i64 z.base, .int .i64 z.bterm, .int .i64 z.members, .string z.snap, .slice r z.log.length rc] 24
 have e1 : (w.alloc (.cells #[.int .i64 x.term, .int .i64 x.vote, .int .i64 x.base, .int .i64 x.bterm, .int .i64 x.members, .string x.snap, .slice p x.log.length pc] 24)).heap.size = c1 := by rw [hc1, hs0]; simp
 have e2 : ((w.alloc (.cells #[.int .i64 x.term, .int .i64 x.vote, .int .i64 x.base, .int .i64 x.bterm, .int .i64 x.members, .string x.snap, .slice p x.log.length pc] 24)).alloc (.cells #[.int .i64 y.term, .int .i64 y.vote, .int .i64 y.base, .int .i64 y.bterm, .int .i64 y.members, .string y.snap, .slice q y.log.length qc] 24)).heap.size = c2 := by rw [hc2, hs0]; simp
 rw [← hs0] at kX
 rw [e1] at kY
 rw [e2] at kZ
 have huW := hu.ext b2
 have hvW := hv.ext b2
 have htW := ht.ext b2
 have hu0 := hu
 have hv0 := hv
 clear b0 b1 e1 e2 hu hv ht
 obtain ⟨hle, hfr, hsm, hmo⟩ := hB
 have Hfr := Lib.hid hfr
 have Hsm := Lib.hid hsm
 have Hmo := Lib.hid hmo
 clear hfr hsm hmo
 go_enter Tryz.func40, Tryz.ntmps40
 go_upto_region 1 with (fail)
 rw [← hs0, ← hc2, ← hc1]
 generalize hW1 : (((w.alloc (.cells #[.int .i64 x.term, .int .i64 x.vote, .int .i64 x.base, .int .i64 x.bterm, .int .i64 x.members, .string x.snap, .slice p x.log.length pc] 24)).alloc (.cells #[.int .i64 y.term, .int .i64 y.vote, .int .i64 y.base, .int .i64 y.bterm, .int .i64 y.members, .string y.snap, .slice q y.log.length qc] 24)).alloc (.cells #[.int .i64 z.term, .int .i64 z.vote, .int .i64 z.base, .int .i64 z.bterm, .int .i64 z.members, .string z.snap, .slice r z.log.length rc] 24)) = W at *
 clear hW1
 have HN := Lib.hid (And.intro hs0 (And.intro hc1 hc2))
 have hcs : s ≠ c1 ∧ s ≠ c2 ∧ w.heap.size ≤ s := by omega
 clear hs0 hc1 hc2
 have xs6 := kX.cell 6 _ rfl
 go_upto_region 2 with (fail)
 clear xs6
 have n0 : ¬ (x.log.length : Int) < (y.log.length : Int) := by omega
 have zx6 : ∀ a : After W, a.1.cell? ⟨s, 6, none⟩ = some (.slice p x.log.length pc) := fun a => (kX.ext a.2).cell 6 _ rfl
 have zy6 : ∀ a : After W, a.1.cell? ⟨c1, 6, none⟩ = some (.slice q y.log.length qc) := fun a => (kY.ext a.2).cell 6 _ rfl
 have zy2 : ∀ a : After W, a.1.cell? ⟨c1, 2, none⟩ = some (.int .i64 y.base) := fun a => (kY.ext a.2).cell 2 _ rfl
 have zz6 : ∀ a : After W, a.1.cell? ⟨c2, 6, none⟩ = some (.slice r z.log.length rc) := fun a => (kZ.ext a.2).cell 6 _ rfl
 have zz2 : ∀ a : After W, a.1.cell? ⟨c2, 2, none⟩ = some (.int .i64 z.base) := fun a => (kZ.ext a.2).cell 2 _ rfl
 by_cases hlt : y.log.length < x.log.length
 case' pos =>
  obtain ⟨k1, k2, k3⟩ := Hmo.out hlt
  have n1 : (y.log.length : Int) < (x.log.length : Int) := by omega
  have n2 : ¬ (z.log.length : Int) < (x.log.length : Int) := by omega
  have n3 : (z.base != y.base) = false := by simpa using k2
  have hsb := Rd.sub htW 0 x.log.length (by omega) k1
  have hsl := run_sub_to tEty (P := Tryz.prog) htW .i64 (x.log.length : Int) x.log.length rfl k1
  rw [List.drop_zero, Nat.sub_zero, k3] at hsb
  obtain ⟨sv, hsv⟩ : ∃ o, o = subV (.slice r z.log.length rc) 0 x.log.length 3 := ⟨_, rfl⟩
  replace hsb : Rd etyE W sv x.log := by rw [hsv]; exact hsb
  rw [← hsv] at hsl
  clear hsv
  have hcl : ∀ a : After W, Calls Tryz.prog 83 #[.slice p x.log.length pc, sv] a.1 fun e w' => e = .returned (.bool true) ∧ ∃ y : After W, w' = y.1 := fun a => a.call ((sameEtyQ _ _ x.log a.1 (huW.ext a.2) (hsb.ext a.2)).mono fun e w' h => ⟨h.1, by obtain ⟨n, hn⟩ := h.2; rw [hn]; exact below_drawn _ _ _⟩)
  clear k2 k3 hsb
  refine wp_region_after (by kernel_rfl) (by kernel_rfl) ?_
  repeat (go_big_quiet_step (exact hcl _))
  refine wpQuiet_nil ?_
  rintro w3 ⟨⟨w3x, b3⟩, hw3⟩
  change w3 = w3x at hw3
  subst hw3
  clear hcl hsl n1 n2 n3 k1
 case' neg =>
  have n1 : ¬ (y.log.length : Int) < (x.log.length : Int) := by omega
  refine wp_region_after (by kernel_rfl) (by kernel_rfl) ?_
  repeat (go_big_quiet_step (fail))
  refine wpQuiet_nil ?_
  rintro w3 ⟨⟨w3x, b3⟩, hw3⟩
  change w3 = w3x at hw3
  subst hw3
  clear n1
 all_goals
  clear zx6 zy6 zy2 zz6 zz2 n0
  have lX := kX.ext b3
  have lY := kY.ext b3
  have hx3 := huW.ext b3
  have hy3 := hvW.ext b3
  have hsz := Rd.sub hx3 0 y.log.length (by omega) hle
  have hsk := run_sub_to tEty (P := Tryz.prog) hx3 .i64 (y.log.length : Int) y.log.length rfl hle
  rw [List.drop_zero, Nat.sub_zero, Hfr.out] at hsz
  obtain ⟨sy, hsy⟩ : ∃ o, o = subV (.slice p x.log.length pc) 0 y.log.length 3 := ⟨_, rfl⟩
  replace hsz : Rd etyE w3 sy y.log := by rw [hsy]; exact hsz
  have hof : ∀ k, sy.ownBlock = some k → (Value.slice p x.log.length pc).ownBlock = some k := fun k hk => by
   rw [hsy] at hk
   exact subQ_own hk
  rw [← hsy] at hsk
  clear hsy
  have x6 := lX.cell 6 _ rfl
  have xf6 := lX.frozen 6
  have y6 := lY.cell 6 _ rfl
  obtain ⟨ps, cs, rfl⟩ := hsz.shape
  go_upto_region 5 with (fail)
  have cc := chg_cell s 6 (.slice ps y.log.length cs) w3
  have mX := lX.set 6 (.slice ps y.log.length cs)
  have mY := cc.blk lY (fun e => hcs.1 e.symm)
  have hb4 : Below w.heap.size w (w3.setCell ⟨s, 6, none⟩ (.slice ps y.log.length cs)) := (b2.trans (b3.mono b2.size)).setCell (p := ⟨s, 6, none⟩) hcs.2.2 _
  have hEs : y.log ≠ [] → ∀ k, (Value.slice ps y.log.length cs).ownBlock = some k → ¬ k = s := fun hne k hk e => by
   have h1 := hof k hk
   have h2 : x.log ≠ [] := fun e => hne (by rw [e] at hle; exact List.eq_nil_of_length_eq_zero (by simpa using hle))
   have h3 := Cells.lt hu0 (by rw [etyE.all_length]; exact Nat.mul_pos (List.length_pos_iff.2 h2) (by decide)) k h1
   have := HN.out; omega
  have hEy : y.log ≠ [] → ∀ k, (Value.slice q y.log.length qc).ownBlock = some k → ¬ k = s := fun hne k hk e => by
   have h3 := Cells.lt hv0 (by rw [etyE.all_length]; exact Nat.mul_pos (List.length_pos_iff.2 hne) (by decide)) k hk
   have := HN.out; omega
  have rx4 : Rd etyE (w3.setCell ⟨s, 6, none⟩ (.slice ps y.log.length cs)) (.slice ps y.log.length cs) y.log := cc.cellsE etyE.pos hsz fun hne => hEs fun e => hne (by rw [e]; rfl)
  have ry4 : Rd etyE (w3.setCell ⟨s, 6, none⟩ (.slice ps y.log.length cs)) (.slice q y.log.length qc) y.log := cc.cellsE etyE.pos hy3 fun hne => hEy fun e => hne (by rw [e]; rfl)
  clear cc x6 xf6 y6 hsk hsz hx3 hy3 lX lY hEs hEy hof b3
  generalize w3.setCell ⟨s, 6, none⟩ (.slice ps y.log.length cs) = w4 at *
  have hS := refSame ({ x with log := y.log } : Hrd) y (.slice ps y.log.length cs) (.slice q y.log.length qc) rx4 ry4
  rw [decide_eq_true Hsm.out] at hS
  have HS := Lib.hid hS
  clear hS rx4 ry4
  have gx0 := mX.cell 0 _ rfl
  have gx1 := mX.cell 1 _ rfl
  have gx2 := mX.cell 2 _ rfl
  have gx3 := mX.cell 3 _ rfl
  have gx4 := mX.cell 4 _ rfl
  have gx5 := mX.cell 5 _ rfl
  have gx6 := mX.cell 6 _ rfl
  have gy0 := mY.cell 0 _ rfl
  have gy1 := mY.cell 1 _ rfl
  have gy2 := mY.cell 2 _ rfl
  have gy3 := mY.cell 3 _ rfl
  have gy4 := mY.cell 4 _ rfl
  have gy5 := mY.cell 5 _ rfl
  have gy6 := mY.cell 6 _ rfl
  go_wp2_with fail
  refine HS.out.mono ?_
  rintro e w5 ⟨rfl, b5⟩
  go_wp2_with fail
  go_ret
  exact ⟨rfl, hb4.trans (b5.mono hb4.size)⟩
end Go.Proofs.YtgpgcnmnfnnkjaaGreatDoor
end

section
namespace Go.Proofs.YtgpgcnmnfnnkjaaGreatDoor
open Go Go.RowKit Go.PlainAid BigFrame
attribute [local go_sem] After.same
theorem run_hardSnap (a b c d e : Int) (s : ByteArray) (p : Option Addr) (n k : Nat) (w : World) : (Instr.field 24 (.agg #[.int .i64 a, .int .i64 b, .int .i64 c, .int .i64 d, .int .i64 e, .string s, .slice p n k]) 5).run Tryz.prog w = .ok (.string s) w := by kernel_rfl
set_option maxRecDepth 8000 in
set_option maxHeartbeats 8000000 in
theorem storeRuns_walk (w : World) (T : TabW w) : Calls Tryz.prog 35 #[] w fun e w' => e = .returned (.bool true) ∧ Below w.heap.size w w' := by
 obtain ⟨w0, hw0⟩ : ∃ w0, w0 = w := ⟨_, rfl⟩
 rw [← hw0] at T ⊢
 clear hw0
 have T0 : ∀ z, Below w0.heap.size w0 z → TabW z := Lib.tabBelow_of_tabIs T
 have Tn := Lib.hid T0
 clear T T0
 go_enter Tryz.func35, Tryz.ntmps35
 go_wp2_with fail
 refine (lNew w0 w0 (Nat.le_refl _) noX (fun _ h => h.elim)).mono ?_
 rintro e w1 ⟨rfl, d1, b1⟩
 generalize w0.heap.size = G at d1
 go_wp2_with fail
 refine (stoOpen Tn.out d1 b1 PInv.zero (by omega) tp0).mono ?_
 rintro e w2 ⟨⟨gs, gw, v2, X2, rfl, hgs, hgw, hx2, -, d2, s2, -⟩, -, c2⟩
 have b2 := b1.trans (c2.gx d1.size)
 have hgw0 : w0.heap.size ≤ gw := Nat.le_trans d1.size hgw
 have hgs0 : w0.heap.size ≤ gs := Nat.le_trans d1.size hgs
 clear c2 d1 b1 hx2 hgw hgs
 go_wp2_with fail
 refine (stoSave Tn.out d2 b2 hgw0 hgs0 PInv.zero (by omega) s2 hp1 (.slice none 0 0) (Rd.nil _) (fun h => absurd rfl h) (fun h => absurd rfl h) tp1e).mono ?_
 rintro e w3 ⟨rfl, X3, v3, hx3, -, d3, s3, c3, -⟩
 have b3 := b2.trans (c3.gsB b2.size hgw0 hgs0)
 clear c3 d2 b2 s2 hx3
 have hn := lNames d3 (pp1.ok (by omega))
 rw [tp1n] at hn
 go_wp2_with fail
 refine hn.mono ?_
 rintro e w4 ⟨⟨r4, rfl, own4⟩, c4⟩
 obtain ⟨p4, k4, rfl⟩ := own4.rd.shape
 obtain ⟨X4, hX4⟩ : ∃ X4 : Nat → Prop, X4 = fun k => X3 k ∨ (Value.slice p4 [sP3, sW1].length k4).ownBlock = some k := ⟨_, rfl⟩
 have d4 : DwS w0 X4 G sp1.2.2 w4 := by rw [hX4]; exact d3.more c4 (fun k hk => hk.imp id (fun e => ⟨(own4.lt k e).1, (own4.lt k e).2⟩))
 have hx4 : ∀ k, X3 k → X4 k := fun k hk => by rw [hX4]; exact .inl hk
 have hx4n : ∀ k, (Value.slice p4 [sP3, sW1].length k4).ownBlock = some k → X4 k := fun k hk => by rw [hX4]; exact .inr hk
 have s4 := (s3.ext c4).mono hx4
 have b4 := b3.trans (c4.mono b3.size)
 have r4 := own4.rd
 have hg3 := s3.blk.lt
 have hg3w := s3.wv.blk.lt
 have hfar : ∀ k, (Value.slice p4 [sP3, sW1].length k4).ownBlock = some k → k ≠ gw ∧ k ≠ gs := fun k hk => by have := (own4.lt k hk).1; omega
 clear hn hX4 own4 c4 d3 s3 b3 hx4
 go_wp2_with fail
 refine (stoSave Tn.out d4 b4 hgw0 hgs0 pp1 (by omega) s4 hp2 (.slice none 0 0) (Rd.nil _) (fun h => absurd rfl h) (fun h => absurd rfl h) tp2e).mono ?_
 rintro e w5 ⟨rfl, X5, v5, hx5, -, d5, s5, c5, -⟩
 have b5 := b4.trans (c5.gsB b4.size hgw0 hgs0)
 have r5 := c5.cells r4 (fun k hk q => by
  rcases q with q | q | q
  · exact q.2 (hx4n k hk)
  · exact (hfar k hk).1 q
  · exact (hfar k hk).2 q)
 clear c5 d4 b4 s4 r4
 go_wp2_with fail
 refine (stoOpen Tn.out d5 b5 pp2 (by omega) tp3e).mono ?_
 rintro e w6 ⟨⟨gt, gx, v6, X6, rfl, hgt, hgx, hx6, -, d6, s6, -⟩, -, c6⟩
 have b6 := b5.trans (c6.gx d5.size)
 have hgx0 : w0.heap.size ≤ gx := Nat.le_trans d5.size hgx
 have hgt0 : w0.heap.size ≤ gt := Nat.le_trans d5.size hgt
 have r6 : Rd strE w6 (.slice p4 [sP3, sW1].length k4) [sP3, sW1] := c6.cells r5 (fun k hk q => q.2 (hx5 k (hx4n k hk)))
 clear c6 d5 b5 s5 r5 hx6 hx5 hx4n hfar
 have a6 := below_alloc w6 (.cells #[.string sP3, .string sW1] 9)
 have l6 : Rd strE (w6.alloc (.cells #[.string sP3, .string sW1] 9)) (.slice (some ⟨w6.heap.size, 0, none⟩) 2 2) [sP3, sW1] := (OwnR.litAt strE w6 #[.string sP3, .string sW1] 9 [sP3, sW1] 2 0 w6.heap.size rfl rfl rfl (by unfold maxLen; omega) (Nat.zero_le _)).rd
 have hsm := sameStrs _ _ _ _ (r6.ext a6) l6
 have d6a := d6.ext a6
 have s6a := s6.ext a6
 have b6a := b6.trans (a6.mono b6.size)
 clear r6 l6 d6 s6 b6 a6
 go_wp2_with fail
 refine hsm.mono ?_
 rintro e w7 ⟨rfl, nn, hw⟩
 have bd : Below (w6.alloc (.cells #[.string sP3, .string sW1] 9)).heap.size (w6.alloc (.cells #[.string sP3, .string sW1] 9)) w7 := by rw [hw]; exact below_drawn _ _ _
 have d7 := d6a.ext bd
 have s7 := s6a.ext bd
 have b7 := b6a.trans (bd.mono b6a.size)
 clear hsm hw bd d6a s6a b6a nn
 have hh : Calls Tryz.prog 33 #[.pointer (some ⟨gt, 0, none⟩)] w7 fun e w' => ∃ v', e = .returned (.agg #[.int .i64 1, .int .i64 0, .int .i64 5, .int .i64 1, .int .i64 7, .string ⟨#[100, 101]⟩, v']) ∧ OwnR etyE w' w7.heap.size 73 v' [] ∧ Below w7.heap.size w7 w' := stoHard s7
 go_wp2_with fail
 refine hh.mono ?_
 rintro e w8 ⟨v8, rfl, own8, b8⟩
 obtain ⟨p8, k8, rfl⟩ := own8.rd.shape
 have d8 := d7.ext b8
 have s8 := s7.ext b8
 have b8' := b7.trans (b8.mono b7.size)
 have hfd := fun w => run_hardSnap 1 0 5 1 7 ⟨#[100, 101]⟩ p8 0 k8 w
 have hsn : (⟨#[100, 101]⟩ : ByteArray).toList = [100, 101] := by rw [ByteArray.toList_eq]
 clear b8 d7 s7 b7 own8 hh
 have hn := lNames d8 (pp3.ok (by omega))
 rw [tp3n] at hn
 go_wp2_with fail
 refine hn.mono ?_
 rintro e w9 ⟨⟨r9, rfl, own9⟩, c9⟩
 have d9 := d8.ext c9
 have s9 := s8.ext c9
 have b9 := b8'.trans (c9.mono b8'.size)
 have a9 := below_alloc w9 (.cells #[.string sP5, .string sW2] 9)
 have l9 : Rd strE (w9.alloc (.cells #[.string sP5, .string sW2] 9)) (.slice (some ⟨w9.heap.size, 0, none⟩) 2 2) [sP5, sW2] := (OwnR.litAt strE w9 #[.string sP5, .string sW2] 9 [sP5, sW2] 2 0 w9.heap.size rfl rfl rfl (by unfold maxLen; omega) (Nat.zero_le _)).rd
 have hsm := sameStrs _ _ _ _ (own9.rd.ext a9) l9
 have d9a := d9.ext a9
 have s9a := s9.ext a9
 have b9a := b9.trans (a9.mono b9.size)
 clear own9 l9 d9 s9 b9 a9 d8 s8 b8' c9 hn hsn
 go_wp2_with fail
 refine hsm.mono ?_
 rintro e w10 ⟨rfl, nn, hw⟩
 have bd : Below (w9.alloc (.cells #[.string sP5, .string sW2] 9)).heap.size (w9.alloc (.cells #[.string sP5, .string sW2] 9)) w10 := by rw [hw]; exact below_drawn _ _ _
 have d10 := d9a.ext bd
 have s10 := s9a.ext bd
 have b10 := b9a.trans (bd.mono b9a.size)
 clear hsm hw bd d9a s9a b9a nn
 go_wp2_with fail
 refine (stoSave Tn.out d10 b10 hgx0 hgt0 pp3 (by omega) s10 hp3 (.slice none 0 0) (Rd.nil _) (fun h => absurd rfl h) (fun h => absurd rfl h) tp4e).mono ?_
 rintro e w11 ⟨rfl, X11, v11, hx11, -, d11, s11, c11, -⟩
 have b11 := b10.trans (c11.gsB b10.size hgx0 hgt0)
 clear c11 d10 b10 s10 s11 hx11
 go_wp2_with fail
 refine (lRemove d11 (pp4.ok (by omega)) tp5e).mono ?_
 rintro e w12 ⟨rfl, d12, c12⟩
 have b12 := b11.trans (c12.gx b11.size)
 clear c12 d11 b11
 go_wp2_with fail
 refine (stoOpen Tn.out d12 b12 pp5 (by omega) tp6e).mono ?_
 rintro e w13 ⟨⟨-, rfl⟩, d13, c13⟩
 have b13 := b12.trans (c13.gx d12.size)
 clear c13 d12 b12
 go_wp2_with fail
 refine (stoOpenNil w13).mono ?_
 rintro e w14 ⟨rfl, rfl⟩
 go_wp2_with fail
 go_ret
 exact ⟨rfl, b13⟩
end Go.Proofs.YtgpgcnmnfnnkjaaGreatDoor
end
