/- Walks: invoice.whole, Total. -/
import Derived.Test.YtpobhlnlnplbdaaInvA
import Derived.Deep.RegionWith
import Derived.Deep.RegionHeld3
namespace Go.Proofs.Ytpobhlnlnplbdaa
open Go Go.RowKit BigFrame

theorem wholeTo_step {s t : Int} {done r : List Part} {p : Part} {x : Int} (h : taxV p.net p.bp = .ok x) (h1 : Mon.fits (s + p.net)) (h2 : Mon.fits (t + x)) : wholeTo s t done (p :: r) = wholeTo (s + p.net) (t + x) (done ++ [⟨p.cat, p.bp, p.net, x⟩]) r := by
  rw [wholeTo, h]; simp only; rw [if_pos h1, if_pos h2]
theorem wholeTo_tax {s t : Int} {done r : List Part} {p : Part} {e : Int} (h : taxV p.net p.bp = .error e) : wholeTo s t done (p :: r) = .error 7 := by
  rw [wholeTo, h]
theorem wholeTo_net {s t : Int} {done r : List Part} {p : Part} (h1 : ¬ Mon.fits (s + p.net)) : wholeTo s t done (p :: r) = .error 7 := by
  rw [wholeTo]; cases taxV p.net p.bp with
  | error e => rfl
  | ok x => simp only; rw [if_neg h1]
theorem wholeTo_sum {s t : Int} {done r : List Part} {p : Part} {x : Int} (h : taxV p.net p.bp = .ok x) (h2 : ¬ Mon.fits (t + x)) : wholeTo s t done (p :: r) = .error 7 := by
  rw [wholeTo, h]; simp only; split <;> first | rfl | (rw [if_neg h2])
theorem wholeTo_end {s t : Int} {done : List Part} : wholeTo s t done [] = if Mon.fits (s + t) then .ok ⟨s, t, s + t, done⟩ else .error 7 := rfl
theorem taxAE_ok {n bp x : Int} (h : taxV n bp = .ok x) : taxA n bp = x ∧ taxE n bp = 0 := by unfold taxA taxE; rw [h]; exact ⟨rfl, rfl⟩
theorem taxV_cases {n bp : Int} (hb : 0 ≤ bp ∧ bp ≤ 100000) : (taxV n bp = .error 7 ∧ taxA n bp = 0 ∧ taxE n bp = 7) ∨ ∃ x, taxV n bp = .ok x ∧ taxA n bp = x ∧ taxE n bp = 0 ∧ Mon.fits x := by
  have hn : ¬ (bp < 0 ∨ 100000 < bp) := by omega
  have h0 : 0 ≤ taxN n bp := by unfold taxN; have := Int.mul_nonneg (a := (n.natAbs : Int)) (b := bp) (by omega) hb.1; omega
  by_cases h : taxN n bp ≤ 9223372036854775807
  · refine .inr ⟨_, tax_ok hn h, (taxAE_ok (tax_ok hn h)).1, (taxAE_ok (tax_ok hn h)).2, ?_⟩
    unfold Mon.fits; split <;> omega
  · have e := tax_over hn (by omega : 9223372036854775807 < taxN n bp)
    exact .inl ⟨e, by unfold taxA; rw [e], by unfold taxE; rw [e]⟩
theorem set_done {done r : List Part} {p y : Part} {k : Nat} (h : done.length = k) : (done ++ p :: r).set k y = done ++ y :: r := by
  rw [List.set_append_right _ _ (by omega), h, Nat.sub_self]; rfl

theorem ne_beq {a : Int} (h : a ≠ 0) : (a == 0) = false := by simpa using h
theorem ne_bne {a : Int} (h : a ≠ 0) : (a != 0) = true := by simpa using h
theorem Blk.setGrown {w : World} {g : Nat} {cs : Array Value} {t : TypeId} (h : Blk w g cs t) (i : Nat) (v : Value) : w.grownBy (w.setCell ⟨g, i, none⟩ v) (some g) := by
  unfold Blk at h; rw [setCell_eq_setRow w g i cs t (0, 0) v h]; exact grown_setRow w g _

set_option maxHeartbeats 8000000 in
set_option maxRecDepth 100000 in
theorem invWhole (B : Nat) (v : Value) (ps : List Part) (w : World) (own : OwnR partE w B 64 v ps) (hB : B ≤ w.heap.size) (hg : GoodP ps) (hl : ps.length ≤ 1000) :
    Calls Try.prog 57 #[v] w fun e w' => TellsTot w' B (wholeTo 0 0 [] ps) e ∧ Below B w w' := by
  obtain ⟨w0, hw0⟩ : ∃ w0, w0 = w := ⟨_, rfl⟩
  rw [← hw0] at own hB ⊢
  clear hw0
  have Hg := Lib.hid hg
  clear hg
  have hb1 := below_alloc w0 (.cells #[.int .i64 0, .int .i64 0, .int .i64 0, .slice none 0 0] 56)
  have kr0 := Blk.new w0 #[.int .i64 0, .int .i64 0, .int .i64 0, .slice none 0 0] 56
  have hb2 := below_alloc (w0.alloc (.cells #[.int .i64 0, .int .i64 0, .int .i64 0, .slice none 0 0] 56)) (.cells #[.int .i64 0, .int .i64 0, .int .i64 0, v] 56)
  have kt := Blk.new (w0.alloc (.cells #[.int .i64 0, .int .i64 0, .int .i64 0, .slice none 0 0] 56)) #[.int .i64 0, .int .i64 0, .int .i64 0, v] 56
  have kr := kr0.ext hb2
  have hbb := hb1.trans (hb2.mono hb1.size)
  have ownW := own.ext hbb
  have hs2 : (w0.alloc (.cells #[.int .i64 0, .int .i64 0, .int .i64 0, .slice none 0 0] 56)).heap.size = w0.heap.size + 1 := by simp
  rw [hs2] at kt
  have hlt := own.lt
  have Hlt := Lib.hid hlt
  have b_0 := hbb.mono hB
  obtain ⟨p, cap, rfl⟩ := own.rd.shape
  clear hb1 hb2 kr0 hs2 own hlt hbb
  go_enter Try.func57, Try.ntmps57
  go_wp2_with fail
  generalize hW : (w0.alloc (.cells #[.int .i64 0, .int .i64 0, .int .i64 0, .slice none 0 0] 56)).alloc (.cells #[.int .i64 0, .int .i64 0, .int .i64 0, .slice p ps.length cap] 56) = W at *
  clear hW
  go_loopw [16] (fun i wr => ∃ (k : Nat) (s t : Int) (done : List Part), k ≤ ps.length ∧ i = .int .i64 k ∧ OwnR partE wr B 64 (.slice p ps.length cap) (done ++ ps.drop k) ∧ Hid (done.length = k) ∧ Hid (wholeTo 0 0 [] ps = wholeTo s t done (ps.drop k)) ∧ Hid (Mon.fits s) ∧ Hid (Mon.fits t) ∧ Blk wr (w0.heap.size + 1) #[.int .i64 s, .int .i64 t, .int .i64 0, .slice p ps.length cap] 56 ∧ Blk wr w0.heap.size #[.int .i64 0, .int .i64 0, .int .i64 0, .slice none 0 0] 56 ∧ Below B w0 wr) (fun i _ => ps.length - (intOf i).toNat)
  case atStart => exact ⟨0, 0, 0, [], by omega, rfl, ownW, rfl, rfl, fits0, fits0, kt, kr, b_0⟩
  case round =>
    obtain ⟨k, s, t, done, hk, rfl, ownY, hdl, hwh, hfs, hft, kt1, kr1, hbw⟩ := hrel
    clear ownW kt kr b_0
    have hki0 : (0 : Int) ≤ (k : Int) := by omega
    by_cases hlt : k < ps.length
    · have hi : (k : Int) < (ps.length : Int) := by omega
      rw [List.drop_eq_getElem_cons hlt] at ownY hwh
      have hgp := And.intro (Hg.out.fit _ (List.getElem_mem hlt)) (Hg.out.bps _ (List.getElem_mem hlt))
      have hlen : Hid (ps.length = (done ++ ps[k] :: ps.drop (k + 1)).length) := by show _ = _; have := hdl.out; simp; omega
      have hkl : k < (done ++ ps[k] :: ps.drop (k + 1)).length := by have := hdl.out; simp; omega
      have hel : (done ++ ps[k] :: ps.drop (k + 1))[k]'hkl = ps[k] := by rw [List.getElem_append_right (by have := hdl.out; omega)]; simp [hdl.out]
      obtain ⟨g, cp, hsh, e1, e2, e3, e4⟩ := ownY.head (by omega)
      rw [← hlen.out] at hsh e3
      simp only [Value.slice.injEq, true_and] at hsh
      obtain ⟨rfl, rfl⟩ := hsh
      unfold maxLen at e4
      have c1 := ownY.cellAt hlen.out k hkl 1 (by decide)
      have c2 := ownY.cellAt hlen.out k hkl 2 (by decide)
      have c3 := ownY.cellAt hlen.out k hkl 3 (by decide)
      have f3 := ownY.frozenAt hlen.out (k * 4 + 3)
      rw [hel] at c1 c2 c3
      obtain ⟨q, hq⟩ : ∃ q, ps[k] = q := ⟨_, rfl⟩
      rw [hq] at c1 c2 c3 hgp
      simp only [partE, List.getElem?_cons_zero, List.getElem?_cons_succ] at c1 c2 c3
      have t0 := kt1.cell 0 _ rfl
      have t1 := kt1.cell 1 _ rfl
      have ft0 := kt1.frozen 0
      have ft1 := kt1.frozen 1
      have Hq := Lib.hid hq
      have hne : ¬ g = w0.heap.size + 1 := by
        have := (Hlt.out g rfl).2; omega
      have hne2 : ¬ w0.heap.size + 1 = g := fun e => hne e.symm
      obtain ⟨hqf, hqb⟩ := hgp
      have htax := fun w => rateTax q.net q.bp w hqf (by omega) (by omega)
      clear hq hel hkl
      go_wp2_with fail
      go_region_held3 (fun w' => w'.cell? ⟨g, k * 4 + 1, none⟩ = some (.int .i64 q.bp) ∧ w'.cell? ⟨g, k * 4 + 2, none⟩ = some (.int .i64 q.net)) (first | go_keep | (exact ⟨(World.cell?_setCell_other _ ⟨g, k * 4 + 3, none⟩ ⟨g, k * 4 + 1, none⟩ _ (by simp)).trans c1, (World.cell?_setCell_other _ ⟨g, k * 4 + 3, none⟩ ⟨g, k * 4 + 2, none⟩ _ (by simp)).trans c2⟩)) (first | (go_at_call 75; (with_reducible refine (htax _).mono ?_); rintro e w' ⟨rfl, m, rfl⟩))
      obtain ⟨x, hx⟩ : ∃ x, x = taxA q.net q.bp := ⟨_, rfl⟩
      obtain ⟨e, he⟩ : ∃ e, e = taxE q.net q.bp := ⟨_, rfl⟩
      rw [← hx, ← he]
      have Hx := Lib.hid hx
      have He := Lib.hid he
      obtain ⟨ownT, grT⟩ := (ownY.drewN (1 + m)).stored hlen.out k (by rw [← hlen.out]; exact hlt) 3 (by decide) (.int .i64 x) rfl ⟨q.cat, q.bp, q.net, x⟩ (by rw [show (done ++ ps[k] :: ps.drop (k + 1))[k]'(by rw [← hlen.out]; exact hlt) = q from by rw [← Hq.out, List.getElem_append_right (by have := hdl.out; omega)]; simp [hdl.out]]; rfl)
      rw [set_done hdl.out] at ownT
      have grT2 := grown_from_drewN grT
      rw [show partE.sz = 4 from rfl] at ownT grT grT2
      generalize hw7 : (wr.drewN (1 + m)).setCell ⟨g, k * 4 + 3, none⟩ (.int .i64 x) = w7 at *
      clear hw7 grT
      have kt7 := kt1.grown grT2 (by simpa using hne)
      have kr7 := kr1.grown grT2 (by have := (Hlt.out g rfl).2; simp; omega)
      have hb7 := hbw.trans (below_grown grT2 (by have := hbw.size; omega) (fun j h => by cases h; exact e1))
      have hlen7 : Hid (ps.length = (done ++ ⟨q.cat, q.bp, q.net, x⟩ :: ps.drop (k + 1)).length) := by show _ = _; have := hdl.out; simp; omega
      have d2 := ownT.cellAt hlen7.out k (by rw [← hlen7.out]; exact hlt) 2 (by decide)
      have d3 := ownT.cellAt hlen7.out k (by rw [← hlen7.out]; exact hlt) 3 (by decide)
      rw [show (done ++ (⟨q.cat, q.bp, q.net, x⟩ : Part) :: ps.drop (k + 1))[k]'(by rw [← hlen7.out]; exact hlt) = ⟨q.cat, q.bp, q.net, x⟩ from by rw [List.getElem_append_right (by have := hdl.out; omega)]; simp [hdl.out]] at d2 d3
      simp only [partE, List.getElem?_cons_zero, List.getElem?_cons_succ] at d2 d3
      have z0 := kt7.cell 0 _ rfl
      have z1 := kt7.cell 1 _ rfl
      have fz0 := kt7.frozen 0
      have fz1 := kt7.frozen 1
      obtain ⟨a, ha⟩ : ∃ a, a = Mon.val (s + q.net) := ⟨_, rfl⟩
      obtain ⟨f, hf⟩ : ∃ f, f = Mon.err (s + q.net) := ⟨_, rfl⟩
      obtain ⟨b, hb⟩ : ∃ b, b = Mon.val (t + x) := ⟨_, rfl⟩
      obtain ⟨h, hh⟩ : ∃ h, h = Mon.err (t + x) := ⟨_, rfl⟩
      have hxf : Mon.fits x := by
        rw [hx]; rcases taxV_cases (n := q.net) hqb with ⟨_, h, _⟩ | ⟨y, _, h, _, hy⟩
        · rw [h]; exact fits0
        · rw [h]; exact hy
      have hadd : ∀ w, Calls Try.prog 74 #[.int .i64 s, .int .i64 q.net] w fun e' w' => e' = .returned (.tuple #[.int .i64 a, .int .i64 f]) ∧ w = w' := fun w => by rw [ha, hf]; exact moneyAdd s q.net w hfs.out hqf
      have hadd2 : ∀ w, Calls Try.prog 74 #[.int .i64 t, .int .i64 x] w fun e' w' => e' = .returned (.tuple #[.int .i64 b, .int .i64 h]) ∧ w = w' := fun w => by rw [hb, hh]; exact moneyAdd t x w hft.out hxf
      have Hadd2 := Lib.hid hadd2
      have Ha := Lib.hid ha
      have Hf := Lib.hid hf
      have Hb := Lib.hid hb
      have Hh := Lib.hid hh
      clear ha hf hb hh hadd2
      clear hx he htax c1 c2 c3 f3 t0 t1 ft0 ft1 kt1 kr1 grT2 ownY
      go_wp2_with fail
      go_region_with (first | (go_at_call 74; (with_reducible refine (hadd _).mono ?_); rintro e w' ⟨rfl, rfl⟩))
      all_goals
        have kt8 : Blk ((w7.setCell ⟨w0.heap.size + 1, 0, none⟩ (.int .i64 a)).drew) (w0.heap.size + 1) #[.int .i64 a, .int .i64 t, .int .i64 0, .slice (some ⟨g, 0, none⟩) ps.length cap] 56 := kt7.set 0 (.int .i64 a)
        have gr8 := grown_drew (kt7.setGrown 0 (.int .i64 a))
        have own8 := ownT.grown gr8 (.inr (by simpa [Value.ownBlock] using hne))
        have kr8 := kr7.grown gr8 (by simp)
        have hb8 := hb7.trans (below_grown gr8 (by have := hb7.size; omega) (fun j h => by cases h; omega))
        generalize (w7.setCell ⟨w0.heap.size + 1, 0, none⟩ (.int .i64 a)).drew = w8 at *
        clear kt7 kr7 hb7 ownT gr8 d2 d3 z0 z1 fz0 fz1 hadd
        have d3 := own8.cellAt hlen7.out k (by rw [← hlen7.out]; exact hlt) 3 (by decide)
        rw [show (done ++ (⟨q.cat, q.bp, q.net, x⟩ : Part) :: ps.drop (k + 1))[k]'(by rw [← hlen7.out]; exact hlt) = ⟨q.cat, q.bp, q.net, x⟩ from by rw [List.getElem_append_right (by have := hdl.out; omega)]; simp [hdl.out]] at d3
        simp only [partE, List.getElem?_cons_zero, List.getElem?_cons_succ] at d3
        have z1 := kt8.cell 1 _ rfl
        have fz1 := kt8.frozen 1
        have hadd2 := Hadd2.out
        go_wp2_with fail
        go_region_with (first | (go_at_call 74; (with_reducible refine (hadd2 _).mono ?_); rintro e w' ⟨rfl, rfl⟩))
        all_goals
          have kt9 : Blk ((w8.setCell ⟨w0.heap.size + 1, 1, none⟩ (.int .i64 b)).drew) (w0.heap.size + 1) #[.int .i64 a, .int .i64 b, .int .i64 0, .slice (some ⟨g, 0, none⟩) ps.length cap] 56 := kt8.set 1 (.int .i64 b)
          have gr9 := grown_drew (kt8.setGrown 1 (.int .i64 b))
          have own9 := own8.grown gr9 (.inr (by simpa [Value.ownBlock] using hne))
          have kr9 := kr8.grown gr9 (by simp)
          have hb9 := hb8.trans (below_grown gr9 (by have := hb8.size; omega) (fun j h => by cases h; omega))
          generalize (w8.setCell ⟨w0.heap.size + 1, 1, none⟩ (.int .i64 b)).drew = w9 at *
          clear kt8 kr8 hb8 own8 gr9 d3 z1 fz1 hadd2
          have hstep : Hid (e = 0 → f = 0 → h = 0 → taxV q.net q.bp = .ok x ∧ Mon.fits (s + q.net) ∧ a = s + q.net ∧ Mon.fits (t + x) ∧ b = t + x) := fun he0 hf0 hh0 => by
            have h1 := he0; rw [He.out] at h1
            have h2 := hf0; rw [Hf.out] at h2
            have h3 := hh0; rw [Hh.out] at h3
            have q2 : Mon.fits (s + q.net) := by unfold Mon.err at h2; split at h2 <;> first | assumption | omega
            have q3 : Mon.fits (t + x) := by unfold Mon.err at h3; split at h3 <;> first | assumption | omega
            refine ⟨?_, q2, by rw [Ha.out]; unfold Mon.val; rw [if_pos q2], q3, by rw [Hb.out]; unfold Mon.val; rw [if_pos q3]⟩
            rcases taxV_cases (n := q.net) hqb with ⟨_, _, h⟩ | ⟨y, hy, h, _, _⟩
            · rw [h] at h1; cases h1
            · rw [hy, Hx.out, h]
          have hbad : Hid (¬ (e = 0 ∧ f = 0 ∧ h = 0) → wholeTo s t done (q :: ps.drop (k + 1)) = .error 7) := fun hn => by
            rcases taxV_cases (n := q.net) hqb with ⟨hy, _, _⟩ | ⟨y, hy, h1, h2, _⟩
            · exact wholeTo_tax hy
            · have hx2 : x = y := by rw [Hx.out, h1]
              have he2 : e = 0 := by rw [He.out, h2]
              by_cases q2 : Mon.fits (s + q.net)
              · by_cases q3 : Mon.fits (t + x)
                · exact absurd ⟨he2, by rw [Hf.out]; unfold Mon.err; rw [if_pos q2], by rw [Hh.out]; unfold Mon.err; rw [if_pos q3]⟩ hn
                · rw [hx2] at q3; exact wholeTo_sum hy q3
              · exact wholeTo_net q2
          by_cases hall : e = 0 ∧ f = 0 ∧ h = 0
          · obtain ⟨p1, p2, p3, p4, p5⟩ := hstep.out hall.1 hall.2.1 hall.2.2
            have hw2 := wholeTo_step (done := done) (r := ps.drop (k + 1)) p1 p2 p4
            obtain ⟨rfl, rfl, rfl⟩ := hall
            have Hw2 : Hid (wholeTo 0 0 [] ps = wholeTo a b (done ++ [⟨q.cat, q.bp, q.net, x⟩]) (ps.drop (k + 1))) := by show _ = _; rw [hwh.out, Hq.out, hw2, p3, p5]
            have Hfa : Hid (Mon.fits a) := by show _; rw [p3]; exact p2
            have Hfb : Hid (Mon.fits b) := by show _; rw [p5]; exact p4
            have Own9 := Lib.hid own9
            clear p1 p2 p3 p4 p5 hw2 own9
            go_wp2_with fail
            go_roundw
            case rel => exact ⟨k + 1, a, b, done ++ [⟨q.cat, q.bp, q.net, x⟩], by omega, by go_num, by rw [List.append_assoc]; exact Own9.out, by show _ = _; have := hdl.out; simp; omega, Hw2, Hfa, Hfb, kt9, kr9, hb9⟩
            case measure => simp [intOf]; omega
          · have hq7 := hbad.out hall
            have Hres : Hid (wholeTo 0 0 [] ps = .error 7) := by show _ = _; rw [hwh.out, Hq.out, hq7]
            have hthree : (e ≠ 0) ∨ (e = 0 ∧ f ≠ 0) ∨ (e = 0 ∧ f = 0 ∧ h ≠ 0) := by
              by_cases h1 : e = 0
              · by_cases h2 : f = 0
                · exact .inr (.inr ⟨h1, h2, fun h3 => hall ⟨h1, h2, h3⟩⟩)
                · exact .inr (.inl ⟨h1, h2⟩)
              · exact .inl h1
            have r0 := kr9.cell 0 _ rfl
            have r1 := kr9.cell 1 _ rfl
            have r2 := kr9.cell 2 _ rfl
            have r3 := kr9.cell 3 _ rfl
            have s0 := kr9.frozen 0
            have s1 := kr9.frozen 1
            have s2 := kr9.frozen 2
            have s3 := kr9.frozen 3
            have kf := (((kr9.set 0 (.int .i64 0)).set 1 (.int .i64 0)).set 2 (.int .i64 0)).set 3 (.slice none 0 0)
            have y0 := kf.cell 0 _ rfl
            have y1 := kf.cell 1 _ rfl
            have y2 := kf.cell 2 _ rfl
            have y3 := kf.cell 3 _ rfl
            clear hq7 hall
            rcases hthree with h1 | ⟨rfl, h1⟩ | ⟨rfl, rfl, h1⟩
            all_goals
              have n1 := ne_beq h1
              have n2 := ne_bne h1
              clear h1
              go_wp2_with fail
              refine bodyPost_ret (v := .tuple #[.agg #[.int .i64 0, .int .i64 0, .int .i64 0, .slice none 0 0], .int .i64 7]) (by simp [results, Try.results57, go_sem, y0, y1, y2, y3]) rfl ⟨by rw [Hres.out]; rfl, ?_⟩
              exact (((hb9.setCell (p := ⟨w0.heap.size, 0, none⟩) hB _).setCell (p := ⟨w0.heap.size, 1, none⟩) hB _).setCell (p := ⟨w0.heap.size, 2, none⟩) hB _).setCell (p := ⟨w0.heap.size, 3, none⟩) hB _
    · have hi : ¬ (k : Int) < (ps.length : Int) := by omega
      have hke : k = ps.length := by omega
      rw [List.drop_of_length_le (by omega)] at ownY hwh
      rw [List.append_nil] at ownY
      have hend := wholeTo_end (s := s) (t := t) (done := done)
      have hwh2 := hwh.out
      rw [hend] at hwh2
      have Hw := Lib.hid hwh2
      have z0 := kt1.cell 0 _ rfl
      have z1 := kt1.cell 1 _ rfl
      have z2 := kt1.cell 2 _ rfl
      have fz2 := kt1.frozen 2
      have hadd := fun w => moneyAdd s t w hfs.out hft.out
      have r0 := kr1.cell 0 _ rfl
      have r1 := kr1.cell 1 _ rfl
      have r2 := kr1.cell 2 _ rfl
      have r3 := kr1.cell 3 _ rfl
      have s0 := kr1.frozen 0
      have s1 := kr1.frozen 1
      have s2 := kr1.frozen 2
      have s3 := kr1.frozen 3
      clear hend hwh2 hke
      go_wp2_with fail
      with_reducible refine (hadd _).mono ?_
      rintro e w' ⟨rfl, rfl⟩
      by_cases hz : Mon.fits (s + t)
      · rw [Mon.told_ok hz]
        have hr := Hw.out
        rw [if_pos hz] at hr
        have Hr := Lib.hid hr
        have kt2 := kt1.set 2 (.int .i64 (s + t))
        have gr2 := kt1.setGrown 2 (.int .i64 (s + t))
        have own2 := ownY.grown gr2 (.inr (by intro e; have := (Hlt.out _ e).2; omega))
        have kr2 := kr1.grown gr2 (by simp)
        have hb2 := hbw.trans (below_grown gr2 (by have := hbw.size; omega) (fun j h => by cases h; omega))
        generalize s + t = z at *
        have x0 := kt2.cell 0 _ rfl
        have x1 := kt2.cell 1 _ rfl
        have x2 := kt2.cell 2 _ rfl
        have x3 := kt2.cell 3 _ rfl
        have u0 := kr2.cell 0 _ rfl
        have u1 := kr2.cell 1 _ rfl
        have u2 := kr2.cell 2 _ rfl
        have u3 := kr2.cell 3 _ rfl
        have kf := (((kr2.set 0 (.int .i64 s)).set 1 (.int .i64 t)).set 2 (.int .i64 z)).set 3 (.slice p ps.length cap)
        have gf := grown_tr (grown_tr (grown_tr (kr2.setGrown 0 (.int .i64 s)) ((kr2.set 0 (.int .i64 s)).setGrown 1 (.int .i64 t))) (((kr2.set 0 (.int .i64 s)).set 1 (.int .i64 t)).setGrown 2 (.int .i64 z))) ((((kr2.set 0 (.int .i64 s)).set 1 (.int .i64 t)).set 2 (.int .i64 z)).setGrown 3 (.slice p ps.length cap))
        have ownf := own2.grown gf (.inr (by intro e; have := (Hlt.out _ e).2; omega))
        have y0 := kf.cell 0 _ rfl
        have y1 := kf.cell 1 _ rfl
        have y2 := kf.cell 2 _ rfl
        have y3 := kf.cell 3 _ rfl
        have Ownf := Lib.hid ownf
        have hbf := hb2.trans (below_grown gf (by have := hb2.size; omega) (fun j h => by cases h; omega))
        clear hr hz hadd own2 ownf ownY z0 z1 r0 r1 r2 r3 gf kf gr2
        go_wp2_with fail
        refine bodyPost_ret (v := .tuple #[.agg #[.int .i64 s, .int .i64 t, .int .i64 z, .slice p ps.length cap], .int .i64 0]) (by simp [results, Try.results57, go_sem, y0, y1, y2, y3]) rfl ⟨by rw [Hr.out]; exact ⟨_, rfl, Ownf.out⟩, hbf⟩
      · rw [Mon.told_no hz]
        have hr := Hw.out
        rw [if_neg hz] at hr
        have Hr := Lib.hid hr
        have kf := (((kr1.set 0 (.int .i64 0)).set 1 (.int .i64 0)).set 2 (.int .i64 0)).set 3 (.slice none 0 0)
        have y0 := kf.cell 0 _ rfl
        have y1 := kf.cell 1 _ rfl
        have y2 := kf.cell 2 _ rfl
        have y3 := kf.cell 3 _ rfl
        clear hr hz hadd
        go_wp2_with fail
        refine bodyPost_ret (v := .tuple #[.agg #[.int .i64 0, .int .i64 0, .int .i64 0, .slice none 0 0], .int .i64 7]) (by simp [results, Try.results57, go_sem, y0, y1, y2, y3]) rfl ⟨by rw [Hr.out]; rfl, ?_⟩
        exact (((hbw.setCell (p := ⟨w0.heap.size, 0, none⟩) hB _).setCell (p := ⟨w0.heap.size, 1, none⟩) hB _).setCell (p := ⟨w0.heap.size, 2, none⟩) hB _).setCell (p := ⟨w0.heap.size, 3, none⟩) hB _
end Go.Proofs.Ytpobhlnlnplbdaa
