/- Walks: impostlaw16.call, alike. -/
import Derived.Test.YtklopbjlpffnbaaRfQ
import Derived.Test.YtklopbjlpffnbaaDskArms
import Derived.Test.YtklopbjlpffnbaaDskNames
import Derived.Deep.RegionHeld
namespace Go.Proofs.Ytklopbjlpffnbaa
open Go Go.RowKit BigFrame Go.PlainAid
attribute [local go_sem] After.same
set_option maxHeartbeats 400000 in
theorem sameStrs (v u : Value) (l : List ByteArray) (w : World) (hv : Rd strE w v l) (hu : Rd strE w u l) :
    Calls Try.prog 44 #[v, u] w fun e w' => e = .returned (.bool true) ∧ ∃ n, w' = w.drewN n := by
  obtain ⟨p, cap, rfl, h1, h2, h3, h4⟩ := hv.form
  obtain ⟨q, dap, rfl, g1, g2, g3, g4⟩ := hu.form
  clear hv hu h3 g3
  unfold maxLen at h2 g2
  go_enter Try.func44, Try.ntmps44
  go_wp2
  go_loopw [5] (fun i wr => ∃ k : Nat, k ≤ l.length ∧ i = .int .i64 k ∧ ∃ n, wr = w.drewN n) (fun i _ => l.length - (intOf i).toNat)
  case atStart => exact ⟨0, by omega, rfl, 0, rfl⟩
  case round =>
    obtain ⟨k, hk, rfl, n, rfl⟩ := hrel
    by_cases hlt : k < l.length
    · obtain ⟨b, off, rfl, hc⟩ := h4 (by omega)
      obtain ⟨b', off', rfl, hc'⟩ := g4 (by omega)
      have c1 : w.cell? ⟨b, off + k, none⟩ = some (.string l[k]) := by
        have h := hc k hlt 0 (by decide)
        rw [show off + (k * strE.sz + 0) = off + k from by show off + (k * 1 + 0) = _; omega] at h; exact h
      have c2 : w.cell? ⟨b', off' + k, none⟩ = some (.string l[k]) := by
        have h := hc' k hlt 0 (by decide)
        rw [show off' + (k * strE.sz + 0) = off' + k from by show off' + (k * 1 + 0) = _; omega] at h; exact h
      clear h4 g4 hc hc'
      have hi1 : (k : Int) < (l.length : Int) := by omega
      go_wp2
      go_quiet (fail)
      go_wp2
      go_roundw
      case rel => exact ⟨k + 1, by omega, by go_num, _, by first | rfl | exact World.drewN_drewN _ _ _⟩
      case measure => simp [intOf]; omega
    · go_wp2
      go_ret
      exact ⟨rfl, n, rfl⟩
theorem ints_in {w : World} {v : Value} {l : List Int} (h : Rd intsE w v l) : l ≠ [] → ∀ k, v.ownBlock = some k → k < w.heap.size := fun hn => Cells.lt h (by rw [intsE.all_length]; have h2 := List.length_pos_iff.2 hn; show 0 < l.length * 1; omega)
theorem chgX2 {w0 w w' : World} {b : Nat} {cs : Array Value} {t : TypeId} {X : Nat → Prop} (h : Blk w b cs t) (c : Chg (Gx w0 X) w w') (hx : X b) : Blk w' b cs t := c.blk h fun hG => hG.2 hx
set_option maxHeartbeats 8000000 in
set_option maxRecDepth 100000 in
theorem callT {w0 w : World} {gD gR : Nat} {d : Dk} {k : Nat} (hk : k ≤ 900) (hp : PInv k d) (h : Two w0 noX gD gR d d w) (x : AskV) (hx : AskOk w0 x) (hn : x.n ≤ 9223372036854775807) (hdl : x.data.length ≤ 300) (hb : Below w0.heap.size w0 w) :
    Calls Try.prog 25 #[.pointer (some ⟨gD, 0, none⟩), .pointer (some ⟨gR, 0, none⟩), .agg #[.int .i64 x.kind, .int .i64 x.n, .string x.name, .string x.other, .slice x.dp x.data.length x.dc, .slice x.pp x.picks.length x.pc]] w fun e w' => e = .returned (.bool true) ∧ (∃ d', PInv (k + 1) d' ∧ Two w0 noX gD gR d' d' w') ∧ Below w0.heap.size w w' := by
  have ka := Blk.new w #[.int .i64 x.kind, .int .i64 x.n, .string x.name, .string x.other, .slice x.dp x.data.length x.dc, .slice x.pp x.picks.length x.pc] 46
  have ha := h.alloc (.cells #[.int .i64 x.kind, .int .i64 x.n, .string x.name, .string x.other, .slice x.dp x.data.length x.dc, .slice x.pp x.picks.length x.pc] 46)
  have ba := below_alloc w (.cells #[.int .i64 x.kind, .int .i64 x.n, .string x.name, .string x.other, .slice x.dp x.data.length x.dc, .slice x.pp x.picks.length x.pc] 46)
  have hs := h.size
  have Hx := Lib.hid hx
  have Hp := Lib.hid hp
  have Hn := Lib.hid hn
  have hok := Lib.hid (hp.ok (by omega))
  clear h hx hp hn
  go_enter Try.func25, Try.ntmps25
  go_upto_region 1 with (fail)
  generalize hwa : w.alloc (.cells #[.int .i64 x.kind, .int .i64 x.n, .string x.name, .string x.other, .slice x.dp x.data.length x.dc, .slice x.pp x.picks.length x.pc] 46) = wa at *
  obtain ⟨gX, hgX⟩ : ∃ gX, gX = w.heap.size := ⟨_, rfl⟩
  rw [← hgX] at ka ha ⊢
  have b0 : Below w0.heap.size w wa := ba.mono hs
  have hb2 := hb.trans b0
  have a0 := ka.cell 0 _ rfl
  clear hwa hgX ba hb hs
  go_upto_block 0 with (fail)
  by_cases h1 : x.kind = 1
  · have h1b : (x.kind == 1) = true := by simpa using h1
    clear h1
    obtain ⟨E, d2, hE⟩ : ∃ E d2, appendD d x.name x.data = (E, d2) := ⟨_, _, rfl⟩
    have hi2 := Hp.out.append x.name x.data
    rw [hE] at hi2
    have Hi2 := Lib.hid hi2
    have HE := Lib.hid hE
    clear hE hi2
    have a2 := ka.cell 2 _ rfl
    have a4 := ka.cell 4 _ rfl
    go_wp2_with fail
    go_region_held3 (fun w' => w'.cell? ⟨gX, 2, none⟩ = some (.string x.name) ∧ w'.cell? ⟨gX, 4, none⟩ = some (.slice x.dp x.data.length x.dc)) (go_keep)
      (first
        | (go_at_call 12; refine (tAppendD (ha.ext (below_drew _ _)) hok.out Hx.out.name (by omega) (Hx.out.data.ext (hb2.trans (below_drew _ _))) (fun hne q hq => bytes_in Hx.out.data hne q hq) HE.out).mono ?_; rintro e w1 ⟨rfl, t1, c1⟩; (have k1 := chgX2 (ka.drew) c1 (.inr rfl)); (have q2 := k1.cell 2 _ rfl); (have q4 := k1.cell 4 _ rfl); (have s1 := c1.gx (ha.ext (below_drew _ _)).size); clear ka)
        | (go_at_call 36; refine (tAppendR t1 hok.out Hx.out.name (by omega) (Hx.out.data.ext ((hb2.trans (below_drew _ _)).trans s1)) (fun hne q hq => bytes_in Hx.out.data hne q hq) HE.out).mono ?_; rintro e w2 ⟨rfl, t2, c2⟩; (have k2 := chgX2 k1 c2 (.inr rfl)); (have z2 := k2.cell 2 _ rfl); (have z4 := k2.cell 4 _ rfl); (have s2 := c2.gx t1.size); clear k1 t1))
    all_goals
      have bf : Below w0.heap.size w w2 := (b0.trans ((below_drew _ _).trans s1)).trans s2
      have tf : Two w0 noX gD gR d2 d2 w2 := t2.mono fun _ h => h.elim
      clear c1 c2 s1 s2 t2
      go_wp2_with fail
      go_ret
      exact ⟨rfl, ⟨d2, Hi2.out, tf⟩, bf⟩
  · have h1b : (x.kind == 1) = false := by simpa using h1
    clear h1
    by_cases h2 : x.kind = 2
    · have h2b : (x.kind == 2) = true := by simpa using h2
      clear h2
      obtain ⟨E, d2, hE⟩ : ∃ E d2, syncD d x.name = (E, d2) := ⟨_, _, rfl⟩
      have hi2 := Hp.out.sync x.name
      rw [hE] at hi2
      have Hi2 := Lib.hid hi2
      have HE := Lib.hid hE
      clear hE hi2
      have a2 := ka.cell 2 _ rfl
      go_wp2_with fail
      go_region_held3 (fun w' => w'.cell? ⟨gX, 2, none⟩ = some (.string x.name)) (go_keep)
        (first
          | (go_at_call 15; refine (tSyncD (ha.ext (below_drew _ _)) hok.out  HE.out).mono ?_; rintro e w1 ⟨rfl, t1, c1⟩; (have k1 := chgX2 (ka.drew) c1 (.inr rfl)); (have q2 := k1.cell 2 _ rfl); (have s1 := c1.gx (ha.ext (below_drew _ _)).size); clear ka)
          | (go_at_call 37; refine (tSyncR t1 hok.out  HE.out).mono ?_; rintro e w2 ⟨rfl, t2, c2⟩; (have k2 := chgX2 k1 c2 (.inr rfl)); (have z2 := k2.cell 2 _ rfl); (have s2 := c2.gx t1.size); clear k1 t1))
      all_goals
        have bf : Below w0.heap.size w w2 := (b0.trans ((below_drew _ _).trans s1)).trans s2
        have tf : Two w0 noX gD gR d2 d2 w2 := t2.mono fun _ h => h.elim
        clear c1 c2 s1 s2 t2
        go_wp2_with fail
        go_ret
        exact ⟨rfl, ⟨d2, Hi2.out, tf⟩, bf⟩
    · have h2b : (x.kind == 2) = false := by simpa using h2
      clear h2
      by_cases h3 : x.kind = 3
      · have h3b : (x.kind == 3) = true := by simpa using h3
        clear h3
        obtain ⟨E, d2, hE⟩ : ∃ E d2, cutD d x.name x.n = (E, d2) := ⟨_, _, rfl⟩
        have hi2 := Hp.out.cut x.name x.n
        rw [hE] at hi2
        have Hi2 := Lib.hid hi2
        have HE := Lib.hid hE
        clear hE hi2
        have a2 := ka.cell 2 _ rfl
        have a1 := ka.cell 1 _ rfl
        go_wp2_with fail
        go_region_held3 (fun w' => w'.cell? ⟨gX, 2, none⟩ = some (.string x.name) ∧ w'.cell? ⟨gX, 1, none⟩ = some (.int .i64 x.n)) (go_keep)
          (first
            | (go_at_call 14; refine (tCutD (ha.ext (below_drew _ _)) hok.out  HE.out).mono ?_; rintro e w1 ⟨rfl, t1, c1⟩; (have k1 := chgX2 (ka.drew) c1 (.inr rfl)); (have q2 := k1.cell 2 _ rfl); (have q1 := k1.cell 1 _ rfl); (have s1 := c1.gx (ha.ext (below_drew _ _)).size); clear ka)
            | (go_at_call 38; refine (tCutR t1 hok.out  HE.out).mono ?_; rintro e w2 ⟨rfl, t2, c2⟩; (have k2 := chgX2 k1 c2 (.inr rfl)); (have z2 := k2.cell 2 _ rfl); (have z1 := k2.cell 1 _ rfl); (have s2 := c2.gx t1.size); clear k1 t1))
        all_goals
          have bf : Below w0.heap.size w w2 := (b0.trans ((below_drew _ _).trans s1)).trans s2
          have tf : Two w0 noX gD gR d2 d2 w2 := t2.mono fun _ h => h.elim
          clear c1 c2 s1 s2 t2
          go_wp2_with fail
          go_ret
          exact ⟨rfl, ⟨d2, Hi2.out, tf⟩, bf⟩
      · have h3b : (x.kind == 3) = false := by simpa using h3
        clear h3
        by_cases h4 : x.kind = 4
        · have h4b : (x.kind == 4) = true := by simpa using h4
          clear h4
          obtain ⟨E, d2, hE⟩ : ∃ E d2, renameD d x.name x.other = (E, d2) := ⟨_, _, rfl⟩
          have hi2 := Hp.out.rename x.name x.other
          rw [renameR_eq Hp.out.l.sort] at hi2
          rw [hE] at hi2
          have Hi2 := Lib.hid hi2
          have HE := Lib.hid hE
          clear hE hi2
          have HE2 : Hid (renameR d x.name x.other = (E, d2)) := by show _ = _; rw [renameR_eq Hp.out.l.sort]; exact HE.out
          have a2 := ka.cell 2 _ rfl
          have a3 := ka.cell 3 _ rfl
          go_wp2_with fail
          go_region_held3 (fun w' => w'.cell? ⟨gX, 2, none⟩ = some (.string x.name) ∧ w'.cell? ⟨gX, 3, none⟩ = some (.string x.other)) (go_keep)
            (first
              | (go_at_call 13; refine (tRenameD (ha.ext (below_drew _ _)) hok.out Hx.out.other HE.out).mono ?_; rintro e w1 ⟨rfl, t1, c1⟩; (have k1 := chgX2 (ka.drew) c1 (.inr rfl)); (have q2 := k1.cell 2 _ rfl); (have q3 := k1.cell 3 _ rfl); (have s1 := c1.gx (ha.ext (below_drew _ _)).size); clear ka)
              | (go_at_call 39; refine (tRenameR t1 hok.out Hx.out.other HE2.out).mono ?_; rintro e w2 ⟨rfl, t2, c2⟩; (have k2 := chgX2 k1 c2 (.inr rfl)); (have z2 := k2.cell 2 _ rfl); (have z3 := k2.cell 3 _ rfl); (have s2 := c2.gx t1.size); clear k1 t1))
          all_goals
            have bf : Below w0.heap.size w w2 := (b0.trans ((below_drew _ _).trans s1)).trans s2
            have tf : Two w0 noX gD gR d2 d2 w2 := t2.mono fun _ h => h.elim
            clear c1 c2 s1 s2 t2
            go_wp2_with fail
            go_ret
            exact ⟨rfl, ⟨d2, Hi2.out, tf⟩, bf⟩
        · have h4b : (x.kind == 4) = false := by simpa using h4
          clear h4
          by_cases h5 : x.kind = 5
          · have h5b : (x.kind == 5) = true := by simpa using h5
            clear h5
            obtain ⟨E, d2, hE⟩ : ∃ E d2, removeD d x.name = (E, d2) := ⟨_, _, rfl⟩
            have hi2 := Hp.out.remove x.name
            rw [hE] at hi2
            have Hi2 := Lib.hid hi2
            have HE := Lib.hid hE
            clear hE hi2
            have a2 := ka.cell 2 _ rfl
            go_wp2_with fail
            go_region_held3 (fun w' => w'.cell? ⟨gX, 2, none⟩ = some (.string x.name)) (go_keep)
              (first
                | (go_at_call 23; refine (tRemoveD (ha.ext (below_drew _ _)) hok.out  HE.out).mono ?_; rintro e w1 ⟨rfl, t1, c1⟩; (have k1 := chgX2 (ka.drew) c1 (.inr rfl)); (have q2 := k1.cell 2 _ rfl); (have s1 := c1.gx (ha.ext (below_drew _ _)).size); clear ka)
                | (go_at_call 40; refine (tRemoveR t1 hok.out  HE.out).mono ?_; rintro e w2 ⟨rfl, t2, c2⟩; (have k2 := chgX2 k1 c2 (.inr rfl)); (have z2 := k2.cell 2 _ rfl); (have s2 := c2.gx t1.size); clear k1 t1))
            all_goals
              have bf : Below w0.heap.size w w2 := (b0.trans ((below_drew _ _).trans s1)).trans s2
              have tf : Two w0 noX gD gR d2 d2 w2 := t2.mono fun _ h => h.elim
              clear c1 c2 s1 s2 t2
              go_wp2_with fail
              go_ret
              exact ⟨rfl, ⟨d2, Hi2.out, tf⟩, bf⟩
          · have h5b : (x.kind == 5) = false := by simpa using h5
            clear h5
            by_cases h6 : x.kind = 6
            · have h6b : (x.kind == 6) = true := by simpa using h6
              clear h6
              have a1 := ka.cell 1 _ rfl
              have hi2 := Lib.hid (Hp.out.arm Hn.out)
              have hop := tArmD ha x.n
              go_wp2_with fail
              refine hop.mono ?_
              rintro e w1 ⟨rfl, t1, c1⟩
              have k1 := chgX2 ka c1 (.inr rfl)
              have q1 := k1.cell 1 _ rfl
              have s1 := c1.gx ha.size
              have hop2 := tArmR t1 x.n
              clear hop ka ha
              go_wp2_with fail
              refine hop2.mono ?_
              rintro e w2 ⟨rfl, t2, c2⟩
              have s2 := c2.gx t1.size
              have bf : Below w0.heap.size w w2 := (b0.trans s1).trans s2
              have tf : Two w0 noX gD gR (armD d x.n) (armD d x.n) w2 := t2.mono fun _ h => h.elim
              clear hop2 t1 t2 c1 c2 s1 s2
              go_wp2_with fail
              go_ret
              exact ⟨rfl, ⟨_, hi2.out, tf⟩, bf⟩
            · have h6b : (x.kind == 6) = false := by simpa using h6
              clear h6
              by_cases h7 : x.kind = 7
              · have h7b : (x.kind == 7) = true := by simpa using h7
                clear h7
                have a5 := ka.cell 5 _ rfl
                have hi2 := Lib.hid (Hp.out.crash x.picks)
                have hop := tCrashD ha hok.out (Hx.out.picks.ext hb2) (fun hne q hq => ints_in Hx.out.picks hne q hq) Hx.out.hi
                go_wp2_with fail
                refine hop.mono ?_
                rintro e w1 ⟨rfl, t1, c1⟩
                have k1 := chgX2 ka c1 (.inr rfl)
                have q5 := k1.cell 5 _ rfl
                have s1 := c1.gx ha.size
                have hop2 := tCrashR t1 hok.out (Hx.out.picks.ext (hb2.trans s1)) (fun hne q hq => ints_in Hx.out.picks hne q hq) Hx.out.hi
                clear hop ka ha
                go_wp2_with fail
                refine hop2.mono ?_
                rintro e w2 ⟨rfl, t2, c2⟩
                have s2 := c2.gx t1.size
                have bf : Below w0.heap.size w w2 := (b0.trans s1).trans s2
                have tf : Two w0 noX gD gR (crashD d x.picks) (crashD d x.picks) w2 := t2.mono fun _ h => h.elim
                clear hop2 t1 t2 c1 c2 s1 s2
                go_wp2_with fail
                go_ret
                exact ⟨rfl, ⟨_, hi2.out, tf⟩, bf⟩
              · have h7b : (x.kind == 7) = false := by simpa using h7
                clear h7
                have tf : Two w0 noX gD gR d d wa := ha.mono fun _ h => h.elim
                have hi2 := Lib.hid Hp.out.up
                go_wp2_with fail
                go_ret
                exact ⟨rfl, ⟨_, hi2.out, tf⟩, b0⟩
end Go.Proofs.Ytklopbjlpffnbaa
