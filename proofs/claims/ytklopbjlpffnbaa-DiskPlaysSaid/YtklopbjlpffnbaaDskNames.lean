/- The walk of DiskNames. -/
import Derived.Test.YtklopbjlpffnbaaDskArms
import Derived.Test.YtklopbjlpffnbaaDskLaw
import Derived.Deep.CutBlock
namespace Go.Proofs.Ytklopbjlpffnbaa
open Go Go.RowKit BigFrame Go.PlainAid
attribute [local go_sem] After.same
structure NInv (k : Nat) (d : Dk) : Prop where
  on : OnD d
  sort : SortD d.fs
  kept : ∀ f ∈ d.fs, f.kept ≤ f.data.length
  tot : totD d.fs ≤ 4194304
  len : d.fs.length ≤ k
theorem NInv.ok {k : Nat} {d : Dk} (h : NInv k d) (hk : k ≤ 999999) : okD d = true :=
  okD_of ⟨by have := h.len; omega, h.tot, h.kept, by rw [h.on.left]; decide, by rw [h.on.left]; decide⟩ (by have := h.len; omega)
theorem NInv.zero : NInv 0 dk0 := ⟨⟨rfl, rfl⟩, List.Pairwise.nil, by simp [dk0], by simp [dk0, totD], by simp [dk0]⟩
theorem NInv.up {k : Nat} {d : Dk} (h : NInv k d) : NInv (k + 1) d := ⟨h.on, h.sort, h.kept, h.tot, by have := h.len; omega⟩
theorem NInv.app {k : Nat} {d : Dk} (h : NInv k d) (s : ByteArray) (p : List UInt8) : NInv (k + 1) (appendD d s p).2 := by
  rw [h.on.append]
  split
  · exact h.up
  · split
    · exact h.up
    · exact ⟨h.on.fs _, h.sort.addD s p, kept_addD h.kept s p, by show totD (addD s p d.fs) ≤ _; rw [totD_addD]; omega, by have h1 := addD_length s p d.fs; have h2 := h.len; show (addD s p d.fs).length ≤ _; omega⟩
theorem NInv.rem {k : Nat} {d : Dk} (h : NInv k d) (s : ByteArray) : NInv (k + 1) (removeD d s).2 := by
  unfold removeD
  rw [h.on.on]
  split
  · exact h.up
  · exact ⟨h.on.fs _, h.sort.del _, fun f hf => h.kept f (delD_sub hf), Nat.le_trans (totD_del _ _) h.tot, by have h1 := delD_length d.fs (idxD d.fs s).toNat; have h2 := h.len; show (delD _ _).length ≤ _; omega⟩
/-- is it there behind an Append -/
theorem app_there {k : Nat} {d : Dk} (h : NInv k d) (s : ByteArray) (p : List UInt8) : (readD (appendD d s p).2 s).isSome = ((readD d s).isSome || ((appendD d s p).1 == 0)) := by
  rw [h.on.append]
  split
  · simp
  · split
    · simp
    · rw [read_getF]
      show (Option.map _ (getF (addD s p d.fs) s)).isSome = _
      rw [get_addD_self]; simp
theorem rem_there {k : Nat} {d : Dk} (h : NInv k d) (s : ByteArray) : readD (removeD d s).2 s = none ∧ ((removeD d s).1 == 0) = (readD d s).isSome := by
  unfold removeD
  rw [h.on.on, read_getF, read_getF]
  rcases find_idx d.fs s with ⟨h1, h2⟩ | ⟨j, hj, h1, h2, h3⟩
  · rw [if_pos (by omega), h2]; exact ⟨rfl, rfl⟩
  · rw [if_neg (by omega), h1, Int.toNat_natCast, h2]
    refine ⟨?_, rfl⟩
    show Option.map _ (getF (delD d.fs j) s) = none
    rw [Option.map_eq_none_iff]
    refine List.find?_eq_none.2 fun x hx => ?_
    rw [hasN_no]
    · simp
    · intro e
      have hs := h.sort
      unfold SortD at hs
      rw [List.pairwise_iff_getElem] at hs
      unfold delD at hx
      rcases List.mem_append.1 hx with hx | hx
      · obtain ⟨i, hi, rfl⟩ := List.getElem_of_mem hx
        rw [List.length_take] at hi
        rw [List.getElem_take] at e
        exact ltS_ne (hs i j (by omega) hj (by omega)) (e.trans h3.symm)
      · obtain ⟨i, hi, rfl⟩ := List.getElem_of_mem hx
        rw [List.length_drop] at hi
        rw [List.getElem_drop] at e
        exact ltS_ne (hs j (j + 1 + i) hj (by omega) (by omega)) (h3.trans e.symm)
theorem read_at {k : Nat} {d : Dk} (h : NInv k d) {m : Nat} (hm : m < d.fs.length) : readD d d.fs[m].name = some d.fs[m].data := by
  rw [read_getF, h.sort.get hm]; rfl
/-- what was made since w0 and is no block of the disk stays -/
theorem Blk.chgX {w0 w w' : World} {g : Nat} {d : Dk} {b : Nat} {cs : Array Value} {t : TypeId} {X : Nat → Prop} (h : Blk w b cs t) (hd : DwS w0 X g d w) (c : Chg (Gx w0 X) w w') (hx : X b) : Blk w' b cs t := c.blk h fun hG => hG.2 hx
theorem ask6 {w : World} {b off n c : Nat} {l : List AskV} (h : Rd askE w (.slice (some ⟨b, off, none⟩) n c) l) {k : Nat} (hk : k < l.length) :
    w.cell? ⟨b, off + k * 6, none⟩ = some (.int .i64 l[k].kind) ∧ w.cell? ⟨b, off + k * 6 + 1, none⟩ = some (.int .i64 l[k].n) ∧ w.cell? ⟨b, off + k * 6 + 2, none⟩ = some (.string l[k].name) ∧ w.cell? ⟨b, off + k * 6 + 3, none⟩ = some (.string l[k].other) ∧ w.cell? ⟨b, off + k * 6 + 4, none⟩ = some (.slice l[k].dp l[k].data.length l[k].dc) ∧ w.cell? ⟨b, off + k * 6 + 5, none⟩ = some (.slice l[k].pp l[k].picks.length l[k].pc) :=
  ⟨h.at_ hk 0 (by decide), h.at_ hk 1 (by decide), h.at_ hk 2 (by decide), h.at_ hk 3 (by decide), h.at_ hk 4 (by decide), h.at_ hk 5 (by decide)⟩
set_option maxHeartbeats 8000000 in
set_option maxRecDepth 100000 in
theorem diskNames_walk (v : Value) (ls : List AskV) (w : World) (hv : Rd askE w v ls) (hd : ∀ x ∈ ls, AskOk w x) :
    Calls Try.prog 8 #[v] w fun e w' => e = .returned (.bool true) ∧ Below w.heap.size w w' := by
  obtain ⟨w0, hw0⟩ : ∃ w0, w0 = w := ⟨_, rfl⟩
  rw [← hw0] at hv hd ⊢
  clear hw0
  have Hd := Lib.hid hd
  obtain ⟨pv, cv, rfl, hl1, hl2, _, _⟩ := hv.form
  unfold maxLen at hl2
  clear hd
  go_enter Try.func8, Try.ntmps8
  go_wp2_with fail
  refine (lNew w0 w0 (Nat.le_refl _) noX (fun _ h => h.elim)).mono ?_
  rintro e w1 ⟨rfl, d1, b1⟩
  have gDe : ∃ gD, gD = w0.heap.size := ⟨_, rfl⟩
  obtain ⟨gD, hgD⟩ := gDe
  rw [← hgD] at d1 ⊢
  clear hgD
  go_wp2_with fail
  go_loopw [4] (fun i wr => ∃ (k : Nat) (d : Dk), k ≤ ls.length ∧ k ≤ 50 ∧ i = .int .i64 k ∧ Hid (NInv k d) ∧ DwS w0 noX gD d wr ∧ Below w0.heap.size w0 wr) (fun i _ => ls.length - (intOf i).toNat)
  case atStart => exact ⟨0, dk0, by omega, by omega, rfl, NInv.zero, d1, b1⟩
  case round =>
    clear d1 b1
    obtain ⟨k, d, hk, hk50, rfl, hinv, dd, hb⟩ := hrel
    have hk0 : (0 : Int) ≤ (k : Int) := by omega
    by_cases hlt : k < ls.length ∧ k < 50
    · obtain ⟨hlt, hlt3⟩ := hlt
      have hi : (k : Int) < (ls.length : Int) := by omega
      have hi3 : (k : Int) < 50 := by omega
      obtain ⟨pb, po, rfl⟩ := Rd.blk hv (by omega)
      have rr := hv.ext hb
      obtain ⟨a0, a1, a2, a3, a4, a5⟩ := ask6 rr hlt
      have hx := Hd.out _ (List.getElem_mem hlt)
      obtain ⟨x, hxe⟩ : ∃ x, ls[k] = x := ⟨_, rfl⟩
      rw [hxe] at a0 a1 a2 a3 a4 a5 hx
      clear hxe rr
      have Hx := Lib.hid hx
      clear hx
      have ca := below_alloc wr (.cells #[.int .i64 x.kind, .int .i64 x.n, .string x.name, .string x.other, .slice x.dp x.data.length x.dc, .slice x.pp x.picks.length x.pc] 46)
      have ka := Blk.new wr #[.int .i64 x.kind, .int .i64 x.n, .string x.name, .string x.other, .slice x.dp x.data.length x.dc, .slice x.pp x.picks.length x.pc] 46
      have da := dd.one (.cells #[.int .i64 x.kind, .int .i64 x.n, .string x.name, .string x.other, .slice x.dp x.data.length x.dc, .slice x.pp x.picks.length x.pc] 46)
      go_upto_region 8 with (fail)
      generalize hwa : wr.alloc (.cells #[.int .i64 x.kind, .int .i64 x.n, .string x.name, .string x.other, .slice x.dp x.data.length x.dc, .slice x.pp x.picks.length x.pc] 46) = wa at *
      clear hwa a0 a1 a2 a3 a4 a5
      have ba := hb.trans (ca.mono hb.size)
      have gX : ∃ gX, gX = wr.heap.size := ⟨_, rfl⟩
      obtain ⟨gX, hgX⟩ := gX
      rw [← hgX] at ka da ⊢
      clear hgX dd hb ca
      have a4 := ka.cell 4 _ rfl
      by_cases h300 : 300 < x.data.length
      · have h3i : (300 : Int) < (x.data.length : Int) := by omega
        have hup := Lib.hid hinv.out.up
        go_wp2_with fail
        go_roundw
        case rel => first | exact ⟨k + 1, d, by omega, by omega, by go_num, hup.out, da.bareX, ba⟩ | ((repeat apply Exists.intro); exact ⟨⟨k + 1, d, by omega, by omega, by go_num, hup.out, da.bareX, ba⟩, rfl⟩)
        case measure => simp [intOf]; omega
      · have h3i : ¬ (300 : Int) < (x.data.length : Int) := by omega
        have a2 := ka.cell 2 _ rfl
        obtain ⟨o1, ho1⟩ : ∃ o, readD d x.name = o := ⟨_, rfl⟩
        have hrd := lRead da (hinv.out.ok (by omega)) x.name ho1
        go_wp2_with fail
        refine hrd.mono ?_
        rintro e w5 ⟨⟨r, rfl, ownr⟩, c5⟩
        have k5 := ka.ext c5
        have d5 := da.ext c5
        have b5 := ba.trans (c5.mono ba.size)
        have Ho1 := Lib.hid ho1
        clear hrd ownr da ba ka c5 a2 a4 ho1 h3i
        obtain ⟨th, hth⟩ : ∃ th, o1.isSome = th := ⟨_, rfl⟩
        have Hth := Lib.hid hth
        rw [hth]
        clear hth
        have a0 := k5.cell 0 _ rfl
        go_upto_block 2 with (fail)
        go_cut [8, 9, 10, 11, 12, 13] from 49 to 133 (fun _ _ _ _ _ _ wi => ∃ d', Hid (NInv (k + 1) d') ∧ DwS w0 noX gD d' wi ∧ Below w0.heap.size w0 wi)
        case first =>
          have a2 := k5.cell 2 _ rfl
          have a4 := k5.cell 4 _ rfl
          by_cases h1 : x.kind = 1
          · have h1b : (x.kind == 1) = true := by simpa using h1
            clear h1
            obtain ⟨E, d2, hE⟩ : ∃ E d2, appendD d x.name x.data = (E, d2) := ⟨_, _, rfl⟩
            have hat := app_there hinv.out x.name x.data
            have hi2 := hinv.out.app x.name x.data
            rw [hE] at hat hi2
            have hb5 : Bytes w5 (.slice x.dp x.data.length x.dc) x.data := Hx.out.data.ext b5
            have happ := lAppend d5 (hinv.out.ok (by omega)) hE Hx.out.name hb5 (fun hne q hq => .inl (bytes_in Hx.out.data hne q hq))
            rw [Ho1.out, Hth.out] at hat
            have Hat := Lib.hid hat
            have Hi2 := Lib.hid hi2
            clear hE hat hi2 hb5
            go_wp2_with fail
            refine happ.mono ?_
            rintro e w6 ⟨rfl, d6, c6⟩
            have k6 := k5.chgX d5 c6 rfl
            have b6 := b5.trans (c6.gx d5.size)
            have a2' := k6.cell 2 _ rfl
            obtain ⟨o2, ho2⟩ : ∃ o, readD d2 x.name = o := ⟨_, rfl⟩
            have hrd := lRead d6 (Hi2.out.ok (by omega)) x.name ho2
            have hat2 := Hat.out
            rw [show (readD d2 x.name) = o2 from ho2] at hat2
            clear happ d5 c6 a0 a2 a4 k5 b5 ho2 h1b
            go_wp2_with fail
            refine hrd.mono ?_
            rintro e w7 ⟨⟨r7, rfl, own7⟩, c7⟩
            have d7 := d6.ext c7
            have b7 := b6.trans (c7.mono b6.size)
            clear hrd own7 d6 c7 b6 a2' k6
            cases th with
            | true =>
              have hoo : o2.isSome = true := by rw [hat2]; rfl
              rw [hoo]
              clear hat2 hoo
              go_wp2_with fail
              go_meet
              exact ⟨d2, Hi2, d7.bareX, b7⟩
            | false =>
              cases hz : (E == 0) with
              | true =>
                have hoo : o2.isSome = true := by rw [hat2, hz]; rfl
                rw [hoo]
                clear hat2 hoo
                go_wp2_with fail
                go_meet
                exact ⟨d2, Hi2, d7.bareX, b7⟩
              | false =>
                have hoo : o2.isSome = false := by rw [hat2, hz]; rfl
                rw [hoo]
                clear hat2 hoo
                go_wp2_with fail
                go_meet
                exact ⟨d2, Hi2, d7.bareX, b7⟩
          · have h1b : (x.kind == 1) = false := by simpa using h1
            clear h1
            by_cases h5 : x.kind = 5
            · have h5b : (x.kind == 5) = true := by simpa using h5
              clear h5
              obtain ⟨E, d2, hE⟩ : ∃ E d2, removeD d x.name = (E, d2) := ⟨_, _, rfl⟩
              have hat := rem_there hinv.out x.name
              have hi2 := hinv.out.rem x.name
              rw [hE] at hat hi2
              have hrem := lRemove d5 (hinv.out.ok (by omega)) hE
              rw [Ho1.out, Hth.out] at hat
              obtain ⟨hat1, hat2⟩ := hat
              have Hi2 := Lib.hid hi2
              have Hat1 := Lib.hid hat1
              clear hE hi2 hat1
              go_wp2_with fail
              refine hrem.mono ?_
              rintro e w6 ⟨rfl, d6, c6⟩
              have k6 := k5.chgX d5 c6 rfl
              have b6 := b5.trans (c6.gx d5.size)
              have a2' := k6.cell 2 _ rfl
              have hrd := lRead d6 (Hi2.out.ok (by omega)) x.name (o := none) Hat1.out
              clear hrem d5 c6 a0 a2 a4 k5 b5 h1b h5b
              go_wp2_with fail
              refine hrd.mono ?_
              rintro e w7 ⟨⟨r7, rfl, own7⟩, c7⟩
              have d7 := d6.ext c7
              have b7 := b6.trans (c7.mono b6.size)
              clear hrd own7 d6 c7 b6 a2' k6
              rw [show (none : Option (List UInt8)).isSome = false from rfl]
              cases th with
              | true =>
                go_wp2_with fail
                go_meet
                exact ⟨d2, Hi2, d7.bareX, b7⟩
              | false =>
                go_wp2_with fail
                go_meet
                exact ⟨d2, Hi2, d7.bareX, b7⟩
            · have h5b : (x.kind == 5) = false := by simpa using h5
              clear h5
              have hup := Lib.hid hinv.out.up
              go_wp2_with fail
              go_meet
              exact ⟨d, hup, d5.bareX, b5⟩
        case rest =>
          obtain ⟨d2, hi2, d6, b6⟩ := hcut
          obtain ⟨w6, hw6⟩ : ∃ z, z = wc := ⟨_, rfl⟩
          subst hw6
          clear hinv Ho1 Hth Hx k5 d5 b5
          have hnm := lNames d6 (hi2.out.ok (by omega))
          go_wp2_with fail
          refine hnm.mono ?_
          rintro e w7 ⟨⟨rn, rfl, ownN⟩, c7⟩
          have d7 := d6.ext c7
          have b7 := b6.trans (c7.mono b6.size)
          have hN0 := ownN.base (Nat.zero_le _)
          obtain ⟨pn, cn, rfl⟩ := ownN.rd.shape
          have hln : (d2.fs.map (·.name)).length = d2.fs.length := List.length_map _
          have Hln := Lib.hid hln
          have hfl := hi2.out.len
          have htt := hi2.out.tot
          rw [hln]
          clear hnm d6 c7 b6 ownN hln
          go_wp2_with fail
          go_loopw [14, 16] (fun n i wq => ∃ m : Nat, m ≤ d2.fs.length ∧ i = .int .i64 m ∧ n = .int .i64 ((totD (d2.fs.take m) : Nat) : Int) ∧ DwS w0 noX gD d2 wq ∧ OwnR strE wq 0 9 (.slice pn d2.fs.length cn) (d2.fs.map (·.name)) ∧ Below w0.heap.size w0 wq) (fun _ i _ => d2.fs.length - (intOf i).toNat)
          case atStart => exact ⟨0, Nat.zero_le _, rfl, by simp [totD], d7, by rw [← Hln.out]; exact hN0, b7⟩
          case round =>
            clear d7 hN0 b7
            obtain ⟨m, hm, rfl, rfl, d7, hN, b7⟩ := hrel
            have hm0 : (0 : Int) ≤ (m : Int) := by omega
            by_cases hml : m < d2.fs.length
            · have hmi : (m : Int) < (d2.fs.length : Int) := by omega
              obtain ⟨gn, cn', hsh, _, gnl, hnc1, hnc2⟩ := hN.head (by rw [List.length_map]; omega)
              rw [List.length_map] at hsh hnc1
              simp only [Value.slice.injEq, true_and] at hsh
              obtain ⟨rfl, rfl⟩ := hsh
              unfold maxLen at hnc2
              rcases m with _ | j
              · skip
                have hfm : Hid (∀ q : Fil, d2.fs[0]'hml = q → totD (d2.fs.take (0 + 1)) = totD (d2.fs.take (0)) + q.data.length) := fun q hq => by rw [← hq]; exact totD_take hml
                have hle := totD_take_le d2.fs (0 + 1)
                have hrdv := read_at hi2.out hml
                have cm : wr.cell? ⟨gn, 0, none⟩ = some (.string (d2.fs[0]'hml).name) := by
                  have h := hN.cellAt (by rw [List.length_map]) (0) (by rw [List.length_map]; exact hml) 0 (by decide)
                  have h2 : (0) * strE.sz + 0 = 0 := Nat.mul_one _
                  rw [h2, List.getElem_map] at h; exact h
                skip
                obtain ⟨q, hq⟩ : ∃ q, d2.fs[0]'hml = q := ⟨_, rfl⟩
                have hst := hfm.out q hq
                rw [hst] at hle
                rw [hq] at hrdv cm
                have Hst := Lib.hid hst
                have hrd := lRead d7 (hi2.out.ok (by omega)) q.name hrdv
                clear hst hfm hq hrdv
                generalize totD (d2.fs.take (0)) = T at *
                have q1 : (0 : Int) ≤ (T : Int) := by omega
                have q2 : (T : Int) + (q.data.length : Int) ≤ 4194304 := by omega
                have q3 : (0 : Int) ≤ (q.data.length : Int) := by omega
                go_wp2_with fail
                refine hrd.mono ?_
                rintro e w8 ⟨⟨r8, rfl, own8⟩, c8⟩
                have d8 := d7.ext c8
                have b8 := b7.trans (c8.mono b7.size)
                have hN8 := hN.ext c8
                rw [show (some q.data : Option (List UInt8)).isSome = true from rfl]
                obtain ⟨p8, q8, rfl⟩ := own8.bytes.shapeN (n := q.data.length) rfl
                skip
                clear hrd d7 b7 hN own8 cm
                go_wp2_with fail
                go_quiet (fail)
                go_wp2_with fail
                go_roundw
                case rel => first | exact ⟨0 + 1, by omega, by go_num, by rw [Hst.out]; go_num, d8.drewN _, hN8.drewN _, b8.trans (below_drawn _ _ _)⟩ | ((repeat apply Exists.intro); exact ⟨⟨0 + 1, by omega, by go_num, by rw [Hst.out]; go_num, d8.drewN _, hN8.drewN _, b8.trans (below_drawn _ _ _)⟩, rfl⟩)
                case measure => simp [intOf]; omega
              · skip
                have hfm : Hid (∀ q : Fil, d2.fs[j + 1]'hml = q → totD (d2.fs.take (j + 1 + 1)) = totD (d2.fs.take (j + 1)) + q.data.length) := fun q hq => by rw [← hq]; exact totD_take hml
                have hle := totD_take_le d2.fs (j + 1 + 1)
                have hrdv := read_at hi2.out hml
                have cm : wr.cell? ⟨gn, j + 1, none⟩ = some (.string (d2.fs[j + 1]'hml).name) := by
                  have h := hN.cellAt (by rw [List.length_map]) (j + 1) (by rw [List.length_map]; exact hml) 0 (by decide)
                  have h2 : (j + 1) * strE.sz + 0 = j + 1 := Nat.mul_one _
                  rw [h2, List.getElem_map] at h; exact h
                have hjl : j < d2.fs.length := by omega
                have hlt2 : Op.bytesLess (d2.fs[j]'hjl).name.toList (d2.fs[j + 1]'hml).name.toList = true := by
                  have hs := hi2.out.sort
                  unfold SortD at hs
                  rw [List.pairwise_iff_getElem] at hs
                  exact hs j (j + 1) hjl hml (by omega)
                have cj : wr.cell? ⟨gn, j, none⟩ = some (.string (d2.fs[j]'hjl).name) := by
                  have h := hN.cellAt (by rw [List.length_map]) j (by rw [List.length_map]; exact hjl) 0 (by decide)
                  have h2 : j * strE.sz + 0 = j := Nat.mul_one _
                  rw [h2, List.getElem_map] at h; exact h
                generalize d2.fs[j]'hjl = qj at *
                have hw : IntKind.i64.wrap ((j : Int) + 1 - 1) = (j : Int) := by rw [IntKind.wrap_i64]; omega
                have hj0 : (0 : Int) ≤ (j : Int) := by omega
                have hji : (j : Int) < (d2.fs.length : Int) := by omega
                have hgnl := gnl
                obtain ⟨q, hq⟩ : ∃ q, d2.fs[j + 1]'hml = q := ⟨_, rfl⟩
                have hst := hfm.out q hq
                rw [hst] at hle
                rw [hq] at hrdv cm hlt2
                have Hst := Lib.hid hst
                have hrd := lRead d7 (hi2.out.ok (by omega)) q.name hrdv
                clear hst hfm hq hrdv
                generalize totD (d2.fs.take (j + 1)) = T at *
                have q1 : (0 : Int) ≤ (T : Int) := by omega
                have q2 : (T : Int) + (q.data.length : Int) ≤ 4194304 := by omega
                have q3 : (0 : Int) ≤ (q.data.length : Int) := by omega
                go_wp2_with fail
                refine hrd.mono ?_
                rintro e w8 ⟨⟨r8, rfl, own8⟩, c8⟩
                have d8 := d7.ext c8
                have b8 := b7.trans (c8.mono b7.size)
                have hN8 := hN.ext c8
                rw [show (some q.data : Option (List UInt8)).isSome = true from rfl]
                obtain ⟨p8, q8, rfl⟩ := own8.bytes.shapeN (n := q.data.length) rfl
                have cj8 := (c8.cell (p := ⟨gn, j, none⟩) gnl).trans cj
                have cm8 := (c8.cell (p := ⟨gn, j + 1, none⟩) gnl).trans cm
                clear cj
                clear hrd d7 b7 hN own8 cm
                go_wp2_with fail
                go_quiet (fail)
                go_wp2_with fail
                go_roundw
                case rel => first | exact ⟨j + 1 + 1, by omega, by go_num, by rw [Hst.out]; go_num, d8.drewN _, hN8.drewN _, b8.trans (below_drawn _ _ _)⟩ | ((repeat apply Exists.intro); exact ⟨⟨j + 1 + 1, by omega, by go_num, by rw [Hst.out]; go_num, d8.drewN _, hN8.drewN _, b8.trans (below_drawn _ _ _)⟩, rfl⟩)
                case measure => simp [intOf]; omega
            · have hmi : ¬ (m : Int) < (d2.fs.length : Int) := by omega
              have htk : d2.fs.take m = d2.fs := List.take_of_length_le (by omega)
              rw [htk]
              have htot := lTotal d7 (hi2.out.ok (by omega))
              clear htk
              generalize totD d2.fs = T at *
              go_wp2_with fail
              refine htot.mono ?_
              rintro e w8 ⟨rfl, c8⟩
              have d8 := d7.ext c8
              have b8 := b7.trans (c8.mono b7.size)
              clear htot d7 hN b7 c8
              have hTT : ((T : Int) != (T : Int)) = false := by simp
              go_wp2_with fail
              go_roundw
              case rel => first | exact ⟨k + 1, d2, by omega, by omega, by go_num, hi2, d8, b8⟩ | ((repeat apply Exists.intro); exact ⟨⟨k + 1, d2, by omega, by omega, by go_num, hi2, d8, b8⟩, rfl⟩)
              case measure => simp [intOf]; omega
    · rcases Nat.lt_or_ge k ls.length with hl | hl
      · have hi : (k : Int) < (ls.length : Int) := by omega
        have hi3 : ¬ (k : Int) < 50 := by omega
        go_wp2_with fail
        refine (diskRuns_walk wr).mono ?_
        rintro e w9 ⟨rfl, c9⟩
        have b9 := hb.trans (c9.mono hb.size)
        go_wp2_with fail
        go_ret
        exact ⟨rfl, b9⟩
      · have hi : ¬ (k : Int) < (ls.length : Int) := by omega
        go_wp2_with fail
        refine (diskRuns_walk wr).mono ?_
        rintro e w9 ⟨rfl, c9⟩
        have b9 := hb.trans (c9.mono hb.size)
        go_wp2_with fail
        go_ret
        exact ⟨rfl, b9⟩
end Go.Proofs.Ytklopbjlpffnbaa
