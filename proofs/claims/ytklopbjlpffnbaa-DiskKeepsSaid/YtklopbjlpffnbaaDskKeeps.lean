/- The walk of DiskKeeps. -/
import Derived.Test.YtklopbjlpffnbaaDskKeepP
import Derived.Test.YtklopbjlpffnbaaDskKept
namespace Go.Proofs.Ytklopbjlpffnbaa
open Go Go.RowKit BigFrame Go.PlainAid
attribute [local go_sem] After.same
attribute [local go_sem] xor255_u8
theorem own_list {s : ByteArray} {b : Bool} (h : eqS s sOwn = b) : decide (s.toList = [111, 119, 110]) = b := by
  have e : sOwn.toList = [111, 119, 110] := by rw [ByteArray.toList_eq]; rfl
  unfold eqS at h
  rw [e] at h
  rw [← h]
  by_cases hh : s.toList = [111, 119, 110]
  · rw [decide_eq_true hh, hh]; rfl
  · rw [decide_eq_false hh]
    symm
    rw [Bool.eq_false_iff]
    intro h2
    exact hh (by simpa using h2)
theorem ne_own {s : ByteArray} (h : eqS s sOwn = false) : s ≠ sOwn := fun e => by rw [e, eqS_refl] at h; cases h
theorem ints_in {w : World} {v : Value} {l : List Int} (h : Rd intsE w v l) : l ≠ [] → ∀ k, v.ownBlock = some k → k < w.heap.size := fun hn => Cells.lt h (by rw [intsE.all_length]; have h2 := List.length_pos_iff.2 hn; show 0 < l.length * 1; omega)
set_option maxHeartbeats 8000000 in
set_option maxRecDepth 100000 in
theorem diskKeeps_walk (v : Value) (ls : List AskV) (vk : Value) (kp : List UInt8) (vt : Value) (tl : List UInt8) (vp : Value) (picks : List Int) (w : World) (hv : Rd askE w v ls) (hd : ∀ x ∈ ls, AskOk w x) (hk : Bytes w vk kp) (ht : Bytes w vt tl) (hp : Rd intsE w vp picks) (hpm : ∀ x ∈ picks, -9223372036854775808 ≤ x ∧ x ≤ 9223372036854775807) :
    Calls Try.prog 6 #[v, vk, vt, vp] w fun e w' => e = .returned (.bool true) ∧ Below w.heap.size w w' := by
  obtain ⟨w0, hw0⟩ : ∃ w0, w0 = w := ⟨_, rfl⟩
  rw [← hw0] at hv hd hk ht hp ⊢
  clear hw0
  have Hd := Lib.hid hd
  have Hk := Lib.hid hk
  have Ht := Lib.hid ht
  have Hp := Lib.hid hp
  have Hpm := Lib.hid hpm
  obtain ⟨pv, cv, rfl, hl1, hl2, _, _⟩ := hv.form
  obtain ⟨pk, ck, rfl, hk1, hk2, _, _⟩ := hk.form
  obtain ⟨pt, ct, rfl, ht1, ht2, _, _⟩ := ht.form
  obtain ⟨pp, cp, rfl, hp1, hp2, _, _⟩ := hp.form
  unfold maxLen at hl2 hk2 ht2 hp2
  clear hd hk ht hp hpm
  go_enter Try.func6, Try.ntmps6
  go_wp2_with fail
  refine (lNew w0 w0 (Nat.le_refl _) noX (fun _ h => h.elim)).mono ?_
  rintro e w1 ⟨rfl, d1, b1⟩
  have gDe : ∃ gD, gD = w0.heap.size := ⟨_, rfl⟩
  obtain ⟨gD, hgD⟩ := gDe
  rw [← hgD] at d1 ⊢
  clear hgD
  by_cases h3k : 300 < kp.length
  · have hi : (300 : Int) < (kp.length : Int) := by omega
    go_wp2_with fail
    refine (diskRuns_walk w1).mono ?_
    rintro e w9 ⟨rfl, c9⟩
    have b9 := b1.trans (c9.mono b1.size)
    go_wp2_with fail
    go_ret
    exact ⟨rfl, b9⟩
  · by_cases h3t : 300 < tl.length
    · have hi : ¬ (300 : Int) < (kp.length : Int) := by omega
      have hi2 : (300 : Int) < (tl.length : Int) := by omega
      go_wp2_with fail
      refine (diskRuns_walk w1).mono ?_
      rintro e w9 ⟨rfl, c9⟩
      have b9 := b1.trans (c9.mono b1.size)
      go_wp2_with fail
      go_ret
      exact ⟨rfl, b9⟩
    · by_cases h3p : 30 < picks.length
      · have hi : ¬ (300 : Int) < (kp.length : Int) := by omega
        have hi2 : ¬ (300 : Int) < (tl.length : Int) := by omega
        have hi3 : (30 : Int) < (picks.length : Int) := by omega
        go_wp2_with fail
        refine (diskRuns_walk w1).mono ?_
        rintro e w9 ⟨rfl, c9⟩
        have b9 := b1.trans (c9.mono b1.size)
        go_wp2_with fail
        go_ret
        exact ⟨rfl, b9⟩
      · have hi : ¬ (300 : Int) < (kp.length : Int) := by omega
        have hi2 : ¬ (300 : Int) < (tl.length : Int) := by omega
        have hi3 : ¬ (30 : Int) < (picks.length : Int) := by omega
        obtain ⟨s1, s2, e1, o1, e2, inv0⟩ := own_start kp (by omega)
        have Inv0 := Lib.hid inv0
        have happ := lAppend d1 (by kernel_rfl) e1 (by decide) (Hk.out.ext b1) (fun hne q hq => .inl (bytes_in Hk.out hne q hq))
        have O1 := Lib.hid o1
        have E2 := Lib.hid e2
        clear e1 e2 o1 inv0
        go_wp2_with fail
        refine happ.mono ?_
        rintro e w2 ⟨rfl, d2, c2⟩
        have b2 := b1.trans (c2.gx d1.size)
        have hsy := lSync d2 O1.out E2.out
        clear happ d1 c2 b1
        go_wp2_with fail
        refine hsy.mono ?_
        rintro e w3 ⟨rfl, d3, c3⟩
        have b3 := b2.trans (c3.gx d2.size)
        clear hsy d2 c3 b2 O1 E2
        go_wp2_with fail
        go_loopw [10] (fun i wr => ∃ (k : Nat) (d : Dk), k ≤ ls.length ∧ k ≤ 30 ∧ i = .int .i64 k ∧ Hid (KInv kp k d) ∧ DwS w0 noX gD d wr ∧ Below w0.heap.size w0 wr) (fun i _ => ls.length - (intOf i).toNat)
        case atStart => exact ⟨0, s2, by omega, by omega, rfl, Inv0, d3, b3⟩
        case round =>
          clear d3 b3 Inv0
          obtain ⟨k, d, hk, hk50, rfl, hinv, dd, hb⟩ := hrel
          have hk0 : (0 : Int) ≤ (k : Int) := by omega
          by_cases hlt : k < ls.length ∧ k < 30
          · obtain ⟨hlt, hlt3⟩ := hlt
            have hi4 : (k : Int) < (ls.length : Int) := by omega
            have hi5 : (k : Int) < 30 := by omega
            obtain ⟨pb, po, rfl⟩ := Rd.blk hv (by omega)
            have rr := hv.ext hb
            obtain ⟨a0, a1, a2, a3, a4, a5⟩ := ask6 rr hlt
            have hx := Hd.out _ (List.getElem_mem hlt)
            obtain ⟨x, hxe⟩ : ∃ x, ls[k] = x := ⟨_, rfl⟩
            rw [hxe] at a0 a1 a2 a3 a4 a5 hx
            clear hxe rr
            have Hx := Lib.hid hx
            clear hx
            have ca := below_alloc wr (.cells #[.int .i64 x.kind, .int .i64 x.n, .string x.name, .string x.other, .slice x.dp x.data.length x.dc, .slice x.pp x.picks.length x.pc] 46)
            have ka := Blk.new wr #[.int .i64 x.kind, .int .i64 x.n, .string x.name, .string x.other, .slice x.dp x.data.length x.dc, .slice x.pp x.picks.length x.pc] 46
            have da := dd.one (.cells #[.int .i64 x.kind, .int .i64 x.n, .string x.name, .string x.other, .slice x.dp x.data.length x.dc, .slice x.pp x.picks.length x.pc] 46)
            go_upto_region 10 with (fail)
            generalize hwa : wr.alloc (.cells #[.int .i64 x.kind, .int .i64 x.n, .string x.name, .string x.other, .slice x.dp x.data.length x.dc, .slice x.pp x.picks.length x.pc] 46) = wa at *
            clear hwa a0 a1 a2 a3 a4 a5
            have ba := hb.trans (ca.mono hb.size)
            have gX : ∃ gX, gX = wr.heap.size := ⟨_, rfl⟩
            obtain ⟨gX, hgX⟩ := gX
            rw [← hgX] at ka da ⊢
            clear hgX dd hb ca
            have a0 := ka.cell 0 _ rfl
            have a2 := ka.cell 2 _ rfl
            have a3 := ka.cell 3 _ rfl
            have a4 := ka.cell 4 _ rfl
            have hup := Lib.hid hinv.out.up
            cases hn : eqS x.name sOwn with
            | true =>
              replace hn := of_decide_eq_true (own_list hn)
              go_wp2_with fail
              go_roundw
              case rel => first | exact ⟨k + 1, d, by omega, by omega, by go_num, hup, da.bareX, ba⟩ | ((repeat apply Exists.intro); exact ⟨⟨k + 1, d, by omega, by omega, by go_num, hup, da.bareX, ba⟩, rfl⟩)
              case measure => simp [intOf]; omega
            | false =>
              have Hn := Lib.hid (ne_own hn)
              replace hn : (x.name.toList == [111, 119, 110]) = false := beq_eq_false_iff_ne.2 (of_decide_eq_false (own_list hn))
              cases hn2 : eqS x.other sOwn with
              | true =>
                replace hn2 := of_decide_eq_true (own_list hn2)
                go_wp2_with fail
                go_roundw
                case rel => first | exact ⟨k + 1, d, by omega, by omega, by go_num, hup, da.bareX, ba⟩ | ((repeat apply Exists.intro); exact ⟨⟨k + 1, d, by omega, by omega, by go_num, hup, da.bareX, ba⟩, rfl⟩)
                case measure => simp [intOf]; omega
              | false =>
                have Hn2 := Lib.hid (ne_own hn2)
                replace hn2 : (x.other.toList == [111, 119, 110]) = false := beq_eq_false_iff_ne.2 (of_decide_eq_false (own_list hn2))
                by_cases h300 : 300 < x.data.length
                · have h3i : (300 : Int) < (x.data.length : Int) := by omega
                  go_wp2_with fail
                  go_roundw
                  case rel => first | exact ⟨k + 1, d, by omega, by omega, by go_num, hup, da.bareX, ba⟩ | ((repeat apply Exists.intro); exact ⟨⟨k + 1, d, by omega, by omega, by go_num, hup, da.bareX, ba⟩, rfl⟩)
                  case measure => simp [intOf]; omega
                · have h3i : ¬ (300 : Int) < (x.data.length : Int) := by omega
                  go_upto_block 2 with (fail)
                  by_cases h1 : x.kind = 1
                  · have h1b : (x.kind == 1) = true := by simpa using h1
                    clear h1
                    obtain ⟨E, dq, hE⟩ : ∃ E dq, appendD d x.name x.data = (E, dq) := ⟨_, _, rfl⟩
                    have h3n : x.data.length ≤ 300 := by omega
                    have hi6 := hinv.out.app Hn.out h3n
                    rw [hE] at hi6
                    have Hi6 := Lib.hid hi6
                    have hop := lAppend da (hinv.out.ok (by omega)) hE Hx.out.name (Hx.out.data.ext ba) (fun hne q hq => .inl (bytes_in Hx.out.data hne q hq))
                    clear hE hi6
                    go_wp2_with fail
                    refine hop.mono ?_
                    rintro e w6 ⟨rfl, d6, c6⟩
                    have b6 := ba.trans (c6.gx da.size)
                    have d6' := d6.bareX
                    clear hop da c6 ba ka a0 a2 a3 a4 d6
                    go_wp2_with fail
                    go_roundw
                    case rel => first | exact ⟨k + 1, dq, by omega, by omega, by go_num, Hi6, d6', b6⟩ | ((repeat apply Exists.intro); exact ⟨⟨k + 1, dq, by omega, by omega, by go_num, Hi6, d6', b6⟩, rfl⟩)
                    case measure => simp [intOf]; omega
                  · have h1b : (x.kind == 1) = false := by simpa using h1
                    clear h1
                    by_cases h2 : x.kind = 2
                    · have h2b : (x.kind == 2) = true := by simpa using h2
                      clear h2
                      obtain ⟨E, dq, hE⟩ : ∃ E dq, syncD d x.name = (E, dq) := ⟨_, _, rfl⟩
                      have hi6 := hinv.out.sync Hn.out
                      rw [hE] at hi6
                      have Hi6 := Lib.hid hi6
                      have hop := lSync da (hinv.out.ok (by omega)) hE
                      clear hE hi6
                      go_wp2_with fail
                      refine hop.mono ?_
                      rintro e w6 ⟨rfl, d6, c6⟩
                      have b6 := ba.trans (c6.gx da.size)
                      have d6' := d6.bareX
                      clear hop da c6 ba ka a0 a2 a3 a4 d6
                      go_wp2_with fail
                      go_roundw
                      case rel => first | exact ⟨k + 1, dq, by omega, by omega, by go_num, Hi6, d6', b6⟩ | ((repeat apply Exists.intro); exact ⟨⟨k + 1, dq, by omega, by omega, by go_num, Hi6, d6', b6⟩, rfl⟩)
                      case measure => simp [intOf]; omega
                    · have h2b : (x.kind == 2) = false := by simpa using h2
                      clear h2
                      by_cases h4 : x.kind = 4
                      · have h4b : (x.kind == 4) = true := by simpa using h4
                        clear h4
                        obtain ⟨E, dq, hE⟩ : ∃ E dq, renameD d x.name x.other = (E, dq) := ⟨_, _, rfl⟩
                        have hi6 := hinv.out.ren Hn.out Hn2.out
                        rw [hE] at hi6
                        have Hi6 := Lib.hid hi6
                        have hop := lRename da (hinv.out.ok (by omega)) hE Hx.out.other
                        clear hE hi6
                        go_wp2_with fail
                        refine hop.mono ?_
                        rintro e w6 ⟨rfl, d6, c6⟩
                        have b6 := ba.trans (c6.gx da.size)
                        have d6' := d6.bareX
                        clear hop da c6 ba ka a0 a2 a3 a4 d6
                        go_wp2_with fail
                        go_roundw
                        case rel => first | exact ⟨k + 1, dq, by omega, by omega, by go_num, Hi6, d6', b6⟩ | ((repeat apply Exists.intro); exact ⟨⟨k + 1, dq, by omega, by omega, by go_num, Hi6, d6', b6⟩, rfl⟩)
                        case measure => simp [intOf]; omega
                      · have h4b : (x.kind == 4) = false := by simpa using h4
                        clear h4
                        by_cases h5 : x.kind = 5
                        · have h5b : (x.kind == 5) = true := by simpa using h5
                          clear h5
                          obtain ⟨E, dq, hE⟩ : ∃ E dq, removeD d x.name = (E, dq) := ⟨_, _, rfl⟩
                          have hi6 := hinv.out.rem Hn.out
                          rw [hE] at hi6
                          have Hi6 := Lib.hid hi6
                          have hop := lRemove da (hinv.out.ok (by omega)) hE
                          clear hE hi6
                          go_wp2_with fail
                          refine hop.mono ?_
                          rintro e w6 ⟨rfl, d6, c6⟩
                          have b6 := ba.trans (c6.gx da.size)
                          have d6' := d6.bareX
                          clear hop da c6 ba ka a0 a2 a3 a4 d6
                          go_wp2_with fail
                          go_roundw
                          case rel => first | exact ⟨k + 1, dq, by omega, by omega, by go_num, Hi6, d6', b6⟩ | ((repeat apply Exists.intro); exact ⟨⟨k + 1, dq, by omega, by omega, by go_num, Hi6, d6', b6⟩, rfl⟩)
                          case measure => simp [intOf]; omega
                        · have h5b : (x.kind == 5) = false := by simpa using h5
                          clear h5
                          go_wp2_with fail
                          go_roundw
                          case rel => first | exact ⟨k + 1, d, by omega, by omega, by go_num, hup, da.bareX, ba⟩ | ((repeat apply Exists.intro); exact ⟨⟨k + 1, d, by omega, by omega, by go_num, hup, da.bareX, ba⟩, rfl⟩)
                          case measure => simp [intOf]; omega
          · rcases Nat.lt_or_ge k ls.length with hl | hl
            · have hi4 : (k : Int) < (ls.length : Int) := by omega
              have hi5 : ¬ (k : Int) < 30 := by omega
              have ht := own_tail hinv.out (by omega) (tl := tl) (by omega)
              obtain ⟨dA, hA1, hA2, hA3⟩ := ht
              obtain ⟨B, n, hleft, hB⟩ := own_left hA3 picks
              have hBC := okD_crash hA2 picks
              obtain ⟨dB, hdB⟩ : ∃ dB, crashD dA picks = dB := ⟨_, rfl⟩
              rw [hdB] at hB hBC
              have hB2 := own_stays hB picks
              obtain ⟨dC, hdC⟩ : ∃ dC, crashD dB picks = dC := ⟨_, rfl⟩
              have hCok := okD_crash hBC picks
              rw [hdC] at hB2 hCok
              have happ := lAppend dd (hinv.out.ok (by omega)) hA1 (by decide) (Ht.out.ext hb) (fun hne q hq => .inl (bytes_in Ht.out hne q hq))
              have hrB : readD dB sOwn = some B := by rw [read_getF, hB]; rfl
              have hrC : readD dC sOwn = some B := by rw [read_getF, hB2]; rfl
              have HA2 := Lib.hid hA2
              have HBC := Lib.hid hBC
              have HCok := Lib.hid hCok
              have HdB := Lib.hid hdB
              have HdC := Lib.hid hdC
              have HrB := Lib.hid hrB
              have HrC := Lib.hid hrC
              have Hle := Lib.hid hleft
              have hBl := hleft.len
              have hBn := hleft.le
              have hB6 : B.length ≤ 600 := by omega
              have hBk : ¬ (B.length : Int) < (kp.length : Int) := by omega
              have hBt : ¬ (kp.length : Int) + (tl.length : Int) < (B.length : Int) := by omega
              clear hA1 hA2 hA3 hleft hB hBC hdB hB2 hCok hdC hrB hrC hinv hBl hBn
              go_wp2_with fail
              refine happ.mono ?_
              rintro e w2 ⟨rfl, d2, c2⟩
              have b2 := hb.trans (c2.gx dd.size)
              have hcr := lCrash d2 HA2.out HdB.out (Hp.out.ext b2) (fun hne q hq => .inl (ints_in Hp.out hne q hq)) (fun x hx => (Hpm.out x hx).2)
              clear happ dd c2 hb
              go_wp2_with fail
              refine hcr.mono ?_
              rintro e w4 ⟨rfl, d4, c4⟩
              have b4 := b2.trans (c4.gx d2.size)
              have hrd := lRead d4 HBC.out sOwn HrB.out
              clear hcr d2 c4 b2
              go_wp2_with fail
              refine hrd.mono ?_
              rintro e w5 ⟨⟨r, rfl, ownr⟩, c5⟩
              have d5 := d4.more (Y := fun k => r.ownBlock = some k) c5 (fun k hk => .inr (ownr.lt k hk))
              have b5 := b4.trans (c5.mono b4.size)
              have hr1 : (some B : Option (List UInt8)).getD [] = B := rfl
              have hr2 : (some B : Option (List UInt8)).isSome = true := rfl
              rw [hr1] at ownr
              rw [hr2]
              have ownr0 := ownr.base0
              clear hr1 hr2 hrd d4 c5 b4 ownr
              obtain ⟨pr, cr, hvr, hsub, hown⟩ := cutV ownr0 (n := kp.length) (by have := Hle.out.len; omega)
              subst hvr
              have hslF := fun W => run_sub_to tU8 (P := Try.prog) ownr0.bytes .i64 (kp.length : Int) kp.length rfl (by have := Hle.out.len; omega) W
              rw [hsub] at hslF
              rw [Hle.out.pre] at hown
              have hsm := sameBytes _ _ kp kp w5 hown.bytes (Hk.out.ext b5)
              rw [decide_eq_true rfl] at hsm
              clear hsub hown
              go_wp2_with fail
              refine hsm.mono ?_
              rintro e w6 ⟨rfl, nn, hw⟩
              have b6 : Below w0.heap.size w0 w6 := by rw [hw]; exact b5.trans (below_drawn _ _ _)
              have d6 : DwS w0 (fun k => (Value.slice pr B.length cr).ownBlock = some k) gD dB w6 := by rw [hw]; exact d5.drewN _
              have ownr6 : OwnB w6 0 5 (.slice pr B.length cr) B := by rw [hw]; exact ownr0.drewN _
              clear hsm hslF hw b5 d5 ownr0
              go_wp2_with fail
              go_loopw [15] (fun i wr => ∃ (j : Nat), j ≤ n ∧ i = .int .i64 j ∧ OwnB wr 0 5 (.slice pr B.length cr) B ∧ DwS w0 (fun k => (Value.slice pr B.length cr).ownBlock = some k) gD dB wr ∧ Below w0.heap.size w0 wr) (fun i _ => n - (intOf i).toNat)
              case atStart => exact ⟨0, by omega, rfl, ownr6, d6, b6⟩
              case round =>
                clear ownr6 d6 b6
                obtain ⟨j, hj, rfl, own, dj, hbj⟩ := hrel
                have hj0 : (0 : Int) ≤ (j : Int) := by omega
                have hlen := Hle.out.len
                have hle2 := Hle.out.le
                by_cases hjn : j < n
                · have hij : (j : Int) < (B.length : Int) - (kp.length : Int) := by omega
                  have hjB : kp.length + j < B.length := by omega
                  have hjt : j < tl.length := by omega
                  have hat := Hle.out.at_ j hjn
                  rw [List.getElem?_eq_getElem hjB] at hat
                  obtain ⟨gq, cq, hsh, _, hgq, _, hcm⟩ := own.head (by omega)
                  simp only [Value.slice.injEq, true_and] at hsh
                  obtain ⟨rfl, rfl⟩ := hsh
                  have cb := own.cellAt rfl (kp.length + j) hjB
                  obtain ⟨p5, c5, e5, _, _, _, h5⟩ := (Ht.out.ext hbj).form
                  simp only [Value.slice.injEq, true_and] at e5
                  obtain ⟨rfl, rfl⟩ := e5
                  obtain ⟨tb, tz, rfl, htc⟩ := h5 (by omega)
                  have ct5 := htc j hjt
                  have hij1 : (kp.length : Int) + (j : Int) < (B.length : Int) := by omega
                  have hij2 : (j : Int) < (tl.length : Int) := by omega
                  generalize B[kp.length + j] = x at *
                  generalize tl[j] = y at *
                  have hx1 : (0 : Int) ≤ (x.toNat : Int) := by omega
                  have hx2 : (x.toNat : Int) ≤ 255 := by have := x.toNat_lt; omega
                  have hy1 : (0 : Int) ≤ (y.toNat : Int) := by omega
                  have hy2 : (y.toNat : Int) ≤ 255 := by have := y.toNat_lt; omega
                  clear hlen hle2 hcm htc h5
                  by_cases hxy : x = y
                  · subst hxy
                    clear hat
                    go_wp2_with fail
                    go_roundw
                    case rel => first | exact ⟨j + 1, by omega, by go_num, own, dj, hbj⟩ | exact ⟨j + 1, by omega, by go_num⟩ | ((repeat apply Exists.intro); exact ⟨⟨j + 1, by omega, by go_num, own, dj, hbj⟩, rfl⟩)
                    case measure => simp [intOf]; omega
                  · have hat2 : j + 1 = n ∧ x = y ^^^ 255 := by
                      rcases hat with h | ⟨h1, h2⟩
                      · exact absurd (Option.some.inj h) hxy
                      · exact ⟨h1, Option.some.inj h2⟩
                    obtain ⟨hjn1, rfl⟩ := hat2
                    have hlen := Hle.out.len
                    have hne : ¬ ((y ^^^ 255).toNat : Int) = (y.toNat : Int) := fun h => hxy (UInt8.toNat_inj.1 (by omega))
                    have hlast : ¬ (j : Int) < (B.length : Int) - (kp.length : Int) - 1 := by omega
                    have Hjn1 := Lib.hid hjn1
                    clear hat hxy hlen hjn1
                    go_wp2_with fail
                    go_roundw
                    case rel => first | exact ⟨j + 1, by omega, by go_num, own, dj, hbj⟩ | exact ⟨j + 1, by omega, by go_num⟩ | ((repeat apply Exists.intro); exact ⟨⟨j + 1, by omega, by go_num, own, dj, hbj⟩, rfl⟩)
                    case measure => simp [intOf]; omega
                · have hij : ¬ (j : Int) < (B.length : Int) - (kp.length : Int) := by omega
                  have hcr := lCrash dj HBC.out HdC.out (Hp.out.ext hbj) (fun hne q hq => .inl (ints_in Hp.out hne q hq)) (fun x hx => (Hpm.out x hx).2)
                  clear hlen hle2
                  go_wp2_with fail
                  refine hcr.mono ?_
                  rintro e w7 ⟨rfl, d7, c7⟩
                  have own7 := keepX c7 own (fun k hk => hk)
                  have b7 := hbj.trans (c7.gx dj.size)
                  have hrd := lRead d7 HCok.out sOwn HrC.out
                  clear hcr dj c7 own hbj
                  go_wp2_with fail
                  refine hrd.mono ?_
                  rintro e w8 ⟨⟨r8, rfl, own8⟩, c8⟩
                  have b8 := b7.trans (c8.mono b7.size)
                  have hr1 : (some B : Option (List UInt8)).getD [] = B := rfl
                  have hr2 : (some B : Option (List UInt8)).isSome = true := rfl
                  rw [hr1] at own8
                  rw [hr2]
                  have hsm := sameBytes _ _ B B w8 (own7.ext c8).bytes own8.bytes
                  rw [decide_eq_true rfl] at hsm
                  clear hrd d7 b7 own7 own8 c8 hr1 hr2
                  go_wp2_with fail
                  refine hsm.mono ?_
                  rintro e w9 ⟨rfl, nn, hw⟩
                  have b9 : Below w0.heap.size w0 w9 := by rw [hw]; exact b8.trans (below_drawn _ _ _)
                  clear hw hsm b8
                  go_wp2_with fail
                  refine (diskRuns_walk w9).mono ?_
                  rintro e w10 ⟨rfl, c10⟩
                  have b10 := b9.trans (c10.mono b9.size)
                  go_wp2_with fail
                  go_ret
                  exact ⟨rfl, b10⟩
            · have hi4 : ¬ (k : Int) < (ls.length : Int) := by omega
              have ht := own_tail hinv.out (by omega) (tl := tl) (by omega)
              obtain ⟨dA, hA1, hA2, hA3⟩ := ht
              obtain ⟨B, n, hleft, hB⟩ := own_left hA3 picks
              have hBC := okD_crash hA2 picks
              obtain ⟨dB, hdB⟩ : ∃ dB, crashD dA picks = dB := ⟨_, rfl⟩
              rw [hdB] at hB hBC
              have hB2 := own_stays hB picks
              obtain ⟨dC, hdC⟩ : ∃ dC, crashD dB picks = dC := ⟨_, rfl⟩
              have hCok := okD_crash hBC picks
              rw [hdC] at hB2 hCok
              have happ := lAppend dd (hinv.out.ok (by omega)) hA1 (by decide) (Ht.out.ext hb) (fun hne q hq => .inl (bytes_in Ht.out hne q hq))
              have hrB : readD dB sOwn = some B := by rw [read_getF, hB]; rfl
              have hrC : readD dC sOwn = some B := by rw [read_getF, hB2]; rfl
              have HA2 := Lib.hid hA2
              have HBC := Lib.hid hBC
              have HCok := Lib.hid hCok
              have HdB := Lib.hid hdB
              have HdC := Lib.hid hdC
              have HrB := Lib.hid hrB
              have HrC := Lib.hid hrC
              have Hle := Lib.hid hleft
              have hBl := hleft.len
              have hBn := hleft.le
              have hB6 : B.length ≤ 600 := by omega
              have hBk : ¬ (B.length : Int) < (kp.length : Int) := by omega
              have hBt : ¬ (kp.length : Int) + (tl.length : Int) < (B.length : Int) := by omega
              clear hA1 hA2 hA3 hleft hB hBC hdB hB2 hCok hdC hrB hrC hinv hBl hBn
              go_wp2_with fail
              refine happ.mono ?_
              rintro e w2 ⟨rfl, d2, c2⟩
              have b2 := hb.trans (c2.gx dd.size)
              have hcr := lCrash d2 HA2.out HdB.out (Hp.out.ext b2) (fun hne q hq => .inl (ints_in Hp.out hne q hq)) (fun x hx => (Hpm.out x hx).2)
              clear happ dd c2 hb
              go_wp2_with fail
              refine hcr.mono ?_
              rintro e w4 ⟨rfl, d4, c4⟩
              have b4 := b2.trans (c4.gx d2.size)
              have hrd := lRead d4 HBC.out sOwn HrB.out
              clear hcr d2 c4 b2
              go_wp2_with fail
              refine hrd.mono ?_
              rintro e w5 ⟨⟨r, rfl, ownr⟩, c5⟩
              have d5 := d4.more (Y := fun k => r.ownBlock = some k) c5 (fun k hk => .inr (ownr.lt k hk))
              have b5 := b4.trans (c5.mono b4.size)
              have hr1 : (some B : Option (List UInt8)).getD [] = B := rfl
              have hr2 : (some B : Option (List UInt8)).isSome = true := rfl
              rw [hr1] at ownr
              rw [hr2]
              have ownr0 := ownr.base0
              clear hr1 hr2 hrd d4 c5 b4 ownr
              obtain ⟨pr, cr, hvr, hsub, hown⟩ := cutV ownr0 (n := kp.length) (by have := Hle.out.len; omega)
              subst hvr
              have hslF := fun W => run_sub_to tU8 (P := Try.prog) ownr0.bytes .i64 (kp.length : Int) kp.length rfl (by have := Hle.out.len; omega) W
              rw [hsub] at hslF
              rw [Hle.out.pre] at hown
              have hsm := sameBytes _ _ kp kp w5 hown.bytes (Hk.out.ext b5)
              rw [decide_eq_true rfl] at hsm
              clear hsub hown
              go_wp2_with fail
              refine hsm.mono ?_
              rintro e w6 ⟨rfl, nn, hw⟩
              have b6 : Below w0.heap.size w0 w6 := by rw [hw]; exact b5.trans (below_drawn _ _ _)
              have d6 : DwS w0 (fun k => (Value.slice pr B.length cr).ownBlock = some k) gD dB w6 := by rw [hw]; exact d5.drewN _
              have ownr6 : OwnB w6 0 5 (.slice pr B.length cr) B := by rw [hw]; exact ownr0.drewN _
              clear hsm hslF hw b5 d5 ownr0
              go_wp2_with fail
              go_loopw [15] (fun i wr => ∃ (j : Nat), j ≤ n ∧ i = .int .i64 j ∧ OwnB wr 0 5 (.slice pr B.length cr) B ∧ DwS w0 (fun k => (Value.slice pr B.length cr).ownBlock = some k) gD dB wr ∧ Below w0.heap.size w0 wr) (fun i _ => n - (intOf i).toNat)
              case atStart => exact ⟨0, by omega, rfl, ownr6, d6, b6⟩
              case round =>
                clear ownr6 d6 b6
                obtain ⟨j, hj, rfl, own, dj, hbj⟩ := hrel
                have hj0 : (0 : Int) ≤ (j : Int) := by omega
                have hlen := Hle.out.len
                have hle2 := Hle.out.le
                by_cases hjn : j < n
                · have hij : (j : Int) < (B.length : Int) - (kp.length : Int) := by omega
                  have hjB : kp.length + j < B.length := by omega
                  have hjt : j < tl.length := by omega
                  have hat := Hle.out.at_ j hjn
                  rw [List.getElem?_eq_getElem hjB] at hat
                  obtain ⟨gq, cq, hsh, _, hgq, _, hcm⟩ := own.head (by omega)
                  simp only [Value.slice.injEq, true_and] at hsh
                  obtain ⟨rfl, rfl⟩ := hsh
                  have cb := own.cellAt rfl (kp.length + j) hjB
                  obtain ⟨p5, c5, e5, _, _, _, h5⟩ := (Ht.out.ext hbj).form
                  simp only [Value.slice.injEq, true_and] at e5
                  obtain ⟨rfl, rfl⟩ := e5
                  obtain ⟨tb, tz, rfl, htc⟩ := h5 (by omega)
                  have ct5 := htc j hjt
                  have hij1 : (kp.length : Int) + (j : Int) < (B.length : Int) := by omega
                  have hij2 : (j : Int) < (tl.length : Int) := by omega
                  generalize B[kp.length + j] = x at *
                  generalize tl[j] = y at *
                  have hx1 : (0 : Int) ≤ (x.toNat : Int) := by omega
                  have hx2 : (x.toNat : Int) ≤ 255 := by have := x.toNat_lt; omega
                  have hy1 : (0 : Int) ≤ (y.toNat : Int) := by omega
                  have hy2 : (y.toNat : Int) ≤ 255 := by have := y.toNat_lt; omega
                  clear hlen hle2 hcm htc h5
                  by_cases hxy : x = y
                  · subst hxy
                    clear hat
                    go_wp2_with fail
                    go_roundw
                    case rel => first | exact ⟨j + 1, by omega, by go_num, own, dj, hbj⟩ | exact ⟨j + 1, by omega, by go_num⟩ | ((repeat apply Exists.intro); exact ⟨⟨j + 1, by omega, by go_num, own, dj, hbj⟩, rfl⟩)
                    case measure => simp [intOf]; omega
                  · have hat2 : j + 1 = n ∧ x = y ^^^ 255 := by
                      rcases hat with h | ⟨h1, h2⟩
                      · exact absurd (Option.some.inj h) hxy
                      · exact ⟨h1, Option.some.inj h2⟩
                    obtain ⟨hjn1, rfl⟩ := hat2
                    have hlen := Hle.out.len
                    have hne : ¬ ((y ^^^ 255).toNat : Int) = (y.toNat : Int) := fun h => hxy (UInt8.toNat_inj.1 (by omega))
                    have hlast : ¬ (j : Int) < (B.length : Int) - (kp.length : Int) - 1 := by omega
                    have Hjn1 := Lib.hid hjn1
                    clear hat hxy hlen hjn1
                    go_wp2_with fail
                    go_roundw
                    case rel => first | exact ⟨j + 1, by omega, by go_num, own, dj, hbj⟩ | exact ⟨j + 1, by omega, by go_num⟩ | ((repeat apply Exists.intro); exact ⟨⟨j + 1, by omega, by go_num, own, dj, hbj⟩, rfl⟩)
                    case measure => simp [intOf]; omega
                · have hij : ¬ (j : Int) < (B.length : Int) - (kp.length : Int) := by omega
                  have hcr := lCrash dj HBC.out HdC.out (Hp.out.ext hbj) (fun hne q hq => .inl (ints_in Hp.out hne q hq)) (fun x hx => (Hpm.out x hx).2)
                  clear hlen hle2
                  go_wp2_with fail
                  refine hcr.mono ?_
                  rintro e w7 ⟨rfl, d7, c7⟩
                  have own7 := keepX c7 own (fun k hk => hk)
                  have b7 := hbj.trans (c7.gx dj.size)
                  have hrd := lRead d7 HCok.out sOwn HrC.out
                  clear hcr dj c7 own hbj
                  go_wp2_with fail
                  refine hrd.mono ?_
                  rintro e w8 ⟨⟨r8, rfl, own8⟩, c8⟩
                  have b8 := b7.trans (c8.mono b7.size)
                  have hr1 : (some B : Option (List UInt8)).getD [] = B := rfl
                  have hr2 : (some B : Option (List UInt8)).isSome = true := rfl
                  rw [hr1] at own8
                  rw [hr2]
                  have hsm := sameBytes _ _ B B w8 (own7.ext c8).bytes own8.bytes
                  rw [decide_eq_true rfl] at hsm
                  clear hrd d7 b7 own7 own8 c8 hr1 hr2
                  go_wp2_with fail
                  refine hsm.mono ?_
                  rintro e w9 ⟨rfl, nn, hw⟩
                  have b9 : Below w0.heap.size w0 w9 := by rw [hw]; exact b8.trans (below_drawn _ _ _)
                  clear hw hsm b8
                  go_wp2_with fail
                  refine (diskRuns_walk w9).mono ?_
                  rintro e w10 ⟨rfl, c10⟩
                  have b10 := b9.trans (c10.mono b9.size)
                  go_wp2_with fail
                  go_ret
                  exact ⟨rfl, b10⟩
end Go.Proofs.Ytklopbjlpffnbaa
