/- The walk of DiskArms. -/
import Derived.Test.YtklopbjlpffnbaaDskKept
import Derived.Test.YtklopbjlpffnbaaDskAsk
namespace Go.Proofs.Ytklopbjlpffnbaa
open Go Go.RowKit BigFrame Go.PlainAid
attribute [local go_sem] After.same
def fF : ByteArray := ⟨#[102]⟩
/-- the one file, if any -/
def fsA (K i : Nat) (L : List UInt8) : List Fil := if K = 0 ∨ i = 0 then [] else [⟨fF, L, 0⟩]
def stA (K i : Nat) (L : List UInt8) : Dk := ⟨fsA K i L, decide (K < i), ((K - min i K : Nat) : Int)⟩
theorem fsA_tot (K i : Nat) (L : List UInt8) : totD (fsA K i L) ≤ L.length := by unfold fsA; split <;> simp [totD]
theorem add_fsA {K i : Nat} {L p : List UInt8} (h : i < K) (h0 : i = 0 → L = []) : addD fF p (fsA K i L) = fsA K (i + 1) (L ++ p) := by
  unfold fsA
  by_cases hi : i = 0
  · rw [if_pos (.inr hi), if_neg (by omega), add_nil, h0 hi]; rfl
  · rw [if_neg (by omega), if_neg (by omega), add_one]
theorem arm_step {K i : Nat} {L p : List UInt8} (hL : L.length + p.length ≤ 4194304) (h0 : (K = 0 ∨ i = 0) → L = []) : appendD (stA K i L) fF p = (if i < K then 0 else 18, stA K (i + 1) (if i < K then L ++ p else L)) := by
  have hn : namedD fF = true := by kernel_rfl
  by_cases hk : K < i
  · have e : stA K i L = ⟨fsA K i L, true, ((K - min i K : Nat) : Int)⟩ := by unfold stA; rw [decide_eq_true hk]
    rw [e, append_off, if_neg (by omega), if_neg (by omega)]
    have e2 : stA K (i + 1) L = ⟨fsA K i L, true, ((K - min i K : Nat) : Int)⟩ := by
      unfold stA
      rw [decide_eq_true (by omega), show min (i + 1) K = min i K from by omega]
      congr 1
      unfold fsA
      by_cases hK : K = 0
      · rw [if_pos (.inl hK), if_pos (.inl hK)]
      · rw [if_neg (by omega), if_neg (by omega)]
    rw [e2]
  · unfold appendD
    have hoff : (stA K i L).off = false := decide_eq_false hk
    rw [if_neg (by rw [hoff]; decide), if_neg (by rw [hn]; decide), if_neg (by have := fsA_tot K i L; show ¬ 4194304 < totD (fsA K i L) + _; omega)]
    by_cases hik : i < K
    · rw [if_pos hik, if_pos hik, stepD_yes (by rw [powD_eq]; exact decide_eq_true (by show ((K - min i K : Nat) : Int) ≠ 0; omega)), powD_eq]
      show (0, (⟨addD fF p (fsA K i L), powO (decide (K < i)) ((K - min i K : Nat) : Int), powL ((K - min i K : Nat) : Int)⟩ : Dk)) = _
      rw [add_fsA hik (fun h => h0 (.inr h))]
      have e1 : powO (decide (K < i)) ((K - min i K : Nat) : Int) = false := by unfold powO; rw [decide_eq_false hk, decide_eq_false (by omega)]; rfl
      have e2 : powL ((K - min i K : Nat) : Int) = ((K - min (i + 1) K : Nat) : Int) := by unfold powL; rw [if_pos (by omega)]; omega
      rw [e1, e2]
      unfold stA
      rw [decide_eq_false (show ¬ K < i + 1 by omega)]
    · have hiK : i = K := by omega
      rw [if_neg hik, if_neg hik, stepD_no (by rw [powD_eq]; exact decide_eq_false (by show ¬ ((K - min i K : Nat) : Int) ≠ 0; omega)), powD_eq]
      show (18, (⟨fsA K i L, powO (decide (K < i)) ((K - min i K : Nat) : Int), powL ((K - min i K : Nat) : Int)⟩ : Dk)) = _
      have e3 : fsA K i L = fsA K (i + 1) L := by
        unfold fsA
        by_cases hK : K = 0
        · rw [if_pos (.inl hK), if_pos (.inl hK)]
        · rw [if_neg (by omega), if_neg (by omega)]
      have e1 : powO (decide (K < i)) ((K - min i K : Nat) : Int) = true := by
        unfold powO
        have z : ((K - min i K : Nat) : Int) = 0 := by omega
        rw [z]; simp
      have e2 : powL ((K - min i K : Nat) : Int) = ((K - min (i + 1) K : Nat) : Int) := by unfold powL; rw [if_neg (by omega)]; omega
      rw [e1, e2, e3]
      unfold stA
      rw [decide_eq_true (show K < i + 1 by omega)]
theorem okD_stA {K i : Nat} {L : List UInt8} (hL : L.length ≤ 4194304) (hK : K ≤ 20) : okD (stA K i L) = true := by
  have h1 : (fsA K i L).length ≤ 1 := by unfold fsA; split <;> simp
  refine okD_of ⟨?_, ?_, ?_, ?_, ?_⟩ ?_
  · show (fsA K i L).length ≤ _; omega
  · have := fsA_tot K i L; show totD (fsA K i L) ≤ _; omega
  · intro f hf
    have hf' : f ∈ fsA K i L := hf
    unfold fsA at hf'
    split at hf'
    · cases hf'
    · simp only [List.mem_cons, List.not_mem_nil, or_false] at hf'; subst hf'; exact Nat.zero_le _
  · show -1 ≤ ((K - min i K : Nat) : Int); omega
  · show ((K - min i K : Nat) : Int) ≤ _; omega
  · show (fsA K i L).length ≤ _; omega
theorem read_stA {K i : Nat} {L : List UInt8} (h0 : (K = 0 ∨ i = 0) → L = []) : ∃ o, readD (stA K i L) fF = o ∧ o.getD [] = L := by
  refine ⟨_, rfl, ?_⟩
  by_cases h : K = 0 ∨ i = 0
  · rw [h0 h]
    have e : (stA K i []).fs = [] := if_pos h
    unfold readD; rw [e]; rfl
  · have e : (stA K i L).fs = [⟨fF, L, 0⟩] := if_neg h
    unfold readD; rw [e, idx_one]; rfl
def stC (K i : Nat) : Dk := ⟨fsA K i [], false, -1⟩
theorem crash_stA (K i : Nat) (L : List UInt8) : crashD (stA K i L) [] = stC K i := by
  unfold crashD stA stC fsA
  by_cases h : K = 0 ∨ i = 0
  · rw [if_pos h, if_pos h]; rfl
  · rw [if_neg h, if_neg h]
    have e : tornD 0 ⟨fF, L, 0⟩ = ⟨fF, [], 0⟩ := by
      rw [tornD_eq (f := ⟨fF, L, 0⟩) (u := L.length) (by simp)]
      have e2 : tornB (0 : Int).toNat L.length 0 L = [] := by unfold tornB; simp
      show (⟨fF, tornB (0 : Int).toNat L.length 0 L, (tornB (0 : Int).toNat L.length 0 L).length⟩ : Fil) = _
      rw [e2]; rfl
    show (⟨[tornD 0 ⟨fF, L, 0⟩], false, -1⟩ : Dk) = _
    rw [e]
theorem read_stC (K i : Nat) : ∃ o, readD (stC K i) fF = o ∧ o.getD [] = [] := by
  refine ⟨_, rfl, ?_⟩
  unfold readD stC fsA
  by_cases h : K = 0 ∨ i = 0
  · simp only [if_pos h]; rfl
  · simp only [if_neg h, idx_one]; rfl
theorem okD_stC (K i : Nat) : okD (stC K i) = true := by
  unfold stC fsA
  by_cases h : K = 0 ∨ i = 0
  · rw [if_pos h]; rfl
  · rw [if_neg h]; rfl
theorem app_stC (K i : Nat) : ∃ d', appendD (stC K i) ⟨#[103]⟩ [] = (0, d') := by
  unfold stC fsA
  by_cases h : K = 0 ∨ i = 0
  · rw [if_pos h]; exact ⟨_, Prod.ext (by kernel_rfl) rfl⟩
  · rw [if_neg h]; exact ⟨_, Prod.ext (by kernel_rfl) rfl⟩
theorem DwS.app {w0 w w' : World} {g : Nat} {d : Dk} {v v' : Value} (h : DwS w0 (fun k => v.ownBlock = some k) g d w) (hg : w.grownBy w' v.ownBlock) (hw : v'.ownBlock = v.ownBlock ∨ v'.ownBlock = some w.heap.size) (hl : ∀ k, v'.ownBlock = some k → k < w'.heap.size) : DwS w0 (fun k => v'.ownBlock = some k) g d w' := by
  obtain ⟨⟨F, h1, h2⟩, h3⟩ := h
  refine ⟨⟨F, h1.chg (Chg.of_grown (F := fun k => v.ownBlock = some k) hg fun k hk => hk) (fun k hF hY => (h2 k hF).2 hY), fun k hF => ⟨(h2 k hF).1, fun hY => ?_⟩⟩, hl⟩
  rcases hw with hw | hw
  · exact (h2 k hF).2 (by rw [← hw]; exact hY)
  · rw [hw] at hY
    have := h1.lt k hF
    cases hY; omega
/-- as the law has it: its first 50 bytes -/
theorem first50 (v : Value) (l : List UInt8) {w : World} (h : Bytes w v l) (hl : 50 < l.length) : ∃ u, (∀ W, (Instr.slice 25 v none (some (.int .i64 50)) none).run Try.prog W = .ok u W) ∧ Bytes w u (l.take 50) := by
  obtain ⟨p, c, rfl⟩ := h.shape
  refine ⟨subV (.slice p l.length c) 0 50 1, fun W => run_sub_to tU8 (P := Try.prog) h .i64 50 50 rfl (by omega) W, ?_⟩
  have h2 := h.sub 0 50 (Nat.zero_le _) (by omega)
  simpa using h2
theorem bytes_in {w : World} {v : Value} {l : List UInt8} (h : Bytes w v l) : l ≠ [] → ∀ k, v.ownBlock = some k → k < w.heap.size := fun hn => Cells.lt h (by rw [List.length_map]; exact List.length_pos_iff.2 hn)
set_option maxHeartbeats 4000000 in
set_option maxRecDepth 100000 in
theorem diskArms_walk (n : Int) (v : Value) (ls : List BsV) (w : World) (hv : Rd bsE w v ls) (hd : ∀ x ∈ ls, Bytes w x.v x.data) :
    Calls Try.prog 4 #[.int .i64 n, v] w fun e w' => e = .returned (.bool true) ∧ Below w.heap.size w w' := by
  obtain ⟨w0, hw0⟩ : ∃ w0, w0 = w := ⟨_, rfl⟩
  rw [← hw0] at hv hd ⊢
  clear hw0
  have Hd := Lib.hid hd
  obtain ⟨pv, cv, rfl, hl1, hl2, _, _⟩ := hv.form
  unfold maxLen at hl2
  clear hd
  go_enter Try.func4, Try.ntmps4
  go_wp2_with fail
  refine (lNew w0 w0 (Nat.le_refl _) noX (fun _ h => h.elim)).mono ?_
  rintro e w1 ⟨rfl, d1, b1⟩
  have gDe : ∃ gD, gD = w0.heap.size := ⟨_, rfl⟩
  obtain ⟨gD, hgD⟩ := gDe
  rw [← hgD] at d1 ⊢
  clear hgD
  go_wp2_with fail
  refine (withinCalls n 0 20 _ (by decide) (by decide) (by decide)).mono ?_
  rintro e w' ⟨rfl, rfl⟩
  obtain ⟨K, hK⟩ : ∃ K : Nat, within n 0 20 = (K : Int) := ⟨(within n 0 20).toNat, by have := within_bounds n 0 20 (by decide); omega⟩
  have hK20 : K ≤ 20 := by have := (within_bounds n 0 20 (by decide)).2; omega
  rw [hK]
  clear hK
  have harm := lArm d1 (K : Int)
  have ha : armD dk0 (K : Int) = stA K 0 [] := by
    have e1 : armD dk0 (K : Int) = ⟨[], false, (K : Int)⟩ := by unfold armD; rw [if_neg (by omega)]; rfl
    have e2 : stA K 0 [] = ⟨[], false, (K : Int)⟩ := by unfold stA fsA; rw [if_pos (.inr rfl), decide_eq_false (by omega), show K - min 0 K = K from by omega]
    rw [e1, e2]
  rw [ha] at harm
  clear ha
  go_wp2_with fail
  refine harm.mono ?_
  rintro e w2 ⟨rfl, d2, c2⟩
  have b2 := b1.trans (c2.gx d1.size)
  have d2' : DwS w0 (fun k => (Value.slice none 0 0).ownBlock = some k) gD (stA K 0 []) w2 := d2.mono fun k hk => by simp [Value.ownBlock] at hk
  have own2 := OwnB.nil w2 w0.heap.size 5
  clear harm d1 b1 c2 d2
  go_wp2_with fail
  go_loopw [7, 8, 9, 10] (fun va i _ _ wr => ∃ (k : Nat) (L : List UInt8), k ≤ ls.length ∧ k ≤ 30 ∧ i = .int .i64 k ∧ L.length ≤ 50 * k ∧ Hid ((K = 0 ∨ k = 0) → L = []) ∧ DwS w0 (fun k => va.ownBlock = some k) gD (stA K k L) wr ∧ OwnB wr w0.heap.size 5 va L ∧ Below w0.heap.size w0 wr) (fun _ i _ _ _ => ls.length - (intOf i).toNat)
  case atStart => exact ⟨0, [], by omega, by omega, rfl, by simp, fun _ => rfl, d2', own2, b2⟩
  case round =>
    clear d2' own2 b2
    obtain ⟨k, L, hk, hk30, rfl, hL, hL0, dd, own, hb⟩ := hrel
    have hk0 : (0 : Int) ≤ (k : Int) := by omega
    by_cases hlt : k < ls.length ∧ k < 30
    · obtain ⟨hlt, hlt3⟩ := hlt
      have hi : (k : Int) < (ls.length : Int) := by omega
      have hi3 : (k : Int) < 30 := by omega
      obtain ⟨pb, po, rfl⟩ := Rd.blk hv (by omega)
      have hat : wr.cell? ⟨pb, po + k, none⟩ = some (.slice ls[k].p ls[k].data.length ls[k].c) := by
        have h1 := (hv.ext hb).at_ hlt 0 (by decide)
        have h2 : po + (k * bsE.sz + 0) = po + k := by show po + (k * 1 + 0) = _; omega
        rw [h2] at h1; exact h1
      have hx := Hd.out _ (List.getElem_mem hlt)
      obtain ⟨x, hxe⟩ : ∃ x, ls[k] = x := ⟨_, rfl⟩
      rw [hxe] at hat hx
      clear hxe
      have hx' : Bytes w0 (.slice x.p x.data.length x.c) x.data := hx
      have Hx := Lib.hid hx'
      clear hx hx'
      go_upto_if 39 with (fail)
      go_cut [9] from 37 to 72 (fun q wi => ∃ p : List UInt8, p.length ≤ 50 ∧ Bytes w0 q p ∧ wi = wr)
      case first =>
        by_cases h5 : 50 < x.data.length
        · have h5i : (50 : Int) < (x.data.length : Int) := by omega
          obtain ⟨u, hu1, hu2⟩ := first50 _ _ Hx.out h5
          go_wp2_with fail
          go_meet
          exact ⟨_, by rw [List.length_take]; omega, hu2, rfl⟩
        · have h5i : ¬ (50 : Int) < (x.data.length : Int) := by omega
          go_wp2_with fail
          go_meet
          exact ⟨x.data, by omega, Hx.out, rfl⟩
      case rest =>
        obtain ⟨p, hp, hbp, hw⟩ := hcut
        obtain rfl : wc = wr := hw
        clear Hx hat
        have hwr : ∃ z, z = wc := ⟨_, rfl⟩
        obtain ⟨wq, hwq⟩ := hwr
        subst hwq
        have hst := arm_step (K := K) (i := k) (L := L) (p := p) (by omega) hL0.out
        have happ := lAppend dd (okD_stA (by omega) hK20) hst (by decide) (hbp.ext hb) (fun hne k hk => .inl (bytes_in hbp hne k hk))
        have hHb := Lib.hid hbp
        obtain ⟨pq, cq, rfl⟩ := hbp.shape
        obtain ⟨pA, cA, rfl⟩ := own.bytes.shape
        by_cases hkK : k < K
        · rw [if_pos hkK, if_pos hkK] at happ
          have hiK : (k : Int) < (K : Int) := by omega
          clear hst
          go_wp2_with fail
          refine happ.mono ?_
          rintro e w5 ⟨rfl, d5, c5⟩
          have b5 := hb.trans (c5.gx dd.size)
          have own5 := keepX c5 own (fun k hk => hk)
          have hoff := lOff d5 (b := false) (by show decide (K < k + 1) = false; exact decide_eq_false (by omega))
          have hsrc : Bytes w5 (.slice pq p.length cq) p := hHb.out.ext b5
          have hd5 := Lib.hid d5
          clear happ dd own c5 hb
          go_wp2_with fail
          refine hoff.mono ?_
          rintro e w' ⟨rfl, rfl⟩
          clear hoff d5
          go_wp2_with (first | (at_builtin; refine wpList_appW tU8 rfl rfl own5 rfl hsrc rfl (by omega) b5.size ?_; intro v6 w6 own6 g6 b6 h6) | fail)
          have hl6 : ∀ k, v6.ownBlock = some k → k < w6.heap.size := fun k hk => (Own.lt own6 k hk).2
          have d6 := hd5.out.app g6 h6 hl6
          have bb6 := b5.trans b6
          have own6' := OwnB.snoc own6
          have hL6 : (L ++ p).length ≤ 50 * (k + 1) := by rw [List.length_append]; omega
          have hz6 : Hid ((K = 0 ∨ k + 1 = 0) → L ++ p = []) := fun h => by omega
          go_roundw
          case rel => first | exact ⟨k + 1, L ++ p, by omega, by omega, by go_num, hL6, hz6, d6, own6', bb6⟩ | ((repeat apply Exists.intro); exact ⟨⟨k + 1, L ++ p, by omega, by omega, by go_num, hL6, hz6, d6, own6', bb6⟩, rfl⟩)
          case measure => simp [intOf]; omega
        · rw [if_neg hkK, if_neg hkK] at happ
          have hiK : ¬ (k : Int) < (K : Int) := by omega
          have hiK2 : (K : Int) ≤ (k : Int) := by omega
          clear hst
          go_wp2_with fail
          refine happ.mono ?_
          rintro e w5 ⟨rfl, d5, c5⟩
          have b5 := hb.trans (c5.gx dd.size)
          have own5 := keepX c5 own (fun k hk => hk)
          have hoff := lOff d5 (b := true) (by show decide (K < k + 1) = true; exact decide_eq_true (by omega))
          have hd5 := Lib.hid d5
          clear happ dd own c5 hb
          go_wp2_with fail
          refine hoff.mono ?_
          rintro e w' ⟨rfl, rfl⟩
          clear hoff d5
          have hz6 : Hid ((K = 0 ∨ k + 1 = 0) → L = []) := fun h => by
            rcases h with h | h
            · exact hL0.out (.inl h)
            · omega
          go_wp2_with fail
          go_roundw
          case rel => first | exact ⟨k + 1, L, by omega, by omega, by go_num, by omega, hz6, hd5.out, own5, b5⟩ | ((repeat apply Exists.intro); exact ⟨⟨k + 1, L, by omega, by omega, by go_num, by omega, hz6, hd5.out, own5, b5⟩, rfl⟩)
          case measure => simp [intOf]; omega
    · obtain ⟨o1, ho1, ho1g⟩ := read_stA (K := K) (i := k) (L := L) hL0.out
      have hrd := lRead dd (okD_stA (by omega) hK20) fF ho1
      rw [ho1g] at hrd
      clear ho1 ho1g
      go_upto_region 18 with (fail)
      all_goals
        go_wp2_with fail
        refine hrd.mono ?_
        rintro e w5 ⟨⟨r, rfl, ownr⟩, c5⟩
        have b5 := hb.trans (c5.mono hb.size)
        have d5 := dd.ext c5
        have own5 := own.ext c5
        have hsm := sameBytes _ _ L L w5 ownr.bytes own5.bytes
        rw [decide_eq_true rfl] at hsm
        clear hrd dd own hb c5 ownr
        go_wp2_with fail
        refine hsm.mono ?_
        rintro e w6 ⟨rfl, nn, hw⟩
        have b6 : Below w0.heap.size w0 w6 := by rw [hw]; exact b5.trans (below_drawn _ _ _)
        have d6 : DwS w0 noX gD (stA K k L) w6 := by rw [hw]; exact (d5.drewN _).mono fun _ h => h.elim
        have hcr := lCrash d6 (okD_stA (by omega) hK20) (crash_stA K k L) (Rd.nil w6 : Rd intsE w6 (.slice none 0 0) []) (fun h => absurd rfl h) (by simp)
        clear hw hsm b5 d5 own5
        go_wp2_with fail
        refine hcr.mono ?_
        rintro e w7 ⟨rfl, d7, c7⟩
        have b7 := b6.trans (c7.gx d6.size)
        obtain ⟨o2, ho2, hg2⟩ := read_stC K k
        have hrd2 := lRead d7 (okD_stC K k) fF ho2
        rw [hg2] at hrd2
        clear hcr d6 c7 b6 ho2 hg2
        go_wp2_with fail
        refine hrd2.mono ?_
        rintro e w8 ⟨⟨r8, rfl, own8⟩, c8⟩
        obtain ⟨p8, q8, rfl⟩ := own8.bytes.shapeN (n := 0) rfl
        have b8 := b7.trans (c8.mono b7.size)
        have d8 := d7.ext c8
        have hoff := lOff d8 (b := false) rfl
        clear hrd2 own8 d7 c8 b7
        go_wp2_with fail
        refine hoff.mono ?_
        rintro e w' ⟨rfl, rfl⟩
        obtain ⟨dq, hap⟩ := app_stC K k
        have happ := lAppend d8 (okD_stC K k) hap (by decide) (Bytes.nil w8) (fun h => absurd rfl h)
        clear hap hoff
        go_wp2_with fail
        refine happ.mono ?_
        rintro e w9 ⟨rfl, d9, c9⟩
        have b9 := b8.trans (c9.gx d8.size)
        clear happ d9 d8 c9 b8
        go_wp2_with fail
        refine (diskRuns_walk w9).mono ?_
        rintro e w10 ⟨rfl, c10⟩
        have b10 := b9.trans (c10.mono b9.size)
        go_wp2_with fail
        go_ret
        exact ⟨rfl, b10⟩
end Go.Proofs.Ytklopbjlpffnbaa
