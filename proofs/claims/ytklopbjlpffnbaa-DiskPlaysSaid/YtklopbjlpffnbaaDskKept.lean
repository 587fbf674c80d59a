/- The walk of DiskKept. -/
import Derived.Test.YtklopbjlpffnbaaDskRuns
namespace Go.Proofs.Ytklopbjlpffnbaa
open Go Go.RowKit BigFrame Go.PlainAid
attribute [local go_sem] After.same
def oneF (s : ByteArray) (p : List UInt8) (k : Nat) (off : Bool) (n : Int) : Dk := ⟨[⟨s, p, k⟩], off, n⟩
theorem idx_one (s : ByteArray) (p : List UInt8) (k : Nat) : idxD [⟨s, p, k⟩] s = 0 := by
  show (if hasN s ⟨s, p, k⟩ = true then ((0 : Nat) : Int) else _) = 0
  exact if_pos (eqS_refl _)
theorem add_one (s : ByteArray) (l p : List UInt8) (k : Nat) : addD s p [⟨s, l, k⟩] = [⟨s, l ++ p, k⟩] := by
  rw [addD_eq]
  have h : mD [⟨s, l, k⟩] s = [⟨s, l, k⟩] := by unfold mD; rw [idx_one, if_neg (by decide)]
  rw [h, idx_one]; rfl
theorem add_nil (s : ByteArray) (p : List UInt8) : addD s p [] = [⟨s, p, 0⟩] := by
  rw [addD_eq]
  have h : mD [] s = [⟨s, [], 0⟩] := rfl
  rw [h, idx_one]; rfl
theorem hNO (s : ByteArray) (l : List UInt8) (k : Nat) (n : Int) : ¬ (oneF s l k false n).off = true := fun h => Bool.noConfusion (show false = true from h)
theorem OwnB.base0 {w : World} {B : Nat} {e : TypeId} {v : Value} {l : List UInt8} (h : OwnB w B e v l) : OwnB w 0 e v l := Own.base h (Nat.zero_le _)
theorem append_first {s : ByteArray} (hn : namedD s = true) {p : List UInt8} (hp : p.length ≤ 4194304) : appendD dk0 s p = (0, oneF s p 0 false (-1)) := by
  unfold appendD
  rw [if_neg (by decide), if_neg (by rw [hn]; decide), if_neg (by show ¬ 4194304 < 0 + _; omega)]
  rw [stepD_yes rfl]
  show (0, ({ (powD dk0).2 with fs := addD s p [] } : Dk)) = _
  rw [add_nil]; rfl
theorem append_more {s : ByteArray} (hn : namedD s = true) {l p : List UInt8} {k : Nat} {n : Int} (h : l.length + p.length ≤ 4194304) (h0 : n ≠ 0) : appendD (oneF s l k false n) s p = (0, oneF s (l ++ p) k false (powL n)) := by
  unfold appendD
  rw [if_neg (hNO _ _ _ _), if_neg (by rw [hn]; decide), if_neg (by show ¬ 4194304 < totD [_] + _; simp [totD]; omega)]
  rw [stepD_yes (by rw [powD_eq]; exact decide_eq_true h0), powD_eq]
  show (0, (⟨addD s p [_], _, _⟩ : Dk)) = _
  rw [add_one]
  unfold oneF
  have e : powO false n = false := by unfold powO; rw [decide_eq_false h0]; rfl
  show (0, (⟨_, powO false n, _⟩ : Dk)) = _
  rw [e]
theorem append_dead {s : ByteArray} (hn : namedD s = true) {l p : List UInt8} {k : Nat} (h : l.length + p.length ≤ 4194304) : appendD (oneF s l k false 0) s p = (18, oneF s l k true 0) := by
  unfold appendD
  rw [if_neg (hNO _ _ _ _), if_neg (by rw [hn]; decide), if_neg (by show ¬ 4194304 < totD [_] + _; simp [totD]; omega)]
  rfl
theorem append_off (fs : List Fil) (n : Int) (s : ByteArray) (p : List UInt8) : appendD ⟨fs, true, n⟩ s p = (18, ⟨fs, true, n⟩) := if_pos rfl
theorem read_one (s : ByteArray) (p : List UInt8) (k : Nat) (o : Bool) (n : Int) : readD (oneF s p k o n) s = some p := by
  unfold readD oneF; rw [idx_one]; rfl
theorem ok_one {s : ByteArray} {p : List UInt8} {k : Nat} {o : Bool} {n : Int} (h : p.length ≤ 4194304) (hk : k ≤ p.length) (h1 : -1 ≤ n) (h2 : n ≤ 9223372036854775807) : okD (oneF s p k o n) = true := by
  refine okD_of ⟨by simp [oneF], by simp [oneF, totD]; exact h, ?_, h1, h2⟩ (by simp [oneF])
  intro f hf; simp only [oneF, List.mem_cons, List.not_mem_nil, or_false] at hf; subst hf; exact hk
theorem DwS.chg {w0 w w' : World} {X Y : Nat → Prop} {g : Nat} {d : Dk} (h : DwS w0 X g d w) (c : Chg Y w w') (hy : ∀ k, Y k → X k) : DwS w0 X g d w' := by
  obtain ⟨⟨F, h1, h2⟩, h3⟩ := h
  exact ⟨⟨F, h1.chg c (fun k hF hY => (h2 k hF).2 (hy k hY)), h2⟩, fun k hk => Nat.lt_of_lt_of_le (h3 k hk) c.size⟩
theorem DwS.setX {w0 w : World} {X : Nat → Prop} {g b : Nat} {d : Dk} (h : DwS w0 X g d w) (hx : X b) (i : Nat) (u : Value) : DwS w0 X g d (w.setCell ⟨b, i, none⟩ u) :=
  h.chg (Y := fun k => k = b) (Chg.setCell (F := fun k => k = b) (Chg.refl _ w) (p := ⟨b, i, none⟩) rfl u) fun k hk => by rw [hk]; exact hx
/-- a row of bytes that was just made is aside -/
theorem DwS.aside {w0 w w' : World} {X : Nat → Prop} {g : Nat} {d : Dk} {e : TypeId} {v : Value} {l : List UInt8} (h : DwS w0 X g d w) (hb : Below w.heap.size w w') (own : OwnB w' w.heap.size e v l) : DwS w0 (fun k => X k ∨ v.ownBlock = some k) g d w' :=
  h.more hb fun k hk => hk.imp id fun e => own.lt k e
theorem sub255 (x : UInt8) : (((255 - x : UInt8).toNat : Nat) : Int) = 255 - (x.toNat : Int) := by
  have h := x.toNat_lt
  rw [UInt8.toNat_sub]; show ((_ : Nat) : Int) = _
  have e : (255 : UInt8).toNat = 255 := rfl
  rw [e]; omega
theorem keepX {w0 w w' : World} {X : Nat → Prop} {B : Nat} {e : TypeId} {v : Value} {l : List UInt8} (c : Chg (Gx w0 X) w w') (h : OwnB w B e v l) (hv : ∀ k, v.ownBlock = some k → X k) : OwnB w' B e v l :=
  c.ownB h fun k hk hG => hG.2 (hv k hk)
/-- as the law has it: its first 500 bytes -/
theorem first500 (v : Value) (l : List UInt8) {w : World} (h : Bytes w v l) (hl : 500 < l.length) : ∃ u, (∀ W, (Instr.slice 25 v none (some (.int .i64 500)) none).run Try.prog W = .ok u W) ∧ Bytes w u (l.take 500) ∧ (∀ k, u.ownBlock = some k → v.ownBlock = some k) := by
  obtain ⟨p, c, rfl⟩ := h.shape
  refine ⟨subV (.slice p l.length c) 0 500 1, fun W => run_sub_to tU8 (P := Try.prog) h .i64 500 500 rfl (by omega) W, ?_, ?_⟩
  · have h2 := h.sub 0 500 (Nat.zero_le _) (by omega)
    simpa using h2
  · obtain ⟨p', c', hsh, _, _, _, hh⟩ := h.form
    obtain ⟨b, off, rfl, _⟩ := hh (by omega)
    simp only [Value.slice.injEq, true_and] at hsh
    obtain ⟨rfl, rfl⟩ := hsh
    intro k hk
    have e : (subV (.slice (some ⟨b, off, none⟩) l.length c) 0 500 1).ownBlock = some b := by
      show (Value.slice (subP _ _ _ _) _ _).ownBlock = _
      unfold subP; split
      · rfl
      · simp [addr_add, Value.ownBlock]
    rw [e] at hk
    rw [← hk]; rfl
set_option maxHeartbeats 4000000 in
set_option maxRecDepth 100000 in
theorem diskKept_walk (v : Value) (l : List UInt8) (w : World) (hv : Bytes w v l) :
    Calls Try.prog 5 #[v] w fun e w' => e = .returned (.bool true) ∧ Below w.heap.size w w' := by
  obtain ⟨w0, hw0⟩ : ∃ w0, w0 = w := ⟨_, rfl⟩
  rw [← hw0] at hv ⊢
  clear hw0
  have Hv := Lib.hid hv
  obtain ⟨pv, cv, rfl⟩ := hv.shape
  have hcut5 : 500 < l.length → ∃ u, (∀ W, (Instr.slice 25 (.slice pv l.length cv) none (some (.int .i64 500)) none).run Try.prog W = .ok u W) ∧ Bytes w0 u (l.take 500) := fun h => by
    obtain ⟨u, h1, h2, _⟩ := first500 _ l hv h
    exact ⟨u, h1, h2⟩
  have Hc5 := Lib.hid hcut5
  clear hv hcut5
  go_enter Try.func5, Try.ntmps5
  go_upto_if 13 with (fail)
  go_cut [0] from 11 (fun q wi => ∃ p : List UInt8, p.length ≤ 500 ∧ Bytes w0 q p ∧ wi = w0)
  case first =>
    by_cases h5 : 500 < l.length
    · have hi : (500 : Int) < (l.length : Int) := by omega
      obtain ⟨u, hu1, hu2⟩ := Hc5.out h5
      go_wp2_with fail
      go_meet
      exact ⟨_, by rw [List.length_take]; omega, hu2, rfl⟩
    · have hi : ¬ (500 : Int) < (l.length : Int) := by omega
      go_wp2_with fail
      go_meet
      exact ⟨l, by omega, Hv.out, rfl⟩
  case rest =>
  obtain ⟨p, hp, hbp, hw⟩ := hcut
  obtain rfl : wc = w0 := hw
  obtain ⟨w0, hw0⟩ : ∃ z, z = wc := ⟨_, rfl⟩
  subst hw0
  clear Hv Hc5
  obtain ⟨pp, cp, rfl⟩ := hbp.shape
  go_wp2_with fail
  refine (lNew w0 w0 (Nat.le_refl _) noX (fun _ h => h.elim)).mono ?_
  rintro e w1 ⟨rfl, d1, b1⟩
  have gDe : ∃ gD, gD = w0.heap.size := ⟨_, rfl⟩
  obtain ⟨gD, hgD⟩ := gDe
  rw [← hgD] at d1 ⊢
  clear hgD
  go_wp2_with fail
  refine (roomyBytes _ p 9 9 rfl w1 (hbp.ext b1) (by omega)).mono ?_
  rintro e w2 ⟨gF, rfl, ownF, c2⟩
  have d2 := d1.more (Y := oneX gF) c2 (fun k hk => .inr (by have := ownF.lt gF rfl; rw [show k = gF from hk]; exact this))
  have hgF := (ownF.lt gF rfl).1
  have b2 := b1.trans (c2.mono b1.size)
  have ownF0 := ownF.base0
  obtain ⟨pF, cF, hvF, hsub, hown⟩ := cutV ownF0 (n := p.length) (by rw [roomy_length]; omega)
  have hslF := fun W => run_sub_to tU8 (P := Try.prog) ownF0.bytes .i64 (p.length : Int) p.length rfl (by rw [roomy_length]; omega) W
  rw [hsub] at hslF
  rw [roomy_length] at hvF
  simp only [Value.slice.injEq, true_and] at hvF
  obtain ⟨rfl, rfl⟩ := hvF
  have htk : (roomy p 9).take p.length = p := by unfold roomy; simp
  rw [htk] at hown
  have happ := lAppend (s := ⟨#[102]⟩) d2 (by kernel_rfl) (append_first (by kernel_rfl) (p := p) (by omega)) (by decide) hown.bytes one_own
  have hok3 : okD (oneF ⟨#[102]⟩ p 0 false (-1)) = true := ok_one (by omega) (Nat.zero_le _) (by decide) (by decide)
  have b1s := b1.size
  clear d1 hown hsub htk ownF c2
  go_wp2_with fail
  refine happ.mono ?_
  rintro e w3 ⟨rfl, d3, c3⟩
  have ownF3 := keepX c3 ownF0 (fun k hk => by cases hk; rfl)
  have b3 := b2.trans (c3.gx d2.size)
  have hint := intactBytes _ _ (roomy p 9) p 9 9 rfl w3 ownF3.bytes (hbp.ext b3) (by omega)
  rw [decide_eq_true rfl] at hint
  clear hslF happ d2 c3 ownF0 b2
  go_wp2_with fail
  refine hint.mono ?_
  rintro e w4 ⟨rfl, nn, hw⟩
  have b4 : Below w0.heap.size w0 w4 := by rw [hw]; exact b3.trans (below_drawn _ _ _)
  have d4 : DwS w0 (oneX gF) gD (oneF ⟨#[102]⟩ p 0 false (-1)) w4 := by rw [hw]; exact d3.drewN _
  have ownF4 : OwnB w4 0 5 (.slice (some ⟨gF, 0, none⟩) (p.length + 80) (p.length + 80)) (roomy p 9) := by rw [hw]; exact ownF3.drewN _
  have hp80 : ((p.length + 80 : Nat) : Int) ≤ 1000 := by omega
  have hgF0 : w0.heap.size ≤ gF := by omega
  have hrl : Hid ((roomy p 9).length = p.length + 80) := roomy_length p 9
  clear hw hint d3 ownF3 b3 b1s hgF b1
  generalize p.length + 80 = N at *
  go_wp2_with fail
  go_loopw [5] (fun i wr => ∃ (k : Nat) (lf : List UInt8), k ≤ lf.length ∧ i = .int .i64 k ∧ Hid (lf.length = N) ∧ OwnB wr 0 5 (.slice (some ⟨gF, 0, none⟩) (N) (N)) lf ∧ DwS w0 (oneX gF) gD (oneF ⟨#[102]⟩ p 0 false (-1)) wr ∧ Below w0.heap.size w0 wr) (fun i _ => N - (intOf i).toNat)
  case atStart => exact ⟨0, _, Nat.zero_le _, rfl, hrl, ownF4, d4, b4⟩
  case round =>
    clear ownF4 d4 b4
    obtain ⟨k, lf, hk, rfl, hlf, own, dd, hb⟩ := hrel
    have hk0 : (0 : Int) ≤ (k : Int) := by omega
    by_cases hlt : k < N
    · have hi : (k : Int) < (N : Int) := by omega
      have hkl : k < lf.length := by rw [hlf.out]; exact hlt
      have ck := own.cellAt hlf.out.symm k hkl
      have fk := own.frozenAt hlf.out.symm k
      have hst := own.stored hlf.out.symm k (255 - lf[k])
      rw [sub255] at hst
      have hd2 := dd.setX (b := gF) rfl k (.int .u8 (255 - (lf[k].toNat : Int)))
      have hb2 := hb.trans (below_grown hst.2 hb.size (fun b h => by cases h; exact hgF0))
      have hx1 : (0 : Int) ≤ (lf[k].toNat : Int) := by omega
      have hx2 : (lf[k].toNat : Int) ≤ 255 := by have := lf[k].toNat_lt; omega
      have Hst := Lib.hid hst.1
      have hl2 : Hid ((lf.set k (255 - lf[k])).length = N) := by show _ = _; rw [List.length_set]; exact hlf.out
      generalize lf[k] = x at *
      clear hst
      go_wp2_with fail
      go_roundw
      case rel => first | exact ⟨k + 1, _, by rw [hl2.out]; omega, by go_num, hl2, Hst.out, hd2, hb2⟩ | ((repeat apply Exists.intro); exact ⟨⟨k + 1, _, by rw [hl2.out]; omega, by go_num, hl2, Hst.out, hd2, hb2⟩, rfl⟩)
      case measure => simp [intOf]; omega
    · have hi : ¬ (k : Int) < (N : Int) := by omega
      go_wp2_with fail
      have hrd := lRead dd hok3 ⟨#[102]⟩ (read_one ⟨#[102]⟩ p 0 false (-1))
      refine hrd.mono ?_
      rintro e w5 ⟨⟨r, rfl, ownr⟩, c5⟩
      have d5 := dd.more (Y := fun k => r.ownBlock = some k) c5 (fun k hk => .inr (ownr.lt k hk))
      have b5 := hb.trans (c5.mono hb.size)
      have hr1 : (some p : Option (List UInt8)).getD [] = p := rfl
      rw [hr1] at ownr
      have hrg : ∀ k, r.ownBlock = some k → w0.heap.size ≤ k := fun k hk => by have h1 := (ownr.lt k hk).1; have h2 := hb.size; omega
      have ownr0 := ownr.base0
      obtain ⟨pr, cr, rfl⟩ := ownr.bytes.shape
      clear dd hb own hrd ownr c5 hlf hi hlt hk hk0
      go_wp2_with fail
      go_loopw [8] (fun i wr => ∃ (k : Nat) (lf : List UInt8), k ≤ lf.length ∧ i = .int .i64 k ∧ Hid (lf.length = p.length) ∧ OwnB wr 0 5 (.slice pr p.length cr) lf ∧ DwS w0 (fun k => (Value.slice pr p.length cr).ownBlock = some k) gD (oneF ⟨#[102]⟩ p 0 false (-1)) wr ∧ Below w0.heap.size w0 wr) (fun i _ => p.length - (intOf i).toNat)
      case atStart => exact ⟨0, _, Nat.zero_le _, rfl, rfl, ownr0, d5, b5⟩
      case round =>
        clear ownr0 d5 b5
        obtain ⟨k, lf, hk, rfl, hlf, own, dd, hb⟩ := hrel
        have hk0 : (0 : Int) ≤ (k : Int) := by omega
        by_cases hlt : k < p.length
        · have hi : (k : Int) < ((p.length : Nat) : Int) := by omega
          have hkl : k < lf.length := by rw [hlf.out]; exact hlt
          obtain ⟨gq, cq, hsh, _, hgq, _, hcm⟩ := own.head (by omega)
          rw [hlf.out] at hsh
          simp only [Value.slice.injEq, true_and] at hsh
          obtain ⟨rfl, rfl⟩ := hsh
          have ck := own.cellAt hlf.out.symm k hkl
          have fk := own.frozenAt hlf.out.symm k
          have hst := own.stored hlf.out.symm k (255 - lf[k])
          rw [sub255] at hst
          have hd2 := dd.setX (b := gq) rfl k (.int .u8 (255 - (lf[k].toNat : Int)))
          have hb2 := hb.trans (below_grown hst.2 hb.size (fun b h => by cases h; exact (hrg _ rfl)))
          have hx1 : (0 : Int) ≤ (lf[k].toNat : Int) := by omega
          have hx2 : (lf[k].toNat : Int) ≤ 255 := by have := lf[k].toNat_lt; omega
          have Hst := Lib.hid hst.1
          have hl2 : Hid ((lf.set k (255 - lf[k])).length = p.length) := by show _ = _; rw [List.length_set]; exact hlf.out
          generalize lf[k] = x at *
          clear hst hcm
          go_wp2_with fail
          go_roundw
          case rel => first | exact ⟨k + 1, _, by rw [hl2.out]; omega, by go_num, hl2, Hst.out, hd2, hb2⟩ | ((repeat apply Exists.intro); exact ⟨⟨k + 1, _, by rw [hl2.out]; omega, by go_num, hl2, Hst.out, hd2, hb2⟩, rfl⟩)
          case measure => simp [intOf]; omega
        · have hi : ¬ (k : Int) < ((p.length : Nat) : Int) := by omega
          go_wp2_with fail
          have hrd := lRead dd hok3 ⟨#[102]⟩ (read_one ⟨#[102]⟩ p 0 false (-1))
          refine hrd.mono ?_
          rintro e w6 ⟨⟨r6, rfl, ownr6⟩, c6⟩
          have b6 := hb.trans (c6.mono hb.size)
          have hr1 : (some p : Option (List UInt8)).getD [] = p := rfl
          have hr2 : (some p : Option (List UInt8)).isSome = true := rfl
          rw [hr1] at ownr6
          rw [hr2]
          have hsm := sameBytes _ _ p p w6 ownr6.bytes (hbp.ext b6)
          rw [decide_eq_true rfl] at hsm
          clear dd hb own hrd ownr6 c6 hlf hi hlt hk hk0 hr1 hr2
          go_wp2_with fail
          refine hsm.mono ?_
          rintro e w7 ⟨rfl, nn, hw⟩
          have b7 : Below w0.heap.size w0 w7 := by rw [hw]; exact b6.trans (below_drawn _ _ _)
          clear hw hsm b6
          go_wp2_with fail
          refine (diskRuns_walk w7).mono ?_
          rintro e w8 ⟨rfl, c8⟩
          have b8 := b7.trans (c8.mono b7.size)
          go_wp2_with fail
          go_ret
          exact ⟨rfl, b8⟩
end Go.Proofs.Ytklopbjlpffnbaa
