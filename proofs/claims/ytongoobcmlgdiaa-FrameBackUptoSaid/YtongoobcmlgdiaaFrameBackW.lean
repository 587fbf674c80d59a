/- The walk of FrameBack: frames one behind the other, cut off anywhere: those that are whole are found, in order. -/
import Derived.Test.YtongoobcmlgdiaaFrameLists
import Derived.Test.YtongoobcmlgdiaaFrmBack
import Derived.Test.YtongoobcmlgdiaaRowParts
namespace Go.Proofs.Ytongoobcmlgdiaa
open Go Go.RowKit

theorem tInts : SlT Try.prog 48 3 1 8 := SlT.mk' (z := .int .i64 0) Try.underlying48 (by kernel_rfl) (by kernel_rfl) (by decide) (by decide)

theorem le_sum_of_mem {l : List Nat} {x : Nat} (h : x ∈ l) : x ≤ l.sum := by
  induction l with
  | nil => cases h
  | cons y l ih =>
    rw [List.sum_cons]
    rcases List.mem_cons.1 h with rfl | h
    · omega
    · have := ih h; omega

def intV (n : Nat) : Value := .int .i64 (n : Int)

/-- a list of slices of bytes, each of which lies in the arguments -/
def Kept (W w : World) (B : Nat) (v : Value) (K : List (List UInt8)) : Prop :=
  ∃ vs : List Value, Own w B 22 1 v K.length vs ∧ vs.length = K.length ∧ ∀ (i : Nat) (v : Value) (l : List UInt8), vs[i]? = some v → K[i]? = some l → Bytes W v l
theorem Kept.nil (W w : World) (B : Nat) : Kept W w B (.slice none 0 0) [] := ⟨[], Own.nil _ _ _ _, rfl, fun i v l h => by simp at h⟩
theorem Kept.snoc {W w : World} {B : Nat} {v : Value} {K : List (List UInt8)} {vs : List Value} (hl : vs.length = K.length) (hb : ∀ (i : Nat) (v : Value) (l : List UInt8), vs[i]? = some v → K[i]? = some l → Bytes W v l)
    {x : Value} {p : List UInt8} (hx : Bytes W x p) (ho : Own w B 22 1 v (K.length + 1) (vs ++ [x])) : Kept W w B v (K ++ [p]) := by
  refine ⟨vs ++ [x], by rw [List.length_append]; exact ho, by simp [hl], fun i u l hu hl' => ?_⟩
  rcases Nat.lt_or_ge i vs.length with h | h
  · rw [List.getElem?_append_left h] at hu
    rw [List.getElem?_append_left (by omega)] at hl'
    exact hb i u l hu hl'
  · rw [List.getElem?_append_right h] at hu
    rw [List.getElem?_append_right (by omega)] at hl'
    rw [← hl] at hl'
    cases hq : i - vs.length with
    | zero => rw [hq] at hu hl'; simp at hu hl'; subst hu; subst hl'; exact hx
    | succ q => rw [hq] at hu; simp at hu

theorem Kept.ext {W w w' : World} {B : Nat} {v : Value} {K : List (List UInt8)} (h : Kept W w B v K) (hb : Below w.heap.size w w') : Kept W w' B v K := by
  obtain ⟨vs, h1, h2, h3⟩ := h; exact ⟨vs, h1.ext hb, h2, h3⟩
theorem Kept.shape {W w : World} {B : Nat} {v : Value} {K : List (List UInt8)} (h : Kept W w B v K) : ∃ p c, v = .slice p K.length c := by
  obtain ⟨vs, h1, _⟩ := h; obtain ⟨p, c, h, _⟩ := h1.cells.form; exact ⟨p, c, h⟩
theorem Kept.run_sub {W w : World} {B : Nat} {v : Value} {K : List (List UInt8)} (h : Kept W w B v K) (n : Nat) (hn : n ≤ K.length) (w' : World) :
    (Instr.slice 42 v none (some (.int .i64 (n : Int))) none).run Try.prog w' = .ok (subV v 0 n 1) w' := by
  obtain ⟨vs, h1, _⟩ := h; exact run_sub_to tParts (Own.cells h1) .i64 n n rfl hn w'
theorem Parts.shapeN {w : World} {v : Value} {ls : List (List UInt8)} (h : Parts w v ls) {n : Nat} (hn : ls.length = n) : ∃ p c, v = .slice p n c := by
  subst hn; obtain ⟨p, c, h, _⟩ := h.form; exact ⟨p, c, h⟩
theorem ends_cell {w : World} {B : Nat} {g c : Nat} {K : List (List UInt8)} (h : Own w B 3 1 (.slice (some ⟨g, 0, none⟩) K.length c) K.length ((Frm.endsOf K).map intV)) (q : Nat) (hq : q < K.length) :
    w.cell? ⟨g, q, none⟩ = some (.int .i64 (((Frm.cat (K.take (q + 1))).length : Nat) : Int)) := by
  have hl : q < (Frm.endsOf K).length := by rw [Frm.endsOf_length]; exact hq
  have := h.cellAt q (by simpa using hl)
  rw [this]
  simp only [List.getElem_map, Frm.endsOf_get, intV]

theorem Kept.sub {W w : World} {B : Nat} {v : Value} {K : List (List UInt8)} (h : Kept W w B v K) (hbel : Below W.heap.size W w) (n : Nat) (hn : n ≤ K.length) : Parts w (subV v 0 n 1) (K.take n) := by
  obtain ⟨vs, ho, hl, hb⟩ := h
  refine ⟨vs.take n, ?_, by simp [hl], fun i u l hu hl' => ?_⟩
  · have := (Own.cells ho).sub (by decide) 0 n (by omega) hn
    simpa [Nat.min_eq_left hn] using this
  · rw [List.getElem?_take] at hu hl'
    split at hu
    · rw [if_pos (by assumption)] at hl'
      exact (hb i u l hu hl').ext hbel
    · cases hu

set_option maxHeartbeats 2000000 in
theorem frameBack_walk (v : Value) (ps : List (List UInt8)) (cut : Int) (w : World) (hv : Parts w v ps) (hb : (ps.map (·.length + 1)).sum ≤ 1048576) (_h1 : -9223372036854775808 ≤ cut) (_h2 : cut ≤ 9223372036854775807) :
    Calls Try.prog 12 #[v, .int .i64 cut] w fun e w' => e = .returned (.bool true) ∧ Below w.heap.size w w' := by
  have hpl : ∀ (k : Nat) (hk : k < ps.length), ps[k].length ≤ 1048576 := fun k hk => by
    have h1 : ps[k].length + 1 ∈ ps.map (·.length + 1) := List.mem_map.2 ⟨ps[k], by simp, rfl⟩
    have := le_sum_of_mem h1
    omega
  clear hb
  obtain ⟨p, cap, rfl, h1, h2, h4⟩ := hv.form
  unfold maxLen at h2
  go_enter Try.func12, Try.ntmps12
  go_wp2_with fail
  go_loopw [5, 6, 7, 8] (fun b e kp i wr => ∃ (k : Nat) (K : List (List UInt8)), k ≤ ps.length ∧ k ≤ 20 ∧ i = .int .i64 k ∧ Frm.good K ∧ K.length ≤ k ∧ (Frm.cat K).length ≤ k * 131080 ∧ OwnB wr w.heap.size 5 b (Frm.cat K) ∧
    Own wr w.heap.size 3 1 e K.length ((Frm.endsOf K).map intV) ∧ Kept w wr w.heap.size kp K ∧ Below w.heap.size w wr) (fun _ _ _ i _ => 20 - (intOf i).toNat)
  case atStart => exact ⟨0, [], by omega, by omega, rfl, by (intro p hp; cases hp), by simp, by simp [Frm.cat], OwnB.nil _ _ _, Own.nil _ _ _ _, Kept.nil _ _ _, Below.refl _ _⟩
  case round =>
    obtain ⟨k, K, hk, hk20, rfl, hgood, hKk, hcl, ownb, owne, hkept, hbr⟩ := hrel
    obtain ⟨pb, cb, rfl⟩ := ownb.bytes.shape
    have hbs := hbr.size
    by_cases hgo : k < ps.length ∧ k < 20
    · obtain ⟨hlt, hlt2⟩ := hgo
      obtain ⟨bb, off, x, rfl, hc, hx⟩ := h4 k hlt
      have hpk := hpl k hlt
      generalize ps[k] = pk at *
      have hi1 : (k : Int) < (ps.length : Int) := by omega
      have hi2 : (k : Int) < 20 := by omega
      have hlc := World.block_lt_of_cell? _ _ hc
      have hcr := (hbr.cell (p := ⟨bb, off + k, none⟩) hlc).trans hc
      clear h4 hpl hv
      obtain ⟨px, cx, rfl⟩ := hx.shape
      go_wp2_with fail
      with_reducible refine (framePut _ _ (Frm.cat K) pk _ ownb.bytes (hx.ext hbr) (by omega) (by omega)).mono ?_
      rintro e w1 ⟨r1, rfl, own1, b1⟩
      have b01 := hbr.trans (b1.mono hbs)
      replace own1 : OwnB w1 w.heap.size 5 r1 (Frm.put (Frm.cat K) pk) := Own.base own1 hbs
      cases hn : Frm.none' pk
      · have hput : Frm.put (Frm.cat K) pk = Frm.cat (K ++ [pk]) := by rw [Frm.cat_snoc]; rfl
        have hol := Frm.one_length hn
        have hpn := (Frm.none_iff pk).1 hn
        have hcat : (Frm.cat (K ++ [pk])).length = (Frm.cat K).length + (pk.length + 8) := by rw [Frm.cat_snoc, List.length_append, hol]
        have hends : Frm.endsOf (K ++ [pk]) = Frm.endsOf K ++ [(Frm.cat K).length + (pk.length + 8)] := by rw [Frm.endsOf_snoc, hol]
        rw [hput] at own1
        have hgood' := Frm.good_snoc hgood hn
        obtain ⟨pr, cr, rfl⟩ := own1.bytes.shape
        rw [hcat] at own1 ⊢
        have Hcat := Lib.hid hcat
        have Hends := Lib.hid hends
        clear hcat hends hput hol hn
        generalize hcK : Frm.cat (K ++ [pk]) = cK at *
        have HcK := Lib.hid hcK
        clear hcK
        obtain ⟨vs, ownk, hkl, hkb⟩ := hkept
        have owne1 := owne.ext b1
        have ownk1 := ownk.ext b1
        clear owne ownk
        have hgt : ((Frm.cat K).length : Int) < ((Frm.cat K).length : Int) + ((pk.length : Int) + 8) := by omega
        have hs1 := b01.size
        go_wp2_with (first
          | (at_builtin; refine wpList_app tInts rfl rfl (Own.ext owne1 (below_alloc _ _)) rfl (Own.cells (Own.lit _ _ _ 1 0 rfl (by simp [Value.oneCell']) (by unfold maxLen; omega) (Nat.zero_le _))) rfl (by omega) (by simp; omega) ?_; intro v2 w2 own2 g2 b2; (have ownk2 := Own.grown (Own.ext ownk1 (below_alloc _ _)) g2 (Own.ne_type ownk1 owne1 (by decide))); (have ownb2 := Own.grown (Own.ext own1 (below_alloc _ _)) g2 (Own.ne_type own1 owne1 (by decide))); (replace b2 := b01.trans (((below_alloc _ _).mono hs1).trans b2)); (have hc2 := (b2.cell (p := ⟨bb, off + k, none⟩) hlc).trans hc))
          | (at_builtin; refine wpList_app tParts rfl rfl (Own.ext ownk2 (below_alloc _ _)) rfl (Own.cells (Own.lit _ _ _ 1 0 rfl (by simp [Value.oneCell']) (by unfold maxLen; omega) (Nat.zero_le _))) rfl (by omega) (by have := b2.size; simp; omega) ?_; intro v3 w3 own3 g3 b3)
          | fail)
        have owne3 := Own.grown (Own.ext own2 (below_alloc _ _)) g3 (Own.ne_type own2 ownk2 (by decide))
        have ownb3 := Own.grown (Own.ext ownb2 (below_alloc _ _)) g3 (Own.ne_type ownb2 ownk2 (by decide))
        have b03 := b2.trans (((below_alloc _ _).mono b2.size).trans b3)
        go_roundw
        case rel => exact ⟨k + 1, K ++ [pk], by omega, by omega, by go_num, hgood', by simp; omega, by rw [HcK.out, Hcat.out]; omega, by rw [HcK.out]; exact ownb3, by rw [Hends.out, List.map_append, List.length_append]; exact owne3, Kept.snoc hkl hkb hx own3, b03⟩
        case measure => simp [intOf]; omega
      · have hput : Frm.put (Frm.cat K) pk = Frm.cat K := by unfold Frm.put; rw [Frm.one_none hn]; simp
        rw [hput] at own1
        obtain ⟨pr, cr, rfl⟩ := own1.bytes.shape
        have owne1 := owne.ext b1
        have hk1 := hkept.ext b1
        clear hput hn owne hkept
        go_wp2_with fail
        go_roundw
        case rel => exact ⟨k + 1, K, Nat.succ_le_of_lt hlt, Nat.succ_le_of_lt hlt2, by go_num, hgood, Nat.le_succ_of_le hKk, Nat.le_trans hcl (Nat.mul_le_mul_right _ (Nat.le_succ k)), own1, owne1, hk1, b01⟩
        case measure => simp [intOf]; omega
    · have hgood' := hgood
      have hK20 : K.length ≤ 20 := by omega
      have hex : (¬ (k : Int) < (ps.length : Int)) ∨ ((k : Int) < (ps.length : Int) ∧ ¬ (k : Int) < 20) := by omega
      clear h4 hpl hv hgo
      generalize hcat : Frm.cat K = cK at *
      have Hcat := Lib.hid hcat
      have hcb : cK.length ≤ 2621600 := by omega
      have hcb1 : (0 : Int) ≤ (cK.length : Int) := by omega
      have hcb2 : (cK.length : Int) ≤ 4611686018427387904 := by omega
      clear hcat hcl h1 h2
      rcases hex with h | ⟨h, h'⟩
      all_goals
        go_wp2_with fail
        with_reducible refine (withinCalls cut 0 (cK.length : Int) _ (Int.le_refl 0) hcb1 hcb2).mono ?_
        rintro e w' ⟨rfl, rfl⟩
        obtain ⟨m, hm⟩ : ∃ m : Nat, within cut 0 (cK.length : Int) = m := ⟨_, (Int.toNat_of_nonneg (within_bounds cut 0 _ (by omega)).1).symm⟩
        have hmb : m ≤ cK.length := by have := (within_bounds cut 0 (cK.length : Int) (by omega)).2; omega
        rw [hm]
        clear hm
        go_wp2_with fail
        go_loop [11] (fun n => ∃ q : Nat, n = .int .i64 q ∧ q ≤ K.length ∧ Hid ((Frm.cat (K.take q)).length ≤ m)) (fun n => K.length - (intOf n).toNat)
        case atStart => exact ⟨0, rfl, by omega, by show _ ≤ _; simp [Frm.cat]⟩
        case round =>
          obtain ⟨q, rfl, hq, hqm⟩ := hrel
          rcases owne.head with ⟨rfl, h0⟩ | ⟨ge, ce, rfl, _, _, _, _⟩
          · have hall := Frm.all_cut hgood' m 0 (by omega) (by simp [Frm.cat]) (fun h => by omega)
            rw [Hcat.out] at hall
            obtain rfl : q = 0 := by omega
            have hk0 : (K.length : Int) = 0 := by omega
            have hx2 : ¬ ((0 : Nat) : Int) < (K.length : Int) := by omega
            have hsub := ownb.bytes.sub 0 m (by omega) (by omega)
            have hs := run_sub_to tBytes (P := Try.prog) (Own.cells ownb) .i64 (m : Int) m rfl (by omega)
            have e0 : (cK.drop 0).take (m - 0) = cK.take m := by simp
            rw [e0] at hsub
            generalize subV (.slice pb cK.length cb) 0 m 1 = vs at *
            obtain ⟨r, rc, rfl⟩ := hsub.shapeN (n := m) (by simp; omega)
            have Hall := Lib.hid hall
            clear hall e0
            go_wp2_with fail
            with_reducible refine (frameScan _ (cK.take m) _ hsub (by rw [List.length_take]; omega)).mono ?_
            rintro e w3 ⟨rl, rfl, ownl, b3⟩
            rw [Hall.out] at ownl ⊢
            have hk3 := hkept.ext b3
            have hbr3 := hbr.trans (b3.mono hbs)
            obtain ⟨pk, ck, rfl⟩ := hk3.shape
            have hs2 := hk3.run_sub 0 (by omega)
            have hp2 := hk3.sub hbr3 0 (by omega)
            generalize subV (.slice pk K.length ck) 0 0 1 = vk at *
            obtain ⟨rk, rkc, rfl⟩ := hp2.shapeN (n := 0) (by simp)
            have heq : ((((Frm.cat (K.take 0)).length : Nat) : Int) == 0) = true := rfl
            replace hs2 : ∀ w', (Instr.slice 42 (.slice pk K.length ck) none (some (.int .i64 0)) none).run Try.prog w' = .ok (.slice rk 0 rkc) w' := hs2
            generalize (Frm.cat (K.take 0)).length = L at *
            clear hk0 h0
            go_wp2_with fail
            with_reducible refine (listsCalls _ _ _ _ _ ownl.parts hp2).mono ?_
            rintro e w4 ⟨rfl, n4, h4⟩
            replace h4 : Below w.heap.size w w4 := by rw [h4]; exact hbr3.trans (below_drawn _ _ _)
            rw [decide_eq_true rfl]
            go_wp2_with fail
            with_reducible refine (frameRuns _).mono ?_
            rintro e w5 ⟨rfl, b5⟩
            replace h4 := h4.trans (b5.mono h4.size)
            go_wp2_with fail
            go_ret
            exact ⟨rfl, h4⟩
          · by_cases hgo : q < K.length ∧ (Frm.cat (K.take (q + 1))).length ≤ m
            · obtain ⟨hlt, hle⟩ := hgo
              have hce := ends_cell owne q hlt
              generalize hN : (Frm.cat (K.take (q + 1))).length = N at *
              have HN := Lib.hid hN
              have hi1 : (q : Int) < (K.length : Int) := by omega
              clear hN
              go_wp2
              go_round
              case rel => exact ⟨q + 1, by go_num, by omega, by show _ ≤ _; rw [HN.out]; exact hle⟩
              case measure => simp [intOf]; omega
            · have hall := Frm.all_cut hgood' m q hq hqm.out (fun h => by omega)
              rw [Hcat.out] at hall
              have hx2 : (¬ (q : Int) < (K.length : Int)) ∨ ((q : Int) < (K.length : Int) ∧ ∃ N : Nat, wr.cell? ⟨ge, q, none⟩ = some (.int .i64 (N : Int)) ∧ ¬ (N : Int) ≤ (m : Int)) := by
                by_cases hlt : q < K.length
                · exact .inr ⟨by omega, _, ends_cell owne q hlt, by omega⟩
                · exact .inl (by omega)
              have hsub := ownb.bytes.sub 0 m (by omega) (by omega)
              have hs := run_sub_to tBytes (P := Try.prog) (Own.cells ownb) .i64 (m : Int) m rfl (by omega)
              have e0 : (cK.drop 0).take (m - 0) = cK.take m := by simp
              rw [e0] at hsub
              generalize subV (.slice pb cK.length cb) 0 m 1 = vs at *
              obtain ⟨r, rc, rfl⟩ := hsub.shapeN (n := m) (by simp; omega)
              have Hall := Lib.hid hall
              clear hall e0 hgo
              rcases hx2 with hx2 | ⟨hx2, N, hce, hNm⟩
              all_goals
                go_wp2_with fail
                with_reducible refine (frameScan _ (cK.take m) _ hsub (by rw [List.length_take]; omega)).mono ?_
                rintro e w3 ⟨rl, rfl, ownl, b3⟩
                rw [Hall.out] at ownl ⊢
                have owne3 := owne.ext b3
                have hk3 := hkept.ext b3
                have hbr3 := hbr.trans (b3.mono hbs)
                obtain ⟨pk, ck, rfl⟩ := hk3.shape
                have hs2 := hk3.run_sub q hq
                have hp2 := hk3.sub hbr3 q hq
                generalize subV (.slice pk K.length ck) 0 q 1 = vk at *
                obtain ⟨rk, rkc, rfl⟩ := hp2.shapeN (n := q) (by simp; omega)
                by_cases hq0 : q = 0
                · subst hq0
                  have heq : ((((Frm.cat (K.take 0)).length : Nat) : Int) == 0) = true := rfl
                  replace hs2 : ∀ w', (Instr.slice 42 (.slice pk K.length ck) none (some (.int .i64 0)) none).run Try.prog w' = .ok (.slice rk 0 rkc) w' := hs2
                  generalize (Frm.cat (K.take 0)).length = L at *
                  go_wp2_with fail
                  with_reducible refine (listsCalls _ _ _ _ _ ownl.parts hp2).mono ?_
                  rintro e w4 ⟨rfl, n4, h4⟩
                  replace h4 : Below w.heap.size w w4 := by rw [h4]; exact hbr3.trans (below_drawn _ _ _)
                  rw [decide_eq_true rfl]
                  go_wp2_with fail
                  with_reducible refine (frameRuns _).mono ?_
                  rintro e w5 ⟨rfl, b5⟩
                  replace h4 := h4.trans (b5.mono h4.size)
                  go_wp2_with fail
                  go_ret
                  exact ⟨rfl, h4⟩
                · obtain ⟨t, rfl⟩ : ∃ t, q = t + 1 := ⟨q - 1, by omega⟩
                  have hce3 := ends_cell owne3 t (by omega)
                  have hi3 : (((t + 1 : Nat) : Int) - 1).toNat = t := by omega
                  replace hs2 : ∀ w', (Instr.slice 42 (.slice pk K.length ck) none (some (.int .i64 ((t : Int) + 1))) none).run Try.prog w' = .ok (.slice rk (t + 1) rkc) w' := hs2
                  generalize (Frm.cat (K.take (t + 1))).length = L at *
                  go_wp2_with fail
                  with_reducible refine (listsCalls _ _ _ _ _ ownl.parts hp2).mono ?_
                  rintro e w4 ⟨rfl, n4, h4⟩
                  replace h4 : Below w.heap.size w w4 := by rw [h4]; exact hbr3.trans (below_drawn _ _ _)
                  rw [decide_eq_true rfl]
                  go_wp2_with fail
                  with_reducible refine (frameRuns _).mono ?_
                  rintro e w5 ⟨rfl, b5⟩
                  replace h4 := h4.trans (b5.mono h4.size)
                  go_wp2_with fail
                  go_ret
                  exact ⟨rfl, h4⟩

end Go.Proofs.Ytongoobcmlgdiaa
