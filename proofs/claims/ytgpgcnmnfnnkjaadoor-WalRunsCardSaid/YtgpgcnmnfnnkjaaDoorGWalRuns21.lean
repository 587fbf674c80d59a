/- Walks of package wal: common. Walks of package wal: number, named. -/
import Derived.Test.YtgpgcnmnfnnkjaaDoorGWalRuns20
import Derived.Test.YtgpgcnmnfnnkjaaDoorGWalRuns5
import Derived.Deep.QuietTactic
import Derived.Laws.StructEq
import Derived.Test.YtgpgcnmnfnnkjaaDoorGWalRuns6
import Derived.Test.YtgpgcnmnfnnkjaaDoorGWalRuns7
import Derived.Deep.Cut
import Derived.Laws.RangeAny
import Derived.Laws.RangeString
import Derived.Lib.AppendIntMem
set_option linter.unusedVariables false
set_option linter.unusedSimpArgs false
section
namespace Go.Proofs.YtgpgcnmnfnnkjaaDoor
open Go Go.RowKit Go.PlainAid
attribute [local go_sem] After.same
theorem commonE_le : ∀ (a b : List Ety), commonE a b ≤ a.length ∧ commonE a b ≤ b.length
  | [], b => by simp [commonE]
  | x :: r, [] => by simp [commonE]
  | x :: r, y :: s => by
    have := commonE_le r s
    rw [commonE]; split
    · simp only [List.length_cons]; omega
    · simp
/-- counted on from place k -/
theorem commonE_on : ∀ (k : Nat) (a b : List Ety), k ≤ commonE a b → commonE a b = k + commonE (a.drop k) (b.drop k)
  | 0, a, b, _ => by simp
  | k + 1, [], b, h => by simp [commonE] at h
  | k + 1, x :: r, [], h => by simp [commonE] at h
  | k + 1, x :: r, y :: s, h => by
    rw [commonE] at h ⊢
    split at h
    · rename_i e
      rw [if_pos e, commonE_on k r s (by omega)]; simp only [List.drop_succ_cons]; omega
    · omega
theorem commonE_at {a b : List Ety} {k : Nat} (h : k ≤ commonE a b) (ha : k < a.length) (hb : k < b.length) : commonE a b = if etyEq a[k] b[k] = true then k + 1 + commonE (a.drop (k + 1)) (b.drop (k + 1)) else k := by
  rw [commonE_on k a b h, List.drop_eq_getElem_cons ha, List.drop_eq_getElem_cons hb, commonE]
  split <;> omega
theorem eqin_ety (x y : Ety) (w : World) : (Op.equalIn 10000 36 (.agg #[.int .i64 x.term, .int .i64 x.members, .string x.data]) (.agg #[.int .i64 y.term, .int .i64 y.members, .string y.data])).run Tryd.prog w = .ok (etyEq x y) w := by
  have u3 := Tryd.underlying3
  have u9 := Tryd.underlying9
  have a3 := Tryd.isAgg3
  have z3 := Tryd.sizeOf3
  have a9 := Tryd.isAgg9
  have z9 := Tryd.sizeOf9
  have hS : Tryd.prog.underlying 36 = some (.struct (Tryd.prog.fieldsOf 36)) := by kernel_rfl
  have hp : Tryd.prog.stoodInHeld 36 = false := by kernel_rfl
  rw [show (10000 : Nat) = 9999 + 1 from rfl, run_equalIn_agg w 9999 36 _ _ hS hp]
  simp only [Program.fieldsOf, Tryd.underlying36]
  unfold etyEq eqS
  go_simp
  generalize x.data.toList = a
  generalize y.data.toList = b
  by_cases h1 : a = b <;> by_cases h2 : x.term = y.term <;> by_cases h3 : x.members = y.members <;> simp [h1, h2, h3]
theorem eql_ety (x y : Ety) (w : World) : (binOp .eql 36 (.agg #[.int .i64 x.term, .int .i64 x.members, .string x.data]) (.agg #[.int .i64 y.term, .int .i64 y.members, .string y.data])).run Tryd.prog w = .ok (.bool (etyEq x y)) w := by
  rw [run_eql_struct, eqin_ety]; rfl
theorem neq_ety (x y : Ety) (w : World) : (binOp .neq 36 (.agg #[.int .i64 x.term, .int .i64 x.members, .string x.data]) (.agg #[.int .i64 y.term, .int .i64 y.members, .string y.data])).run Tryd.prog w = .ok (.bool (!etyEq x y)) w := by
  rw [run_neq_struct, eqin_ety]; rfl
theorem etyEq_iff (x y : Ety) : etyEq x y = ((x.term == y.term) && (x.members == y.members) && eqS x.data y.data) := rfl

set_option maxRecDepth 4000 in
set_option maxHeartbeats 2000000 in
theorem walCommon (u v : Value) (a b : List Ety) (w : World) (hu : Rd etyE w u a) (hv : Rd etyE w v b) :
    Calls Tryd.prog 54 #[u, v] w fun e w' => e = .returned (.int .i64 (commonE a b : Nat)) ∧ Below w.heap.size w w' := by
  obtain ⟨pu, cu, rfl⟩ := hu.shape
  obtain ⟨pv, cv, rfl⟩ := hv.shape
  have hle := commonE_le a b
  have m1 := hu.le
  unfold maxLen at m1
  go_enter Tryd.func54, Tryd.ntmps54
  go_wp2
  go_loopw [5] (fun i wr => ∃ (k m : Nat), i = .int .i64 k ∧ wr = w.drewN m ∧ k ≤ commonE a b) (fun i _ => a.length - (intOf i).toNat)
  case atStart => exact ⟨0, 0, rfl, rfl, Nat.zero_le _⟩
  case round =>
    obtain ⟨k, m, rfl, rfl, hk⟩ := hrel
    have hi0 : (0 : Int) ≤ (k : Int) := by omega
    by_cases ha : k < a.length
    · have ha1 : (k : Int) < (a.length : Int) := by omega
      by_cases hb : k < b.length
      · have hb1 : (k : Int) < (b.length : Int) := by omega
        obtain ⟨ba, oa, rfl⟩ := Rd.blk hu (by omega)
        obtain ⟨bb, ob, rfl⟩ := Rd.blk hv (by omega)
        obtain ⟨a0, a1, a2⟩ := ety3 hu ha
        obtain ⟨b0, b1, b2⟩ := ety3 hv hb
        have hat := commonE_at hk ha hb
        have Hat := Lib.hid hat
        clear hat
        generalize a[k] = x at *
        generalize b[k] = y at *
        have heql := fun (z : World) => eql_ety x y z
        cases he : etyEq x y with
        | true =>
          rw [he] at heql Hat
          have Hk1 := Lib.hid (show k + 1 ≤ commonE a b by have := Hat.out; rw [if_pos rfl] at this; omega)
          clear he
          go_wp2
          go_quiet (fail)
          go_wp2
          go_roundw
          case rel => exact ⟨k + 1, _, by go_num, rfl, Hk1.out⟩
          case measure => simp [intOf]; omega
        | false =>
          rw [he] at heql Hat
          have Hke := Lib.hid (show commonE a b = k by have := Hat.out; rw [if_neg (by simp)] at this; exact this)
          clear he
          go_wp2
          go_quiet (fail)
          go_wp2
          go_ret
          exact ⟨by rw [Hke.out]; rfl, (below_drawn w.heap.size w m).trans (below_drawn _ _ nq)⟩
      · have hb1 : ¬ (k : Int) < (b.length : Int) := by omega
        have hke : commonE a b = k := by omega
        have Hke := Lib.hid hke
        clear hke
        go_wp2
        go_quiet (fail)
        go_wp2
        go_ret
        exact ⟨by rw [Hke.out]; rfl, (below_drawn w.heap.size w m).trans (below_drawn _ _ nq)⟩
    · have ha1 : ¬ (k : Int) < (a.length : Int) := by omega
      have hke : commonE a b = k := by omega
      have Hke := Lib.hid hke
      clear hke
      go_wp2
      go_quiet (fail)
      go_wp2
      go_ret
      exact ⟨by rw [Hke.out]; rfl, (below_drawn w.heap.size w m).trans (below_drawn _ _ nq)⟩
end Go.Proofs.YtgpgcnmnfnnkjaaDoor
end

section
namespace Go.Proofs.YtgpgcnmnfnnkjaaDoor
open Go Go.RowKit Go.PlainAid

theorem run_strTo {P : Program} {T : TypeId} (hT : P.underlying T = some .string) (l : List UInt8) (K : Int) (k : Nat) (hK : K = (k : Int)) (hk : k ≤ l.length) (w : World) :
    (Instr.slice T (.string { data := l.toArray }) none (some (.int .i64 K)) none).run P w = .ok (.string { data := (l.take k).toArray }) w := by
  subst hK
  rw [run_slice_string_h w T _ hT .i64 (k : Int) (by omega) (by rw [str_size]; omega), str_extract]
  simp
theorem run_strFrom {P : Program} {T : TypeId} (hT : P.underlying T = some .string) (l : List UInt8) (K : Int) (k : Nat) (hK : K = (k : Int)) (hk : k ≤ l.length) (w : World) :
    (Instr.slice T (.string { data := l.toArray }) (some (.int .i64 K)) none none).run P w = .ok (.string { data := (l.drop k).toArray }) w := by
  subst hK
  rw [run_slice_string_l w T _ hT .i64 (k : Int) (by omega) (by rw [str_size]; omega), str_extract, str_size]
  simp
  rw [List.take_of_length_le (by simp)]
theorem itoa_nat (n : Nat) : Lib.itoa (n : Int) = Lib.decDigits n := by unfold Lib.itoa; rw [if_neg (by omega)]; simp
theorem digits_le : ∀ (k u : Nat), u < 10 ^ (k + 1) → (Lib.decDigits u).length ≤ k + 1
  | 0, u, h => by rw [Lib.decDigits, dif_pos (by simpa using h)]; simp
  | k + 1, u, h => by
    rw [Lib.decDigits]
    split
    · simp
    · rw [List.length_append, List.length_singleton]
      have := digits_le k (u / 10) (by rw [Nat.div_lt_iff_lt_mul (by decide), ← Nat.pow_succ]; exact h)
      omega
theorem digsW_cons {c : UInt8} (r : List UInt8) (n : Nat) (h : digB c = true) : digsW (c :: r) n = digsW r (10 * n + (c.toNat - 48)) := by rw [digsW, if_pos h]
theorem digsW_bad {c : UInt8} (r : List UInt8) (n : Nat) (h : ¬ digB c = true) : digsW (c :: r) n = 0 := by rw [digsW, if_neg h]
theorem digB_iff (c : UInt8) : digB c = true ↔ 48 ≤ c.toNat ∧ c.toNat ≤ 57 := by unfold digB; simp
set_option maxHeartbeats 1000000 in
theorem walNamed (n : Nat) (N : Int) (hN : N = (n : Int)) (hn : n ≤ 9223372036854775807) (w : World) (htab : Lib.TabIs Tryd.prog w "internal/strconv.uint64pow10" .u64 Lib.pow10Tab) :
    Calls Tryd.prog 26 #[.int .i64 N] w fun e w' => e = .returned (.string (nameW n)) ∧ Below w.heap.size w w' := by
  subst hN
  go_enter Tryd.func26, Tryd.ntmps26
  go_wp2_with fail
  refine (Tryd.strconv_Itoa (n : Int) (by omega) (by omega) w htab).mono ?_
  rintro e w1 ⟨rfl, k, os, rfl⟩
  rw [itoa_nat]
  have hlen := digits_le 18 n (by omega)
  go_wp2_with fail
  go_ret
  exact ⟨by unfold nameW hdW; congr 2, Lib.below_grow _ w (Nat.le_refl _) k os⟩

set_option maxRecDepth 4000 in
set_option maxHeartbeats 4000000 in
theorem walNumber (l : List UInt8) (w : World) :
    Calls Tryd.prog 46 #[.string ⟨l.toArray⟩] w fun e w' => e = .returned (.int .i64 (numW ⟨l.toArray⟩ : Nat)) ∧ Below w.heap.size w w' := by
  have hsz := str_size l
  have hbo : bytesOf ⟨l.toArray⟩ = l := bytesOf_of l
  have hn : numW ⟨l.toArray⟩ = if l.length ≤ 4 ∨ l.take 4 ≠ hdW ∨ 18 < l.length ∨ l[4]? = some 48 then 0 else digsW (l.drop 4) 0 := by
    unfold numW; rw [hsz, hbo]
  have Hn := Lib.hid hn
  clear hn hbo
  generalize numW ⟨l.toArray⟩ = R at *
  by_cases h1 : l.length ≤ 4
  · have Hr := Lib.hid (show R = 0 from Hn.out.trans (if_pos (.inl h1)))
    have hi : (l.length : Int) ≤ 4 := by omega
    go_enter Tryd.func46, Tryd.ntmps46
    go_wp2
    go_ret
    exact ⟨by rw [Hr.out]; rfl, Below.refl _ _⟩
  · have hi : ¬ (l.length : Int) ≤ 4 := by omega
    have hto := run_strTo (P := Tryd.prog) Tryd.underlying9 l 4 4 rfl (by omega)
    have hfr := run_strFrom (P := Tryd.prog) Tryd.underlying9 l 4 4 rfl (by omega)
    have h4s : 4 < (⟨l.toArray⟩ : ByteArray).size := by rw [hsz]; omega
    have h4e : (⟨l.toArray⟩ : ByteArray)[4]'h4s = l[4]'(by omega) := str_at l 4 h4s
    have h4g : l[4]? = some (l[4]'(by omega)) := List.getElem?_eq_getElem _
    by_cases hall : l.take 4 = hdW ∧ ¬ 18 < l.length ∧ (l[4]'(by omega)).toNat ≠ 48
    · obtain ⟨e2, e3, e4⟩ := hall
      have hr : R = digsW (l.drop 4) 0 := Hn.out.trans (if_neg (by
        rintro (h | h | h | h)
        · exact h1 h
        · exact h e2
        · exact e3 h
        · rw [h4g] at h; exact e4 (by rw [Option.some.inj h]; rfl)))
      have Hr := Lib.hid hr
      have e2' : l.take 4 = [119, 97, 108, 46] := e2
      have e3' : ¬ (18 : Int) < (l.length : Int) := by omega
      have e4' : ((((⟨l.toArray⟩ : ByteArray)[4]'h4s).toNat : Int) == 48) = false := by rw [h4e]; simp; omega
      have hdl : (l.drop 4).length ≤ 14 := by rw [List.length_drop]; omega
      clear hr e2 e4 Hn h4g h4e
      generalize l.drop 4 = d at *
      have hds := str_size d
      have hat := fun i h => str_at d i h
      go_enter Tryd.func46, Tryd.ntmps46
      go_wp2
      go_loopw [3] (fun n w' => ∃ (pos acc : Nat), w' = w.iter ⟨d.toArray⟩ pos ∧ n = .int .i64 (acc : Int) ∧ pos ≤ d.length ∧ acc < 10 ^ pos ∧ Hid (digsW (d.drop pos) acc = digsW d 0)) (fun _ w' => d.length - w'.iterPos w.heap.size)
      case atStart => exact ⟨0, 0, rfl, rfl, by omega, by decide, rfl⟩
      case round =>
        obtain ⟨pos, acc, rfl, rfl, hpl, hacc, hdg⟩ := hrel
        by_cases hp : pos < d.length
        · have hps : pos < (⟨d.toArray⟩ : ByteArray).size := by rw [hds]; exact hp
          have hdc := List.drop_eq_getElem_cons hp
          have hge : (⟨d.toArray⟩ : ByteArray)[pos]'hps = d[pos] := hat pos hps
          have hdg2 := hdg.out
          rw [hdc] at hdg2
          have hnx : ∀ ty, (Instr.next (.pointer (some ⟨w.heap.size, 0, none⟩)) true ty).run Tryd.prog (w.iter ⟨d.toArray⟩ pos) = .ok (.tuple #[.bool true, .int .i64 pos, .int .i32 (Utf8.decode ⟨d.toArray⟩ pos).1]) (w.iter ⟨d.toArray⟩ (pos + (Utf8.decode ⟨d.toArray⟩ pos).2)) := fun ty => run_next_any w ⟨d.toArray⟩ pos ty hps
          by_cases hb : digB d[pos] = true
          · rw [digsW_cons _ _ hb] at hdg2
            obtain ⟨q1, q2⟩ := (digB_iff _).1 hb
            rw [decode_ascii _ pos hps (by rw [hge]; omega), hge] at hnx
            have hacc2 : 10 * acc + (d[pos].toNat - 48) < 10 ^ (pos + 1) := by rw [Nat.pow_succ]; omega
            have hp14 : 10 ^ (pos + 1) ≤ 10 ^ 14 := Nat.pow_le_pow_right (by decide) (by omega)
            have h14 : (10 : Nat) ^ 14 = 100000000000000 := by decide
            have Hd2 := Lib.hid hdg2
            have Hacc := Lib.hid hacc2
            have hsmall : 10 * acc + 9 ≤ 1000000000000000 := by rw [h14] at hp14; rw [Nat.pow_succ] at hp14; omega
            clear hdg hdg2 hacc hacc2 hp14 h14 hdc hb hge
            generalize d[pos] = c at *
            go_wp2_with fail
            go_roundw
            case rel => exact ⟨pos + 1, 10 * acc + (c.toNat - 48), rfl, by go_num, by omega, Hacc.out, Hd2.out⟩
            case measure => simp; omega
          · rw [digsW_bad _ _ hb] at hdg2
            have hz : R = 0 := Hr.out.trans hdg2.symm
            have hbad : ((Utf8.decode ⟨d.toArray⟩ pos).1 : Int) < 48 ∨ (57 : Int) < ((Utf8.decode ⟨d.toArray⟩ pos).1 : Int) := by
              rcases Nat.lt_or_ge d[pos].toNat 128 with h | h
              · rw [decode_ascii _ pos hps (by rw [hge]; exact h), hge]
                show ((d[pos].toNat : Nat) : Int) < 48 ∨ _
                rcases Nat.lt_or_ge d[pos].toNat 48 with h5 | h5
                · left; omega
                · right
                  rcases Nat.lt_or_ge 57 d[pos].toNat with h6 | h6
                  · show (57 : Int) < ((d[pos].toNat : Nat) : Int); omega
                  · exact absurd ((digB_iff d[pos]).2 ⟨h5, h6⟩) hb
              · have := (decode_high _ pos hps (by rw [hge]; exact h)).1
                omega
            have Hz := Lib.hid hz
            clear hdg hdg2 hacc hdc hb hge hz
            generalize Utf8.decode ⟨d.toArray⟩ pos = dc at *
            rcases hbad with hbad | hbad
            · go_wp2_with fail
              go_ret
              exact ⟨by rw [Hz.out]; rfl, below_alloc w _⟩
            · have hb2 : ¬ (dc.1 : Int) < 48 := by omega
              go_wp2_with fail
              go_ret
              exact ⟨by rw [Hz.out]; rfl, below_alloc w _⟩
        · have hpe : pos = d.length := by omega
          have hps : ¬ pos < (⟨d.toArray⟩ : ByteArray).size := by rw [hds]; exact hp
          have hdg2 := hdg.out
          rw [List.drop_of_length_le (by omega), digsW] at hdg2
          have hz : R = acc := Hr.out.trans hdg2.symm
          have Hz := Lib.hid hz
          have hne := fun ty => run_next_end (P := Tryd.prog) w ⟨d.toArray⟩ pos ty hps
          clear hdg hdg2 hacc hz hpe
          go_wp2
          go_ret
          exact ⟨by rw [Hz.out]; rfl, below_alloc w _⟩
    · have hr : R = 0 := Hn.out.trans (if_pos (by
        by_cases a1 : l.take 4 = hdW
        · by_cases a2 : 18 < l.length
          · exact .inr (.inr (.inl a2))
          · refine .inr (.inr (.inr ?_))
            rw [h4g]
            have a3 : (l[4]'(by omega)).toNat = 48 := Decidable.not_not.1 (fun a3 => hall ⟨a1, a2, a3⟩)
            congr 1
            exact UInt8.toNat_inj.1 a3
        · exact .inr (.inl a1)))
      have Hr := Lib.hid hr
      clear hr Hn
      by_cases a1 : l.take 4 = hdW
      · have e2' : l.take 4 = [119, 97, 108, 46] := a1
        by_cases a2 : 18 < l.length
        · have e3' : (18 : Int) < (l.length : Int) := by omega
          go_enter Tryd.func46, Tryd.ntmps46
          go_wp2
          go_ret
          exact ⟨by rw [Hr.out]; rfl, Below.refl _ _⟩
        · have a3 : (l[4]'(by omega)).toNat = 48 := Decidable.not_not.1 (fun a3 => hall ⟨a1, a2, a3⟩)
          have e3' : ¬ (18 : Int) < (l.length : Int) := by omega
          have e4' : ((((⟨l.toArray⟩ : ByteArray)[4]'h4s).toNat : Int) == 48) = true := by rw [h4e]; simp; omega
          clear h4e h4g a3 a1 hall
          go_enter Tryd.func46, Tryd.ntmps46
          go_wp2
          go_ret
          exact ⟨by rw [Hr.out]; rfl, Below.refl _ _⟩
      · have e2' : ¬ l.take 4 = [119, 97, 108, 46] := a1
        go_enter Tryd.func46, Tryd.ntmps46
        go_wp2
        go_ret
        exact ⟨by rw [Hr.out]; rfl, Below.refl _ _⟩
end Go.Proofs.YtgpgcnmnfnnkjaaDoor
end
