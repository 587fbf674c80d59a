/- What a power failure leaves of records that were not synced, plain: those that are whole, and no frame behind them. Walks of package wal: common. -/
import Derived.Test.YtgpgcnmnfnnkjaaDoorGWalKeeps25
import Derived.Test.YtgpgcnmnfnnkjaaDoorGWalKeeps11
import Derived.Test.YtgpgcnmnfnnkjaaDoorGWalKeeps13
import Derived.Test.YtgpgcnmnfnnkjaaDoorGWalKeeps21
import Derived.Test.YtgpgcnmnfnnkjaaDoorGWalKeeps3
import Derived.Deep.QuietTactic
import Derived.Laws.StructEq
set_option linter.unusedVariables false
set_option linter.unusedSimpArgs false
section
namespace Go.Proofs.YtgpgcnmnfnnkjaaDoor
open Go Go.RowKit Go.PlainAid
theorem xor255_ne (x : UInt8) : x ^^^ 255 ≠ x := fun h => by
  have h0 := congrArg (fun y : UInt8 => y.toNat.testBit 0) h
  simp only [UInt8.toNat_xor, Nat.testBit_xor] at h0
  have : (255 : UInt8).toNat.testBit 0 = true := by decide
  rw [this] at h0
  cases hx : x.toNat.testBit 0 <;> rw [hx] at h0 <;> simp at h0
def Torn (tl T : List UInt8) : Prop := ∃ n, n ≤ tl.length ∧ (T = tl.take n ∨ (0 < n ∧ T = flipLast (tl.take n)))
theorem Torn.nil {T : List UInt8} (h : Torn [] T) : T = [] := by
  obtain ⟨n, hn, h | ⟨h0, h⟩⟩ := h
  · rw [h]; simp
  · simp at hn; omega
theorem Torn.le {tl T : List UInt8} (h : Torn tl T) : T.length ≤ tl.length := by
  obtain ⟨n, hn, h | ⟨h0, h⟩⟩ := h
  · rw [h, List.length_take]; omega
  · rw [h, flipLast_length, List.length_take]; omega
theorem flipLast_app {a b : List UInt8} (h : b ≠ []) : flipLast (a ++ b) = a ++ flipLast b := by
  have hp : 0 < b.length := List.length_pos_iff.2 h
  rw [flipLast_at (l := a ++ b) (m := a.length + (b.length - 1)) (by rw [List.length_append]; omega), flipLast_at (l := b) (m := b.length - 1) (by omega)]
  rw [List.set_append_right _ _ (by omega), Nat.add_sub_cancel_left, List.getElem_append_right (by omega)]
  congr 3
  congr 1
  simp
/-- a file that was kept so far -/
theorem torn_file (pick : Int) (s : ByteArray) (kp tl : List UInt8) : ∃ T, Torn tl T ∧ tornD pick ⟨s, kp ++ tl, kp.length⟩ = ⟨s, kp ++ T, (kp ++ T).length⟩ := by
  rw [tornD_eq (f := ⟨s, kp ++ tl, kp.length⟩) (u := tl.length) (by simp)]
  have hst : pick.toNat % (tl.length + 1) < tl.length + 1 := Nat.mod_lt _ (Nat.succ_pos _)
  have hL : (kp ++ tl).take (kp.length + pick.toNat % (tl.length + 1)) = kp ++ tl.take (pick.toNat % (tl.length + 1)) := by
    rw [List.take_append, List.take_of_length_le (by omega), Nat.add_sub_cancel_left]
  by_cases hc : 0 < pick.toNat % (tl.length + 1) ∧ pick.toNat / (tl.length + 1) % 2 = 1
  · have hne : tl.take (pick.toNat % (tl.length + 1)) ≠ [] := fun e => by
      have := congrArg List.length e
      rw [List.length_take, List.length_nil] at this; omega
    have e : tornB pick.toNat tl.length kp.length (kp ++ tl) = kp ++ flipLast (tl.take (pick.toNat % (tl.length + 1))) := by
      unfold tornB; rw [if_pos hc, hL, flipLast_app hne]
    refine ⟨flipLast (tl.take (pick.toNat % (tl.length + 1))), ⟨_, by omega, .inr ⟨hc.1, rfl⟩⟩, ?_⟩
    dsimp only
    rw [e]
  · have e : tornB pick.toNat tl.length kp.length (kp ++ tl) = kp ++ tl.take (pick.toNat % (tl.length + 1)) := by
      unfold tornB; rw [if_neg hc, hL]
    refine ⟨tl.take (pick.toNat % (tl.length + 1)), ⟨_, by omega, .inl rfl⟩, ?_⟩
    dsimp only
    rw [e]
theorem torn_full (pick : Int) (s : ByteArray) (b : List UInt8) : tornD pick ⟨s, b, b.length⟩ = ⟨s, b, b.length⟩ := by
  obtain ⟨T, h1, h2⟩ := torn_file pick s b []
  rw [List.append_nil] at h2
  rw [h2, h1.nil, List.append_nil]
theorem getD_eq {l : List UInt8} {i : Nat} (h : i < l.length) : l.getD i 0 = l[i] := by rw [List.getD_eq_getElem?_getD, List.getElem?_eq_getElem h]; rfl
/-- a frame of which the last byte that is left is turned is none -/
theorem flip_err {p : List UInt8} (h : Frm.none' p = false) {k : Nat} (h0 : 0 < k) (hk : k ≤ p.length + 8) : Frm.err (flipLast ((Frm.one p).take k)) ≠ 0 := by
  obtain ⟨h1, h2⟩ := (Frm.none_iff p).1 h
  have hol := Frm.one_length h
  have hl : ((Frm.one p).take k).length = (k - 1) + 1 := by rw [List.length_take]; omega
  have hfl := flipLast_length ((Frm.one p).take k)
  have hfe := flipLast_at hl
  generalize hr : flipLast ((Frm.one p).take k) = r at *
  have hrl : r.length = k := by omega
  have hat : ∀ i, i < k - 1 → r.getD i 0 = (Frm.one p).getD i 0 := fun i hi => by
    rw [getD_eq (by omega), getD_eq (by omega)]
    have : r[i]? = (Frm.one p)[i]? := by rw [hfe, List.getElem?_set_ne (by omega), List.getElem?_take, if_pos (by omega)]
    rw [List.getElem?_eq_getElem (by omega), List.getElem?_eq_getElem (by omega)] at this
    exact Option.some.inj this
  have hlast : r.getD (k - 1) 0 = (Frm.one p).getD (k - 1) 0 ^^^ 255 := by
    rw [getD_eq (by omega), getD_eq (by omega)]
    have : r[k - 1]? = some ((Frm.one p)[k - 1]'(by omega) ^^^ 255) := by
      have e := congrArg (fun l : List UInt8 => l[k - 1]?) hfe
      rw [List.getElem?_set_self (by omega), List.getElem_take] at e
      exact e
    rw [List.getElem?_eq_getElem (by omega)] at this
    exact Option.some.inj this
  unfold Frm.err
  by_cases h4 : k < 4
  · rw [if_pos (by omega)]; omega
  · rw [if_neg (by omega)]
    have hone4 : ∀ i, i < 4 → (Frm.one p).getD i 0 = (Frm.head p).getD i 0 := fun i hi => by
      rw [Frm.one_shape h, List.getD_eq_getElem?_getD, List.getElem?_append_left (by rw [Frm.head_length]; omega), List.getD_eq_getElem?_getD]
    by_cases h5 : k = 4
    · subst h5
      have e3 : (Frm.one p).getD 3 0 = 0 := by
        rw [hone4 3 (by omega)]
        show Crc.b 3 (BitVec.ofNat 32 p.length) = 0
        apply UInt8.toNat_inj.1
        rw [Crc.b_toNat, BitVec.toNat_ofNat, Nat.mod_eq_of_lt (show p.length < 2 ^ 32 by omega)]
        have : p.length / 2 ^ (8 * 3) = 0 := by rw [Nat.div_eq_zero_iff]; right; omega
        rw [this]; rfl
      have hlast' : r.getD 3 0 = 255 := by
        have := hlast
        rw [show 4 - 1 = 3 from rfl, e3] at this
        rw [this]; rfl
      have hlen : 255 * 16777216 ≤ Frm.len r := by
        unfold Frm.len Crc.num
        rw [Crc.num4_toNat, hlast']
        have : (255 : UInt8).toNat = 255 := rfl
        omega
      rw [if_pos (by omega)]; omega
    · have hlen : Frm.len r = p.length := by
        have e1 : Crc.num r = Crc.num (Frm.head p) := by
          unfold Crc.num
          rw [hat 0 (by omega), hat 1 (by omega), hat 2 (by omega), hat 3 (by omega), hone4 0 (by omega), hone4 1 (by omega), hone4 2 (by omega), hone4 3 (by omega)]
        have e2 := Frm.num_head p h2 []
        rw [List.append_nil] at e2
        unfold Frm.len at e2 ⊢
        rw [e1]; exact e2
      rw [hlen]
      rw [if_neg (by omega)]
      by_cases h6 : k < p.length + 8
      · rw [if_pos (by omega)]; omega
      · rw [if_neg (by omega)]
        have hkk : k = p.length + 8 := by omega
        have ht : r.take (4 + p.length) = Frm.head p ++ p := by
          apply List.ext_getElem?
          intro i
          rw [hfe, List.getElem?_take]
          have hsh := Frm.one_shape h
          split
          · rw [List.getElem?_set_ne (by omega), List.getElem?_take, if_pos (by omega), hsh, ← List.append_assoc, List.getElem?_append_left (by rw [List.length_append, Frm.head_length]; omega)]
          · rw [List.getElem?_eq_none (by rw [List.length_append, Frm.head_length]; omega)]
        have hd : ∀ i, (r.drop (4 + p.length)).getD i 0 = r.getD (4 + p.length + i) 0 := fun i => by rw [List.getD_eq_getElem?_getD, List.getElem?_drop, ← List.getD_eq_getElem?_getD]
        have ho : ∀ i, i < 4 → (Frm.one p).getD (4 + p.length + i) 0 = (Crc.le4 (Crc.on 0#32 (Frm.head p ++ p))).getD i 0 := fun i hi => by
          rw [Frm.one_shape h, ← List.append_assoc, List.getD_eq_getElem?_getD, List.getElem?_append_right (by rw [List.length_append, Frm.head_length]; omega), List.getD_eq_getElem?_getD]
          congr 2
          rw [List.length_append, Frm.head_length]; omega
        have hne : ¬ Crc.on 0#32 (r.take (4 + p.length)) = Crc.num (r.drop (4 + p.length)) := fun e => by
          rw [ht] at e
          have e2 : Crc.num (r.drop (4 + p.length)) = Crc.num (Crc.le4 (Crc.on 0#32 (Frm.head p ++ p))) := by rw [Crc.num_le4]; exact e.symm
          have e3 := congrArg BitVec.toNat e2
          unfold Crc.num at e3
          rw [hd 0, hd 1, hd 2, hd 3, hat _ (by omega), hat _ (by omega), hat _ (by omega), ho 0 (by omega), ho 1 (by omega), ho 2 (by omega), show 4 + p.length + 3 = k - 1 from by omega, hlast, show k - 1 = 4 + p.length + 3 from by omega, ho 3 (by omega), Crc.num4_toNat, Crc.num4_toNat] at e3
          have e4 : ((Crc.le4 (Crc.on 0#32 (Frm.head p ++ p))).getD 3 0 ^^^ 255).toNat = ((Crc.le4 (Crc.on 0#32 (Frm.head p ++ p))).getD 3 0).toNat := by omega
          exact xor255_ne _ (UInt8.toNat_inj.1 e4)
        rw [if_neg hne]; omega
theorem torn_cat : ∀ {K : List Rec} {T : List UInt8}, okR K → Torn (catR K) T → ∃ n c, n ≤ K.length ∧ T = catR (K.take n) ++ c ∧ Frm.err c ≠ 0 ∧ (n = K.length → c = [])
  | [], T, _, h => ⟨0, [], Nat.le_refl _, by rw [h.nil]; rfl, err_nil, fun _ => rfl⟩
  | r :: K, T, ok, h => by
    obtain ⟨n, hn, ht⟩ := h
    have hp := pay_none r (ok r (by simp))
    have hol := Frm.one_length hp
    rw [catR_cons] at hn ht
    rw [List.length_append] at hn
    by_cases h1 : n < (Frm.one r.pay).length
    · have e : (Frm.one r.pay ++ catR K).take n = (Frm.one r.pay).take n := by rw [List.take_append_of_le_length (by omega)]
      rw [e] at ht
      refine ⟨0, T, Nat.zero_le _, rfl, ?_, fun h => by simp at h⟩
      rcases ht with rfl | ⟨h0, rfl⟩
      · exact Frm.cut hp n (by omega)
      · exact flip_err hp h0 (by omega)
    · have e : (Frm.one r.pay ++ catR K).take n = Frm.one r.pay ++ (catR K).take (n - (Frm.one r.pay).length) := by rw [List.take_append, List.take_of_length_le (by omega)]
      rw [e] at ht
      have go : ∀ T', T = Frm.one r.pay ++ T' → Torn (catR K) T' → ∃ n c, n ≤ (r :: K).length ∧ T = catR ((r :: K).take n) ++ c ∧ Frm.err c ≠ 0 ∧ (n = (r :: K).length → c = []) := fun T' hT hT' => by
        obtain ⟨m, c, m1, m2, m3, m4⟩ := torn_cat (fun x hx => ok x (by simp [hx])) hT'
        refine ⟨m + 1, c, by simpa using m1, ?_, m3, fun h => m4 (by simpa using h)⟩
        rw [hT, m2, List.take_succ_cons, catR_cons, List.append_assoc]
      rcases ht with rfl | ⟨h0, rfl⟩
      · exact go _ rfl ⟨_, by omega, .inl rfl⟩
      · by_cases h2 : n = (Frm.one r.pay).length
        · refine ⟨0, _, Nat.zero_le _, rfl, ?_, fun h => by simp at h⟩
          rw [h2, Nat.sub_self, List.take_zero, List.append_nil]
          have := flip_err hp (k := (Frm.one r.pay).length) (by omega) (by omega)
          rwa [List.take_length] at this
        · have hne : (catR K).take (n - (Frm.one r.pay).length) ≠ [] := fun e => by
            have := congrArg List.length e
            rw [List.length_take, List.length_nil] at this; omega
          exact go _ (flipLast_app hne) ⟨_, by omega, .inr ⟨by omega, rfl⟩⟩
end Go.Proofs.YtgpgcnmnfnnkjaaDoor
end

section
namespace Go.Proofs.YtgpgcnmnfnnkjaaDoor
open Go Go.RowKit Go.PlainAid
attribute [local go_sem] After.same
theorem commonE_le : ∀ (a b : List Ety), commonE a b ≤ a.length ∧ commonE a b ≤ b.length
  | [], b => by simp [commonE]
  | x :: r, [] => by simp [commonE]
  | x :: r, y :: s => by
    have := commonE_le r s
    rw [commonE]; split
    · simp only [List.length_cons]; omega
    · simp
/-- counted on from place k -/
theorem commonE_on : ∀ (k : Nat) (a b : List Ety), k ≤ commonE a b → commonE a b = k + commonE (a.drop k) (b.drop k)
  | 0, a, b, _ => by simp
  | k + 1, [], b, h => by simp [commonE] at h
  | k + 1, x :: r, [], h => by simp [commonE] at h
  | k + 1, x :: r, y :: s, h => by
    rw [commonE] at h ⊢
    split at h
    · rename_i e
      rw [if_pos e, commonE_on k r s (by omega)]; simp only [List.drop_succ_cons]; omega
    · omega
theorem commonE_at {a b : List Ety} {k : Nat} (h : k ≤ commonE a b) (ha : k < a.length) (hb : k < b.length) : commonE a b = if etyEq a[k] b[k] = true then k + 1 + commonE (a.drop (k + 1)) (b.drop (k + 1)) else k := by
  rw [commonE_on k a b h, List.drop_eq_getElem_cons ha, List.drop_eq_getElem_cons hb, commonE]
  split <;> omega
theorem eqin_ety (x y : Ety) (w : World) : (Op.equalIn 10000 36 (.agg #[.int .i64 x.term, .int .i64 x.members, .string x.data]) (.agg #[.int .i64 y.term, .int .i64 y.members, .string y.data])).run Tryd.prog w = .ok (etyEq x y) w := by
  have u3 := Tryd.underlying3
  have u9 := Tryd.underlying9
  have a3 := Tryd.isAgg3
  have z3 := Tryd.sizeOf3
  have a9 := Tryd.isAgg9
  have z9 := Tryd.sizeOf9
  have hS : Tryd.prog.underlying 36 = some (.struct (Tryd.prog.fieldsOf 36)) := by kernel_rfl
  have hp : Tryd.prog.stoodInHeld 36 = false := by kernel_rfl
  rw [show (10000 : Nat) = 9999 + 1 from rfl, run_equalIn_agg w 9999 36 _ _ hS hp]
  simp only [Program.fieldsOf, Tryd.underlying36]
  unfold etyEq eqS
  go_simp
  generalize x.data.toList = a
  generalize y.data.toList = b
  by_cases h1 : a = b <;> by_cases h2 : x.term = y.term <;> by_cases h3 : x.members = y.members <;> simp [h1, h2, h3]
theorem eql_ety (x y : Ety) (w : World) : (binOp .eql 36 (.agg #[.int .i64 x.term, .int .i64 x.members, .string x.data]) (.agg #[.int .i64 y.term, .int .i64 y.members, .string y.data])).run Tryd.prog w = .ok (.bool (etyEq x y)) w := by
  rw [run_eql_struct, eqin_ety]; rfl
theorem neq_ety (x y : Ety) (w : World) : (binOp .neq 36 (.agg #[.int .i64 x.term, .int .i64 x.members, .string x.data]) (.agg #[.int .i64 y.term, .int .i64 y.members, .string y.data])).run Tryd.prog w = .ok (.bool (!etyEq x y)) w := by
  rw [run_neq_struct, eqin_ety]; rfl
theorem etyEq_iff (x y : Ety) : etyEq x y = ((x.term == y.term) && (x.members == y.members) && eqS x.data y.data) := rfl

set_option maxRecDepth 4000 in
set_option maxHeartbeats 2000000 in
theorem walCommon (u v : Value) (a b : List Ety) (w : World) (hu : Rd etyE w u a) (hv : Rd etyE w v b) :
    Calls Tryd.prog 54 #[u, v] w fun e w' => e = .returned (.int .i64 (commonE a b : Nat)) ∧ Below w.heap.size w w' := by
  obtain ⟨pu, cu, rfl⟩ := hu.shape
  obtain ⟨pv, cv, rfl⟩ := hv.shape
  have hle := commonE_le a b
  have m1 := hu.le
  unfold maxLen at m1
  go_enter Tryd.func54, Tryd.ntmps54
  go_wp2
  go_loopw [5] (fun i wr => ∃ (k m : Nat), i = .int .i64 k ∧ wr = w.drewN m ∧ k ≤ commonE a b) (fun i _ => a.length - (intOf i).toNat)
  case atStart => exact ⟨0, 0, rfl, rfl, Nat.zero_le _⟩
  case round =>
    obtain ⟨k, m, rfl, rfl, hk⟩ := hrel
    have hi0 : (0 : Int) ≤ (k : Int) := by omega
    by_cases ha : k < a.length
    · have ha1 : (k : Int) < (a.length : Int) := by omega
      by_cases hb : k < b.length
      · have hb1 : (k : Int) < (b.length : Int) := by omega
        obtain ⟨ba, oa, rfl⟩ := Rd.blk hu (by omega)
        obtain ⟨bb, ob, rfl⟩ := Rd.blk hv (by omega)
        obtain ⟨a0, a1, a2⟩ := ety3 hu ha
        obtain ⟨b0, b1, b2⟩ := ety3 hv hb
        have hat := commonE_at hk ha hb
        have Hat := Lib.hid hat
        clear hat
        generalize a[k] = x at *
        generalize b[k] = y at *
        have heql := fun (z : World) => eql_ety x y z
        cases he : etyEq x y with
        | true =>
          rw [he] at heql Hat
          have Hk1 := Lib.hid (show k + 1 ≤ commonE a b by have := Hat.out; rw [if_pos rfl] at this; omega)
          clear he
          go_wp2
          go_quiet (fail)
          go_wp2
          go_roundw
          case rel => exact ⟨k + 1, _, by go_num, rfl, Hk1.out⟩
          case measure => simp [intOf]; omega
        | false =>
          rw [he] at heql Hat
          have Hke := Lib.hid (show commonE a b = k by have := Hat.out; rw [if_neg (by simp)] at this; exact this)
          clear he
          go_wp2
          go_quiet (fail)
          go_wp2
          go_ret
          exact ⟨by rw [Hke.out]; rfl, (below_drawn w.heap.size w m).trans (below_drawn _ _ nq)⟩
      · have hb1 : ¬ (k : Int) < (b.length : Int) := by omega
        have hke : commonE a b = k := by omega
        have Hke := Lib.hid hke
        clear hke
        go_wp2
        go_quiet (fail)
        go_wp2
        go_ret
        exact ⟨by rw [Hke.out]; rfl, (below_drawn w.heap.size w m).trans (below_drawn _ _ nq)⟩
    · have ha1 : ¬ (k : Int) < (a.length : Int) := by omega
      have hke : commonE a b = k := by omega
      have Hke := Lib.hid hke
      clear hke
      go_wp2
      go_quiet (fail)
      go_wp2
      go_ret
      exact ⟨by rw [Hke.out]; rfl, (below_drawn w.heap.size w m).trans (below_drawn _ _ nq)⟩
end Go.Proofs.YtgpgcnmnfnnkjaaDoor
end
