/- What a power failure leaves of records that were not synced, plain: those that are whole, and no frame behind them. Walks of package wal: common. Walks of package wal: a Wal in memory; Hard, same. -/
import Derived.Test.YtgpgcnmnfnnkjaaDoorGWalCuts24
import Derived.Test.YtgpgcnmnfnnkjaaDoorGWalCuts10
import Derived.Test.YtgpgcnmnfnnkjaaDoorGWalCuts12
import Derived.Test.YtgpgcnmnfnnkjaaDoorGWalCuts21
import Derived.Test.YtgpgcnmnfnnkjaaDoorGWalCuts3
import Derived.Deep.QuietTactic
import Derived.Laws.StructEq
import Derived.Test.YtgpgcnmnfnnkjaaDoorGWalCuts22
set_option linter.unusedVariables false
set_option linter.unusedSimpArgs false
section
namespace Go.Proofs.YtgpgcnmnfnnkjaaDoor
open Go Go.RowKit Go.PlainAid
theorem xor255_ne (x : UInt8) : x ^^^ 255 ≠ x := fun h => by
  have h0 := congrArg (fun y : UInt8 => y.toNat.testBit 0) h
  simp only [UInt8.toNat_xor, Nat.testBit_xor] at h0
  have : (255 : UInt8).toNat.testBit 0 = true := by decide
  rw [this] at h0
  cases hx : x.toNat.testBit 0 <;> rw [hx] at h0 <;> simp at h0
def Torn (tl T : List UInt8) : Prop := ∃ n, n ≤ tl.length ∧ (T = tl.take n ∨ (0 < n ∧ T = flipLast (tl.take n)))
theorem Torn.nil {T : List UInt8} (h : Torn [] T) : T = [] := by
  obtain ⟨n, hn, h | ⟨h0, h⟩⟩ := h
  · rw [h]; simp
  · simp at hn; omega
theorem Torn.le {tl T : List UInt8} (h : Torn tl T) : T.length ≤ tl.length := by
  obtain ⟨n, hn, h | ⟨h0, h⟩⟩ := h
  · rw [h, List.length_take]; omega
  · rw [h, flipLast_length, List.length_take]; omega
theorem flipLast_app {a b : List UInt8} (h : b ≠ []) : flipLast (a ++ b) = a ++ flipLast b := by
  have hp : 0 < b.length := List.length_pos_iff.2 h
  rw [flipLast_at (l := a ++ b) (m := a.length + (b.length - 1)) (by rw [List.length_append]; omega), flipLast_at (l := b) (m := b.length - 1) (by omega)]
  rw [List.set_append_right _ _ (by omega), Nat.add_sub_cancel_left, List.getElem_append_right (by omega)]
  congr 3
  congr 1
  simp
/-- a file that was kept so far -/
theorem torn_file (pick : Int) (s : ByteArray) (kp tl : List UInt8) : ∃ T, Torn tl T ∧ tornD pick ⟨s, kp ++ tl, kp.length⟩ = ⟨s, kp ++ T, (kp ++ T).length⟩ := by
  rw [tornD_eq (f := ⟨s, kp ++ tl, kp.length⟩) (u := tl.length) (by simp)]
  have hst : pick.toNat % (tl.length + 1) < tl.length + 1 := Nat.mod_lt _ (Nat.succ_pos _)
  have hL : (kp ++ tl).take (kp.length + pick.toNat % (tl.length + 1)) = kp ++ tl.take (pick.toNat % (tl.length + 1)) := by
    rw [List.take_append, List.take_of_length_le (by omega), Nat.add_sub_cancel_left]
  by_cases hc : 0 < pick.toNat % (tl.length + 1) ∧ pick.toNat / (tl.length + 1) % 2 = 1
  · have hne : tl.take (pick.toNat % (tl.length + 1)) ≠ [] := fun e => by
      have := congrArg List.length e
      rw [List.length_take, List.length_nil] at this; omega
    have e : tornB pick.toNat tl.length kp.length (kp ++ tl) = kp ++ flipLast (tl.take (pick.toNat % (tl.length + 1))) := by
      unfold tornB; rw [if_pos hc, hL, flipLast_app hne]
    refine ⟨flipLast (tl.take (pick.toNat % (tl.length + 1))), ⟨_, by omega, .inr ⟨hc.1, rfl⟩⟩, ?_⟩
    dsimp only
    rw [e]
  · have e : tornB pick.toNat tl.length kp.length (kp ++ tl) = kp ++ tl.take (pick.toNat % (tl.length + 1)) := by
      unfold tornB; rw [if_neg hc, hL]
    refine ⟨tl.take (pick.toNat % (tl.length + 1)), ⟨_, by omega, .inl rfl⟩, ?_⟩
    dsimp only
    rw [e]
theorem torn_full (pick : Int) (s : ByteArray) (b : List UInt8) : tornD pick ⟨s, b, b.length⟩ = ⟨s, b, b.length⟩ := by
  obtain ⟨T, h1, h2⟩ := torn_file pick s b []
  rw [List.append_nil] at h2
  rw [h2, h1.nil, List.append_nil]
theorem getD_eq {l : List UInt8} {i : Nat} (h : i < l.length) : l.getD i 0 = l[i] := by rw [List.getD_eq_getElem?_getD, List.getElem?_eq_getElem h]; rfl
/-- a frame of which the last byte that is left is turned is none -/
theorem flip_err {p : List UInt8} (h : Frm.none' p = false) {k : Nat} (h0 : 0 < k) (hk : k ≤ p.length + 8) : Frm.err (flipLast ((Frm.one p).take k)) ≠ 0 := by
  obtain ⟨h1, h2⟩ := (Frm.none_iff p).1 h
  have hol := Frm.one_length h
  have hl : ((Frm.one p).take k).length = (k - 1) + 1 := by rw [List.length_take]; omega
  have hfl := flipLast_length ((Frm.one p).take k)
  have hfe := flipLast_at hl
  generalize hr : flipLast ((Frm.one p).take k) = r at *
  have hrl : r.length = k := by omega
  have hat : ∀ i, i < k - 1 → r.getD i 0 = (Frm.one p).getD i 0 := fun i hi => by
    rw [getD_eq (by omega), getD_eq (by omega)]
    have : r[i]? = (Frm.one p)[i]? := by rw [hfe, List.getElem?_set_ne (by omega), List.getElem?_take, if_pos (by omega)]
    rw [List.getElem?_eq_getElem (by omega), List.getElem?_eq_getElem (by omega)] at this
    exact Option.some.inj this
  have hlast : r.getD (k - 1) 0 = (Frm.one p).getD (k - 1) 0 ^^^ 255 := by
    rw [getD_eq (by omega), getD_eq (by omega)]
    have : r[k - 1]? = some ((Frm.one p)[k - 1]'(by omega) ^^^ 255) := by
      have e := congrArg (fun l : List UInt8 => l[k - 1]?) hfe
      rw [List.getElem?_set_self (by omega), List.getElem_take] at e
      exact e
    rw [List.getElem?_eq_getElem (by omega)] at this
    exact Option.some.inj this
  unfold Frm.err
  by_cases h4 : k < 4
  · rw [if_pos (by omega)]; omega
  · rw [if_neg (by omega)]
    have hone4 : ∀ i, i < 4 → (Frm.one p).getD i 0 = (Frm.head p).getD i 0 := fun i hi => by
      rw [Frm.one_shape h, List.getD_eq_getElem?_getD, List.getElem?_append_left (by rw [Frm.head_length]; omega), List.getD_eq_getElem?_getD]
    by_cases h5 : k = 4
    · subst h5
      have e3 : (Frm.one p).getD 3 0 = 0 := by
        rw [hone4 3 (by omega)]
        show Crc.b 3 (BitVec.ofNat 32 p.length) = 0
        apply UInt8.toNat_inj.1
        rw [Crc.b_toNat, BitVec.toNat_ofNat, Nat.mod_eq_of_lt (show p.length < 2 ^ 32 by omega)]
        have : p.length / 2 ^ (8 * 3) = 0 := by rw [Nat.div_eq_zero_iff]; right; omega
        rw [this]; rfl
      have hlast' : r.getD 3 0 = 255 := by
        have := hlast
        rw [show 4 - 1 = 3 from rfl, e3] at this
        rw [this]; rfl
      have hlen : 255 * 16777216 ≤ Frm.len r := by
        unfold Frm.len Crc.num
        rw [Crc.num4_toNat, hlast']
        have : (255 : UInt8).toNat = 255 := rfl
        omega
      rw [if_pos (by omega)]; omega
    · have hlen : Frm.len r = p.length := by
        have e1 : Crc.num r = Crc.num (Frm.head p) := by
          unfold Crc.num
          rw [hat 0 (by omega), hat 1 (by omega), hat 2 (by omega), hat 3 (by omega), hone4 0 (by omega), hone4 1 (by omega), hone4 2 (by omega), hone4 3 (by omega)]
        have e2 := Frm.num_head p h2 []
        rw [List.append_nil] at e2
        unfold Frm.len at e2 ⊢
        rw [e1]; exact e2
      rw [hlen]
      rw [if_neg (by omega)]
      by_cases h6 : k < p.length + 8
      · rw [if_pos (by omega)]; omega
      · rw [if_neg (by omega)]
        have hkk : k = p.length + 8 := by omega
        have ht : r.take (4 + p.length) = Frm.head p ++ p := by
          apply List.ext_getElem?
          intro i
          rw [hfe, List.getElem?_take]
          have hsh := Frm.one_shape h
          split
          · rw [List.getElem?_set_ne (by omega), List.getElem?_take, if_pos (by omega), hsh, ← List.append_assoc, List.getElem?_append_left (by rw [List.length_append, Frm.head_length]; omega)]
          · rw [List.getElem?_eq_none (by rw [List.length_append, Frm.head_length]; omega)]
        have hd : ∀ i, (r.drop (4 + p.length)).getD i 0 = r.getD (4 + p.length + i) 0 := fun i => by rw [List.getD_eq_getElem?_getD, List.getElem?_drop, ← List.getD_eq_getElem?_getD]
        have ho : ∀ i, i < 4 → (Frm.one p).getD (4 + p.length + i) 0 = (Crc.le4 (Crc.on 0#32 (Frm.head p ++ p))).getD i 0 := fun i hi => by
          rw [Frm.one_shape h, ← List.append_assoc, List.getD_eq_getElem?_getD, List.getElem?_append_right (by rw [List.length_append, Frm.head_length]; omega), List.getD_eq_getElem?_getD]
          congr 2
          rw [List.length_append, Frm.head_length]; omega
        have hne : ¬ Crc.on 0#32 (r.take (4 + p.length)) = Crc.num (r.drop (4 + p.length)) := fun e => by
          rw [ht] at e
          have e2 : Crc.num (r.drop (4 + p.length)) = Crc.num (Crc.le4 (Crc.on 0#32 (Frm.head p ++ p))) := by rw [Crc.num_le4]; exact e.symm
          have e3 := congrArg BitVec.toNat e2
          unfold Crc.num at e3
          rw [hd 0, hd 1, hd 2, hd 3, hat _ (by omega), hat _ (by omega), hat _ (by omega), ho 0 (by omega), ho 1 (by omega), ho 2 (by omega), show 4 + p.length + 3 = k - 1 from by omega, hlast, show k - 1 = 4 + p.length + 3 from by omega, ho 3 (by omega), Crc.num4_toNat, Crc.num4_toNat] at e3
          have e4 : ((Crc.le4 (Crc.on 0#32 (Frm.head p ++ p))).getD 3 0 ^^^ 255).toNat = ((Crc.le4 (Crc.on 0#32 (Frm.head p ++ p))).getD 3 0).toNat := by omega
          exact xor255_ne _ (UInt8.toNat_inj.1 e4)
        rw [if_neg hne]; omega
theorem torn_cat : ∀ {K : List Rec} {T : List UInt8}, okR K → Torn (catR K) T → ∃ n c, n ≤ K.length ∧ T = catR (K.take n) ++ c ∧ Frm.err c ≠ 0 ∧ (n = K.length → c = [])
  | [], T, _, h => ⟨0, [], Nat.le_refl _, by rw [h.nil]; rfl, err_nil, fun _ => rfl⟩
  | r :: K, T, ok, h => by
    obtain ⟨n, hn, ht⟩ := h
    have hp := pay_none r (ok r (by simp))
    have hol := Frm.one_length hp
    rw [catR_cons] at hn ht
    rw [List.length_append] at hn
    by_cases h1 : n < (Frm.one r.pay).length
    · have e : (Frm.one r.pay ++ catR K).take n = (Frm.one r.pay).take n := by rw [List.take_append_of_le_length (by omega)]
      rw [e] at ht
      refine ⟨0, T, Nat.zero_le _, rfl, ?_, fun h => by simp at h⟩
      rcases ht with rfl | ⟨h0, rfl⟩
      · exact Frm.cut hp n (by omega)
      · exact flip_err hp h0 (by omega)
    · have e : (Frm.one r.pay ++ catR K).take n = Frm.one r.pay ++ (catR K).take (n - (Frm.one r.pay).length) := by rw [List.take_append, List.take_of_length_le (by omega)]
      rw [e] at ht
      have go : ∀ T', T = Frm.one r.pay ++ T' → Torn (catR K) T' → ∃ n c, n ≤ (r :: K).length ∧ T = catR ((r :: K).take n) ++ c ∧ Frm.err c ≠ 0 ∧ (n = (r :: K).length → c = []) := fun T' hT hT' => by
        obtain ⟨m, c, m1, m2, m3, m4⟩ := torn_cat (fun x hx => ok x (by simp [hx])) hT'
        refine ⟨m + 1, c, by simpa using m1, ?_, m3, fun h => m4 (by simpa using h)⟩
        rw [hT, m2, List.take_succ_cons, catR_cons, List.append_assoc]
      rcases ht with rfl | ⟨h0, rfl⟩
      · exact go _ rfl ⟨_, by omega, .inl rfl⟩
      · by_cases h2 : n = (Frm.one r.pay).length
        · refine ⟨0, _, Nat.zero_le _, rfl, ?_, fun h => by simp at h⟩
          rw [h2, Nat.sub_self, List.take_zero, List.append_nil]
          have := flip_err hp (k := (Frm.one r.pay).length) (by omega) (by omega)
          rwa [List.take_length] at this
        · have hne : (catR K).take (n - (Frm.one r.pay).length) ≠ [] := fun e => by
            have := congrArg List.length e
            rw [List.length_take, List.length_nil] at this; omega
          exact go _ (flipLast_app hne) ⟨_, by omega, .inr ⟨by omega, rfl⟩⟩
end Go.Proofs.YtgpgcnmnfnnkjaaDoor
end

section
namespace Go.Proofs.YtgpgcnmnfnnkjaaDoor
open Go Go.RowKit Go.PlainAid
attribute [local go_sem] After.same
theorem commonE_le : ∀ (a b : List Ety), commonE a b ≤ a.length ∧ commonE a b ≤ b.length
  | [], b => by simp [commonE]
  | x :: r, [] => by simp [commonE]
  | x :: r, y :: s => by
    have := commonE_le r s
    rw [commonE]; split
    · simp only [List.length_cons]; omega
    · simp
/-- counted on from place k -/
theorem commonE_on : ∀ (k : Nat) (a b : List Ety), k ≤ commonE a b → commonE a b = k + commonE (a.drop k) (b.drop k)
  | 0, a, b, _ => by simp
  | k + 1, [], b, h => by simp [commonE] at h
  | k + 1, x :: r, [], h => by simp [commonE] at h
  | k + 1, x :: r, y :: s, h => by
    rw [commonE] at h ⊢
    split at h
    · rename_i e
      rw [if_pos e, commonE_on k r s (by omega)]; simp only [List.drop_succ_cons]; omega
    · omega
theorem commonE_at {a b : List Ety} {k : Nat} (h : k ≤ commonE a b) (ha : k < a.length) (hb : k < b.length) : commonE a b = if etyEq a[k] b[k] = true then k + 1 + commonE (a.drop (k + 1)) (b.drop (k + 1)) else k := by
  rw [commonE_on k a b h, List.drop_eq_getElem_cons ha, List.drop_eq_getElem_cons hb, commonE]
  split <;> omega
theorem eqin_ety (x y : Ety) (w : World) : (Op.equalIn 10000 36 (.agg #[.int .i64 x.term, .int .i64 x.members, .string x.data]) (.agg #[.int .i64 y.term, .int .i64 y.members, .string y.data])).run Tryd.prog w = .ok (etyEq x y) w := by
  have u3 := Tryd.underlying3
  have u9 := Tryd.underlying9
  have a3 := Tryd.isAgg3
  have z3 := Tryd.sizeOf3
  have a9 := Tryd.isAgg9
  have z9 := Tryd.sizeOf9
  have hS : Tryd.prog.underlying 36 = some (.struct (Tryd.prog.fieldsOf 36)) := by kernel_rfl
  have hp : Tryd.prog.stoodInHeld 36 = false := by kernel_rfl
  rw [show (10000 : Nat) = 9999 + 1 from rfl, run_equalIn_agg w 9999 36 _ _ hS hp]
  simp only [Program.fieldsOf, Tryd.underlying36]
  unfold etyEq eqS
  go_simp
  generalize x.data.toList = a
  generalize y.data.toList = b
  by_cases h1 : a = b <;> by_cases h2 : x.term = y.term <;> by_cases h3 : x.members = y.members <;> simp [h1, h2, h3]
theorem eql_ety (x y : Ety) (w : World) : (binOp .eql 36 (.agg #[.int .i64 x.term, .int .i64 x.members, .string x.data]) (.agg #[.int .i64 y.term, .int .i64 y.members, .string y.data])).run Tryd.prog w = .ok (.bool (etyEq x y)) w := by
  rw [run_eql_struct, eqin_ety]; rfl
theorem neq_ety (x y : Ety) (w : World) : (binOp .neq 36 (.agg #[.int .i64 x.term, .int .i64 x.members, .string x.data]) (.agg #[.int .i64 y.term, .int .i64 y.members, .string y.data])).run Tryd.prog w = .ok (.bool (!etyEq x y)) w := by
  rw [run_neq_struct, eqin_ety]; rfl
theorem etyEq_iff (x y : Ety) : etyEq x y = ((x.term == y.term) && (x.members == y.members) && eqS x.data y.data) := rfl

set_option maxRecDepth 4000 in
set_option maxHeartbeats 2000000 in
theorem walCommon (u v : Value) (a b : List Ety) (w : World) (hu : Rd etyE w u a) (hv : Rd etyE w v b) :
    Calls Tryd.prog 54 #[u, v] w fun e w' => e = .returned (.int .i64 (commonE a b : Nat)) ∧ Below w.heap.size w w' := by
  obtain ⟨pu, cu, rfl⟩ := hu.shape
  obtain ⟨pv, cv, rfl⟩ := hv.shape
  have hle := commonE_le a b
  have m1 := hu.le
  unfold maxLen at m1
  go_enter Tryd.func54, Tryd.ntmps54
  go_wp2
  go_loopw [5] (fun i wr => ∃ (k m : Nat), i = .int .i64 k ∧ wr = w.drewN m ∧ k ≤ commonE a b) (fun i _ => a.length - (intOf i).toNat)
  case atStart => exact ⟨0, 0, rfl, rfl, Nat.zero_le _⟩
  case round =>
    obtain ⟨k, m, rfl, rfl, hk⟩ := hrel
    have hi0 : (0 : Int) ≤ (k : Int) := by omega
    by_cases ha : k < a.length
    · have ha1 : (k : Int) < (a.length : Int) := by omega
      by_cases hb : k < b.length
      · have hb1 : (k : Int) < (b.length : Int) := by omega
        obtain ⟨ba, oa, rfl⟩ := Rd.blk hu (by omega)
        obtain ⟨bb, ob, rfl⟩ := Rd.blk hv (by omega)
        obtain ⟨a0, a1, a2⟩ := ety3 hu ha
        obtain ⟨b0, b1, b2⟩ := ety3 hv hb
        have hat := commonE_at hk ha hb
        have Hat := Lib.hid hat
        clear hat
        generalize a[k] = x at *
        generalize b[k] = y at *
        have heql := fun (z : World) => eql_ety x y z
        cases he : etyEq x y with
        | true =>
          rw [he] at heql Hat
          have Hk1 := Lib.hid (show k + 1 ≤ commonE a b by have := Hat.out; rw [if_pos rfl] at this; omega)
          clear he
          go_wp2
          go_quiet (fail)
          go_wp2
          go_roundw
          case rel => exact ⟨k + 1, _, by go_num, rfl, Hk1.out⟩
          case measure => simp [intOf]; omega
        | false =>
          rw [he] at heql Hat
          have Hke := Lib.hid (show commonE a b = k by have := Hat.out; rw [if_neg (by simp)] at this; exact this)
          clear he
          go_wp2
          go_quiet (fail)
          go_wp2
          go_ret
          exact ⟨by rw [Hke.out]; rfl, (below_drawn w.heap.size w m).trans (below_drawn _ _ nq)⟩
      · have hb1 : ¬ (k : Int) < (b.length : Int) := by omega
        have hke : commonE a b = k := by omega
        have Hke := Lib.hid hke
        clear hke
        go_wp2
        go_quiet (fail)
        go_wp2
        go_ret
        exact ⟨by rw [Hke.out]; rfl, (below_drawn w.heap.size w m).trans (below_drawn _ _ nq)⟩
    · have ha1 : ¬ (k : Int) < (a.length : Int) := by omega
      have hke : commonE a b = k := by omega
      have Hke := Lib.hid hke
      clear hke
      go_wp2
      go_quiet (fail)
      go_wp2
      go_ret
      exact ⟨by rw [Hke.out]; rfl, (below_drawn w.heap.size w m).trans (below_drawn _ _ nq)⟩
end Go.Proofs.YtgpgcnmnfnnkjaaDoor
end

section
namespace Go.Proofs.YtgpgcnmnfnnkjaaDoor
open Go Go.RowKit Go.PlainAid BigFrame
attribute [local go_sem] After.same
@[reducible] def walA (g : Nat) (ws : Wl) (v : Value) : Array Value := #[.pointer (some ⟨g, 0, none⟩), .int .i64 (ws.n : Int), .int .i64 ws.h.term, .int .i64 ws.h.vote, .int .i64 ws.h.base, .int .i64 ws.h.bterm, .int .i64 ws.h.members, .string ws.h.snap, v, .bool ws.down]
/-- a Wal at block gw, its disk at g; v: its log. Its blocks are among X -/
structure WalV (w : World) (X : Nat → Prop) (g gw : Nat) (v : Value) (ws : Wl) : Prop where
  blk : Blk w gw (walA g ws v) 61
  log : Rd etyE w v ws.h.log
  inX : X gw
  lX : ∀ k, v.ownBlock = some k → X k
  off : v.ownBlock ≠ some gw
  few : ws.h.log.length ≤ 200
  num : ws.n ≤ 99999999999999
section
variable {w0 w w' : World} {X Y : Nat → Prop} {g gw : Nat} {v : Value} {ws : Wl} {d d' : Dk}
theorem WalV.c0 (h : WalV w X g gw v ws) : w.cell? ⟨gw, 0, none⟩ = some (.pointer (some ⟨g, 0, none⟩)) := h.blk.cell 0 _ rfl
theorem WalV.c1 (h : WalV w X g gw v ws) : w.cell? ⟨gw, 1, none⟩ = some (.int .i64 (ws.n : Int)) := h.blk.cell 1 _ rfl
theorem WalV.c2 (h : WalV w X g gw v ws) : w.cell? ⟨gw, 2, none⟩ = some (.int .i64 ws.h.term) := h.blk.cell 2 _ rfl
theorem WalV.c3 (h : WalV w X g gw v ws) : w.cell? ⟨gw, 3, none⟩ = some (.int .i64 ws.h.vote) := h.blk.cell 3 _ rfl
theorem WalV.c4 (h : WalV w X g gw v ws) : w.cell? ⟨gw, 4, none⟩ = some (.int .i64 ws.h.base) := h.blk.cell 4 _ rfl
theorem WalV.c5 (h : WalV w X g gw v ws) : w.cell? ⟨gw, 5, none⟩ = some (.int .i64 ws.h.bterm) := h.blk.cell 5 _ rfl
theorem WalV.c6 (h : WalV w X g gw v ws) : w.cell? ⟨gw, 6, none⟩ = some (.int .i64 ws.h.members) := h.blk.cell 6 _ rfl
theorem WalV.c7 (h : WalV w X g gw v ws) : w.cell? ⟨gw, 7, none⟩ = some (.string ws.h.snap) := h.blk.cell 7 _ rfl
theorem WalV.c8 (h : WalV w X g gw v ws) : w.cell? ⟨gw, 8, none⟩ = some v := h.blk.cell 8 _ rfl
theorem WalV.c9 (h : WalV w X g gw v ws) : w.cell? ⟨gw, 9, none⟩ = some (.bool ws.down) := h.blk.cell 9 _ rfl
theorem WalV.chg {G : Nat → Prop} (h : WalV w X g gw v ws) (hc : Chg G w w') (hG : ∀ k, X k → ¬ G k) : WalV w' X g gw v ws :=
  ⟨hc.blk h.blk (hG _ h.inX), hc.cells h.log (fun k hk => hG k (h.lX k hk)), h.inX, h.lX, h.off, h.few, h.num⟩
theorem WalV.keep (h : WalV w X g gw v ws) (hc : Chg (Gx w0 X) w w') : WalV w' X g gw v ws := h.chg hc fun k hk hG => hG.2 hk
theorem WalV.ext (h : WalV w X g gw v ws) (hb : Below w.heap.size w w') : WalV w' X g gw v ws := h.chg (G := fun _ => False) (.of_below hb) fun _ _ => id
end

set_option maxRecDepth 8000 in
set_option maxHeartbeats 2000000 in
theorem walHard {w : World} {X : Nat → Prop} {g gw : Nat} {v : Value} {ws : Wl} (h : WalV w X g gw v ws) :
    Calls Tryd.prog 13 #[.pointer (some ⟨gw, 0, none⟩)] w fun e w' => ∃ v', e = .returned (hrdA (bareOf ws.h) v') ∧ OwnR etyE w' w.heap.size 36 v' ws.h.log ∧ Below w.heap.size w w' := by
  obtain ⟨p, cap, rfl⟩ := h.log.shape
  have hgw := h.blk.lt
  have ca := below_alloc w (.cells #[.int .i64 0, .int .i64 0, .int .i64 0, .int .i64 0, .int .i64 0, .string ⟨#[]⟩, .slice none 0 0] 30)
  have kz := Blk.new w #[.int .i64 0, .int .i64 0, .int .i64 0, .int .i64 0, .int .i64 0, .string ⟨#[]⟩, .slice none 0 0] 30
  have h2 := h.ext ca
  have hfew := h.few
  have q0 := h.c0
  have q1 := h.c1
  have q2 := h.c2
  have q3 := h.c3
  have q4 := h.c4
  have q5 := h.c5
  have q6 := h.c6
  have q7 := h.c7
  have q8 := h.c8
  have q9 := h.c9
  have hcall := walCopied ws.h (.slice p ws.h.log.length cap) (w.alloc (.cells #[.int .i64 0, .int .i64 0, .int .i64 0, .int .i64 0, .int .i64 0, .string ⟨#[]⟩, .slice none 0 0] 30)) h2.log (by omega)
  clear h2
  go_enter Tryd.func13, Tryd.ntmps13
  go_wp2_with fail
  refine hcall.mono ?_
  rintro e w3 ⟨v3, rfl, own3, b3⟩
  obtain ⟨p3, c3, rfl⟩ := own3.rd.shape
  have kz3 := kz.ext b3
  have b03 := ca.trans (b3.mono (by simp))
  have y0 := kz3.cell 0 _ rfl
  have z0 := kz3.frozen 0
  have y1 := kz3.cell 1 _ rfl
  have z1 := kz3.frozen 1
  have y2 := kz3.cell 2 _ rfl
  have z2 := kz3.frozen 2
  have y3 := kz3.cell 3 _ rfl
  have z3 := kz3.frozen 3
  have y4 := kz3.cell 4 _ rfl
  have z4 := kz3.frozen 4
  have y5 := kz3.cell 5 _ rfl
  have z5 := kz3.frozen 5
  have y6 := kz3.cell 6 _ rfl
  have z6 := kz3.frozen 6
  have hsz1 : (w.alloc (.cells #[.int .i64 0, .int .i64 0, .int .i64 0, .int .i64 0, .int .i64 0, .string ⟨#[]⟩, .slice none 0 0] 30)).heap.size = w.heap.size + 1 := by simp
  have hfar : ∀ k, (Value.slice p3 ws.h.log.length c3).ownBlock = some k → ¬ k = w.heap.size := fun k hk e => by have := (own3.lt k hk).1; omega
  have own4 := own3.base (show w.heap.size ≤ _ by omega)
  clear hcall kz kz3
  go_wp2_with fail
  have hc := ((((((((Chg.refl (fun k => k = w.heap.size) w3).setCell (p := ⟨w.heap.size, 0, none⟩) rfl (.int .i64 ws.h.term)).setCell (p := ⟨w.heap.size, 1, none⟩) rfl (.int .i64 ws.h.vote)).setCell (p := ⟨w.heap.size, 2, none⟩) rfl (.int .i64 ws.h.base)).setCell (p := ⟨w.heap.size, 3, none⟩) rfl (.int .i64 ws.h.bterm)).setCell (p := ⟨w.heap.size, 4, none⟩) rfl (.int .i64 ws.h.members)).setCell (p := ⟨w.heap.size, 5, none⟩) rfl (.string ⟨#[]⟩)).setCell (p := ⟨w.heap.size, 6, none⟩) rfl (.slice p3 ws.h.log.length c3))
  refine bodyPost_ret (v := hrdA (bareOf ws.h) (.slice p3 ws.h.log.length c3)) (by simp [results, Tryd.results13, go_sem, *]) rfl ?_
  exact ⟨_, rfl, hc.ownR own4 hfar, b03.trans (hc.below (B := w.heap.size) (fun k hk => by rw [hk]; exact Nat.le_refl _) b03.size)⟩

theorem sameW_iff (x h : Hrd) : sameW x h = true ↔ (h.term = x.term ∧ h.vote = x.vote ∧ h.base = x.base ∧ h.bterm = x.bterm ∧ h.members = x.members ∧ h.log.length = x.log.length ∧ commonE h.log x.log = h.log.length) := by
  unfold sameW; simp only [Bool.and_eq_true, decide_eq_true_eq, and_assoc]
theorem no_of {b : Bool} {P : Prop} (hi : b = true ↔ P) (h : ¬ P) : false = b := by
  cases b
  · rfl
  · exact absurd (hi.1 rfl) h
set_option maxRecDepth 8000 in
set_option maxHeartbeats 4000000 in
theorem walSame {w : World} {X : Nat → Prop} {g gw : Nat} {v : Value} {ws : Wl} (hw : WalV w X g gw v ws) (h : Hrd) (u : Value) (hu : Rd etyE w u h.log) :
    Calls Tryd.prog 30 #[.pointer (some ⟨gw, 0, none⟩), hrdA h u] w fun e w' => e = .returned (.bool (sameW ws.h h)) ∧ Below w.heap.size w w' := by
  obtain ⟨p, cap, rfl⟩ := hu.shape
  obtain ⟨q, caq, rfl⟩ := hw.log.shape
  have hgw := hw.blk.lt
  have hgw2 : gw < w.heap.size + 1 := by omega
  have q2 := hw.c2
  have q3 := hw.c3
  have q4 := hw.c4
  have q5 := hw.c5
  have q6 := hw.c6
  have q7 := hw.c7
  have q8 := hw.c8
  have bW : Below w.heap.size w ((w.alloc (.cells #[.int .i64 h.term, .int .i64 h.vote, .int .i64 h.base, .int .i64 h.bterm, .int .i64 h.members, .string h.snap, .slice p h.log.length cap] 30)).alloc (.cells #[.int .i64 ws.h.term, .int .i64 ws.h.vote, .int .i64 ws.h.base, .int .i64 ws.h.bterm, .int .i64 ws.h.members, .string ws.h.snap, .slice q ws.h.log.length caq] 30)) := (below_alloc _ _).trans ((below_alloc _ _).mono (by simp))
  have kA := (Blk.new w #[.int .i64 h.term, .int .i64 h.vote, .int .i64 h.base, .int .i64 h.bterm, .int .i64 h.members, .string h.snap, .slice p h.log.length cap] 30).ext (below_alloc _ (.cells #[.int .i64 ws.h.term, .int .i64 ws.h.vote, .int .i64 ws.h.base, .int .i64 ws.h.bterm, .int .i64 ws.h.members, .string ws.h.snap, .slice q ws.h.log.length caq] 30))
  have kB := Blk.new (w.alloc (.cells #[.int .i64 h.term, .int .i64 h.vote, .int .i64 h.base, .int .i64 h.bterm, .int .i64 h.members, .string h.snap, .slice p h.log.length cap] 30)) #[.int .i64 ws.h.term, .int .i64 ws.h.vote, .int .i64 ws.h.base, .int .i64 ws.h.bterm, .int .i64 ws.h.members, .string ws.h.snap, .slice q ws.h.log.length caq] 30
  rw [show (w.alloc (.cells #[.int .i64 h.term, .int .i64 h.vote, .int .i64 h.base, .int .i64 h.bterm, .int .i64 h.members, .string h.snap, .slice p h.log.length cap] 30)).heap.size = w.heap.size + 1 from by simp] at kB
  have hiff := sameW_iff ws.h h
  have hz0 : ∀ z : After ((w.alloc (.cells #[.int .i64 h.term, .int .i64 h.vote, .int .i64 h.base, .int .i64 h.bterm, .int .i64 h.members, .string h.snap, .slice p h.log.length cap] 30)).alloc (.cells #[.int .i64 ws.h.term, .int .i64 ws.h.vote, .int .i64 ws.h.base, .int .i64 ws.h.bterm, .int .i64 ws.h.members, .string ws.h.snap, .slice q ws.h.log.length caq] 30)), z.1.cell? ⟨w.heap.size, 6, none⟩ = some (.slice p h.log.length cap) := fun z => (kA.ext z.2).cell 6 _ rfl
  have hz1 : ∀ z : After ((w.alloc (.cells #[.int .i64 h.term, .int .i64 h.vote, .int .i64 h.base, .int .i64 h.bterm, .int .i64 h.members, .string h.snap, .slice p h.log.length cap] 30)).alloc (.cells #[.int .i64 ws.h.term, .int .i64 ws.h.vote, .int .i64 ws.h.base, .int .i64 ws.h.bterm, .int .i64 ws.h.members, .string ws.h.snap, .slice q ws.h.log.length caq] 30)), z.1.cell? ⟨w.heap.size + 1, 6, none⟩ = some (.slice q ws.h.log.length caq) := fun z => (kB.ext z.2).cell 6 _ rfl
  have hcl : ∀ z : After ((w.alloc (.cells #[.int .i64 h.term, .int .i64 h.vote, .int .i64 h.base, .int .i64 h.bterm, .int .i64 h.members, .string h.snap, .slice p h.log.length cap] 30)).alloc (.cells #[.int .i64 ws.h.term, .int .i64 ws.h.vote, .int .i64 ws.h.base, .int .i64 ws.h.bterm, .int .i64 ws.h.members, .string ws.h.snap, .slice q ws.h.log.length caq] 30)), Calls Tryd.prog 54 #[.slice p h.log.length cap, .slice q ws.h.log.length caq] z.1 fun e w' => e = .returned (.int .i64 (commonE h.log ws.h.log : Nat)) ∧ ∃ y : After ((w.alloc (.cells #[.int .i64 h.term, .int .i64 h.vote, .int .i64 h.base, .int .i64 h.bterm, .int .i64 h.members, .string h.snap, .slice p h.log.length cap] 30)).alloc (.cells #[.int .i64 ws.h.term, .int .i64 ws.h.vote, .int .i64 ws.h.base, .int .i64 ws.h.bterm, .int .i64 ws.h.members, .string ws.h.snap, .slice q ws.h.log.length caq] 30)), w' = y.1 := fun z => z.call (walCommon _ _ _ _ z.1 ((hu.ext bW).ext z.2) ((hw.log.ext bW).ext z.2))
  have Hiff := Lib.hid hiff
  clear hiff kA kB hu hw
  generalize sameW ws.h h = R at *
  by_cases e0 : h.term = ws.h.term
  case neg =>
    have n0 : (h.term != ws.h.term) = true := by simpa using e0
    have Hr := Lib.hid (no_of Hiff.out (fun hh => e0 hh.1))
    clear e0 hz0 hz1 hcl Hiff
    go_enter Tryd.func30, Tryd.ntmps30
    go_wp2
    go_ret
    exact ⟨ret_bool Hr.out, bW⟩
  have n0 : (h.term != ws.h.term) = false := by simpa using e0
  have E0 := Lib.hid e0
  clear e0
  by_cases e1 : h.vote = ws.h.vote
  case neg =>
    have n1 : (h.vote != ws.h.vote) = true := by simpa using e1
    have Hr := Lib.hid (no_of Hiff.out (fun hh => e1 hh.2.1))
    clear e1 hz0 hz1 hcl Hiff
    go_enter Tryd.func30, Tryd.ntmps30
    go_wp2
    go_ret
    exact ⟨ret_bool Hr.out, bW⟩
  have n1 : (h.vote != ws.h.vote) = false := by simpa using e1
  have E1 := Lib.hid e1
  clear e1
  by_cases e2 : h.base = ws.h.base
  case neg =>
    have n2 : (h.base != ws.h.base) = true := by simpa using e2
    have Hr := Lib.hid (no_of Hiff.out (fun hh => e2 hh.2.2.1))
    clear e2 hz0 hz1 hcl Hiff
    go_enter Tryd.func30, Tryd.ntmps30
    go_wp2
    go_ret
    exact ⟨ret_bool Hr.out, bW⟩
  have n2 : (h.base != ws.h.base) = false := by simpa using e2
  have E2 := Lib.hid e2
  clear e2
  by_cases e3 : h.bterm = ws.h.bterm
  case neg =>
    have n3 : (h.bterm != ws.h.bterm) = true := by simpa using e3
    have Hr := Lib.hid (no_of Hiff.out (fun hh => e3 hh.2.2.2.1))
    clear e3 hz0 hz1 hcl Hiff
    go_enter Tryd.func30, Tryd.ntmps30
    go_wp2
    go_ret
    exact ⟨ret_bool Hr.out, bW⟩
  have n3 : (h.bterm != ws.h.bterm) = false := by simpa using e3
  have E3 := Lib.hid e3
  clear e3
  by_cases e4 : h.members = ws.h.members
  case neg =>
    have n4 : (h.members != ws.h.members) = true := by simpa using e4
    have Hr := Lib.hid (no_of Hiff.out (fun hh => e4 hh.2.2.2.2.1))
    clear e4 hz0 hz1 hcl Hiff
    go_enter Tryd.func30, Tryd.ntmps30
    go_wp2
    go_ret
    exact ⟨ret_bool Hr.out, bW⟩
  have n4 : (h.members != ws.h.members) = false := by simpa using e4
  have E4 := Lib.hid e4
  clear e4
  by_cases hl : h.log.length = ws.h.log.length
  · have hl1 : ((h.log.length : Int) == (ws.h.log.length : Int)) = true := by simp [hl]
    by_cases hc : commonE h.log ws.h.log = h.log.length
    · have hc1 : ((commonE h.log ws.h.log : Nat) : Int) == (h.log.length : Int) := by simp [hc]
      have Hr := Lib.hid (Hiff.out.2 ⟨E0.out, E1.out, E2.out, E3.out, E4.out, hl, hc⟩)
      clear hl hc Hiff
      generalize commonE h.log ws.h.log = C at *
      go_enter Tryd.func30, Tryd.ntmps30
      go_wp2_with fail
      generalize (w.alloc (.cells #[.int .i64 h.term, .int .i64 h.vote, .int .i64 h.base, .int .i64 h.bterm, .int .i64 h.members, .string h.snap, .slice p h.log.length cap] 30)).alloc (.cells #[.int .i64 ws.h.term, .int .i64 ws.h.vote, .int .i64 ws.h.base, .int .i64 ws.h.bterm, .int .i64 ws.h.members, .string ws.h.snap, .slice q ws.h.log.length caq] 30) = W at *
      refine wp_region_after (by kernel_rfl) (by kernel_rfl) ?_
      repeat (go_big_quiet_step (exact hcl _))
      refine wpQuiet_nil ?_
      rintro w7 ⟨⟨w8, c7⟩, hw⟩
      obtain rfl : w7 = w8 := hw
      have hb7 := bW.trans (c7.mono bW.size)
      clear hcl hz0 hz1
      go_wp2_with fail
      go_ret
      exact ⟨ret_bool Hr.out.symm, hb7⟩
    · have hc1 : (((commonE h.log ws.h.log : Nat) : Int) == (h.log.length : Int)) = false := by simp; omega
      have Hr := Lib.hid (no_of Hiff.out (fun hh => hc hh.2.2.2.2.2.2))
      clear hl hc Hiff
      generalize commonE h.log ws.h.log = C at *
      go_enter Tryd.func30, Tryd.ntmps30
      go_wp2_with fail
      generalize (w.alloc (.cells #[.int .i64 h.term, .int .i64 h.vote, .int .i64 h.base, .int .i64 h.bterm, .int .i64 h.members, .string h.snap, .slice p h.log.length cap] 30)).alloc (.cells #[.int .i64 ws.h.term, .int .i64 ws.h.vote, .int .i64 ws.h.base, .int .i64 ws.h.bterm, .int .i64 ws.h.members, .string ws.h.snap, .slice q ws.h.log.length caq] 30) = W at *
      refine wp_region_after (by kernel_rfl) (by kernel_rfl) ?_
      repeat (go_big_quiet_step (exact hcl _))
      refine wpQuiet_nil ?_
      rintro w7 ⟨⟨w8, c7⟩, hw⟩
      obtain rfl : w7 = w8 := hw
      have hb7 := bW.trans (c7.mono bW.size)
      clear hcl hz0 hz1
      go_wp2_with fail
      go_ret
      exact ⟨ret_bool Hr.out, hb7⟩
  · have hl1 : ((h.log.length : Int) == (ws.h.log.length : Int)) = false := by simp; omega
    have Hr := Lib.hid (no_of Hiff.out (fun hh => hl hh.2.2.2.2.2.1))
    clear hl Hiff
    go_enter Tryd.func30, Tryd.ntmps30
    go_wp2_with fail
    generalize (w.alloc (.cells #[.int .i64 h.term, .int .i64 h.vote, .int .i64 h.base, .int .i64 h.bterm, .int .i64 h.members, .string h.snap, .slice p h.log.length cap] 30)).alloc (.cells #[.int .i64 ws.h.term, .int .i64 ws.h.vote, .int .i64 ws.h.base, .int .i64 ws.h.bterm, .int .i64 ws.h.members, .string ws.h.snap, .slice q ws.h.log.length caq] 30) = W at *
    refine wp_region_after (by kernel_rfl) (by kernel_rfl) ?_
    repeat (go_big_quiet_step (exact hcl _))
    refine wpQuiet_nil ?_
    rintro w7 ⟨⟨w8, c7⟩, hw⟩
    obtain rfl : w7 = w8 := hw
    have hb7 := bW.trans (c7.mono bW.size)
    clear hcl hz0 hz1
    go_wp2_with fail
    go_ret
    exact ⟨ret_bool Hr.out, hb7⟩
end Go.Proofs.YtgpgcnmnfnnkjaaDoor
end
