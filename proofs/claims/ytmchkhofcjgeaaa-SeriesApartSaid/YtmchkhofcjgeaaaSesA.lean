/- Walks: session.Right, place, the document's SessionsRight, seat; at. -/
import Derived.Test.YtmchkhofcjgeaaaSesP
import Derived.Test.YtmchkhofcjgeaaaRds2
import Derived.Deep.QuietTactic
import Derived.BigQuiet
import Derived.Laws.StructEq
import Derived.Shelf.Abstract
namespace Go.Proofs.Ytmchkhofcjgeaaa
open Go Go.RowKit

theorem Rd.at_ {α : Type} {E : Enc α} {w : World} {b off n c : Nat} {l : List α} (h : Rd E w (.slice (some ⟨b, off, none⟩) n c) l) {k : Nat} (hk : k < l.length) (j : Nat) (hj : j < E.sz) :
    w.cell? ⟨b, off + (k * E.sz + j), none⟩ = (E.enc l[k])[j]? := by
  obtain ⟨p, cap, e, _, _, _, h4⟩ := h.form
  obtain ⟨b', off', rfl, hc⟩ := h4 (by omega)
  simp only [Value.slice.injEq, Option.some.injEq, Addr.mk.injEq] at e
  obtain ⟨⟨rfl, rfl, _⟩, _, _⟩ := e
  exact hc k hk j hj
theorem Rd.blk {α : Type} {E : Enc α} {w : World} {p : Option Addr} {n c : Nat} {l : List α} (h : Rd E w (.slice p n c) l) (hp : 0 < l.length) : ∃ b off, p = some ⟨b, off, none⟩ := by
  obtain ⟨p', cap, e, _, _, _, h4⟩ := h.form
  obtain ⟨b', off', rfl, hc⟩ := h4 hp
  simp only [Value.slice.injEq] at e
  exact ⟨b', off', e.1⟩
theorem ses5 {w : World} {b off n c : Nat} {l : List Ses} (h : Rd sesE w (.slice (some ⟨b, off, none⟩) n c) l) {k : Nat} (hk : k < l.length) :
    w.cell? ⟨b, off + k * 5, none⟩ = some (.int .i64 l[k].id) ∧ w.cell? ⟨b, off + k * 5 + 1, none⟩ = some (.int .i64 l[k].last) ∧ w.cell? ⟨b, off + k * 5 + 2, none⟩ = some (.int .i64 l[k].rep.why) ∧
      w.cell? ⟨b, off + k * 5 + 3, none⟩ = some (.int .i64 l[k].rep.num) ∧ w.cell? ⟨b, off + k * 5 + 4, none⟩ = some (.int .i64 l[k].rep.gross) :=
  ⟨h.at_ hk 0 (by decide), h.at_ hk 1 (by decide), h.at_ hk 2 (by decide), h.at_ hk 3 (by decide), h.at_ hk 4 (by decide)⟩

theorem rep_eqb (x y : Rep) : (x.why == y.why && (x.num == y.num && x.gross == y.gross)) = decide (x = y) := by
  rw [Bool.eq_iff_iff, decide_eq_true_iff]
  cases x; cases y; simp
theorem eqin_rep (x y : Rep) (n : Nat) (w : World) : (Op.equalIn (n + 2) 24 (.agg #[.int .i64 x.why, .int .i64 x.num, .int .i64 x.gross]) (.agg #[.int .i64 y.why, .int .i64 y.num, .int .i64 y.gross])).run Try.prog w = .ok (decide (x = y)) w := by
  have u3 := Try.underlying3
  have a3 := Try.isAgg3
  have z3 := Try.sizeOf3
  have u2 := Try.underlying22
  have a2 := Try.isAgg22
  have z2 := Try.sizeOf22
  have hS : Try.prog.underlying 24 = some (.struct (Try.prog.fieldsOf 24)) := by kernel_rfl
  have hp : Try.prog.stoodInHeld 24 = false := by kernel_rfl
  rw [← rep_eqb]
  rw [run_equalIn_agg w (n + 1) 24 _ _ hS hp]
  simp only [Program.fieldsOf, Try.underlying24]
  go_simp
  by_cases h1 : x.why = y.why <;> by_cases h2 : x.num = y.num <;> by_cases h3 : x.gross = y.gross <;> simp [h1, h2, h3]
theorem neq_rep (x y : Rep) (w : World) : (binOp .neq 24 (.agg #[.int .i64 x.why, .int .i64 x.num, .int .i64 x.gross]) (.agg #[.int .i64 y.why, .int .i64 y.num, .int .i64 y.gross])).run Try.prog w = .ok (.bool (!decide (x = y))) w := by
  rw [run_neq_struct, eqin_rep x y 9998]; rfl
theorem eql_rep (x y : Rep) (w : World) : (binOp .eql 24 (.agg #[.int .i64 x.why, .int .i64 x.num, .int .i64 x.gross]) (.agg #[.int .i64 y.why, .int .i64 y.num, .int .i64 y.gross])).run Try.prog w = .ok (.bool (decide (x = y))) w := by
  rw [run_eql_struct, eqin_rep x y 9998]; rfl
theorem ses_eqb (x y : Ses) : (x.id == y.id && (x.last == y.last && decide (x.rep = y.rep))) = decide (x = y) := by
  rw [Bool.eq_iff_iff, decide_eq_true_iff]
  cases x; cases y; simp
theorem eqin_ses (x y : Ses) (w : World) : (Op.equalIn 10000 33 (.agg #[.int .i64 x.id, .int .i64 x.last, .int .i64 x.rep.why, .int .i64 x.rep.num, .int .i64 x.rep.gross]) (.agg #[.int .i64 y.id, .int .i64 y.last, .int .i64 y.rep.why, .int .i64 y.rep.num, .int .i64 y.rep.gross])).run Try.prog w = .ok (decide (x = y)) w := by
  have u3 := Try.underlying3
  have a3 := Try.isAgg3
  have z3 := Try.sizeOf3
  have a2 := Try.isAgg24
  have z2 := Try.sizeOf24
  have hS : Try.prog.underlying 33 = some (.struct (Try.prog.fieldsOf 33)) := by kernel_rfl
  have hp : Try.prog.stoodInHeld 33 = false := by kernel_rfl
  have u2 := Try.underlying22
  have ae := Try.isAgg22
  have ze := Try.sizeOf22
  rw [← ses_eqb, ← rep_eqb]
  rw [show (10000 : Nat) = 9999 + 1 from rfl, run_equalIn_agg w 9999 33 _ _ hS hp]
  simp only [Program.fieldsOf, Try.underlying33]
  go_simp
  by_cases h1 : x.id = y.id <;> by_cases h2 : x.last = y.last <;> by_cases h3 : x.rep.why = y.rep.why <;> by_cases h4 : x.rep.num = y.rep.num <;> by_cases h5 : x.rep.gross = y.rep.gross <;> simp [h1, h2, h3, h4, h5]
theorem neq_Ses (x y : Ses) (w : World) : (binOp .neq 33 (.agg #[.int .i64 x.id, .int .i64 x.last, .int .i64 x.rep.why, .int .i64 x.rep.num, .int .i64 x.rep.gross]) (.agg #[.int .i64 y.id, .int .i64 y.last, .int .i64 y.rep.why, .int .i64 y.rep.num, .int .i64 y.rep.gross])).run Try.prog w = .ok (.bool (!decide (x = y))) w := by
  rw [run_neq_struct, eqin_ses]; rfl

theorem okS_no {a : Int} {s : Ses} (h : s.id ≤ a ∨ s.last < 0 ∨ 1099511627776 < s.last ∨ (s.last = 0 ∧ s.rep ≠ rep0)) : okS a s = false := by
  rw [Bool.eq_false_iff]; intro ht
  unfold okS at ht
  simp only [Bool.and_eq_true, decide_eq_true_eq, Bool.or_eq_true, Bool.not_eq_true', beq_eq_false_iff_ne] at ht
  obtain ⟨h1, h2, h3, h4⟩ := ht
  rcases h with h | h | h | ⟨h, h'⟩
  · omega
  · omega
  · omega
  · rcases h4 with h4 | h4
    · exact h4 h
    · exact h' h4
theorem okS_yes {a : Int} {s : Ses} (h1 : a < s.id) (h2 : 0 ≤ s.last) (h3 : s.last ≤ 1099511627776) (h4 : s.last ≠ 0 ∨ s.rep = rep0) : okS a s = true := by
  unfold okS
  simp only [Bool.and_eq_true, decide_eq_true_eq, Bool.or_eq_true, Bool.not_eq_true', beq_eq_false_iff_ne]
  exact ⟨h1, h2, h3, h4⟩
theorem okS_parts {a : Int} {s : Ses} (h : okS a s = true) : a < s.id ∧ 0 ≤ s.last ∧ s.last ≤ 1099511627776 ∧ (s.last ≠ 0 ∨ s.rep = rep0) := by
  unfold okS at h
  simpa only [Bool.and_eq_true, decide_eq_true_eq, Bool.or_eq_true, Bool.not_eq_true', beq_eq_false_iff_ne] using h
theorem okS_cases (a : Int) (s : Ses) : (okS a s = false ∧ (s.id ≤ a ∨ (a < s.id ∧ s.last < 0) ∨ (a < s.id ∧ 0 ≤ s.last ∧ 1099511627776 < s.last) ∨ (a < s.id ∧ 0 ≤ s.last ∧ s.last ≤ 1099511627776 ∧ s.last = 0 ∧ s.rep ≠ rep0))) ∨
    (okS a s = true ∧ a < s.id ∧ 0 ≤ s.last ∧ s.last ≤ 1099511627776 ∧ (s.last ≠ 0 ∨ (s.last = 0 ∧ s.rep = rep0))) := by
  by_cases h1 : a < s.id
  · by_cases h2 : 0 ≤ s.last
    · by_cases h3 : s.last ≤ 1099511627776
      · by_cases h4 : s.last = 0
        · by_cases h5 : s.rep = rep0
          · exact .inr ⟨okS_yes h1 h2 h3 (.inr h5), h1, h2, h3, .inr ⟨h4, h5⟩⟩
          · exact .inl ⟨okS_no (.inr (.inr (.inr ⟨h4, h5⟩))), .inr (.inr (.inr ⟨h1, h2, h3, h4, h5⟩))⟩
        · exact .inr ⟨okS_yes h1 h2 h3 (.inl h4), h1, h2, h3, .inl h4⟩
      · exact .inl ⟨okS_no (.inr (.inr (.inl (by omega)))), .inr (.inr (.inl ⟨h1, h2, by omega⟩))⟩
    · exact .inl ⟨okS_no (.inr (.inl (by omega))), .inr (.inl ⟨h1, by omega⟩)⟩
  · exact .inl ⟨okS_no (.inl (by omega)), .inl (by omega)⟩
theorem right_no {l : List Ses} {a : Int} {k : Nat} (hch : chainS 0 l = chainS a (l.drop k)) (hk : k < l.length) (h : okS a l[k] = false) : rightS l = false := by
  unfold rightS; rw [hch, chainS_step hk, h]; simp
theorem right_next {l : List Ses} {a : Int} {k : Nat} (hch : chainS 0 l = chainS a (l.drop k)) (hk : k < l.length) (h : okS a l[k] = true) : chainS 0 l = chainS l[k].id (l.drop (k + 1)) := by
  rw [hch, chainS_step hk, h]; rfl
theorem right_end {l : List Ses} {a : Int} {k : Nat} (hch : chainS 0 l = chainS a (l.drop k)) (hk : l.length ≤ k) (h8 : l.length ≤ 8) : rightS l = true := by
  unfold rightS; rw [hch, chainS_end hk]; simpa using h8
theorem right_long {l : List Ses} (h : 8 < l.length) : rightS l = false := by
  unfold rightS; rw [decide_eq_false (by omega)]; rfl

set_option maxHeartbeats 1000000 in
theorem sesRight (v : Value) (l : List Ses) (w : World) (hv : Rd sesE w v l) :
    Calls Try.prog 21 #[v] w fun e w' => e = .returned (.bool (rightS l)) ∧ Below w.heap.size w w' := by
  obtain ⟨p, cap, rfl, h1, h2, h3, h4⟩ := hv.form
  clear h3 h4
  unfold maxLen at h2
  by_cases h8 : 8 < l.length
  · have h8' : (8 : Int) < (l.length : Int) := by omega
    go_enter Try.func21, Try.ntmps21
    go_wp2
    go_ret
    exact ⟨ret_bool (right_long h8).symm, Below.refl _ _⟩
  · have h8' : ¬ (8 : Int) < (l.length : Int) := by omega
    go_enter Try.func21, Try.ntmps21
    go_wp2
    go_loopw [3, 11] (fun la i wr => ∃ (k : Nat) (a : Int), k ≤ l.length ∧ i = .int .i64 k ∧ la = .int .i64 a ∧ Hid (chainS 0 l = chainS a (l.drop k)) ∧ Below w.heap.size w wr) (fun _ i _ => l.length - (intOf i).toNat)
    case atStart => exact ⟨0, 0, by omega, rfl, rfl, rfl, Below.refl _ _⟩
    case round =>
      obtain ⟨k, a, hk, rfl, rfl, hch, hb⟩ := hrel
      by_cases hlt : k < l.length
      · obtain ⟨b, off, rfl⟩ := Rd.blk hv (by omega)
        obtain ⟨c0, c1, c2, c3, c4⟩ := ses5 (hv.ext hb) hlt
        have hi : (k : Int) < (l.length : Int) := by omega
        have hno := Lib.hid (fun h => right_no hch.out hlt h)
        have hnx := Lib.hid (fun h => right_next hch.out hlt h)
        have hne := neq_rep l[k].rep rep0
        simp only [show rep0.why = 0 from rfl, show rep0.num = 0 from rfl, show rep0.gross = 0 from rfl] at hne
        clear hv
        generalize l[k] = s at *
        rcases okS_cases a s with ⟨hq, t⟩ | ⟨hq, t1, t2, t3, t⟩
        · have Hq := Lib.hid hq
          clear hq
          rcases t with t1 | ⟨t1, t2⟩ | ⟨t1, t2, t3⟩ | ⟨t1, t2, t3, t4, t5⟩
          · go_wp2
            go_ret
            exact ⟨ret_bool (hno.out Hq.out).symm, hb.alloc hb.size _⟩
          · go_wp2
            go_ret
            exact ⟨ret_bool (hno.out Hq.out).symm, hb.alloc hb.size _⟩
          · go_wp2
            go_ret
            exact ⟨ret_bool (hno.out Hq.out).symm, hb.alloc hb.size _⟩
          · have t6 : (s.last == 0) = true := by simpa using t4
            rw [decide_eq_false t5] at hne
            clear t4 t5
            go_wp2
            go_ret
            exact ⟨ret_bool (hno.out Hq.out).symm, hb.alloc hb.size _⟩
        · have Hq := Lib.hid hq
          clear hq
          rcases t with t4 | ⟨t4, t5⟩
          · have t6 : (s.last == 0) = false := by simpa using t4
            clear t4
            go_wp2
            go_roundw
            case rel => exact ⟨k + 1, s.id, by omega, by go_num, rfl, hnx.out Hq.out, hb.alloc hb.size _⟩
            case measure => simp [intOf]; omega
          · have t6 : (s.last == 0) = true := by simpa using t4
            rw [decide_eq_true t5] at hne
            clear t4 t5
            go_wp2
            go_roundw
            case rel => exact ⟨k + 1, s.id, by omega, by go_num, rfl, hnx.out Hq.out, hb.alloc hb.size _⟩
            case measure => simp [intOf]; omega
      · go_wp2
        go_ret
        exact ⟨ret_bool (right_end hch.out (by omega) (by omega)).symm, hb⟩

theorem sesPlaceFn (x : Ses) (g : Nat) (id : Int) (w : World) (hc : w.cell? ⟨g, 0, none⟩ = some (.int .i64 id)) (hg : g < w.heap.size) :
    Calls Try.prog 53 #[.agg #[.int .i64 x.id, .int .i64 x.last, .int .i64 x.rep.why, .int .i64 x.rep.num, .int .i64 x.rep.gross], .pointer (some ⟨g, 0, none⟩)] w fun e w' => e = .returned (.bool (isId id x)) ∧ Below w.heap.size w w' := by
  have hne : g ≠ w.heap.size := by omega
  go_enter Try.func53, Try.ntmps53
  go_wp2
  go_ret
  exact ⟨rfl, below_alloc _ _⟩

set_option maxHeartbeats 1000000 in
theorem sesIdx (v : Value) (l : List Ses) (g : Nat) (id : Int) (w : World) (hv : Rd sesE w v l) (hg : g < w.heap.size) (hc : w.cell? ⟨g, 0, none⟩ = some (.int .i64 id)) :
    Calls Try.prog 52 #[v, .func (.func 53) #[] #[.pointer (some ⟨g, 0, none⟩)]] w fun e w' => e = .returned (.int .i64 (placeS l id)) ∧ Below w.heap.size w w' := by
  have eg : ∀ args w, (callFunc 53 args).run Try.prog w = .ok (.enter 53 args) w := enters_of Try.func53 (by kernel_rfl) rfl
  obtain ⟨p, cap, rfl, h1, h2, h3, h4⟩ := hv.form
  clear h3 h4
  unfold maxLen at h2
  go_enter Try.func52, Try.ntmps52
  go_wp2
  go_loopw [8] (fun i wr => ∃ k : Nat, k ≤ l.length ∧ i = .int .i64 k ∧ Hid (placeS l id = placeBy (isId id) (l.drop k) k) ∧ Below w.heap.size w wr) (fun i _ => l.length - (intOf i).toNat)
  case atStart => exact ⟨0, by omega, rfl, rfl, Below.refl _ _⟩
  case round =>
    obtain ⟨k, hk, rfl, hpl, hb⟩ := hrel
    by_cases hlt : k < l.length
    · obtain ⟨b, off, rfl⟩ := Rd.blk hv (by omega)
      obtain ⟨c0, c1, c2, c3, c4⟩ := ses5 (hv.ext hb) hlt
      have hi : (k : Int) < (l.length : Int) := by omega
      have hcr : wr.cell? ⟨g, 0, none⟩ = some (.int .i64 id) := (hb.cell (p := ⟨g, 0, none⟩) hg).trans hc
      have hgr : g < wr.heap.size := Nat.lt_of_lt_of_le hg hb.size
      have hhit := Lib.hid (fun h => placeBy_hit (p := isId id) hlt h)
      have hmiss := Lib.hid (fun h => placeBy_miss (p := isId id) hlt h)
      have hcall := sesPlaceFn l[k] g id wr hcr hgr
      clear hv hc
      generalize l[k] = s at *
      cases hq : isId id s with
      | true =>
        rw [hq] at hcall
        have Hq := Lib.hid hq
        clear hq
        go_wp2_with (go_at_fn 53; refine hcall.mono ?_; rintro e w' ⟨rfl, hb'⟩)
        go_ret
        exact ⟨ret_int (by rw [hpl.out, hhit.out Hq.out]), hb.trans (hb'.mono hb.size)⟩
      | false =>
        rw [hq] at hcall
        have Hq := Lib.hid hq
        clear hq
        go_wp2_with (go_at_fn 53; refine hcall.mono ?_; rintro e w' ⟨rfl, hb'⟩)
        go_roundw
        case rel => exact ⟨k + 1, by omega, by go_num, hpl.out.trans (hmiss.out Hq.out), hb.trans (hb'.mono hb.size)⟩
        case measure => simp [intOf]; omega
    · go_wp2
      go_ret
      exact ⟨ret_int (by rw [hpl.out, placeBy_end (by omega)]), hb⟩

theorem sesPlace (v : Value) (l : List Ses) (id : Int) (w : World) (hv : Rd sesE w v l) :
    Calls Try.prog 40 #[v, .int .i64 id] w fun e w' => e = .returned (.int .i64 (placeS l id)) ∧ Below w.heap.size w w' := by
  have hcon := sesIdx v l w.heap.size id (w.alloc (.cells #[.int .i64 id] 3)) (hv.ext (below_alloc _ _)) (by simp) (by simp)
  obtain ⟨p, cap, rfl⟩ := hv.shape
  go_enter Try.func40, Try.ntmps40
  go_wp2_with (go_at_call 52; refine hcon.mono ?_; rintro e w' ⟨rfl, hb'⟩)
  go_ret
  exact ⟨rfl, (below_alloc _ _).trans (hb'.mono (by simp))⟩
end Go.Proofs.Ytmchkhofcjgeaaa
