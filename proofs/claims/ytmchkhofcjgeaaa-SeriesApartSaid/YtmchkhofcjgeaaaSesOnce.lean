/- The walk of SessionOnce. -/
import Derived.Test.YtmchkhofcjgeaaaSesFull
import Derived.Test.YtmchkhofcjgeaaaArr
import Derived.Deep.CutRange
import Derived.Deep.CutBlock
namespace Go.Proofs.Ytmchkhofcjgeaaa
open Go Go.RowKit

structure SAsk where
  kind : Int
  id : Int
  seq : Int
  n : Int
def saskE : Enc SAsk := ⟨4, fun x => [.int .i64 x.kind, .int .i64 x.id, .int .i64 x.seq, .int .i64 x.n], fun _ => rfl, fun x v hv => by simp only [List.mem_cons, List.not_mem_nil, or_false] at hv; rcases hv with rfl | rfl | rfl | rfl <;> rfl, by decide⟩
theorem sask4 {w : World} {b off n c : Nat} {l : List SAsk} (h : Rd saskE w (.slice (some ⟨b, off, none⟩) n c) l) {k : Nat} (hk : k < l.length) :
    w.cell? ⟨b, off + k * 4, none⟩ = some (.int .i64 l[k].kind) ∧ w.cell? ⟨b, off + k * 4 + 1, none⟩ = some (.int .i64 l[k].id) ∧ w.cell? ⟨b, off + k * 4 + 2, none⟩ = some (.int .i64 l[k].seq) ∧ w.cell? ⟨b, off + k * 4 + 3, none⟩ = some (.int .i64 l[k].n) :=
  ⟨h.at_ hk 0 (by decide), h.at_ hk 1 (by decide), h.at_ hk 2 (by decide), h.at_ hk 3 (by decide)⟩

/-- what the law's own notes say of the sessions -/
structure OnceP (ls : List Ses) (la re : Nat → Int) (inn : Nat → Bool) : Prop where
  right : RightP ls
  has : ∀ k : Nat, 1 ≤ k → k ≤ 10 → getS ls k = if inn k then some ⟨k, la k, ⟨0, re k, 0⟩⟩ else none
theorem OnceP.start : OnceP [] (fun _ => 0) (fun _ => 0) (fun _ => false) := ⟨RightP.nil, fun k _ _ => by simp [getS_nil]⟩
theorem OnceP.join {ls m : List Ses} {la re : Nat → Int} {inn : Nat → Bool} (h : OnceP ls la re inn) (q : Nat) (hR : RightP m) (hm : ∀ x, getS m x = if x = (q : Int) then some ⟨q, 0, rep0⟩ else getS ls x) :
    OnceP m (updF la q 0) (updF re q 0) (updF inn q true) := by
  refine ⟨hR, fun k h1 h2 => ?_⟩
  rw [hm]
  by_cases hk : k = q
  · subst hk; rw [if_pos rfl, updF_same, updF_same, updF_same]; rfl
  · rw [if_neg (by omega), updF_other _ _ _ hk, updF_other _ _ _ hk, updF_other _ _ _ hk]; exact h.has k h1 h2
theorem OnceP.leave {ls m : List Ses} {la re : Nat → Int} {inn : Nat → Bool} (h : OnceP ls la re inn) (q : Nat) (hR : RightP m) (hm : ∀ x, getS m x = if x = (q : Int) then none else getS ls x) :
    OnceP m la re (updF inn q false) := by
  refine ⟨hR, fun k h1 h2 => ?_⟩
  rw [hm]
  by_cases hk : k = q
  · subst hk; rw [if_pos rfl, updF_same]; rfl
  · rw [if_neg (by omega), updF_other _ _ _ hk]; exact h.has k h1 h2
theorem OnceP.keep {ls m : List Ses} {la re : Nat → Int} {inn : Nat → Bool} (h : OnceP ls la re inn) (q : Nat) (seq n : Int) (hq : inn q = true) (hR : RightP m) (hm : ∀ x, getS m x = if x = (q : Int) then some ⟨q, seq, ⟨0, n, 0⟩⟩ else getS ls x) :
    OnceP m (updF la q seq) (updF re q n) inn := by
  refine ⟨hR, fun k h1 h2 => ?_⟩
  rw [hm]
  by_cases hk : k = q
  · subst hk; rw [if_pos rfl, updF_same, updF_same, hq]; rfl
  · rw [if_neg (by omega), updF_other _ _ _ hk, updF_other _ _ _ hk]; exact h.has k h1 h2

theorem Rd.away {α : Type} {E : Enc α} {w : World} {v : Value} {l : List α} (h : Rd E w v l) {p : Addr} (u : Value) (hne : v.ownBlock ≠ some p.block) : Rd E (w.setCell p u) v l :=
  h.grown (⟨rfl, rfl, rfl, by simp, fun k _ hk => Below.heap_setCell w p u k (fun e => hk (by rw [e]))⟩ : w.grownBy (w.setCell p u) (some p.block)) (.inr hne)
theorem OwnR.notAt {α : Type} {E : Enc α} {w : World} {B : Nat} {e : TypeId} {v : Value} {l : List α} (h : OwnR E w B e v l) {N : Nat} (hN : N < B) : v.ownBlock ≠ some N := fun he => by have := (h.lt _ he).1; omega

set_option maxHeartbeats 8000000 in
set_option maxRecDepth 100000 in
theorem sessionOnce_walk (v : Value) (asks : List SAsk) (w : World) (hv : Rd saskE w v asks) :
    Calls Try.prog 5 #[v] w fun e w' => e = .returned (.bool true) ∧ Below w.heap.size w w' := by
  obtain ⟨p, cap, rfl, h1, h2, h3, h4⟩ := hv.form
  clear h3 h4
  unfold maxLen at h2
  have z4 : Blk (w.alloc (.cells #[.int .i64 0, .int .i64 0, .int .i64 0, .int .i64 0, .int .i64 0, .int .i64 0, .int .i64 0, .int .i64 0, .int .i64 0, .int .i64 0, .int .i64 0] 41)) w.heap.size (arrI 11 fun _ => 0) 41 := Blk.new w _ _
  have b4 := below_alloc w (.cells #[.int .i64 0, .int .i64 0, .int .i64 0, .int .i64 0, .int .i64 0, .int .i64 0, .int .i64 0, .int .i64 0, .int .i64 0, .int .i64 0, .int .i64 0] 41)
  have s4 : (w.alloc (.cells #[.int .i64 0, .int .i64 0, .int .i64 0, .int .i64 0, .int .i64 0, .int .i64 0, .int .i64 0, .int .i64 0, .int .i64 0, .int .i64 0, .int .i64 0] 41)).heap.size = w.heap.size + 1 := by simp
  generalize hw4 : w.alloc (.cells #[.int .i64 0, .int .i64 0, .int .i64 0, .int .i64 0, .int .i64 0, .int .i64 0, .int .i64 0, .int .i64 0, .int .i64 0, .int .i64 0, .int .i64 0] 41) = w4 at *
  have z5 : Blk (w4.alloc (.cells #[.int .i64 0, .int .i64 0, .int .i64 0, .int .i64 0, .int .i64 0, .int .i64 0, .int .i64 0, .int .i64 0, .int .i64 0, .int .i64 0, .int .i64 0] 41)) w4.heap.size (arrI 11 fun _ => 0) 41 := Blk.new w4 _ _
  have b5 := below_alloc w4 (.cells #[.int .i64 0, .int .i64 0, .int .i64 0, .int .i64 0, .int .i64 0, .int .i64 0, .int .i64 0, .int .i64 0, .int .i64 0, .int .i64 0, .int .i64 0] 41)
  have s5 : (w4.alloc (.cells #[.int .i64 0, .int .i64 0, .int .i64 0, .int .i64 0, .int .i64 0, .int .i64 0, .int .i64 0, .int .i64 0, .int .i64 0, .int .i64 0, .int .i64 0] 41)).heap.size = w4.heap.size + 1 := by simp
  have z6 : Blk ((w4.alloc (.cells #[.int .i64 0, .int .i64 0, .int .i64 0, .int .i64 0, .int .i64 0, .int .i64 0, .int .i64 0, .int .i64 0, .int .i64 0, .int .i64 0, .int .i64 0] 41)).alloc (.cells #[.bool false, .bool false, .bool false, .bool false, .bool false, .bool false, .bool false, .bool false, .bool false, .bool false, .bool false] 42)) (w4.heap.size + 1) (arrB 11 fun _ => false) 42 := by rw [← s5]; exact Blk.new _ _ _
  have b6 := below_alloc (w4.alloc (.cells #[.int .i64 0, .int .i64 0, .int .i64 0, .int .i64 0, .int .i64 0, .int .i64 0, .int .i64 0, .int .i64 0, .int .i64 0, .int .i64 0, .int .i64 0] 41)) (.cells #[.bool false, .bool false, .bool false, .bool false, .bool false, .bool false, .bool false, .bool false, .bool false, .bool false, .bool false] 42)
  have y4 := (z4.ext b5).ext b6
  have y5 := z5.ext b6
  have hb0 := b4.trans ((b5.trans (b6.mono b5.size)).mono b4.size)
  have hN : w.heap.size + 1 = w4.heap.size := s4.symm
  have HN := Lib.hid hN
  clear z4 z5 b4 b5 b6 s4 s5 hN
  go_enter Try.func5, Try.ntmps5
  go_wp2_with fail
  clear hw4
  go_loopw [3, 7] (fun lv i wr => ∃ (k : Nat) (ls : List Ses) (la re : Nat → Int) (inn : Nat → Bool), k ≤ asks.length ∧ i = .int .i64 k ∧ Rd sesE wr lv ls ∧ Hid (OnceP ls la re inn) ∧ Blk wr w.heap.size (arrI 11 la) 41 ∧ Blk wr w4.heap.size (arrI 11 re) 41 ∧ Blk wr (w4.heap.size + 1) (arrB 11 inn) 42 ∧ Below w.heap.size w wr) (fun _ i _ => asks.length - (intOf i).toNat)
  case atStart => exact ⟨0, [], _, _, _, by omega, rfl, Rd.nil _, OnceP.start, y4, y5, z6, hb0⟩
  case round =>
    clear y4 y5 z6 hb0
    obtain ⟨k, ls, la, re, inn, hk, rfl, rL, hO, k4, k5, k6, hb⟩ := hrel
    by_cases hlt : k < asks.length ∧ k < 200
    · obtain ⟨hlt, hlt200⟩ := hlt
      have hki : (k : Int) < (asks.length : Int) := by omega
      have hki200 : (k : Int) < 200 := by omega
      obtain ⟨b, off, rfl⟩ := Rd.blk hv (by omega)
      obtain ⟨c0, c1, c2, c3⟩ := sask4 (hv.ext hb) hlt
      generalize asks[k] = x at c0 c1 c2 c3
      obtain ⟨pL, cL, rfl⟩ := rL.shape
      go_wp2_with fail
      with_reducible refine (withinCalls x.id 1 10 _ (by omega) (by omega) (by omega)).mono ?_
      rintro e w' ⟨rfl, rfl⟩
      obtain ⟨q1, q2⟩ := within_bounds x.id 1 10 (by omega)
      generalize within x.id 1 10 = qi at *
      obtain ⟨q, rfl⟩ : ∃ q : Nat, qi = q := ⟨qi.toNat, by omega⟩
      go_wp2_with fail
      with_reducible refine (withinCalls x.seq 1 20 _ (by omega) (by omega) (by omega)).mono ?_
      rintro e w' ⟨rfl, rfl⟩
      obtain ⟨u1, u2⟩ := within_bounds x.seq 1 20 (by omega)
      generalize within x.seq 1 20 = sq at *
      have hq11 : q < 11 := by omega
      have hqi : (q : Int) < 11 := by omega
      have hq0 : (0 : Int) ≤ (q : Int) := by omega
      have hget := Lib.hid (hO.out.has q (by omega) (by omega))
      go_upto_block 2 with (fail)
      go_cut [3, 10, 11, 12, 13, 14, 15] from 19 to 159 (fun lv _ _ _ _ _ _ wx => ∃ (ls : List Ses) (la re : Nat → Int) (inn : Nat → Bool), Rd sesE wx lv ls ∧ Hid (OnceP ls la re inn) ∧ Blk wx w.heap.size (arrI 11 la) 41 ∧ Blk wx w4.heap.size (arrI 11 re) 41 ∧ Blk wx (w4.heap.size + 1) (arrB 11 inn) 42 ∧ Below w.heap.size w wx)
      case first =>
        have l4 := k4.cellI hq11
        have l6 := k6.cellB hq11
        by_cases hk1 : x.kind = 1
        · have hb1 : (x.kind == 1) = true := by simpa using hk1
          clear hk1
          go_wp2_with fail
          with_reducible refine (sesJoin _ ls q _ rL).mono ?_
          rintro e w2 ⟨hT, b2⟩
          have m4 := k4.ext b2
          have m5 := k5.ext b2
          have m6 := k6.ext b2
          have hb2 := hb.trans (b2.mono hb.size)
          cases hq : inn q with
          | true =>
            have hj := join_taken hO.out.right q1 (by rw [hget.out, hq]; simp)
            rw [hj] at hT
            obtain rfl := hT
            clear hj
            go_wp2_with fail
            go_meet
            exact ⟨ls, la, re, inn, rL.ext b2, hO, m4, m5, m6, hb2⟩
          | false =>
            by_cases hl8 : ls.length < 8
            · obtain ⟨m, hm, hRm, _, hgm⟩ := join_ok hO.out.right q1 (by rw [hget.out, hq]; rfl) hl8
              rw [hm] at hT
              obtain ⟨vm, rfl, ownM⟩ := hT
              have HOm := Lib.hid (hO.out.join q hRm hgm)
              have rM := ownM.rd
              have hvm := fun N (h : N < wr.heap.size) => ownM.notAt h
              clear hm hRm hgm ownM
              have n6 := m6.cellB hq11
              rw [hq] at n6
              have f6 := m6.frozen q
              have n4 := m4.cellI hq11
              have f4 := m4.frozen q
              have n5 := m5.cellI hq11
              have f5 := m5.frozen q
              have d1 : ¬ w.heap.size = w4.heap.size + 1 := by have := HN.out; omega
              have d2 : ¬ w.heap.size = w4.heap.size := by have := HN.out; omega
              have e6 := (((m6.setB q true).away (p := ⟨w.heap.size, q, none⟩) (by simp; omega) (.int .i64 0)).away (p := ⟨w4.heap.size, q, none⟩) (by simp) (.int .i64 0))
              have e4 := (((m4.away (p := ⟨w4.heap.size + 1, q, none⟩) (by simp; omega) (.bool true)).setI q 0).away (p := ⟨w4.heap.size, q, none⟩) (by simp; omega) (.int .i64 0))
              have e5 := (((m5.away (p := ⟨w4.heap.size + 1, q, none⟩) (by simp) (.bool true)).away (p := ⟨w.heap.size, q, none⟩) (by simp; omega) (.int .i64 0)).setI q 0)
              go_wp2_with fail
              go_meet
              have hlt6 := k6.lt
              refine ⟨m, _, _, _, ((rM.away (p := ⟨w4.heap.size + 1, q, none⟩) _ (hvm (w4.heap.size + 1) hlt6)).away (p := ⟨w.heap.size, q, none⟩) _ (hvm w.heap.size (by have := HN.out; omega))).away (p := ⟨w4.heap.size, q, none⟩) _ (hvm w4.heap.size (by omega)), HOm, e4, e5, e6, ?_⟩
              exact (((hb2.setCell (p := ⟨w4.heap.size + 1, q, none⟩) (by have := HN.out; simp; omega) _).setCell (p := ⟨w.heap.size, q, none⟩) (Nat.le_refl _) _).setCell (p := ⟨w4.heap.size, q, none⟩) (by have := HN.out; simp; omega) _)
            · have hj := join_full hO.out.right q1 (by rw [hget.out, hq]; rfl) hl8
              rw [hj] at hT
              obtain rfl := hT
              clear hj
              go_wp2_with fail
              go_meet
              exact ⟨ls, la, re, inn, rL.ext b2, hO, m4, m5, m6, hb2⟩
        · have hb1 : (x.kind == 1) = false := by simpa using hk1
          clear hk1
          by_cases hk2 : x.kind = 2
          · have hb2' : (x.kind == 2) = true := by simpa using hk2
            clear hk2
            go_wp2_with fail
            with_reducible refine (sesLeave _ ls q _ rL).mono ?_
            rintro e w2 ⟨hT, b2⟩
            have m4 := k4.ext b2
            have m5 := k5.ext b2
            have m6 := k6.ext b2
            have hb2 := hb.trans (b2.mono hb.size)
            have n6 := m6.cellB hq11
            have f6 := m6.frozen q
            cases hq : inn q with
            | true =>
              obtain ⟨m, hm, hRm, _, hgm⟩ := leave_ok hO.out.right (s := ⟨q, la q, ⟨0, re q, 0⟩⟩) (by rw [hget.out, hq]; rfl)
              rw [hm] at hT
              obtain ⟨vm, rfl, ownM⟩ := hT
              have HOm := Lib.hid (hO.out.leave q hRm hgm)
              have rM := ownM.rd
              have hvm := fun N (h : N < wr.heap.size) => ownM.notAt h
              rw [hq] at n6
              clear hm hRm hgm ownM
              have e6 := m6.setB q false
              have e4 := m4.away (p := ⟨w4.heap.size + 1, q, none⟩) (by have := HN.out; simp; omega) (.bool false)
              have e5 := m5.away (p := ⟨w4.heap.size + 1, q, none⟩) (by simp) (.bool false)
              have Hvm := Lib.hid hvm
              clear hvm
              go_wp2_with fail
              go_meet
              have hlt6 := k6.lt
              exact ⟨m, _, _, _, rM.away (p := ⟨w4.heap.size + 1, q, none⟩) _ (Hvm.out (w4.heap.size + 1) hlt6), HOm, e4, e5, e6, hb2.setCell (p := ⟨w4.heap.size + 1, q, none⟩) (by have := HN.out; simp; omega) _⟩
            | false =>
              have hj := leave_none hO.out.right (id := q) (by rw [hget.out, hq]; rfl)
              rw [hj] at hT
              obtain rfl := hT
              rw [hq] at n6
              clear hj
              go_wp2_with fail
              go_meet
              exact ⟨ls, la, re, inn, rL.ext b2, hO, m4, m5, m6, hb2⟩
          · have hb2' : (x.kind == 2) = false := by simpa using hk2
            clear hk2
            go_wp2_with fail
            with_reducible refine (sesKeep _ ls q sq ⟨0, x.n, 0⟩ _ rL).mono ?_
            rintro e w2 ⟨hT, b2⟩
            have m4 := k4.ext b2
            have m5 := k5.ext b2
            have m6 := k6.ext b2
            have hb2 := hb.trans (b2.mono hb.size)
            have n6 := m6.cellB hq11
            have n4 := m4.cellI hq11
            have n5 := m5.cellI hq11
            have f4 := m4.frozen q
            have f5 := m5.frozen q
            cases hq : inn q with
            | true =>
              rw [hq] at n6
              have hget2 := hget.out
              rw [hq, if_pos rfl] at hget2
              by_cases hls : la q < sq
              · obtain ⟨m, hm, hRm, _, hgm⟩ := keep_ok (seq := sq) ⟨0, x.n, 0⟩ hO.out.right hget2 u1 (by omega) hls
                rw [hm] at hT
                obtain ⟨vm, rfl, ownM⟩ := hT
                have HOm := Lib.hid (hO.out.keep q sq x.n hq hRm hgm)
                have rM := ownM.rd
                have hvm := fun N (h : N < wr.heap.size) => ownM.notAt h
                have Hvm := Lib.hid hvm
                clear hm hRm hgm ownM hget2 hvm
                have e4 := (m4.setI q sq).away (p := ⟨w4.heap.size, q, none⟩) (by have := HN.out; simp; omega) (.int .i64 x.n)
                have e5 := (m5.away (p := ⟨w.heap.size, q, none⟩) (by have := HN.out; simp; omega) (.int .i64 sq)).setI q x.n
                have e6 := (m6.away (p := ⟨w.heap.size, q, none⟩) (by have := HN.out; simp; omega) (.int .i64 sq)).away (p := ⟨w4.heap.size, q, none⟩) (by simp) (.int .i64 x.n)
                have c3' : w2.cell? ⟨b, off + k * 4 + 3, none⟩ = some (.int .i64 x.n) := by rw [b2.cell (p := ⟨b, _, none⟩) (World.block_lt_of_cell? wr _ c3)]; exact c3
                have hbb : b < w.heap.size := World.block_lt_of_cell? w _ (sask4 hv hlt).1
                have bne4 : ¬ b = w.heap.size := by omega
                have bne5 : ¬ b = w4.heap.size := by have := HN.out; omega
                have d4 : ¬ w.heap.size = w4.heap.size := by have := HN.out; omega
                have hk0 : (0 : Int) ≤ (k : Int) := by omega
                go_wp2_with fail
                go_region
                all_goals
                  go_wp2_with fail
                  go_meet
                  have hlt6 := k6.lt
                  exact ⟨m, _, _, _, ((rM.away (p := ⟨w.heap.size, q, none⟩) _ (Hvm.out w.heap.size (by have := HN.out; omega))).away (p := ⟨w4.heap.size, q, none⟩) _ (Hvm.out w4.heap.size (by omega))).drew, HOm, e4.drew, e5.drew, e6.drew, ((hb2.setCell (p := ⟨w.heap.size, q, none⟩) (Nat.le_refl _) _).setCell (p := ⟨w4.heap.size, q, none⟩) (by have := HN.out; simp; omega) _).trans (below_drew _ _)⟩
              · obtain ⟨n, hn, hj⟩ := keep_no (seq := sq) ⟨0, x.n, 0⟩ hO.out.right (.inr ⟨_, hget2, by show sq ≤ la q; omega⟩) u1 (by omega)
                rw [hj] at hT
                obtain rfl := hT
                have hnb : (n == 0) = false := by simpa using hn
                clear hj hn hget2
                go_wp2_with fail
                go_meet
                exact ⟨ls, la, re, inn, rL.ext b2, hO, m4, m5, m6, hb2⟩
            | false =>
              rw [hq] at n6
              obtain ⟨n, hn, hj⟩ := keep_no (seq := sq) ⟨0, x.n, 0⟩ hO.out.right (.inl (by rw [hget.out, hq]; rfl)) u1 (by omega)
              rw [hj] at hT
              obtain rfl := hT
              have hnb : (n == 0) = false := by simpa using hn
              clear hj hn
              go_wp2_with fail
              go_meet
              exact ⟨ls, la, re, inn, rL.ext b2, hO, m4, m5, m6, hb2⟩
      case rest =>
        clear rL hO k4 k5 k6 hb hget c0 c1 c2 c3
        obtain ⟨ls, la, re, inn, rL, hO, k4, k5, k6, hb⟩ := hcut
        obtain ⟨pL, cL, rfl⟩ := rL.shape
        have hget := Lib.hid (hO.out.has q (by omega) (by omega))
        go_wp2_with fail
        with_reducible refine (sesRight _ ls _ rL).mono ?_
        rintro e w2 ⟨rfl, b2⟩
        rw [(rightP_iff ls).2 hO.out.right]
        have rL2 := rL.ext b2
        have m4 := k4.ext b2
        have m5 := k5.ext b2
        have m6 := k6.ext b2
        have hb2 := hb.trans (b2.mono hb.size)
        clear rL k4 k5 k6 hb b2
        have n6 := m6.cellB hq11
        have n4 := m4.cellI hq11
        by_cases hq : inn q = true ∧ 0 < la q
        · obtain ⟨hq, hla⟩ := hq
          rw [hq] at n6
          have hget2 := hget.out
          rw [hq, if_pos rfl] at hget2
          have hgood := hO.out.right.good _ (getS_some hget2).1
          have hlk := look_some (seq := la q) hO.out.right hget2
          rw [if_neg (by have h1 : la q ≤ 1099511627776 := hgood.2.1; omega), if_pos rfl] at hlk
          have Hlk := Lib.hid hlk
          have hne := neq_rep ⟨0, re q, 0⟩ ⟨0, re q, 0⟩
          rw [decide_eq_true rfl] at hne
          clear hlk hget2 hgood hq
          go_wp2_with fail
          with_reducible refine (sesLook _ ls q (la q) _ rL2).mono ?_
          rintro e w3 ⟨he, b3⟩
          obtain rfl : e = .returned (.tuple #[.agg #[.int .i64 0, .int .i64 (re q), .int .i64 0], .bool true, .int .i64 0]) := by rw [he, Hlk.out]
          clear he
          have a3 := b3.trans ((below_alloc w3 (.cells #[.int .i64 0, .int .i64 (re q), .int .i64 0] 24)).mono b3.size)
          have rL3 := rL2.ext a3
          have o4 := m4.ext a3
          have o5 := m5.ext a3
          have o6 := m6.ext a3
          have hb3 := hb2.trans (a3.mono hb2.size)
          have kR : Blk (w3.alloc (.cells #[.int .i64 0, .int .i64 (re q), .int .i64 0] 24)) w3.heap.size #[.int .i64 0, .int .i64 (re q), .int .i64 0] 24 := Blk.new _ _ _
          obtain ⟨x0, x1, x2, _⟩ := rep_cells kR
          have x5 := o5.cellI hq11
          clear b3 a3 rL2 m4 m5 m6 hb2 n4 n6
          go_wp2_with fail
          generalize hw3 : w3.alloc (.cells #[.int .i64 0, .int .i64 (re q), .int .i64 0] 24) = w3' at *
          clear hw3
          go_quiet (fail)
          go_wp2_with fail
          go_roundw
          case rel => exact ⟨k + 1, ls, la, re, inn, by omega, by go_num, rL3.drewN _, hO, o4.drewN _, o5.drewN _, o6.drewN _, hb3.trans (below_drawn _ _ _)⟩
          case measure => simp [intOf]; omega
        · have hq' : inn q = false ∨ (inn q = true ∧ ¬ 0 < la q) := by
            cases h : inn q with
            | true => exact .inr ⟨rfl, fun h' => hq ⟨h, h'⟩⟩
            | false => exact .inl rfl
          clear hq
          rcases hq' with hq | ⟨hq, hla⟩
          all_goals
            rw [hq] at n6
            clear hq
            go_wp2_with fail
            go_roundw
            case rel => exact ⟨k + 1, ls, la, re, inn, by omega, by go_num, rL2, hO, m4, m5, m6, hb2⟩
            case measure => simp [intOf]; omega
    · have hcase : (¬ (k : Int) < (asks.length : Int)) ∨ ((k : Int) < (asks.length : Int) ∧ ¬ (k : Int) < 200) := by omega
      clear hlt
      rcases hcase with hki | ⟨hki, hki200⟩
      all_goals
        go_wp2_with fail
        with_reducible refine (sessionRuns_walk _).mono ?_
        rintro e w3 ⟨rfl, b3⟩
        go_wp2_with fail
        go_ret
        exact ⟨rfl, hb.trans (b3.mono hb.size)⟩
end Go.Proofs.Ytmchkhofcjgeaaa
