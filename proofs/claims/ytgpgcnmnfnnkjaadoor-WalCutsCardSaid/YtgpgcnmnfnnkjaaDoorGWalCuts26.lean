/- The document's Same of two Hards. Walks of package wal: a Wal's write, anew. Walks of package wal: entries. -/
import Derived.Test.YtgpgcnmnfnnkjaaDoorGWalCuts25
import Derived.Test.YtgpgcnmnfnnkjaaDoorGWalCuts12
import Derived.Lib.LaidIn
import Derived.Test.YtgpgcnmnfnnkjaaDoorGWalCuts21
import Derived.Test.YtgpgcnmnfnnkjaaDoorGWalCuts6
set_option linter.unusedVariables false
set_option linter.unusedSimpArgs false
section
namespace Go.Proofs.YtgpgcnmnfnnkjaaDoor
open Go Go.RowKit Go.PlainAid BigFrame
attribute [local go_sem] After.same
theorem etyEq_eq {x y : Ety} (h : etyEq x y = true) : x = y := by
  unfold etyEq at h
  simp only [Bool.and_eq_true, decide_eq_true_eq] at h
  obtain ⟨⟨h1, h2⟩, h3⟩ := h
  have := (eqS_iff _ _).1 h3
  cases x; cases y; simp_all
theorem etyEq_self (x : Ety) : etyEq x x = true := by
  unfold etyEq; simp [eqS_refl]
theorem commonE_all : ∀ {a b : List Ety}, a.length = b.length → commonE a b = a.length → a = b
  | [], [], _, _ => rfl
  | [], _ :: _, h, _ => by simp at h
  | _ :: _, [], h, _ => by simp at h
  | x :: r, y :: s, h, hc => by
    rw [commonE] at hc
    split at hc
    · rename_i e
      have e1 : x = y := etyEq_eq e
      have e2 : r = s := commonE_all (by simpa using h) (by simpa using hc)
      rw [e1, e2]
    · simp at hc
theorem commonE_self : ∀ (a : List Ety), commonE a a = a.length
  | [] => rfl
  | x :: r => by rw [commonE, if_pos (etyEq_self x), commonE_self r]; rfl
theorem same_iff (h x : Hrd) : h = x ↔ (h.term = x.term ∧ h.vote = x.vote ∧ h.base = x.base ∧ h.bterm = x.bterm ∧ h.members = x.members ∧ h.snap = x.snap ∧ h.log.length = x.log.length ∧ commonE h.log x.log = h.log.length) := by
  constructor
  · rintro rfl; exact ⟨rfl, rfl, rfl, rfl, rfl, rfl, rfl, commonE_self _⟩
  · rintro ⟨h1, h2, h3, h4, h5, h6, h7, h8⟩
    have := commonE_all h7 h8
    cases h; cases x; simp_all
theorem gs_ext {a b : ByteArray} (h : a.toList = b.toList) : a = b := (eqS_iff a b).1 (by unfold eqS; simp [h])
open Classical in
set_option maxRecDepth 8000 in
set_option maxHeartbeats 4000000 in
theorem refSame {w : World} (h x : Hrd) (u v : Value) (hu : Rd etyE w u h.log) (hv : Rd etyE w v x.log) :
    Calls Tryd.prog 12 #[hrdA h u, hrdA x v] w fun e w' => e = .returned (.bool (decide (h = x))) ∧ Below w.heap.size w w' := by
  obtain ⟨p, cap, rfl⟩ := hu.shape
  obtain ⟨q, caq, rfl⟩ := hv.shape
  have m1 := hu.le
  unfold maxLen at m1
  have bW : Below w.heap.size w ((w.alloc (.cells #[.int .i64 h.term, .int .i64 h.vote, .int .i64 h.base, .int .i64 h.bterm, .int .i64 h.members, .string h.snap, .slice p h.log.length cap] 30)).alloc (.cells #[.int .i64 x.term, .int .i64 x.vote, .int .i64 x.base, .int .i64 x.bterm, .int .i64 x.members, .string x.snap, .slice q x.log.length caq] 30)) := (below_alloc _ _).trans ((below_alloc _ _).mono (by simp))
  have hu2 := hu.ext bW
  have hv2 := hv.ext bW
  have hiff : (decide (h = x)) = true ↔ _ := (decide_eq_true_iff (p := h = x)).trans (same_iff h x)
  have Hiff := Lib.hid hiff
  have hle := commonE_le h.log x.log
  have kA := (Blk.new w #[.int .i64 h.term, .int .i64 h.vote, .int .i64 h.base, .int .i64 h.bterm, .int .i64 h.members, .string h.snap, .slice p h.log.length cap] 30).ext (below_alloc _ (.cells #[.int .i64 x.term, .int .i64 x.vote, .int .i64 x.base, .int .i64 x.bterm, .int .i64 x.members, .string x.snap, .slice q x.log.length caq] 30))
  have kB := Blk.new (w.alloc (.cells #[.int .i64 h.term, .int .i64 h.vote, .int .i64 h.base, .int .i64 h.bterm, .int .i64 h.members, .string h.snap, .slice p h.log.length cap] 30)) #[.int .i64 x.term, .int .i64 x.vote, .int .i64 x.base, .int .i64 x.bterm, .int .i64 x.members, .string x.snap, .slice q x.log.length caq] 30
  rw [show (w.alloc (.cells #[.int .i64 h.term, .int .i64 h.vote, .int .i64 h.base, .int .i64 h.bterm, .int .i64 h.members, .string h.snap, .slice p h.log.length cap] 30)).heap.size = w.heap.size + 1 from by simp] at kB
  have hz0 : ((w.alloc (.cells #[.int .i64 h.term, .int .i64 h.vote, .int .i64 h.base, .int .i64 h.bterm, .int .i64 h.members, .string h.snap, .slice p h.log.length cap] 30)).alloc (.cells #[.int .i64 x.term, .int .i64 x.vote, .int .i64 x.base, .int .i64 x.bterm, .int .i64 x.members, .string x.snap, .slice q x.log.length caq] 30)).cell? ⟨w.heap.size, 6, none⟩ = some (.slice p h.log.length cap) := kA.cell 6 _ rfl
  have hz1 : ((w.alloc (.cells #[.int .i64 h.term, .int .i64 h.vote, .int .i64 h.base, .int .i64 h.bterm, .int .i64 h.members, .string h.snap, .slice p h.log.length cap] 30)).alloc (.cells #[.int .i64 x.term, .int .i64 x.vote, .int .i64 x.base, .int .i64 x.bterm, .int .i64 x.members, .string x.snap, .slice q x.log.length caq] 30)).cell? ⟨w.heap.size + 1, 6, none⟩ = some (.slice q x.log.length caq) := kB.cell 6 _ rfl
  clear hiff hu hv kA kB
  generalize decide (h = x) = R at *
  by_cases e0 : h.term = x.term
  case neg =>
    have n0 : (h.term != x.term) = true := by simpa using e0
    have Hr := Lib.hid (no_of Hiff.out (fun hh => e0 hh.1))
    clear e0 hu2 hv2 hz0 hz1 Hiff
    go_enter Tryd.func12, Tryd.ntmps12
    go_wp2
    go_ret
    exact ⟨ret_bool Hr.out, bW⟩

  have n0 : (h.term != x.term) = false := by simpa using e0
  have E0 := Lib.hid e0
  clear e0
  by_cases e1 : h.vote = x.vote
  case neg =>
    have n1 : (h.vote != x.vote) = true := by simpa using e1
    have Hr := Lib.hid (no_of Hiff.out (fun hh => e1 hh.2.1))
    clear e1 hu2 hv2 hz0 hz1 Hiff
    go_enter Tryd.func12, Tryd.ntmps12
    go_wp2
    go_ret
    exact ⟨ret_bool Hr.out, bW⟩

  have n1 : (h.vote != x.vote) = false := by simpa using e1
  have E1 := Lib.hid e1
  clear e1
  by_cases e2 : h.base = x.base
  case neg =>
    have n2 : (h.base != x.base) = true := by simpa using e2
    have Hr := Lib.hid (no_of Hiff.out (fun hh => e2 hh.2.2.1))
    clear e2 hu2 hv2 hz0 hz1 Hiff
    go_enter Tryd.func12, Tryd.ntmps12
    go_wp2
    go_ret
    exact ⟨ret_bool Hr.out, bW⟩

  have n2 : (h.base != x.base) = false := by simpa using e2
  have E2 := Lib.hid e2
  clear e2
  by_cases e3 : h.bterm = x.bterm
  case neg =>
    have n3 : (h.bterm != x.bterm) = true := by simpa using e3
    have Hr := Lib.hid (no_of Hiff.out (fun hh => e3 hh.2.2.2.1))
    clear e3 hu2 hv2 hz0 hz1 Hiff
    go_enter Tryd.func12, Tryd.ntmps12
    go_wp2
    go_ret
    exact ⟨ret_bool Hr.out, bW⟩

  have n3 : (h.bterm != x.bterm) = false := by simpa using e3
  have E3 := Lib.hid e3
  clear e3
  by_cases e4 : h.members = x.members
  case neg =>
    have n4 : (h.members != x.members) = true := by simpa using e4
    have Hr := Lib.hid (no_of Hiff.out (fun hh => e4 hh.2.2.2.2.1))
    clear e4 hu2 hv2 hz0 hz1 Hiff
    go_enter Tryd.func12, Tryd.ntmps12
    go_wp2
    go_ret
    exact ⟨ret_bool Hr.out, bW⟩

  have n4 : (h.members != x.members) = false := by simpa using e4
  have E4 := Lib.hid e4
  clear e4
  by_cases e5 : h.snap = x.snap
  case neg =>
    have n5 : ¬ h.snap.toList = x.snap.toList := fun h5 => e5 (gs_ext h5)
    have Hr := Lib.hid (no_of Hiff.out (fun hh => e5 hh.2.2.2.2.2.1))
    clear e5 hu2 hv2 hz0 hz1 Hiff
    go_enter Tryd.func12, Tryd.ntmps12
    go_wp2
    go_ret
    exact ⟨ret_bool Hr.out, bW⟩

  have n5 : h.snap.toList = x.snap.toList := by rw [e5]
  have E5 := Lib.hid e5
  clear e5
  by_cases el : h.log.length = x.log.length
  case neg =>
    have nl : ((h.log.length : Int) != (x.log.length : Int)) = true := by simp; omega
    have Hr := Lib.hid (no_of Hiff.out (fun hh => el hh.2.2.2.2.2.2.1))
    clear el hu2 hv2 hz0 hz1 Hiff
    go_enter Tryd.func12, Tryd.ntmps12
    go_wp2
    go_ret
    exact ⟨ret_bool Hr.out, bW⟩
  have nl : ((h.log.length : Int) != (x.log.length : Int)) = false := by simp; omega
  have El := Lib.hid el
  clear el
  go_enter Tryd.func12, Tryd.ntmps12
  go_wp2
  generalize hZ : (w.alloc (.cells #[.int .i64 h.term, .int .i64 h.vote, .int .i64 h.base, .int .i64 h.bterm, .int .i64 h.members, .string h.snap, .slice p h.log.length cap] 30)).alloc (.cells #[.int .i64 x.term, .int .i64 x.vote, .int .i64 x.base, .int .i64 x.bterm, .int .i64 x.members, .string x.snap, .slice q x.log.length caq] 30) = W at *
  clear hZ
  go_loopw [5] (fun i wr => ∃ (k m : Nat), i = .int .i64 k ∧ wr = W.drewN m ∧ k ≤ commonE h.log x.log) (fun i _ => h.log.length - (intOf i).toNat)
  case atStart => exact ⟨0, 0, rfl, rfl, Nat.zero_le _⟩
  case round =>
    obtain ⟨k, m, rfl, rfl, hk⟩ := hrel
    have hi0 : (0 : Int) ≤ (k : Int) := by omega
    by_cases ha : k < h.log.length
    · have ha1 : (k : Int) < (h.log.length : Int) := by omega
      have hb : k < x.log.length := by have := El.out; omega
      have hb1 : (k : Int) < (x.log.length : Int) := by omega
      obtain ⟨ba, oa, rfl⟩ := Rd.blk hu2 (by omega)
      obtain ⟨bb, ob, rfl⟩ := Rd.blk hv2 (by omega)
      obtain ⟨a0, a1, a2⟩ := ety3 hu2 ha
      obtain ⟨b0, b1, b2⟩ := ety3 hv2 hb
      have hat := commonE_at hk ha hb
      have Hat := Lib.hid hat
      clear hat
      generalize h.log[k] = s at *
      generalize x.log[k] = y at *
      have heql := fun (z : World) => neq_ety s y z
      cases he : etyEq s y with
      | true =>
        rw [he] at heql Hat
        have Hk1 := Lib.hid (show k + 1 ≤ commonE h.log x.log by have := Hat.out; rw [if_pos rfl] at this; omega)
        clear he
        go_wp2
        go_quiet (fail)
        go_wp2
        go_roundw
        case rel => exact ⟨k + 1, _, by go_num, rfl, Hk1.out⟩
        case measure => simp [intOf]; omega
      | false =>
        rw [he] at heql Hat
        have Hr := Lib.hid (no_of Hiff.out (fun hh => by have := Hat.out; rw [if_neg (by simp)] at this; have := hh.2.2.2.2.2.2.2; omega))
        clear he
        go_wp2
        go_quiet (fail)
        go_wp2
        go_ret
        exact ⟨ret_bool Hr.out, bW.trans (((below_drawn W.heap.size W m).trans (below_drawn _ _ nq)).mono bW.size)⟩
    · have ha1 : ¬ (k : Int) < (h.log.length : Int) := by omega
      have Hr := Lib.hid (Hiff.out.2 ⟨E0.out, E1.out, E2.out, E3.out, E4.out, E5.out, El.out, by omega⟩)
      go_wp2
      go_ret
      exact ⟨ret_bool Hr.out.symm, bW.trans ((below_drawn W.heap.size W m).mono bW.size)⟩
end Go.Proofs.YtgpgcnmnfnnkjaaDoor
end

section
namespace Go.Proofs.YtgpgcnmnfnnkjaaDoor
open Go Go.RowKit Go.PlainAid BigFrame
attribute [local go_sem] After.same
abbrev TabW (w : World) : Prop := Lib.TabIs Tryd.prog w "internal/strconv.uint64pow10" .u64 Lib.pow10Tab
theorem nameW_size {n : Nat} (h : n ≤ 9223372036854775807) : (nameW n).size ≤ 23 := by
  have := digits_le 18 n (by omega)
  show ((hdW ++ Lib.decDigits n).toArray).size ≤ 23
  simp [hdW]; omega
def WalDid (w0 w : World) (X : Nat → Prop) (g gw : Nat) (v : Value) (ws : Wl) (E : Int) (d' : Dk) (e : Ending) (w' : World) : Prop := e = .returned (.int .i64 E) ∧ DwS w0 X g d' w' ∧ WalV w' X g gw v ws ∧ Chg (Gx w0 X) w w'

set_option maxRecDepth 8000 in
set_option maxHeartbeats 4000000 in
theorem walWrite {w0 w : World} {X : Nat → Prop} {g gw : Nat} {d d' : Dk} {v : Value} {ws : Wl} (hd : DwS w0 X g d w) {m : Nat} (pi : PInv m d) (hm : m ≤ 900) (hw : WalV w X g gw v ws) (n : Nat) (N : Int) (hN : N = (n : Int)) (hn : n ≤ 9223372036854775807) (u : Value) (b : List UInt8) (hb : Bytes w u b) (hloc : b ≠ [] → ∀ k, u.ownBlock = some k → k < w0.heap.size ∨ X k)
    (htab : ∀ w', Chg (Gx w0 X) w w' → TabW w') {E : Int} (he : writeD d n b = (E, d')) :
    Calls Tryd.prog 57 #[.pointer (some ⟨gw, 0, none⟩), .int .i64 N, u] w (WalDid w0 w X g gw v ws E d') := by
  subst hN
  obtain ⟨pb, cb, rfl⟩ := hb.shape
  have hs0 := hd.size
  obtain ⟨E1, d1, ha⟩ : ∃ E1 d1, appendD d (nameW n) b = (E1, d1) := ⟨_, _, rfl⟩
  have pi1 : PInv (m + 1) d1 := by have := pi.append (nameW n) b; rw [ha] at this; exact this
  have hwr : thenD (appendD d (nameW n) b) (fun d => syncD d (nameW n)) = (E, d') := he
  rw [ha] at hwr
  have c0 := hw.c0
  have hnam := nameW_size hn
  go_enter Tryd.func57, Tryd.ntmps57
  go_wp2_with fail
  refine wp_region_F (n := 8) (S := fun w' : World => w'.cell? ⟨gw, 0, none⟩ = some (.pointer (some ⟨g, 0, none⟩))) (by kernel_rfl) ?_
  have hHeld : (fun w' : World => w'.cell? ⟨gw, 0, none⟩ = some (.pointer (some ⟨g, 0, none⟩))) w.drew := c0
  refine wpAnyF_tk 0 (some 8) (Op.move (Operand.tmp 0)) 24 (v := ?_) rfl (by kernel_rfl) (fun _ _ _ h => h) ?_ hHeld ?_
  rotate_left
  · intro w hSw
    try dsimp only at hSw
    dsimp only [bare]
    go_simp <;> with_reducible rfl
  try simp only [bare, Act.put, List.setIfInBounds_toArray, List.set_cons_zero, List.set_cons_succ]
  refine wpAnyF_tk 1 (some 9) (Op.nilCheck (Operand.tmp 8)) 0 (v := ?_) rfl (by kernel_rfl) (fun _ _ _ h => h) ?_ hHeld ?_
  rotate_left
  · intro w hSw
    try dsimp only at hSw
    dsimp only [bare]
    go_simp <;> with_reducible rfl
  try simp only [bare, Act.put, List.setIfInBounds_toArray, List.set_cons_zero, List.set_cons_succ]
  refine wpAnyF_tk 2 (some 10) (Op.fieldAddr 61 (Operand.tmp 9) 0) 0 (v := ?_) rfl (by kernel_rfl) (fun _ _ _ h => h) ?_ hHeld ?_
  rotate_left
  · intro w hSw
    try dsimp only at hSw
    dsimp only [bare]
    go_simp <;> with_reducible rfl
  try simp only [bare, Act.put, List.setIfInBounds_toArray, List.set_cons_zero, List.set_cons_succ]
  refine wpAnyF_tk 3 (some 11) (Op.load 22 (Operand.tmp 10)) 22 (v := ?_) rfl (by kernel_rfl) (fun _ _ _ h => h) ?_ hHeld ?_
  rotate_left
  · intro w hSw
    try dsimp only at hSw
    dsimp only [bare]
    go_simp <;> with_reducible rfl
  try simp only [bare, Act.put, List.setIfInBounds_toArray, List.set_cons_zero, List.set_cons_succ]
  refine wpAnyF_tk 4 (some 12) (Op.move (Operand.tmp 1)) 3 (v := ?_) rfl (by kernel_rfl) (fun _ _ _ h => h) ?_ hHeld ?_
  rotate_left
  · intro w hSw
    try dsimp only at hSw
    dsimp only [bare]
    go_simp <;> with_reducible rfl
  try simp only [bare, Act.put, List.setIfInBounds_toArray, List.set_cons_zero, List.set_cons_succ]
  refine wpAnyF_tk 6 (some 14) (Op.move (Operand.tmp 2)) 64 (v := ?_) rfl (by kernel_rfl) (fun _ _ _ h => h) ?_ hHeld ?_
  rotate_left
  · intro w hSw
    try dsimp only at hSw
    dsimp only [bare]
    go_simp <;> with_reducible rfl
  try simp only [bare, Act.put, List.setIfInBounds_toArray, List.set_cons_zero, List.set_cons_succ]
  refine wpAnyF_one 5 (some 13) (Op.call { callee := Callee.value (Operand.func 26), args := #[Operand.tmp 12], argTypes := #[3] }) 9 rfl (by kernel_rfl) (fun K hK => ?_)
  dsimp only [bare]; go_simp
  refine (walNamed n _ rfl hn w.drew (htab _ (Chg.of_below (below_drew _ _)))).mono ?_
  rintro e w2 ⟨rfl, b2⟩
  dsimp only
  have bE : Below w.heap.size w w2 := (below_drew _ _).trans b2
  have hd2 := hd.ext bE
  have hw2 := hw.ext bE
  refine hK _ _ hw2.c0 (fun hHeld => ?_)
  clear hK K
  try simp only [bare, Act.put, List.setIfInBounds_toArray, List.set_cons_zero, List.set_cons_succ]
  refine wpAnyF_one 7 (some 15) (Op.call { callee := Callee.value (Operand.func 80), args := #[Operand.tmp 11, Operand.tmp 13, Operand.tmp 14], argTypes := #[22, 9, 64] }) 25 rfl (by kernel_rfl) (fun K hK => ?_)
  dsimp only [bare]; go_simp
  refine (lAppend hd2 (pi.ok (by omega)) ha (by omega) (hb.ext bE) hloc).mono ?_
  rintro e w3 ⟨rfl, hd3, ch⟩
  dsimp only
  have hw3 := hw2.keep ch
  have ch3 : Chg (Gx w0 X) w w3 := (Chg.of_below bE).step ch
  refine hK _ _ hw3.c0 (fun hHeld => ?_)
  clear hK K
  try simp only [bare, Act.put, List.setIfInBounds_toArray, List.set_cons_zero, List.set_cons_succ]
  refine wpAnyF_end (some 7) (Op.assign (Operand.tmp 15)) 25 rfl (by kernel_rfl) (by kernel_rfl) (fun K hK => ?_)
  dsimp only [bare]; go_simp
  refine hK _ _ ?_
  clear hK K
  try simp only [bare, Act.put, List.setIfInBounds_toArray, List.set_cons_zero, List.set_cons_succ]
  unfold thenD at hwr
  by_cases hE : E1 = 0
  · subst hE
    rw [if_pos rfl] at hwr
    replace hwr : syncD d1 (nameW n) = (E, d') := hwr
    have c03 := hw3.c0
    go_wp2_with fail
    refine wp_region_F (n := 7) (S := fun w' : World => w'.cell? ⟨gw, 0, none⟩ = some (.pointer (some ⟨g, 0, none⟩))) (by kernel_rfl) ?_
    have hHeld : (fun w' : World => w'.cell? ⟨gw, 0, none⟩ = some (.pointer (some ⟨g, 0, none⟩))) w3.drew := c03
    refine wpAnyF_tk 0 (some 19) (Op.move (Operand.tmp 0)) 24 (v := ?_) rfl (by kernel_rfl) (fun _ _ _ h => h) ?_ hHeld ?_
    rotate_left
    · intro w hSw
      try dsimp only at hSw
      dsimp only [bare]
      go_simp <;> with_reducible rfl
    try simp only [bare, Act.put, List.setIfInBounds_toArray, List.set_cons_zero, List.set_cons_succ]
    refine wpAnyF_tk 1 (some 20) (Op.nilCheck (Operand.tmp 19)) 0 (v := ?_) rfl (by kernel_rfl) (fun _ _ _ h => h) ?_ hHeld ?_
    rotate_left
    · intro w hSw
      try dsimp only at hSw
      dsimp only [bare]
      go_simp <;> with_reducible rfl
    try simp only [bare, Act.put, List.setIfInBounds_toArray, List.set_cons_zero, List.set_cons_succ]
    refine wpAnyF_tk 2 (some 21) (Op.fieldAddr 61 (Operand.tmp 20) 0) 0 (v := ?_) rfl (by kernel_rfl) (fun _ _ _ h => h) ?_ hHeld ?_
    rotate_left
    · intro w hSw
      try dsimp only at hSw
      dsimp only [bare]
      go_simp <;> with_reducible rfl
    try simp only [bare, Act.put, List.setIfInBounds_toArray, List.set_cons_zero, List.set_cons_succ]
    refine wpAnyF_tk 3 (some 22) (Op.load 22 (Operand.tmp 21)) 22 (v := ?_) rfl (by kernel_rfl) (fun _ _ _ h => h) ?_ hHeld ?_
    rotate_left
    · intro w hSw
      try dsimp only at hSw
      dsimp only [bare]
      go_simp <;> with_reducible rfl
    try simp only [bare, Act.put, List.setIfInBounds_toArray, List.set_cons_zero, List.set_cons_succ]
    refine wpAnyF_tk 4 (some 23) (Op.move (Operand.tmp 1)) 3 (v := ?_) rfl (by kernel_rfl) (fun _ _ _ h => h) ?_ hHeld ?_
    rotate_left
    · intro w hSw
      try dsimp only at hSw
      dsimp only [bare]
      go_simp <;> with_reducible rfl
    try simp only [bare, Act.put, List.setIfInBounds_toArray, List.set_cons_zero, List.set_cons_succ]
    refine wpAnyF_one 5 (some 24) (Op.call { callee := Callee.value (Operand.func 26), args := #[Operand.tmp 23], argTypes := #[3] }) 9 rfl (by kernel_rfl) (fun K hK => ?_)
    dsimp only [bare]; go_simp
    refine (walNamed n _ rfl hn w3.drew (htab _ ch3.drew)).mono ?_
    rintro e w4 ⟨rfl, b4⟩
    dsimp only
    have bF : Below w3.heap.size w3 w4 := (below_drew _ _).trans b4
    have hd4 := hd3.ext bF
    have hw4 := hw3.ext bF
    refine hK _ _ hw4.c0 (fun hHeld => ?_)
    clear hK K
    try simp only [bare, Act.put, List.setIfInBounds_toArray, List.set_cons_zero, List.set_cons_succ]
    refine wpAnyF_one 6 (some 25) (Op.call { callee := Callee.value (Operand.func 52), args := #[Operand.tmp 22, Operand.tmp 24], argTypes := #[22, 9] }) 25 rfl (by kernel_rfl) (fun K hK => ?_)
    dsimp only [bare]; go_simp
    refine (lSync hd4 (pi1.ok (by omega)) hwr).mono ?_
    rintro e w5 ⟨rfl, hd5, ch'⟩
    dsimp only
    have hw5 := hw4.keep ch'
    have ch5 : Chg (Gx w0 X) w w5 := (ch3.step (Chg.of_below bF)).step ch'
    refine hK _ _ hw5.c0 (fun hHeld => ?_)
    clear hK K
    try simp only [bare, Act.put, List.setIfInBounds_toArray, List.set_cons_zero, List.set_cons_succ]
    refine wpAnyF_end (some 6) (Op.assign (Operand.tmp 25)) 25 rfl (by kernel_rfl) (by kernel_rfl) (fun K hK => ?_)
    dsimp only [bare]; go_simp
    refine hK _ _ ?_
    clear hK K
    try simp only [bare, Act.put, List.setIfInBounds_toArray, List.set_cons_zero, List.set_cons_succ]
    go_wp2_with fail
    go_ret
    exact ⟨rfl, hd5, hw5, ch5⟩
  · have hne : (E1 != 0) = true := by simpa using hE
    rw [if_neg hE] at hwr
    cases hwr
    go_wp2_with fail
    go_ret
    exact ⟨rfl, hd3, hw3, ch3⟩
end Go.Proofs.YtgpgcnmnfnnkjaaDoor
end

section
namespace Go.Proofs.YtgpgcnmnfnnkjaaDoor
open Go Go.RowKit Go.PlainAid
theorem etysB_snoc (l : List Ety) (x : Ety) : etysB (l ++ [x]) = etysB l ++ etyB x := by unfold etysB; rw [List.flatMap_append]; simp
theorem one_le (p : List UInt8) : (Frm.one p).length ≤ p.length + 8 := by
  unfold Frm.one
  split
  · simp
  · simp [Frm.head, Crc.le4]
theorem etyB_le (x : Ety) : (etyB x).length ≤ x.data.size + 48 := by
  unfold etyB
  have h1 := one_le (numsB [2, x.term, x.members] ++ textB (bytesOf x.data))
  have h2 := numsB_le [2, x.term, x.members]
  have h3 : (textB (bytesOf x.data)).length ≤ 10 + x.data.size := by
    unfold textB; rw [List.length_append]; have := numB_le ((bytesOf x.data).length : Int); have h4 : (bytesOf x.data).length = x.data.size := by simp [bytesOf]
    omega
  rw [List.length_append] at h1
  simp only [List.length_cons, List.length_nil] at h2
  omega
theorem etysB_le {l : List Ety} (h : ∀ x ∈ l, x.data.size ≤ 100000) : (etysB l).length ≤ 100048 * l.length := by
  induction l with
  | nil => simp [etysB]
  | cons x r ih =>
    have h1 := etyB_le x
    have h2 := h x (by simp)
    have h3 := ih (fun y hy => h y (by simp [hy]))
    show (etyB x ++ etysB r).length ≤ _
    rw [List.length_append, List.length_cons]; omega
def EtyIn (x : Ety) : Prop := In64 x.term ∧ In64 x.members ∧ x.data.size ≤ 100000
def EntsB (w : World) (v : Value) (l : List UInt8) (e : Ending) (w' : World) : Prop := ∃ r, e = .returned r ∧ Bytes w' r l ∧ (∀ k, r.ownBlock = some k → v.ownBlock = some k ∨ w.heap.size ≤ k) ∧ Below w.heap.size w w'

set_option maxRecDepth 8000 in
set_option maxHeartbeats 4000000 in
theorem walEntries (v u : Value) (b : List UInt8) (l : List Ety) (w : World) (hv : Bytes w v b) (hu : Rd etyE w u l) (hb : b.length ≤ 1000000000) (hl : l.length ≤ 1000) (hin : ∀ x ∈ l, EtyIn x) :
    Calls Tryd.prog 58 #[v, u] w (EntsB w v (b ++ etysB l)) := by
  obtain ⟨p, cap, rfl⟩ := hu.shape
  go_enter Tryd.func58, Tryd.ntmps58
  go_wp2
  go_loopw [0, 9] (fun o i wr => ∃ k : Nat, k ≤ l.length ∧ i = .int .i64 k ∧ Bytes wr o (b ++ etysB (l.take k)) ∧ (∀ j, o.ownBlock = some j → v.ownBlock = some j ∨ w.heap.size ≤ j) ∧ Below w.heap.size w wr) (fun _ i _ => l.length - (intOf i).toNat)
  case atStart => exact ⟨0, by omega, rfl, by simpa [etysB] using hv, fun j hj => .inl hj, Below.refl _ _⟩
  case round =>
    obtain ⟨k, hk, rfl, ho, hloc, hbw⟩ := hrel
    by_cases hlt : k < l.length
    · have hur := hu.ext hbw
      obtain ⟨bb, off, rfl⟩ := Rd.blk hur (by omega)
      obtain ⟨c0, c1, c2⟩ := ety3 hur hlt
      obtain ⟨i1, i2, i3⟩ := hin l[k] (List.getElem_mem hlt)
      have hel := etysB_le (l := l.take k) (fun x hx => (hin x (List.mem_of_mem_take hx)).2.2)
      rw [List.length_take, Nat.min_eq_left hk] at hel
      have hol : (b ++ etysB (l.take k)).length ≤ 1200000000 := by rw [List.length_append]; omega
      have hst : b ++ etysB (l.take (k + 1)) = (b ++ etysB (l.take k)) ++ etyB l[k] := by rw [List.take_succ_eq_append_getElem hlt, etysB_snoc, List.append_assoc]
      have Hst := Lib.hid hst
      have hi : (k : Int) < (l.length : Int) := by omega
      have hi0 : (0 : Int) ≤ (k : Int) := by omega
      have hsz := hbw.size
      clear hst hel
      generalize l[k] = x at *
      generalize b ++ etysB (l.take k) = O at *
      obtain ⟨po, co, rfl⟩ := ho.shape
      have ca := below_alloc wr (.cells #[.int .i64 x.term, .int .i64 x.members, .string x.data] 36)
      have kx := Blk.new wr #[.int .i64 x.term, .int .i64 x.members, .string x.data] 36
      have hoW := ho.ext ca
      go_wp2_with fail
      generalize wr.alloc (.cells #[.int .i64 x.term, .int .i64 x.members, .string x.data] 36) = W at *
      have bD := below_drew W.heap.size W
      refine wp_region_F (n := 11) (S := fun w' : World => w'.cell? ⟨wr.heap.size, 0, none⟩ = some (.int .i64 x.term) ∧ (w'.cell? ⟨wr.heap.size, 1, none⟩ = some (.int .i64 x.members) ∧ w'.cell? ⟨wr.heap.size, 2, none⟩ = some (.string x.data))) (by kernel_rfl) ?_
      have hHeld : (fun w' : World => w'.cell? ⟨wr.heap.size, 0, none⟩ = some (.int .i64 x.term) ∧ (w'.cell? ⟨wr.heap.size, 1, none⟩ = some (.int .i64 x.members) ∧ w'.cell? ⟨wr.heap.size, 2, none⟩ = some (.string x.data))) W.drew := ⟨kx.cell 0 _ rfl, kx.cell 1 _ rfl, kx.cell 2 _ rfl⟩
      clear c0 c1 c2
      refine wpAnyF_tk 0 (some 13) (Op.move (Operand.tmp 0)) 64 (v := ?_) rfl (by kernel_rfl) (fun _ _ _ h => h) ?_ hHeld ?_
      rotate_left
      · intro w hSw
        try dsimp only at hSw
        obtain ⟨_, _, _⟩ := hSw
        dsimp only [bare]
        go_simp <;> with_reducible rfl
      try simp only [bare, Act.put, List.setIfInBounds_toArray, List.set_cons_zero, List.set_cons_succ]
      refine wpAnyF_tk 1 (some 14) (Op.fieldAddr 36 (Operand.tmp 6) 0) 0 (v := ?_) rfl (by kernel_rfl) (fun _ _ _ h => h) ?_ hHeld ?_
      rotate_left
      · intro w hSw
        try dsimp only at hSw
        obtain ⟨_, _, _⟩ := hSw
        dsimp only [bare]
        go_simp <;> with_reducible rfl
      try simp only [bare, Act.put, List.setIfInBounds_toArray, List.set_cons_zero, List.set_cons_succ]
      refine wpAnyF_tk 2 (some 15) (Op.load 3 (Operand.tmp 14)) 3 (v := ?_) rfl (by kernel_rfl) (fun _ _ _ h => h) ?_ hHeld ?_
      rotate_left
      · intro w hSw
        try dsimp only at hSw
        obtain ⟨_, _, _⟩ := hSw
        dsimp only [bare]
        go_simp <;> with_reducible rfl
      try simp only [bare, Act.put, List.setIfInBounds_toArray, List.set_cons_zero, List.set_cons_succ]
      refine wpAnyF_tk 3 (some 16) (Op.fieldAddr 36 (Operand.tmp 6) 1) 0 (v := ?_) rfl (by kernel_rfl) (fun _ _ _ h => h) ?_ hHeld ?_
      rotate_left
      · intro w hSw
        try dsimp only at hSw
        obtain ⟨_, _, _⟩ := hSw
        dsimp only [bare]
        go_simp <;> with_reducible rfl
      try simp only [bare, Act.put, List.setIfInBounds_toArray, List.set_cons_zero, List.set_cons_succ]
      refine wpAnyF_tk 4 (some 17) (Op.load 3 (Operand.tmp 16)) 3 (v := ?_) rfl (by kernel_rfl) (fun _ _ _ h => h) ?_ hHeld ?_
      rotate_left
      · intro w hSw
        try dsimp only at hSw
        obtain ⟨_, _, _⟩ := hSw
        dsimp only [bare]
        go_simp <;> with_reducible rfl
      try simp only [bare, Act.put, List.setIfInBounds_toArray, List.set_cons_zero, List.set_cons_succ]
      refine wpAnyF_tk 7 (some 20) (Op.fieldAddr 36 (Operand.tmp 6) 2) 0 (v := ?_) rfl (by kernel_rfl) (fun _ _ _ h => h) ?_ hHeld ?_
      rotate_left
      · intro w hSw
        try dsimp only at hSw
        obtain ⟨_, _, _⟩ := hSw
        dsimp only [bare]
        go_simp <;> with_reducible rfl
      try simp only [bare, Act.put, List.setIfInBounds_toArray, List.set_cons_zero, List.set_cons_succ]
      refine wpAnyF_tk 8 (some 21) (Op.load 9 (Operand.tmp 20)) 9 (v := ?_) rfl (by kernel_rfl) (fun _ _ _ h => h) ?_ hHeld ?_
      rotate_left
      · intro w hSw
        try dsimp only at hSw
        obtain ⟨_, _, _⟩ := hSw
        dsimp only [bare]
        go_simp <;> with_reducible rfl
      try simp only [bare, Act.put, List.setIfInBounds_toArray, List.set_cons_zero, List.set_cons_succ]
      refine wpAnyF_one 5 (some 18) (Op.buildSlice 41 3 #[(0, Operand.const (Value.int IntKind.i64 2)), (1, Operand.tmp 15), (2, Operand.tmp 17)]) 41 rfl (by kernel_rfl) (fun K hK => ?_)
      dsimp only [bare]; go_simp
      obtain ⟨w8, hw8⟩ : ∃ z, z = (W.alloc (.cells #[.int .i64 2, .int .i64 x.term, .int .i64 x.members] 3)).drew := ⟨_, rfl⟩
      have bE : Below W.heap.size W w8 := by rw [hw8]; exact (below_alloc W _).drew
      have lit : Rd intsE w8 (.slice (some ⟨W.heap.size, 0, none⟩) 3 3) [2, x.term, x.members] := by rw [hw8]; exact ((OwnR.litAt intsE W #[.int .i64 2, .int .i64 x.term, .int .i64 x.members] 3 [2, x.term, x.members] 3 0 W.heap.size rfl rfl rfl (by unfold maxLen; omega) (Nat.zero_le _)).drew).rd
      rw [← hw8]
      clear hw8
      have k8 := kx.ext bE
      refine hK _ _ ⟨k8.cell 0 _ rfl, k8.cell 1 _ rfl, k8.cell 2 _ rfl⟩ (fun hHeld => ?_)
      clear hK K
      try simp only [bare, Act.put, List.setIfInBounds_toArray, List.set_cons_zero, List.set_cons_succ]
      refine wpAnyF_one 6 (some 19) (Op.call { callee := Callee.value (Operand.func 56), args := #[Operand.tmp 18], argTypes := #[41] }) 64 rfl (by kernel_rfl) (fun K hK => ?_)
      dsimp only [bare]; go_simp
      refine (walNums _ [2, x.term, x.members] w8 lit (by simp) (fun y hy => by simp only [List.mem_cons, List.not_mem_nil, or_false] at hy; rcases hy with rfl | rfl | rfl; exact ⟨by decide, by decide⟩; exact i1; exact i2)).mono ?_
      rintro e w9 ⟨r9, rfl, own9, b9⟩
      dsimp only
      have k9 := k8.ext b9
      have bF := bE.trans (b9.mono bE.size)
      have n9 := numsB_le [2, x.term, x.members]
      refine hK _ _ ⟨k9.cell 0 _ rfl, k9.cell 1 _ rfl, k9.cell 2 _ rfl⟩ (fun hHeld => ?_)
      clear hK K
      try simp only [bare, Act.put, List.setIfInBounds_toArray, List.set_cons_zero, List.set_cons_succ]
      refine wpAnyF_one 9 (some 22) (Op.call { callee := Callee.value (Operand.func 81), args := #[Operand.tmp 19, Operand.tmp 21], argTypes := #[64, 9] }) 64 rfl (by kernel_rfl) (fun K hK => ?_)
      dsimp only [bare]; go_simp
      refine (packText r9 _ x.data w9 own9.bytes (by simp only [List.length_cons, List.length_nil] at n9; omega)).mono ?_
      rintro e w10 ⟨r10, rfl, own10, b10⟩
      dsimp only
      have k10 := k9.ext b10
      have bG := bF.trans (b10.mono bF.size)
      have n10 : (numsB [2, x.term, x.members] ++ textB x.data.data.toList).length ≤ 10000000 := by
        have h3 : (textB x.data.data.toList).length ≤ 10 + x.data.size := by
          unfold textB; rw [List.length_append]; have := numB_le (x.data.data.toList.length : Int); have h4 : x.data.data.toList.length = x.data.size := by simp
          omega
        rw [List.length_append]
        simp only [List.length_cons, List.length_nil] at n9
        omega
      refine hK _ _ ⟨k10.cell 0 _ rfl, k10.cell 1 _ rfl, k10.cell 2 _ rfl⟩ (fun hHeld => ?_)
      clear hK K
      try simp only [bare, Act.put, List.setIfInBounds_toArray, List.set_cons_zero, List.set_cons_succ]
      refine wpAnyF_one 10 (some 23) (Op.call { callee := Callee.value (Operand.func 55), args := #[Operand.tmp 13, Operand.tmp 22], argTypes := #[64, 64] }) 64 rfl (by kernel_rfl) (fun K hK => ?_)
      dsimp only [bare]; go_simp
      refine (walRecord _ r10 O _ w10 (hoW.ext bG) own10.bytes (by omega) (by omega)).mono ?_
      rintro e w11 ⟨r11, rfl, own11, b11⟩
      dsimp only
      have k11 := k10.ext b11
      have bH := bG.trans (b11.mono bG.size)
      refine hK _ _ ⟨k11.cell 0 _ rfl, k11.cell 1 _ rfl, k11.cell 2 _ rfl⟩ (fun hHeld => ?_)
      clear hK K
      try simp only [bare, Act.put, List.setIfInBounds_toArray, List.set_cons_zero, List.set_cons_succ]
      refine wpAnyF_end (some 0) (Op.assign (Operand.tmp 23)) 64 rfl (by kernel_rfl) (by kernel_rfl) (fun K hK => ?_)
      dsimp only [bare]; go_simp
      refine hK _ _ ?_
      clear hK K
      try simp only [bare, Act.put, List.setIfInBounds_toArray, List.set_cons_zero, List.set_cons_succ]
      have hall := hbw.trans ((ca.trans (bH.mono ca.size)).mono hsz)
      have h10 := bG.size
      have h11 := ca.size
      go_wp2_with fail
      go_roundw
      case rel => exact ⟨k + 1, by omega, by go_num, by rw [Hst.out]; exact own11.bytes, fun j hj => .inr (by have := (own11.lt j hj).1; omega), hall⟩
      case measure => simp [intOf]; omega
    · have hke : k = l.length := by omega
      have hi : ¬ (k : Int) < (l.length : Int) := by omega
      have Hk := Lib.hid hke
      clear hke
      obtain ⟨po, co, rfl⟩ := ho.shape
      generalize hO : b ++ etysB (l.take k) = O at *
      go_wp2
      go_ret
      rw [Hk.out, List.take_of_length_le (Nat.le_refl _)] at hO
      rw [hO]
      exact ⟨_, rfl, ho, hloc, hbw⟩
end Go.Proofs.YtgpgcnmnfnnkjaaDoor
end
