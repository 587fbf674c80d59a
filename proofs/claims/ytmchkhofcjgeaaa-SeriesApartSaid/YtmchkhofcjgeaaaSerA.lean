/- Walks: series.Right, place, Find; the document's SeriesRight, find. -/
import Derived.Test.YtmchkhofcjgeaaaSerP
import Derived.Test.YtmchkhofcjgeaaaSign
import Derived.Test.YtmchkhofcjgeaaaSesA
import Derived.Test.YtmchkhofcjgeaaaAfter
import Derived.Laws.Cover1
namespace Go.Proofs.Ytmchkhofcjgeaaa
open Go Go.RowKit BigFrame
attribute [local go_sem] After.same

theorem srs4 {w : World} {b off n c : Nat} {l : List Srs} (h : Rd srsE w (.slice (some ⟨b, off, none⟩) n c) l) {k : Nat} (hk : k < l.length) :
    w.cell? ⟨b, off + k * 4, none⟩ = some (.string l[k].name) ∧ w.cell? ⟨b, off + k * 4 + 1, none⟩ = some (.int .i64 l[k].next) ∧ w.cell? ⟨b, off + k * 4 + 2, none⟩ = some (.int .i64 l[k].limit) ∧ w.cell? ⟨b, off + k * 4 + 3, none⟩ = some (.bool l[k].shut) :=
  ⟨h.at_ hk 0 (by decide), h.at_ hk 1 (by decide), h.at_ hk 2 (by decide), h.at_ hk 3 (by decide)⟩
theorem srs_eqb (x y : Srs) : (eqS x.name y.name && (x.next == y.next && (x.limit == y.limit && x.shut == y.shut))) = decide (x = y) := by
  rw [Bool.eq_iff_iff, decide_eq_true_iff]
  cases x; cases y; simp [eqS_iff]
theorem eqin_srs (x y : Srs) (w : World) : (Op.equalIn 10000 66 (.agg #[.string x.name, .int .i64 x.next, .int .i64 x.limit, .bool x.shut]) (.agg #[.string y.name, .int .i64 y.next, .int .i64 y.limit, .bool y.shut])).run Try.prog w = .ok (decide (x = y)) w := by
  have u3 := Try.underlying3
  have a3 := Try.isAgg3
  have z3 := Try.sizeOf3
  have u9 := Try.underlying9
  have a9 := Try.isAgg9
  have z9 := Try.sizeOf9
  have ub := Try.underlying4
  have ab := Try.isAgg4
  have zb := Try.sizeOf4
  have hS : Try.prog.underlying 66 = some (.struct (Try.prog.fieldsOf 66)) := by kernel_rfl
  have hp : Try.prog.stoodInHeld 66 = false := by kernel_rfl
  rw [← srs_eqb]
  rw [show (10000 : Nat) = 9999 + 1 from rfl, run_equalIn_agg w 9999 66 _ _ hS hp]
  simp only [Program.fieldsOf, Try.underlying66]
  unfold eqS
  go_simp
  generalize x.name.toList = a
  generalize y.name.toList = b
  by_cases h1 : a = b <;> by_cases h2 : x.next = y.next <;> by_cases h3 : x.limit = y.limit <;> by_cases h4 : x.shut = y.shut <;> simp [h1, h2, h3, h4]
theorem neq_Srs (x y : Srs) (w : World) : (binOp .neq 66 (.agg #[.string x.name, .int .i64 x.next, .int .i64 x.limit, .bool x.shut]) (.agg #[.string y.name, .int .i64 y.next, .int .i64 y.limit, .bool y.shut])).run Try.prog w = .ok (.bool (!decide (x = y))) w := by
  rw [run_neq_struct, eqin_srs]; rfl

/-- a series, test by test -/
theorem numR_cases (s : Srs) : (numR s = false ∧ s.limit < 1) ∨ (numR s = false ∧ 1 ≤ s.limit ∧ 1099511627776 < s.limit) ∨ (numR s = false ∧ 1 ≤ s.limit ∧ s.limit ≤ 1099511627776 ∧ s.next < 1) ∨ (numR s = false ∧ 1 ≤ s.limit ∧ s.limit ≤ 1099511627776 ∧ 1 ≤ s.next ∧ s.limit + 1 < s.next) ∨ (numR s = true ∧ 1 ≤ s.limit ∧ s.limit ≤ 1099511627776 ∧ 1 ≤ s.next ∧ s.next ≤ s.limit + 1) := by
  by_cases h1 : s.limit < 1
  · exact .inl ⟨by unfold numR; rw [decide_eq_false (by omega)]; rfl, h1⟩
  · by_cases h2 : 1099511627776 < s.limit
    · exact .inr (.inl ⟨by unfold numR; rw [decide_eq_false (p := s.limit ≤ _) (by omega)]; simp, by omega, h2⟩)
    · by_cases h3 : s.next < 1
      · exact .inr (.inr (.inl ⟨by unfold numR; rw [decide_eq_false (p := 1 ≤ s.next) (by omega)]; simp, by omega, by omega, h3⟩))
      · by_cases h4 : s.limit + 1 < s.next
        · exact .inr (.inr (.inr (.inl ⟨by unfold numR; rw [decide_eq_false (p := s.next ≤ _) (by omega)]; simp, by omega, by omega, by omega, h4⟩)))
        · exact .inr (.inr (.inr (.inr ⟨by unfold numR; simp; omega, by omega, by omega, by omega, by omega⟩)))
theorem okR_name {p : Option ByteArray} {s : Srs} (h : nameB s.name = false) : okR p s = false := by unfold okR; rw [h]; rfl
theorem okR_ahead {p : Option ByteArray} {s : Srs} (h : aheadR p s.name = false) : okR p s = false := by unfold okR; rw [h]; simp
theorem okR_num {p : Option ByteArray} {s : Srs} (h : numR s = false) : okR p s = false := by unfold okR; rw [h]; simp
theorem okR_yes {p : Option ByteArray} {s : Srs} (h1 : nameB s.name = true) (h2 : aheadR p s.name = true) (h3 : numR s = true) : okR p s = true := by unfold okR; rw [h1, h2, h3]; rfl

theorem srsPlaceFn (x : Srs) (g : Nat) (id : ByteArray) (w : World) (hc : w.cell? ⟨g, 0, none⟩ = some (.string id)) (hg : g < w.heap.size) :
    Calls Try.prog 58 #[.agg #[.string x.name, .int .i64 x.next, .int .i64 x.limit, .bool x.shut], .pointer (some ⟨g, 0, none⟩)] w fun e w' => e = .returned (.bool (isNm id x)) ∧ Below w.heap.size w w' := by
  have hne : g ≠ w.heap.size := by omega
  go_enter Try.func58, Try.ntmps58
  go_wp2
  go_ret
  exact ⟨rfl, below_alloc _ _⟩

set_option maxHeartbeats 1000000 in
theorem srsIdx (v : Value) (l : List Srs) (g : Nat) (id : ByteArray) (w : World) (hv : Rd srsE w v l) (hg : g < w.heap.size) (hc : w.cell? ⟨g, 0, none⟩ = some (.string id)) :
    Calls Try.prog 57 #[v, .func (.func 58) #[] #[.pointer (some ⟨g, 0, none⟩)]] w fun e w' => e = .returned (.int .i64 (placeR l id)) ∧ Below w.heap.size w w' := by
  have eg : ∀ args w, (callFunc 58 args).run Try.prog w = .ok (.enter 58 args) w := enters_of Try.func58 (by kernel_rfl) rfl
  obtain ⟨p, cap, rfl, h1, h2, h3, h4⟩ := hv.form
  clear h3 h4
  unfold maxLen at h2
  go_enter Try.func57, Try.ntmps57
  go_wp2
  go_loopw [8] (fun i wr => ∃ k : Nat, k ≤ l.length ∧ i = .int .i64 k ∧ Hid (placeR l id = placeBy (isNm id) (l.drop k) k) ∧ Below w.heap.size w wr) (fun i _ => l.length - (intOf i).toNat)
  case atStart => exact ⟨0, by omega, rfl, rfl, Below.refl _ _⟩
  case round =>
    obtain ⟨k, hk, rfl, hpl, hb⟩ := hrel
    by_cases hlt : k < l.length
    · obtain ⟨b, off, rfl⟩ := Rd.blk hv (by omega)
      obtain ⟨c0, c1, c2, c3⟩ := srs4 (hv.ext hb) hlt
      have hi : (k : Int) < (l.length : Int) := by omega
      have hcr : wr.cell? ⟨g, 0, none⟩ = some (.string id) := (hb.cell (p := ⟨g, 0, none⟩) hg).trans hc
      have hgr : g < wr.heap.size := Nat.lt_of_lt_of_le hg hb.size
      have hhit := Lib.hid (fun h => placeBy_hit (p := isNm id) hlt h)
      have hmiss := Lib.hid (fun h => placeBy_miss (p := isNm id) hlt h)
      have hcall := srsPlaceFn l[k] g id wr hcr hgr
      clear hv hc
      generalize l[k] = s at *
      cases hq : isNm id s with
      | true =>
        rw [hq] at hcall
        have Hq := Lib.hid hq
        clear hq
        go_wp2_with (go_at_fn 58; refine hcall.mono ?_; rintro e w' ⟨rfl, hb'⟩)
        go_ret
        exact ⟨ret_int (by rw [hpl.out, hhit.out Hq.out]), hb.trans (hb'.mono hb.size)⟩
      | false =>
        rw [hq] at hcall
        have Hq := Lib.hid hq
        clear hq
        go_wp2_with (go_at_fn 58; refine hcall.mono ?_; rintro e w' ⟨rfl, hb'⟩)
        go_roundw
        case rel => exact ⟨k + 1, by omega, by go_num, hpl.out.trans (hmiss.out Hq.out), hb.trans (hb'.mono hb.size)⟩
        case measure => simp [intOf]; omega
    · go_wp2
      go_ret
      exact ⟨ret_int (by rw [hpl.out, placeBy_end (by omega)]), hb⟩

theorem srsPlace (v : Value) (l : List Srs) (id : ByteArray) (w : World) (hv : Rd srsE w v l) :
    Calls Try.prog 46 #[v, .string id] w fun e w' => e = .returned (.int .i64 (placeR l id)) ∧ Below w.heap.size w w' := by
  have hcon := srsIdx v l w.heap.size id (w.alloc (.cells #[.string id] 9)) (hv.ext (below_alloc _ _)) (by simp) (by simp)
  obtain ⟨p, cap, rfl⟩ := hv.shape
  go_enter Try.func46, Try.ntmps46
  go_wp2_with (go_at_call 57; refine hcon.mono ?_; rintro e w' ⟨rfl, hb'⟩)
  go_ret
  exact ⟨rfl, (below_alloc _ _).trans (hb'.mono (by simp))⟩

set_option maxHeartbeats 1000000 in
theorem srsFind0 (v : Value) (l : List Srs) (id : ByteArray) (w : World) (hv : Rd srsE w v l) :
    Calls Try.prog 51 #[v, .string id] w fun e w' => e = .returned (.int .i64 (placeR l id)) ∧ w = w' := by
  obtain ⟨p, cap, rfl, h1, h2, h3, h4⟩ := hv.form
  clear h3 h4
  unfold maxLen at h2
  go_enter Try.func51, Try.ntmps51
  go_wp2
  go_loop [5] (fun i => ∃ k : Nat, k ≤ l.length ∧ i = .int .i64 k ∧ Hid (placeR l id = placeBy (isNm id) (l.drop k) k)) (fun i => l.length - (intOf i).toNat)
  case atStart => exact ⟨0, by omega, rfl, rfl⟩
  case round =>
    obtain ⟨k, hk, rfl, hpl⟩ := hrel
    by_cases hlt : k < l.length
    · obtain ⟨b, off, rfl⟩ := Rd.blk hv (by omega)
      obtain ⟨c0, _⟩ := srs4 hv hlt
      have hi : (k : Int) < (l.length : Int) := by omega
      have hhit := Lib.hid (fun h => placeBy_hit (p := isNm id) hlt h)
      have hmiss := Lib.hid (fun h => placeBy_miss (p := isNm id) hlt h)
      clear hv
      generalize l[k] = s at *
      cases hq : (s.name.toList == id.toList) with
      | true =>
        have Hq : Hid (isNm id s = true) := hq
        go_wp2
        go_ret
        exact ⟨ret_int (by rw [hpl.out, hhit.out Hq.out]), rfl⟩
      | false =>
        have Hq : Hid (isNm id s = false) := hq
        go_wp2
        go_round
        case rel => exact ⟨k + 1, by omega, by go_num, hpl.out.trans (hmiss.out Hq.out)⟩
        case measure => simp [intOf]; omega
    · go_wp2
      go_ret
      exact ⟨ret_int (by rw [hpl.out, placeBy_end (by omega)]), rfl⟩


set_option maxHeartbeats 8000000 in
set_option maxRecDepth 100000 in
theorem srsRight (v : Value) (l : List Srs) (w : World) (hv : Rd srsE w v l) :
    Calls Try.prog 30 #[v] w fun e w' => e = .returned (.bool (rightR l)) ∧ Below w.heap.size w w' := by
  obtain ⟨p, cap, rfl, h1, h2, h3, h4⟩ := hv.form
  clear h3 h4
  unfold maxLen at h2
  by_cases h8 : 8 < l.length
  · have h8' : (8 : Int) < (l.length : Int) := by omega
    go_enter Try.func30, Try.ntmps30
    go_wp2
    go_ret
    exact ⟨ret_bool (rightR_long h8).symm, Below.refl _ _⟩
  · have h8' : ¬ (8 : Int) < (l.length : Int) := by omega
    go_enter Try.func30, Try.ntmps30
    go_wp2
    go_loopw [10] (fun i wr => ∃ (k : Nat) (p : Option ByteArray), k ≤ l.length ∧ i = .int .i64 k ∧ Hid (chainR none l = chainR p (l.drop k)) ∧ ((k = 0 ∧ p = none) ∨ ∃ (j : Nat) (h : j < l.length), k = j + 1 ∧ p = some l[j].name) ∧ Below w.heap.size w wr) (fun i _ => l.length - (intOf i).toNat)
    case atStart => exact ⟨0, none, by omega, rfl, rfl, .inl ⟨rfl, rfl⟩, Below.refl _ _⟩
    case round =>
      obtain ⟨k, q, hk, rfl, hch, hpr, hb⟩ := hrel
      by_cases hlt : k < l.length
      · obtain ⟨b, off, rfl⟩ := Rd.blk hv (by omega)
        have hvr := hv.ext hb
        obtain ⟨c0, c1, c2, c3⟩ := srs4 hvr hlt
        have hi : (k : Int) < (l.length : Int) := by omega
        have hi0 : (0 : Int) ≤ (k : Int) := by omega
        have hno := Lib.hid (fun h => rightR_no hch.out hlt h)
        have hnx := Lib.hid (fun h => rightR_next hch.out hlt h)
        have hbb : b < wr.heap.size := World.block_lt_of_cell? wr _ c0
        rcases hpr with ⟨rfl, rfl⟩ | ⟨j, hjl, rfl, rfl⟩
        · simp only [Nat.zero_mul, Nat.add_zero] at c0 c1 c2 c3
          generalize hx : l[0] = x at *
          have Hx := Lib.hid hx
          clear hx hv hvr
          have hb1 := below_alloc wr (.cells #[.string x.name, .int .i64 x.next, .int .i64 x.limit, .bool x.shut] 66)
          have kx := Blk.new wr #[.string x.name, .int .i64 x.next, .int .i64 x.limit, .bool x.shut] 66
          have x0 := kx.cell 0 _ rfl
          go_wp2_with fail
          generalize hW : wr.alloc (.cells #[.string x.name, .int .i64 x.next, .int .i64 x.limit, .bool x.shut] 66) = W at *
          have hxl : wr.heap.size < W.heap.size := kx.lt
          have hbl : b < W.heap.size := by have := hb1.size; omega
          have hbe := hb.trans (hb1.mono hb.size)
          clear hW hb1 hb
          cases hn : nameB x.name with
          | false =>
            have Hn := Lib.hid hn
            have Hq := Lib.hid (okR_name (p := none) hn)
            clear hn
            have hx0 : ∀ z : After W, z.1.cell? ⟨wr.heap.size, 0, none⟩ = some (.string x.name) := fun z => (kx.ext z.2).cell 0 _ rfl
            have hcl : ∀ z : After W, Calls Try.prog 45 #[.string x.name] z.1 fun e w' => e = .returned (.bool false) ∧ ∃ y : After W, w' = y.1 := fun z => z.call ((signName _ _).mono fun e w' h => ⟨by rw [h.1, Hn.out], h.2⟩)
            refine wp_region_after (by kernel_rfl) (by kernel_rfl) ?_
            repeat (go_big_quiet_step (exact hcl _))
            refine wpQuiet_nil ?_
            rintro _ ⟨⟨w7, c7⟩, rfl⟩
            try clear hx1 hx2
            clear hcl hx0
            have hb7 := hbe.trans (c7.mono hbe.size)
            go_wp2_with fail
            go_ret
            exact ⟨ret_bool (hno.out Hq.out).symm, hb7⟩
          | true =>
            have Hn := Lib.hid hn
            rcases numR_cases x with ⟨hq, t1⟩ | ⟨hq, t1, t2⟩ | ⟨hq, t1, t2, t3⟩ | ⟨hq, t1, t2, t3, t4⟩ | ⟨hq, t1, t2, t3, t4⟩
            · have Hq := Lib.hid (okR_num (p := none) hq)
              clear hq hn
              have d1 : decide (x.limit < 1) = true := by simp; omega
              have hx0 : ∀ z : After W, z.1.cell? ⟨wr.heap.size, 0, none⟩ = some (.string x.name) := fun z => (kx.ext z.2).cell 0 _ rfl
              have hcl : ∀ z : After W, Calls Try.prog 45 #[.string x.name] z.1 fun e w' => e = .returned (.bool true) ∧ ∃ y : After W, w' = y.1 := fun z => z.call ((signName _ _).mono fun e w' h => ⟨by rw [h.1, Hn.out], h.2⟩)
              refine wp_region_after (by kernel_rfl) (by kernel_rfl) ?_
              repeat (go_big_quiet_step (exact hcl _))
              refine wpQuiet_nil ?_
              rintro _ ⟨⟨w7, c7⟩, rfl⟩
              try clear hx1 hx2
              clear hcl hx0
              have k7 := kx.ext c7
              have z1 := k7.cell 1 _ rfl
              have z2 := k7.cell 2 _ rfl
              have hb7 := hbe.trans (c7.mono hbe.size)
              go_wp2_with fail
              go_ret
              exact ⟨ret_bool (hno.out Hq.out).symm, hb7⟩
            · have Hq := Lib.hid (okR_num (p := none) hq)
              clear hq hn
              have d1 : decide (x.limit < 1) = false := by simp; omega
              have d2 : decide (1099511627776 < x.limit) = true := by simp; omega
              have hx0 : ∀ z : After W, z.1.cell? ⟨wr.heap.size, 0, none⟩ = some (.string x.name) := fun z => (kx.ext z.2).cell 0 _ rfl
              have hcl : ∀ z : After W, Calls Try.prog 45 #[.string x.name] z.1 fun e w' => e = .returned (.bool true) ∧ ∃ y : After W, w' = y.1 := fun z => z.call ((signName _ _).mono fun e w' h => ⟨by rw [h.1, Hn.out], h.2⟩)
              refine wp_region_after (by kernel_rfl) (by kernel_rfl) ?_
              repeat (go_big_quiet_step (exact hcl _))
              refine wpQuiet_nil ?_
              rintro _ ⟨⟨w7, c7⟩, rfl⟩
              try clear hx1 hx2
              clear hcl hx0
              have k7 := kx.ext c7
              have z1 := k7.cell 1 _ rfl
              have z2 := k7.cell 2 _ rfl
              have hb7 := hbe.trans (c7.mono hbe.size)
              go_wp2_with fail
              go_ret
              exact ⟨ret_bool (hno.out Hq.out).symm, hb7⟩
            · have Hq := Lib.hid (okR_num (p := none) hq)
              clear hq hn
              have hwl : IntKind.i64.wrap (x.limit + 1) = x.limit + 1 := by rw [IntKind.wrap_i64]; omega
              have d1 : decide (x.limit < 1) = false := by simp; omega
              have d2 : decide (1099511627776 < x.limit) = false := by simp; omega
              have d3 : decide (x.next < 1) = true := by simp; omega
              have hx0 : ∀ z : After W, z.1.cell? ⟨wr.heap.size, 0, none⟩ = some (.string x.name) := fun z => (kx.ext z.2).cell 0 _ rfl
              have hcl : ∀ z : After W, Calls Try.prog 45 #[.string x.name] z.1 fun e w' => e = .returned (.bool true) ∧ ∃ y : After W, w' = y.1 := fun z => z.call ((signName _ _).mono fun e w' h => ⟨by rw [h.1, Hn.out], h.2⟩)
              refine wp_region_after (by kernel_rfl) (by kernel_rfl) ?_
              repeat (go_big_quiet_step (exact hcl _))
              refine wpQuiet_nil ?_
              rintro _ ⟨⟨w7, c7⟩, rfl⟩
              try clear hx1 hx2
              clear hcl hx0
              clear hwl
              have k7 := kx.ext c7
              have z1 := k7.cell 1 _ rfl
              have z2 := k7.cell 2 _ rfl
              have hb7 := hbe.trans (c7.mono hbe.size)
              go_wp2_with fail
              go_ret
              exact ⟨ret_bool (hno.out Hq.out).symm, hb7⟩
            · have Hq := Lib.hid (okR_num (p := none) hq)
              clear hq hn
              have hwl : IntKind.i64.wrap (x.limit + 1) = x.limit + 1 := by rw [IntKind.wrap_i64]; omega
              have d1 : decide (x.limit < 1) = false := by simp; omega
              have d2 : decide (1099511627776 < x.limit) = false := by simp; omega
              have d3 : decide (x.next < 1) = false := by simp; omega
              have d4 : decide (x.limit + 1 < x.next) = true := by simp; omega
              have hx0 : ∀ z : After W, z.1.cell? ⟨wr.heap.size, 0, none⟩ = some (.string x.name) := fun z => (kx.ext z.2).cell 0 _ rfl
              have hcl : ∀ z : After W, Calls Try.prog 45 #[.string x.name] z.1 fun e w' => e = .returned (.bool true) ∧ ∃ y : After W, w' = y.1 := fun z => z.call ((signName _ _).mono fun e w' h => ⟨by rw [h.1, Hn.out], h.2⟩)
              refine wp_region_after (by kernel_rfl) (by kernel_rfl) ?_
              repeat (go_big_quiet_step (exact hcl _))
              refine wpQuiet_nil ?_
              rintro _ ⟨⟨w7, c7⟩, rfl⟩
              try clear hx1 hx2
              clear hcl hx0
              clear hwl
              have k7 := kx.ext c7
              have z1 := k7.cell 1 _ rfl
              have z2 := k7.cell 2 _ rfl
              have hb7 := hbe.trans (c7.mono hbe.size)
              go_wp2_with fail
              go_ret
              exact ⟨ret_bool (hno.out Hq.out).symm, hb7⟩
            · have Hq := Lib.hid (okR_yes (p := none) hn rfl hq)
              clear hq hn
              have hwl : IntKind.i64.wrap (x.limit + 1) = x.limit + 1 := by rw [IntKind.wrap_i64]; omega
              have d1 : decide (x.limit < 1) = false := by simp; omega
              have d2 : decide (1099511627776 < x.limit) = false := by simp; omega
              have d3 : decide (x.next < 1) = false := by simp; omega
              have d4 : decide (x.limit + 1 < x.next) = false := by simp; omega
              have hx0 : ∀ z : After W, z.1.cell? ⟨wr.heap.size, 0, none⟩ = some (.string x.name) := fun z => (kx.ext z.2).cell 0 _ rfl
              have hcl : ∀ z : After W, Calls Try.prog 45 #[.string x.name] z.1 fun e w' => e = .returned (.bool true) ∧ ∃ y : After W, w' = y.1 := fun z => z.call ((signName _ _).mono fun e w' h => ⟨by rw [h.1, Hn.out], h.2⟩)
              refine wp_region_after (by kernel_rfl) (by kernel_rfl) ?_
              repeat (go_big_quiet_step (exact hcl _))
              refine wpQuiet_nil ?_
              rintro _ ⟨⟨w7, c7⟩, rfl⟩
              try clear hx1 hx2
              clear hcl hx0
              clear hwl
              have k7 := kx.ext c7
              have z1 := k7.cell 1 _ rfl
              have z2 := k7.cell 2 _ rfl
              have hb7 := hbe.trans (c7.mono hbe.size)
              go_wp2_with fail
              go_roundw
              case rel => exact ⟨0 + 1, some x.name, by omega, by go_num, hnx.out Hq.out, .inr ⟨0, hlt, rfl, by rw [Hx.out]⟩, hb7⟩
              case measure => simp [intOf]; omega
        · obtain ⟨e0, _⟩ := srs4 hvr hjl
          have hw : IntKind.i64.wrap ((j : Int) + 1 - 1) = (j : Int) := by rw [IntKind.wrap_i64]; omega
          have hj0 : (0 : Int) ≤ (j : Int) := by omega
          have hjl2 : (j : Int) < (l.length : Int) := by omega
          generalize hx : l[j + 1] = x at *
          generalize hy : l[j].name = y at *
          have Hx := Lib.hid hx
          clear hx hv hvr hy
          have hb1 := below_alloc wr (.cells #[.string x.name, .int .i64 x.next, .int .i64 x.limit, .bool x.shut] 66)
          have kx := Blk.new wr #[.string x.name, .int .i64 x.next, .int .i64 x.limit, .bool x.shut] 66
          have x0 := kx.cell 0 _ rfl
          have y0 : (wr.alloc (.cells #[.string x.name, .int .i64 x.next, .int .i64 x.limit, .bool x.shut] 66)).cell? ⟨b, off + j * 4, none⟩ = some (.string y) := by rw [hb1.cell (p := ⟨b, off + j * 4, none⟩) hbb]; exact e0
          go_wp2_with fail
          generalize hW : wr.alloc (.cells #[.string x.name, .int .i64 x.next, .int .i64 x.limit, .bool x.shut] 66) = W at *
          have hxl : wr.heap.size < W.heap.size := kx.lt
          have hbl : b < W.heap.size := by have := hb1.size; omega
          have hbe := hb.trans (hb1.mono hb.size)
          clear hW hb1 hb
          cases hn : nameB x.name with
          | false =>
            have Hn := Lib.hid hn
            have Hq := Lib.hid (okR_name (p := some y) hn)
            clear hn
            have hx0 : ∀ z : After W, z.1.cell? ⟨wr.heap.size, 0, none⟩ = some (.string x.name) := fun z => (kx.ext z.2).cell 0 _ rfl
            have hy0 : ∀ z : After W, z.1.cell? ⟨b, off + j * 4, none⟩ = some (.string y) := fun z => (z.2.cell (p := ⟨b, off + j * 4, none⟩) hbl).trans y0
            have hcl : ∀ z : After W, Calls Try.prog 45 #[.string x.name] z.1 fun e w' => e = .returned (.bool false) ∧ ∃ y : After W, w' = y.1 := fun z => z.call ((signName _ _).mono fun e w' h => ⟨by rw [h.1, Hn.out], h.2⟩)
            refine wp_region_after (by kernel_rfl) (by kernel_rfl) ?_
            repeat (go_big_quiet_step (exact hcl _))
            refine wpQuiet_nil ?_
            rintro _ ⟨⟨w7, c7⟩, rfl⟩
            try clear hx1 hx2
            clear hcl hx0 hy0
            have hb7 := hbe.trans (c7.mono hbe.size)
            go_wp2_with fail
            go_ret
            exact ⟨ret_bool (hno.out Hq.out).symm, hb7⟩
          | true =>
            have Hn := Lib.hid hn
            cases hlt2 : ltS y x.name with
            | false =>
              have hbl2 : Op.bytesLess y.toList x.name.toList = false := hlt2
              have Hq := Lib.hid (okR_ahead (p := some y) (s := x) hlt2)
              clear hlt2 hn
              have hx0 : ∀ z : After W, z.1.cell? ⟨wr.heap.size, 0, none⟩ = some (.string x.name) := fun z => (kx.ext z.2).cell 0 _ rfl
              have hy0 : ∀ z : After W, z.1.cell? ⟨b, off + j * 4, none⟩ = some (.string y) := fun z => (z.2.cell (p := ⟨b, off + j * 4, none⟩) hbl).trans y0
              have hcl : ∀ z : After W, Calls Try.prog 45 #[.string x.name] z.1 fun e w' => e = .returned (.bool true) ∧ ∃ y : After W, w' = y.1 := fun z => z.call ((signName _ _).mono fun e w' h => ⟨by rw [h.1, Hn.out], h.2⟩)
              refine wp_region_after (by kernel_rfl) (by kernel_rfl) ?_
              repeat (go_big_quiet_step (exact hcl _))
              refine wpQuiet_nil ?_
              rintro _ ⟨⟨w7, c7⟩, rfl⟩
              try clear hx1 hx2
              clear hcl hx0 hy0
              have hb7 := hbe.trans (c7.mono hbe.size)
              go_wp2_with fail
              go_ret
              exact ⟨ret_bool (hno.out Hq.out).symm, hb7⟩
            | true =>
              have hbl2 : Op.bytesLess y.toList x.name.toList = true := hlt2
              rcases numR_cases x with ⟨hq, t1⟩ | ⟨hq, t1, t2⟩ | ⟨hq, t1, t2, t3⟩ | ⟨hq, t1, t2, t3, t4⟩ | ⟨hq, t1, t2, t3, t4⟩
              · have Hq := Lib.hid (okR_num (p := some y) hq)
                clear hq hn hlt2
                have d1 : decide (x.limit < 1) = true := by simp; omega
                have hx0 : ∀ z : After W, z.1.cell? ⟨wr.heap.size, 0, none⟩ = some (.string x.name) := fun z => (kx.ext z.2).cell 0 _ rfl
                have hy0 : ∀ z : After W, z.1.cell? ⟨b, off + j * 4, none⟩ = some (.string y) := fun z => (z.2.cell (p := ⟨b, off + j * 4, none⟩) hbl).trans y0
                have hcl : ∀ z : After W, Calls Try.prog 45 #[.string x.name] z.1 fun e w' => e = .returned (.bool true) ∧ ∃ y : After W, w' = y.1 := fun z => z.call ((signName _ _).mono fun e w' h => ⟨by rw [h.1, Hn.out], h.2⟩)
                refine wp_region_after (by kernel_rfl) (by kernel_rfl) ?_
                repeat (go_big_quiet_step (exact hcl _))
                refine wpQuiet_nil ?_
                rintro _ ⟨⟨w7, c7⟩, rfl⟩
                try clear hx1 hx2
                clear hcl hx0 hy0
                have k7 := kx.ext c7
                have z1 := k7.cell 1 _ rfl
                have z2 := k7.cell 2 _ rfl
                have hb7 := hbe.trans (c7.mono hbe.size)
                go_wp2_with fail
                go_ret
                exact ⟨ret_bool (hno.out Hq.out).symm, hb7⟩
              · have Hq := Lib.hid (okR_num (p := some y) hq)
                clear hq hn hlt2
                have d1 : decide (x.limit < 1) = false := by simp; omega
                have d2 : decide (1099511627776 < x.limit) = true := by simp; omega
                have hx0 : ∀ z : After W, z.1.cell? ⟨wr.heap.size, 0, none⟩ = some (.string x.name) := fun z => (kx.ext z.2).cell 0 _ rfl
                have hy0 : ∀ z : After W, z.1.cell? ⟨b, off + j * 4, none⟩ = some (.string y) := fun z => (z.2.cell (p := ⟨b, off + j * 4, none⟩) hbl).trans y0
                have hcl : ∀ z : After W, Calls Try.prog 45 #[.string x.name] z.1 fun e w' => e = .returned (.bool true) ∧ ∃ y : After W, w' = y.1 := fun z => z.call ((signName _ _).mono fun e w' h => ⟨by rw [h.1, Hn.out], h.2⟩)
                refine wp_region_after (by kernel_rfl) (by kernel_rfl) ?_
                repeat (go_big_quiet_step (exact hcl _))
                refine wpQuiet_nil ?_
                rintro _ ⟨⟨w7, c7⟩, rfl⟩
                try clear hx1 hx2
                clear hcl hx0 hy0
                have k7 := kx.ext c7
                have z1 := k7.cell 1 _ rfl
                have z2 := k7.cell 2 _ rfl
                have hb7 := hbe.trans (c7.mono hbe.size)
                go_wp2_with fail
                go_ret
                exact ⟨ret_bool (hno.out Hq.out).symm, hb7⟩
              · have Hq := Lib.hid (okR_num (p := some y) hq)
                clear hq hn hlt2
                have hwl : IntKind.i64.wrap (x.limit + 1) = x.limit + 1 := by rw [IntKind.wrap_i64]; omega
                have d1 : decide (x.limit < 1) = false := by simp; omega
                have d2 : decide (1099511627776 < x.limit) = false := by simp; omega
                have d3 : decide (x.next < 1) = true := by simp; omega
                have hx0 : ∀ z : After W, z.1.cell? ⟨wr.heap.size, 0, none⟩ = some (.string x.name) := fun z => (kx.ext z.2).cell 0 _ rfl
                have hy0 : ∀ z : After W, z.1.cell? ⟨b, off + j * 4, none⟩ = some (.string y) := fun z => (z.2.cell (p := ⟨b, off + j * 4, none⟩) hbl).trans y0
                have hcl : ∀ z : After W, Calls Try.prog 45 #[.string x.name] z.1 fun e w' => e = .returned (.bool true) ∧ ∃ y : After W, w' = y.1 := fun z => z.call ((signName _ _).mono fun e w' h => ⟨by rw [h.1, Hn.out], h.2⟩)
                refine wp_region_after (by kernel_rfl) (by kernel_rfl) ?_
                repeat (go_big_quiet_step (exact hcl _))
                refine wpQuiet_nil ?_
                rintro _ ⟨⟨w7, c7⟩, rfl⟩
                try clear hx1 hx2
                clear hcl hx0 hy0
                clear hwl
                have k7 := kx.ext c7
                have z1 := k7.cell 1 _ rfl
                have z2 := k7.cell 2 _ rfl
                have hb7 := hbe.trans (c7.mono hbe.size)
                go_wp2_with fail
                go_ret
                exact ⟨ret_bool (hno.out Hq.out).symm, hb7⟩
              · have Hq := Lib.hid (okR_num (p := some y) hq)
                clear hq hn hlt2
                have hwl : IntKind.i64.wrap (x.limit + 1) = x.limit + 1 := by rw [IntKind.wrap_i64]; omega
                have d1 : decide (x.limit < 1) = false := by simp; omega
                have d2 : decide (1099511627776 < x.limit) = false := by simp; omega
                have d3 : decide (x.next < 1) = false := by simp; omega
                have d4 : decide (x.limit + 1 < x.next) = true := by simp; omega
                have hx0 : ∀ z : After W, z.1.cell? ⟨wr.heap.size, 0, none⟩ = some (.string x.name) := fun z => (kx.ext z.2).cell 0 _ rfl
                have hy0 : ∀ z : After W, z.1.cell? ⟨b, off + j * 4, none⟩ = some (.string y) := fun z => (z.2.cell (p := ⟨b, off + j * 4, none⟩) hbl).trans y0
                have hcl : ∀ z : After W, Calls Try.prog 45 #[.string x.name] z.1 fun e w' => e = .returned (.bool true) ∧ ∃ y : After W, w' = y.1 := fun z => z.call ((signName _ _).mono fun e w' h => ⟨by rw [h.1, Hn.out], h.2⟩)
                refine wp_region_after (by kernel_rfl) (by kernel_rfl) ?_
                repeat (go_big_quiet_step (exact hcl _))
                refine wpQuiet_nil ?_
                rintro _ ⟨⟨w7, c7⟩, rfl⟩
                try clear hx1 hx2
                clear hcl hx0 hy0
                clear hwl
                have k7 := kx.ext c7
                have z1 := k7.cell 1 _ rfl
                have z2 := k7.cell 2 _ rfl
                have hb7 := hbe.trans (c7.mono hbe.size)
                go_wp2_with fail
                go_ret
                exact ⟨ret_bool (hno.out Hq.out).symm, hb7⟩
              · have Hq := Lib.hid (okR_yes (p := some y) hn hlt2 hq)
                clear hq hn hlt2
                have hwl : IntKind.i64.wrap (x.limit + 1) = x.limit + 1 := by rw [IntKind.wrap_i64]; omega
                have d1 : decide (x.limit < 1) = false := by simp; omega
                have d2 : decide (1099511627776 < x.limit) = false := by simp; omega
                have d3 : decide (x.next < 1) = false := by simp; omega
                have d4 : decide (x.limit + 1 < x.next) = false := by simp; omega
                have hx0 : ∀ z : After W, z.1.cell? ⟨wr.heap.size, 0, none⟩ = some (.string x.name) := fun z => (kx.ext z.2).cell 0 _ rfl
                have hy0 : ∀ z : After W, z.1.cell? ⟨b, off + j * 4, none⟩ = some (.string y) := fun z => (z.2.cell (p := ⟨b, off + j * 4, none⟩) hbl).trans y0
                have hcl : ∀ z : After W, Calls Try.prog 45 #[.string x.name] z.1 fun e w' => e = .returned (.bool true) ∧ ∃ y : After W, w' = y.1 := fun z => z.call ((signName _ _).mono fun e w' h => ⟨by rw [h.1, Hn.out], h.2⟩)
                refine wp_region_after (by kernel_rfl) (by kernel_rfl) ?_
                repeat (go_big_quiet_step (exact hcl _))
                refine wpQuiet_nil ?_
                rintro _ ⟨⟨w7, c7⟩, rfl⟩
                try clear hx1 hx2
                clear hcl hx0 hy0
                clear hwl
                have k7 := kx.ext c7
                have z1 := k7.cell 1 _ rfl
                have z2 := k7.cell 2 _ rfl
                have hb7 := hbe.trans (c7.mono hbe.size)
                go_wp2_with fail
                go_roundw
                case rel => exact ⟨j + 1 + 1, some x.name, by omega, by go_num, hnx.out Hq.out, .inr ⟨j + 1, hlt, rfl, by rw [Hx.out]⟩, hb7⟩
                case measure => simp [intOf]; omega
      · have hi : ¬ (k : Int) < (l.length : Int) := by omega
        go_wp2
        go_ret
        exact ⟨ret_bool (rightR_end hch.out (by omega) (by omega)).symm, hb⟩

set_option maxHeartbeats 8000000 in
set_option maxRecDepth 100000 in
theorem srsRefRight (v : Value) (l : List Srs) (w : World) (hv : Rd srsE w v l) :
    Calls Try.prog 37 #[v] w fun e w' => e = .returned (.bool (rightR l)) ∧ Below w.heap.size w w' := by
  obtain ⟨p, cap, rfl, h1, h2, h3, h4⟩ := hv.form
  clear h3 h4
  unfold maxLen at h2
  by_cases h8 : 8 < l.length
  · have h8' : (8 : Int) < (l.length : Int) := by omega
    go_enter Try.func37, Try.ntmps37
    go_wp2
    go_ret
    exact ⟨ret_bool (rightR_long h8).symm, Below.refl _ _⟩
  · have h8' : ¬ (8 : Int) < (l.length : Int) := by omega
    go_enter Try.func37, Try.ntmps37
    go_wp2
    go_loopw [3] (fun i wr => ∃ (k : Nat) (p : Option ByteArray), k ≤ l.length ∧ i = .int .i64 k ∧ Hid (chainR none l = chainR p (l.drop k)) ∧ ((k = 0 ∧ p = none) ∨ ∃ (j : Nat) (h : j < l.length), k = j + 1 ∧ p = some l[j].name) ∧ Below w.heap.size w wr) (fun i _ => l.length - (intOf i).toNat)
    case atStart => exact ⟨0, none, by omega, rfl, rfl, .inl ⟨rfl, rfl⟩, Below.refl _ _⟩
    case round =>
      obtain ⟨k, q, hk, rfl, hch, hpr, hb⟩ := hrel
      by_cases hlt : k < l.length
      · obtain ⟨b, off, rfl⟩ := Rd.blk hv (by omega)
        have hvr := hv.ext hb
        obtain ⟨c0, c1, c2, c3⟩ := srs4 hvr hlt
        have hi : (k : Int) < (l.length : Int) := by omega
        have hi0 : (0 : Int) ≤ (k : Int) := by omega
        have hno := Lib.hid (fun h => rightR_no hch.out hlt h)
        have hnx := Lib.hid (fun h => rightR_next hch.out hlt h)
        have hbb : b < wr.heap.size := World.block_lt_of_cell? wr _ c0
        rcases hpr with ⟨rfl, rfl⟩ | ⟨j, hjl, rfl, rfl⟩
        · simp only [Nat.zero_mul, Nat.add_zero] at c0 c1 c2 c3
          generalize hx : l[0] = x at *
          have Hx := Lib.hid hx
          clear hx hv hvr
          have hb1 := below_alloc wr (.cells #[.string x.name, .int .i64 x.next, .int .i64 x.limit, .bool x.shut] 66)
          have kx := Blk.new wr #[.string x.name, .int .i64 x.next, .int .i64 x.limit, .bool x.shut] 66
          have x0 := kx.cell 0 _ rfl
          have x1 := kx.cell 1 _ rfl
          have x2 := kx.cell 2 _ rfl
          go_wp2_with fail
          generalize hW : wr.alloc (.cells #[.string x.name, .int .i64 x.next, .int .i64 x.limit, .bool x.shut] 66) = W at *
          have hxl : wr.heap.size < W.heap.size := kx.lt
          have hbl : b < W.heap.size := by have := hb1.size; omega
          have hbe := hb.trans (hb1.mono hb.size)
          clear hW hb1 hb
          cases hn : nameB x.name with
          | false =>
            have Hn := Lib.hid hn
            have Hq := Lib.hid (okR_name (p := none) hn)
            clear hn
            have hx0 : ∀ z : After W, z.1.cell? ⟨wr.heap.size, 0, none⟩ = some (.string x.name) := fun z => (kx.ext z.2).cell 0 _ rfl
            have hx1 : ∀ z : After W, z.1.cell? ⟨wr.heap.size, 1, none⟩ = some (.int .i64 x.next) := fun z => (kx.ext z.2).cell 1 _ rfl
            have hx2 : ∀ z : After W, z.1.cell? ⟨wr.heap.size, 2, none⟩ = some (.int .i64 x.limit) := fun z => (kx.ext z.2).cell 2 _ rfl
            have hcl : ∀ z : After W, Calls Try.prog 50 #[.string x.name] z.1 fun e w' => e = .returned (.bool false) ∧ ∃ y : After W, w' = y.1 := fun z => z.call ((refName _ _).mono fun e w' h => ⟨by rw [h.1, Hn.out], h.2⟩)
            refine wp_region_after (by kernel_rfl) (by kernel_rfl) ?_
            repeat (go_big_quiet_step (exact hcl _))
            refine wpQuiet_nil ?_
            rintro _ ⟨⟨w7, c7⟩, rfl⟩
            try clear hx1 hx2
            clear hcl hx0
            have hb7 := hbe.trans (c7.mono hbe.size)
            go_wp2_with fail
            go_ret
            exact ⟨ret_bool (hno.out Hq.out).symm, hb7⟩
          | true =>
            have Hn := Lib.hid hn
            rcases numR_cases x with ⟨hq, t1⟩ | ⟨hq, t1, t2⟩ | ⟨hq, t1, t2, t3⟩ | ⟨hq, t1, t2, t3, t4⟩ | ⟨hq, t1, t2, t3, t4⟩
            · have Hq := Lib.hid (okR_num (p := none) hq)
              clear hq hn
              have d1 : decide (x.limit < 1) = true := by simp; omega
              have hx0 : ∀ z : After W, z.1.cell? ⟨wr.heap.size, 0, none⟩ = some (.string x.name) := fun z => (kx.ext z.2).cell 0 _ rfl
              have hx1 : ∀ z : After W, z.1.cell? ⟨wr.heap.size, 1, none⟩ = some (.int .i64 x.next) := fun z => (kx.ext z.2).cell 1 _ rfl
              have hx2 : ∀ z : After W, z.1.cell? ⟨wr.heap.size, 2, none⟩ = some (.int .i64 x.limit) := fun z => (kx.ext z.2).cell 2 _ rfl
              have hcl : ∀ z : After W, Calls Try.prog 50 #[.string x.name] z.1 fun e w' => e = .returned (.bool true) ∧ ∃ y : After W, w' = y.1 := fun z => z.call ((refName _ _).mono fun e w' h => ⟨by rw [h.1, Hn.out], h.2⟩)
              refine wp_region_after (by kernel_rfl) (by kernel_rfl) ?_
              repeat (go_big_quiet_step (exact hcl _))
              refine wpQuiet_nil ?_
              rintro _ ⟨⟨w7, c7⟩, rfl⟩
              try clear hx1 hx2
              clear hcl hx0
              have hb7 := hbe.trans (c7.mono hbe.size)
              go_wp2_with fail
              go_ret
              exact ⟨ret_bool (hno.out Hq.out).symm, hb7⟩
            · have Hq := Lib.hid (okR_num (p := none) hq)
              clear hq hn
              have d1 : decide (x.limit < 1) = false := by simp; omega
              have d2 : decide (1099511627776 < x.limit) = true := by simp; omega
              have hx0 : ∀ z : After W, z.1.cell? ⟨wr.heap.size, 0, none⟩ = some (.string x.name) := fun z => (kx.ext z.2).cell 0 _ rfl
              have hx1 : ∀ z : After W, z.1.cell? ⟨wr.heap.size, 1, none⟩ = some (.int .i64 x.next) := fun z => (kx.ext z.2).cell 1 _ rfl
              have hx2 : ∀ z : After W, z.1.cell? ⟨wr.heap.size, 2, none⟩ = some (.int .i64 x.limit) := fun z => (kx.ext z.2).cell 2 _ rfl
              have hcl : ∀ z : After W, Calls Try.prog 50 #[.string x.name] z.1 fun e w' => e = .returned (.bool true) ∧ ∃ y : After W, w' = y.1 := fun z => z.call ((refName _ _).mono fun e w' h => ⟨by rw [h.1, Hn.out], h.2⟩)
              refine wp_region_after (by kernel_rfl) (by kernel_rfl) ?_
              repeat (go_big_quiet_step (exact hcl _))
              refine wpQuiet_nil ?_
              rintro _ ⟨⟨w7, c7⟩, rfl⟩
              try clear hx1 hx2
              clear hcl hx0
              have hb7 := hbe.trans (c7.mono hbe.size)
              go_wp2_with fail
              go_ret
              exact ⟨ret_bool (hno.out Hq.out).symm, hb7⟩
            · have Hq := Lib.hid (okR_num (p := none) hq)
              clear hq hn
              have hwl : IntKind.i64.wrap (x.limit + 1) = x.limit + 1 := by rw [IntKind.wrap_i64]; omega
              have d1 : decide (x.limit < 1) = false := by simp; omega
              have d2 : decide (1099511627776 < x.limit) = false := by simp; omega
              have d3 : decide (x.next < 1) = true := by simp; omega
              have hx0 : ∀ z : After W, z.1.cell? ⟨wr.heap.size, 0, none⟩ = some (.string x.name) := fun z => (kx.ext z.2).cell 0 _ rfl
              have hx1 : ∀ z : After W, z.1.cell? ⟨wr.heap.size, 1, none⟩ = some (.int .i64 x.next) := fun z => (kx.ext z.2).cell 1 _ rfl
              have hx2 : ∀ z : After W, z.1.cell? ⟨wr.heap.size, 2, none⟩ = some (.int .i64 x.limit) := fun z => (kx.ext z.2).cell 2 _ rfl
              have hcl : ∀ z : After W, Calls Try.prog 50 #[.string x.name] z.1 fun e w' => e = .returned (.bool true) ∧ ∃ y : After W, w' = y.1 := fun z => z.call ((refName _ _).mono fun e w' h => ⟨by rw [h.1, Hn.out], h.2⟩)
              refine wp_region_after (by kernel_rfl) (by kernel_rfl) ?_
              repeat (go_big_quiet_step (exact hcl _))
              refine wpQuiet_nil ?_
              rintro _ ⟨⟨w7, c7⟩, rfl⟩
              try clear hx1 hx2
              clear hcl hx0
              clear hwl
              have hb7 := hbe.trans (c7.mono hbe.size)
              go_wp2_with fail
              go_ret
              exact ⟨ret_bool (hno.out Hq.out).symm, hb7⟩
            · have Hq := Lib.hid (okR_num (p := none) hq)
              clear hq hn
              have hwl : IntKind.i64.wrap (x.limit + 1) = x.limit + 1 := by rw [IntKind.wrap_i64]; omega
              have d1 : decide (x.limit < 1) = false := by simp; omega
              have d2 : decide (1099511627776 < x.limit) = false := by simp; omega
              have d3 : decide (x.next < 1) = false := by simp; omega
              have d4 : decide (x.limit + 1 < x.next) = true := by simp; omega
              have hx0 : ∀ z : After W, z.1.cell? ⟨wr.heap.size, 0, none⟩ = some (.string x.name) := fun z => (kx.ext z.2).cell 0 _ rfl
              have hx1 : ∀ z : After W, z.1.cell? ⟨wr.heap.size, 1, none⟩ = some (.int .i64 x.next) := fun z => (kx.ext z.2).cell 1 _ rfl
              have hx2 : ∀ z : After W, z.1.cell? ⟨wr.heap.size, 2, none⟩ = some (.int .i64 x.limit) := fun z => (kx.ext z.2).cell 2 _ rfl
              have hcl : ∀ z : After W, Calls Try.prog 50 #[.string x.name] z.1 fun e w' => e = .returned (.bool true) ∧ ∃ y : After W, w' = y.1 := fun z => z.call ((refName _ _).mono fun e w' h => ⟨by rw [h.1, Hn.out], h.2⟩)
              refine wp_region_after (by kernel_rfl) (by kernel_rfl) ?_
              repeat (go_big_quiet_step (exact hcl _))
              refine wpQuiet_nil ?_
              rintro _ ⟨⟨w7, c7⟩, rfl⟩
              try clear hx1 hx2
              clear hcl hx0
              clear hwl
              have hb7 := hbe.trans (c7.mono hbe.size)
              go_wp2_with fail
              go_ret
              exact ⟨ret_bool (hno.out Hq.out).symm, hb7⟩
            · have Hq := Lib.hid (okR_yes (p := none) hn rfl hq)
              clear hq hn
              have hwl : IntKind.i64.wrap (x.limit + 1) = x.limit + 1 := by rw [IntKind.wrap_i64]; omega
              have d1 : decide (x.limit < 1) = false := by simp; omega
              have d2 : decide (1099511627776 < x.limit) = false := by simp; omega
              have d3 : decide (x.next < 1) = false := by simp; omega
              have d4 : decide (x.limit + 1 < x.next) = false := by simp; omega
              have hx0 : ∀ z : After W, z.1.cell? ⟨wr.heap.size, 0, none⟩ = some (.string x.name) := fun z => (kx.ext z.2).cell 0 _ rfl
              have hx1 : ∀ z : After W, z.1.cell? ⟨wr.heap.size, 1, none⟩ = some (.int .i64 x.next) := fun z => (kx.ext z.2).cell 1 _ rfl
              have hx2 : ∀ z : After W, z.1.cell? ⟨wr.heap.size, 2, none⟩ = some (.int .i64 x.limit) := fun z => (kx.ext z.2).cell 2 _ rfl
              have hcl : ∀ z : After W, Calls Try.prog 50 #[.string x.name] z.1 fun e w' => e = .returned (.bool true) ∧ ∃ y : After W, w' = y.1 := fun z => z.call ((refName _ _).mono fun e w' h => ⟨by rw [h.1, Hn.out], h.2⟩)
              refine wp_region_after (by kernel_rfl) (by kernel_rfl) ?_
              repeat (go_big_quiet_step (exact hcl _))
              refine wpQuiet_nil ?_
              rintro _ ⟨⟨w7, c7⟩, rfl⟩
              try clear hx1 hx2
              clear hcl hx0
              clear hwl
              have hb7 := hbe.trans (c7.mono hbe.size)
              go_wp2_with fail
              go_roundw
              case rel => exact ⟨0 + 1, some x.name, by omega, by go_num, hnx.out Hq.out, .inr ⟨0, hlt, rfl, by rw [Hx.out]⟩, hb7⟩
              case measure => simp [intOf]; omega
        · obtain ⟨e0, _⟩ := srs4 hvr hjl
          have hw : IntKind.i64.wrap ((j : Int) + 1 - 1) = (j : Int) := by rw [IntKind.wrap_i64]; omega
          have hj0 : (0 : Int) ≤ (j : Int) := by omega
          have hjl2 : (j : Int) < (l.length : Int) := by omega
          generalize hx : l[j + 1] = x at *
          generalize hy : l[j].name = y at *
          have Hx := Lib.hid hx
          clear hx hv hvr hy
          have hb1 := below_alloc wr (.cells #[.string x.name, .int .i64 x.next, .int .i64 x.limit, .bool x.shut] 66)
          have kx := Blk.new wr #[.string x.name, .int .i64 x.next, .int .i64 x.limit, .bool x.shut] 66
          have x0 := kx.cell 0 _ rfl
          have y0 : (wr.alloc (.cells #[.string x.name, .int .i64 x.next, .int .i64 x.limit, .bool x.shut] 66)).cell? ⟨b, off + j * 4, none⟩ = some (.string y) := by rw [hb1.cell (p := ⟨b, off + j * 4, none⟩) hbb]; exact e0
          have x1 := kx.cell 1 _ rfl
          have x2 := kx.cell 2 _ rfl
          go_wp2_with fail
          generalize hW : wr.alloc (.cells #[.string x.name, .int .i64 x.next, .int .i64 x.limit, .bool x.shut] 66) = W at *
          have hxl : wr.heap.size < W.heap.size := kx.lt
          have hbl : b < W.heap.size := by have := hb1.size; omega
          have hbe := hb.trans (hb1.mono hb.size)
          clear hW hb1 hb
          cases hn : nameB x.name with
          | false =>
            have Hn := Lib.hid hn
            have Hq := Lib.hid (okR_name (p := some y) hn)
            clear hn
            have hx0 : ∀ z : After W, z.1.cell? ⟨wr.heap.size, 0, none⟩ = some (.string x.name) := fun z => (kx.ext z.2).cell 0 _ rfl
            have hx1 : ∀ z : After W, z.1.cell? ⟨wr.heap.size, 1, none⟩ = some (.int .i64 x.next) := fun z => (kx.ext z.2).cell 1 _ rfl
            have hx2 : ∀ z : After W, z.1.cell? ⟨wr.heap.size, 2, none⟩ = some (.int .i64 x.limit) := fun z => (kx.ext z.2).cell 2 _ rfl
            have hy0 : ∀ z : After W, z.1.cell? ⟨b, off + j * 4, none⟩ = some (.string y) := fun z => (z.2.cell (p := ⟨b, off + j * 4, none⟩) hbl).trans y0
            have hcl : ∀ z : After W, Calls Try.prog 50 #[.string x.name] z.1 fun e w' => e = .returned (.bool false) ∧ ∃ y : After W, w' = y.1 := fun z => z.call ((refName _ _).mono fun e w' h => ⟨by rw [h.1, Hn.out], h.2⟩)
            refine wp_region_after (by kernel_rfl) (by kernel_rfl) ?_
            repeat (go_big_quiet_step (exact hcl _))
            refine wpQuiet_nil ?_
            rintro _ ⟨⟨w7, c7⟩, rfl⟩
            try clear hx1 hx2
            clear hcl hx0 hy0
            have hb7 := hbe.trans (c7.mono hbe.size)
            go_wp2_with fail
            go_ret
            exact ⟨ret_bool (hno.out Hq.out).symm, hb7⟩
          | true =>
            have Hn := Lib.hid hn
            cases hlt2 : ltS y x.name with
            | false =>
              have hbl2 : Op.bytesLess y.toList x.name.toList = false := hlt2
              have Hq := Lib.hid (okR_ahead (p := some y) (s := x) hlt2)
              clear hlt2 hn
              have hx0 : ∀ z : After W, z.1.cell? ⟨wr.heap.size, 0, none⟩ = some (.string x.name) := fun z => (kx.ext z.2).cell 0 _ rfl
              have hx1 : ∀ z : After W, z.1.cell? ⟨wr.heap.size, 1, none⟩ = some (.int .i64 x.next) := fun z => (kx.ext z.2).cell 1 _ rfl
              have hx2 : ∀ z : After W, z.1.cell? ⟨wr.heap.size, 2, none⟩ = some (.int .i64 x.limit) := fun z => (kx.ext z.2).cell 2 _ rfl
              have hy0 : ∀ z : After W, z.1.cell? ⟨b, off + j * 4, none⟩ = some (.string y) := fun z => (z.2.cell (p := ⟨b, off + j * 4, none⟩) hbl).trans y0
              have hcl : ∀ z : After W, Calls Try.prog 50 #[.string x.name] z.1 fun e w' => e = .returned (.bool true) ∧ ∃ y : After W, w' = y.1 := fun z => z.call ((refName _ _).mono fun e w' h => ⟨by rw [h.1, Hn.out], h.2⟩)
              refine wp_region_after (by kernel_rfl) (by kernel_rfl) ?_
              repeat (go_big_quiet_step (exact hcl _))
              refine wpQuiet_nil ?_
              rintro _ ⟨⟨w7, c7⟩, rfl⟩
              try clear hx1 hx2
              clear hcl hx0 hy0
              have hb7 := hbe.trans (c7.mono hbe.size)
              go_wp2_with fail
              go_ret
              exact ⟨ret_bool (hno.out Hq.out).symm, hb7⟩
            | true =>
              have hbl2 : Op.bytesLess y.toList x.name.toList = true := hlt2
              rcases numR_cases x with ⟨hq, t1⟩ | ⟨hq, t1, t2⟩ | ⟨hq, t1, t2, t3⟩ | ⟨hq, t1, t2, t3, t4⟩ | ⟨hq, t1, t2, t3, t4⟩
              · have Hq := Lib.hid (okR_num (p := some y) hq)
                clear hq hn hlt2
                have d1 : decide (x.limit < 1) = true := by simp; omega
                have hx0 : ∀ z : After W, z.1.cell? ⟨wr.heap.size, 0, none⟩ = some (.string x.name) := fun z => (kx.ext z.2).cell 0 _ rfl
                have hx1 : ∀ z : After W, z.1.cell? ⟨wr.heap.size, 1, none⟩ = some (.int .i64 x.next) := fun z => (kx.ext z.2).cell 1 _ rfl
                have hx2 : ∀ z : After W, z.1.cell? ⟨wr.heap.size, 2, none⟩ = some (.int .i64 x.limit) := fun z => (kx.ext z.2).cell 2 _ rfl
                have hy0 : ∀ z : After W, z.1.cell? ⟨b, off + j * 4, none⟩ = some (.string y) := fun z => (z.2.cell (p := ⟨b, off + j * 4, none⟩) hbl).trans y0
                have hcl : ∀ z : After W, Calls Try.prog 50 #[.string x.name] z.1 fun e w' => e = .returned (.bool true) ∧ ∃ y : After W, w' = y.1 := fun z => z.call ((refName _ _).mono fun e w' h => ⟨by rw [h.1, Hn.out], h.2⟩)
                refine wp_region_after (by kernel_rfl) (by kernel_rfl) ?_
                repeat (go_big_quiet_step (exact hcl _))
                refine wpQuiet_nil ?_
                rintro _ ⟨⟨w7, c7⟩, rfl⟩
                try clear hx1 hx2
                clear hcl hx0 hy0
                have hb7 := hbe.trans (c7.mono hbe.size)
                go_wp2_with fail
                go_ret
                exact ⟨ret_bool (hno.out Hq.out).symm, hb7⟩
              · have Hq := Lib.hid (okR_num (p := some y) hq)
                clear hq hn hlt2
                have d1 : decide (x.limit < 1) = false := by simp; omega
                have d2 : decide (1099511627776 < x.limit) = true := by simp; omega
                have hx0 : ∀ z : After W, z.1.cell? ⟨wr.heap.size, 0, none⟩ = some (.string x.name) := fun z => (kx.ext z.2).cell 0 _ rfl
                have hx1 : ∀ z : After W, z.1.cell? ⟨wr.heap.size, 1, none⟩ = some (.int .i64 x.next) := fun z => (kx.ext z.2).cell 1 _ rfl
                have hx2 : ∀ z : After W, z.1.cell? ⟨wr.heap.size, 2, none⟩ = some (.int .i64 x.limit) := fun z => (kx.ext z.2).cell 2 _ rfl
                have hy0 : ∀ z : After W, z.1.cell? ⟨b, off + j * 4, none⟩ = some (.string y) := fun z => (z.2.cell (p := ⟨b, off + j * 4, none⟩) hbl).trans y0
                have hcl : ∀ z : After W, Calls Try.prog 50 #[.string x.name] z.1 fun e w' => e = .returned (.bool true) ∧ ∃ y : After W, w' = y.1 := fun z => z.call ((refName _ _).mono fun e w' h => ⟨by rw [h.1, Hn.out], h.2⟩)
                refine wp_region_after (by kernel_rfl) (by kernel_rfl) ?_
                repeat (go_big_quiet_step (exact hcl _))
                refine wpQuiet_nil ?_
                rintro _ ⟨⟨w7, c7⟩, rfl⟩
                try clear hx1 hx2
                clear hcl hx0 hy0
                have hb7 := hbe.trans (c7.mono hbe.size)
                go_wp2_with fail
                go_ret
                exact ⟨ret_bool (hno.out Hq.out).symm, hb7⟩
              · have Hq := Lib.hid (okR_num (p := some y) hq)
                clear hq hn hlt2
                have hwl : IntKind.i64.wrap (x.limit + 1) = x.limit + 1 := by rw [IntKind.wrap_i64]; omega
                have d1 : decide (x.limit < 1) = false := by simp; omega
                have d2 : decide (1099511627776 < x.limit) = false := by simp; omega
                have d3 : decide (x.next < 1) = true := by simp; omega
                have hx0 : ∀ z : After W, z.1.cell? ⟨wr.heap.size, 0, none⟩ = some (.string x.name) := fun z => (kx.ext z.2).cell 0 _ rfl
                have hx1 : ∀ z : After W, z.1.cell? ⟨wr.heap.size, 1, none⟩ = some (.int .i64 x.next) := fun z => (kx.ext z.2).cell 1 _ rfl
                have hx2 : ∀ z : After W, z.1.cell? ⟨wr.heap.size, 2, none⟩ = some (.int .i64 x.limit) := fun z => (kx.ext z.2).cell 2 _ rfl
                have hy0 : ∀ z : After W, z.1.cell? ⟨b, off + j * 4, none⟩ = some (.string y) := fun z => (z.2.cell (p := ⟨b, off + j * 4, none⟩) hbl).trans y0
                have hcl : ∀ z : After W, Calls Try.prog 50 #[.string x.name] z.1 fun e w' => e = .returned (.bool true) ∧ ∃ y : After W, w' = y.1 := fun z => z.call ((refName _ _).mono fun e w' h => ⟨by rw [h.1, Hn.out], h.2⟩)
                refine wp_region_after (by kernel_rfl) (by kernel_rfl) ?_
                repeat (go_big_quiet_step (exact hcl _))
                refine wpQuiet_nil ?_
                rintro _ ⟨⟨w7, c7⟩, rfl⟩
                try clear hx1 hx2
                clear hcl hx0 hy0
                clear hwl
                have hb7 := hbe.trans (c7.mono hbe.size)
                go_wp2_with fail
                go_ret
                exact ⟨ret_bool (hno.out Hq.out).symm, hb7⟩
              · have Hq := Lib.hid (okR_num (p := some y) hq)
                clear hq hn hlt2
                have hwl : IntKind.i64.wrap (x.limit + 1) = x.limit + 1 := by rw [IntKind.wrap_i64]; omega
                have d1 : decide (x.limit < 1) = false := by simp; omega
                have d2 : decide (1099511627776 < x.limit) = false := by simp; omega
                have d3 : decide (x.next < 1) = false := by simp; omega
                have d4 : decide (x.limit + 1 < x.next) = true := by simp; omega
                have hx0 : ∀ z : After W, z.1.cell? ⟨wr.heap.size, 0, none⟩ = some (.string x.name) := fun z => (kx.ext z.2).cell 0 _ rfl
                have hx1 : ∀ z : After W, z.1.cell? ⟨wr.heap.size, 1, none⟩ = some (.int .i64 x.next) := fun z => (kx.ext z.2).cell 1 _ rfl
                have hx2 : ∀ z : After W, z.1.cell? ⟨wr.heap.size, 2, none⟩ = some (.int .i64 x.limit) := fun z => (kx.ext z.2).cell 2 _ rfl
                have hy0 : ∀ z : After W, z.1.cell? ⟨b, off + j * 4, none⟩ = some (.string y) := fun z => (z.2.cell (p := ⟨b, off + j * 4, none⟩) hbl).trans y0
                have hcl : ∀ z : After W, Calls Try.prog 50 #[.string x.name] z.1 fun e w' => e = .returned (.bool true) ∧ ∃ y : After W, w' = y.1 := fun z => z.call ((refName _ _).mono fun e w' h => ⟨by rw [h.1, Hn.out], h.2⟩)
                refine wp_region_after (by kernel_rfl) (by kernel_rfl) ?_
                repeat (go_big_quiet_step (exact hcl _))
                refine wpQuiet_nil ?_
                rintro _ ⟨⟨w7, c7⟩, rfl⟩
                try clear hx1 hx2
                clear hcl hx0 hy0
                clear hwl
                have hb7 := hbe.trans (c7.mono hbe.size)
                go_wp2_with fail
                go_ret
                exact ⟨ret_bool (hno.out Hq.out).symm, hb7⟩
              · have Hq := Lib.hid (okR_yes (p := some y) hn hlt2 hq)
                clear hq hn hlt2
                have hwl : IntKind.i64.wrap (x.limit + 1) = x.limit + 1 := by rw [IntKind.wrap_i64]; omega
                have d1 : decide (x.limit < 1) = false := by simp; omega
                have d2 : decide (1099511627776 < x.limit) = false := by simp; omega
                have d3 : decide (x.next < 1) = false := by simp; omega
                have d4 : decide (x.limit + 1 < x.next) = false := by simp; omega
                have hx0 : ∀ z : After W, z.1.cell? ⟨wr.heap.size, 0, none⟩ = some (.string x.name) := fun z => (kx.ext z.2).cell 0 _ rfl
                have hx1 : ∀ z : After W, z.1.cell? ⟨wr.heap.size, 1, none⟩ = some (.int .i64 x.next) := fun z => (kx.ext z.2).cell 1 _ rfl
                have hx2 : ∀ z : After W, z.1.cell? ⟨wr.heap.size, 2, none⟩ = some (.int .i64 x.limit) := fun z => (kx.ext z.2).cell 2 _ rfl
                have hy0 : ∀ z : After W, z.1.cell? ⟨b, off + j * 4, none⟩ = some (.string y) := fun z => (z.2.cell (p := ⟨b, off + j * 4, none⟩) hbl).trans y0
                have hcl : ∀ z : After W, Calls Try.prog 50 #[.string x.name] z.1 fun e w' => e = .returned (.bool true) ∧ ∃ y : After W, w' = y.1 := fun z => z.call ((refName _ _).mono fun e w' h => ⟨by rw [h.1, Hn.out], h.2⟩)
                refine wp_region_after (by kernel_rfl) (by kernel_rfl) ?_
                repeat (go_big_quiet_step (exact hcl _))
                refine wpQuiet_nil ?_
                rintro _ ⟨⟨w7, c7⟩, rfl⟩
                try clear hx1 hx2
                clear hcl hx0 hy0
                clear hwl
                have hb7 := hbe.trans (c7.mono hbe.size)
                go_wp2_with fail
                go_roundw
                case rel => exact ⟨j + 1 + 1, some x.name, by omega, by go_num, hnx.out Hq.out, .inr ⟨j + 1, hlt, rfl, by rw [Hx.out]⟩, hb7⟩
                case measure => simp [intOf]; omega
      · have hi : ¬ (k : Int) < (l.length : Int) := by omega
        go_wp2
        go_ret
        exact ⟨ret_bool (rightR_end hch.out (by omega) (by omega)).symm, hb⟩
end Go.Proofs.Ytmchkhofcjgeaaa
