/- Walks of money.Show and impostref3.Show: an amount's text. -/
import Derived.Test.YtfimaamndcdofaaDoorFmtUint
import Derived.Test.YtfimaamndcdofaaDoorMoneyMul
import Derived.Deep.RegionHeld3
import Derived.Lib.ItoaLen
namespace Go.Proofs.YtfimaamndcdofaaDoor
open Go Go.RowKit Go.Shelf Go.Lib Go.Sort

namespace Mon
def two (u : Nat) : List UInt8 := [UInt8.ofNat (48 + u / 10 % 10), UInt8.ofNat (48 + u % 10)]
def texts (u : Nat) : List UInt8 := decDigits (u / 100) ++ 46 :: two u
def text (n : Int) : List UInt8 := if n < 0 then 45 :: texts n.natAbs else texts n.natAbs
end Mon

theorem conv_two (g cap : Nat) (x y : Int) (W : World) (h0 : W.cell? ⟨g, 0, none⟩ = some (.int .u8 x)) (h1 : W.cell? ⟨g, 1, none⟩ = some (.int .u8 y)) (hx : 0 ≤ x ∧ x < 256) (hy : 0 ≤ y ∧ y < 256) :
    (convert 42 9 (.slice (some ⟨g, 0, none⟩) 2 cap)).run Tryd.prog W = .ok (.string ⟨[UInt8.ofNat x.toNat, UInt8.ofNat y.toNat].toArray⟩) W := by
  apply run_convert_bytes_back (P := Tryd.prog) W 42 9 5 ⟨g, 0, none⟩ cap [UInt8.ofNat x.toNat, UInt8.ofNat y.toNat] Tryd.underlying42 Tryd.underlying5 Tryd.underlying9
  intro j hj
  match j, hj with
  | 0, _ => rw [add_plain]; rw [h0]; simp; omega
  | 1, _ => rw [add_plain]; rw [h1]; simp; omega

theorem tabIs_drew {P : Program} {w : World} {name : String} {k : IntKind} {zs : List Int} (h : TabIs P w name k zs) : TabIs P w.drew name k zs := h
theorem two_cells {w w3 : World} {x y : Value} {e : TypeId} (b : Below (w.alloc (.cells #[x, y] e)).drew.heap.size (w.alloc (.cells #[x, y] e)).drew w3) : w3.cell? ⟨w.heap.size, 0, none⟩ = some x ∧ w3.cell? ⟨w.heap.size, 1, none⟩ = some y := by
  constructor
  · rw [b.cell (by show _ < (w.alloc _).heap.size; simp)]
    show (w.alloc _).cell? _ = _
    rw [World.cell?_alloc_new]; rfl
  · rw [b.cell (by show _ < (w.alloc _).heap.size; simp)]
    show (w.alloc _).cell? _ = _
    rw [World.cell?_alloc_new]; rfl

theorem text_neg {n : Int} {u : Nat} (h : n < 0) (hu : Hid (n.natAbs = u)) : Mon.text n = 45 :: Mon.texts u := by unfold Mon.text; rw [if_pos h, hu.out]
theorem text_pos {n : Int} {u : Nat} (h : ¬ n < 0) (hu : Hid (n.natAbs = u)) : Mon.text n = Mon.texts u := by unfold Mon.text; rw [if_neg h, hu.out]

theorem cat_texts (q d1 d2 : Nat) : (({ data := (decDigits q).toArray } ++ { data := #[46] } ++ { data := #[48 + UInt8.ofNat d1, 48 + UInt8.ofNat d2] } : ByteArray)) =
    { data := (decDigits q ++ 46 :: [UInt8.ofNat (48 + (d1 : Int)).toNat, UInt8.ofNat (48 + (d2 : Int)).toNat]).toArray } := by
  rw [ByteArray.mk_append_mk, ByteArray.mk_append_mk]
  have e1 : (48 + (d1 : Int)).toNat = 48 + d1 := by omega
  have e2 : (48 + (d2 : Int)).toNat = 48 + d2 := by omega
  rw [e1, e2, UInt8.ofNat_add, UInt8.ofNat_add]
  simp

set_option maxHeartbeats 1000000 in
theorem moneyShow (n : Int) (w : World) (hn : Mon.fits n) (htab : TabIs Tryd.prog w "internal/strconv.uint64pow10" .u64 pow10Tab) :
    Calls Tryd.prog 10 #[.int .i64 n] w fun e w' => e = .returned (.string ⟨(Mon.text n).toArray⟩) ∧ Below w.heap.size w w' := by
  have hu : n.natAbs ≤ 9223372036854775808 := by unfold Mon.fits at hn; omega
  have hdl : ((decDigits (n.natAbs / 100)).length : Int) ≤ 8388608 := by rw [decDigits_length]; have := nDigits_le20 (n.natAbs / 100) (by omega); omega
  go_enter Tryd.func10, Tryd.ntmps10
  go_wp2_with fail
  with_reducible refine (moneySize n _ hn).mono ?_
  rintro e w' ⟨rfl, rfl⟩
  generalize hU : n.natAbs = u at *
  have HU := Lib.hid hU
  clear hU
  obtain ⟨q, hq⟩ : ∃ q, q = u / 100 := ⟨_, rfl⟩
  obtain ⟨m, hm⟩ : ∃ m, m = u / 10 := ⟨_, rfl⟩
  obtain ⟨d1, hd1⟩ : ∃ d, d = u / 10 % 10 := ⟨_, rfl⟩
  obtain ⟨d2, hd2⟩ : ∃ d, d = u % 10 := ⟨_, rfl⟩
  have e1 : (u : Int) / 100 = (q : Int) := by omega
  have e1' : (u : Int).tdiv 100 = (q : Int) := by rw [Int.tdiv_eq_ediv_of_nonneg (by omega)]; exact e1
  have e2 : (u : Int) / 10 = (m : Int) := by omega
  have e2' : (u : Int).tdiv 10 = (m : Int) := by rw [Int.tdiv_eq_ediv_of_nonneg (by omega)]; exact e2
  have e3 : (m : Int) % 10 = (d1 : Int) := by omega
  have e3' : (m : Int).tmod 10 = (d1 : Int) := by rw [Int.tmod_eq_emod_of_nonneg (by omega)]; exact e3
  have e4 : (u : Int) % 10 = (d2 : Int) := by omega
  have e4' : (u : Int).tmod 10 = (d2 : Int) := by rw [Int.tmod_eq_emod_of_nonneg (by omega)]; exact e4
  have l1 : d1 < 10 := by omega
  have l2 : d2 < 10 := by omega
  have e5 : IntKind.u64.wrap (48 + (d1 : Int)) = 48 + (d1 : Int) := by rw [IntKind.wrap_u64]; omega
  have e6 : IntKind.u64.wrap (48 + (d2 : Int)) = 48 + (d2 : Int) := by rw [IntKind.wrap_u64]; omega
  have e7 : IntKind.u8.wrap (48 + (d1 : Int)) = 48 + (d1 : Int) := by simp [IntKind.wrap, IntKind.bits, IntKind.signed]; omega
  have e8 : IntKind.u8.wrap (48 + (d2 : Int)) = 48 + (d2 : Int) := by simp [IntKind.wrap, IntKind.bits, IntKind.signed]; omega
  have e9 : IntKind.u64.wrap (q : Int) = (q : Int) := by rw [IntKind.wrap_u64]; omega
  have e10 : IntKind.u64.wrap (m : Int) = (m : Int) := by rw [IntKind.wrap_u64]; omega
  have b5 : (0 : Int) ≤ 48 + (d1 : Int) ∧ 48 + (d1 : Int) < 256 := by omega
  have b6 : (0 : Int) ≤ 48 + (d2 : Int) ∧ 48 + (d2 : Int) < 256 := by omega
  have hql : q < 18446744073709551616 := by omega
  have htx : Mon.texts u = decDigits q ++ 46 :: [UInt8.ofNat (48 + (d1 : Int)).toNat, UInt8.ofNat (48 + (d2 : Int)).toNat] := by
    unfold Mon.texts Mon.two
    rw [hq, show (48 + (d1 : Int)).toNat = 48 + u / 10 % 10 from by omega, show (48 + (d2 : Int)).toNat = 48 + u % 10 from by omega]
  rw [← hq] at hdl
  have Htx := Lib.hid htx
  clear htx hq hm hd1 hd2
  go_wp2_with fail
  have cv := fun (W : World) (g cap : Nat) h0 h1 => conv_two g cap (48 + (d1 : Int)) (48 + (d2 : Int)) W h0 h1 b5 b6
  go_region_with ((first
    | (go_at_call 24; (with_reducible refine (fmtUint q _ rfl hql _ (by first | exact htab | exact tabIs_drew htab | exact tabIs_drew (tabIs_alloc htab _) | exact tabIs_alloc (tabIs_drew htab) _)).mono ?_); (rintro e w3 ⟨rfl, b3⟩); (try (have c0 := (two_cells b3).1; have c1 := (two_cells b3).2)))))
  all_goals
    have hcat := Lib.hid (cat_texts q d1 d2)
    by_cases hneg : n < 0
    · have ht := Lib.hid (text_neg hneg HU)
      go_wp2
      go_ret
      refine ⟨by rw [ht.out, Htx.out, hcat.out, ByteArray.mk_append_mk]; rfl, ?_⟩
      first
        | exact ((below_drew w.heap.size w).trans b3).trans ((below_alloc w3 _).mono b3.size)
        | exact (((below_alloc w _).trans ((below_drew w.heap.size _)))).trans (b3.mono (by show _ ≤ (w.alloc _).heap.size; simp))
        | exact (((below_drew w.heap.size w).trans ((below_alloc w.drew _)))).trans (b3.mono (by show _ ≤ (w.drew.alloc _).heap.size; simp))
    · have ht := Lib.hid (text_pos hneg HU)
      go_wp2
      go_ret
      refine ⟨by rw [ht.out, Htx.out, hcat.out]; rfl, ?_⟩
      first
        | exact ((below_drew w.heap.size w).trans b3).trans ((below_alloc w3 _).mono b3.size)
        | exact (((below_alloc w _).trans ((below_drew w.heap.size _)))).trans (b3.mono (by show _ ≤ (w.alloc _).heap.size; simp))
        | exact (((below_drew w.heap.size w).trans ((below_alloc w.drew _)))).trans (b3.mono (by show _ ≤ (w.drew.alloc _).heap.size; simp))
end Go.Proofs.YtfimaamndcdofaaDoor
