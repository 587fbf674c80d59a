/- The walk of impostref3.Show. -/
import Derived.Test.YtfimaamndcdofaaDoorShow
namespace Go.Proofs.YtfimaamndcdofaaDoor
open Go Go.RowKit Go.Shelf Go.Lib Go.Sort

theorem tabIs_below {P : Program} {w w' : World} {name : String} {k : IntKind} {zs : List Int} (h : TabIs P w name k zs) (b : Below w.heap.size w w') : TabIs P w' name k zs := by
  unfold TabIs World.var? at *
  cases hg : P.globalNamed name with
  | none => simp [hg] at h
  | some g =>
    simp only [hg, Option.bind_some] at h ⊢
    have hlt : g < w.heap.size := by
      rcases Nat.lt_or_ge g w.heap.size with h' | h'
      · exact h'
      · rw [Array.getElem?_eq_none h'] at h; simp at h
    rw [b.block g hlt]
    exact h

theorem decDigits_one {d : Nat} (h : d < 10) : decDigits d = [UInt8.ofNat (48 + d)] := by rw [decDigits, dif_pos h]

theorem str_cat (a b : List UInt8) : ({ data := a.toArray } ++ { data := b.toArray } : ByteArray) = { data := (a ++ b).toArray } := by rw [ByteArray.mk_append_mk]

set_option maxHeartbeats 1000000 in
theorem refShow (n : Int) (w : World) (hn : Mon.fits n) (htab : TabIs Tryd.prog w "internal/strconv.uint64pow10" .u64 pow10Tab) :
    Calls Tryd.prog 20 #[.int .i64 n] w fun e w' => e = .returned (.string ⟨(Mon.text n).toArray⟩) ∧ Below w.heap.size w w' := by
  have hu : n.natAbs ≤ 9223372036854775808 := by unfold Mon.fits at hn; omega
  have hdl : ((decDigits (n.natAbs / 100)).length : Int) ≤ 8388608 := by rw [decDigits_length]; have := nDigits_le20 (n.natAbs / 100) (by omega); omega
  go_enter Tryd.func20, Tryd.ntmps20
  go_wp2_with fail
  with_reducible refine (refSize n _ hn).mono ?_
  rintro e w' ⟨rfl, rfl⟩
  generalize hU : n.natAbs = u at *
  have HU := Lib.hid hU
  clear hU
  have htx : Mon.texts u = decDigits (u / 100) ++ [46] ++ decDigits (u % 100 / 10) ++ decDigits (u % 10) := by
    unfold Mon.texts Mon.two
    rw [decDigits_one (show u % 100 / 10 < 10 from by omega), decDigits_one (show u % 10 < 10 from by omega), show u % 100 / 10 = u / 10 % 10 from by omega]
    simp
  have l1 : (decDigits (u % 100 / 10)).length = 1 := by rw [decDigits_one (by omega)]; rfl
  have l2 : (decDigits (u % 10)).length = 1 := by rw [decDigits_one (by omega)]; rfl
  have Htx := Lib.hid htx
  have L1 : ((decDigits (u % 100 / 10)).length : Int) ≤ 8388608 := by omega
  have L2 : ((decDigits (u % 10)).length : Int) ≤ 8388608 := by omega
  clear htx l1 l2
  go_wp2_with fail
  with_reducible refine (fmtUint (u / 100) _ (by omega) (by omega) _ htab).mono ?_
  rintro e w3 ⟨rfl, b3⟩
  go_wp2_with fail
  with_reducible refine (fmtUint (u % 100 / 10) _ (by omega) (by omega) _ (tabIs_below htab b3)).mono ?_
  rintro e w4 ⟨rfl, b4⟩
  replace b4 := b3.trans (b4.mono b3.size)
  go_wp2_with fail
  with_reducible refine (fmtUint (u % 10) _ (by omega) (by omega) _ (tabIs_below htab b4)).mono ?_
  rintro e w5 ⟨rfl, b5⟩
  replace b5 := b4.trans (b5.mono b4.size)
  generalize decDigits (u / 100) = A at *
  generalize decDigits (u % 100 / 10) = B at *
  generalize decDigits (u % 10) = C at *
  have hcat : ({ data := A.toArray } ++ { data := #[46] } ++ { data := B.toArray } ++ { data := C.toArray } : ByteArray) = { data := (A ++ [46] ++ B ++ C).toArray } := by
    rw [show (#[46] : Array UInt8) = [46].toArray from rfl, str_cat, str_cat, str_cat]
  have Hcat := Lib.hid hcat
  clear hcat
  by_cases hneg : n < 0
  · have ht := Lib.hid (text_neg hneg HU)
    go_wp2_with fail
    all_goals
      go_ret
      refine ⟨?_, b5⟩
      rw [ht.out, Htx.out]
      rw [show (45 :: (A ++ [46] ++ B ++ C)) = [45] ++ (A ++ [46] ++ B ++ C) from rfl, ← str_cat, ← Hcat.out]
      rfl
  · have ht := Lib.hid (text_pos hneg HU)
    go_wp2_with fail
    all_goals
      go_ret
      refine ⟨?_, b5⟩
      rw [ht.out, Htx.out, ← Hcat.out]
      rfl

end Go.Proofs.YtfimaamndcdofaaDoor
