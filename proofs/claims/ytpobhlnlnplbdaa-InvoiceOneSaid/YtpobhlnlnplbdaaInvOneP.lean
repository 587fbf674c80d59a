/- InvoiceOne: the plain law. -/
import Derived.Test.YtpobhlnlnplbdaaInvP
namespace Go.Proofs.Ytpobhlnlnplbdaa
open Go Go.RowKit
theorem w64in {x : Int} (h : -9223372036854775808 ≤ x ∧ x ≤ 9223372036854775807) : wrap64 x = x := by unfold wrap64; omega
def stdB : ByteArray := ⟨#[115, 116, 100]⟩
def oneT (bp : Int) : List Rate := [⟨⟨#[115, 116, 100]⟩, ⟨2000, 1, 1⟩, bp⟩]
def oneL (n p : Int) : List Ln := [⟨⟨#[]⟩, ⟨#[115, 116, 100]⟩, n, p⟩]
theorem std_name : nameB ⟨#[115, 116, 100]⟩ = true := by kernel_rfl
theorem std_day : rightD ⟨2000, 1, 1⟩ = true := by kernel_rfl
theorem std_day2 : rightD ⟨2026, 11, 15⟩ = true := by kernel_rfl
theorem std_hit (bp : Int) : hitT ⟨#[115, 116, 100]⟩ ⟨2026, 11, 15⟩ ⟨⟨#[115, 116, 100]⟩, ⟨2000, 1, 1⟩, bp⟩ = true := by kernel_rfl
theorem one_right {bp : Int} (h : 0 ≤ bp ∧ bp ≤ 100000) : rightT (oneT bp) = true := by
  have h1 : ¬ (bp < 0 ∨ 100000 < bp) := by omega
  simp [rightT, oneT, chainT, rowT, afterT, std_name, std_day, h1]
theorem one_find {bp : Int} (h : 0 ≤ bp ∧ bp ≤ 100000) : findT (oneT bp) ⟨#[115, 116, 100]⟩ ⟨2026, 11, 15⟩ = (bp, true) := by
  unfold findT
  rw [one_right h, std_day2]
  simp [oneT, lastT, std_hit]
theorem one_prod {n p : Int} (hn : 1 ≤ n ∧ n ≤ 1000) (hp : 0 ≤ p ∧ p ≤ 1073741824) : 0 ≤ n * p ∧ n * p ≤ 1073741824000 := by
  refine ⟨Int.mul_nonneg (by omega) hp.1, ?_⟩
  have h1 : n * p ≤ 1000 * p := Int.mul_le_mul_of_nonneg_right hn.2 hp.1
  omega
theorem one_tax {bp m : Int} (h : 0 ≤ bp ∧ bp ≤ 100000) (hm : 0 ≤ m ∧ m ≤ 1073741824000) : 0 ≤ m * bp ∧ m * bp ≤ 107374182400000000 := by
  refine ⟨Int.mul_nonneg hm.1 h.1, ?_⟩
  have h1 : m * bp ≤ m * 100000 := Int.mul_le_mul_of_nonneg_left h.2 hm.1
  omega
theorem one_calc {bp n p : Int} (h : 0 ≤ bp ∧ bp ≤ 100000) (hn : 1 ≤ n ∧ n ≤ 1000) (hp : 0 ≤ p ∧ p ≤ 1073741824) :
    wrap64 (n * p) = n * p ∧ wrap64 (n * p * bp) = n * p * bp ∧ wrap64 (n * p * bp + 5000) = n * p * bp + 5000 ∧ (n * p * bp + 5000).tdiv 10000 = (n * p * bp + 5000) / 10000 ∧
    wrap64 ((n * p * bp + 5000) / 10000) = (n * p * bp + 5000) / 10000 ∧ wrap64 (n * p + (n * p * bp + 5000) / 10000) = n * p + (n * p * bp + 5000) / 10000 := by
  have hm := one_prod hn hp
  have ht := one_tax h hm
  generalize n * p = m at *
  generalize m * bp = q at *
  exact ⟨w64in (by omega), w64in (by omega), w64in (by omega), Int.tdiv_eq_ediv_of_nonneg (by omega), w64in (by omega), w64in (by omega)⟩
theorem one_total {bp n p : Int} (h : 0 ≤ bp ∧ bp ≤ 100000) (hn : 1 ≤ n ∧ n ≤ 1000) (hp : 0 ≤ p ∧ p ≤ 1073741824) :
    totalV (oneT bp) ⟨2026, 11, 15⟩ (oneL n p) = .ok ⟨n * p, (n * p * bp + 5000) / 10000, n * p + (n * p * bp + 5000) / 10000, [⟨⟨#[115, 116, 100]⟩, bp, n * p, (n * p * bp + 5000) / 10000⟩]⟩ := by
  have hm := one_prod hn hp
  have ht := one_tax h hm
  have hl : lineV (oneT bp) ⟨2026, 11, 15⟩ ⟨⟨#[]⟩, ⟨#[115, 116, 100]⟩, n, p⟩ = .ok (bp, n * p) := by
    unfold lineV
    rw [one_find h]
    have h1 : ¬ (n < 1 ∨ 1048576 < n) := by omega
    have h2 : Mon.fits (n * p) := by unfold Mon.fits; omega
    have h0 : ¬ 64 < (⟨#[]⟩ : ByteArray).size := by decide
    simp only [h0, if_false, std_name, h1, h2, if_true, Bool.true_eq_false]
  generalize n * p = m at *
  have hx : taxN m bp = (m * bp + 5000) / 10000 := by unfold taxN; rw [Int.natAbs_of_nonneg hm.1]
  have hpv : putP [] ⟨#[115, 116, 100]⟩ bp m = .ok [⟨⟨#[115, 116, 100]⟩, bp, m, 0⟩] := by
    have h2 : Mon.fits m := by unfold Mon.fits; omega
    unfold putP
    simp only [withP, hasP, cntP, List.takeWhile_nil, List.length_nil, List.getElem?_nil, Bool.false_eq_true, if_false, List.take_nil, List.nil_append, List.drop_nil, List.getElem?_cons_zero, List.set_cons_zero, h2, if_true, Int.zero_add]
  have htx : taxV m bp = .ok ((m * bp + 5000) / 10000) := by
    unfold taxV
    rw [hx]
    have h1 : ¬ (bp < 0 ∨ 100000 < bp) := by omega
    have h2 : (m * bp + 5000) / 10000 ≤ 9223372036854775807 := by omega
    have h3 : ¬ m < 0 := by omega
    simp only [h1, h2, h3, if_false, if_true]
  generalize hT : (m * bp + 5000) / 10000 = T at *
  have b0 : 0 ≤ T ∧ T ≤ 10737418240001 := by omega
  have f1 : Mon.fits (0 + m) := by unfold Mon.fits; omega
  have f2 : Mon.fits (0 + T) := by unfold Mon.fits; omega
  have f3 : Mon.fits (0 + m + (0 + T)) := by unfold Mon.fits; omega
  unfold totalV
  rw [one_right h, std_day2]
  simp only [oneL, List.length_cons, List.length_nil, partsV, hl, hpv, wholeTo, htx, f1, f2, f3, if_true, Bool.true_eq_false, if_false]
  simp
end Go.Proofs.Ytpobhlnlnplbdaa
