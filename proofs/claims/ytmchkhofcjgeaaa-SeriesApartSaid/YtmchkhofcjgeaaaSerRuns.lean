/- SeriesRuns: chapter 10's runs, walked by the contracts of package series. -/
import Derived.Test.YtmchkhofcjgeaaaSerC
import Derived.KernelRfl
namespace Go.Proofs.Ytmchkhofcjgeaaa
open Go Go.RowKit

def xr0 : List Srs := []
def xr1 : List Srs := [⟨⟨#[98]⟩, 1, 2, false⟩]
def xr2 : List Srs := [⟨⟨#[97]⟩, 1, 9, false⟩, ⟨⟨#[98]⟩, 1, 2, false⟩]
def xr3 : List Srs := [⟨⟨#[97]⟩, 1, 9, false⟩, ⟨⟨#[98]⟩, 2, 2, false⟩]
def xr4 : List Srs := [⟨⟨#[97]⟩, 1, 9, false⟩, ⟨⟨#[98]⟩, 3, 2, false⟩]
def xr5 : List Srs := [⟨⟨#[97]⟩, 1, 9, true⟩, ⟨⟨#[98]⟩, 3, 2, false⟩]
theorem xq0 : openR xr0 ⟨#[98]⟩ 2 = .ok xr1 := by kernel_rfl
theorem xq1 : openR xr1 ⟨#[97]⟩ 9 = .ok xr2 := by kernel_rfl
theorem xq2 : takeR xr2 ⟨#[98]⟩ = .ok (xr3, 1) := by kernel_rfl
theorem xq3 : takeR xr3 ⟨#[98]⟩ = .ok (xr4, 2) := by kernel_rfl
theorem xq4 : takeR xr4 ⟨#[98]⟩ = .error 14 := by kernel_rfl
theorem xq5 : shutR xr4 ⟨#[97]⟩ = .ok xr5 := by kernel_rfl
theorem xq6 : takeR xr5 ⟨#[97]⟩ = .error 13 := by kernel_rfl
theorem xq7 : shutR xr5 ⟨#[97]⟩ = .error 13 := by kernel_rfl
theorem xq8 : openR xr5 ⟨#[97]⟩ 1 = .error 12 := by kernel_rfl
theorem xq9 : takeR xr5 ⟨#[99]⟩ = .error 11 := by kernel_rfl

set_option maxHeartbeats 2000000 in
set_option maxRecDepth 100000 in
theorem seriesRuns_walk (w : World) : Calls Try.prog 7 #[] w fun e w' => e = .returned (.bool true) ∧ Below w.heap.size w w' := by
  obtain ⟨w0, hw0⟩ : ∃ w0, w0 = w := ⟨_, rfl⟩
  rw [← hw0]
  have b_0 := Below.refl w0.heap.size w0
  have r_0 : Rd srsE w0 (.slice none 0 0) xr0 := Rd.nil _
  clear hw0
  go_enter Try.func7, Try.ntmps7
  go_wp2_with fail
  with_reducible refine (srsOpen _ xr0 ⟨#[98]⟩ 2 _ r_0).mono ?_
  rintro e w1 ⟨hT, c1⟩
  have b_1 := b_0.trans (c1.mono b_0.size)
  have r_1 := r_0.ext c1
  clear b_0 r_0
  rw [xq0] at hT
  obtain ⟨v1, rfl, own1⟩ := hT
  clear r_1
  have r_1 := own1.rd
  clear own1
  skip
  clear c1
  go_wp2_with fail
  with_reducible refine (srsOpen _ xr1 ⟨#[97]⟩ 9 _ r_1).mono ?_
  rintro e w2 ⟨hT, c2⟩
  have b_2 := b_1.trans (c2.mono b_1.size)
  have r_2 := r_1.ext c2
  clear b_1 r_1
  rw [xq1] at hT
  obtain ⟨v2, rfl, own2⟩ := hT
  clear r_2
  have r_2 := own2.rd
  clear own2
  skip
  clear c2
  go_wp2_with fail
  with_reducible refine (srsTake _ xr2 ⟨#[98]⟩ _ r_2).mono ?_
  rintro e w3 ⟨hT, c3⟩
  have b_3 := b_2.trans (c3.mono b_2.size)
  have r_3 := r_2.ext c3
  clear b_2 r_2
  rw [xq2] at hT
  obtain ⟨v3, rfl, own3⟩ := hT
  clear r_3
  have r_3 := own3.rd
  clear own3
  skip
  clear c3
  go_wp2_with fail
  with_reducible refine (srsTake _ xr3 ⟨#[98]⟩ _ r_3).mono ?_
  rintro e w4 ⟨hT, c4⟩
  have b_4 := b_3.trans (c4.mono b_3.size)
  have r_4 := r_3.ext c4
  clear b_3 r_3
  rw [xq3] at hT
  obtain ⟨v4, rfl, own4⟩ := hT
  clear r_4
  have r_4 := own4.rd
  clear own4
  skip
  clear c4
  go_wp2_with fail
  with_reducible refine (srsTake _ xr4 ⟨#[98]⟩ _ r_4).mono ?_
  rintro e w5 ⟨hT, c5⟩
  have b_5 := b_4.trans (c5.mono b_4.size)
  have r_5 := r_4.ext c5
  clear b_4 r_4
  rw [xq4] at hT
  obtain rfl := hT
  clear c5
  go_wp2_with fail
  with_reducible refine (srsShut _ xr4 ⟨#[97]⟩ _ r_5).mono ?_
  rintro e w6 ⟨hT, c6⟩
  have b_6 := b_5.trans (c6.mono b_5.size)
  have r_6 := r_5.ext c6
  clear b_5 r_5
  rw [xq5] at hT
  obtain ⟨v6, rfl, own6⟩ := hT
  clear r_6
  have r_6 := own6.rd
  clear own6
  skip
  clear c6
  go_wp2_with fail
  with_reducible refine (srsTake _ xr5 ⟨#[97]⟩ _ r_6).mono ?_
  rintro e w7 ⟨hT, c7⟩
  have b_7 := b_6.trans (c7.mono b_6.size)
  have r_7 := r_6.ext c7
  clear b_6 r_6
  rw [xq6] at hT
  obtain rfl := hT
  clear c7
  go_wp2_with fail
  with_reducible refine (srsShut _ xr5 ⟨#[97]⟩ _ r_7).mono ?_
  rintro e w8 ⟨hT, c8⟩
  have b_8 := b_7.trans (c8.mono b_7.size)
  have r_8 := r_7.ext c8
  clear b_7 r_7
  rw [xq7] at hT
  obtain rfl := hT
  clear c8
  go_wp2_with fail
  with_reducible refine (srsOpen _ xr5 ⟨#[97]⟩ 1 _ r_8).mono ?_
  rintro e w9 ⟨hT, c9⟩
  have b_9 := b_8.trans (c9.mono b_8.size)
  have r_9 := r_8.ext c9
  clear b_8 r_8
  rw [xq8] at hT
  obtain rfl := hT
  clear c9
  go_wp2_with fail
  with_reducible refine (srsTake _ xr5 ⟨#[99]⟩ _ r_9).mono ?_
  rintro e w10 ⟨hT, c10⟩
  have b_10 := b_9.trans (c10.mono b_9.size)
  have r_10 := r_9.ext c10
  clear b_9 r_9
  rw [xq9] at hT
  obtain rfl := hT
  clear c10
  obtain ⟨pz, cz, rfl⟩ := r_10.shapeN (n := 2) rfl
  go_wp2_with fail
  go_ret
  exact ⟨rfl, b_10⟩
end Go.Proofs.Ytmchkhofcjgeaaa
