/- The half of two numbers' sum, by shifts and bits. No program in sight. -/
import Derived.Test.YtfimaamndcdofaaDoorMon
import Derived.Laws.Bits128
namespace Go.Proofs.YtfimaamndcdofaaDoor
open Go Go.RowKit

theorem i64_and1 (n : Int) : bits .and .i64 n 1 = n % 2 := by
  have h127 : (BitVec.ofInt 64 1).toNat = 2 ^ 1 - 1 := by decide
  have key : (BitVec.ofInt 64 n &&& BitVec.ofInt 64 1).toNat = (n % ((2 ^ 64 : Nat) : Int)).toNat % 2 ^ 1 := by
    rw [BitVec.toNat_and, BitVec.toNat_ofInt, h127, Nat.and_two_pow_sub_one_eq_mod]
  show IntKind.i64.wrap ((BitVec.ofInt 64 n &&& BitVec.ofInt 64 1).toNat : Nat) = n % 2
  rw [key, IntKind.wrap_i64]
  omega

theorem wrap_par (N : Int) : IntKind.i64.wrap N % 2 = N % 2 := by
  rw [IntKind.wrap_i64]; omega

theorem i64_and_and1 (a b : Int) : bits .and .i64 (bits .and .i64 a b) 1 = if a % 2 = 1 ∧ b % 2 = 1 then 1 else 0 := by
  rw [i64_and1]
  show IntKind.i64.wrap ((BitVec.ofInt 64 a &&& BitVec.ofInt 64 b).toNat : Nat) % 2 = _
  rw [BitVec.toNat_and, BitVec.toNat_ofInt, BitVec.toNat_ofInt]
  have ha : (a % ((2 ^ 64 : Nat) : Int)).toNat % 2 = (a % 2).toNat := by omega
  have hb : (b % ((2 ^ 64 : Nat) : Int)).toNat % 2 = (b % 2).toNat := by omega
  generalize (a % ((2 ^ 64 : Nat) : Int)).toNat = A at *
  generalize (b % ((2 ^ 64 : Nat) : Int)).toNat = B at *
  have h := Nat.and_mod_two_pow (a := A) (b := B) (n := 1)
  rw [Nat.pow_one] at h
  rw [wrap_par]
  have e : ((A &&& B : Nat) : Int) % 2 = (((A &&& B) % 2 : Nat) : Int) := rfl
  rw [e, h, ha, hb]
  have h1 : a % 2 = 0 ∨ a % 2 = 1 := by omega
  have h2 : b % 2 = 0 ∨ b % 2 = 1 := by omega
  rcases h1 with h1 | h1 <;> rcases h2 with h2 | h2 <;> rw [h1, h2] <;> rfl

theorem half_ex (a b : Int) : ∃ c : Int, bits .and .i64 (bits .and .i64 a b) 1 = c ∧ 0 ≤ c ∧ c ≤ 1 ∧ a / 2 + b / 2 + c = (a + b) / 2 := by
  rw [i64_and_and1]
  refine ⟨_, rfl, ?_⟩
  split <;> omega
end Go.Proofs.YtfimaamndcdofaaDoor
