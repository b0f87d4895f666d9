
/-
  Bits of numbers with 64 bits: not, and the signs of xor and and. No conditions.
-/
import Derived.Test.YtgfhgopfhcakhaaDoorBase
set_option linter.unusedVariables false
set_option linter.unusedSimpArgs false
namespace Go.Proofs.YtgfhgopfhcakhaaDoor
open Go.RowKit

/-- A number fits 64 bits with a sign. -/
def I64 (a : Int) : Prop := -9223372036854775808 ≤ a ∧ a ≤ 9223372036854775807
/-- A number without its sign. -/
def absI (a : Int) : Int := if a < 0 then -a else a
theorem absI_bd {a : Int} (h : I64 a) : 0 ≤ absI a ∧ absI a ≤ 9223372036854775808 := by unfold absI; unfold I64 at h; split <;> omega

theorem toNat_ofInt (a : Int) : ((BitVec.ofInt 64 a).toNat : Int) = a % 18446744073709551616 := by
  rw [BitVec.toNat_ofInt]
  have := Int.emod_nonneg a (show (18446744073709551616 : Int) ≠ 0 by decide)
  show (((a % 18446744073709551616).toNat : Nat) : Int) = _
  omega
theorem xor_not (x : BitVec 64) : ((BitVec.allOnes 64 ^^^ x).toNat : Int) = 18446744073709551615 - (x.toNat : Int) := by
  have e : BitVec.allOnes 64 ^^^ x = ~~~x := BitVec.allOnes_xor
  have hx := x.isLt
  rw [e, BitVec.toNat_not]
  omega
theorem not_i64 (a : Int) (h : I64 a) : bits .xor .i64 (-1) a = -1 - a := by
  unfold I64 at h
  show IntKind.i64.wrap ((BitVec.ofInt 64 (-1) ^^^ BitVec.ofInt 64 a).toNat : Int) = _
  have e : BitVec.ofInt 64 (-1) = BitVec.allOnes 64 := by decide
  rw [e, xor_not, toNat_ofInt, IntKind.wrap_i64]
  omega
theorem not_u64 (a : Int) (h : 0 ≤ a) (h' : a ≤ 18446744073709551615) : bits .xor .u64 IntKind.u64.max a = 18446744073709551615 - a := by
  show IntKind.u64.wrap ((BitVec.ofInt 64 IntKind.u64.max ^^^ BitVec.ofInt 64 a).toNat : Int) = _
  have e : BitVec.ofInt 64 IntKind.u64.max = BitVec.allOnes 64 := by decide
  rw [e, xor_not, toNat_ofInt]
  rw [IntWalk.u64_in _ (by omega)]
  omega
theorem ret_two {k l : IntKind} {a b c d : Int} (h : a = b) (h' : c = d) : Ending.returned (.tuple #[.int k a, .int l c]) = .returned (.tuple #[.int k b, .int l d]) := by rw [h, h']
theorem ret_ib {k : IntKind} {a b : Int} {c d : Bool} (h : a = b) (h' : c = d) : Ending.returned (.tuple #[.int k a, .bool c]) = .returned (.tuple #[.int k b, .bool d]) := by rw [h, h']
end Go.Proofs.YtgfhgopfhcakhaaDoor
