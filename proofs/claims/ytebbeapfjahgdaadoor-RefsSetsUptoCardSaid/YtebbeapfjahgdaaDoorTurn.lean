/-
  Words of 32 bits in a walk; sum.turn, cartularyref.Block$1 by their contracts.
-/
import Derived.Test.YtebbeapfjahgdaaDoorBase
import Derived.StillTailTactics
namespace Go.Proofs.YtebbeapfjahgdaaDoor
open Go.RowKit
def rotr (x : UInt32) (n : Nat) : UInt32 := UInt32.ofNat (x.toNat / 2 ^ n + x.toNat % 2 ^ n * 2 ^ (32 - n))
def shr (x : UInt32) (n : Nat) : UInt32 := UInt32.ofNat (x.toNat / 2 ^ n)

/-! ### the walk's spellings of operations on words: names that 'simp' does not open -/
def xorW (x y : UInt32) : UInt32 := x ^^^ y
def andW (x y : UInt32) : UInt32 := x &&& y
def orW (x y : UInt32) : UInt32 := x ||| y
def addW (x y : UInt32) : UInt32 := x + y
def notW (x : UInt32) : UInt32 := 4294967295 ^^^ x
theorem w_xor (x y : UInt32) : bits .xor .u32 (x.toNat : Int) (y.toNat : Int) = ((xorW x y).toNat : Int) := by
  rw [u32_xor_nat _ _ x.toNat_lt y.toNat_lt]; exact congrArg _ (UInt32.toNat_xor x y).symm
theorem w_and (x y : UInt32) : bits .and .u32 (x.toNat : Int) (y.toNat : Int) = ((andW x y).toNat : Int) := by
  rw [u32_and_nat _ _ x.toNat_lt y.toNat_lt]; exact congrArg _ (UInt32.toNat_and x y).symm
theorem w_or (x y : UInt32) : bits .or .u32 (x.toNat : Int) (y.toNat : Int) = ((orW x y).toNat : Int) := by
  rw [u32_or_nat _ _ x.toNat_lt y.toNat_lt]; exact congrArg _ (UInt32.toNat_or x y).symm
theorem w_not (x : UInt32) : bits .xor .u32 IntKind.u32.max (x.toNat : Int) = ((notW x).toNat : Int) := by
  have := u32_xor_nat 4294967295 x.toNat (by omega) x.toNat_lt
  refine this.trans ?_
  exact congrArg _ (UInt32.toNat_xor 4294967295 x).symm
theorem w_add (x y : UInt32) : ((x.toNat : Int) + (y.toNat : Int)) % 4294967296 = ((addW x y).toNat : Int) := by
  unfold addW; rw [UInt32.toNat_add]; omega
theorem w_add' (x y : UInt32) : IntKind.u32.wrap ((x.toNat : Int) + (y.toNat : Int)) = ((addW x y).toNat : Int) := by
  rw [IntKind.wrap_u32]; exact w_add x y
theorem shr_toNat (x : UInt32) (n : Nat) : (shr x n).toNat = x.toNat / 2 ^ n := by
  have h := x.toNat_lt
  have := Nat.div_le_self x.toNat (2 ^ n)
  unfold shr
  simp
  omega
theorem w_shr3 (x : UInt32) : (x.toNat : Int) / 8 = ((shr x 3).toNat : Int) := by rw [shr_toNat]; simp
theorem w_shr10 (x : UInt32) : (x.toNat : Int) / 1024 = ((shr x 10).toNat : Int) := by rw [shr_toNat]; simp
attribute [go_sem] w_xor w_and w_or w_not w_add w_add' w_shr3 w_shr10
end Go.Proofs.YtebbeapfjahgdaaDoor
