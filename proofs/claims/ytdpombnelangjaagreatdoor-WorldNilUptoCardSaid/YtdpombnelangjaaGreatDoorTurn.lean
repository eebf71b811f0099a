/-
  Words of 32 bits in a walk; sum.turn, cartularyref.Block$1 by their contracts.
-/
import Derived.Test.YtdpombnelangjaaGreatDoorBase
import Derived.StillTailTactics
namespace Go.Proofs.YtdpombnelangjaaGreatDoor
open Go.RowKit
def u32V (x : UInt32) : Value := .int .u32 (x.toNat : Int)
def rotr (x : UInt32) (n : Nat) : UInt32 := UInt32.ofNat (x.toNat / 2 ^ n + x.toNat % 2 ^ n * 2 ^ (32 - n))
def shr (x : UInt32) (n : Nat) : UInt32 := UInt32.ofNat (x.toNat / 2 ^ n)

theorem rot_high (x n : Nat) (h1 : n < 32) : x * 2 ^ (32 - n) % 4294967296 = x % 2 ^ n * 2 ^ (32 - n) := by
  have e : (4294967296 : Nat) = 2 ^ n * 2 ^ (32 - n) := by rw [← Nat.pow_add, show n + (32 - n) = 32 by omega]
  rw [e, Nat.mul_mod_mul_right]
theorem rot_parts (x n : Nat) (hx : x < 4294967296) (h1 : n < 32) : x / 2 ^ n < 2 ^ (32 - n) ∧ x / 2 ^ n + x % 2 ^ n * 2 ^ (32 - n) < 4294967296 := by
  have e : (4294967296 : Nat) = 2 ^ n * 2 ^ (32 - n) := by rw [← Nat.pow_add, show n + (32 - n) = 32 by omega]
  have hp : 0 < 2 ^ n := Nat.pos_of_ne_zero (by simp)
  have h2 : x / 2 ^ n < 2 ^ (32 - n) := by rw [Nat.div_lt_iff_lt_mul hp, Nat.mul_comm, ← e]; exact hx
  refine ⟨h2, ?_⟩
  have h3 : x % 2 ^ n + 1 ≤ 2 ^ n := Nat.mod_lt _ hp
  have h4 := Nat.mul_le_mul_right (2 ^ (32 - n)) h3
  rw [Nat.add_mul, ← e] at h4
  omega
theorem rotr_toNat (x : UInt32) (n : Nat) (h1 : n < 32) : (rotr x n).toNat = x.toNat / 2 ^ n + x.toNat % 2 ^ n * 2 ^ (32 - n) := by
  have := rot_parts x.toNat n x.toNat_lt h1
  unfold rotr
  simp
  omega
theorem rotr_or (x : UInt32) (n : Nat) (h1 : n < 32) : x.toNat / 2 ^ n ||| x.toNat * 2 ^ (32 - n) % 4294967296 = (rotr x n).toNat := by
  have hp := rot_parts x.toNat n x.toNat_lt h1
  rw [rotr_toNat x n h1, rot_high _ _ h1, Nat.or_comm, Nat.mul_comm (x.toNat % 2 ^ n), ← Nat.two_pow_add_eq_or_of_lt hp.1]
  omega

/-- a region of quiet operations with a tail, its world by a name -/
theorem region_still_tail_w {P : Program} {id : Nat} {Q : Exit → Act → World → Prop} {a : Act} {w : World} {l : List Oper} (n : Nat) (hm : P.follows .mixedOrders = true) (hB : Region.lexTailB .any l.toArray n = true)
    (h : ∀ wd, wd = w.drew → wpStill P l.toArray wd (fun a' => wpList P l.toArray Q (l.drop n) a' wd) (l.take n) a) : (Code.region id l.toArray true).wp P Q a w :=
  wp_region_still_tail n hm hB (h _ rfl)

/-! ### the walk's spellings of operations on words: names that 'simp' does not open -/
def xorW (x y : UInt32) : UInt32 := x ^^^ y
def andW (x y : UInt32) : UInt32 := x &&& y
def orW (x y : UInt32) : UInt32 := x ||| y
def addW (x y : UInt32) : UInt32 := x + y
def notW (x : UInt32) : UInt32 := 4294967295 ^^^ x
theorem notW_eq (x : UInt32) : notW x = ~~~x := by
  unfold notW
  apply UInt32.eq_of_toBitVec_eq
  rw [UInt32.toBitVec_xor, UInt32.toBitVec_not]
  exact BitVec.allOnes_xor
theorem w_xor (x y : UInt32) : bits .xor .u32 (x.toNat : Int) (y.toNat : Int) = ((xorW x y).toNat : Int) := by
  rw [u32_xor_nat _ _ x.toNat_lt y.toNat_lt]; exact congrArg _ (UInt32.toNat_xor x y).symm
theorem w_and (x y : UInt32) : bits .and .u32 (x.toNat : Int) (y.toNat : Int) = ((andW x y).toNat : Int) := by
  rw [u32_and_nat _ _ x.toNat_lt y.toNat_lt]; exact congrArg _ (UInt32.toNat_and x y).symm
theorem w_or (x y : UInt32) : bits .or .u32 (x.toNat : Int) (y.toNat : Int) = ((orW x y).toNat : Int) := by
  rw [u32_or_nat _ _ x.toNat_lt y.toNat_lt]; exact congrArg _ (UInt32.toNat_or x y).symm
theorem w_not (x : UInt32) : bits .xor .u32 IntKind.u32.max (x.toNat : Int) = ((notW x).toNat : Int) := by
  have := u32_xor_nat 4294967295 x.toNat (by omega) x.toNat_lt
  refine this.trans ?_
  exact congrArg _ (UInt32.toNat_xor 4294967295 x).symm
theorem w_add (x y : UInt32) : ((x.toNat : Int) + (y.toNat : Int)) % 4294967296 = ((addW x y).toNat : Int) := by
  unfold addW; rw [UInt32.toNat_add]; omega
theorem w_add' (x y : UInt32) : IntKind.u32.wrap ((x.toNat : Int) + (y.toNat : Int)) = ((addW x y).toNat : Int) := by
  rw [IntKind.wrap_u32]; exact w_add x y
theorem shr_toNat (x : UInt32) (n : Nat) : (shr x n).toNat = x.toNat / 2 ^ n := by
  have h := x.toNat_lt
  have := Nat.div_le_self x.toNat (2 ^ n)
  unfold shr
  simp
  omega
theorem w_shr3 (x : UInt32) : (x.toNat : Int) / 8 = ((shr x 3).toNat : Int) := by rw [shr_toNat]; simp
theorem w_shr10 (x : UInt32) : (x.toNat : Int) / 1024 = ((shr x 10).toNat : Int) := by rw [shr_toNat]; simp
attribute [go_sem] w_xor w_and w_or w_not w_add w_add' w_shr3 w_shr10
/-- four bytes put together, as the walk spells it -/
theorem word_or (c0 c1 c2 c3 : UInt8) :
    bits .or .u32 (bits .or .u32 (bits .or .u32 (IntKind.u32.wrap (IntKind.u32.wrap (c0.toNat : Int) * 16777216)) (IntKind.u32.wrap (IntKind.u32.wrap (c1.toNat : Int) * 65536))) (IntKind.u32.wrap (IntKind.u32.wrap (c2.toNat : Int) * 256))) (IntKind.u32.wrap (c3.toNat : Int)) =
      ((c0.toNat * 16777216 + c1.toNat * 65536 + c2.toNat * 256 + c3.toNat : Nat) : Int) := by
  have h0 := c0.toNat_lt
  have h1 := c1.toNat_lt
  have h2 := c2.toNat_lt
  have h3 := c3.toNat_lt
  rw [IntWalk.u32_in (c0.toNat : Int) (by omega), IntWalk.u32_in (c1.toNat : Int) (by omega), IntWalk.u32_in (c2.toNat : Int) (by omega), IntWalk.u32_in (c3.toNat : Int) (by omega)]
  rw [IntWalk.u32_in ((c0.toNat : Int) * 16777216) (by omega), IntWalk.u32_in ((c1.toNat : Int) * 65536) (by omega), IntWalk.u32_in ((c2.toNat : Int) * 256) (by omega)]
  have e0 : (c0.toNat : Int) * 16777216 = ((c0.toNat * 16777216 : Nat) : Int) := by simp
  have e1 : (c1.toNat : Int) * 65536 = ((c1.toNat * 65536 : Nat) : Int) := by simp
  have e2 : (c2.toNat : Int) * 256 = ((c2.toNat * 256 : Nat) : Int) := by simp
  have o1 : c0.toNat * 16777216 ||| c1.toNat * 65536 = c0.toNat * 16777216 + c1.toNat * 65536 := by
    have := Nat.two_pow_add_eq_or_of_lt (i := 24) (b := c1.toNat * 65536) (by omega) c0.toNat
    rw [show (16777216 : Nat) = 2 ^ 24 from rfl, Nat.mul_comm c0.toNat, ← this]
  have o2 : c0.toNat * 16777216 + c1.toNat * 65536 ||| c2.toNat * 256 = c0.toNat * 16777216 + c1.toNat * 65536 + c2.toNat * 256 := by
    have := Nat.two_pow_add_eq_or_of_lt (i := 16) (b := c2.toNat * 256) (by omega) (c0.toNat * 256 + c1.toNat)
    have e : c0.toNat * 16777216 + c1.toNat * 65536 = 2 ^ 16 * (c0.toNat * 256 + c1.toNat) := by omega
    rw [e, ← this]
  have o3 : c0.toNat * 16777216 + c1.toNat * 65536 + c2.toNat * 256 ||| c3.toNat = c0.toNat * 16777216 + c1.toNat * 65536 + c2.toNat * 256 + c3.toNat := by
    have := Nat.two_pow_add_eq_or_of_lt (i := 8) (b := c3.toNat) (by omega) (c0.toNat * 65536 + c1.toNat * 256 + c2.toNat)
    have e : c0.toNat * 16777216 + c1.toNat * 65536 + c2.toNat * 256 = 2 ^ 8 * (c0.toNat * 65536 + c1.toNat * 256 + c2.toNat) := by omega
    rw [e, ← this]
  rw [e0, e1, e2, u32_or_nat _ _ (by omega) (by omega), o1, u32_or_nat _ _ (by omega) (by omega), o2, u32_or_nat _ _ (by omega) (by omega), o3]

/-- the same, with the outer turnings spelled out -/
theorem word_or' (c0 c1 c2 c3 : UInt8) :
    bits .or .u32 (bits .or .u32 (bits .or .u32 ((c0.toNat : Int) % 4294967296 * 16777216 % 4294967296) ((c1.toNat : Int) % 4294967296 * 65536 % 4294967296)) ((c2.toNat : Int) % 4294967296 * 256 % 4294967296)) ((c3.toNat : Int) % 4294967296) =
      ((c0.toNat * 16777216 + c1.toNat * 65536 + c2.toNat * 256 + c3.toNat : Nat) : Int) := by
  have h := word_or c0 c1 c2 c3
  simp only [IntKind.wrap_u32] at h
  exact h

set_option maxRecDepth 100000 in
theorem turn_any (x : UInt32) (n : Int) (w : World) (h0 : 0 < n) (h1 : n < 32) :
    Calls Tryz.prog 160 #[.int .u32 (x.toNat : Int), .int .u64 n] w fun e w' => e = .returned (.int .u32 ((rotr x n.toNat).toNat : Int)) ∧ w' = w := by
  have hr := rotr_or x n.toNat (by omega)
  have h32 : (32 - n).toNat = 32 - n.toNat := by omega
  have hp : x.toNat / 2 ^ n.toNat < 4294967296 := Nat.lt_of_le_of_lt (Nat.div_le_self _ _) x.toNat_lt
  have hfin : bits .or .u32 ((x.toNat : Int) / 2 ^ n.toNat) ((x.toNat : Int) * 2 ^ (32 - n).toNat % 4294967296) = ((rotr x n.toNat).toNat : Int) := by
    rw [h32, ← hr, ← u32_or_nat _ _ hp (Nat.mod_lt _ (by omega))]
    simp
  have HF := sec hfin
  have hx := x.toNat_lt
  clear hr h32 hp hfin
  go_enter Tryz.func160, Tryz.ntmps160
  go_wp2
  go_ret
  exact ⟨by rw [← HF.out]; rfl, rfl⟩

set_option maxRecDepth 100000 in
theorem rturn_any (x : UInt32) (n : Int) (w : World) (h0 : 0 < n) (h1 : n < 32) :
    Calls Tryz.prog 161 #[.int .u32 (x.toNat : Int), .int .u64 n] w fun e w' => e = .returned (.int .u32 ((rotr x n.toNat).toNat : Int)) ∧ w' = w := by
  have hp := rot_parts x.toNat n.toNat x.toNat_lt (by omega)
  have hr := rotr_toNat x n.toNat (by omega)
  have hh := rot_high x.toNat n.toNat (by omega)
  have h32 : (32 - n).toNat = 32 - n.toNat := by omega
  have hfin : ((x.toNat : Int) * 2 ^ (32 - n).toNat % 4294967296 + (x.toNat : Int) / 2 ^ n.toNat) % 4294967296 = ((rotr x n.toNat).toNat : Int) := by
    have e1 : (x.toNat : Int) * 2 ^ (32 - n).toNat % 4294967296 = ((x.toNat % 2 ^ n.toNat * 2 ^ (32 - n.toNat) : Nat) : Int) := by rw [h32, ← hh]; simp
    have e2 : (x.toNat : Int) / 2 ^ n.toNat = ((x.toNat / 2 ^ n.toNat : Nat) : Int) := by simp
    rw [e1, e2, hr]
    omega
  have HF := sec hfin
  have hx := x.toNat_lt
  clear hp hr hh h32 hfin
  go_enter Tryz.func161, Tryz.ntmps161
  go_wp2
  go_ret
  exact ⟨by rw [← HF.out]; rfl, rfl⟩
end Go.Proofs.YtdpombnelangjaaGreatDoor
