/-
  wire.Get, cartularyref.Get, GetText of both by their contracts, in parts: gN gK gE, tS tK tE.
-/
import Derived.Test.YtoamnifnfkgbiaaGreatDoorRGet
namespace Go.Proofs.YtoamnifnfkgbiaaGreatDoor
open Go.RowKit
/-- P2.2: the number, its bytes, the error -/
def gN (l : List UInt8) : Nat := ((get l).map (·.1)).getD 0
def gK (l : List UInt8) : Nat := ((get l).map (·.2)).getD 0
def gE (l : List UInt8) : Nat := if (get l).isSome then 0 else 2
theorem g_none {l : List UInt8} (h : get l = none) : gN l = 0 ∧ gK l = 0 ∧ gE l = 2 := by simp [gN, gK, gE, h]
theorem g_some {l : List UInt8} {n k : Nat} (h : get l = some (n, k)) : gN l = n ∧ gK l = k ∧ gE l = 0 := by simp [gN, gK, gE, h]
theorem getV_eq (l : List UInt8) : getV (get l) = .tuple #[.int .i64 (gN l : Int), .int .i64 (gK l : Int), .int .i64 (gE l : Int)] := by
  rcases h : get l with _ | ⟨n, k⟩
  · simp [getV, g_none h]
  · simp [getV, g_some h]
theorem gK_le (l : List UInt8) : gK l ≤ l.length ∧ gK l ≤ 9 := by
  rcases h : get l with _ | ⟨n, k⟩
  · simp [g_none h]
  · rw [(g_some h).2.1]; have := get_le h; omega
theorem gN_lt (l : List UInt8) : gN l < 4611686018427387904 := by
  rcases h : get l with _ | ⟨n, k⟩
  · simp [g_none h]
  · rw [(g_some h).1]; exact get_lt h
theorem gE_or (l : List UInt8) : gE l = 0 ∨ gE l = 2 := by
  unfold gE; split <;> simp
/-- P2.3 -/
def tOk (l : List UInt8) : Prop := gE l = 0 ∧ gN l ≤ 4096 ∧ gN l ≤ l.length - gK l
instance (l : List UInt8) : Decidable (tOk l) := by unfold tOk; infer_instance
def tS (l : List UInt8) : List UInt8 := if tOk l then sub l (gK l) (gK l + gN l) else []
def tK (l : List UInt8) : Nat := if tOk l then gK l + gN l else 0
def tE (l : List UInt8) : Nat := if gE l ≠ 0 then gE l else if 4096 < gN l then 1 else if l.length - gK l < gN l then 2 else 0
theorem t_ok {l : List UInt8} (h : tOk l) : tS l = sub l (gK l) (gK l + gN l) ∧ tK l = gK l + gN l ∧ tE l = 0 := by
  refine ⟨if_pos h, if_pos h, ?_⟩
  unfold tE; rw [if_neg (by have := h.1; omega), if_neg (by have := h.2.1; omega), if_neg (by have := h.2.2; omega)]
theorem t_no {l : List UInt8} (h : ¬ tOk l) : tS l = [] ∧ tK l = 0 := ⟨if_neg h, if_neg h⟩
theorem tK_le (l : List UInt8) : tK l ≤ l.length := by
  by_cases h : tOk l
  · rw [(t_ok h).2.1]; have := h.2.2; have := gK_le l; omega
  · rw [(t_no h).2]; omega
theorem tS_len (l : List UInt8) : (tS l).length ≤ 4096 ∧ (tS l).length ≤ l.length := by
  by_cases h : tOk l
  · have h1 := gK_le l
    rw [(t_ok h).1, sub_len _ _ _ (by have := h.2.2; omega)]; have := h.2; omega
  · rw [(t_no h).1]; simp
theorem tE_or (l : List UInt8) : tE l = 0 ∨ tE l = 1 ∨ tE l = 2 := by
  have := gE_or l
  unfold tE; split
  · omega
  · split
    · omega
    · split <;> omega

theorem wget_any (l : List UInt8) (w : World) (hl : l.length ≤ 1152921504606846976) :
    Calls Tryz.prog 79 #[.string (bs l)] w fun e w' => e = .returned (.tuple #[.int .i64 (gN l : Int), .int .i64 (gK l : Int), .int .i64 (gE l : Int)]) ∧ w = w' := by
  rw [← getV_eq]; exact wget l w hl
theorem rget_any (l : List UInt8) (w : World) (hl : l.length ≤ 1152921504606846976) :
    Calls Tryz.prog 87 #[.string (bs l)] w fun e w' => e = .returned (.tuple #[.int .i64 (gN l : Int), .int .i64 (gK l : Int), .int .i64 (gE l : Int)]) ∧ Gr w w' := by
  rw [← getV_eq]; exact rget l w hl

end Go.Proofs.YtoamnifnfkgbiaaGreatDoor
