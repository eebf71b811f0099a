/-
  The ring of sixteen words: no program in sight.
-/
import Derived.Test.YtdpombnelangjaaGreatDoorShaL
namespace Go.Proofs.YtdpombnelangjaaGreatDoor
/-- the ring while it is filled -/
def rCells (b : List UInt8) (n : Nat) : Array Value := ((List.range 16).map fun m => u32V (if m < n then wSched b m else 0)).toArray
theorem rCells_size (b : List UInt8) (n : Nat) : (rCells b n).size = 16 := by unfold rCells; simp
theorem rCells_zero (b : List UInt8) : rCells b 0 = #[.int .u32 0, .int .u32 0, .int .u32 0, .int .u32 0, .int .u32 0, .int .u32 0, .int .u32 0, .int .u32 0, .int .u32 0, .int .u32 0, .int .u32 0, .int .u32 0, .int .u32 0, .int .u32 0, .int .u32 0, .int .u32 0] := by kernel_rfl
theorem rCells_set (b : List UInt8) (n : Nat) : (rCells b n).setIfInBounds n (u32V (wSched b n)) = rCells b (n + 1) := by
  unfold rCells
  rw [List.setIfInBounds_toArray]
  congr 1
  apply List.ext_getElem
  · simp
  · intro i h1 h2
    rw [List.getElem_set]
    simp at h1 h2
    by_cases e : n = i
    · subst e; simp
    · have : (i < n) ↔ (i < n + 1) := by omega
      simp [e, this]

/-- the word that lies in slot j ahead of round t (16 ≤ t) -/
def rIdx (t j : Nat) : Nat := t - 16 + (j + 1024 - t) % 16
def ring (b : List UInt8) (t : Nat) : Array Value := ((List.range 16).map fun j => u32V (wSched b (rIdx t j))).toArray
theorem ring_size (b : List UInt8) (n : Nat) : (ring b n).size = 16 := by unfold ring; simp
theorem ring_start (b : List UInt8) : rCells b 16 = ring b 16 := by
  unfold rCells ring
  refine congrArg List.toArray (List.map_congr_left ?_)
  intro j hj
  have : j < 16 := by simpa using hj
  have e : rIdx 16 j = j := by unfold rIdx; omega
  simp [this, e]
theorem ring_at (b : List UInt8) (t j m : Nat) (hj : j < 16) (hm : rIdx t j = m) : (ring b t)[j]? = some (.int .u32 ((wSched b m).toNat : Int)) := by
  subst hm
  unfold ring
  simp [hj, u32V]
theorem ring_set (b : List UInt8) (t : Nat) (h : 16 ≤ t) (h' : t < 1024) : (ring b t).setIfInBounds (t % 16) (u32V (wSched b t)) = ring b (t + 1) := by
  unfold ring
  rw [List.setIfInBounds_toArray]
  congr 1
  apply List.ext_getElem
  · simp
  · intro i h1 h2
    rw [List.getElem_set]
    simp at h1 h2
    by_cases e : t % 16 = i
    · have : rIdx (t + 1) i = t := by unfold rIdx; omega
      simp [e, this]
    · have : rIdx (t + 1) i = rIdx t i := by unfold rIdx; omega
      simp [e, this]
theorem rIdx_0 (i : Nat) : i < 1024 → rIdx i (i % 16) = i - 16 := by intro _; unfold rIdx; omega
theorem rIdx_1 (i : Nat) (h : 16 ≤ i) (h' : i < 64) : rIdx i ((i + 1) % 16) = i - 15 := by unfold rIdx; omega
theorem rIdx_14 (i : Nat) (h : 16 ≤ i) (h' : i < 64) : rIdx i ((i + 14) % 16) = i - 2 := by unfold rIdx; omega
theorem rIdx_9 (i : Nat) (h : 16 ≤ i) (h' : i < 64) : rIdx i ((i + 9) % 16) = i - 7 := by unfold rIdx; omega
/-! ### the document's round as the walk spells it -/
def yW (k w : UInt32) (s : S8) : UInt32 := addW (addW (addW (addW s.h (xorW (xorW (rotr s.e 6) (rotr s.e 11)) (rotr s.e 25))) (xorW s.g (andW s.e (xorW s.f s.g)))) k) w
theorem yW_eq (k w : UInt32) (s : S8) : yW k w s = tOf k w s := by
  unfold yW tOf
  rw [show xorW s.g (andW s.e (xorW s.f s.g)) = chP s.e s.f s.g from ch_eq s.e s.f s.g]
  rfl
theorem aW_eq (k w : UInt32) (s : S8) : addW (addW (yW k w s) (xorW (xorW (rotr s.a 2) (rotr s.a 13)) (rotr s.a 22))) (orW (andW s.a s.b) (andW s.c (orW s.a s.b))) = tOf k w s + uOf s := by
  rw [yW_eq, show orW (andW s.a s.b) (andW s.c (orW s.a s.b)) = mjP s.a s.b s.c from mj_eq s.a s.b s.c]
  exact UInt32.add_assoc _ _ _
end Go.Proofs.YtdpombnelangjaaGreatDoor
