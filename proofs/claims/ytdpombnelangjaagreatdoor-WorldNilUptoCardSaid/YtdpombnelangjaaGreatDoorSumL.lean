/-
  Plain mathematics of sum (P1.3 to P1.6): whole texts, padding, seals, digits; no program in sight. No conditions.
-/
import Derived.Test.YtdpombnelangjaaGreatDoorShaL
namespace Go.Proofs.YtdpombnelangjaaGreatDoor
/-- heads behind all whole blocks of a text -/
def overS (s : S8) (b : List UInt8) : S8 := if _h : b.length < 64 then s else overS (blockS s (b.take 64)) (b.drop 64)
termination_by b.length
decreasing_by rw [List.length_drop]; omega
theorem overS_lo {s : S8} {b : List UInt8} (h : b.length < 64) : overS s b = s := by rw [overS, dif_pos h]
theorem overS_hi {s : S8} {b : List UInt8} (h : ¬ b.length < 64) : overS s b = overS (blockS s (b.take 64)) (b.drop 64) := by rw [overS, dif_neg h]
/-- what is left behind the whole blocks -/
def restOf (b : List UInt8) : List UInt8 := b.drop (b.length / 64 * 64)
theorem restOf_len (b : List UInt8) : (restOf b).length = b.length % 64 := by unfold restOf; rw [List.length_drop]; omega
theorem restOf_lo {b : List UInt8} (h : b.length < 64) : restOf b = b := by
  unfold restOf; rw [show b.length / 64 * 64 = 0 by omega, List.drop_zero]
theorem restOf_hi {b : List UInt8} (h : ¬ b.length < 64) : restOf b = restOf (b.drop 64) := by
  unfold restOf
  rw [List.drop_drop, List.length_drop]
  congr 1
  omega
/-- only the whole blocks count -/
theorem overS_take : ∀ (k : Nat) (s : S8) (b : List UInt8), b.length / 64 = k → overS s (b.take (b.length / 64 * 64)) = overS s b := by
  intro k
  induction k with
  | zero => intro s b h; rw [overS_lo (b := b) (by omega), overS_lo]; rw [List.length_take]; omega
  | succ k ih =>
    intro s b h
    rw [overS_hi (b := b) (by omega), overS_hi (b := b.take _) (by rw [List.length_take]; omega), List.take_take, show min 64 (b.length / 64 * 64) = 64 by omega]
    rw [← ih (blockS s (b.take 64)) (b.drop 64) (by rw [List.length_drop]; omega)]
    congr 1
    rw [List.length_drop, List.drop_take]
    congr 1
    omega

/-- four bytes of a word -/
def be4 (x : UInt32) : List UInt8 := [UInt8.ofNat (x.toNat / 16777216), UInt8.ofNat (x.toNat / 65536), UInt8.ofNat (x.toNat / 256), UInt8.ofNat x.toNat]
def text8 (s : S8) : List UInt8 := s.list.flatMap be4
theorem text8_len (s : S8) : (text8 s).length = 32 := rfl
/-- the count of bits, in eight bytes -/
def be8 (n : Nat) : List UInt8 := [UInt8.ofNat (n / 72057594037927936), UInt8.ofNat (n / 281474976710656), UInt8.ofNat (n / 1099511627776), UInt8.ofNat (n / 4294967296), UInt8.ofNat (n / 16777216), UInt8.ofNat (n / 65536), UInt8.ofNat (n / 256), UInt8.ofNat n]
theorem be8_len (n : Nat) : (be8 n).length = 8 := rfl
/-- how many zeros behind the mark -/
def zerosFor (n : Nat) : Nat := (119 - n % 64) % 64
/-- P1.3: what is put behind bytes of which there were so many -/
def padTo (rest : List UInt8) (many : Nat) : List UInt8 := rest ++ [128] ++ List.replicate (zerosFor rest.length) 0 ++ be8 (8 * many)
theorem padTo_len (rest : List UInt8) (many : Nat) : (padTo rest many).length = rest.length + 9 + zerosFor rest.length := by
  unfold padTo
  rw [List.length_append, List.length_append, List.length_append, List.length_replicate, be8_len]
  simp only [List.length_cons, List.length_nil]
  omega
theorem padTo_mod (rest : List UInt8) (many : Nat) : (padTo rest many).length % 64 = 0 := by rw [padTo_len]; unfold zerosFor; omega

def startS : S8 := ⟨0x6a09e667, 0xbb67ae85, 0x3c6ef372, 0xa54ff53a, 0x510e527f, 0x9b05688c, 0x1f83d9ab, 0x5be0cd19⟩
def endOf (s : S8) (rest : List UInt8) (many : Nat) : List UInt8 := text8 (overS s (padTo rest many))
/-- P1.3 -/
def sha (b : List UInt8) : List UInt8 := endOf (overS startS b) (restOf b) b.length
theorem sha_len (b : List UInt8) : (sha b).length = 32 := rfl

/-! ### seals -/
def keyOf (key : List UInt8) : List UInt8 := if 64 < key.length then sha key else key
theorem keyOf_len (key : List UInt8) : (keyOf key).length ≤ 64 := by
  unfold keyOf; split
  · rw [sha_len]; omega
  · omega
def xorPad (x : UInt8) (key : List UInt8) : List UInt8 := (List.range 64).map fun i => key.getD i 0 ^^^ x
theorem xorPad_len (x : UInt8) (key : List UInt8) : (xorPad x key).length = 64 := by unfold xorPad; simp
/-- P1.5 -/
def seal' (key b : List UInt8) : List UInt8 := sha (xorPad 0x5c (keyOf key) ++ sha (xorPad 0x36 (keyOf key) ++ b))
theorem seal_len (key b : List UInt8) : (seal' key b).length = 32 := rfl

/-! ### digits -/
def hexL : List UInt8 := [48, 49, 50, 51, 52, 53, 54, 55, 56, 57, 97, 98, 99, 100, 101, 102]
def hexD (n : Nat) : UInt8 := hexL.getD n 0
/-- P1.6 -/
def hexOf (b : List UInt8) : List UInt8 := b.flatMap fun c => [hexD (c.toNat / 16), hexD (c.toNat % 16)]
theorem hexOf_len (b : List UInt8) : (hexOf b).length = 2 * b.length := by
  unfold hexOf
  induction b with
  | nil => rfl
  | cons c r ih => rw [List.flatMap_cons, List.length_append, ih]; simp only [List.length_cons, List.length_nil]; omega
theorem hexOf_snoc (b : List UInt8) (c : UInt8) : hexOf (b ++ [c]) = hexOf b ++ [hexD (c.toNat / 16), hexD (c.toNat % 16)] := by
  unfold hexOf; rw [List.flatMap_append]; rfl
/-- what a digit counts; 16: it is none -/
def unD (c : UInt8) : Nat := if 48 ≤ c.toNat ∧ c.toNat ≤ 57 then c.toNat - 48 else if 97 ≤ c.toNat ∧ c.toNat ≤ 102 then c.toNat - 87 else 16
theorem unD_le (c : UInt8) : unD c ≤ 16 := by unfold unD; split; omega; split <;> omega
/-- P1.6 -/
def unhex : List UInt8 → Option (List UInt8)
  | [] => some []
  | [_] => none
  | a :: b :: r => if unD a < 16 ∧ unD b < 16 then (unhex r).map (UInt8.ofNat (unD a * 16 + unD b) :: ·) else none
end Go.Proofs.YtdpombnelangjaaGreatDoor
