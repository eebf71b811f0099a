/-
  Plain mathematics of SHA-256's block (P1.2), both ways: no program in sight. No conditions.
-/
import Derived.Test.YtdpombnelangjaaGreatDoorTurn
namespace Go.Proofs.YtdpombnelangjaaGreatDoor
def kTab : List UInt32 := [1116352408, 1899447441, 3049323471, 3921009573, 961987163, 1508970993, 2453635748, 2870763221, 3624381080, 310598401, 607225278, 1426881987, 1925078388, 2162078206, 2614888103, 3248222580, 3835390401, 4022224774, 264347078, 604807628, 770255983, 1249150122, 1555081692, 1996064986, 2554220882, 2821834349, 2952996808, 3210313671, 3336571891, 3584528711, 113926993, 338241895, 666307205, 773529912, 1294757372, 1396182291, 1695183700, 1986661051, 2177026350, 2456956037, 2730485921, 2820302411, 3259730800, 3345764771, 3516065817, 3600352804, 4094571909, 275423344, 430227734, 506948616, 659060556, 883997877, 958139571, 1322822218, 1537002063, 1747873779, 1955562222, 2024104815, 2227730452, 2361852424, 2428436474, 2756734187, 3204031479, 3329325298]
theorem kTab_len : kTab.length = 64 := by decide
def kAt (i : Nat) : UInt32 := kTab.getD i 0
/-- four bytes of a text -/
def byteAt (b : List UInt8) (i : Nat) : Nat := (b.getD i 0).toNat
def wordAt (b : List UInt8) (i : Nat) : UInt32 := UInt32.ofNat (byteAt b i * 16777216 + byteAt b (i + 1) * 65536 + byteAt b (i + 2) * 256 + byteAt b (i + 3))
theorem byteAt_lt (b : List UInt8) (i : Nat) : byteAt b i < 256 := (b.getD i 0).toNat_lt
theorem wordAt_toNat (b : List UInt8) (i : Nat) : (wordAt b i).toNat = byteAt b i * 16777216 + byteAt b (i + 1) * 65536 + byteAt b (i + 2) * 256 + byteAt b (i + 3) := by
  have h0 := byteAt_lt b i
  have h1 := byteAt_lt b (i + 1)
  have h2 := byteAt_lt b (i + 2)
  have h3 := byteAt_lt b (i + 3)
  unfold wordAt
  simp
  omega
def sg0 (x : UInt32) : UInt32 := rotr x 7 ^^^ rotr x 18 ^^^ shr x 3
def sg1 (x : UInt32) : UInt32 := rotr x 17 ^^^ rotr x 19 ^^^ shr x 10
/-- the words of the rounds -/
def wSched (b : List UInt8) (t : Nat) : UInt32 :=
  if h : t < 16 then wordAt b (4 * t) else wSched b (t - 16) + sg0 (wSched b (t - 15)) + wSched b (t - 7) + sg1 (wSched b (t - 2))
termination_by t
decreasing_by all_goals omega
theorem wSched_lo {b : List UInt8} {t : Nat} (h : t < 16) : wSched b t = wordAt b (4 * t) := by rw [wSched, dif_pos h]
theorem wSched_hi {b : List UInt8} {t : Nat} (h : ¬ t < 16) : wSched b t = wSched b (t - 16) + sg0 (wSched b (t - 15)) + wSched b (t - 7) + sg1 (wSched b (t - 2)) := by rw [wSched, dif_neg h]

/-- eight words -/
structure S8 where
  a : UInt32
  b : UInt32
  c : UInt32
  d : UInt32
  e : UInt32
  f : UInt32
  g : UInt32
  h : UInt32
def ep1 (e : UInt32) : UInt32 := rotr e 6 ^^^ rotr e 11 ^^^ rotr e 25
def ep0 (a : UInt32) : UInt32 := rotr a 2 ^^^ rotr a 13 ^^^ rotr a 22
def chP (e f g : UInt32) : UInt32 := (e &&& f) ^^^ (~~~e &&& g)
def mjP (a b c : UInt32) : UInt32 := (a &&& b) ^^^ (a &&& c) ^^^ (b &&& c)
def tOf (k w : UInt32) (s : S8) : UInt32 := s.h + ep1 s.e + chP s.e s.f s.g + k + w
def uOf (s : S8) : UInt32 := ep0 s.a + mjP s.a s.b s.c
def round (k w : UInt32) (s : S8) : S8 := ⟨tOf k w s + uOf s, s.a, s.b, s.c, s.d + tOf k w s, s.e, s.f, s.g⟩
def rounds (b : List UInt8) (s : S8) : Nat → S8
  | 0 => s
  | t + 1 => round (kAt t) (wSched b t) (rounds b s t)
def addS (x y : S8) : S8 := ⟨x.a + y.a, x.b + y.b, x.c + y.c, x.d + y.d, x.e + y.e, x.f + y.f, x.g + y.g, x.h + y.h⟩
def blockS (s : S8) (b : List UInt8) : S8 := addS s (rounds b s 64)
def S8.list (s : S8) : List UInt32 := [s.a, s.b, s.c, s.d, s.e, s.f, s.g, s.h]
theorem S8.list_len (s : S8) : s.list.length = 8 := rfl

/-- the round's two words as the walk spells them -/
def tW (k w : UInt32) (s : S8) : UInt32 := addW (addW (addW (addW s.h (xorW (xorW (rotr s.e 6) (rotr s.e 11)) (rotr s.e 25))) (xorW (andW s.e s.f) (andW (notW s.e) s.g))) k) w
def uW (s : S8) : UInt32 := addW (xorW (xorW (rotr s.a 2) (rotr s.a 13)) (rotr s.a 22)) (xorW (xorW (andW s.a s.b) (andW s.a s.c)) (andW s.b s.c))
theorem tW_eq (k w : UInt32) (s : S8) : tW k w s = tOf k w s := by
  unfold tW
  rw [notW_eq]
  rfl
theorem uW_eq (s : S8) : uW s = uOf s := rfl
def addCells (x y : S8) (i : Nat) : Array Value := ((List.range 8).map fun m => u32V (if m < i then x.list.getD m 0 + y.list.getD m 0 else x.list.getD m 0)).toArray
theorem addCells_size (x y : S8) (i : Nat) : (addCells x y i).size = 8 := by unfold addCells; simp
theorem addCells_at (x y : S8) (i : Nat) (h : i < 8) : (addCells x y i)[i]? = some (.int .u32 ((x.list.getD i 0).toNat : Int)) := by
  unfold addCells
  simp [h, u32V]
theorem addCells_set (x y : S8) (n : Nat) : (addCells x y n).setIfInBounds n (u32V (addW (x.list.getD n 0) (y.list.getD n 0))) = addCells x y (n + 1) := by
  unfold addCells
  rw [List.setIfInBounds_toArray]
  congr 1
  apply List.ext_getElem
  · simp
  · intro i h1 h2
    rw [List.getElem_set]
    simp at h1 h2
    by_cases e : n = i
    · subst e; simp [addW]
    · have : (i < n) ↔ (i < n + 1) := by omega
      simp [e, this]

/-! ### the document's other spellings -/
theorem ch_eq (e f g : UInt32) : g ^^^ (e &&& (f ^^^ g)) = chP e f g := by
  unfold chP
  apply UInt32.eq_of_toBitVec_eq
  simp only [UInt32.toBitVec_xor, UInt32.toBitVec_and, UInt32.toBitVec_not]
  ext i hi
  simp only [BitVec.getElem_xor, BitVec.getElem_and, BitVec.getElem_not]
  cases e.toBitVec[i] <;> cases f.toBitVec[i] <;> cases g.toBitVec[i] <;> rfl
theorem mj_eq (a b c : UInt32) : (a &&& b) ||| (c &&& (a ||| b)) = mjP a b c := by
  unfold mjP
  apply UInt32.eq_of_toBitVec_eq
  simp only [UInt32.toBitVec_xor, UInt32.toBitVec_and, UInt32.toBitVec_or]
  ext i hi
  simp only [BitVec.getElem_xor, BitVec.getElem_and, BitVec.getElem_or]
  cases a.toBitVec[i] <;> cases b.toBitVec[i] <;> cases c.toBitVec[i] <;> rfl
end Go.Proofs.YtdpombnelangjaaGreatDoor
