/-
  Plain mathematics of SHA-256's block (P1.2), both ways: no program in sight. No conditions.
-/
import Derived.Test.YtebbeapfjahgdaaDoorTurn
namespace Go.Proofs.YtebbeapfjahgdaaDoor
def kTab : List UInt32 := [1116352408, 1899447441, 3049323471, 3921009573, 961987163, 1508970993, 2453635748, 2870763221, 3624381080, 310598401, 607225278, 1426881987, 1925078388, 2162078206, 2614888103, 3248222580, 3835390401, 4022224774, 264347078, 604807628, 770255983, 1249150122, 1555081692, 1996064986, 2554220882, 2821834349, 2952996808, 3210313671, 3336571891, 3584528711, 113926993, 338241895, 666307205, 773529912, 1294757372, 1396182291, 1695183700, 1986661051, 2177026350, 2456956037, 2730485921, 2820302411, 3259730800, 3345764771, 3516065817, 3600352804, 4094571909, 275423344, 430227734, 506948616, 659060556, 883997877, 958139571, 1322822218, 1537002063, 1747873779, 1955562222, 2024104815, 2227730452, 2361852424, 2428436474, 2756734187, 3204031479, 3329325298]
/-- eight words -/
structure S8 where
  a : UInt32
  b : UInt32
  c : UInt32
  d : UInt32
  e : UInt32
  f : UInt32
  g : UInt32
  h : UInt32
def ep1 (e : UInt32) : UInt32 := rotr e 6 ^^^ rotr e 11 ^^^ rotr e 25
def ep0 (a : UInt32) : UInt32 := rotr a 2 ^^^ rotr a 13 ^^^ rotr a 22
def chP (e f g : UInt32) : UInt32 := (e &&& f) ^^^ (~~~e &&& g)
def mjP (a b c : UInt32) : UInt32 := (a &&& b) ^^^ (a &&& c) ^^^ (b &&& c)
def tOf (k w : UInt32) (s : S8) : UInt32 := s.h + ep1 s.e + chP s.e s.f s.g + k + w
def uOf (s : S8) : UInt32 := ep0 s.a + mjP s.a s.b s.c
def round (k w : UInt32) (s : S8) : S8 := ⟨tOf k w s + uOf s, s.a, s.b, s.c, s.d + tOf k w s, s.e, s.f, s.g⟩
/-! ### the document's other spellings -/
end Go.Proofs.YtebbeapfjahgdaaDoor
