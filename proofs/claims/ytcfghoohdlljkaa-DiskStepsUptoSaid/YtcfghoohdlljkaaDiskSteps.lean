/-
  law.DiskSteps: the walk, at every step.
-/
import Derived.Test.YtcfghoohdlljkaaDiskSteps0
import Derived.Test.YtcfghoohdlljkaaDiskSteps1
import Derived.Test.YtcfghoohdlljkaaDiskSteps2
import Derived.Test.YtcfghoohdlljkaaDiskSteps3
namespace Go.Proofs.Ytcfghoohdlljkaa
open Go.RowKit

theorem diskSteps_walk (what : Int) (A : Option Addr) (cap : Nat) (fs : List Fl) (f : Int) (name s : List UInt8) (W : World) (hk : -9223372036854775808 ≤ what ∧ what ≤ 9223372036854775807) (hd : DiskIn W A cap fs f) (hb1 : name.length ≤ 1048576) (hb2 : s.length ≤ 1048576) :
    Calls Try.prog 5 #[.int .i64 what, diskV A fs.length cap f, .string (bs name), .string (bs s)] W fun e W' => e = .returned (.bool true) ∧ Gr W W' := by
  have h : what % 4 = 0 ∨ what % 4 = 1 ∨ what % 4 = 2 ∨ what % 4 = 3 := by omega
  rcases h with h | h | h | h
  · exact steps0_walk what A cap fs f name s W hd hb1 hb2 hk h
  · exact steps1_walk what A cap fs f name s W hd hb1 hb2 hk h
  · exact steps2_walk what A cap fs f name s W hd hb1 hb2 hk h
  · exact steps3_walk what A cap fs f name s W hd hb1 hb2 hk h
end Go.Proofs.Ytcfghoohdlljkaa
