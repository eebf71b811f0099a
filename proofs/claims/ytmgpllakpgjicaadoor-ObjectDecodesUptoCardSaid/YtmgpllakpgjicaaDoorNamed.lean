/-
  disk.Named, cartularyref.fileName by their contracts.
-/
import Derived.Test.YtmgpllakpgjicaaDoorCFunc
import Derived.Test.YtmgpllakpgjicaaDoorBRow
namespace Go.Proofs.YtmgpllakpgjicaaDoor
open Go.RowKit
set_option linter.unusedVariables false
theorem enters_own {f : FuncId} {fn : Func} {c : Code} (hf : Tryd.prog.funcs[f]? = some fn) (hname : (fn.name == "runtime.NumGoroutine") = false) (hb : fn.body = some c) : ∀ args w, (callFunc f args).run Tryd.prog w = .ok (.enter f args) w := by
  intro args w
  have h1 : fn.name ≠ "runtime.NumGoroutine" := by simpa using hname
  simp [callFunc, hf, h1, hb, mark]
/-- may a byte stand in a file's name (P6.1) -/
def nameC (n : Nat) : Bool := (decide (97 ≤ n) && decide (n ≤ 122)) || (decide (48 ≤ n) && decide (n ≤ 57)) || (n == 46) || (n == 45)
def namedB (s : List UInt8) : Bool := decide (s.length ≠ 0 ∧ s.length ≤ 80) && s.all fun c => nameC c.toNat
end Go.Proofs.YtmgpllakpgjicaaDoor
