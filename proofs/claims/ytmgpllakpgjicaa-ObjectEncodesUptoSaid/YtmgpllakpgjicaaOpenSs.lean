/-
  How a slice of strings is opened. No conditions: a library text.
-/
import Derived.Test.YtmgpllakpgjicaaOpen
namespace Go.Proofs.Ytmgpllakpgjicaa
set_option maxRecDepth 100000
open Go.RowKit Go.ChangeShapes Go.WideShapes
theorem flat_single {α β : Type} (f : α → β) : ∀ xs : List α, xs.flatMap (fun l => [f l]) = xs.map f
  | [] => rfl
  | x :: r => by rw [List.flatMap_cons, flat_single f r]; rfl
end Go.Proofs.Ytmgpllakpgjicaa
