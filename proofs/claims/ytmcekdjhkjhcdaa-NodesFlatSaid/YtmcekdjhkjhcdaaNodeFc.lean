import Derived.Test.YtmcekdjhkjhcdaaNodeFb
/- NodesFlat's walk. Conditions: those that each theorem names. -/
namespace Go.Proofs.Ytmcekdjhkjhcdaa.No
open Go.ChangeShapes Go.WideShapes Go.ChangeAt Go.RowKit
open Me Np
set_option linter.unusedVariables false

theorem flat_walk (A : Option Addr) (ns : List Nd) (c : Nat) (w : World) (hl : ns.length ≤ 879609302220) (hcap : ns.length ≤ c) (hseg : Seg w w.heap.size A (ns.flatMap ncs)) :
    Calls Try.prog 7 #[.slice A ns.length c] w fun e w' => e = .returned (.bool true) ∧ Below w.heap.size w w' := by
  by_cases h : chk ns = 0
  · exact flat_ok A ns c w hcap hseg h
  · exact flat_bad A ns c w (by omega) hseg h
end Go.Proofs.Ytmcekdjhkjhcdaa.No
