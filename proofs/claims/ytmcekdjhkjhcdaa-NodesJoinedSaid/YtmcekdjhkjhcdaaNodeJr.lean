import Derived.Test.YtmcekdjhkjhcdaaNodeJq
/- NodesJoined's walk: two lists, one behind the other, are a list, and measure as both together. Conditions: those that each theorem names. -/
namespace Go.Proofs.Ytmcekdjhkjhcdaa.No
open Go.ChangeShapes Go.WideShapes Go.ChangeAt Go.RowKit
open Me Np
set_option linter.unusedVariables false

theorem joined_walk (A B : Option Addr) (a b : List Nd) (c d : Nat) (down : Bool) (w : World) (ha : a.length ≤ 879609302220) (hb : b.length ≤ 879609302220) (hca : a.length ≤ c) (hcb : b.length ≤ d) (hA : A = none → c = 0) (hB : B = none → d = 0) (hsa : Seg w w.heap.size A (a.flatMap ncs)) (hsb : Seg w w.heap.size B (b.flatMap ncs)) :
    Calls Try.prog 4 #[.slice A a.length c, .slice B b.length d, .bool down] w fun e w' => e = .returned (.bool true) ∧ Below w.heap.size w w' := by
  by_cases h : ¬ chk a = 0 ∨ ¬ chk b = 0 ∨ 2000 < a.length + b.length
  · exact joined_none A B a b c d down w (by omega) (by omega) (by omega) hsa hsb h
  · simp only [not_or, Classical.not_not] at h
    exact joined_ok A B a b c d down w hca hcb hA hB hsa hsb h.1 h.2.1 (by omega)
end Go.Proofs.Ytmcekdjhkjhcdaa.No
