/- The document's examples of chapter 25, in plain Lean. -/
import Derived.Test.YtigkfdoeneemeaaSur2
import Derived.Test.YtigkfdoeneemeaaFrP
namespace Go.Proofs.Ytigkfdoeneemeaa
open Go.RowKit

def awkN : List Int := [0, 1, 1, 0, 2, 2]
def awkS (i : Nat) : Int := cmpF ((wholeR awkN).getD i ⟨false, [], []⟩) ((wholeR awkN).getD (i - 1) ⟨false, [], []⟩)
theorem awkW : wats awkS 6 6 = [(1, 2, true), (3, 3, false)] := by decide +kernel
def awkF : List (Nat × Nat) := [(0, 4591870180066957722), (4607182418800017408, 4591870180066957722), (0, 4591870180066957722)]
theorem awkT : tks (isTop awkF) 7 3 = [8] ∧ tks (isBot awkF) 7 3 = [] ∧ tks (isDbt awkF) 7 3 = [] := by decide +kernel
end Go.Proofs.Ytigkfdoeneemeaa
