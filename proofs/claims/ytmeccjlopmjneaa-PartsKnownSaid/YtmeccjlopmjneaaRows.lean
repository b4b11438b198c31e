/-
  No cell of these rows narrows 'for every input' (looked for: loops, veiled, ifaces, maps, wideKeys, modest, calm, conditions, laid).
  DERIVED. THE GIVEN ROWS OF THIS SEAT. 9 by the template 'for every input the law returns true; each argument reads behind the call as it read before'; 0 by the template 'total and deterministic' (their statements: YtmeccjlopmjneaaTotals.lean).
  GIVEN WITH THE SEED: the statements are not yours to turn. If you find one false, say at which input.
  Laid BY PROGRAM, IN A SANDBOX (cutbox-rows.mjs): the forced cells as the released guide's own fill.sh prints them over the translation e6701a02b6b361cf… (all of the seat's roots in one cut). By AI agents, Wed Nov 11 2026. No macro, syntax, notation, axiom, sorry.
-/
import Derived.Test.YtmeccjlopmjneaaChecked
import GoSem.Claim
import GoSem.ClaimJoined
import GoSem.ClaimMapViews
import Derived.JoinedTies
import Derived.KernelRfl
namespace Go.Proofs.Ytmeccjlopmjneaa
/- THE CELL 'sum', in the pinned program and in every row, IS THE sha256 OF THE DUMP (.gsa) THAT YtmeccjlopmjneaaProg.lean LOADS. Nothing in Lean hashes anything: it is a label: what it is worth is what the hold of that sum in a sandbox is worth. -/
noncomputable def Try.pinned : Pinned := { name := "ytmeccjlopmjneaa", sum := "e6701a02b6b361cf83216b3cfa682dbe2310628c79be8330fc762b0b50c67969", checked := Try.checked }
namespace Rows
def none {H : Type} : Left H := { results := [], args := [] }

/-- 'slackwaterlaw07.PartsKnown': WHATEVER THE INPUT: true; the input reads as it did. -/
def partsKnownSpec : ChangeSpec := { name := "partsKnown", fn := fun _ => fun
  | [] => { results := [.lit (.bool true)], args := [] }
  | _ => none }
def partsKnownRow : OpenClaim := { program := "ytmeccjlopmjneaa", sum := "e6701a02b6b361cf83216b3cfa682dbe2310628c79be8330fc762b0b50c67969", func := "slackwater/slackwaterlaw07.PartsKnown", spec := "partsKnown", inPlace := ["math.Float64frombits", "math.Float64bits", "math.sqrt"], plainKeys := false, apart := false }
def PartsKnownSaid : Prop := partsKnownRow.holds Try.pinned (OpenSpec.ofChange partsKnownSpec)

/-- ITS FALSE NEIGHBOUR: 'it returns false'. Refute it at one input. -/
def partsKnownWrong : ChangeSpec := { name := "partsKnown", fn := fun _ => fun
  | [] => { results := [.lit (.bool false)], args := [] }
  | _ => none }
def PartsKnownWrongFalsely : Prop := partsKnownRow.holds Try.pinned (OpenSpec.ofChange partsKnownWrong)

/-- 'slackwaterlaw06.RealExact': WHATEVER THE INPUT: true; the input reads as it did. -/
def realExactSpec : ChangeSpec := { name := "realExact", fn := fun _ => fun
  | [d1, d2] => { results := [.lit (.bool true)], args := [d1, d2] }
  | _ => none }
def realExactRow : OpenClaim := { program := "ytmeccjlopmjneaa", sum := "e6701a02b6b361cf83216b3cfa682dbe2310628c79be8330fc762b0b50c67969", func := "slackwater/slackwaterlaw06.RealExact", spec := "realExact", inPlace := ["math.Float64bits", "math.Float64frombits"], plainKeys := false, apart := false }
def RealExactSaid : Prop := realExactRow.holds Try.pinned (OpenSpec.ofChange realExactSpec)

/-- ITS FALSE NEIGHBOUR: 'it returns false'. Refute it at one input. -/
def realExactWrong : ChangeSpec := { name := "realExact", fn := fun _ => fun
  | [d1, d2] => { results := [.lit (.bool false)], args := [d1, d2] }
  | _ => none }
def RealExactWrongFalsely : Prop := realExactRow.holds Try.pinned (OpenSpec.ofChange realExactWrong)

/-- 'slackwaterlaw22.SolveTurns': WHATEVER THE INPUT: true; the input reads as it did. -/
def solveTurnsSpec : ChangeSpec := { name := "solveTurns", fn := fun _ => fun
  | [d1, d2, d3, d4] => { results := [.lit (.bool true)], args := [d1, d2, d3, d4] }
  | _ => none }
def solveTurnsRow : OpenClaim := { program := "ytmeccjlopmjneaa", sum := "e6701a02b6b361cf83216b3cfa682dbe2310628c79be8330fc762b0b50c67969", func := "slackwater/slackwaterlaw22.SolveTurns", spec := "solveTurns", unfollowed := true, recurses := true, plainKeys := false, apart := false }
def SolveTurnsSaid : Prop := solveTurnsRow.holds Try.pinned (OpenSpec.ofChange solveTurnsSpec)

/-- ITS FALSE NEIGHBOUR: 'it returns false'. Refute it at one input. -/
def solveTurnsWrong : ChangeSpec := { name := "solveTurns", fn := fun _ => fun
  | [d1, d2, d3, d4] => { results := [.lit (.bool false)], args := [d1, d2, d3, d4] }
  | _ => none }
def SolveTurnsWrongFalsely : Prop := solveTurnsRow.holds Try.pinned (OpenSpec.ofChange solveTurnsWrong)

/-- 'slackwaterlaw22.SolveKnown': WHATEVER THE INPUT: true; the input reads as it did. -/
def solveKnownSpec : ChangeSpec := { name := "solveKnown", fn := fun _ => fun
  | [] => { results := [.lit (.bool true)], args := [] }
  | _ => none }
def solveKnownRow : OpenClaim := { program := "ytmeccjlopmjneaa", sum := "e6701a02b6b361cf83216b3cfa682dbe2310628c79be8330fc762b0b50c67969", func := "slackwater/slackwaterlaw22.SolveKnown", spec := "solveKnown", unfollowed := true, recurses := true, plainKeys := false, apart := false }
def SolveKnownSaid : Prop := solveKnownRow.holds Try.pinned (OpenSpec.ofChange solveKnownSpec)

/-- ITS FALSE NEIGHBOUR: 'it returns false'. Refute it at one input. -/
def solveKnownWrong : ChangeSpec := { name := "solveKnown", fn := fun _ => fun
  | [] => { results := [.lit (.bool false)], args := [] }
  | _ => none }
def SolveKnownWrongFalsely : Prop := solveKnownRow.holds Try.pinned (OpenSpec.ofChange solveKnownWrong)

/-- 'slackwaterlaw25.WaterLonger': WHATEVER THE INPUT: true; the input reads as it did. -/
def waterLongerSpec : ChangeSpec := { name := "waterLonger", fn := fun _ => fun
  | [d1, d2, d3, d4, d5] => { results := [.lit (.bool true)], args := [d1, d2, d3, d4, d5] }
  | _ => none }
def waterLongerRow : OpenClaim := { program := "ytmeccjlopmjneaa", sum := "e6701a02b6b361cf83216b3cfa682dbe2310628c79be8330fc762b0b50c67969", func := "slackwater/slackwaterlaw25.WaterLonger", spec := "waterLonger", plainKeys := false, apart := false }
def WaterLongerSaid : Prop := waterLongerRow.holds Try.pinned (OpenSpec.ofChange waterLongerSpec)

/-- ITS FALSE NEIGHBOUR: 'it returns false'. Refute it at one input. -/
def waterLongerWrong : ChangeSpec := { name := "waterLonger", fn := fun _ => fun
  | [d1, d2, d3, d4, d5] => { results := [.lit (.bool false)], args := [d1, d2, d3, d4, d5] }
  | _ => none }
def WaterLongerWrongFalsely : Prop := waterLongerRow.holds Try.pinned (OpenSpec.ofChange waterLongerWrong)

/-- 'slackwaterlaw06.RealNearest': WHATEVER THE INPUT: true; the input reads as it did. -/
def realNearestSpec : ChangeSpec := { name := "realNearest", fn := fun _ => fun
  | [d] => { results := [.lit (.bool true)], args := [d] }
  | _ => none }
def realNearestRow : OpenClaim := { program := "ytmeccjlopmjneaa", sum := "e6701a02b6b361cf83216b3cfa682dbe2310628c79be8330fc762b0b50c67969", func := "slackwater/slackwaterlaw06.RealNearest", spec := "realNearest", inPlace := ["math.Float64bits", "math.Float64frombits"], plainKeys := false, apart := false }
def RealNearestSaid : Prop := realNearestRow.holds Try.pinned (OpenSpec.ofChange realNearestSpec)

/-- ITS FALSE NEIGHBOUR: 'it returns false'. Refute it at one input. -/
def realNearestWrong : ChangeSpec := { name := "realNearest", fn := fun _ => fun
  | [d] => { results := [.lit (.bool false)], args := [d] }
  | _ => none }
def RealNearestWrongFalsely : Prop := realNearestRow.holds Try.pinned (OpenSpec.ofChange realNearestWrong)

/-- 'slackwaterlaw22.SolveBack': WHATEVER THE INPUT: true; the input reads as it did. -/
def solveBackSpec : ChangeSpec := { name := "solveBack", fn := fun _ => fun
  | [d1, d2] => { results := [.lit (.bool true)], args := [d1, d2] }
  | _ => none }
def solveBackRow : OpenClaim := { program := "ytmeccjlopmjneaa", sum := "e6701a02b6b361cf83216b3cfa682dbe2310628c79be8330fc762b0b50c67969", func := "slackwater/slackwaterlaw22.SolveBack", spec := "solveBack", unfollowed := true, recurses := true, plainKeys := false, apart := false }
def SolveBackSaid : Prop := solveBackRow.holds Try.pinned (OpenSpec.ofChange solveBackSpec)

/-- ITS FALSE NEIGHBOUR: 'it returns false'. Refute it at one input. -/
def solveBackWrong : ChangeSpec := { name := "solveBack", fn := fun _ => fun
  | [d1, d2] => { results := [.lit (.bool false)], args := [d1, d2] }
  | _ => none }
def SolveBackWrongFalsely : Prop := solveBackRow.holds Try.pinned (OpenSpec.ofChange solveBackWrong)

/-- 'slackwaterlaw06.RealNames': WHATEVER THE INPUT: true; the input reads as it did. -/
def realNamesSpec : ChangeSpec := { name := "realNames", fn := fun _ => fun
  | [] => { results := [.lit (.bool true)], args := [] }
  | _ => none }
def realNamesRow : OpenClaim := { program := "ytmeccjlopmjneaa", sum := "e6701a02b6b361cf83216b3cfa682dbe2310628c79be8330fc762b0b50c67969", func := "slackwater/slackwaterlaw06.RealNames", spec := "realNames", inPlace := ["math.Float64bits", "math.Float64frombits"], plainKeys := false, apart := false }
def RealNamesSaid : Prop := realNamesRow.holds Try.pinned (OpenSpec.ofChange realNamesSpec)

/-- ITS FALSE NEIGHBOUR: 'it returns false'. Refute it at one input. -/
def realNamesWrong : ChangeSpec := { name := "realNames", fn := fun _ => fun
  | [] => { results := [.lit (.bool false)], args := [] }
  | _ => none }
def RealNamesWrongFalsely : Prop := realNamesRow.holds Try.pinned (OpenSpec.ofChange realNamesWrong)

/-- 'slackwaterlaw07.PartsBack': WHATEVER THE INPUT: true; the input reads as it did. -/
def partsBackSpec : ChangeSpec := { name := "partsBack", fn := fun _ => fun
  | [d1, d2] => { results := [.lit (.bool true)], args := [d1, d2] }
  | _ => none }
def partsBackRow : OpenClaim := { program := "ytmeccjlopmjneaa", sum := "e6701a02b6b361cf83216b3cfa682dbe2310628c79be8330fc762b0b50c67969", func := "slackwater/slackwaterlaw07.PartsBack", spec := "partsBack", inPlace := ["math.Float64bits", "math.Float64frombits", "math.sqrt"], plainKeys := false, apart := false }
def PartsBackSaid : Prop := partsBackRow.holds Try.pinned (OpenSpec.ofChange partsBackSpec)

/-- ITS FALSE NEIGHBOUR: 'it returns false'. Refute it at one input. -/
def partsBackWrong : ChangeSpec := { name := "partsBack", fn := fun _ => fun
  | [d1, d2] => { results := [.lit (.bool false)], args := [d1, d2] }
  | _ => none }
def PartsBackWrongFalsely : Prop := partsBackRow.holds Try.pinned (OpenSpec.ofChange partsBackWrong)

/- THE SECOND FORM. 'bulk': how many values and letters a reading holds, each counted each time it is reached (what is shared counts as often as it is met; a slice's spare places count too). A statement '..UptoSaid' is the law's where the arguments, and the package variables that the reading takes, are together of bulk at most 1048576: NARROWER than '..Said'. Prove '..Said' where nothing that the law and all that it calls make is longer than what came in: it says more and counts as full. Else prove '..UptoSaid'. A law counts once. -/
mutual
def uptoBulk {H : Type} : DataW H → Nat
  | .lit (.string bytes) => bytes.length + 1
  | .lit _ => 1
  | .nil => 1
  | .ptr d => uptoBulk d + 1
  | .slice elems spare => uptoBulkAll elems + uptoBulkAll spare + 1
  | .agg parts => uptoBulkAll parts + 1
  | .iface _ d => uptoBulk d + 1
  | .map entries => uptoBulkEntries entries + 1
  | .held _ => 1
def uptoBulkAll {H : Type} : List (DataW H) → Nat
  | [] => 0
  | d :: r => uptoBulk d + uptoBulkAll r
def uptoBulkEntries {H : Type} : List (Lit × DataW H) → Nat
  | [] => 0
  | x :: r => uptoBulkEntry x + uptoBulkEntries r
def uptoBulkEntry {H : Type} : Lit × DataW H → Nat
  | (.string bytes, d) => bytes.length + uptoBulk d + 1
  | (_, d) => uptoBulk d + 1
 end
def uptoSmall : (H : Type) → List (DataW H) → Bool := fun _ ds => decide (uptoBulkAll ds ≤ 1048576)
def OpenSpec.upto (s : _root_.Go.ChangeSpec) : _root_.Go.OpenSpec := { _root_.Go.OpenSpec.ofChange s with cond := some uptoSmall }

/-- 'slackwaterlaw07.PartsKnown', WHERE WHAT IT READS IS OF BULK AT MOST 1048576: true; the input reads as it did. -/
def partsKnownUptoRow : OpenClaim := { program := "ytmeccjlopmjneaa", sum := "e6701a02b6b361cf83216b3cfa682dbe2310628c79be8330fc762b0b50c67969", func := "slackwater/slackwaterlaw07.PartsKnown", spec := "partsKnown", inPlace := ["math.Float64frombits", "math.Float64bits", "math.sqrt"], plainKeys := false, apart := false, narrowed := true }
def PartsKnownUptoSaid : Prop := partsKnownUptoRow.holds Try.pinned (OpenSpec.upto partsKnownSpec)

/-- 'slackwaterlaw06.RealExact', WHERE WHAT IT READS IS OF BULK AT MOST 1048576: true; the input reads as it did. -/
def realExactUptoRow : OpenClaim := { program := "ytmeccjlopmjneaa", sum := "e6701a02b6b361cf83216b3cfa682dbe2310628c79be8330fc762b0b50c67969", func := "slackwater/slackwaterlaw06.RealExact", spec := "realExact", inPlace := ["math.Float64bits", "math.Float64frombits"], plainKeys := false, apart := false, narrowed := true }
def RealExactUptoSaid : Prop := realExactUptoRow.holds Try.pinned (OpenSpec.upto realExactSpec)

/-- 'slackwaterlaw22.SolveTurns', WHERE WHAT IT READS IS OF BULK AT MOST 1048576: true; the input reads as it did. -/
def solveTurnsUptoRow : OpenClaim := { program := "ytmeccjlopmjneaa", sum := "e6701a02b6b361cf83216b3cfa682dbe2310628c79be8330fc762b0b50c67969", func := "slackwater/slackwaterlaw22.SolveTurns", spec := "solveTurns", unfollowed := true, recurses := true, plainKeys := false, apart := false, narrowed := true }
def SolveTurnsUptoSaid : Prop := solveTurnsUptoRow.holds Try.pinned (OpenSpec.upto solveTurnsSpec)

/-- 'slackwaterlaw22.SolveKnown', WHERE WHAT IT READS IS OF BULK AT MOST 1048576: true; the input reads as it did. -/
def solveKnownUptoRow : OpenClaim := { program := "ytmeccjlopmjneaa", sum := "e6701a02b6b361cf83216b3cfa682dbe2310628c79be8330fc762b0b50c67969", func := "slackwater/slackwaterlaw22.SolveKnown", spec := "solveKnown", unfollowed := true, recurses := true, plainKeys := false, apart := false, narrowed := true }
def SolveKnownUptoSaid : Prop := solveKnownUptoRow.holds Try.pinned (OpenSpec.upto solveKnownSpec)

/-- 'slackwaterlaw25.WaterLonger', WHERE WHAT IT READS IS OF BULK AT MOST 1048576: true; the input reads as it did. -/
def waterLongerUptoRow : OpenClaim := { program := "ytmeccjlopmjneaa", sum := "e6701a02b6b361cf83216b3cfa682dbe2310628c79be8330fc762b0b50c67969", func := "slackwater/slackwaterlaw25.WaterLonger", spec := "waterLonger", plainKeys := false, apart := false, narrowed := true }
def WaterLongerUptoSaid : Prop := waterLongerUptoRow.holds Try.pinned (OpenSpec.upto waterLongerSpec)

/-- 'slackwaterlaw06.RealNearest', WHERE WHAT IT READS IS OF BULK AT MOST 1048576: true; the input reads as it did. -/
def realNearestUptoRow : OpenClaim := { program := "ytmeccjlopmjneaa", sum := "e6701a02b6b361cf83216b3cfa682dbe2310628c79be8330fc762b0b50c67969", func := "slackwater/slackwaterlaw06.RealNearest", spec := "realNearest", inPlace := ["math.Float64bits", "math.Float64frombits"], plainKeys := false, apart := false, narrowed := true }
def RealNearestUptoSaid : Prop := realNearestUptoRow.holds Try.pinned (OpenSpec.upto realNearestSpec)

/-- 'slackwaterlaw22.SolveBack', WHERE WHAT IT READS IS OF BULK AT MOST 1048576: true; the input reads as it did. -/
def solveBackUptoRow : OpenClaim := { program := "ytmeccjlopmjneaa", sum := "e6701a02b6b361cf83216b3cfa682dbe2310628c79be8330fc762b0b50c67969", func := "slackwater/slackwaterlaw22.SolveBack", spec := "solveBack", unfollowed := true, recurses := true, plainKeys := false, apart := false, narrowed := true }
def SolveBackUptoSaid : Prop := solveBackUptoRow.holds Try.pinned (OpenSpec.upto solveBackSpec)

/-- 'slackwaterlaw06.RealNames', WHERE WHAT IT READS IS OF BULK AT MOST 1048576: true; the input reads as it did. -/
def realNamesUptoRow : OpenClaim := { program := "ytmeccjlopmjneaa", sum := "e6701a02b6b361cf83216b3cfa682dbe2310628c79be8330fc762b0b50c67969", func := "slackwater/slackwaterlaw06.RealNames", spec := "realNames", inPlace := ["math.Float64bits", "math.Float64frombits"], plainKeys := false, apart := false, narrowed := true }
def RealNamesUptoSaid : Prop := realNamesUptoRow.holds Try.pinned (OpenSpec.upto realNamesSpec)

/-- 'slackwaterlaw07.PartsBack', WHERE WHAT IT READS IS OF BULK AT MOST 1048576: true; the input reads as it did. -/
def partsBackUptoRow : OpenClaim := { program := "ytmeccjlopmjneaa", sum := "e6701a02b6b361cf83216b3cfa682dbe2310628c79be8330fc762b0b50c67969", func := "slackwater/slackwaterlaw07.PartsBack", spec := "partsBack", inPlace := ["math.Float64bits", "math.Float64frombits", "math.sqrt"], plainKeys := false, apart := false, narrowed := true }
def PartsBackUptoSaid : Prop := partsBackUptoRow.holds Try.pinned (OpenSpec.upto partsBackSpec)

end Rows
end Go.Proofs.Ytmeccjlopmjneaa
