/-
  No cell of these rows narrows 'for every input' (looked for: loops, veiled, ifaces, maps, wideKeys, modest, calm, conditions, laid).
  DERIVED. THE GIVEN ROWS OF THIS SEAT. 12 by the template 'for every input the law returns true; each argument reads behind the call as it read before'; 0 by the template 'total and deterministic' (their statements: YtigkfdoeneemeaaTotals.lean).
  GIVEN WITH THE SEED: the statements are not yours to turn. If you find one false, say at which input.
  Laid BY PROGRAM, IN A SANDBOX (cutbox-rows.mjs): the forced cells as the released guide's own fill.sh prints them over the translation e21699290dd1e317… (all of the seat's roots in one cut). By AI agents, Wed Nov 11 2026. No macro, syntax, notation, axiom, sorry.
-/
import Derived.Test.YtigkfdoeneemeaaChecked
import GoSem.Claim
import GoSem.ClaimJoined
import GoSem.ClaimMapViews
import Derived.JoinedTies
import Derived.KernelRfl
namespace Go.Proofs.Ytigkfdoeneemeaa
/- THE CELL 'sum', in the pinned program and in every row, IS THE sha256 OF THE DUMP (.gsa) THAT YtigkfdoeneemeaaProg.lean LOADS. Nothing in Lean hashes anything: it is a label: what it is worth is what the hold of that sum in a sandbox is worth. -/
noncomputable def Try.pinned : Pinned := { name := "ytigkfdoeneemeaa", sum := "e21699290dd1e317bae6c4e8511813b1fe1757de5a25e5f9a74fcf4c1d8c45cc", checked := Try.checked }
namespace Rows
def none {H : Type} : Left H := { results := [], args := [] }

/-- 'slackwaterlaw16.HeightLower': WHATEVER THE INPUT: true; the input reads as it did. -/
def heightLowerSpec : ChangeSpec := { name := "heightLower", fn := fun _ => fun
  | [d1, d2, d3, d4] => { results := [.lit (.bool true)], args := [d1, d2, d3, d4] }
  | _ => none }
def heightLowerRow : OpenClaim := { program := "ytigkfdoeneemeaa", sum := "e21699290dd1e317bae6c4e8511813b1fe1757de5a25e5f9a74fcf4c1d8c45cc", func := "slackwater/slackwaterlaw16.HeightLower", spec := "heightLower", inPlace := ["math.Float64frombits"], apart := false }
def HeightLowerSaid : Prop := heightLowerRow.holds Try.pinned (OpenSpec.ofChange heightLowerSpec)

/-- ITS FALSE NEIGHBOUR: 'it returns false'. Refute it at one input. -/
def heightLowerWrong : ChangeSpec := { name := "heightLower", fn := fun _ => fun
  | [d1, d2, d3, d4] => { results := [.lit (.bool false)], args := [d1, d2, d3, d4] }
  | _ => none }
def HeightLowerWrongFalsely : Prop := heightLowerRow.holds Try.pinned (OpenSpec.ofChange heightLowerWrong)

/-- 'slackwaterlaw06.RealSums': WHATEVER THE INPUT: true; the input reads as it did. -/
def realSumsSpec : ChangeSpec := { name := "realSums", fn := fun _ => fun
  | [d1, d2, d3] => { results := [.lit (.bool true)], args := [d1, d2, d3] }
  | _ => none }
def realSumsRow : OpenClaim := { program := "ytigkfdoeneemeaa", sum := "e21699290dd1e317bae6c4e8511813b1fe1757de5a25e5f9a74fcf4c1d8c45cc", func := "slackwater/slackwaterlaw06.RealSums", spec := "realSums", inPlace := ["math.Float64frombits", "math.Float64bits"], apart := false }
def RealSumsSaid : Prop := realSumsRow.holds Try.pinned (OpenSpec.ofChange realSumsSpec)

/-- ITS FALSE NEIGHBOUR: 'it returns false'. Refute it at one input. -/
def realSumsWrong : ChangeSpec := { name := "realSums", fn := fun _ => fun
  | [d1, d2, d3] => { results := [.lit (.bool false)], args := [d1, d2, d3] }
  | _ => none }
def RealSumsWrongFalsely : Prop := realSumsRow.holds Try.pinned (OpenSpec.ofChange realSumsWrong)

/-- 'slackwaterlaw29.AlarmNil': WHATEVER THE INPUT: true; the input reads as it did. -/
def alarmNilSpec : ChangeSpec := { name := "alarmNil", fn := fun _ => fun
  | [d] => { results := [.lit (.bool true)], args := [d] }
  | _ => none }
def alarmNilRow : OpenClaim := { program := "ytigkfdoeneemeaa", sum := "e21699290dd1e317bae6c4e8511813b1fe1757de5a25e5f9a74fcf4c1d8c45cc", func := "slackwater/slackwaterlaw29.AlarmNil", spec := "alarmNil", inPlace := ["math.Float64bits", "math.Float64frombits"], apart := false }
def AlarmNilSaid : Prop := alarmNilRow.holds Try.pinned (OpenSpec.ofChange alarmNilSpec)

/-- ITS FALSE NEIGHBOUR: 'it returns false'. Refute it at one input. -/
def alarmNilWrong : ChangeSpec := { name := "alarmNil", fn := fun _ => fun
  | [d] => { results := [.lit (.bool false)], args := [d] }
  | _ => none }
def AlarmNilWrongFalsely : Prop := alarmNilRow.holds Try.pinned (OpenSpec.ofChange alarmNilWrong)

/-- 'slackwaterlaw29.AlarmTurns': WHATEVER THE INPUT: true; the input reads as it did. -/
def alarmTurnsSpec : ChangeSpec := { name := "alarmTurns", fn := fun _ => fun
  | [d1, d2, d3] => { results := [.lit (.bool true)], args := [d1, d2, d3] }
  | _ => none }
def alarmTurnsRow : OpenClaim := { program := "ytigkfdoeneemeaa", sum := "e21699290dd1e317bae6c4e8511813b1fe1757de5a25e5f9a74fcf4c1d8c45cc", func := "slackwater/slackwaterlaw29.AlarmTurns", spec := "alarmTurns", inPlace := ["math.Float64bits", "math.Float64frombits"], apart := false }
def AlarmTurnsSaid : Prop := alarmTurnsRow.holds Try.pinned (OpenSpec.ofChange alarmTurnsSpec)

/-- ITS FALSE NEIGHBOUR: 'it returns false'. Refute it at one input. -/
def alarmTurnsWrong : ChangeSpec := { name := "alarmTurns", fn := fun _ => fun
  | [d1, d2, d3] => { results := [.lit (.bool false)], args := [d1, d2, d3] }
  | _ => none }
def AlarmTurnsWrongFalsely : Prop := alarmTurnsRow.holds Try.pinned (OpenSpec.ofChange alarmTurnsWrong)

/-- 'slackwaterlaw29.AlarmWatch': WHATEVER THE INPUT: true; the input reads as it did. -/
def alarmWatchSpec : ChangeSpec := { name := "alarmWatch", fn := fun _ => fun
  | [d1, d2, d3] => { results := [.lit (.bool true)], args := [d1, d2, d3] }
  | _ => none }
def alarmWatchRow : OpenClaim := { program := "ytigkfdoeneemeaa", sum := "e21699290dd1e317bae6c4e8511813b1fe1757de5a25e5f9a74fcf4c1d8c45cc", func := "slackwater/slackwaterlaw29.AlarmWatch", spec := "alarmWatch", inPlace := ["math.Float64bits", "math.Float64frombits"], apart := false }
def AlarmWatchSaid : Prop := alarmWatchRow.holds Try.pinned (OpenSpec.ofChange alarmWatchSpec)

/-- ITS FALSE NEIGHBOUR: 'it returns false'. Refute it at one input. -/
def alarmWatchWrong : ChangeSpec := { name := "alarmWatch", fn := fun _ => fun
  | [d1, d2, d3] => { results := [.lit (.bool false)], args := [d1, d2, d3] }
  | _ => none }
def AlarmWatchWrongFalsely : Prop := alarmWatchRow.holds Try.pinned (OpenSpec.ofChange alarmWatchWrong)

/-- 'slackwaterlaw07.PartsCalls': WHATEVER THE INPUT: true; the input reads as it did. -/
def partsCallsSpec : ChangeSpec := { name := "partsCalls", fn := fun _ => fun
  | [d1, d2, d3] => { results := [.lit (.bool true)], args := [d1, d2, d3] }
  | _ => none }
def partsCallsRow : OpenClaim := { program := "ytigkfdoeneemeaa", sum := "e21699290dd1e317bae6c4e8511813b1fe1757de5a25e5f9a74fcf4c1d8c45cc", func := "slackwater/slackwaterlaw07.PartsCalls", spec := "partsCalls", inPlace := ["math.Float64frombits", "math.Float64bits", "math.sqrt"], apart := false }
def PartsCallsSaid : Prop := partsCallsRow.holds Try.pinned (OpenSpec.ofChange partsCallsSpec)

/-- ITS FALSE NEIGHBOUR: 'it returns false'. Refute it at one input. -/
def partsCallsWrong : ChangeSpec := { name := "partsCalls", fn := fun _ => fun
  | [d1, d2, d3] => { results := [.lit (.bool false)], args := [d1, d2, d3] }
  | _ => none }
def PartsCallsWrongFalsely : Prop := partsCallsRow.holds Try.pinned (OpenSpec.ofChange partsCallsWrong)

/-- 'slackwaterlaw07.PartsTurns': WHATEVER THE INPUT: true; the input reads as it did. -/
def partsTurnsSpec : ChangeSpec := { name := "partsTurns", fn := fun _ => fun
  | [d1, d2] => { results := [.lit (.bool true)], args := [d1, d2] }
  | _ => none }
def partsTurnsRow : OpenClaim := { program := "ytigkfdoeneemeaa", sum := "e21699290dd1e317bae6c4e8511813b1fe1757de5a25e5f9a74fcf4c1d8c45cc", func := "slackwater/slackwaterlaw07.PartsTurns", spec := "partsTurns", inPlace := ["math.Float64bits", "math.Float64frombits", "math.sqrt", "math.archMax"], apart := false }
def PartsTurnsSaid : Prop := partsTurnsRow.holds Try.pinned (OpenSpec.ofChange partsTurnsSpec)

/-- ITS FALSE NEIGHBOUR: 'it returns false'. Refute it at one input. -/
def partsTurnsWrong : ChangeSpec := { name := "partsTurns", fn := fun _ => fun
  | [d1, d2] => { results := [.lit (.bool false)], args := [d1, d2] }
  | _ => none }
def PartsTurnsWrongFalsely : Prop := partsTurnsRow.holds Try.pinned (OpenSpec.ofChange partsTurnsWrong)

/-- 'slackwaterlaw25.WaterChecks': WHATEVER THE INPUT: true; the input reads as it did. -/
def waterChecksSpec : ChangeSpec := { name := "waterChecks", fn := fun _ => fun
  | [d] => { results := [.lit (.bool true)], args := [d] }
  | _ => none }
def waterChecksRow : OpenClaim := { program := "ytigkfdoeneemeaa", sum := "e21699290dd1e317bae6c4e8511813b1fe1757de5a25e5f9a74fcf4c1d8c45cc", func := "slackwater/slackwaterlaw25.WaterChecks", spec := "waterChecks", apart := false }
def WaterChecksSaid : Prop := waterChecksRow.holds Try.pinned (OpenSpec.ofChange waterChecksSpec)

/-- ITS FALSE NEIGHBOUR: 'it returns false'. Refute it at one input. -/
def waterChecksWrong : ChangeSpec := { name := "waterChecks", fn := fun _ => fun
  | [d] => { results := [.lit (.bool false)], args := [d] }
  | _ => none }
def WaterChecksWrongFalsely : Prop := waterChecksRow.holds Try.pinned (OpenSpec.ofChange waterChecksWrong)

/-- 'slackwaterlaw25.WaterLists': WHATEVER THE INPUT: true; the input reads as it did. -/
def waterListsSpec : ChangeSpec := { name := "waterLists", fn := fun _ => fun
  | [d1, d2, d3] => { results := [.lit (.bool true)], args := [d1, d2, d3] }
  | _ => none }
def waterListsRow : OpenClaim := { program := "ytigkfdoeneemeaa", sum := "e21699290dd1e317bae6c4e8511813b1fe1757de5a25e5f9a74fcf4c1d8c45cc", func := "slackwater/slackwaterlaw25.WaterLists", spec := "waterLists", inPlace := ["math.Float64frombits"], apart := false }
def WaterListsSaid : Prop := waterListsRow.holds Try.pinned (OpenSpec.ofChange waterListsSpec)

/-- ITS FALSE NEIGHBOUR: 'it returns false'. Refute it at one input. -/
def waterListsWrong : ChangeSpec := { name := "waterLists", fn := fun _ => fun
  | [d1, d2, d3] => { results := [.lit (.bool false)], args := [d1, d2, d3] }
  | _ => none }
def WaterListsWrongFalsely : Prop := waterListsRow.holds Try.pinned (OpenSpec.ofChange waterListsWrong)

/-- 'slackwaterlaw25.WaterMirror': WHATEVER THE INPUT: true; the input reads as it did. -/
def waterMirrorSpec : ChangeSpec := { name := "waterMirror", fn := fun _ => fun
  | [d] => { results := [.lit (.bool true)], args := [d] }
  | _ => none }
def waterMirrorRow : OpenClaim := { program := "ytigkfdoeneemeaa", sum := "e21699290dd1e317bae6c4e8511813b1fe1757de5a25e5f9a74fcf4c1d8c45cc", func := "slackwater/slackwaterlaw25.WaterMirror", spec := "waterMirror", apart := false }
def WaterMirrorSaid : Prop := waterMirrorRow.holds Try.pinned (OpenSpec.ofChange waterMirrorSpec)

/-- ITS FALSE NEIGHBOUR: 'it returns false'. Refute it at one input. -/
def waterMirrorWrong : ChangeSpec := { name := "waterMirror", fn := fun _ => fun
  | [d] => { results := [.lit (.bool false)], args := [d] }
  | _ => none }
def WaterMirrorWrongFalsely : Prop := waterMirrorRow.holds Try.pinned (OpenSpec.ofChange waterMirrorWrong)

/-- 'slackwaterlaw25.WaterMeans': WHATEVER THE INPUT: true; the input reads as it did. -/
def waterMeansSpec : ChangeSpec := { name := "waterMeans", fn := fun _ => fun
  | [d1, d2] => { results := [.lit (.bool true)], args := [d1, d2] }
  | _ => none }
def waterMeansRow : OpenClaim := { program := "ytigkfdoeneemeaa", sum := "e21699290dd1e317bae6c4e8511813b1fe1757de5a25e5f9a74fcf4c1d8c45cc", func := "slackwater/slackwaterlaw25.WaterMeans", spec := "waterMeans", apart := false }
def WaterMeansSaid : Prop := waterMeansRow.holds Try.pinned (OpenSpec.ofChange waterMeansSpec)

/-- ITS FALSE NEIGHBOUR: 'it returns false'. Refute it at one input. -/
def waterMeansWrong : ChangeSpec := { name := "waterMeans", fn := fun _ => fun
  | [d1, d2] => { results := [.lit (.bool false)], args := [d1, d2] }
  | _ => none }
def WaterMeansWrongFalsely : Prop := waterMeansRow.holds Try.pinned (OpenSpec.ofChange waterMeansWrong)

/-- 'slackwaterlaw25.WaterKnown': WHATEVER THE INPUT: true; the input reads as it did. -/
def waterKnownSpec : ChangeSpec := { name := "waterKnown", fn := fun _ => fun
  | [] => { results := [.lit (.bool true)], args := [] }
  | _ => none }
def waterKnownRow : OpenClaim := { program := "ytigkfdoeneemeaa", sum := "e21699290dd1e317bae6c4e8511813b1fe1757de5a25e5f9a74fcf4c1d8c45cc", func := "slackwater/slackwaterlaw25.WaterKnown", spec := "waterKnown", apart := false }
def WaterKnownSaid : Prop := waterKnownRow.holds Try.pinned (OpenSpec.ofChange waterKnownSpec)

/-- ITS FALSE NEIGHBOUR: 'it returns false'. Refute it at one input. -/
def waterKnownWrong : ChangeSpec := { name := "waterKnown", fn := fun _ => fun
  | [] => { results := [.lit (.bool false)], args := [] }
  | _ => none }
def WaterKnownWrongFalsely : Prop := waterKnownRow.holds Try.pinned (OpenSpec.ofChange waterKnownWrong)

/- THE SECOND FORM. 'bulk': how many values and letters a reading holds, each counted each time it is reached (what is shared counts as often as it is met; a slice's spare places count too). A statement '..UptoSaid' is the law's where the arguments, and the package variables that the reading takes, are together of bulk at most 1048576: NARROWER than '..Said'. Prove '..Said' where nothing that the law and all that it calls make is longer than what came in: it says more and counts as full. Else prove '..UptoSaid'. A law counts once. -/
mutual
def uptoBulk {H : Type} : DataW H → Nat
  | .lit (.string bytes) => bytes.length + 1
  | .lit _ => 1
  | .nil => 1
  | .ptr d => uptoBulk d + 1
  | .slice elems spare => uptoBulkAll elems + uptoBulkAll spare + 1
  | .agg parts => uptoBulkAll parts + 1
  | .iface _ d => uptoBulk d + 1
  | .map entries => uptoBulkEntries entries + 1
  | .held _ => 1
def uptoBulkAll {H : Type} : List (DataW H) → Nat
  | [] => 0
  | d :: r => uptoBulk d + uptoBulkAll r
def uptoBulkEntries {H : Type} : List (Lit × DataW H) → Nat
  | [] => 0
  | x :: r => uptoBulkEntry x + uptoBulkEntries r
def uptoBulkEntry {H : Type} : Lit × DataW H → Nat
  | (.string bytes, d) => bytes.length + uptoBulk d + 1
  | (_, d) => uptoBulk d + 1
 end
def uptoSmall : (H : Type) → List (DataW H) → Bool := fun _ ds => decide (uptoBulkAll ds ≤ 1048576)
def OpenSpec.upto (s : _root_.Go.ChangeSpec) : _root_.Go.OpenSpec := { _root_.Go.OpenSpec.ofChange s with cond := some uptoSmall }

/-- 'slackwaterlaw16.HeightLower', WHERE WHAT IT READS IS OF BULK AT MOST 1048576: true; the input reads as it did. -/
def heightLowerUptoRow : OpenClaim := { program := "ytigkfdoeneemeaa", sum := "e21699290dd1e317bae6c4e8511813b1fe1757de5a25e5f9a74fcf4c1d8c45cc", func := "slackwater/slackwaterlaw16.HeightLower", spec := "heightLower", inPlace := ["math.Float64frombits"], apart := false, narrowed := true }
def HeightLowerUptoSaid : Prop := heightLowerUptoRow.holds Try.pinned (OpenSpec.upto heightLowerSpec)

/-- 'slackwaterlaw06.RealSums', WHERE WHAT IT READS IS OF BULK AT MOST 1048576: true; the input reads as it did. -/
def realSumsUptoRow : OpenClaim := { program := "ytigkfdoeneemeaa", sum := "e21699290dd1e317bae6c4e8511813b1fe1757de5a25e5f9a74fcf4c1d8c45cc", func := "slackwater/slackwaterlaw06.RealSums", spec := "realSums", inPlace := ["math.Float64frombits", "math.Float64bits"], apart := false, narrowed := true }
def RealSumsUptoSaid : Prop := realSumsUptoRow.holds Try.pinned (OpenSpec.upto realSumsSpec)

/-- 'slackwaterlaw29.AlarmNil', WHERE WHAT IT READS IS OF BULK AT MOST 1048576: true; the input reads as it did. -/
def alarmNilUptoRow : OpenClaim := { program := "ytigkfdoeneemeaa", sum := "e21699290dd1e317bae6c4e8511813b1fe1757de5a25e5f9a74fcf4c1d8c45cc", func := "slackwater/slackwaterlaw29.AlarmNil", spec := "alarmNil", inPlace := ["math.Float64bits", "math.Float64frombits"], apart := false, narrowed := true }
def AlarmNilUptoSaid : Prop := alarmNilUptoRow.holds Try.pinned (OpenSpec.upto alarmNilSpec)

/-- 'slackwaterlaw29.AlarmTurns', WHERE WHAT IT READS IS OF BULK AT MOST 1048576: true; the input reads as it did. -/
def alarmTurnsUptoRow : OpenClaim := { program := "ytigkfdoeneemeaa", sum := "e21699290dd1e317bae6c4e8511813b1fe1757de5a25e5f9a74fcf4c1d8c45cc", func := "slackwater/slackwaterlaw29.AlarmTurns", spec := "alarmTurns", inPlace := ["math.Float64bits", "math.Float64frombits"], apart := false, narrowed := true }
def AlarmTurnsUptoSaid : Prop := alarmTurnsUptoRow.holds Try.pinned (OpenSpec.upto alarmTurnsSpec)

/-- 'slackwaterlaw29.AlarmWatch', WHERE WHAT IT READS IS OF BULK AT MOST 1048576: true; the input reads as it did. -/
def alarmWatchUptoRow : OpenClaim := { program := "ytigkfdoeneemeaa", sum := "e21699290dd1e317bae6c4e8511813b1fe1757de5a25e5f9a74fcf4c1d8c45cc", func := "slackwater/slackwaterlaw29.AlarmWatch", spec := "alarmWatch", inPlace := ["math.Float64bits", "math.Float64frombits"], apart := false, narrowed := true }
def AlarmWatchUptoSaid : Prop := alarmWatchUptoRow.holds Try.pinned (OpenSpec.upto alarmWatchSpec)

/-- 'slackwaterlaw07.PartsCalls', WHERE WHAT IT READS IS OF BULK AT MOST 1048576: true; the input reads as it did. -/
def partsCallsUptoRow : OpenClaim := { program := "ytigkfdoeneemeaa", sum := "e21699290dd1e317bae6c4e8511813b1fe1757de5a25e5f9a74fcf4c1d8c45cc", func := "slackwater/slackwaterlaw07.PartsCalls", spec := "partsCalls", inPlace := ["math.Float64frombits", "math.Float64bits", "math.sqrt"], apart := false, narrowed := true }
def PartsCallsUptoSaid : Prop := partsCallsUptoRow.holds Try.pinned (OpenSpec.upto partsCallsSpec)

/-- 'slackwaterlaw07.PartsTurns', WHERE WHAT IT READS IS OF BULK AT MOST 1048576: true; the input reads as it did. -/
def partsTurnsUptoRow : OpenClaim := { program := "ytigkfdoeneemeaa", sum := "e21699290dd1e317bae6c4e8511813b1fe1757de5a25e5f9a74fcf4c1d8c45cc", func := "slackwater/slackwaterlaw07.PartsTurns", spec := "partsTurns", inPlace := ["math.Float64bits", "math.Float64frombits", "math.sqrt", "math.archMax"], apart := false, narrowed := true }
def PartsTurnsUptoSaid : Prop := partsTurnsUptoRow.holds Try.pinned (OpenSpec.upto partsTurnsSpec)

/-- 'slackwaterlaw25.WaterChecks', WHERE WHAT IT READS IS OF BULK AT MOST 1048576: true; the input reads as it did. -/
def waterChecksUptoRow : OpenClaim := { program := "ytigkfdoeneemeaa", sum := "e21699290dd1e317bae6c4e8511813b1fe1757de5a25e5f9a74fcf4c1d8c45cc", func := "slackwater/slackwaterlaw25.WaterChecks", spec := "waterChecks", apart := false, narrowed := true }
def WaterChecksUptoSaid : Prop := waterChecksUptoRow.holds Try.pinned (OpenSpec.upto waterChecksSpec)

/-- 'slackwaterlaw25.WaterLists', WHERE WHAT IT READS IS OF BULK AT MOST 1048576: true; the input reads as it did. -/
def waterListsUptoRow : OpenClaim := { program := "ytigkfdoeneemeaa", sum := "e21699290dd1e317bae6c4e8511813b1fe1757de5a25e5f9a74fcf4c1d8c45cc", func := "slackwater/slackwaterlaw25.WaterLists", spec := "waterLists", inPlace := ["math.Float64frombits"], apart := false, narrowed := true }
def WaterListsUptoSaid : Prop := waterListsUptoRow.holds Try.pinned (OpenSpec.upto waterListsSpec)

/-- 'slackwaterlaw25.WaterMirror', WHERE WHAT IT READS IS OF BULK AT MOST 1048576: true; the input reads as it did. -/
def waterMirrorUptoRow : OpenClaim := { program := "ytigkfdoeneemeaa", sum := "e21699290dd1e317bae6c4e8511813b1fe1757de5a25e5f9a74fcf4c1d8c45cc", func := "slackwater/slackwaterlaw25.WaterMirror", spec := "waterMirror", apart := false, narrowed := true }
def WaterMirrorUptoSaid : Prop := waterMirrorUptoRow.holds Try.pinned (OpenSpec.upto waterMirrorSpec)

/-- 'slackwaterlaw25.WaterMeans', WHERE WHAT IT READS IS OF BULK AT MOST 1048576: true; the input reads as it did. -/
def waterMeansUptoRow : OpenClaim := { program := "ytigkfdoeneemeaa", sum := "e21699290dd1e317bae6c4e8511813b1fe1757de5a25e5f9a74fcf4c1d8c45cc", func := "slackwater/slackwaterlaw25.WaterMeans", spec := "waterMeans", apart := false, narrowed := true }
def WaterMeansUptoSaid : Prop := waterMeansUptoRow.holds Try.pinned (OpenSpec.upto waterMeansSpec)

/-- 'slackwaterlaw25.WaterKnown', WHERE WHAT IT READS IS OF BULK AT MOST 1048576: true; the input reads as it did. -/
def waterKnownUptoRow : OpenClaim := { program := "ytigkfdoeneemeaa", sum := "e21699290dd1e317bae6c4e8511813b1fe1757de5a25e5f9a74fcf4c1d8c45cc", func := "slackwater/slackwaterlaw25.WaterKnown", spec := "waterKnown", apart := false, narrowed := true }
def WaterKnownUptoSaid : Prop := waterKnownUptoRow.holds Try.pinned (OpenSpec.upto waterKnownSpec)

end Rows
end Go.Proofs.Ytigkfdoeneemeaa
