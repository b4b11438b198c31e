/- Lists of plain elements as cells. -/
import Derived.Test.YtigkfdoeneemeaaApp
namespace Go.Proofs.Ytigkfdoeneemeaa
open Go.RowKit
abbrev flt (l : List Nat) : List Value := l.map (Value.float .f64)
abbrev u64s (l : List Nat) : List Value := l.map (fun n : Nat => Value.int .u64 n)
abbrev u32s (l : List Nat) : List Value := l.map (fun n : Nat => Value.int .u32 n)
abbrev i64s (l : List Int) : List Value := l.map (fun n : Int => Value.int .i64 n)
theorem ex_hid {α : Type} (a : α) : ∃ x, Hid (a = x) := ⟨a, by unfold Hid; rfl⟩
end Go.Proofs.Ytigkfdoeneemeaa
