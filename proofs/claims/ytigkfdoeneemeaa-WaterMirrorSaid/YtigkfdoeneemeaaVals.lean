/- Lists of plain elements as cells. -/
import Derived.Test.YtigkfdoeneemeaaApp
namespace Go.Proofs.Ytigkfdoeneemeaa
open Go.RowKit
abbrev flt (l : List Nat) : List Value := l.map (Value.float .f64)
abbrev u64s (l : List Nat) : List Value := l.map (fun n : Nat => Value.int .u64 n)
abbrev u32s (l : List Nat) : List Value := l.map (fun n : Nat => Value.int .u32 n)
abbrev i64s (l : List Int) : List Value := l.map (fun n : Int => Value.int .i64 n)
/-- A slice of the call's own that holds these cells, handed back. -/
def RetOwn (w : World) (T size n : Nat) (cs : List Value) (e : Ending) (w' : World) : Prop :=
  ∃ (a : Option Addr) (c : Nat) (x : World), e = .returned (.slice a n c) ∧ w' = w.ext x ∧ (w.ext x).ownsRow w.heap.size T size (.slice a n c) n cs ∧ Arr (w.ext x) a cs ∧ (a = none → c = 0)
theorem RetOwn.of {w w' : World} {T size n : Nat} {cs : List Value} {v : Value} (h : w'.ownsRow w.heap.size T size v n cs) (k : Blw w w') : RetOwn w T size n cs (.returned v) w' := by
  obtain ⟨a, c, rfl, ha, _, _, _, hn⟩ := own_arr h
  obtain ⟨x, rfl⟩ := k.is
  exact ⟨a, c, x, rfl, rfl, h, ha, fun h => (hn h).2⟩

theorem ex_hid {α : Type} (a : α) : ∃ x, Hid (a = x) := ⟨a, by unfold Hid; rfl⟩
end Go.Proofs.Ytigkfdoeneemeaa
