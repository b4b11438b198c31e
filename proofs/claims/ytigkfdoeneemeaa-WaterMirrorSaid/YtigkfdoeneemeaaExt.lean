/- Worlds that agree below: 'w.ext x' is x where x is w with at most new blocks, else w; so a contract may hand back a world of which only this is known, and the walk reads old cells through it. -/
import Derived.WalkKit
import Derived.Deep.Draws
import Derived.Deep.Quiet
import Derived.Deep.QuietTactic
import Derived.BigQuiet
namespace Go
open Go.RowKit

/-- w' is w with at most new blocks and draws. -/
def Blw (w w' : World) : Prop := Below w.heap.size w w'

open Classical in
noncomputable def World.ext (w x : World) : World := if Blw w x then x else w

theorem Blw.refl (w : World) : Blw w w := Below.refl _ _
theorem Blw.size {w w' : World} (h : Blw w w') : w.heap.size ≤ w'.heap.size := Below.size h
theorem Blw.trans {a b c : World} (h : Blw a b) (k : Blw b c) : Blw a c := Below.trans h (Below.mono k h.size)
theorem Blw.alloc {a w : World} (h : Blw a w) (o : Obj) : Blw a (w.alloc o) := Below.alloc h h.size o
theorem Blw.drew {a w : World} (h : Blw a w) : Blw a w.drew := Below.drew h
theorem Blw.drewN {a w : World} (h : Blw a w) (n : Nat) : Blw a (w.drewN n) := (show Below a.heap.size a w from h).trans ⟨rfl, rfl, rfl, Nat.le_refl _, fun _ _ => rfl⟩
theorem Blw.setCell {a w : World} (h : Blw a w) (p : Addr) (u : Value) (hp : a.heap.size ≤ p.block) : Blw a (w.setCell p u) := Below.setCell h hp u
theorem World.blw_ext (w x : World) : Blw w (w.ext x) := by
  unfold World.ext; split
  · assumption
  · exact Blw.refl _
theorem World.ext_of {w w' : World} (h : Blw w w') : w.ext w' = w' := by unfold World.ext; rw [if_pos h]
theorem Blw.ext {a w : World} (h : Blw a w) (x : World) : Blw a (w.ext x) := h.trans (World.blw_ext w x)
theorem Blw.is {w w' : World} (h : Blw w w') : ∃ x, w' = w.ext x := ⟨w', (World.ext_of h).symm⟩

theorem World.le_ext (w x : World) : w.heap.size ≤ (w.ext x).heap.size := (w.blw_ext x).size
theorem World.heap_ext (w x : World) (b : Nat) (h : b < w.heap.size) : (w.ext x).heap[b]? = w.heap[b]? := Below.block (w.blw_ext x) b h
@[simp, go_sem] theorem World.cell?_ext (w x : World) (b o : Nat) (s : Option Nat) (h : b < w.heap.size) : (w.ext x).cell? ⟨b, o, s⟩ = w.cell? ⟨b, o, s⟩ := Below.cell (w.blw_ext x) h
@[simp, go_sem] theorem World.frozen?_ext (w x : World) (b o : Nat) (s : Option Nat) (h : b < w.heap.size) : (w.ext x).frozen? ⟨b, o, s⟩ = w.frozen? ⟨b, o, s⟩ := Below.frozen (w.blw_ext x) h
@[simp, go_sem] theorem World.lt_ext (w x : World) (b : Nat) (h : b < w.heap.size) : b < (w.ext x).heap.size := Nat.lt_of_lt_of_le h (w.le_ext x)

/-- A region that draws its order, of operations and calls that yield the same values whatever new blocks there are: one walk. -/
theorem wp_region_ext_lit {P : Program} {id : Nat} {Q : Exit → Act → World → Prop} {a : Act} {w : World} {l : List Oper} (hm : P.follows .mixedOrders = true) (hB : Region.lexB .any l.toArray = true)
    (h : wpQuiet P l.toArray (fun w' => ∃ x, w' = w.ext x) (fun a' => ∀ w', (∃ x, w' = w.ext x) → Q .normal a' w') l a) : (Code.region id l.toArray true).wp P Q a w :=
  wp_region_quiet (C := fun w' => ∃ x, w' = w.ext x) hm hB ((Blw.refl w).drew.is) (by simpa using h)

theorem Calls.ext_of {P : Program} {f : FuncId} {args : Array Value} {w y : World} {v : Value}
    (h : Calls P f args (w.ext y) fun e w' => e = .returned v ∧ ∃ x, w' = (w.ext y).ext x) : Calls P f args (w.ext y) fun e w'' => e = .returned v ∧ ∃ x, w'' = w.ext x :=
  h.mono fun _ _ ⟨he, x, hx⟩ => ⟨he, by rw [hx]; exact (((Blw.refl w).ext y).ext x).is⟩
theorem Calls.ext_same {P : Program} {f : FuncId} {args : Array Value} {w y : World} {v : Value}
    (h : Calls P f args (w.ext y) fun e w' => e = .returned v ∧ w' = w.ext y) : Calls P f args (w.ext y) fun e w'' => e = .returned v ∧ ∃ x, w'' = w.ext x :=
  h.mono fun _ _ ⟨he, hx⟩ => ⟨he, by rw [hx]; exact ⟨y, rfl⟩⟩

end Go
