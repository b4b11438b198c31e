/- What a call writes: all blocks but those of a set are as they were. -/
import Derived.Test.YtigkfdoeneemeaaApp
namespace Go
open Go.RowKit

structure KeptO (O : Nat → Prop) (w w' : World) : Prop where
  os : w'.os = w.os
  tape : w'.tape = w.tape
  output : w'.output = w.output
  size : w.heap.size ≤ w'.heap.size
  block : ∀ k, k < w.heap.size → ¬ O k → w'.heap[k]? = w.heap[k]?

section
variable {O : Nat → Prop} {w a : World}
theorem KeptO.refl (w : World) : KeptO O w w := ⟨rfl, rfl, rfl, Nat.le_refl _, fun _ _ _ => rfl⟩
theorem KeptO.trans {b c : World} (h : KeptO O a b) (k : KeptO O b c) : KeptO O a c :=
  ⟨k.os.trans h.os, k.tape.trans h.tape, k.output.trans h.output, Nat.le_trans h.size k.size, fun i hi ho => (k.block i (Nat.lt_of_lt_of_le hi h.size) ho).trans (h.block i hi ho)⟩
theorem KeptO.mono {O' : Nat → Prop} {b : World} (h : KeptO O a b) (k : ∀ i, i < a.heap.size → O i → O' i) : KeptO O' a b := ⟨h.os, h.tape, h.output, h.size, fun i hi ho => h.block i hi (fun x => ho (k i hi x))⟩
theorem KeptO.of_blw {b : World} (h : Blw a b) : KeptO O a b := ⟨Below.os h, Below.tape h, Below.output h, Below.size h, fun k hk _ => Below.block h k hk⟩
theorem KeptO.blw {w0 b : World} (h0 : Blw w0 a) (h : KeptO O a b) (k : ∀ i, O i → w0.heap.size ≤ i) : Blw w0 b :=
  ⟨h.os.trans (Below.os h0), h.tape.trans (Below.tape h0), h.output.trans (Below.output h0), Nat.le_trans (Below.size h0) h.size,
    fun i hi => (h.block i (Nat.lt_of_lt_of_le hi (Below.size h0)) (fun x => by have := k i x; omega)).trans (Below.block h0 i hi)⟩
theorem KeptO.alloc (h : KeptO O a w) (o : Obj) : KeptO O a (w.alloc o) := ⟨h.os, h.tape, h.output, by have := h.size; simp; omega, fun k hk ho => (Below.heap_alloc w o k (Nat.lt_of_lt_of_le hk h.size)).trans (h.block k hk ho)⟩
theorem KeptO.drewN (h : KeptO O a w) (n : Nat) : KeptO O a (w.drewN n) := ⟨h.os, h.tape, h.output, h.size, h.block⟩
theorem KeptO.drew (h : KeptO O a w) : KeptO O a w.drew := ⟨h.os, h.tape, h.output, h.size, h.block⟩
theorem KeptO.ext (h : KeptO O a w) (x : World) : KeptO O a (w.ext x) :=
  have k := w.blw_ext x
  ⟨(Below.os k).trans h.os, (Below.tape k).trans h.tape, (Below.output k).trans h.output, Nat.le_trans h.size (Below.size k), fun i hi ho => (Below.block k i (Nat.lt_of_lt_of_le hi h.size)).trans (h.block i hi ho)⟩
theorem KeptO.setCell (h : KeptO O a w) (p : Addr) (u : Value) (hp : O p.block ∨ a.heap.size ≤ p.block) : KeptO O a (w.setCell p u) :=
  ⟨h.os, h.tape, h.output, by have := h.size; simp [World.setCell]; exact this, fun k hk ho => (Below.heap_setCell w p u k (fun e => by subst e; rcases hp with hp | hp; exact ho hp; omega)).trans (h.block k hk ho)⟩
theorem KeptO.grown {w' : World} (h : KeptO O a w) {row : Option Nat} (hg : w.grownBy w' row) (hr : ∀ k, row = some k → O k ∨ a.heap.size ≤ k) : KeptO O a w' :=
  ⟨hg.os.trans h.os, hg.tape.trans h.tape, hg.output.trans h.output, Nat.le_trans h.size hg.size, fun k hk ho => (hg.block k (Nat.lt_of_lt_of_le hk h.size) (fun e => by rcases hr k e.symm with x | x; exact ho x; omega)).trans (h.block k hk ho)⟩
theorem KeptO.heap {b : World} (h : KeptO O a b) {k : Nat} {x : Obj} (hk : a.heap[k]? = some x) (ho : ¬ O k) : b.heap[k]? = some x := by
  rw [h.block k (Array.getElem?_eq_some_iff.1 hk).1 ho]; exact hk
theorem KeptO.own {b : World} (h : KeptO O a b) {B : Nat} {e : TypeId} {size n : Nat} {v : Value} {cs : List Value} (hw : a.ownsRow B e size v n cs) (ho : ∀ k, v.ownBlock = some k → ¬ O k) : b.ownsRow B e size v n cs := by
  obtain ⟨h1, h2⟩ := hw
  refine ⟨h1, ?_⟩
  rcases h2 with h2 | ⟨g, cap, cur, hv, hg, hh, r⟩
  · exact .inl h2
  · subst hv; exact .inr ⟨g, cap, cur, rfl, hg, h.heap hh (ho g rfl), r⟩
theorem KeptO.arr {b : World} (h : KeptO O a b) {p : Option Addr} {cs : List Value} (hw : Arr a p cs) (ho : ∀ q, p = some q → ¬ O q.block) : Arr b p cs := by
  rcases hw with h1 | ⟨c, o, e, hb, hc⟩
  · exact .inl h1
  · subst e
    exact .inr ⟨c, o, rfl, Nat.lt_of_lt_of_le hb h.size, fun i hi => by rw [← hc i hi]; exact World.cell?_of_block (h.block c hb (ho _ rfl))⟩
end

/-- A block, carried on. -/
theorem at_alloc {w : World} {g : Nat} {x : Obj} (o : Obj) (h : w.heap[g]? = some x) : (w.alloc o).heap[g]? = some x := by
  rw [Below.heap_alloc w o g (Array.getElem?_eq_some_iff.1 h).1]; exact h
theorem at_drewN {w : World} {g : Nat} {x : Obj} (n : Nat) (h : w.heap[g]? = some x) : (w.drewN n).heap[g]? = some x := h
theorem at_drew {w : World} {g : Nat} {x : Obj} (h : w.heap[g]? = some x) : w.drew.heap[g]? = some x := h
theorem at_ext {w : World} {g : Nat} {x : Obj} (y : World) (h : w.heap[g]? = some x) : (w.ext y).heap[g]? = some x := by
  rw [w.heap_ext y g (Array.getElem?_eq_some_iff.1 h).1]; exact h
theorem at_set {w : World} {g : Nat} {cs : Array Value} {t : TypeId} (i : Nat) (v : Value) (h : w.heap[g]? = some (.cells cs t (0, 0))) : (w.setCell ⟨g, i, none⟩ v).heap[g]? = some (.cells (cs.setIfInBounds i v) t (0, 0)) :=
  heap_setCell_same w g i cs t v h
theorem at_far {w : World} {g b i : Nat} {x : Obj} (v : Value) (hne : g ≠ b) (h : w.heap[g]? = some x) : (w.setCell ⟨b, i, none⟩ v).heap[g]? = some x := by
  rw [Below.heap_setCell w _ v g hne]; exact h
theorem at_grown {w w' : World} {g : Nat} {x : Obj} {row : Option Nat} (hg : w.grownBy w' row) (hne : some g ≠ row) (h : w.heap[g]? = some x) : w'.heap[g]? = some x := by
  rw [hg.block g (Array.getElem?_eq_some_iff.1 h).1 hne]; exact h
end Go
