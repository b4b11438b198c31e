/- What floats say of a list of heights: plain Lean, and the three lists in memory. -/
import Derived.Test.YtigkfdoeneemeaaLaw25b
import Derived.Test.YtigkfdoeneemeaaLower
namespace Go.Proofs.Ytigkfdoeneemeaa
open Go.RowKit

/-- A height and its bound, as cells. -/
def off (p : Nat × Nat) : List Value := [.float .f64 p.1, .float .f64 p.2]
abbrev offs (l : List (Nat × Nat)) : List Value := l.flatMap off
theorem off_at {w : World} {A : Option Addr} {l : List (Nat × Nat)} (h : Arr w A (offs l)) {k : Nat} (hk : k < l.length) :
    ∃ (x : Nat × Nat) (b o : Nat), l[k]? = some x ∧ x ∈ l ∧ A = some ⟨b, o, none⟩ ∧ b < w.heap.size ∧ w.cell? ⟨b, o + k * 2, none⟩ = some (.float .f64 x.1) ∧ w.cell? ⟨b, o + k * 2 + 1, none⟩ = some (.float .f64 x.2) := by
  obtain ⟨x, b, o, h1, h2, h3, h4, h5⟩ := cells_arr off 2 (fun _ => rfl) (by decide) h hk
  exact ⟨x, b, o, h1, h2, h3, h4, h5 0 (by decide), h5 1 (by decide)⟩

/-- Is the height at a place surely lower than that at another one? -/
def low (l : List (Nat × Nat)) (i k : Nat) : Bool := lowerB (l.getD i (0, 0)).1 (l.getD i (0, 0)).2 (l.getD k (0, 0)).1 (l.getD k (0, 0)).2
/-- What is counted: neighbours surely lower (as the program names them: 'higher'), surely higher, all; is one in doubt? -/
structure SC where
  hi : Nat
  lo : Nat
  nr : Nat
  db : Bool
def sc0 : SC := ⟨0, 0, 0, false⟩
def scAt (l : List (Nat × Nat)) (i k : Nat) (s : SC) : SC :=
  ⟨s.hi + (if low l k i then 1 else 0), s.lo + (if low l i k then 1 else 0), s.nr + 1, s.db || (!low l k i && !low l i k)⟩
def sc1 (l : List (Nat × Nat)) (i : Nat) : SC := if 0 < i then scAt l i (i - 1) sc0 else sc0
def sc2 (l : List (Nat × Nat)) (i : Nat) : SC := if i + 1 < l.length then scAt l i (i + 1) (sc1 l i) else sc1 l i
def isTop (l : List (Nat × Nat)) (i : Nat) : Bool := (sc2 l i).nr == 2 && (sc2 l i).hi == 2
def isBot (l : List (Nat × Nat)) (i : Nat) : Bool := (sc2 l i).nr == 2 && (sc2 l i).lo == 2
def isDbt (l : List (Nat × Nat)) (i : Nat) : Bool := (sc2 l i).db
/-- The places up to n that are of a kind, from a first tick on. -/
def tks (p : Nat → Bool) (first : Int) (n : Nat) : List Int := ((List.range n).filter p).map fun (i : Nat) => first + (i : Int)
theorem tks_zero (p : Nat → Bool) (first : Int) : tks p first 0 = [] := rfl
theorem tks_yes {p : Nat → Bool} {first : Int} {n : Nat} (h : p n = true) : tks p first (n + 1) = tks p first n ++ [first + (n : Int)] := by
  unfold tks; rw [List.range_succ, List.filter_append, List.map_append]; simp [h]
theorem tks_no {p : Nat → Bool} {first : Int} {n : Nat} (h : p n = false) : tks p first (n + 1) = tks p first n := by
  unfold tks; rw [List.range_succ, List.filter_append, List.map_append]; simp [h]
theorem tks_len (p : Nat → Bool) (first : Int) (n : Nat) : (tks p first n).length ≤ n := by
  unfold tks; rw [List.length_map]
  exact Nat.le_trans (List.length_filter_le _ _) (by simp)

theorem sl_ints : SlT Try.prog 106 3 (.int .i64 0) 1 8 := ⟨Try.underlying106, by kernel_rfl, by kernel_rfl, by decide⟩

/-- The struct's block is no row's: its type is another one. -/
theorem own_ne {w : World} {B g n size : Nat} {e T : TypeId} {v : Value} {cs : List Value} {c : Array Value} {fr : Nat × Nat} (h : w.ownsRow B e size v n cs) (hg : w.heap[g]? = some (.cells c T fr)) (hT : T ≠ e) : v.ownBlock ≠ some g := by
  intro h1
  rcases h.2 with ⟨rfl, _⟩ | ⟨k, c2, cur, rfl, _, hh, _⟩
  · cases h1
  · simp [Value.ownBlock] at h1
    rw [h1, hg] at hh
    simp at hh
    exact hT hh.2.1
theorem own_setT {w : World} {B g n size : Nat} {e T : TypeId} {v : Value} {cs : List Value} {c : Array Value} {fr : Nat × Nat} (h : w.ownsRow B e size v n cs) (hg : w.heap[g]? = some (.cells c T fr)) (hT : T ≠ e) (j : Nat) (u : Value) : (w.setCell ⟨g, j, none⟩ u).ownsRow B e size v n cs :=
  KeptO.own (O := fun k => k = g) ((KeptO.refl w).setCell _ _ (.inl rfl)) h (fun k hk e => own_ne h hg hT (by rw [hk, e]))

/-- The struct of three lists in block g, its rows apart; block r is the result's, as it was made. -/
structure SAt3 (w0 w : World) (g r : Nat) (T : TypeId) (l1 l2 l3 : List Int) (v1 v2 v3 : Value) : Prop where
  at_ : w.heap[g]? = some (.cells #[v1, v2, v3] T (0, 0))
  rs : w.heap[r]? = some (.cells #[.slice none 0 0, .slice none 0 0, .slice none 0 0] T (0, 0))
  rg : r ≠ g
  hg : w0.heap.size ≤ g
  bl : Blw w0 w
  hT : T ≠ 3
  o1 : w.ownsRow w0.heap.size 3 1 v1 l1.length (i64s l1)
  o2 : w.ownsRow w0.heap.size 3 1 v2 l2.length (i64s l2)
  o3 : w.ownsRow w0.heap.size 3 1 v3 l3.length (i64s l3)
  n12 : ∀ i, v1.ownBlock = some i → v2.ownBlock ≠ some i
  n13 : ∀ i, v1.ownBlock = some i → v3.ownBlock ≠ some i
  n23 : ∀ i, v2.ownBlock = some i → v3.ownBlock ≠ some i

section
variable {w0 w w' W : World} {g r : Nat} {T : TypeId} {l1 l2 l3 : List Int} {v1 v2 v3 v' : Value} {x : Int}
theorem SAt3.blw (h : SAt3 w0 w g r T l1 l2 l3 v1 v2 v3) (k : Blw w w') : SAt3 w0 w' g r T l1 l2 l3 v1 v2 v3 :=
  ⟨(KeptO.of_blw (O := fun _ => False) k).heap h.at_ id, (KeptO.of_blw (O := fun _ => False) k).heap h.rs id, h.rg, h.hg, h.bl.trans k, h.hT, ownsRow_blw h.o1 k, ownsRow_blw h.o2 k, ownsRow_blw h.o3 k, h.n12, h.n13, h.n23⟩
theorem SAt3.cells (h : SAt3 w0 w g r T l1 l2 l3 v1 v2 v3) : w.cell? ⟨g, 0, none⟩ = some v1 ∧ w.cell? ⟨g, 1, none⟩ = some v2 ∧ w.cell? ⟨g, 2, none⟩ = some v3 ∧ (∀ i, w.frozen? ⟨g, i, none⟩ = false) ∧ g < w.heap.size :=
  ⟨(cell_of_row w g 0 _ _ _ h.at_).trans rfl, (cell_of_row w g 1 _ _ _ h.at_).trans rfl, (cell_of_row w g 2 _ _ _ h.at_).trans rfl, fun i => frozen_of_row w g i _ _ h.at_, (Array.getElem?_eq_some_iff.1 h.at_).1⟩
theorem cells3 {w : World} {g : Nat} {T : TypeId} {v1 v2 v3 : Value} (h : w.heap[g]? = some (.cells #[v1, v2, v3] T (0, 0))) : w.cell? ⟨g, 0, none⟩ = some v1 ∧ w.cell? ⟨g, 1, none⟩ = some v2 ∧ w.cell? ⟨g, 2, none⟩ = some v3 ∧ (∀ i, w.frozen? ⟨g, i, none⟩ = false) ∧ g < w.heap.size :=
  ⟨(cell_of_row w g 0 _ _ _ h).trans rfl, (cell_of_row w g 1 _ _ _ h).trans rfl, (cell_of_row w g 2 _ _ _ h).trans rfl, fun i => frozen_of_row w g i _ _ h, (Array.getElem?_eq_some_iff.1 h).1⟩
theorem SAt3.grown1 (h : SAt3 w0 w g r T l1 l2 l3 v1 v2 v3) (hg : w.grownBy w' v1.ownBlock) : w'.heap[g]? = some (.cells #[v1, v2, v3] T (0, 0)) := at_grown hg (own_ne h.o1 h.at_ h.hT).symm h.at_
theorem SAt3.app1 (h : SAt3 w0 w g r T l1 l2 l3 v1 v2 v3) (hown : w'.ownsRow w0.heap.size 3 1 v' (l1.length + 1) (i64s l1 ++ [.int .i64 x])) (hb : Blw w0 w') (hg : w.grownBy w' v1.ownBlock) (ht : v'.ownBlock = v1.ownBlock ∨ v'.ownBlock = some w.heap.size) :
    SAt3 w0 (w'.setCell ⟨g, 0, none⟩ v') g r T (l1 ++ [x]) l2 l3 v' v2 v3 := by
  have hg' := h.grown1 hg
  have hr' := at_grown hg (own_ne h.o1 h.rs h.hT).symm h.rs
  refine ⟨?_, (Below.heap_setCell _ _ _ _ h.rg).trans hr', h.rg, h.hg, hb.setCell _ _ h.hg, h.hT, own_setT (by simpa using hown) hg' h.hT _ _, own_setT (own_past h.o2 (Blw.refl w) hg (fun i hi e => h.n12 i e hi)) hg' h.hT _ _, own_setT (own_past h.o3 (Blw.refl w) hg (fun i hi e => h.n13 i e hi)) hg' h.hT _ _, ?_, ?_, h.n23⟩
  · have := at_set 0 v' hg'
    simpa using this
  · intro i hi hj
    rcases ht with t | t
    · exact h.n12 i (t.symm.trans hi) hj
    · have := (World.ownsRow.lt h.o2 i hj).2
      rw [t] at hi; injection hi with hi; omega
  · intro i hi hj
    rcases ht with t | t
    · exact h.n13 i (t.symm.trans hi) hj
    · have := (World.ownsRow.lt h.o3 i hj).2
      rw [t] at hi; injection hi with hi; omega
theorem SAt3.grown2 (h : SAt3 w0 w g r T l1 l2 l3 v1 v2 v3) (hg : w.grownBy w' v2.ownBlock) : w'.heap[g]? = some (.cells #[v1, v2, v3] T (0, 0)) := at_grown hg (own_ne h.o2 h.at_ h.hT).symm h.at_
theorem SAt3.app2 (h : SAt3 w0 w g r T l1 l2 l3 v1 v2 v3) (hown : w'.ownsRow w0.heap.size 3 1 v' (l2.length + 1) (i64s l2 ++ [.int .i64 x])) (hb : Blw w0 w') (hg : w.grownBy w' v2.ownBlock) (ht : v'.ownBlock = v2.ownBlock ∨ v'.ownBlock = some w.heap.size) :
    SAt3 w0 (w'.setCell ⟨g, 1, none⟩ v') g r T l1 (l2 ++ [x]) l3 v1 v' v3 := by
  have hg' := h.grown2 hg
  have hr' := at_grown hg (own_ne h.o2 h.rs h.hT).symm h.rs
  refine ⟨?_, (Below.heap_setCell _ _ _ _ h.rg).trans hr', h.rg, h.hg, hb.setCell _ _ h.hg, h.hT, own_setT (own_past h.o1 (Blw.refl w) hg (fun i hi e => h.n12 i hi e)) hg' h.hT _ _, own_setT (by simpa using hown) hg' h.hT _ _, own_setT (own_past h.o3 (Blw.refl w) hg (fun i hi e => h.n23 i e hi)) hg' h.hT _ _, ?_, h.n13, ?_⟩
  · have := at_set 1 v' hg'
    simpa using this
  · intro i hi hj
    rcases ht with t | t
    · exact h.n12 i hi (t.symm.trans hj)
    · have := (World.ownsRow.lt h.o1 i hi).2
      rw [t] at hj; injection hj with hj; omega
  · intro i hi hj
    rcases ht with t | t
    · exact h.n23 i (t.symm.trans hi) hj
    · have := (World.ownsRow.lt h.o3 i hj).2
      rw [t] at hi; injection hi with hi; omega
theorem SAt3.grown3 (h : SAt3 w0 w g r T l1 l2 l3 v1 v2 v3) (hg : w.grownBy w' v3.ownBlock) : w'.heap[g]? = some (.cells #[v1, v2, v3] T (0, 0)) := at_grown hg (own_ne h.o3 h.at_ h.hT).symm h.at_
theorem SAt3.app3 (h : SAt3 w0 w g r T l1 l2 l3 v1 v2 v3) (hown : w'.ownsRow w0.heap.size 3 1 v' (l3.length + 1) (i64s l3 ++ [.int .i64 x])) (hb : Blw w0 w') (hg : w.grownBy w' v3.ownBlock) (ht : v'.ownBlock = v3.ownBlock ∨ v'.ownBlock = some w.heap.size) :
    SAt3 w0 (w'.setCell ⟨g, 2, none⟩ v') g r T l1 l2 (l3 ++ [x]) v1 v2 v' := by
  have hg' := h.grown3 hg
  have hr' := at_grown hg (own_ne h.o3 h.rs h.hT).symm h.rs
  refine ⟨?_, (Below.heap_setCell _ _ _ _ h.rg).trans hr', h.rg, h.hg, hb.setCell _ _ h.hg, h.hT, own_setT (own_past h.o1 (Blw.refl w) hg (fun i hi e => h.n13 i hi e)) hg' h.hT _ _, own_setT (own_past h.o2 (Blw.refl w) hg (fun i hi e => h.n23 i hi e)) hg' h.hT _ _, own_setT (by simpa using hown) hg' h.hT _ _, h.n12, ?_, ?_⟩
  · have := at_set 2 v' hg'
    simpa using this
  · intro i hi hj
    rcases ht with t | t
    · exact h.n13 i hi (t.symm.trans hj)
    · have := (World.ownsRow.lt h.o1 i hi).2
      rw [t] at hj; injection hj with hj; omega
  · intro i hi hj
    rcases ht with t | t
    · exact h.n23 i hi (t.symm.trans hj)
    · have := (World.ownsRow.lt h.o2 i hi).2
      rw [t] at hj; injection hj with hj; omega
end
end Go.Proofs.Ytigkfdoeneemeaa
