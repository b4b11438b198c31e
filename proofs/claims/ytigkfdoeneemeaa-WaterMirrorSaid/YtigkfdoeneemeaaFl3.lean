/- Lists of fractions, and of waters, as cells. -/
import Derived.Test.YtigkfdoeneemeaaRat3
namespace Go.Proofs.Ytigkfdoeneemeaa
open Go.RowKit

theorem cells_at {α : Type} (f : α → List Value) (n : Nat) (hf : ∀ x, (f x).length = n) (l : List α) (k j : Nat) (hk : k < l.length) (hj : j < n) : (l.flatMap f)[k * n + j]? = (f l[k])[j]? := by
  induction l generalizing k with
  | nil => simp at hk
  | cons a l ih =>
    rw [List.flatMap_cons]
    cases k with
    | zero =>
      rw [Nat.zero_mul, Nat.zero_add, List.getElem?_append_left (by rw [hf]; exact hj)]
      rfl
    | succ k =>
      have h := ih k (by simpa using hk)
      rw [List.getElem?_append_right (by rw [hf, Nat.succ_mul]; omega), hf, show (k + 1) * n + j - n = k * n + j by rw [Nat.succ_mul]; omega, h]
      rfl
theorem cells_len {α : Type} (f : α → List Value) (n : Nat) (hf : ∀ x, (f x).length = n) (l : List α) : (l.flatMap f).length = l.length * n := by
  induction l with
  | nil => simp
  | cons a l ih => rw [List.flatMap_cons, List.length_append, ih, hf, List.length_cons, Nat.succ_mul]; omega
/-- The cells of the element at a place. -/
theorem cells_arr {α : Type} (f : α → List Value) (n : Nat) (hf : ∀ x, (f x).length = n) (hn : 0 < n) {w : World} {A : Option Addr} {l : List α} (h : Arr w A (l.flatMap f)) {k : Nat} (hk : k < l.length) :
    ∃ (x : α) (b o : Nat), l[k]? = some x ∧ x ∈ l ∧ A = some ⟨b, o, none⟩ ∧ b < w.heap.size ∧ ∀ j, j < n → w.cell? ⟨b, o + k * n + j, none⟩ = (f x)[j]? := by
  have hl := cells_len f n hf l
  rcases h with h | ⟨b, o, e, hb, hc⟩
  · exfalso
    rw [h] at hl
    have := Nat.mul_pos (Nat.lt_of_le_of_lt (Nat.zero_le k) hk) hn
    simp at hl
    omega
  · refine ⟨l[k], b, o, List.getElem?_eq_getElem hk, List.getElem_mem hk, e, hb, fun j hj => ?_⟩
    have h2 : k * n + j < l.length * n := by
      have := Nat.mul_le_mul_right n (show k + 1 ≤ l.length from hk)
      rw [Nat.succ_mul] at this
      omega
    rw [Nat.add_assoc, hc _ (by rw [hl]; exact h2), cells_at f n hf l k j hk hj]

/-- A fraction in a list: its words and where they lie. -/
structure FL where
  r : Fr
  a : Option Addr
  c : Nat
  b : Option Addr
  d : Nat
def FL.cells (x : FL) : List Value := [.bool x.r.neg, .slice x.a x.r.num.length x.c, .slice x.b x.r.den.length x.d]
abbrev fls (l : List FL) : List Value := l.flatMap FL.cells
def FL.In (w : World) (x : FL) : Prop := FrA w x.r x.a x.c x.b x.d
theorem FL.In.blw {w w' : World} {x : FL} (h : FL.In w x) (k : Blw w w') : FL.In w' x := FrA.blw h k
theorem fl_at {w : World} {A : Option Addr} {l : List FL} (h : Arr w A (fls l)) {k : Nat} (hk : k < l.length) :
    ∃ (x : FL) (b o : Nat), l[k]? = some x ∧ x ∈ l ∧ A = some ⟨b, o, none⟩ ∧ b < w.heap.size ∧ w.cell? ⟨b, o + k * 3, none⟩ = some (.bool x.r.neg) ∧ w.cell? ⟨b, o + k * 3 + 1, none⟩ = some (.slice x.a x.r.num.length x.c) ∧ w.cell? ⟨b, o + k * 3 + 2, none⟩ = some (.slice x.b x.r.den.length x.d) := by
  obtain ⟨x, b, o, h1, h2, h3, h4, h5⟩ := cells_arr FL.cells 3 (fun _ => rfl) (by decide) h hk
  exact ⟨x, b, o, h1, h2, h3, h4, h5 0 (by decide), h5 1 (by decide), h5 2 (by decide)⟩

/-- A water in a list. -/
structure WL where
  tick : Int
  last : Int
  top : Bool
  h : FL
def WL.cells (x : WL) : List Value := [.int .i64 x.tick, .int .i64 x.last, .bool x.top, .bool x.h.r.neg, .slice x.h.a x.h.r.num.length x.h.c, .slice x.h.b x.h.r.den.length x.h.d]
abbrev wls (l : List WL) : List Value := l.flatMap WL.cells
theorem wl_at {w : World} {A : Option Addr} {l : List WL} (h : Arr w A (wls l)) {k : Nat} (hk : k < l.length) :
    ∃ (x : WL) (b o : Nat), l[k]? = some x ∧ x ∈ l ∧ A = some ⟨b, o, none⟩ ∧ b < w.heap.size ∧ w.cell? ⟨b, o + k * 6, none⟩ = some (.int .i64 x.tick) ∧ w.cell? ⟨b, o + k * 6 + 1, none⟩ = some (.int .i64 x.last) ∧ w.cell? ⟨b, o + k * 6 + 2, none⟩ = some (.bool x.top) ∧
      w.cell? ⟨b, o + k * 6 + 3, none⟩ = some (.bool x.h.r.neg) ∧ w.cell? ⟨b, o + k * 6 + 4, none⟩ = some (.slice x.h.a x.h.r.num.length x.h.c) ∧ w.cell? ⟨b, o + k * 6 + 5, none⟩ = some (.slice x.h.b x.h.r.den.length x.h.d) := by
  obtain ⟨x, b, o, h1, h2, h3, h4, h5⟩ := cells_arr WL.cells 6 (fun _ => rfl) (by decide) h hk
  exact ⟨x, b, o, h1, h2, h3, h4, h5 0 (by decide), h5 1 (by decide), h5 2 (by decide), h5 3 (by decide), h5 4 (by decide), h5 5 (by decide)⟩
def WL.key (x : WL) : Int × Int × Bool × Fr := (x.tick, x.last, x.top, x.h.r)
end Go.Proofs.Ytigkfdoeneemeaa
