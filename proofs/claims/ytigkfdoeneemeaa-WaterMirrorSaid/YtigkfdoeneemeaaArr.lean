/- Slices that are read: what lies behind a slice's address, as a list of cells. -/
import Derived.Test.YtigkfdoeneemeaaExt
namespace Go
open Go.RowKit

/-- Behind the address lie these cells (where there are none, the address may be nil). -/
def Arr (w : World) (a : Option Addr) (cs : List Value) : Prop :=
  cs = [] ∨ ∃ b o, a = some ⟨b, o, none⟩ ∧ b < w.heap.size ∧ ∀ i, i < cs.length → w.cell? ⟨b, o + i, none⟩ = cs[i]?

theorem Arr.nil (w : World) (a : Option Addr) : Arr w a [] := .inl rfl
theorem Arr.blw {w w' : World} {a : Option Addr} {cs : List Value} (h : Arr w a cs) (k : Blw w w') : Arr w' a cs := by
  rcases h with h | ⟨b, o, e, hb, hc⟩
  · exact .inl h
  · exact .inr ⟨b, o, e, Nat.lt_of_lt_of_le hb k.size, fun i hi => by rw [← hc i hi]; exact Below.cell k hb⟩
theorem Arr.ext {w : World} {a : Option Addr} {cs : List Value} (h : Arr w a cs) (x : World) : Arr (w.ext x) a cs := h.blw (w.blw_ext x)
theorem Arr.drewN {w : World} {a : Option Addr} {cs : List Value} (h : Arr w a cs) (n : Nat) : Arr (w.drewN n) a cs := h
theorem Arr.drew {w : World} {a : Option Addr} {cs : List Value} (h : Arr w a cs) : Arr w.drew a cs := h
theorem Arr.alloc {w : World} {a : Option Addr} {cs : List Value} (h : Arr w a cs) (o : Obj) : Arr (w.alloc o) a cs := h.blw ((Blw.refl w).alloc o)
/-- A part of it, from the begin on. -/
theorem Arr.pre {w : World} {a : Option Addr} {cs ds : List Value} (h : Arr w a cs) (k : ds <+: cs) : Arr w a ds := by
  rcases h with h | ⟨b, o, e, hb, hc⟩
  · subst h; exact .inl (List.prefix_nil.1 k)
  · obtain ⟨t, rfl⟩ := k
    exact .inr ⟨b, o, e, hb, fun i hi => by rw [hc i (by simp; omega), List.getElem?_append_left hi]⟩
/-- One cell. -/
theorem Arr.at {w : World} {a : Option Addr} {cs : List Value} (h : Arr w a cs) {i : Nat} (hi : i < cs.length) :
    ∃ b o, a = some ⟨b, o, none⟩ ∧ b < w.heap.size ∧ w.cell? ⟨b, o + i, none⟩ = some cs[i] := by
  rcases h with h | ⟨b, o, e, hb, hc⟩
  · subst h; exact absurd hi (by simp)
  · exact ⟨b, o, e, hb, by rw [hc i hi, List.getElem?_eq_getElem hi]⟩

/-- The element at a place, of a list of one-cell elements. -/
theorem Arr.elem {α : Type} {f : α → Value} {w : World} {a : Option Addr} {l : List α} (h : Arr w a (l.map f)) {k : Nat} (hk : k < l.length) :
    ∃ x b o, Hid (l.drop k = x :: l.drop (k + 1)) ∧ x ∈ l ∧ Hid (l[k]? = some x) ∧ a = some ⟨b, o, none⟩ ∧ b < w.heap.size ∧ w.cell? ⟨b, o + k, none⟩ = some (f x) := by
  obtain ⟨b, o, e, hb, hc⟩ := h.at (i := k) (by simpa using hk)
  exact ⟨l[k], b, o, List.drop_eq_getElem_cons hk, List.getElem_mem hk, by show l[k]? = some l[k]; rw [List.getElem?_eq_getElem hk], e, hb, by rw [hc]; simp⟩

end Go
