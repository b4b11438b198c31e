/- The element at a place of a list of samples. -/
import Derived.Test.YtigkfdoeneemeaaArr
import Derived.Test.YtigkfdoeneemeaaOpenSample
namespace Go.Proofs.Ytigkfdoeneemeaa
open Go.RowKit

/-- The element at a place, of a list of samples. -/
theorem smp_at {w : World} {a : Option Addr} {l : List (Int × Nat)} (h : Arr w a (smps l)) {k : Nat} (hk : k < l.length) :
    ∃ (t : Int) (x : Nat) (b o : Nat), l[k]? = some (t, x) ∧ (t, x) ∈ l ∧ a = some ⟨b, o, none⟩ ∧ b < w.heap.size ∧ w.cell? ⟨b, o + k * 2, none⟩ = some (.int .i64 t) ∧ w.cell? ⟨b, o + k * 2 + 1, none⟩ = some (.float .f64 x) := by
  have hlen : ∀ l : List (Int × Nat), (smps l).length = l.length * 2 := by
    intro l; induction l with
    | nil => rfl
    | cons a l ih => simp [smps, smp] at ih ⊢; omega
  have hget : ∀ (l : List (Int × Nat)) (k : Nat) (h : k < l.length), (smps l)[k * 2]? = some (.int .i64 l[k].1) ∧ (smps l)[k * 2 + 1]? = some (.float .f64 l[k].2) := by
    intro l; induction l with
    | nil => intro k h; simp at h
    | cons a l ih =>
      intro k h
      cases k with
      | zero => exact ⟨rfl, rfl⟩
      | succ k =>
        obtain ⟨h1, h2⟩ := ih k (by simpa using h)
        have e : ∀ j, (smps (a :: l))[(k + 1) * 2 + j]? = (smps l)[k * 2 + j]? := fun j => by
          show ((smp a ++ smps l))[(k + 1) * 2 + j]? = _
          rw [List.getElem?_append_right (by simp [smp]; omega)]
          congr 1
          simp [smp]; omega
        exact ⟨by have := e 0; simp only [Nat.add_zero] at this; rw [this]; exact h1, by rw [e 1]; exact h2⟩
  rcases h with h | ⟨b, o, e, hb, hc⟩
  · have := hlen l; rw [h] at this; simp at this; omega
  · have hl := hlen l
    obtain ⟨h1, h2⟩ := hget l k hk
    refine ⟨l[k].1, l[k].2, b, o, by rw [List.getElem?_eq_getElem hk], List.getElem_mem hk, e, hb, ?_, ?_⟩
    · rw [hc _ (by omega), h1]
    · rw [Nat.add_assoc, hc _ (by omega), h2]

end Go.Proofs.Ytigkfdoeneemeaa
