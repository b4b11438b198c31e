/- The waters of a list, in plain Lean: of the signs of its steps. -/
import Derived.Test.YtigkfdoeneemeaaFl3
namespace Go.Proofs.Ytigkfdoeneemeaa

/-- The first step from k on that is none of 0. -/
def nextS (f : Nat → Int) (n k : Nat) : Option Nat := if k < n then (if f k = 0 then nextS f n (k + 1) else some k) else none
termination_by n - k

theorem nextS_out {f : Nat → Int} {n k : Nat} (h : ¬ k < n) : nextS f n k = none := by rw [nextS, if_neg h]
theorem nextS_on {f : Nat → Int} {n k : Nat} (h : k < n) (h0 : f k = 0) : nextS f n k = nextS f n (k + 1) := by rw [nextS, if_pos h, if_pos h0]
theorem nextS_at {f : Nat → Int} {n k : Nat} (h : k < n) (h0 : ¬ f k = 0) : nextS f n k = some k := by rw [nextS, if_pos h, if_neg h0]

/-- The water that begins at a place. -/
def wat (f : Nat → Int) (n i : Nat) : Option (Nat × Nat × Bool) :=
  if i = 0 ∨ f i = 0 then none else
  match nextS f n (i + 1) with
  | none => none
  | some k => if f k = f i then none else some (i, k - 1, f i == 1)
def wats (f : Nat → Int) (n i : Nat) : List (Nat × Nat × Bool) := (List.range i).filterMap (wat f n)

theorem wats_one (f : Nat → Int) (n : Nat) : wats f n 1 = [] := by simp [wats, wat]
theorem wats_none {f : Nat → Int} {n i : Nat} (h : wat f n i = none) : wats f n (i + 1) = wats f n i := by
  unfold wats; rw [List.range_succ, List.filterMap_append]; simp [h]
theorem wats_some {f : Nat → Int} {n i : Nat} {x : Nat × Nat × Bool} (h : wat f n i = some x) : wats f n (i + 1) = wats f n i ++ [x] := by
  unfold wats; rw [List.range_succ, List.filterMap_append]; simp [h]
theorem wat_zero {f : Nat → Int} {n i : Nat} (h : f i = 0) : wat f n i = none := by unfold wat; rw [if_pos (.inr h)]
theorem wat_next {f : Nat → Int} {n i : Nat} (hi : 0 < i) (h : ¬ f i = 0) : wat f n i = match nextS f n (i + 1) with | none => none | some k => if f k = f i then none else some (i, k - 1, f i == 1) := by
  unfold wat; rw [if_neg (by omega)]
theorem wat_out {f : Nat → Int} {n i : Nat} (hi : 0 < i) (h : ¬ f i = 0) (k : nextS f n (i + 1) = none) : wat f n i = none := by rw [wat_next hi h, k]
theorem wat_same {f : Nat → Int} {n i j : Nat} (hi : 0 < i) (h : ¬ f i = 0) (k : nextS f n (i + 1) = some j) (e : f j = f i) : wat f n i = none := by rw [wat_next hi h, k]; exact if_pos e
theorem wat_turn {f : Nat → Int} {n i j : Nat} (hi : 0 < i) (h : ¬ f i = 0) (k : nextS f n (i + 1) = some j) (e : ¬ f j = f i) : wat f n i = some (i, j - 1, f i == 1) := by rw [wat_next hi h, k]; exact if_neg e
end Go.Proofs.Ytigkfdoeneemeaa
