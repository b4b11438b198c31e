/- Bits of a number: plain arithmetic. -/
import Derived.Test.YtigkfdoeneemeaaWords
import Derived.Lib.BitFns
namespace Go.Proofs.Ytigkfdoeneemeaa.W

/-- How many bits. -/
def bl (n : Nat) : Nat := if n = 0 then 0 else bl (n / 2) + 1
termination_by n
decreasing_by omega
theorem bl_zero : bl 0 = 0 := by unfold bl; rfl
theorem bl_pos {n : Nat} (h : n ≠ 0) : bl n = bl (n / 2) + 1 := by rw [bl, if_neg h]
theorem bl_le {n k : Nat} : bl n ≤ k ↔ n < 2 ^ k := by
  induction k generalizing n with
  | zero =>
    constructor
    · intro h
      by_cases hn : n = 0
      · simp [hn]
      · rw [bl_pos hn] at h; omega
    · intro h
      have : n = 0 := by simpa using h
      rw [this, bl_zero]; exact Nat.le_refl _
  | succ k ih =>
    by_cases hn : n = 0
    · subst hn; have := Nat.two_pow_pos (k + 1); simp [bl_zero, this]
    · rw [bl_pos hn, Nat.pow_succ]
      have := @ih (n / 2)
      omega
theorem bl_lt_pow (n : Nat) : n < 2 ^ bl n := bl_le.1 (Nat.le_refl _)
theorem bl_ge {n : Nat} (h : n ≠ 0) : 2 ^ (bl n - 1) ≤ n := by
  rcases Nat.lt_or_ge n (2 ^ (bl n - 1)) with h1 | h1
  · have := bl_le.2 h1
    have : bl n ≠ 0 := by rw [bl_pos h]; omega
    omega
  · exact h1
theorem bl_is {n k : Nat} (h1 : 2 ^ k ≤ n) (h2 : n < 2 ^ (k + 1)) : bl n = k + 1 := by
  have a := bl_le.2 h2
  rcases Nat.lt_or_ge k (bl n) with h | h
  · omega
  · have := bl_le.1 h; omega
theorem bl_mul {n k : Nat} (h : n ≠ 0) : bl (n * 2 ^ k) = bl n + k := by
  have h1 := bl_ge h
  have h2 := bl_lt_pow n
  have h3 : bl n ≠ 0 := by rw [bl_pos h]; omega
  have hp : 0 < 2 ^ k := Nat.two_pow_pos k
  have e : bl n + k = (bl n - 1 + k) + 1 := by omega
  rw [e]
  refine bl_is ?_ ?_
  · rw [Nat.pow_add]; exact Nat.mul_le_mul_right _ h1
  · rw [show bl n - 1 + k + 1 = bl n + k by omega, Nat.pow_add]; exact Nat.mul_lt_mul_of_pos_right h2 hp
theorem pw_two (k : Nat) : pw k = 2 ^ (32 * k) := by
  show (4294967296 : Nat) ^ k = _
  rw [show (4294967296 : Nat) = 2 ^ 32 by decide, ← Nat.pow_mul]
/-- A number's bits by its first word. -/
theorem bl_words {l : List Nat} (hw : WF l) {x : Nat} (hx : l.getLast? = some x) (h0 : x ≠ 0) : bl (val l) = 32 * (l.length - 1) + bl x := by
  have hl : 0 < l.length := by cases l with | nil => simp at hx | cons => simp
  have h1 := bl_ge h0
  have h2 := bl_lt_pow x
  have h3 : bl x ≠ 0 := by rw [bl_pos h0]; omega
  rw [List.getLast?_eq_getElem?] at hx
  have e := val_take_succ hx
  rw [Nat.sub_add_cancel hl, List.take_length] at e
  have h4 := val_lt (hw.take (l.length - 1))
  have h5 : (l.take (l.length - 1)).length = l.length - 1 := by simp
  rw [h5] at h4
  have e2 : 32 * (l.length - 1) + bl x = (32 * (l.length - 1) + (bl x - 1)) + 1 := by omega
  rw [e2]
  rw [e]
  have h6 : pw (l.length - 1) * (x + 1) ≤ pw (l.length - 1) * 2 ^ bl x := Nat.mul_le_mul_left _ h2
  rw [Nat.mul_add, Nat.mul_one] at h6
  refine bl_is ?_ ?_
  · rw [Nat.pow_add, ← pw_two]
    exact Nat.le_trans (Nat.mul_le_mul_left _ h1) (Nat.le_add_left _ _)
  · rw [show 32 * (l.length - 1) + (bl x - 1) + 1 = 32 * (l.length - 1) + bl x by omega, Nat.pow_add, ← pw_two]
    omega
theorem bl_aux : ∀ (f n : Nat), n < 2 ^ f → Lib.bitLenAux f n = bl n
  | 0, n, h => by
    have : n = 0 := by simpa using h
    rw [this, bl_zero]; rfl
  | f + 1, n, h => by
    unfold Lib.bitLenAux
    by_cases hn : n = 0
    · rw [if_pos hn, hn, bl_zero]
    · rw [if_neg hn, bl_pos hn, bl_aux f (n / 2) (by rw [Nat.pow_succ] at h; omega), Nat.add_comm]
theorem bitLen_bl {n : Nat} (h : n < 4294967296) : Lib.bitLen n = bl n := bl_aux 64 n (Nat.lt_trans h (by decide))
theorem bl_le32 {n : Nat} (h : n < 4294967296) : bl n ≤ 32 := bl_le.2 h
end Go.Proofs.Ytigkfdoeneemeaa.W
