/- Fractions compared: as whole numbers, plain Lean. -/
import Derived.Test.YtigkfdoeneemeaaMirP
import Derived.Test.YtigkfdoeneemeaaRat4
import Derived.Test.YtigkfdoeneemeaaWat3
namespace Go.Proofs.Ytigkfdoeneemeaa

def cmpI (x y : Int) : Int := if x < y then -1 else if y < x then 1 else 0
theorem cmpI_cases (x y : Int) : cmpI x y = -1 ∨ cmpI x y = 0 ∨ cmpI x y = 1 := by
  unfold cmpI; split
  · simp
  · split <;> simp
theorem cmpI_swap (x y : Int) : cmpI y x = - cmpI x y := by
  unfold cmpI
  rcases Int.lt_trichotomy x y with h | h | h
  · rw [if_neg (by omega), if_pos h, if_pos h]; rfl
  · subst h; simp
  · rw [if_pos h, if_neg (by omega), if_pos h]
theorem cmpI_neg (x y : Int) : cmpI (-x) (-y) = - cmpI x y := by
  rw [← cmpI_swap]
  unfold cmpI
  rcases Int.lt_trichotomy x y with h | h | h
  · rw [if_neg (by omega), if_pos (by omega), if_neg (by omega), if_pos h]
  · subst h; simp
  · rw [if_pos (by omega), if_pos h]
theorem cmpN_int (a b : Nat) : W.cmpN a b = cmpI a b := by
  rcases Nat.lt_trichotomy a b with h | h | h
  · rw [W.cmpN_lt h]; unfold cmpI; rw [if_pos (by omega)]
  · subst h; rw [W.cmpN_eq]; unfold cmpI; simp
  · rw [W.cmpN_gt h]; unfold cmpI; rw [if_neg (by omega), if_pos (by omega)]

/-- The sign's whole number over the line. -/
def Fr.p (r : Fr) : Int := if r.neg = true then -(W.val r.num : Int) else (W.val r.num : Int)
theorem Fr.Ok.den_pos {r : Fr} (h : r.Ok) : 0 < W.val r.den := W.val_pos h.nd (by intro e; have := h.d0; rw [e] at this; simp at this)
theorem Fr.Ok.num_pos {r : Fr} (h : r.Ok) (hn : r.neg = true) : 0 < W.val r.num := W.val_pos h.nn (by
  intro e
  have := h.ns (by rw [e]; rfl)
  rw [hn] at this; cases this)
theorem cmpF_is {r s : Fr} (hr : r.Ok) (hs : s.Ok) : cmpF r s = cmpI (r.p * (W.val s.den : Int)) (s.p * (W.val r.den : Int)) := by
  have q1 := hr.den_pos
  have q2 := hs.den_pos
  have n1 := hr.num_pos
  have n2 := hs.num_pos
  unfold cmpF Fr.p
  obtain ⟨rn, rnum, rden⟩ := r
  obtain ⟨sn, snum, sden⟩ := s
  simp only at q1 q2 n1 n2 ⊢
  generalize W.val rnum = a at *
  generalize W.val rden = b at *
  generalize W.val snum = c at *
  generalize W.val sden = d at *
  clear hr hs
  cases rn <;> cases sn
  · rw [if_neg (by simp), if_neg (by simp), if_neg (by simp), if_neg (by simp), if_neg (by simp), cmpN_int, Int.natCast_mul, Int.natCast_mul]
  · rw [if_neg (by simp), if_neg (by simp), if_pos rfl, if_neg (by simp), if_pos rfl]
    have h1 : 0 < c * b := Nat.mul_pos (n2 rfl) q1
    have e1 : -(c : Int) * (b : Int) = -((c * b : Nat) : Int) := by rw [Int.natCast_mul, Int.neg_mul]
    have e2 : (a : Int) * (d : Int) = ((a * d : Nat) : Int) := by rw [Int.natCast_mul]
    rw [e1, e2]
    unfold cmpI
    rw [if_neg (by omega), if_pos (by omega)]
  · rw [if_neg (by simp), if_pos rfl, if_pos rfl, if_neg (by simp)]
    have h1 : 0 < a * d := Nat.mul_pos (n1 rfl) q2
    have e1 : -(a : Int) * (d : Int) = -((a * d : Nat) : Int) := by rw [Int.natCast_mul, Int.neg_mul]
    have e2 : (c : Int) * (b : Int) = ((c * b : Nat) : Int) := by rw [Int.natCast_mul]
    rw [e1, e2]
    unfold cmpI
    rw [if_pos (by omega)]
  · rw [if_pos ⟨rfl, rfl⟩, if_pos rfl, if_pos rfl, cmpN_int]
    have e1 : -(a : Int) * (d : Int) = -((a * d : Nat) : Int) := by rw [Int.natCast_mul, Int.neg_mul]
    have e2 : -(c : Int) * (b : Int) = -((c * b : Nat) : Int) := by rw [Int.natCast_mul, Int.neg_mul]
    rw [e1, e2, cmpI_neg, ← cmpI_swap]
theorem cmpF_cases {r s : Fr} (hr : r.Ok) (hs : s.Ok) : cmpF r s = -1 ∨ cmpF r s = 0 ∨ cmpF r s = 1 := by rw [cmpF_is hr hs]; exact cmpI_cases _ _
theorem cmpF_swap {r s : Fr} (hr : r.Ok) (hs : s.Ok) : cmpF s r = - cmpF r s := by rw [cmpF_is hr hs, cmpF_is hs hr]; exact cmpI_swap _ _
theorem negF_p {r : Fr} (hr : r.Ok) : (negF r).p = - r.p := by
  unfold Fr.p negF
  simp only
  by_cases h0 : r.num.length = 0
  · have hn := hr.ns h0
    have : r.num = [] := List.eq_nil_of_length_eq_zero h0
    rw [hn, this]; simp [W.val]
  · have hp : decide (0 < r.num.length) = true := by simp; omega
    rw [hp, Bool.and_true]
    cases r.neg <;> simp
theorem cmpF_neg {r s : Fr} (hr : r.Ok) (hs : s.Ok) : cmpF (negF r) (negF s) = - cmpF r s := by
  rw [cmpF_is hr hs, cmpF_is (negF_ok hr) (negF_ok hs), negF_p hr, negF_p hs]
  show cmpI (-r.p * (W.val s.den : Int)) (-s.p * (W.val r.den : Int)) = _
  rw [Int.neg_mul, Int.neg_mul, cmpI_neg]
end Go.Proofs.Ytigkfdoeneemeaa
