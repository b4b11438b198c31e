/- Natural numbers as words of 32 bits, the lowest first: plain arithmetic, no program. -/
namespace Go.Proofs.Ytigkfdoeneemeaa.W

/-- The number that words stand for. -/
def val : List Nat → Nat
  | [] => 0
  | x :: l => x + 4294967296 * val l
def WF (l : List Nat) : Prop := ∀ x ∈ l, x < 4294967296
/-- The words of a number, without noughts at the end. -/
def toW (n : Nat) : List Nat := if h : n = 0 then [] else n % 4294967296 :: toW (n / 4294967296)
termination_by n
decreasing_by omega
/-- No nought at the end. -/
def Nrm (l : List Nat) : Prop := l.getLast? ≠ some 0
abbrev pw (k : Nat) : Nat := 4294967296 ^ k

theorem WF.nil : WF [] := by simp [WF]
theorem WF.cons {x : Nat} {l : List Nat} (hx : x < 4294967296) (h : WF l) : WF (x :: l) := by
  intro y hy
  rcases List.mem_cons.1 hy with rfl | hy
  · exact hx
  · exact h y hy
theorem WF.head {x : Nat} {l : List Nat} (h : WF (x :: l)) : x < 4294967296 := h x List.mem_cons_self
theorem WF.tail {x : Nat} {l : List Nat} (h : WF (x :: l)) : WF l := fun y hy => h y (List.mem_cons_of_mem _ hy)
theorem WF.take {l : List Nat} (h : WF l) (k : Nat) : WF (l.take k) := fun x hx => h x (List.mem_of_mem_take hx)
theorem WF.drop {l : List Nat} (h : WF l) (k : Nat) : WF (l.drop k) := fun x hx => h x (List.mem_of_mem_drop hx)
theorem WF.app {a b : List Nat} (h : WF a) (k : WF b) : WF (a ++ b) := fun x hx => by
  rcases List.mem_append.1 hx with hx | hx
  · exact h x hx
  · exact k x hx
theorem WF.left {a b : List Nat} (h : WF (a ++ b)) : WF a := fun x hx => h x (List.mem_append_left _ hx)
theorem WF.right {a b : List Nat} (h : WF (a ++ b)) : WF b := fun x hx => h x (List.mem_append_right _ hx)
theorem WF.set {l : List Nat} (h : WF l) (i : Nat) {v : Nat} (hv : v < 4294967296) : WF (l.set i v) := fun x hx => by
  rcases List.mem_or_eq_of_mem_set hx with hx | rfl
  · exact h x hx
  · exact hv
theorem WF.rep (k : Nat) : WF (List.replicate k 0) := fun x hx => by rw [List.eq_of_mem_replicate hx]; decide
theorem WF.at {l : List Nat} (h : WF l) {i x : Nat} (hi : l[i]? = some x) : x < 4294967296 := h x (List.mem_of_getElem? hi)

theorem val_app (a b : List Nat) : val (a ++ b) = val a + pw a.length * val b := by
  induction a with
  | nil => simp [val]
  | cons x a ih => simp only [List.cons_append, val, ih, List.length_cons, pw, Nat.pow_succ]; rw [Nat.mul_add, Nat.mul_comm (4294967296 ^ a.length) 4294967296, Nat.mul_assoc]; omega
theorem val_rep (k : Nat) : val (List.replicate k 0) = 0 := by
  induction k with
  | zero => rfl
  | succ k ih => simp [List.replicate_succ, val, ih]
theorem val_snoc (a : List Nat) (x : Nat) : val (a ++ [x]) = val a + pw a.length * x := by rw [val_app]; simp [val]
theorem pw_pos (k : Nat) : 0 < pw k := Nat.pow_pos (by decide)
theorem pw_succ (k : Nat) : pw (k + 1) = 4294967296 * pw k := by simp only [pw, Nat.pow_succ, Nat.mul_comm]
theorem val_lt {l : List Nat} (h : WF l) : val l < pw l.length := by
  induction l with
  | nil => simp [val, pw]
  | cons x l ih =>
    have h1 := ih h.tail
    have h2 := h.head
    simp only [val, List.length_cons, pw_succ]
    omega
theorem val_split (l : List Nat) (k : Nat) (hk : k ≤ l.length) : val l = val (l.take k) + pw k * val (l.drop k) := by
  have e : l.take k ++ l.drop k = l := List.take_append_drop k l
  have hl : (l.take k).length = k := by simp; omega
  calc val l = val (l.take k ++ l.drop k) := by rw [e]
    _ = _ := by rw [val_app, hl]
theorem val_take_succ {l : List Nat} {k x : Nat} (h : l[k]? = some x) : val (l.take (k + 1)) = val (l.take k) + pw k * x := by
  have hk : k < l.length := (List.getElem?_eq_some_iff.1 h).1
  rw [List.take_add_one, h, Option.toList_some, val_snoc]
  rw [List.length_take, Nat.min_eq_left (by omega)]

theorem toW_zero : toW 0 = [] := by unfold toW; rfl
theorem toW_pos {n : Nat} (h : n ≠ 0) : toW n = n % 4294967296 :: toW (n / 4294967296) := by rw [toW, dif_neg h]
theorem val_toW (n : Nat) : val (toW n) = n := by
  induction n using Nat.strongRecOn with
  | ind n ih =>
    by_cases h : n = 0
    · subst h; rw [toW_zero]; rfl
    · rw [toW_pos h, val, ih (n / 4294967296) (by omega)]; omega
theorem wf_toW (n : Nat) : WF (toW n) := by
  induction n using Nat.strongRecOn with
  | ind n ih =>
    by_cases h : n = 0
    · subst h; rw [toW_zero]; exact WF.nil
    · rw [toW_pos h]; exact WF.cons (by omega) (ih (n / 4294967296) (by omega))
theorem toW_ne {n : Nat} (h : n ≠ 0) : toW n ≠ [] := by rw [toW_pos h]; simp
theorem toW_nil {n : Nat} : toW n = [] ↔ n = 0 := ⟨fun h => by rcases Nat.eq_zero_or_pos n with e | e; exact e; exact absurd h (toW_ne (by omega)), fun h => by rw [h, toW_zero]⟩
theorem nrm_toW (n : Nat) : Nrm (toW n) := by
  induction n using Nat.strongRecOn with
  | ind n ih =>
    by_cases h : n = 0
    · subst h; rw [toW_zero]; simp [Nrm]
    · rw [toW_pos h]
      by_cases h2 : n / 4294967296 = 0
      · rw [h2, toW_zero]; simp [Nrm]; omega
      · have := ih (n / 4294967296) (by omega)
        unfold Nrm at *
        cases e : toW (n / 4294967296) with
        | nil => exact absurd e (toW_ne h2)
        | cons y t => rw [e] at this; rw [List.getLast?_cons_cons]; exact this
theorem nrm_nil : Nrm [] := by simp [Nrm]
theorem nrm_tail {x : Nat} {l : List Nat} (h : Nrm (x :: l)) : Nrm l := by
  cases l with
  | nil => exact nrm_nil
  | cons y l => unfold Nrm at *; rw [List.getLast?_cons_cons] at h; exact h
theorem val_pos {l : List Nat} (h : Nrm l) (hne : l ≠ []) : 0 < val l := by
  induction l with
  | nil => exact absurd rfl hne
  | cons x l ih =>
    rw [val]
    cases l with
    | nil => simp [Nrm] at h; simp [val]; omega
    | cons y l => have := ih (nrm_tail h) (by simp); omega
/-- The one form. -/
theorem toW_val {l : List Nat} (hw : WF l) (h : Nrm l) : toW (val l) = l := by
  induction l with
  | nil => exact toW_zero
  | cons x l ih =>
    have hp := val_pos h (by simp)
    have hx := hw.head
    rw [toW_pos (by omega)]
    have e1 : val (x :: l) % 4294967296 = x := by rw [val]; omega
    have e2 : val (x :: l) / 4294967296 = val l := by rw [val]; omega
    rw [e1, e2, ih hw.tail (nrm_tail h)]
theorem val_inj {a b : List Nat} (ha : WF a) (na : Nrm a) (hb : WF b) (nb : Nrm b) (h : val a = val b) : a = b := by
  rw [← toW_val ha na, ← toW_val hb nb, h]
theorem toW_app_zeros {l : List Nat} (hw : WF l) : ∃ z, l = toW (val l) ++ List.replicate z 0 := by
  induction l with
  | nil => exact ⟨0, by simp [val, toW_zero]⟩
  | cons x l ih =>
    obtain ⟨z, e⟩ := ih hw.tail
    have hx := hw.head
    by_cases h : val (x :: l) = 0
    · rw [h, toW_zero]
      have h1 : x = 0 := by rw [val] at h; omega
      have h2 : val l = 0 := by rw [val] at h; omega
      rw [h2, toW_zero] at e
      exact ⟨z + 1, by rw [h1, e]; simp [List.replicate_succ]⟩
    · refine ⟨z, ?_⟩
      rw [toW_pos h]
      have e1 : val (x :: l) % 4294967296 = x := by rw [val]; omega
      have e2 : val (x :: l) / 4294967296 = val l := by rw [val]; omega
      rw [e1, e2]
      conv => lhs; rw [e]
      simp
theorem toW_pre {l : List Nat} (hw : WF l) : toW (val l) <+: l := by
  obtain ⟨z, e⟩ := toW_app_zeros hw
  exact ⟨_, e.symm⟩
theorem toW_len_le {l : List Nat} (hw : WF l) : (toW (val l)).length ≤ l.length := (toW_pre hw).length_le
theorem toW_take {l : List Nat} (hw : WF l) : l.take (toW (val l)).length = toW (val l) := (List.prefix_iff_eq_take.1 (toW_pre hw)).symm
/-- A prefix with no nought at its end and the same number is the one form. -/
theorem toW_eq_take {l : List Nat} (hw : WF l) {n : Nat} (hn : n ≤ l.length) (hv : val (l.take n) = val l) (hz : n = 0 ∨ l[n - 1]? ≠ some 0) : toW (val l) = l.take n := by
  rw [← hv]
  refine toW_val (hw.take n) ?_
  rcases hz with rfl | hz
  · simp [Nrm]
  · unfold Nrm
    rw [List.getLast?_take]
    by_cases h0 : n = 0
    · simp [h0]
    · rw [if_neg h0]
      have : n - 1 < l.length := by omega
      rw [List.getElem?_eq_getElem this] at hz ⊢
      simpa using hz
theorem len_toW_le {n k : Nat} : (toW n).length ≤ k ↔ n < pw k := by
  constructor
  · intro h
    have h1 := val_lt (wf_toW n)
    rw [val_toW] at h1
    exact Nat.lt_of_lt_of_le h1 (Nat.pow_le_pow_right (by decide) h)
  · intro h
    rcases Nat.lt_or_ge k (toW n).length with hlt | hge
    · exfalso
      have hne : n ≠ 0 := by intro e; rw [e, toW_zero] at hlt; simp at hlt
      -- the words from place k on are not all nought
      have h1 := val_split (toW n) k (by omega)
      rw [val_toW] at h1
      have h2 : 0 < val ((toW n).drop k) := by
        refine val_pos ?_ (by intro e; have := congrArg List.length e; simp at this; omega)
        have := nrm_toW n
        unfold Nrm at *
        rw [List.getLast?_drop]
        rw [if_neg (by omega)]; exact this
      have : pw k ≤ pw k * val ((toW n).drop k) := Nat.le_mul_of_pos_right _ h2
      omega
    · exact hge

theorem val_set {l : List Nat} {j x : Nat} (v : Nat) (h : l[j]? = some x) : val (l.set j v) + pw j * x = val l + pw j * v := by
  induction l generalizing j with
  | nil => simp at h
  | cons a l ih =>
    cases j with
    | zero => simp at h; subst h; simp [val, pw]; omega
    | succ j =>
      simp only [List.getElem?_cons_succ] at h
      have := ih h
      simp only [List.set_cons_succ, val, pw_succ]
      rw [Nat.mul_assoc, Nat.mul_assoc]
      omega
theorem take_set {l : List Nat} (N j v : Nat) : (l.set j v).take N = (l.take N).set j v := List.take_set ..
theorem val_take_set {l : List Nat} {N j x : Nat} (v : Nat) (hj : j < N) (h : l[j]? = some x) : val ((l.set j v).take N) + pw j * x = val (l.take N) + pw j * v := by
  rw [take_set]
  exact val_set v (by rw [List.getElem?_take, if_pos hj]; exact h)
theorem val_take_set_end {l : List Nat} {j : Nat} (v : Nat) (hj : j < l.length) : val ((l.set j v).take (j + 1)) = val (l.take j) + pw j * v := by
  rw [val_take_succ (x := v) (by simp [hj]), List.take_set_of_le (Nat.le_refl _)]
/-- A step of a sum by words. -/
theorem step_val {A A' P old v t c c' s : Nat} (h1 : A' + P * old = A + P * v) (h2 : t = c + s + old) (h3 : t = v + 4294967296 * c') : A' + (4294967296 * P) * c' = A + P * c + P * s := by
  have e1 : P * t = P * c + P * s + P * old := by rw [h2, Nat.mul_add, Nat.mul_add]
  have e2 : P * t = P * v + P * (4294967296 * c') := by rw [h3, Nat.mul_add]
  have e3 : (4294967296 * P) * c' = P * (4294967296 * c') := by rw [Nat.mul_comm 4294967296 P, Nat.mul_assoc]
  omega
theorem pw_add (a b : Nat) : pw (a + b) = pw a * pw b := Nat.pow_add ..
theorem mul_words {x y : Nat} (hx : x < 4294967296) (hy : y < 4294967296) : x * y ≤ 18446744065119617025 := Nat.mul_le_mul (Nat.le_of_lt_succ hx) (Nat.le_of_lt_succ hy)

theorem mul_step {A A' i j x y z c v c' t B V : Nat} (h1 : A' + pw (i + j) * z = A + pw (i + j) * v) (ht : t = c + (x * y + z)) (hv : t = v + 4294967296 * c') (h : A + pw (i + j) * c = B + pw i * (x * V)) :
    A' + pw (i + (j + 1)) * c' = B + pw i * (x * (V + pw j * y)) := by
  have e := step_val (t := t) (c := c) (s := x * y) h1 (by omega) hv
  rw [← Nat.add_assoc, pw_succ, e, h, Nat.mul_add, Nat.mul_add, Nat.add_assoc, pw_add]
  congr 2
  rw [Nat.mul_assoc, Nat.mul_left_comm x (pw j) y]

/-- -1, 0, 1. -/
def cmpN (x y : Nat) : Int := if x < y then -1 else if y < x then 1 else 0
theorem cmpN_lt {x y : Nat} (h : x < y) : cmpN x y = -1 := by unfold cmpN; rw [if_pos h]
theorem cmpN_gt {x y : Nat} (h : y < x) : cmpN x y = 1 := by unfold cmpN; rw [if_neg (by omega), if_pos h]
theorem cmpN_eq (x : Nat) : cmpN x x = 0 := by unfold cmpN; rw [if_neg (by omega), if_neg (by omega)]
theorem val_lt_len {a b : List Nat} (ha : WF a) (nb : Nrm b) (h : a.length < b.length) : val a < val b := by
  have h1 := val_lt ha
  have h2 := val_split b a.length (by omega)
  have h3 : 0 < val (b.drop a.length) := by
    refine val_pos ?_ (by intro e; have := congrArg List.length e; simp at this; omega)
    unfold Nrm at *
    rw [List.getLast?_drop, if_neg (by omega)]; exact nb
  have : pw a.length ≤ pw a.length * val (b.drop a.length) := Nat.le_mul_of_pos_right _ h3
  omega
theorem val_lt_at {a b : List Nat} (ha : WF a) {i x y : Nat} (hx : a[i]? = some x) (hy : b[i]? = some y) (hd : val (a.drop (i + 1)) = val (b.drop (i + 1))) (h : x < y) : val a < val b := by
  have la : i < a.length := (List.getElem?_eq_some_iff.1 hx).1
  have lb : i < b.length := (List.getElem?_eq_some_iff.1 hy).1
  have h1 := val_split a (i + 1) (by omega)
  have h2 := val_split b (i + 1) (by omega)
  rw [val_take_succ hx] at h1
  rw [val_take_succ hy] at h2
  have h3 := val_lt (ha.take i)
  have h4 : (a.take i).length = i := by simp; omega
  rw [h4] at h3
  rw [h1, h2, hd]
  have h5 : pw i * (x + 1) ≤ pw i * y := Nat.mul_le_mul_left _ h
  rw [Nat.mul_add, Nat.mul_one] at h5
  omega
end Go.Proofs.Ytigkfdoeneemeaa.W
