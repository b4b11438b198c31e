/- The long division by words: plain arithmetic. -/
import Derived.Test.YtigkfdoeneemeaaDiv0
namespace Go.Proofs.Ytigkfdoeneemeaa.W

theorem val_zero_of_lt {l : List Nat} {k : Nat} (h : val l < pw k) : val (l.drop k) = 0 := by
  rcases Nat.lt_or_ge l.length k with h1 | h1
  · rw [List.drop_eq_nil_of_le (by omega)]; rfl
  · have e := val_split l k h1
    rcases Nat.eq_zero_or_pos (val (l.drop k)) with h2 | h2
    · exact h2
    · have : pw k ≤ pw k * val (l.drop k) := Nat.le_mul_of_pos_right _ h2
      omega
theorem val_take_of_lt {l : List Nat} {k : Nat} (h : val l < pw k) : val (l.take k) = val l := by
  rcases Nat.lt_or_ge l.length k with h1 | h1
  · rw [List.take_of_length_le (by omega)]
  · have e := val_split l k h1
    rw [val_zero_of_lt h] at e
    omega
/-- The number whose first word is made great. -/
theorem norm_len {m : List Nat} (hw : WF m) (hn : Nrm m) {x : Nat} (hx : m.getLast? = some x) : (toW (val m * 2 ^ (32 - bl x))).length = m.length ∧ 2147483648 * pw (m.length - 1) ≤ val m * 2 ^ (32 - bl x) ∧ val m * 2 ^ (32 - bl x) < pw m.length := by
  have h0 : x ≠ 0 := fun e => hn (by rw [hx, e])
  have hl : 0 < m.length := by cases m with | nil => simp at hx | cons => simp
  have hxl : x < 4294967296 := hw x (List.mem_of_getLast? hx)
  have h1 := bl_words hw hx h0
  have h2 := bl_le32 hxl
  have hv : val m ≠ 0 := by have := val_pos hn (by intro e; rw [e] at hx; simp at hx); omega
  have h3 := bl_mul (k := 32 - bl x) hv
  rw [h1, show 32 * (m.length - 1) + bl x + (32 - bl x) = 32 * m.length by omega] at h3
  have h4 := bl_lt_pow (val m * 2 ^ (32 - bl x))
  have h5 := bl_ge (n := val m * 2 ^ (32 - bl x)) (Nat.mul_ne_zero hv (Nat.ne_of_gt (Nat.two_pow_pos _)))
  rw [h3] at h4 h5
  rw [← pw_two] at h4
  have h6 : 2 ^ (32 * m.length - 1) = 2147483648 * pw (m.length - 1) := by
    rw [pw_two, show (2147483648 : Nat) = 2 ^ 31 by decide, ← Nat.pow_add, show 31 + 32 * (m.length - 1) = 32 * m.length - 1 by omega]
  rw [h6] at h5
  refine ⟨Nat.le_antisymm (len_toW_le.2 h4) ?_, h5, h4⟩
  rcases Nat.lt_or_ge (toW (val m * 2 ^ (32 - bl x))).length m.length with h7 | h7
  · exfalso
    have h8 := len_toW_le.1 (show (toW (val m * 2 ^ (32 - bl x))).length ≤ m.length - 1 by omega)
    have := pw_pos (m.length - 1)
    omega
  · exact h7
/-- The first words of a stretch and of the number that goes into it. -/
theorem gs_of {u v : List Nat} {n : Nat} (wu : WF u) (wv : WF v) (hu : u.length = n + 3) (hv : v.length = n + 2) (hb : 2147483648 * pw (n + 1) ≤ val v) (hlt : val u < val v * 4294967296)
    {un u1 u2 v1 v2 : Nat} (e0 : u[n + 2]? = some un) (e1 : u[n + 1]? = some u1) (e2 : u[n]? = some u2) (e3 : v[n + 1]? = some v1) (e4 : v[n]? = some v2) :
    Gs (val u) (val v) (un * 4294967296 + u1) u2 v1 v2 (pw n) (val (u.take n)) (val (v.take n)) := by
  have a0 := val_take_succ e0
  have a1 := val_take_succ e1
  have a2 := val_take_succ e2
  have a3 := val_take_succ e3
  have a4 := val_take_succ e4
  rw [List.take_of_length_le (by omega)] at a0 a3
  have l1 := val_lt (wu.take n)
  have l2 := val_lt (wv.take n)
  have l3 := val_lt (wv.take (n + 1))
  rw [List.length_take, Nat.min_eq_left (by omega)] at l1 l2 l3
  have p1 : pw (n + 1) = 4294967296 * pw n := pw_succ n
  have p2 : pw (n + 2) = 4294967296 * pw (n + 1) := pw_succ (n + 1)
  refine ⟨?_, ?_, l1, l2, ?_, wv.at e3, wv.at e4, wu.at e2, hlt⟩
  · rw [show n + 1 + 1 = n + 2 by omega] at a1
    rw [a0, a1, a2, p2, p1]
    generalize pw n = p
    rw [Nat.add_mul, Nat.mul_right_comm (un * 4294967296 + u1) 4294967296 p, Nat.add_mul, Nat.mul_right_comm un 4294967296 p, Nat.mul_assoc, Nat.mul_assoc, Nat.mul_assoc, Nat.mul_comm p un, Nat.mul_comm p u1, Nat.mul_comm p u2]
    omega
  · rw [a3, a4, p1, Nat.add_mul]
    rw [Nat.mul_comm (pw n) v2, Nat.mul_comm (4294967296 * pw n) v1, Nat.mul_assoc v1]
    omega
  · rcases Nat.lt_or_ge v1 2147483648 with h | h
    · exfalso
      rw [a3] at hb
      have : pw (n + 1) * (v1 + 1) ≤ pw (n + 1) * 2147483648 := Nat.mul_le_mul_left _ h
      rw [Nat.mul_add, Nat.mul_one] at this
      omega
    · exact h

theorem drop_cons {l : List Nat} {k x : Nat} (h : l[k]? = some x) : l.drop k = x :: l.drop (k + 1) := by
  have hk : k < l.length := (List.getElem?_eq_some_iff.1 h).1
  rw [List.drop_eq_getElem_cons hk, (List.getElem?_eq_some_iff.1 h).2]
/-- A round of the division: the quotient's word, and what is left. -/
theorem div_step {ui V S Qs D : Nat} (hV : 0 < V) (hui : ui < 4294967296) (hS : S < V) (h : Qs * V + S = D) :
    (ui + 4294967296 * S) < V * 4294967296 ∧ ((ui + 4294967296 * S) / V + 4294967296 * Qs) * V + (ui + 4294967296 * S) % V = ui + 4294967296 * D := by
  refine ⟨by omega, ?_⟩
  have e := Nat.div_add_mod (ui + 4294967296 * S) V
  rw [Nat.add_mul, Nat.mul_assoc, Nat.mul_comm ((ui + 4294967296 * S) / V) V]
  have : 4294967296 * (Qs * V) + 4294967296 * S = 4294967296 * D := by rw [← Nat.mul_add, h]
  omega
theorem div_round {us us0 qs : List Nat} {V j N : Nat} (hl : j + N + 1 ≤ us.length) (wu : WF us) (hv : V < pw N) (hut : us.take (j + 1) = us0.take (j + 1)) (hlen : us0.length = us.length)
    (hud : val (us.drop (j + 1)) < V) (hqd : val (qs.drop (j + 1)) * V + val (us.drop (j + 1)) = val (us0.drop (j + 1))) (hjq : j < qs.length) :
    ∃ A part R, us = A ++ part ++ R ∧ A.length = j ∧ part.length = N + 1 ∧ WF part ∧ WF A ∧ WF R ∧ val part < V * 4294967296 ∧
      ∀ part' : List Nat, part'.length = N + 1 → val part' = val part % V → (A ++ part' ++ R).take j = us0.take j ∧ val ((A ++ part' ++ R).drop j) < V ∧ val ((qs.set j (val part / V)).drop j) * V + val ((A ++ part' ++ R).drop j) = val (us0.drop j) := by
  have hV : 0 < V := by omega
  have hj : j < us.length := by omega
  obtain ⟨ui, hui⟩ : ∃ ui, us[j]? = some ui := ⟨us[j], List.getElem?_eq_getElem hj⟩
  have hui0 : us0[j]? = some ui := by
    have : (us.take (j + 1))[j]? = some ui := by rw [List.getElem?_take, if_pos (by omega)]; exact hui
    rw [hut, List.getElem?_take, if_pos (by omega)] at this
    exact this
  have hul := wu.at hui
  have d1 := drop_cons hui
  have v1 : val (us.drop j) = ui + 4294967296 * val (us.drop (j + 1)) := by rw [d1, val]
  have v0 : val (us0.drop j) = ui + 4294967296 * val (us0.drop (j + 1)) := by rw [drop_cons hui0, val]
  have hR : val (((us.drop j).drop (N + 1))) = 0 := by
    rw [d1, List.drop_succ_cons]
    exact val_zero_of_lt (Nat.lt_trans hud hv)
  have hp : val ((us.drop j).take (N + 1)) = val (us.drop j) := by
    have e := val_split (us.drop j) (N + 1) (by simp; omega)
    rw [hR] at e
    omega
  obtain ⟨s1, s2⟩ := div_step hV hul hud hqd
  rw [← v1, ← hp] at s1 s2
  refine ⟨us.take j, (us.drop j).take (N + 1), (us.drop j).drop (N + 1), ?_, by simp; omega, by simp; omega, (wu.drop j).take _, wu.take j, (wu.drop j).drop _, s1, ?_⟩
  · rw [List.append_assoc, List.take_append_drop, List.take_append_drop]
  · intro part' hl' hv'
    have hA : (us.take j).length = j := by simp; omega
    have e1 : (us.take j ++ part' ++ (us.drop j).drop (N + 1)).drop j = part' ++ (us.drop j).drop (N + 1) := by
      rw [List.append_assoc, List.drop_append_of_le_length (by omega), List.drop_of_length_le (by omega), List.nil_append]
    have e2 : val (part' ++ (us.drop j).drop (N + 1)) = val part' := by rw [val_app, hR, Nat.mul_zero, Nat.add_zero]
    refine ⟨?_, ?_, ?_⟩
    · rw [List.append_assoc, List.take_append_of_le_length (by omega), List.take_of_length_le (by omega)]
      have := congrArg (List.take j) hut
      rwa [List.take_take, List.take_take, Nat.min_eq_left (by omega)] at this
    · rw [e1, e2, hv']; exact Nat.mod_lt _ hV
    · rw [e1, e2, hv', v0, drop_cons (x := val ((us.drop j).take (N + 1)) / V) (by rw [List.getElem?_set_self hjq]), List.drop_set_of_lt (Nat.lt_succ_self j), val]
      exact s2
/-- What is taken off, and added back. -/
theorem off_is {U V P x part b : Nat} (hV : V < P) (hV0 : 0 < V) (hU : U < P) (hx : U / V ≤ x) (hx2 : x ≤ U / V + 1) (hp : part < P) (h : part + x * V = U + P * b) (hb : b ≤ 1) :
    (b = 0 ∧ x = U / V ∧ part = U % V) ∨ (b = 1 ∧ x = U / V + 1 ∧ ∀ part2 c, part2 < P → part2 + P * c = part + V → part2 = U % V) := by
  have e := Nat.div_add_mod U V
  have hm := Nat.mod_lt U hV0
  generalize U / V = Q at *
  generalize U % V = R at *
  have hb2 : b = 0 ∨ b = 1 := by omega
  have hx3 : x = Q ∨ x = Q + 1 := by omega
  rcases hb2 with rfl | rfl
  · left
    rcases hx3 with rfl | rfl
    · refine ⟨rfl, rfl, ?_⟩
      rw [Nat.mul_comm] at h; omega
    · exfalso
      rw [Nat.add_mul, Nat.one_mul, Nat.mul_comm] at h
      omega
  · right
    rcases hx3 with rfl | rfl
    · exfalso
      rw [Nat.mul_comm] at h; omega
    · refine ⟨rfl, rfl, ?_⟩
      intro part2 c h2 h3
      rw [Nat.add_mul, Nat.one_mul, Nat.mul_comm Q V] at h
      have hc : c = 0 ∨ c = 1 ∨ 2 ≤ c := by omega
      rcases hc with rfl | rfl | hc
      · omega
      · omega
      · have : P * 2 ≤ P * c := Nat.mul_le_mul_left _ hc
        omega
theorem div_end {A M k q r : Nat} (h : q * (M * 2 ^ k) + r = A * 2 ^ k) (hr : r < M * 2 ^ k) : q = A / M ∧ r / 2 ^ k = A % M := by
  have hp : 0 < 2 ^ k := Nat.two_pow_pos k
  have hM : 0 < M := Nat.pos_of_ne_zero (by rintro rfl; simp at hr)
  have e1 : q = A * 2 ^ k / (M * 2 ^ k) := by
    rw [← h, Nat.add_comm, Nat.add_mul_div_right _ _ (Nat.mul_pos hM hp), Nat.div_eq_of_lt hr, Nat.zero_add]
  have e2 : r = A * 2 ^ k % (M * 2 ^ k) := by
    rw [← h, Nat.add_comm, Nat.add_mul_mod_self_right, Nat.mod_eq_of_lt hr]
  rw [Nat.mul_div_mul_right _ _ hp] at e1
  rw [Nat.mul_mod_mul_right] at e2
  refine ⟨e1, ?_⟩
  rw [e2, Nat.mul_div_cancel _ hp]
end Go.Proofs.Ytigkfdoeneemeaa.W
