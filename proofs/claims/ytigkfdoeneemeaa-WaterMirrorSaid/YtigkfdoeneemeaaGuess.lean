/- The walk of nat.guess: a word of a quotient out of the first words. -/
import Derived.Test.YtigkfdoeneemeaaOff
namespace Go.Proofs.Ytigkfdoeneemeaa
open Go.RowKit

/-- The first words of two numbers: what a guess goes by. -/
structure Gs (U V top u2 v1 v2 P lu lv : Nat) : Prop where
  hU : U = (top * 4294967296 + u2) * P + lu
  hV : V = (v1 * 4294967296 + v2) * P + lv
  plu : lu < P
  plv : lv < P
  pv1 : 2147483648 ≤ v1
  pv1b : v1 < 4294967296
  pv2 : v2 < 4294967296
  pu2 : u2 < 4294967296
  lt : U < V * 4294967296

section
variable {U V top u2 v1 v2 P lu lv : Nat}
theorem Gs.vpos (h : Gs U V top u2 v1 v2 P lu lv) : 0 < V := by
  have h1 := h.hV
  have : 0 < (v1 * 4294967296 + v2) * P := Nat.mul_pos (by have := h.pv1; omega) (by have := h.plv; omega)
  omega
/-- A multiple that fits, by the first words. -/
theorem Gs.fits (h : Gs U V top u2 v1 v2 P lu lv) {q : Nat} (hq : q * V ≤ U) : q * (v1 * 4294967296 + v2) ≤ top * 4294967296 + u2 := by
  have h1 : q * (v1 * 4294967296 + v2) * P ≤ q * V := by
    rw [Nat.mul_assoc, h.hV]; exact Nat.mul_le_mul_left _ (Nat.le_add_right _ _)
  have h2 : q * (v1 * 4294967296 + v2) * P < (top * 4294967296 + u2 + 1) * P := by
    rw [Nat.add_mul _ 1, Nat.one_mul]
    have := h.hU
    have := h.plu
    omega
  exact Nat.le_of_lt_succ (Nat.lt_of_mul_lt_mul_right h2)
theorem Gs.top_le (h : Gs U V top u2 v1 v2 P lu lv) : top ≤ v1 * 4294967296 + v2 := by
  have h1 : (top * 4294967296) * P ≤ U := by
    have := h.hU
    rw [Nat.add_mul] at this
    omega
  have h2 : V * 4294967296 ≤ (v1 * 4294967296 + v2 + 1) * 4294967296 * P := by
    rw [Nat.mul_right_comm]
    refine Nat.mul_le_mul_right _ ?_
    rw [h.hV, Nat.add_mul _ 1, Nat.one_mul]
    have := h.plv
    omega
  have h3 : top * 4294967296 * P < (v1 * 4294967296 + v2 + 1) * 4294967296 * P := Nat.lt_of_le_of_lt h1 (Nat.lt_of_lt_of_le h.lt h2)
  exact Nat.le_of_lt_succ (Nat.lt_of_mul_lt_mul_right (Nat.lt_of_mul_lt_mul_right h3))
theorem Gs.start (h : Gs U V top u2 v1 v2 P lu lv) : top / v1 * v1 + top % v1 = top ∧ U / V ≤ top / v1 ∧ top % v1 < 4294967296 ∧ top / v1 ≤ 4294967297 := by
  have hv := h.pv1
  refine ⟨by rw [Nat.mul_comm]; exact Nat.div_add_mod _ _, ?_, Nat.lt_trans (Nat.mod_lt _ (by omega)) h.pv1b, ?_⟩
  · rw [Nat.le_div_iff_mul_le (by omega)]
    have h1 := h.fits (Nat.div_mul_le_self U V)
    rw [Nat.mul_add, ← Nat.mul_assoc] at h1
    have := h.pu2
    have h2 : U / V * v1 * 4294967296 < (top + 1) * 4294967296 := by omega
    exact Nat.le_of_lt_succ (Nat.lt_of_mul_lt_mul_right h2)
  · have h1 := h.top_le
    have h2 := h.pv2
    refine Nat.le_of_lt_succ (Nat.div_lt_of_lt_mul ?_)
    omega
theorem Gs.dec (h : Gs U V top u2 v1 v2 P lu lv) {q r : Nat} (hq : q * v1 + r = top) (hQ : U / V ≤ q) (hc : 4294967296 ≤ q ∨ r * 4294967296 + u2 < q * v2) : U / V + 1 ≤ q := by
  rcases Nat.lt_or_ge (U / V) q with h1 | h1
  · exact h1
  · exfalso
    have e : q = U / V := Nat.le_antisymm h1 hQ
    rcases hc with h2 | h2
    · have : U / V < 4294967296 := Nat.div_lt_of_lt_mul h.lt
      omega
    · have h3 := h.fits (q := q) (by rw [e]; exact Nat.div_mul_le_self U V)
      rw [Nat.mul_add, ← Nat.mul_assoc, ← hq, Nat.add_mul] at h3
      omega
theorem Gs.fin (h : Gs U V top u2 v1 v2 P lu lv) {q r : Nat} (hq : q * v1 + r = top) (hB : q ≤ 4294967296) (hc : q * v2 ≤ r * 4294967296 + u2) : q ≤ U / V + 1 := by
  cases q with
  | zero => exact Nat.zero_le _
  | succ p =>
    refine Nat.succ_le_succ ?_
    rw [Nat.le_div_iff_mul_le h.vpos]
    have h1 : (p + 1) * (v1 * 4294967296 + v2) ≤ top * 4294967296 + u2 := by
      rw [Nat.mul_add, ← Nat.mul_assoc, ← hq, Nat.add_mul]
      omega
    have hv := h.pv1
    have h2 : p * (v1 * 4294967296 + v2 + 1) ≤ top * 4294967296 + u2 := by
      rw [Nat.mul_add, Nat.mul_one]
      rw [Nat.add_mul, Nat.one_mul] at h1
      omega
    have h3 : V ≤ (v1 * 4294967296 + v2 + 1) * P := by
      rw [h.hV, Nat.add_mul _ 1, Nat.one_mul]
      have := h.plv
      omega
    have h4 : p * V ≤ (top * 4294967296 + u2) * P := by
      refine Nat.le_trans (Nat.mul_le_mul_left p h3) ?_
      rw [← Nat.mul_assoc]
      exact Nat.mul_le_mul_right _ h2
    have := h.hU
    omega
theorem Gs.brk (h : Gs U V top u2 v1 v2 P lu lv) {q r : Nat} (hB : q ≤ 4294967296) (hr : 4294967296 ≤ r) : q * v2 ≤ r * 4294967296 + u2 := by
  have h1 : q * v2 ≤ 4294967296 * 4294967296 := Nat.mul_le_mul hB (Nat.le_of_lt h.pv2)
  have h2 : 4294967296 * 4294967296 ≤ r * 4294967296 := Nat.mul_le_mul_right _ hr
  omega
end

set_option maxRecDepth 100000 in
set_option maxHeartbeats 4000000 in
theorem natGuess_any (a b : Option Addr) (u v : List Nat) (c d n : Nat) (w : World) (ha : Arr w a (u32s u)) (hb : Arr w b (u32s v)) (wu : W.WF u) (wv : W.WF v) (hu : u.length = n + 3) (hv : v.length = n + 2) (hl : n ≤ 1000000)
    (top u2 v1 v2 P lu lv un u1 : Nat) (h : Gs (W.val u) (W.val v) top u2 v1 v2 P lu lv) (ht : top = un * 4294967296 + u1) (e0 : u[n + 2]? = some un) (e1 : u[n + 1]? = some u1) (e2 : u[n]? = some u2) (e3 : v[n + 1]? = some v1) (e4 : v[n]? = some v2) :
    Calls Try.prog 187 #[.slice a u.length c, .slice b v.length d] w fun e w' => (∃ q : Nat, e = .returned (.int .u64 q) ∧ q ≤ 4294967296 ∧ W.val u / W.val v ≤ q ∧ q ≤ W.val u / W.val v + 1) ∧ ∃ x, w' = w.ext x := by
  obtain ⟨x0, b1, o1, -, -, f0, rfl, g1, k0⟩ := ha.elem (k := n + 2) (by omega)
  obtain ⟨x1, b1', o1', -, -, f1, ee, g1', k1⟩ := ha.elem (k := n + 1) (by omega)
  cases ee
  obtain ⟨x2, b1', o1', -, -, f2, ee, g1', k2⟩ := ha.elem (k := n) (by omega)
  cases ee
  obtain ⟨y1, b2, o2, -, -, f3, rfl, g2, k3⟩ := hb.elem (k := n + 1) (by omega)
  obtain ⟨y2, b2', o2', -, -, f4, ee, g2', k4⟩ := hb.elem (k := n) (by omega)
  cases ee
  cases f0.out.symm.trans e0
  cases f1.out.symm.trans e1
  cases f2.out.symm.trans e2
  cases f3.out.symm.trans e3
  cases f4.out.symm.trans e4
  have b0 := wu.at e0
  have b1l := wu.at e1
  have b2l := wu.at e2
  have b3 := wv.at e3
  have b4 := wv.at e4
  have hv1 := h.pv1
  have H := Lib.hid h
  have HT := Lib.hid ht
  clear ht h e0 e1 e2 e3 e4 f0 f1 f2 f3 f4 ha hb g1' g2'
  rw [hu, hv]
  have i1 : (n : Int) + 2 < (n : Int) + 3 := by omega
  have i2 : (n : Int) + 1 < (n : Int) + 3 := by omega
  have i3 : (n : Int) < (n : Int) + 3 := by omega
  have i4 : (n : Int) + 1 < (n : Int) + 2 := by omega
  have i5 : (n : Int) < (n : Int) + 2 := by omega
  go_enter Try.func187, Try.ntmps187
  go_wp2_with fail
  go_quiet (fail)
  rw [or_low un u1 b0 b1l, ← HT.out]
  have hv0 : ((v1 : Int) == 0) = false := beq_false_of_ne (by omega)
  go_wp2_with fail
  go_quiet (fail)
  obtain ⟨s1, s2, s3, s4⟩ := H.out.start
  have eq : IntKind.u64.wrap ((top : Int) / (v1 : Int)) = ((top / v1 : Nat) : Int) := by
    rw [IntKind.wrap_u64, ← Int.natCast_ediv]
    generalize top / v1 = q0 at *
    omega
  have em : ((top : Int) % (v1 : Int)) = ((top % v1 : Nat) : Int) := (Int.natCast_emod ..).symm
  rw [eq, em]
  clear eq em
  have hQ0 := Lib.hid s2
  have hS1 := Lib.hid s1
  clear s1 s2
  generalize top / v1 = q0 at *
  generalize top % v1 = r0 at *
  go_wp2_with fail
  go_loopw [7, 8] (fun q r wr => ∃ (q' r' : Nat) (x : World), q = .int .u64 q' ∧ r = .int .u64 r' ∧ q' ≤ 4294967297 ∧ r' < 4294967296 ∧ Hid (q' * v1 + r' = top) ∧ Hid (W.val u / W.val v ≤ q') ∧ wr = w.ext x) (fun q _ _ => (intOf q).toNat)
  case atStart => exact ⟨q0, r0, _, rfl, rfl, s4, s3, hS1, hQ0, (World.ext_of (by repeat (first | exact Blw.refl _ | apply Blw.ext | apply Blw.alloc | apply Blw.drewN | apply Blw.drew | refine Blw.setCell ?_ _ _ (by simp)))).symm⟩
  case round =>
    obtain ⟨q, r, x, rfl, rfl, hq, hr, hS, hQ, rfl⟩ := hrel
    have hm := Nat.mul_le_mul hq (Nat.le_of_lt_succ b4)
    have hm2 : (q : Int) * (v2 : Int) ≤ 18446744073709551615 := by rw [← Int.natCast_mul]; omega
    have hm3 : (0 : Int) ≤ (q : Int) * (v2 : Int) := Int.mul_nonneg (Int.natCast_nonneg q) (Int.natCast_nonneg v2)
    clear hm
    by_cases h1 : 4294967296 ≤ q
    · have c1 : ((q : Int) / 4294967296 != 0) = true := by simp; omega
      have hd := Lib.hid (H.out.dec hS.out hQ.out (.inl h1))
      have q1 : 1 ≤ q := by omega
      have eq1 : ((q : Int) - 1) = ((q - 1 : Nat) : Int) := by omega
      have er1 : ((r : Int) + (v1 : Int)) = ((r + v1 : Nat) : Int) := by omega
      have EQ := Lib.hid eq1
      have ER := Lib.hid er1
      clear eq1 er1
      have hS' : Hid ((q - 1) * v1 + (r + v1) = top) := by
        show _ = _
        rw [← hS.out]
        obtain ⟨p, rfl⟩ : ∃ p, q = p + 1 := ⟨q - 1, by omega⟩
        rw [Nat.add_sub_cancel, Nat.add_mul, Nat.one_mul]; omega
      have hQ' : Hid (W.val u / W.val v ≤ q - 1) := by
        have := hd.out
        show _ ≤ _
        generalize W.val u / W.val v = Q at *
        omega
      by_cases h2 : 4294967296 ≤ r + v1
      · have c2 : (((r : Int) + (v1 : Int)) / 4294967296 != 0) = true := by simp; omega
        have hF := Lib.hid (H.out.fin hS'.out (by omega) (H.out.brk (q := q - 1) (by omega) h2))
        go_wp2_with fail
        go_quiet (fail)
        go_wp2_with fail
        go_ret
        exact ⟨⟨q - 1, congrArg (fun i => Ending.returned (.int .u64 i)) EQ.out, by omega, hQ'.out, hF.out⟩, Blw.is (by repeat (first | exact Blw.refl _ | apply Blw.ext | apply Blw.alloc | apply Blw.drewN | apply Blw.drew | refine Blw.setCell ?_ _ _ (by simp)))⟩
      · have c2 : (((r : Int) + (v1 : Int)) / 4294967296 != 0) = false := by simp; omega
        go_wp2_with fail
        go_quiet (fail)
        go_wp2_with fail
        go_roundw
        case rel => exact ⟨q - 1, r + v1, _, congrArg (Value.int .u64) EQ.out, congrArg (Value.int .u64) ER.out, by omega, by omega, hS', hQ', (World.ext_of (by repeat (first | exact Blw.refl _ | apply Blw.ext | apply Blw.alloc | apply Blw.drewN | apply Blw.drew | refine Blw.setCell ?_ _ _ (by simp)))).symm⟩
        case measure => (first | (simp [intOf]; done) | (simp [intOf]; omega))
    · have c1 : ((q : Int) / 4294967296 != 0) = false := by simp; omega
      by_cases h3 : r * 4294967296 + u2 < q * v2
      · have c3 : decide (bits BinOp.or IntKind.u64 ((r : Int) * 4294967296) (u2 : Int) < (q : Int) * (v2 : Int)) = true := by
          rw [or_low r u2 hr b2l, ← Int.natCast_mul]; simp; omega
        have q0 : 0 < q := by
          rcases Nat.eq_zero_or_pos q with e | e
          · rw [e, Nat.zero_mul] at h3; omega
          · exact e
        have hd := Lib.hid (H.out.dec hS.out hQ.out (.inr h3))
        clear h3
        have q1 : 1 ≤ q := by omega
        have eq1 : ((q : Int) - 1) = ((q - 1 : Nat) : Int) := by omega
        have er1 : ((r : Int) + (v1 : Int)) = ((r + v1 : Nat) : Int) := by omega
        have EQ := Lib.hid eq1
        have ER := Lib.hid er1
        clear eq1 er1
        have hS' : Hid ((q - 1) * v1 + (r + v1) = top) := by
          show _ = _
          rw [← hS.out]
          obtain ⟨p, rfl⟩ : ∃ p, q = p + 1 := ⟨q - 1, by omega⟩
          rw [Nat.add_sub_cancel, Nat.add_mul, Nat.one_mul]; omega
        have hQ' : Hid (W.val u / W.val v ≤ q - 1) := by
          have := hd.out
          show _ ≤ _
          generalize W.val u / W.val v = Q at *
          omega
        by_cases h2 : 4294967296 ≤ r + v1
        · have c2 : (((r : Int) + (v1 : Int)) / 4294967296 != 0) = true := by simp; omega
          have hF := Lib.hid (H.out.fin hS'.out (by omega) (H.out.brk (q := q - 1) (by omega) h2))
          go_wp2_with fail
          go_quiet (fail)
          go_wp2_with fail
          go_ret
          exact ⟨⟨q - 1, congrArg (fun i => Ending.returned (.int .u64 i)) EQ.out, by omega, hQ'.out, hF.out⟩, Blw.is (by repeat (first | exact Blw.refl _ | apply Blw.ext | apply Blw.alloc | apply Blw.drewN | apply Blw.drew | refine Blw.setCell ?_ _ _ (by simp)))⟩
        · have c2 : (((r : Int) + (v1 : Int)) / 4294967296 != 0) = false := by simp; omega
          go_wp2_with fail
          go_quiet (fail)
          go_wp2_with fail
          go_roundw
          case rel => exact ⟨q - 1, r + v1, _, congrArg (Value.int .u64) EQ.out, congrArg (Value.int .u64) ER.out, by omega, by omega, hS', hQ', (World.ext_of (by repeat (first | exact Blw.refl _ | apply Blw.ext | apply Blw.alloc | apply Blw.drewN | apply Blw.drew | refine Blw.setCell ?_ _ _ (by simp)))).symm⟩
          case measure => (first | (simp [intOf]; done) | (simp [intOf]; omega))
      · have c3 : decide (bits BinOp.or IntKind.u64 ((r : Int) * 4294967296) (u2 : Int) < (q : Int) * (v2 : Int)) = false := by
          rw [or_low r u2 hr b2l, ← Int.natCast_mul]; simp; omega
        have hF := Lib.hid (H.out.fin hS.out (by omega) (Nat.le_of_not_lt h3))
        clear h3
        go_wp2_with fail
        go_quiet (fail)
        go_wp2_with fail
        go_ret
        exact ⟨⟨q, rfl, by omega, hQ.out, hF.out⟩, Blw.is (by repeat (first | exact Blw.refl _ | apply Blw.ext | apply Blw.alloc | apply Blw.drewN | apply Blw.drew | refine Blw.setCell ?_ _ _ (by simp)))⟩
end Go.Proofs.Ytigkfdoeneemeaa
