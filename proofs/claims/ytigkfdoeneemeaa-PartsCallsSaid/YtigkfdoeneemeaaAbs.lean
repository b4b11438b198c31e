/- Walks of both Abs of a complex number. -/
import Derived.Test.YtigkfdoeneemeaaParts
namespace Go.Proofs.Ytigkfdoeneemeaa
open Go.RowKit

set_option maxHeartbeats 400000 in
theorem ref07Size_any (x : Nat) (w : World) (hx : x < 2 ^ 64) :
    Calls Try.prog 111 #[.float .f64 x] w fun e w' => e = .returned (.float .f64 (x % 2 ^ 63)) ∧ w' = w := by
  go_enter Try.func111, Try.ntmps111
  go_wp2_with (go_at_call 63; refine (abs_any _ _ hx).mono ?_; rintro e w' ⟨rfl, rfl⟩)
  go_ret
  exact ⟨by simp, rfl⟩

set_option maxHeartbeats 400000 in
theorem sqrt_any (x : Nat) (w : World) : Calls Try.prog 110 #[.float .f64 x] w fun e w' => e = .returned (.float .f64 (Fl.fsq x w)) ∧ ∃ n, w' = w.drewN n := by
  go_enter Try.func110, Try.ntmps110
  go_wp2
  go_ret
  exact ⟨rfl, _, rfl⟩
set_option maxHeartbeats 400000 in
theorem inf_any (w : World) : Calls Try.prog 109 #[.int .i64 1] w fun e w' => e = .returned (.float .f64 9218868437227405312) ∧ w' = w := by
  go_enter Try.func109, Try.ntmps109
  go_wp2
  go_ret
  exact ⟨rfl, rfl⟩
def hyp (m n : Nat) : Nat := fM m (Fl.fsq (fA 4607182418800017408 (fM (fQ n m) (fQ n m))) default)
/-- The size of a complex number, of its parts' sizes. -/
def absS (x y : Nat) : Nat :=
  if (Fl.isNaN x || Fl.isNaN y) = true then 9221120237041090561
  else if (Fl.isInf x || Fl.isInf y) = true then 9218868437227405312
  else if (Fl.ord x y == some .lt) = true then (if (Fl.ord y 0 == some .eq) = true then 0 else hyp y x)
  else (if (Fl.ord x 0 == some .eq) = true then 0 else hyp x y)
def FRes (r : Nat) (w : World) (e : Ending) (w' : World) : Prop := ∃ (s : Nat) (x : World), e = .returned (.float .f64 s) ∧ Hid (Fl.same r s) ∧ s < 2 ^ 64 ∧ w' = w.ext x
theorem FRes.mk {r s : Nat} {w w' : World} (h : Fl.same r s) (l : s < 2 ^ 64) (b : Blw w w') : FRes r w (.returned (.float .f64 s)) w' := by
  obtain ⟨x, rfl⟩ := b.is
  exact ⟨s, x, rfl, h, l, rfl⟩
theorem hyp_same (m n : Nat) (w1 w2 w3 w4 w5 : World) : Fl.same (hyp m n) (Fl.fop .mul m (Fl.fsq (Fl.fop .add 4607182418800017408 (Fl.fop .mul (Fl.fop .quo n m w1) (Fl.fop .quo n m w1) w2) w3) w4) w5) :=
  Fl.same_mul (.refl _) (Fl.same_sqrt (Fl.same_add (.refl _) (Fl.same_mul (Fl.same_quo (.refl _) (.refl _) _ _) (Fl.same_quo (.refl _) (.refl _) _ _) _ _) _ _) _ _) _ _
theorem abs_is (a x : Nat) (w : World) (ha : a < 2 ^ 64) (h : Hid (a % 2 ^ 63 = x)) : Calls Try.prog 63 #[.float .f64 a] w fun e w' => e = .returned (.float .f64 x) ∧ w' = w := by
  rw [← h.out]; exact abs_any a w ha
theorem size_is (a x : Nat) (w : World) (ha : a < 2 ^ 64) (h : Hid (a % 2 ^ 63 = x)) : Calls Try.prog 111 #[.float .f64 a] w fun e w' => e = .returned (.float .f64 x) ∧ w' = w := by
  rw [← h.out]; exact ref07Size_any a w ha
set_option maxHeartbeats 1000000 in
theorem partsAbs_any (a b : Nat) (w : World) (ha : a < 2 ^ 64) (hb : b < 2 ^ 64) : Calls Try.prog 54 #[.complex .f64 a b] w (FRes (absS (a % 2 ^ 63) (b % 2 ^ 63)) w) := by
  have lx : a % 2 ^ 63 < 2 ^ 64 := Nat.lt_of_lt_of_le (Nat.mod_lt _ (by decide)) (by decide)
  have ly : b % 2 ^ 63 < 2 ^ 64 := Nat.lt_of_lt_of_le (Nat.mod_lt _ (by decide)) (by decide)
  obtain ⟨x, ex⟩ := ex_hid (a % 2 ^ 63)
  obtain ⟨y, ey⟩ := ex_hid (b % 2 ^ 63)
  rw [ex.out] at lx; rw [ey.out] at ly
  have n1 : (FloatKind.f64.format.order x x != some .eq) = Fl.isNaN x := Fl.ord_self_ne x
  have n2 : (FloatKind.f64.format.order y y != some .eq) = Fl.isNaN y := Fl.ord_self_ne y
  rw [ex.out, ey.out]
  go_enter Try.func54, Try.ntmps54
  go_wp2_with fail
  refine (abs_is a x _ ha ex).mono ?_
  rintro e w' ⟨rfl, rfl⟩
  go_wp2_with fail
  refine (abs_is b y _ hb ey).mono ?_
  rintro e w' ⟨rfl, rfl⟩
  cases nx : Fl.isNaN x <;> cases ny : Fl.isNaN y <;> rw [nx] at n1 <;> rw [ny] at n2
  case false.false =>
    cases ix : Fl.isInf x <;> cases iy : Fl.isInf y
    case false.false =>
      cases hlt : (FloatKind.f64.format.order x y == some .lt)
      · cases h0 : (FloatKind.f64.format.order x 0 == some .eq)
        all_goals
          go_wp2_with (first | (go_at_call 64; (with_reducible refine (isInf_any x _ lx).mono ?_); rintro e w' ⟨rfl, rfl⟩) | (go_at_call 64; (with_reducible refine (isInf_any y _ ly).mono ?_); rintro e w' ⟨rfl, rfl⟩) | (go_at_call 110; refine (sqrt_any _ _).mono ?_; rintro e w' ⟨rfl, n, rfl⟩) | (go_at_call 109; refine (inf_any _).mono ?_; rintro e w' ⟨rfl, rfl⟩))
          go_ret
          refine FRes.mk ?_ ?_ (by repeat (first | exact Blw.refl _ | apply Blw.ext | apply Blw.alloc | apply Blw.drewN | apply Blw.drew | refine Blw.setCell ?_ _ _ (by simp)))
          · unfold absS; rw [if_neg (by simp [nx, ny]), if_neg (by simp [ix, iy]), if_neg (by show ¬ (FloatKind.f64.format.order x y == some .lt) = true; rw [hlt]; simp)]
            first | (rw [if_pos (by show (FloatKind.f64.format.order x 0 == some .eq) = true; rw [h0])]; exact .refl _) | (rw [if_neg (by show ¬ (FloatKind.f64.format.order x 0 == some .eq) = true; rw [h0]; simp)]; exact hyp_same _ _ _ _ _ _ _)
          · first | exact Fl.fop_lt _ _ _ _ | decide
      · cases h0 : (FloatKind.f64.format.order y 0 == some .eq)
        all_goals
          go_wp2_with (first | (go_at_call 64; (with_reducible refine (isInf_any x _ lx).mono ?_); rintro e w' ⟨rfl, rfl⟩) | (go_at_call 64; (with_reducible refine (isInf_any y _ ly).mono ?_); rintro e w' ⟨rfl, rfl⟩) | (go_at_call 110; refine (sqrt_any _ _).mono ?_; rintro e w' ⟨rfl, n, rfl⟩) | (go_at_call 109; refine (inf_any _).mono ?_; rintro e w' ⟨rfl, rfl⟩))
          go_ret
          refine FRes.mk ?_ ?_ (by repeat (first | exact Blw.refl _ | apply Blw.ext | apply Blw.alloc | apply Blw.drewN | apply Blw.drew | refine Blw.setCell ?_ _ _ (by simp)))
          · unfold absS; rw [if_neg (by simp [nx, ny]), if_neg (by simp [ix, iy]), if_pos (by show (FloatKind.f64.format.order x y == some .lt) = true; rw [hlt])]
            first | (rw [if_pos (by show (FloatKind.f64.format.order y 0 == some .eq) = true; rw [h0])]; exact .refl _) | (rw [if_neg (by show ¬ (FloatKind.f64.format.order y 0 == some .eq) = true; rw [h0]; simp)]; exact hyp_same _ _ _ _ _ _ _)
          · first | exact Fl.fop_lt _ _ _ _ | decide
    all_goals
      go_wp2_with (first | (go_at_call 64; (with_reducible refine (isInf_any x _ lx).mono ?_); rintro e w' ⟨rfl, rfl⟩) | (go_at_call 64; (with_reducible refine (isInf_any y _ ly).mono ?_); rintro e w' ⟨rfl, rfl⟩) | (go_at_call 110; refine (sqrt_any _ _).mono ?_; rintro e w' ⟨rfl, n, rfl⟩) | (go_at_call 109; refine (inf_any _).mono ?_; rintro e w' ⟨rfl, rfl⟩))
      go_ret
      exact FRes.mk (by unfold absS; rw [if_neg (by simp [nx, ny]), if_pos (by simp [ix, iy])]; exact .refl _) (by decide) (by repeat (first | exact Blw.refl _ | apply Blw.ext | apply Blw.alloc | apply Blw.drewN | apply Blw.drew | refine Blw.setCell ?_ _ _ (by simp)))
  all_goals
    go_wp2
    go_ret
    exact FRes.mk (by unfold absS; rw [if_pos (by simp [nx, ny])]; exact .refl _) (by decide) (by repeat (first | exact Blw.refl _ | apply Blw.ext | apply Blw.alloc | apply Blw.drewN | apply Blw.drew | refine Blw.setCell ?_ _ _ (by simp)))
set_option maxHeartbeats 1000000 in
theorem ref07Abs_any (a b : Nat) (w : World) (ha : a < 2 ^ 64) (hb : b < 2 ^ 64) : Calls Try.prog 55 #[.complex .f64 a b] w (FRes (absS (a % 2 ^ 63) (b % 2 ^ 63)) w) := by
  have lx : a % 2 ^ 63 < 2 ^ 64 := Nat.lt_of_lt_of_le (Nat.mod_lt _ (by decide)) (by decide)
  have ly : b % 2 ^ 63 < 2 ^ 64 := Nat.lt_of_lt_of_le (Nat.mod_lt _ (by decide)) (by decide)
  obtain ⟨x, ex⟩ := ex_hid (a % 2 ^ 63)
  obtain ⟨y, ey⟩ := ex_hid (b % 2 ^ 63)
  rw [ex.out] at lx; rw [ey.out] at ly
  have n1 : (FloatKind.f64.format.order x x != some .eq) = Fl.isNaN x := Fl.ord_self_ne x
  have n2 : (FloatKind.f64.format.order y y != some .eq) = Fl.isNaN y := Fl.ord_self_ne y
  rw [ex.out, ey.out]
  go_enter Try.func55, Try.ntmps55
  go_wp2_with fail
  refine (size_is a x _ ha ex).mono ?_
  rintro e w' ⟨rfl, rfl⟩
  go_wp2_with fail
  refine (size_is b y _ hb ey).mono ?_
  rintro e w' ⟨rfl, rfl⟩
  cases nx : Fl.isNaN x <;> cases ny : Fl.isNaN y <;> rw [nx] at n1 <;> rw [ny] at n2
  case false.false =>
    cases ix : Fl.isInf x <;> cases iy : Fl.isInf y
    case false.false =>
      cases hlt : (FloatKind.f64.format.order x y == some .lt)
      · cases h0 : (FloatKind.f64.format.order x 0 == some .eq)
        all_goals
          go_wp2_with (first | (go_at_call 64; (with_reducible refine (isInf_any x _ lx).mono ?_); rintro e w' ⟨rfl, rfl⟩) | (go_at_call 64; (with_reducible refine (isInf_any y _ ly).mono ?_); rintro e w' ⟨rfl, rfl⟩) | (go_at_call 110; refine (sqrt_any _ _).mono ?_; rintro e w' ⟨rfl, n, rfl⟩) | (go_at_call 109; refine (inf_any _).mono ?_; rintro e w' ⟨rfl, rfl⟩))
          go_ret
          refine FRes.mk ?_ ?_ (by repeat (first | exact Blw.refl _ | apply Blw.ext | apply Blw.alloc | apply Blw.drewN | apply Blw.drew | refine Blw.setCell ?_ _ _ (by simp)))
          · unfold absS; rw [if_neg (by simp [nx, ny]), if_neg (by simp [ix, iy]), if_neg (by show ¬ (FloatKind.f64.format.order x y == some .lt) = true; rw [hlt]; simp)]
            first | (rw [if_pos (by show (FloatKind.f64.format.order x 0 == some .eq) = true; rw [h0])]; exact .refl _) | (rw [if_neg (by show ¬ (FloatKind.f64.format.order x 0 == some .eq) = true; rw [h0]; simp)]; exact hyp_same _ _ _ _ _ _ _)
          · first | exact Fl.fop_lt _ _ _ _ | decide
      · cases h0 : (FloatKind.f64.format.order y 0 == some .eq)
        all_goals
          go_wp2_with (first | (go_at_call 64; (with_reducible refine (isInf_any x _ lx).mono ?_); rintro e w' ⟨rfl, rfl⟩) | (go_at_call 64; (with_reducible refine (isInf_any y _ ly).mono ?_); rintro e w' ⟨rfl, rfl⟩) | (go_at_call 110; refine (sqrt_any _ _).mono ?_; rintro e w' ⟨rfl, n, rfl⟩) | (go_at_call 109; refine (inf_any _).mono ?_; rintro e w' ⟨rfl, rfl⟩))
          go_ret
          refine FRes.mk ?_ ?_ (by repeat (first | exact Blw.refl _ | apply Blw.ext | apply Blw.alloc | apply Blw.drewN | apply Blw.drew | refine Blw.setCell ?_ _ _ (by simp)))
          · unfold absS; rw [if_neg (by simp [nx, ny]), if_neg (by simp [ix, iy]), if_pos (by show (FloatKind.f64.format.order x y == some .lt) = true; rw [hlt])]
            first | (rw [if_pos (by show (FloatKind.f64.format.order y 0 == some .eq) = true; rw [h0])]; exact .refl _) | (rw [if_neg (by show ¬ (FloatKind.f64.format.order y 0 == some .eq) = true; rw [h0]; simp)]; exact hyp_same _ _ _ _ _ _ _)
          · first | exact Fl.fop_lt _ _ _ _ | decide
    all_goals
      go_wp2_with (first | (go_at_call 64; (with_reducible refine (isInf_any x _ lx).mono ?_); rintro e w' ⟨rfl, rfl⟩) | (go_at_call 64; (with_reducible refine (isInf_any y _ ly).mono ?_); rintro e w' ⟨rfl, rfl⟩) | (go_at_call 110; refine (sqrt_any _ _).mono ?_; rintro e w' ⟨rfl, n, rfl⟩) | (go_at_call 109; refine (inf_any _).mono ?_; rintro e w' ⟨rfl, rfl⟩))
      go_ret
      exact FRes.mk (by unfold absS; rw [if_neg (by simp [nx, ny]), if_pos (by simp [ix, iy])]; exact .refl _) (by decide) (by repeat (first | exact Blw.refl _ | apply Blw.ext | apply Blw.alloc | apply Blw.drewN | apply Blw.drew | refine Blw.setCell ?_ _ _ (by simp)))
  all_goals
    go_wp2
    go_ret
    exact FRes.mk (by unfold absS; rw [if_pos (by simp [nx, ny])]; exact .refl _) (by decide) (by repeat (first | exact Blw.refl _ | apply Blw.ext | apply Blw.alloc | apply Blw.drewN | apply Blw.drew | refine Blw.setCell ?_ _ _ (by simp)))
end Go.Proofs.Ytigkfdoeneemeaa
