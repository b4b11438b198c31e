/- The walk of the law PartsCalls. -/
import Derived.Test.YtigkfdoeneemeaaAbs
namespace Go.Proofs.Ytigkfdoeneemeaa
open Go.RowKit

set_option maxHeartbeats 400000 in
theorem z_any (a b : Nat) (w : World) : Calls Try.prog 39 #[.agg #[.int .u64 a, .int .u64 b]] w fun e w' => e = .returned (.complex .f64 a b) ∧ ∃ x, w' = w.ext x := by
  go_enter Try.func39, Try.ntmps39
  go_wp2
  refine wp_region_ext_lit (by kernel_rfl) (by kernel_rfl) ?_
  repeat (quiet_step ((fail)))
  refine wpQuiet_nil ?_
  rintro _ ⟨x, rfl⟩
  go_wp2
  go_ret
  exact ⟨by simp, Blw.is (by repeat (first | exact Blw.refl _ | apply Blw.ext | apply Blw.alloc | apply Blw.drewN | apply Blw.drew | refine Blw.setCell ?_ _ _ (by simp)))⟩
theorem ref07Same_refl (a b : Nat) (w : World) : Calls Try.prog 40 #[.complex .f64 a b, .complex .f64 a b] w fun e w' => e = .returned (.bool true) ∧ w' = w :=
  (ref07Same_any a b a b w).mono fun _ _ ⟨h, k⟩ => ⟨by rw [h, sBits_refl, sBits_refl]; rfl, k⟩
theorem ref07Same_yes {re im a b c d : Nat} (w : World) (h1 : Hid (Fl.same re a)) (h2 : Hid (Fl.same im b)) (h3 : Hid (Fl.same re c)) (h4 : Hid (Fl.same im d)) : Calls Try.prog 40 #[.complex .f64 a b, .complex .f64 c d] w fun e w' => e = .returned (.bool true) ∧ w' = w :=
  (ref07Same_any a b c d w).mono fun _ _ ⟨h, k⟩ => ⟨by rw [h, sBits_same2 h1.out h3.out, sBits_same2 h2.out h4.out]; rfl, k⟩
theorem ref07SameReal_yes {r a c : Nat} (w : World) (h1 : Hid (Fl.same r a)) (h3 : Hid (Fl.same r c)) : Calls Try.prog 53 #[.float .f64 a, .float .f64 c] w fun e w' => e = .returned (.bool true) ∧ w' = w :=
  (ref07SameReal_any a c w).mono fun _ _ ⟨h, k⟩ => ⟨by rw [h, sBits_same2 h1.out h3.out], k⟩
set_option maxRecDepth 100000 in
set_option maxHeartbeats 2000000 in
theorem partsCalls_walk (a b c d x : Nat) (w : World) (ha : a < 2 ^ 64) (hb : b < 2 ^ 64) (_ : c < 2 ^ 64) (_ : d < 2 ^ 64) (_ : x < 2 ^ 64) :
    Calls Try.prog 8 #[.agg #[.int .u64 a, .int .u64 b], .agg #[.int .u64 c, .int .u64 d], .int .u64 x] w fun e w' => e = .returned (.bool true) ∧ ∃ x, w' = w.ext x := by
  go_enter Try.func8, Try.ntmps8
  go_wp2
  refine wp_region_ext_lit (by kernel_rfl) (by kernel_rfl) ?_
  repeat (quiet_step ((go_at_call 39; exact Calls.ext_of (z_any _ _ _))))
  refine wpQuiet_nil ?_
  rintro _ ⟨x, rfl⟩
  have s1 := sBits_refl a
  have s2 := sBits_refl b
  go_wp2_with (first | (go_at_call 41; refine (partsAdd_any _ _ _ _ _).mono ?_; rintro e w' ⟨r, i, x, rfl, hr, hi, lr, li, rfl⟩) | (go_at_call 43; refine (partsSub_any _ _ _ _ _).mono ?_; rintro e w' ⟨r, i, x, rfl, hr, hi, lr, li, rfl⟩) | (go_at_call 45; refine (partsMul_any _ _ _ _ _).mono ?_; rintro e w' ⟨r, i, x, rfl, hr, hi, lr, li, rfl⟩) | (go_at_call 47; refine (partsScale_any _ _ _ _).mono ?_; rintro e w' ⟨r, i, x, rfl, hr, hi, lr, li, rfl⟩) | (go_at_call 49; refine (partsConj_any _ _ _).mono ?_; rintro e w' ⟨rfl, rfl⟩) | (go_at_call 51; refine (partsNeg_any _ _ _).mono ?_; rintro e w' ⟨rfl, rfl⟩) | (go_at_call 54; refine (partsAbs_any a b _ ha hb).mono ?_; rintro e w' ⟨r, x, rfl, hr, lr, rfl⟩) | (go_at_call 57; refine (partsEqual_any _ _ _ _ _).mono ?_; rintro e w' ⟨rfl, rfl⟩) | (go_at_call 42; refine (ref07Add_any _ _ _ _ _).mono ?_; rintro e w' ⟨r, i, x, rfl, hr, hi, lr, li, rfl⟩) | (go_at_call 44; refine (ref07Sub_any _ _ _ _ _).mono ?_; rintro e w' ⟨r, i, x, rfl, hr, hi, lr, li, rfl⟩) | (go_at_call 46; refine (ref07Mul_any _ _ _ _ _).mono ?_; rintro e w' ⟨r, i, x, rfl, hr, hi, lr, li, rfl⟩) | (go_at_call 48; refine (ref07Scale_any _ _ _ _).mono ?_; rintro e w' ⟨r, i, x, rfl, hr, hi, lr, li, rfl⟩) | (go_at_call 50; refine (ref07Conj_any _ _ _).mono ?_; rintro e w' ⟨rfl, rfl⟩) | (go_at_call 52; refine (ref07Neg_any _ _ _).mono ?_; rintro e w' ⟨rfl, rfl⟩) | (go_at_call 55; refine (ref07Abs_any a b _ ha hb).mono ?_; rintro e w' ⟨r, x, rfl, hr, lr, rfl⟩) | (go_at_call 58; refine (ref07Equal_any _ _ _ _ _).mono ?_; rintro e w' ⟨rfl, rfl⟩) | (go_at_call 56; refine (partsSame_any _ _ _ _ _).mono ?_; rintro e w' ⟨rfl, rfl⟩) | (go_at_call 40; (with_reducible refine (ref07Same_refl _ _ _).mono ?_); rintro e w' ⟨rfl, rfl⟩) | (go_at_call 40; refine Calls.mono (ref07Same_yes _ (by assumption) (by assumption) (by assumption) (by assumption)) ?_; rintro e w' ⟨rfl, rfl⟩) | (go_at_call 40; refine (ref07Same_any _ _ _ _ _).mono ?_; rintro e w' ⟨rfl, rfl⟩) | (go_at_call 53; refine Calls.mono (ref07SameReal_yes _ (by assumption) (by assumption)) ?_; rintro e w' ⟨rfl, rfl⟩) | (go_at_call 59; refine (partsFiniteC_any a b _ ha hb).mono ?_; rintro e w' ⟨rfl, rfl⟩) | (go_at_call 60; refine (ref07FiniteC_any a b _).mono ?_; rintro e w' ⟨rfl, x, rfl⟩))
  go_ret
  exact ⟨by simp, Blw.is (by repeat (first | exact Blw.refl _ | apply Blw.ext | apply Blw.alloc | apply Blw.drewN | apply Blw.drew | refine Blw.setCell ?_ _ _ (by simp)))⟩
end Go.Proofs.Ytigkfdoeneemeaa
