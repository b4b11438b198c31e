/- Walks of the small functions on one float: which are finite, sizes. -/
import Derived.Test.YtigkfdoeneemeaaExtn
import Derived.Test.YtigkfdoeneemeaaExt
import Derived.Test.YtigkfdoeneemeaaFlOrd
namespace Go.Proofs.Ytigkfdoeneemeaa
open Go.RowKit

theorem ret_bool {a b : Bool} (h : a = b) : Ending.returned (.bool a) = .returned (.bool b) := by rw [h]
theorem ret_float {a b : Nat} (h : a = b) : Ending.returned (.float .f64 a) = .returned (.float .f64 b) := by rw [h]

set_option maxHeartbeats 400000 in
theorem abs_any (x : Nat) (w : World) (hx : x < 2 ^ 64) :
    Calls Try.prog 63 #[.float .f64 x] w fun e w' => e = .returned (.float .f64 (x % 2 ^ 63)) ∧ w' = w := by
  go_enter Try.func63, Try.ntmps63
  go_wp2
  go_ret
  exact ⟨ret_float (Fl.bits_abs x hx), rfl⟩

set_option maxHeartbeats 400000 in
theorem isNaN_any (x : Nat) (w : World) :
    Calls Try.prog 142 #[.float .f64 x] w fun e w' => e = .returned (.bool (Fl.isNaN x)) ∧ w' = w := by
  go_enter Try.func142, Try.ntmps142
  go_wp2
  go_ret
  exact ⟨ret_bool (Fl.ord_self_ne x), rfl⟩

set_option maxHeartbeats 400000 in
theorem isInf_any (x : Nat) (w : World) (hx : x < 2 ^ 64) :
    Calls Try.prog 64 #[.float .f64 x, .int .i64 0] w fun e w' => e = .returned (.bool (Fl.isInf x)) ∧ w' = w := by
  go_enter Try.func64, Try.ntmps64
  go_wp2_with (go_at_call 63; refine (abs_any _ _ hx).mono ?_; rintro e w' ⟨rfl, rfl⟩)
  go_ret
  exact ⟨ret_bool ((Fl.ord_max (Nat.mod_lt _ (by decide))).trans (Fl.isInf_mod x)), rfl⟩

set_option maxHeartbeats 400000 in
theorem realFinite_any (x : Nat) (w : World) (hx : x < 2 ^ 64) :
    Calls Try.prog 94 #[.float .f64 x] w fun e w' => e = .returned (.bool (Fl.isFin x)) ∧ w' = w := by
  go_enter Try.func94, Try.ntmps94
  cases hn : Fl.isNaN x
  all_goals
    go_wp2_with (first | (go_at_call 142; refine (isNaN_any _ _).mono ?_; rintro e w' ⟨rfl, rfl⟩) | (go_at_call 64; refine (isInf_any _ _ hx).mono ?_; rintro e w' ⟨rfl, rfl⟩))
    go_ret
    exact ⟨ret_bool (by rw [Fl.fin_not, hn]; simp), rfl⟩

set_option maxHeartbeats 400000 in
theorem alarmFinite_any (x : Nat) (w : World) (hx : x < 2 ^ 64) :
    Calls Try.prog 100 #[.float .f64 x] w fun e w' => e = .returned (.bool (Fl.isFin x)) ∧ w' = w := by
  go_enter Try.func100, Try.ntmps100
  cases hn : Fl.isInf x
  all_goals
    go_wp2_with (first | (go_at_call 142; refine (isNaN_any _ _).mono ?_; rintro e w' ⟨rfl, rfl⟩) | (go_at_call 64; refine (isInf_any _ _ hx).mono ?_; rintro e w' ⟨rfl, rfl⟩))
    go_ret
    exact ⟨ret_bool (by rw [Fl.fin_not, hn]; simp), rfl⟩

set_option maxHeartbeats 400000 in
theorem partsFinite_any (x : Nat) (w : World) (hx : x < 2 ^ 64) :
    Calls Try.prog 113 #[.float .f64 x] w fun e w' => e = .returned (.bool (Fl.isFin x)) ∧ w' = w := by
  go_enter Try.func113, Try.ntmps113
  cases hn : Fl.isInf x
  all_goals
    go_wp2_with (first | (go_at_call 64; refine (isInf_any _ _ hx).mono ?_; rintro e w' ⟨rfl, rfl⟩))
    go_ret
    exact ⟨ret_bool (by rw [Fl.fin_not, hn]; simp; try exact Fl.ord_self_eq x), rfl⟩

set_option maxHeartbeats 400000 in
theorem ref06Finite_any (x : Nat) (w : World) :
    Calls Try.prog 95 #[.float .f64 x] w fun e w' => e = .returned (.bool (Fl.isFin x)) ∧ w' = w := by
  go_enter Try.func95, Try.ntmps95
  go_wp2
  go_ret
  exact ⟨ret_bool (Fl.bits_fin x), rfl⟩

set_option maxHeartbeats 400000 in
theorem ref07Finite_any (x : Nat) (w : World) :
    Calls Try.prog 114 #[.float .f64 x] w fun e w' => e = .returned (.bool (Fl.isFin x)) ∧ ∃ n, w' = w.drewN n := by
  go_enter Try.func114, Try.ntmps114
  go_wp2
  go_ret
  exact ⟨ret_bool (Fl.sub_self_ord x w), _, rfl⟩

set_option maxHeartbeats 400000 in
theorem ref29Finite_any (x : Nat) (w : World) :
    Calls Try.prog 104 #[.float .f64 x] w fun e w' => e = .returned (.bool (Fl.isFin x)) ∧ ∃ n, w' = w.drewN n := by
  go_enter Try.func104, Try.ntmps104
  go_wp2
  go_ret
  exact ⟨ret_bool (Fl.sub_self_ord x w), _, rfl⟩
end Go.Proofs.Ytigkfdoeneemeaa
