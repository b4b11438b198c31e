/- The small functions of package water: counted, from, copied, walked. -/
import Derived.Test.YtigkfdoeneemeaaWatP
namespace Go.Proofs.Ytigkfdoeneemeaa
open Go.RowKit

def cntd (n : Nat) (first : Int) : Int := if 4096 < n then 3 else if first < 0 ∨ 1048576 < first ∨ (0 < n ∧ 1048576 - (n : Int) + 1 < first) then 2 else 0

set_option maxHeartbeats 1000000 in
theorem counted_any (n : Nat) (first : Int) (w : World) (hn : n ≤ 9223372036854775807) :
    Calls Try.prog 126 #[.int .i64 n, .int .i64 first] w fun e w' => e = .returned (.int .i64 (cntd n first)) ∧ w' = w := by
  have he : cntd n first = if 4096 < n then 3 else if first < 0 ∨ 1048576 < first ∨ (0 < n ∧ 1048576 - (n : Int) + 1 < first) then 2 else 0 := rfl
  have HE := Lib.hid he
  clear he
  by_cases h1 : 4096 < n
  · rw [if_pos h1] at HE
    go_enter Try.func126, Try.ntmps126
    go_wp2
    go_ret
    exact ⟨ret_i64 HE.out.symm, rfl⟩
  rw [if_neg h1] at HE
  by_cases h2 : first < 0
  · rw [if_pos (.inl h2)] at HE
    have d1 : decide (first < 0) = true := by simpa using h2
    go_enter Try.func126, Try.ntmps126
    go_wp2
    go_ret
    exact ⟨ret_i64 HE.out.symm, rfl⟩
  have d1 : decide (first < 0) = false := by simpa using h2
  by_cases h3 : 1048576 < first
  · rw [if_pos (.inr (.inl h3))] at HE
    have d2 : decide (1048576 < first) = true := by simpa using h3
    go_enter Try.func126, Try.ntmps126
    go_wp2
    go_ret
    exact ⟨ret_i64 HE.out.symm, rfl⟩
  have d2 : decide (1048576 < first) = false := by simpa using h3
  by_cases h4 : 0 < n
  · have d3 : decide (0 < n) = true := by simpa using h4
    have e1 : IntKind.i64.wrap (IntKind.i64.wrap (1048576 - (n : Int)) + 1) = 1048576 - (n : Int) + 1 := by rw [IntKind.wrap_i64, IntKind.wrap_i64]; omega
    have e2 : IntKind.i64.wrap (1048576 - (n : Int)) = 1048576 - (n : Int) := by rw [IntKind.wrap_i64]; omega
    have e3 : IntKind.i64.wrap (1048576 - (n : Int) + 1) = 1048576 - (n : Int) + 1 := by rw [IntKind.wrap_i64]; omega
    by_cases h5 : 1048576 - (n : Int) + 1 < first
    · rw [if_pos (.inr (.inr ⟨h4, h5⟩))] at HE
      have d4 : decide (1048576 - (n : Int) + 1 < first) = true := by simpa using h5
      go_enter Try.func126, Try.ntmps126
      go_wp2
      go_ret
      exact ⟨ret_i64 HE.out.symm, rfl⟩
    · rw [if_neg (by omega)] at HE
      have d4 : decide (1048576 - (n : Int) + 1 < first) = false := by simpa using h5
      go_enter Try.func126, Try.ntmps126
      go_wp2
      go_ret
      exact ⟨ret_i64 HE.out.symm, rfl⟩
  · have d3 : decide (0 < n) = false := by simpa using h4
    rw [if_neg (by omega)] at HE
    go_enter Try.func126, Try.ntmps126
    go_wp2
    go_ret
    exact ⟨ret_i64 HE.out.symm, rfl⟩

set_option maxHeartbeats 400000 in
theorem from_ok (x y : FL) (w : World) (hx : FL.In w x) (hy : FL.In w y) (ox : x.r.Ok) (oy : y.r.Ok) :
    Calls Try.prog 128 #[frV x.r x.a x.c x.b x.d, frV y.r y.a y.c y.b y.d] w fun e w' => e = .returned (.int .i64 (cmpF y.r x.r)) ∧ ∃ z, w' = w.ext z := by
  have K := Lib.hid (fun (W : World) (hb : Blw w W) => ratioCompare_ok y.r x.r y.a y.c y.b y.d x.a x.c x.b x.d W (hy.blw hb) (hx.blw hb) oy ox)
  clear hx hy ox oy
  go_enter Try.func128, Try.ntmps128
  go_wp2_with fail
  refine Calls.mono (K.out _ (by repeat (first | exact Blw.refl _ | apply Blw.ext | apply Blw.alloc | apply Blw.drewN | apply Blw.drew | refine Blw.setCell ?_ _ _ (by simp)))) ?_
  rintro e w1 ⟨rfl, x1, rfl⟩
  go_wp2
  go_ret
  exact ⟨rfl, Blw.is (by repeat (first | exact Blw.refl _ | apply Blw.ext | apply Blw.alloc | apply Blw.drewN | apply Blw.drew | refine Blw.setCell ?_ _ _ (by simp)))⟩
end Go.Proofs.Ytigkfdoeneemeaa
