/- Walks of both TwoSum: the same function of the operands' bits. -/
import Derived.Test.YtigkfdoeneemeaaFin
namespace Go.Proofs.Ytigkfdoeneemeaa
open Go.RowKit

namespace Fl
theorem same.fin {x y : Nat} (h : same x y) : isFin x = isFin y := by
  rcases h with rfl | ⟨a, b⟩
  · rfl
  · rw [fin_not, fin_not, a, b]; simp
theorem same.eq {x y : Nat} (h : same x y) (f : isFin x = true) : x = y := by
  rcases h with rfl | ⟨a, b⟩
  · rfl
  · rw [fin_not, a] at f; simp at f
end Fl

def tsS (a b : Nat) : Nat := Fl.fop .add a b default
def tsT (a b : Nat) : Nat := Fl.fop .sub (tsS a b) a default
def tsD (a b : Nat) : Nat := Fl.fop .sub (tsS a b) (tsT a b) default
def tsE (a b : Nat) : Nat := Fl.fop .add (Fl.fop .sub a (tsD a b) default) (Fl.fop .sub b (tsT a b) default) default
def twoSum (a b : Nat) : Nat × Nat × Int :=
  if (Fl.isFin a && Fl.isFin b) = false then (0, 0, 8) else if Fl.isFin (tsS a b) = false then (0, 0, 9) else if Fl.isFin (tsE a b) = false then (0, 0, 9) else (tsS a b, tsE a b, 0)
def tsV (p : Nat × Nat × Int) : Value := .tuple #[.float .f64 p.1, .float .f64 p.2.1, .int .i64 p.2.2]

theorem twoSum_lt (a b : Nat) : (twoSum a b).1 < 2 ^ 64 ∧ (twoSum a b).2.1 < 2 ^ 64 := by
  unfold twoSum
  split
  · simp
  · split
    · simp
    · split
      · simp
      · exact ⟨Fl.fop_lt _ _ _ _, Fl.fop_lt _ _ _ _⟩
/-- The result taken apart. -/
def TsRes (a b : Nat) (e : Ending) : Prop := ∃ (s t : Nat) (r : Int), e = .returned (.tuple #[.float .f64 s, .float .f64 t, .int .i64 r]) ∧ Hid (twoSum a b = (s, t, r)) ∧ s < 2 ^ 64 ∧ t < 2 ^ 64
theorem TsRes.of {a b : Nat} {e : Ending} (h : e = .returned (tsV (twoSum a b))) : TsRes a b e := ⟨_, _, _, h, rfl, (twoSum_lt a b).1, (twoSum_lt a b).2⟩
theorem nt {b : Bool} (h : (!b) = true) : b = false := by cases b <;> simp_all
theorem nf {b : Bool} (h : (!b) = false) : b = true := by cases b <;> simp_all
theorem ts_bad {a b : Nat} (h : (Fl.isFin a && Fl.isFin b) = false) : Ending.returned (.tuple #[.float .f64 0, .float .f64 0, .int .i64 8]) = .returned (tsV (twoSum a b)) := by
  unfold twoSum; rw [if_pos h]; rfl
theorem ts_over {a b : Nat} (ha : Fl.isFin a = true) (hb : Fl.isFin b = true) {w : World} (h : (!Fl.isFin (Fl.fop .add a b w)) = true) : Ending.returned (.tuple #[.float .f64 0, .float .f64 0, .int .i64 9]) = .returned (tsV (twoSum a b)) := by
  have h' : Fl.isFin (tsS a b) = false := by rw [← nt h]; exact (Fl.same_add (.refl a) (.refl b) _ _).fin
  unfold twoSum; rw [ha, hb, if_neg (by simp), if_pos h']; rfl
theorem ts_e {a b : Nat} {w1 w2 w3 w4 w5 w6 : World} (h : (!Fl.isFin (Fl.fop .add a b w1)) = false) :
    Fl.same (Fl.fop .add (Fl.fop .sub a (Fl.fop .sub (Fl.fop .add a b w1) (Fl.fop .sub (Fl.fop .add a b w1) a w2) w3) w4) (Fl.fop .sub b (Fl.fop .sub (Fl.fop .add a b w1) a w2) w5) w6) (tsE a b) := by
  have e : Fl.fop .add a b w1 = tsS a b := (Fl.same_add (.refl a) (.refl b) _ _).eq (nf h)
  rw [e]
  have t : Fl.same (Fl.fop .sub (tsS a b) a w2) (tsT a b) := Fl.same_sub (.refl _) (.refl _) _ _
  exact Fl.same_add (Fl.same_sub (.refl _) (Fl.same_sub (.refl _) t _ _) _ _) (Fl.same_sub (.refl _) t _ _) _ _
theorem ts_over2 {a b : Nat} (ha : Fl.isFin a = true) (hb : Fl.isFin b = true) {w1 w2 w3 w4 w5 w6 : World} (h : (!Fl.isFin (Fl.fop .add a b w1)) = false)
    (h2 : (!Fl.isFin (Fl.fop .add (Fl.fop .sub a (Fl.fop .sub (Fl.fop .add a b w1) (Fl.fop .sub (Fl.fop .add a b w1) a w2) w3) w4) (Fl.fop .sub b (Fl.fop .sub (Fl.fop .add a b w1) a w2) w5) w6)) = true) :
    Ending.returned (.tuple #[.float .f64 0, .float .f64 0, .int .i64 9]) = .returned (tsV (twoSum a b)) := by
  have e : Fl.isFin (tsE a b) = false := by rw [← (ts_e h).fin]; exact nt h2
  have e1 : Fl.isFin (tsS a b) = true := by rw [← nf h]; exact (Fl.same_add (.refl a) (.refl b) _ _).fin
  unfold twoSum; rw [ha, hb, if_neg (by simp), if_neg (by rw [e1]; simp), if_pos e]; rfl
theorem ts_ok {a b : Nat} (ha : Fl.isFin a = true) (hb : Fl.isFin b = true) {w1 w2 w3 w4 w5 w6 : World} (h : (!Fl.isFin (Fl.fop .add a b w1)) = false)
    (h2 : (!Fl.isFin (Fl.fop .add (Fl.fop .sub a (Fl.fop .sub (Fl.fop .add a b w1) (Fl.fop .sub (Fl.fop .add a b w1) a w2) w3) w4) (Fl.fop .sub b (Fl.fop .sub (Fl.fop .add a b w1) a w2) w5) w6)) = false) :
    Ending.returned (.tuple #[.float .f64 (Fl.fop .add a b w1), .float .f64 (Fl.fop .add (Fl.fop .sub a (Fl.fop .sub (Fl.fop .add a b w1) (Fl.fop .sub (Fl.fop .add a b w1) a w2) w3) w4) (Fl.fop .sub b (Fl.fop .sub (Fl.fop .add a b w1) a w2) w5) w6), .int .i64 0]) = .returned (tsV (twoSum a b)) := by
  have e : Fl.isFin (tsE a b) = true := by rw [← (ts_e h).fin]; exact nf h2
  have e1 : Fl.isFin (tsS a b) = true := by rw [← nf h]; exact (Fl.same_add (.refl a) (.refl b) _ _).fin
  unfold twoSum; rw [ha, hb, if_neg (by simp), if_neg (by rw [e1]; simp), if_neg (by rw [e]; simp), (ts_e h).eq (nf h2), (Fl.same_add (.refl a) (.refl b) w1 default).eq (nf h)]; rfl

set_option maxHeartbeats 400000 in
theorem twoSum_any (a b : Nat) (w : World) (ha : a < 2 ^ 64) (hb : b < 2 ^ 64) :
    Calls Try.prog 18 #[.float .f64 a, .float .f64 b] w fun e w' => e = .returned (tsV (twoSum a b)) ∧ ∃ n, w' = w.drewN n := by
  go_enter Try.func18, Try.ntmps18
  cases fa : Fl.isFin a <;> cases fb : Fl.isFin b
  all_goals
    go_wp2_with (go_at_call 94; refine (realFinite_any _ _ (by first | assumption | exact Fl.fop_lt _ _ _ _)).mono ?_; rintro e w' ⟨rfl, rfl⟩)
    all_goals go_ret3
  · exact ⟨ts_bad (by simp [fa]), 0, rfl⟩
  · exact ⟨ts_bad (by simp [fa]), 0, rfl⟩
  · exact ⟨ts_bad (by simp [fb]), 0, rfl⟩
  · exact ⟨ts_over fa fb (by assumption), _, rfl⟩
  · exact ⟨ts_over2 fa fb (by assumption) (by assumption), _, rfl⟩
  · exact ⟨ts_ok fa fb (by assumption) (by assumption), _, rfl⟩

set_option maxHeartbeats 400000 in
theorem ref06TwoSum_any (a b : Nat) (w : World) :
    Calls Try.prog 19 #[.float .f64 a, .float .f64 b] w fun e w' => e = .returned (tsV (twoSum a b)) ∧ ∃ n, w' = w.drewN n := by
  go_enter Try.func19, Try.ntmps19
  cases fa : Fl.isFin a <;> cases fb : Fl.isFin b
  all_goals
    go_wp2_with (go_at_call 95; refine (ref06Finite_any _ _).mono ?_; rintro e w' ⟨rfl, rfl⟩)
    all_goals go_ret3
  · exact ⟨ts_bad (by simp [fa]), 0, rfl⟩
  · exact ⟨ts_bad (by simp [fa]), 0, rfl⟩
  · exact ⟨ts_bad (by simp [fb]), 0, rfl⟩
  · exact ⟨ts_over fa fb (by assumption), _, rfl⟩
  · exact ⟨ts_over2 fa fb (by assumption) (by assumption), _, rfl⟩
  · exact ⟨ts_ok fa fb (by assumption) (by assumption), _, rfl⟩
end Go.Proofs.Ytigkfdoeneemeaa
