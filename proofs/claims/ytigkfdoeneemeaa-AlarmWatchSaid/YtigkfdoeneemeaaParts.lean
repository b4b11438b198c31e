/- Walks of package parts and of the reference's: the same rounded operations, part by part. -/
import Derived.Test.YtigkfdoeneemeaaFin
import Derived.Test.YtigkfdoeneemeaaVals
namespace Go.Proofs.Ytigkfdoeneemeaa
open Go.RowKit

namespace Fl
theorem same.nan {x y : Nat} (h : same x y) : isNaN x = isNaN y := by
  rcases h with rfl | ⟨a, b⟩
  · rfl
  · rw [a, b]
def fsq (x : Nat) (w : World) : Nat := match FloatKind.f64.format.sqrt x with | some r => r | none => (Question.nanBits .f64 x x).cut (w.tape w.drawn (.nanBits .f64 x x))
def fsqd (x : Nat) : Nat := match FloatKind.f64.format.sqrt x with | some _ => 0 | none => 1
theorem same_sqrt {x y : Nat} (h : same x y) (w w' : World) : same (fsq x w) (fsq y w') := by
  rcases h with rfl | ⟨a, b⟩
  · unfold fsq
    split
    · exact .inl rfl
    · exact .inr ⟨cut_nan _ _ _, cut_nan _ _ _⟩
  · obtain ⟨s, t, e⟩ := read_nan x a
    obtain ⟨s', t', e'⟩ := read_nan y b
    have h1 : FloatKind.f64.format.sqrt x = none := by show Ieee.Format.sqrt Ieee.double x = none; simp [Ieee.Format.sqrt, e, Ieee.Datum.root]
    have h2 : FloatKind.f64.format.sqrt y = none := by show Ieee.Format.sqrt Ieee.double y = none; simp [Ieee.Format.sqrt, e', Ieee.Datum.root]
    unfold fsq
    rw [h1, h2]
    exact .inr ⟨cut_nan _ _ _, cut_nan _ _ _⟩
theorem fsq_lt (x : Nat) (w : World) : fsq x w < 2 ^ 64 := by
  unfold fsq
  split
  · rename_i r h; exact Ieee.Format.sqrt_lt _ h
  · exact cut_lt _ _ _
end Fl

@[go_sem] theorem call_sqrt (x : Nat) (w : World) : (callFunc 146 #[.float .f64 x]).run Try.prog w = .ok (.value (.float .f64 (Fl.fsq x w))) (w.drewN (Fl.fsqd x)) := by
  rw [run_callFunc_extern (fn := Try.f146) (e := Extern.MathSqrt.sqrt) (by kernel_rfl) (by kernel_rfl) (by kernel_rfl) (by kernel_rfl) (by kernel_rfl)]
  have e : Extern.MathSqrt.sqrt #[.float .f64 x] = (match FloatKind.f64.format.sqrt x with | some r => pure (.float .f64 r) | none => do pure (.float .f64 (← choose (.nanBits .f64 x x)))) := rfl
  rw [e]
  unfold Fl.fsq Fl.fsqd
  cases h : FloatKind.f64.format.sqrt x with
  | some r => simp; rfl
  | none => simp [Question.forced]; rfl

def sBits (x y : Nat) : Bool := x == y || (Fl.isNaN x && Fl.isNaN y)
theorem sBits_refl (x : Nat) : sBits x x = true := by simp [sBits]
theorem sBits_same {x y : Nat} (h : Fl.same x y) : sBits x y = true := by
  rcases h with rfl | ⟨a, b⟩
  · exact sBits_refl x
  · simp [sBits, a, b]
theorem sBits_same2 {x y z : Nat} (h : Fl.same x y) (k : Fl.same x z) : sBits y z = true := sBits_same (h.symm.trans k)

set_option maxHeartbeats 400000 in
theorem ref07SameReal_any (x y : Nat) (w : World) :
    Calls Try.prog 53 #[.float .f64 x, .float .f64 y] w fun e w' => e = .returned (.bool (sBits x y)) ∧ w' = w := by
  have ex : (FloatKind.f64.format.order x x != some .eq) = Fl.isNaN x := Fl.ord_self_ne x
  have ey : (FloatKind.f64.format.order y y != some .eq) = Fl.isNaN y := Fl.ord_self_ne y
  go_enter Try.func53, Try.ntmps53
  cases hx : Fl.isNaN x <;> cases hy : Fl.isNaN y
  all_goals
    rw [hx] at ex; rw [hy] at ey
    by_cases hxy : x = y
    · subst hxy
      go_wp2
      go_ret
      exact ⟨ret_bool (by simp [sBits, hx]), rfl⟩
    · have e1 : ((x : Int) == (y : Int)) = false := by simp; omega
      go_wp2
      go_ret
      exact ⟨ret_bool (by simp [sBits, hxy, hx, hy]), rfl⟩
set_option maxHeartbeats 400000 in
theorem ref07Same_any (a b c d : Nat) (w : World) :
    Calls Try.prog 40 #[.complex .f64 a b, .complex .f64 c d] w fun e w' => e = .returned (.bool (sBits a c && sBits b d)) ∧ w' = w := by
  go_enter Try.func40, Try.ntmps40
  cases h1 : sBits a c
  all_goals
    go_wp2_with (go_at_call 53; refine (ref07SameReal_any _ _ _).mono ?_; rintro e w' ⟨rfl, rfl⟩)
    go_ret
    exact ⟨ret_bool (by simp), rfl⟩
set_option maxHeartbeats 400000 in
theorem partsBits_any (x y : Nat) (w : World) :
    Calls Try.prog 112 #[.float .f64 x, .float .f64 y] w fun e w' => e = .returned (.bool (sBits x y)) ∧ w' = w := by
  have ex : (FloatKind.f64.format.order x x != some .eq) = Fl.isNaN x := Fl.ord_self_ne x
  have ey : (FloatKind.f64.format.order y y != some .eq) = Fl.isNaN y := Fl.ord_self_ne y
  go_enter Try.func112, Try.ntmps112
  cases hx : Fl.isNaN x <;> cases hy : Fl.isNaN y
  all_goals
    rw [hx] at ex; rw [hy] at ey
    by_cases hxy : x = y
    · subst hxy
      go_wp2
      go_ret
      exact ⟨ret_bool (by simp [sBits]), rfl⟩
    · have e1 : ((x : Int) == (y : Int)) = false := by simp; omega
      go_wp2
      go_ret
      exact ⟨ret_bool (by simp [sBits, hxy, hx, hy]), rfl⟩
set_option maxHeartbeats 400000 in
theorem partsSame_any (a b c d : Nat) (w : World) :
    Calls Try.prog 56 #[.complex .f64 a b, .complex .f64 c d] w fun e w' => e = .returned (.bool (sBits a c && sBits b d)) ∧ w' = w := by
  go_enter Try.func56, Try.ntmps56
  cases h1 : sBits a c
  all_goals
    go_wp2_with (go_at_call 112; refine (partsBits_any _ _ _).mono ?_; rintro e w' ⟨rfl, rfl⟩)
    go_ret
    exact ⟨ret_bool (by simp), rfl⟩
def eqB (a b c d : Nat) : Bool := (Fl.ord a c == some .eq) && (Fl.ord b d == some .eq)
set_option maxHeartbeats 400000 in
theorem partsEqual_any (a b c d : Nat) (w : World) :
    Calls Try.prog 57 #[.complex .f64 a b, .complex .f64 c d] w fun e w' => e = .returned (.bool (eqB a b c d)) ∧ w' = w := by
  go_enter Try.func57, Try.ntmps57
  cases h1 : (FloatKind.f64.format.order a c == some .eq)
  all_goals
    go_wp2
    go_ret
    exact ⟨ret_bool (by have h2 : (Fl.ord a c == some .eq) = _ := h1; unfold eqB; rw [h2]; first | rfl | simp), rfl⟩
set_option maxHeartbeats 400000 in
theorem ref07Equal_any (a b c d : Nat) (w : World) :
    Calls Try.prog 58 #[.complex .f64 a b, .complex .f64 c d] w fun e w' => e = .returned (.bool (eqB a b c d)) ∧ w' = w := by
  go_enter Try.func58, Try.ntmps58
  cases h1 : (FloatKind.f64.format.order a c == some .eq)
  all_goals
    go_wp2
    go_ret
    exact ⟨ret_bool (by have h2 : (Fl.ord a c == some .eq) = _ := h1; unfold eqB; rw [h2]; first | rfl | simp), rfl⟩
set_option maxHeartbeats 400000 in
theorem partsFiniteC_any (a b : Nat) (w : World) (ha : a < 2 ^ 64) (hb : b < 2 ^ 64) :
    Calls Try.prog 59 #[.complex .f64 a b] w fun e w' => e = .returned (.bool (Fl.isFin a && Fl.isFin b)) ∧ w' = w := by
  go_enter Try.func59, Try.ntmps59
  cases h1 : Fl.isFin a
  all_goals
    go_wp2_with (go_at_call 113; refine (partsFinite_any _ _ (by assumption)).mono ?_; rintro e w' ⟨rfl, rfl⟩)
    go_ret
    exact ⟨ret_bool (by simp), rfl⟩
set_option maxHeartbeats 400000 in
theorem ref07FiniteC_any (a b : Nat) (w : World) :
    Calls Try.prog 60 #[.complex .f64 a b] w fun e w' => e = .returned (.bool (Fl.isFin a && Fl.isFin b)) ∧ ∃ x, w' = w.ext x := by
  go_enter Try.func60, Try.ntmps60
  cases h1 : Fl.isFin a
  all_goals
    go_wp2_with (go_at_call 114; refine (ref07Finite_any _ _).mono ?_; rintro e w' ⟨rfl, n, rfl⟩)
    go_ret
    exact ⟨ret_bool (by simp), Blw.is (by repeat (first | exact Blw.refl _ | apply Blw.ext | apply Blw.alloc | apply Blw.drewN | apply Blw.drew | refine Blw.setCell ?_ _ _ (by simp)))⟩

/-- A complex result, up to a NaN's bits. -/
def CRes (re im : Nat) (w : World) (e : Ending) (w' : World) : Prop := ∃ (r i : Nat) (x : World), e = .returned (.complex .f64 r i) ∧ Hid (Fl.same re r) ∧ Hid (Fl.same im i) ∧ r < 2 ^ 64 ∧ i < 2 ^ 64 ∧ w' = w.ext x
theorem CRes.mk {re im r i : Nat} {w w' : World} (h : Fl.same re r) (k : Fl.same im i) (lr : r < 2 ^ 64) (li : i < 2 ^ 64) (b : Blw w w') : CRes re im w (.returned (.complex .f64 r i)) w' := by
  obtain ⟨x, rfl⟩ := b.is
  exact ⟨r, i, x, rfl, h, k, lr, li, rfl⟩
def fA (x y : Nat) : Nat := Fl.fop .add x y default
def fS (x y : Nat) : Nat := Fl.fop .sub x y default
def fM (x y : Nat) : Nat := Fl.fop .mul x y default
def fQ (x y : Nat) : Nat := Fl.fop .quo x y default
theorem neg_lt {x : Nat} (h : x < 2 ^ 64) : Op.negFloat .f64 x < 2 ^ 64 := Nat.xor_lt_two_pow h (by decide)

set_option maxHeartbeats 400000 in
theorem partsAdd_any (a b c d : Nat) (w : World) : Calls Try.prog 41 #[.complex .f64 a b, .complex .f64 c d] w (CRes (fA a c) (fA b d) w) := by
  go_enter Try.func41, Try.ntmps41
  go_wp2
  go_ret
  exact CRes.mk (Fl.same_add (.refl _) (.refl _) _ _) (Fl.same_add (.refl _) (.refl _) _ _) (Fl.fop_lt _ _ _ _) (Fl.fop_lt _ _ _ _) (by repeat (first | exact Blw.refl _ | apply Blw.ext | apply Blw.alloc | apply Blw.drewN | apply Blw.drew | refine Blw.setCell ?_ _ _ (by simp)))
set_option maxHeartbeats 400000 in
theorem ref07Add_any (a b c d : Nat) (w : World) : Calls Try.prog 42 #[.complex .f64 a b, .complex .f64 c d] w (CRes (fA a c) (fA b d) w) := by
  go_enter Try.func42, Try.ntmps42
  go_wp2
  go_ret
  exact CRes.mk (Fl.same_add (.refl _) (.refl _) _ _) (Fl.same_add (.refl _) (.refl _) _ _) (Fl.fop_lt _ _ _ _) (Fl.fop_lt _ _ _ _) (by repeat (first | exact Blw.refl _ | apply Blw.ext | apply Blw.alloc | apply Blw.drewN | apply Blw.drew | refine Blw.setCell ?_ _ _ (by simp)))
set_option maxHeartbeats 400000 in
theorem partsSub_any (a b c d : Nat) (w : World) : Calls Try.prog 43 #[.complex .f64 a b, .complex .f64 c d] w (CRes (fS a c) (fS b d) w) := by
  go_enter Try.func43, Try.ntmps43
  go_wp2
  go_ret
  exact CRes.mk (Fl.same_sub (.refl _) (.refl _) _ _) (Fl.same_sub (.refl _) (.refl _) _ _) (Fl.fop_lt _ _ _ _) (Fl.fop_lt _ _ _ _) (by repeat (first | exact Blw.refl _ | apply Blw.ext | apply Blw.alloc | apply Blw.drewN | apply Blw.drew | refine Blw.setCell ?_ _ _ (by simp)))
set_option maxHeartbeats 400000 in
theorem ref07Sub_any (a b c d : Nat) (w : World) : Calls Try.prog 44 #[.complex .f64 a b, .complex .f64 c d] w (CRes (fS a c) (fS b d) w) := by
  go_enter Try.func44, Try.ntmps44
  go_wp2
  go_ret
  exact CRes.mk (Fl.same_sub (.refl _) (.refl _) _ _) (Fl.same_sub (.refl _) (.refl _) _ _) (Fl.fop_lt _ _ _ _) (Fl.fop_lt _ _ _ _) (by repeat (first | exact Blw.refl _ | apply Blw.ext | apply Blw.alloc | apply Blw.drewN | apply Blw.drew | refine Blw.setCell ?_ _ _ (by simp)))
set_option maxHeartbeats 400000 in
theorem partsMul_any (a b c d : Nat) (w : World) : Calls Try.prog 45 #[.complex .f64 a b, .complex .f64 c d] w (CRes (fS (fM a c) (fM b d)) (fA (fM a d) (fM b c)) w) := by
  go_enter Try.func45, Try.ntmps45
  go_wp2
  go_ret
  exact CRes.mk (Fl.same_sub (Fl.same_mul (.refl _) (.refl _) _ _) (Fl.same_mul (.refl _) (.refl _) _ _) _ _) (Fl.same_add (Fl.same_mul (.refl _) (.refl _) _ _) (Fl.same_mul (.refl _) (.refl _) _ _) _ _) (Fl.fop_lt _ _ _ _) (Fl.fop_lt _ _ _ _) (by repeat (first | exact Blw.refl _ | apply Blw.ext | apply Blw.alloc | apply Blw.drewN | apply Blw.drew | refine Blw.setCell ?_ _ _ (by simp)))
set_option maxHeartbeats 400000 in
theorem ref07Mul_any (a b c d : Nat) (w : World) : Calls Try.prog 46 #[.complex .f64 a b, .complex .f64 c d] w (CRes (fS (fM a c) (fM b d)) (fA (fM a d) (fM b c)) w) := by
  go_enter Try.func46, Try.ntmps46
  go_wp2
  go_ret
  exact CRes.mk (Fl.same_sub (Fl.same_mul (.refl _) (.refl _) _ _) (Fl.same_mul (.refl _) (.refl _) _ _) _ _) (Fl.same_add (Fl.same_mul (.refl _) (.refl _) _ _) (Fl.same_mul (.refl _) (.refl _) _ _) _ _) (Fl.fop_lt _ _ _ _) (Fl.fop_lt _ _ _ _) (by repeat (first | exact Blw.refl _ | apply Blw.ext | apply Blw.alloc | apply Blw.drewN | apply Blw.drew | refine Blw.setCell ?_ _ _ (by simp)))
set_option maxHeartbeats 400000 in
theorem partsScale_any (x c d : Nat) (w : World) : Calls Try.prog 47 #[.float .f64 x, .complex .f64 c d] w (CRes (fM x c) (fM x d) w) := by
  go_enter Try.func47, Try.ntmps47
  go_wp2
  go_ret
  exact CRes.mk (Fl.same_mul (.refl _) (.refl _) _ _) (Fl.same_mul (.refl _) (.refl _) _ _) (Fl.fop_lt _ _ _ _) (Fl.fop_lt _ _ _ _) (by repeat (first | exact Blw.refl _ | apply Blw.ext | apply Blw.alloc | apply Blw.drewN | apply Blw.drew | refine Blw.setCell ?_ _ _ (by simp)))
set_option maxHeartbeats 400000 in
theorem ref07Scale_any (x c d : Nat) (w : World) : Calls Try.prog 48 #[.float .f64 x, .complex .f64 c d] w (CRes (fM x c) (fM x d) w) := by
  go_enter Try.func48, Try.ntmps48
  go_wp2
  go_ret
  exact CRes.mk (Fl.same_mul (.refl _) (.refl _) _ _) (Fl.same_mul (.refl _) (.refl _) _ _) (Fl.fop_lt _ _ _ _) (Fl.fop_lt _ _ _ _) (by repeat (first | exact Blw.refl _ | apply Blw.ext | apply Blw.alloc | apply Blw.drewN | apply Blw.drew | refine Blw.setCell ?_ _ _ (by simp)))
set_option maxHeartbeats 400000 in
theorem partsConj_any (a b : Nat) (w : World) : Calls Try.prog 49 #[.complex .f64 a b] w fun e w' => e = .returned (.complex .f64 a (Op.negFloat .f64 b)) ∧ w' = w := by
  go_enter Try.func49, Try.ntmps49
  go_wp2
  go_ret
  exact ⟨rfl, rfl⟩
set_option maxHeartbeats 400000 in
theorem ref07Conj_any (a b : Nat) (w : World) : Calls Try.prog 50 #[.complex .f64 a b] w fun e w' => e = .returned (.complex .f64 a (Op.negFloat .f64 b)) ∧ w' = w := by
  go_enter Try.func50, Try.ntmps50
  go_wp2
  go_ret
  exact ⟨rfl, rfl⟩
set_option maxHeartbeats 400000 in
theorem partsNeg_any (a b : Nat) (w : World) : Calls Try.prog 51 #[.complex .f64 a b] w fun e w' => e = .returned (.complex .f64 (Op.negFloat .f64 a) (Op.negFloat .f64 b)) ∧ w' = w := by
  go_enter Try.func51, Try.ntmps51
  go_wp2
  go_ret
  exact ⟨rfl, rfl⟩
set_option maxHeartbeats 400000 in
theorem ref07Neg_any (a b : Nat) (w : World) : Calls Try.prog 52 #[.complex .f64 a b] w fun e w' => e = .returned (.complex .f64 (Op.negFloat .f64 a) (Op.negFloat .f64 b)) ∧ w' = w := by
  go_enter Try.func52, Try.ntmps52
  go_wp2
  go_ret
  exact ⟨rfl, rfl⟩
end Go.Proofs.Ytigkfdoeneemeaa
