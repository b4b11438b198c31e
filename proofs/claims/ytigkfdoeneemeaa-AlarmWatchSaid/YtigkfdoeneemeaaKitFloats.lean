/- Walks of the kit's copies and comparisons of lists of floats. -/
import Derived.Test.YtigkfdoeneemeaaFin
import Derived.Test.YtigkfdoeneemeaaApp
import Derived.Test.YtigkfdoeneemeaaVals
import Derived.Test.YtigkfdoeneemeaaParts
namespace Go.Proofs.Ytigkfdoeneemeaa
open Go.RowKit

theorem sl_floats : SlT Try.prog 30 23 (.float .f64 0) 1 8 := ⟨Try.underlying30, by kernel_rfl, by kernel_rfl, by decide⟩
theorem flt_one (l : List Nat) : ∀ u ∈ flt l, u.oneCell' = true := by simp [flt, Value.oneCell']

set_option maxHeartbeats 400000 in
theorem copyFloats_any (a : Option Addr) (l : List Nat) (cap : Nat) (w : World) (h : Arr w a (flt l)) (hn : a = none → cap = 0) (hl : l.length ≤ 1099511627776) :
    Calls Try.prog 96 #[.slice a l.length cap] w (RetOwn w 23 1 l.length (flt l)) := by
  have hown : (w.alloc (.cells #[] 23)).ownsRow w.heap.size 23 1 (.slice (some ⟨w.heap.size, 0, none⟩) 0 0) 0 [] := World.ownsRow_made w #[] 0 (Nat.le_refl _) (Nat.zero_le _) rfl
  go_enter Try.func96, Try.ntmps96
  go_wp2_with (at_builtin; refine wpList_app w _ rfl _ _ 30 rfl sl_floats ((Blw.refl w).alloc _) _ 0 [] rfl hown a l.length cap (flt l) rfl hn (h.alloc _) (by simp) (flt_one l) (by unfold maxLen; omega) (by omega) ?_; intro v' w1 hown1 hb1 _ _)
  go_ret
  exact RetOwn.of (by simpa using hown1) hb1

def spF : List Nat := [4593671619917905920, 4607745368753438720, 4611967493404098560]
theorem spF_at (k : Nat) (h : k < 3) (w : World) : Fl.fop .add 4593671619917905920 (floatOfInt .f64 k) w = spF.getD k 0 := by
  have : k = 0 ∨ k = 1 ∨ k = 2 := by omega
  rcases this with rfl | rfl | rfl
  · exact Fl.fop_some (by decide +kernel) w
  · exact Fl.fop_some (by decide +kernel) w
  · exact Fl.fop_some (by decide +kernel) w

set_option maxHeartbeats 800000 in
theorem lentFloats_any (a : Option Addr) (l : List Nat) (cap : Nat) (w : World) (h : Arr w a (flt l)) (hn : a = none → cap = 0) (hl : l.length ≤ 1099511627776) :
    Calls Try.prog 20 #[.slice a l.length cap] w (RetOwn w 23 1 (l.length + 3) (flt (l ++ spF))) := by
  go_enter Try.func20, Try.ntmps20
  go_wp2_with (go_at_call 96; refine (copyFloats_any a l cap _ h hn hl).mono ?_; rintro e w' ⟨a1, c1, x1, rfl, rfl, hown1, -, -⟩)
  go_loopw [3, 4] (fun v i wr => ∃ k : Nat, k ≤ 3 ∧ i = .int .i64 k ∧ wr.ownsRow w.heap.size 23 1 v (l.length + k) (flt (l ++ spF.take k)) ∧ Blw w wr) (fun _ i _ => 3 - (intOf i).toNat)
  case atStart => exact ⟨0, by omega, rfl, by simpa using hown1, (Blw.refl w).ext x1⟩
  case round =>
    obtain ⟨k, hk, rfl, hown, hb⟩ := hrel
    clear hown1
    by_cases hlt : k < 3
    · go_wp2_with (at_builtin; refine wpList_app w _ rfl _ _ 30 rfl sl_floats ((hb.drewN _).alloc _) _ (l.length + k) _ rfl (ownsRow_blw hown (((Blw.refl _).drewN _).alloc _)) _ 1 1 [.float .f64 (Fl.fop .add 4593671619917905920 (floatOfInt .f64 k) wr)] rfl (by simp) (Arr.lit _ _ _ _) (by simp) (by simp [Value.oneCell']) (by unfold maxLen; omega) (by omega) ?_; intro v' w1 hown1 hb1 _ _)
      go_roundw
      case rel => exact ⟨k + 1, by omega, by go_num, by
        rw [spF_at k hlt] at hown1
        have e : flt (l ++ spF.take (k + 1)) = flt (l ++ spF.take k) ++ [.float .f64 (spF.getD k 0)] := by
          have : k = 0 ∨ k = 1 ∨ k = 2 := by omega
          rcases this with rfl | rfl | rfl <;> simp [flt, spF]
        rw [e]; exact hown1, hb1⟩
      case measure => simp [intOf]; omega
    · have hk3 : k = 3 := by omega
      subst hk3
      go_wp2_with fail
      go_ret
      exact RetOwn.of hown hb

set_option maxHeartbeats 400000 in
theorem sameBits_any (x y : Nat) (w : World) :
    Calls Try.prog 143 #[.float .f64 x, .float .f64 y] w fun e w' => e = .returned (.bool (sBits x y)) ∧ w' = w := by
  go_enter Try.func143, Try.ntmps143
  by_cases hxy : x = y
  · subst hxy
    go_wp2
    go_ret
    exact ⟨ret_bool (by simp [sBits]), rfl⟩
  · have e1 : ((x : Int) == (y : Int)) = false := by simp; omega
    have ex : (FloatKind.f64.format.order x x != some .eq) = Fl.isNaN x := Fl.ord_self_ne x
    have ey : (FloatKind.f64.format.order y y != some .eq) = Fl.isNaN y := Fl.ord_self_ne y
    cases hx : Fl.isNaN x
    all_goals
      rw [hx] at ex
      go_wp2
      go_ret
      exact ⟨ret_bool (by simp [sBits, hxy, hx]), rfl⟩

def sFloats (a b : List Nat) : Bool := a.length == b.length && (a.zip b).all fun p => sBits p.1 p.2
theorem sFloats_refl (a : List Nat) : sFloats a a = true := by
  simp only [sFloats, beq_self_eq_true, Bool.true_and, List.all_eq_true]
  intro p hp
  have : p.1 = p.2 := by
    induction a with
    | nil => simp at hp
    | cons x a ih =>
      simp at hp
      rcases hp with rfl | hp
      · rfl
      · exact ih hp
  rw [this]; exact sBits_refl _

set_option maxHeartbeats 800000 in
theorem sameFloats_refl_any (a b : Option Addr) (l : List Nat) (c d : Nat) (w : World) (ha : Arr w a (flt l)) (hb : Arr w b (flt l)) (hl : l.length ≤ 4611686018427387904) :
    Calls Try.prog 97 #[.slice a l.length c, .slice b l.length d] w fun e w' => e = .returned (.bool true) ∧ ∃ x, w' = w.ext x := by
  go_enter Try.func97, Try.ntmps97
  go_wp2
  go_loopw [5] (fun i wr => ∃ (k : Nat) (x : World), k ≤ l.length ∧ i = .int .i64 k ∧ wr = w.ext x) (fun i _ => l.length - (intOf i).toNat)
  case atStart => exact ⟨0, w, Nat.zero_le _, rfl, (World.ext_of (Blw.refl w)).symm⟩
  case round =>
    obtain ⟨k, wx, hk, rfl, rfl⟩ := hrel
    by_cases hlt : k < l.length
    · obtain ⟨x, b1, o1, hd1, -, -, rfl, hb1, hc1⟩ := ha.elem hlt
      obtain ⟨y, b2, o2, hd2, -, -, rfl, hb2, hc2⟩ := hb.elem hlt
      have hxy : x = y := by have := hd1.out.symm.trans hd2.out; simp at this; exact this
      subst hxy
      have hs := sBits_refl x
      have h0 : (0 : Int) ≤ (k : Int) := by omega
      have h1 : (k : Int) < (l.length : Int) := by omega
      go_wp2_with fail
      go_quiet ((go_at_call 143; exact Calls.quiet_of_same (sameBits_any x x _)))
      go_wp2
      go_roundw
      case rel => exact ⟨k + 1, _, by omega, by go_num, (World.ext_of (by repeat (first | exact Blw.refl _ | apply Blw.ext | apply Blw.alloc | apply Blw.drewN | apply Blw.drew | refine Blw.setCell ?_ _ _ (by simp)))).symm⟩
      case measure => simp [intOf]; omega
    · go_wp2
      go_ret
      exact ⟨rfl, Blw.is (by repeat (first | exact Blw.refl _ | apply Blw.ext | apply Blw.alloc | apply Blw.drewN | apply Blw.drew | refine Blw.setCell ?_ _ _ (by simp)))⟩
end Go.Proofs.Ytigkfdoeneemeaa
