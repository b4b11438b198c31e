/- Doubles as numbers: a finite double is a whole number of units 2^-1074; the order of floats is the order of these numbers; among sizes it is the order of the words. -/
import Derived.Test.YtigkfdoeneemeaaFl
namespace Go.Proofs.Ytigkfdoeneemeaa.Fl
open Go Ieee

/-- The size of a finite double in units of 2^-1074. -/
def V (x : Nat) : Nat := mag x * 2 ^ plc x
def Sv (x : Nat) : Int := if fneg x then -(V x : Int) else (V x : Int)

theorem V_mod (x : Nat) : V (x % 2 ^ 63) = V x := by
  unfold V mag plc
  have e1 : x % 2 ^ 63 % 2 ^ 63 = x % 2 ^ 63 := Nat.mod_mod _ _
  have e2 : x % 2 ^ 63 % 2 ^ 52 = x % 2 ^ 52 := by omega
  rw [e1, e2]

theorem V_small {r : Nat} (h : r < 2 ^ 52) : V r = r := by
  unfold V mag plc
  have e1 : r % 2 ^ 63 = r := by omega
  rw [e1, if_pos h]
  have : r / 2 ^ 52 - 1 = 0 := by omega
  rw [this]; simp
theorem V_big {r : Nat} (h : 2 ^ 52 ≤ r) (h2 : r < 2 ^ 63) : V r = (2 ^ 52 + r % 2 ^ 52) * 2 ^ (r / 2 ^ 52 - 1) := by
  unfold V mag plc
  have e1 : r % 2 ^ 63 = r := by omega
  rw [e1, if_neg (by omega)]

theorem V_step {r : Nat} (h : r + 1 < 2 ^ 63) : V r < V (r + 1) := by
  by_cases a : r + 1 < 2 ^ 52
  · rw [V_small a, V_small (by omega)]; omega
  · by_cases b : r < 2 ^ 52
    · have hr : r = 2 ^ 52 - 1 := by omega
      rw [V_small b, V_big (by omega) h, hr]; decide
    · rw [V_big (by omega) (by omega), V_big (by omega) h]
      by_cases c : (r + 1) % 2 ^ 52 = 0
      · have e1 : r % 2 ^ 52 = 2 ^ 52 - 1 := by omega
        have e2 : (r + 1) / 2 ^ 52 - 1 = (r / 2 ^ 52 - 1) + 1 := by omega
        rw [e1, e2, c, show 2 ^ (r / 2 ^ 52 - 1 + 1) = 2 ^ (r / 2 ^ 52 - 1) * 2 from Nat.pow_succ ..]
        have : 0 < 2 ^ (r / 2 ^ 52 - 1) := Nat.two_pow_pos _
        generalize 2 ^ (r / 2 ^ 52 - 1) = k at *
        omega
      · have e1 : (r + 1) % 2 ^ 52 = r % 2 ^ 52 + 1 := by omega
        have e2 : (r + 1) / 2 ^ 52 = r / 2 ^ 52 := by omega
        rw [e1, e2]
        exact Nat.mul_lt_mul_of_pos_right (by omega) (Nat.two_pow_pos _)
theorem V_lt {r s : Nat} (h : r < s) (hs : s < 2 ^ 63) : V r < V s := by
  induction s with
  | zero => omega
  | succ s ih =>
    by_cases e : r = s
    · subst e; exact V_step hs
    · exact Nat.lt_trans (ih (by omega) (by omega)) (V_step hs)
theorem V_le {r s : Nat} (h : r ≤ s) (hs : s < 2 ^ 63) : V r ≤ V s := by
  by_cases e : r = s
  · subst e; exact Nat.le_refl _
  · exact Nat.le_of_lt (V_lt (by omega) hs)
theorem V_inj {r s : Nat} (hr : r < 2 ^ 63) (hs : s < 2 ^ 63) (h : V r = V s) : r = s := by
  by_cases a : r < s
  · have := V_lt a hs; omega
  · by_cases b : s < r
    · have := V_lt b hr; omega
    · omega
theorem V_zero : V 0 = 0 := by decide
theorem V_pos {r : Nat} (h : 0 < r) (hs : r < 2 ^ 63) : 0 < V r := by have := V_lt h hs; rw [V_zero] at this; exact this

theorem cmp_eq {a b c d : Int} (h1 : a < b ↔ c < d) (h2 : a = b ↔ c = d) : compare a b = compare c d := by
  simp only [compare, compareOfLessAndEq]
  by_cases x : a < b
  · rw [if_pos x, if_pos (h1.1 x)]
  · rw [if_neg x, if_neg (fun y => x (h1.2 y))]
    by_cases z : a = b
    · rw [if_pos z, if_pos (h2.1 z)]
    · rw [if_neg z, if_neg (fun y => z (h2.2 y))]
theorem cmp_scale {a b k : Int} (hk : 0 < k) : compare (a * k) (b * k) = compare a b :=
  cmp_eq ⟨fun h => Int.lt_of_mul_lt_mul_right h (Int.le_of_lt hk), fun h => Int.mul_lt_mul_of_pos_right h hk⟩
    ⟨fun h => Int.eq_of_mul_eq_mul_right (Int.ne_of_gt hk) h, fun h => by rw [h]⟩

theorem signed_scale (s : Bool) (m k : Nat) (j : Nat) : signed s m k * ((2 ^ j : Nat) : Int) = signed s m (k + j) := by
  unfold signed
  have e : ((m <<< k : Nat) : Int) * ((2 ^ j : Nat) : Int) = ((m <<< (k + j) : Nat) : Int) := by
    rw [Nat.shiftLeft_eq, Nat.shiftLeft_eq, Nat.pow_add, ← Nat.mul_assoc]; rfl
  split
  · rw [Int.neg_mul, e]
  · rw [e]
theorem signed_Sv (x : Nat) : signed (fneg x) (mag x) (plc x) = Sv x := by
  unfold signed Sv V
  rw [Nat.shiftLeft_eq]

theorem ord_fin {x y : Nat} (hx : isFin x = true) (hy : isFin y = true) : ord x y = some (compare (Sv x) (Sv y)) := by
  simp only [ord, Format.order, read_fin x hx, read_fin y hy, Datum.order]
  have e1 : (-1074 + (plc x : Int) - min (-1074 + (plc x : Int)) (-1074 + (plc y : Int))).toNat = plc x - min (plc x) (plc y) := by omega
  have e2 : (-1074 + (plc y : Int) - min (-1074 + (plc x : Int)) (-1074 + (plc y : Int))).toNat = plc y - min (plc x) (plc y) := by omega
  rw [e1, e2]
  congr 1
  have hk : (0 : Int) < ((2 ^ min (plc x) (plc y) : Nat) : Int) := by have := Nat.two_pow_pos (min (plc x) (plc y)); omega
  rw [← cmp_scale hk, signed_scale, signed_scale]
  have f1 : plc x - min (plc x) (plc y) + min (plc x) (plc y) = plc x := by omega
  have f2 : plc y - min (plc x) (plc y) + min (plc x) (plc y) = plc y := by omega
  rw [f1, f2, signed_Sv, signed_Sv]

theorem fneg_small {x : Nat} (h : x < 2 ^ 63) : fneg x = false := by unfold fneg; simp; omega
theorem Sv_small {x : Nat} (h : x < 2 ^ 63) : Sv x = (V x : Int) := by unfold Sv; rw [fneg_small h]; rfl
/-- Among sizes the order is that of the words. -/
theorem ord_pos {x y : Nat} (hx : x < infR) (hy : y < infR) : ord x y = some (compare x y) := by
  have lx : x < 2 ^ 63 := by unfold infR at hx; omega
  have ly : y < 2 ^ 63 := by unfold infR at hy; omega
  rw [ord_fin (by simp [isFin]; omega) (by simp [isFin]; omega), Sv_small lx, Sv_small ly]
  congr 1
  simp only [compare, compareOfLessAndEq]
  by_cases a : x < y
  · rw [if_pos (by have := V_lt a ly; omega), if_pos a]
  · by_cases b : x = y
    · subst b; simp
    · have := V_lt (show y < x by omega) lx
      rw [if_neg (by omega), if_neg (by omega), if_neg a, if_neg b]
/-- math.IsInf's test. -/
theorem ord_max {x : Nat} (h : x < 2 ^ 63) : (ord x 9218868437227405311 == some .gt) = isInf x := by
  have e : x % 2 ^ 63 = x := by omega
  rcases tri x with f | i | n
  · have hx : x < infR := by simpa [isFin, e] using f
    rw [ord_pos hx (by decide)]
    have : isInf x = false := by simp [isInf, e]; omega
    rw [this]
    simp only [compare, compareOfLessAndEq]
    unfold infR at hx
    by_cases a : x < 9218868437227405311
    · rw [if_pos a]; rfl
    · rw [if_neg a, if_pos (by omega)]; rfl
  · rw [i]
    have : ord x 9218868437227405311 = some .gt := by
      simp only [ord, Format.order, read_inf x i, fneg_small h, read_fin 9218868437227405311 (by decide), Datum.order]; rfl
    rw [this]; rfl
  · rw [ord_nan_left n]
    have : isInf x = false := by simp only [isNaN, decide_eq_true_eq] at n; simp [isInf]; omega
    rw [this]; rfl

theorem isInf_mod (x : Nat) : isInf (x % 2 ^ 63) = isInf x := by unfold isInf; rw [Nat.mod_mod]
theorem isNaN_mod (x : Nat) : isNaN (x % 2 ^ 63) = isNaN x := by unfold isNaN; rw [Nat.mod_mod]
theorem isFin_mod (x : Nat) : isFin (x % 2 ^ 63) = isFin x := by unfold isFin; rw [Nat.mod_mod]

/-- x - x is 0 of just the finite ones. -/
theorem sub_self_fin {x : Nat} (h : isFin x = true) (w : World) : fop .sub x x w = 0 := by
  refine fop_some ?_ w
  simp only [floatBits, FloatKind.format, Format.sub, read_fin x h, Datum.opposite, Datum.sum, Option.map_some, Option.some.injEq]
  have e : (-1074 + (plc x : Int) - min (-1074 + (plc x : Int)) (-1074 + (plc x : Int))).toNat = 0 := by omega
  rw [e]
  have t : signed (fneg x) (mag x) 0 + signed (!fneg x) (mag x) 0 = 0 := by unfold signed; cases fneg x <;> simp <;> omega
  rw [t]
  simp [Format.write, Format.nearest, Format.word]
theorem sub_self_not {x : Nat} (h : isFin x = false) (w : World) : isNaN (fop .sub x x w) = true := by
  refine fop_none ?_ w
  rcases tri x with f | i | n
  · simp [f] at h
  · simp [floatBits, FloatKind.format, Format.sub, read_inf x i, Datum.opposite, Datum.sum]
  · exact bits_nan (by simp) x x (.inl n)
theorem sub_self_ord (x : Nat) (w : World) : (ord (fop .sub x x w) 0 == some .eq) = isFin x := by
  cases h : isFin x
  · rw [ord_nan_left (sub_self_not h w)]; rfl
  · rw [sub_self_fin h w]; decide

theorem bits_abs (x : Nat) (hx : x < 2 ^ 64) : (bits .andNot .u64 (x : Int) 9223372036854775808).toNat = x % 2 ^ 63 := by
  unfold bits
  have hb : ~~~(BitVec.ofInt 64 9223372036854775808) = BitVec.ofNat 64 (2 ^ 63 - 1) := by decide
  have ha : (BitVec.ofInt 64 (x : Int)).toNat = x := by
    rw [BitVec.ofInt_natCast, BitVec.toNat_ofNat]; omega
  show (IntKind.u64.wrap ((BitVec.ofInt 64 (x : Int) &&& ~~~(BitVec.ofInt 64 9223372036854775808)).toNat : Int)).toNat = _
  rw [hb, BitVec.toNat_and, ha]
  have hc : (BitVec.ofNat 64 (2 ^ 63 - 1)).toNat = 2 ^ 63 - 1 := by decide
  rw [hc, Nat.and_two_pow_sub_one_eq_mod]
  have hw : IntKind.u64.wrap ((x % 2 ^ 63 : Nat) : Int) = ((x % 2 ^ 63 : Nat) : Int) := by
    simp only [IntKind.wrap, IntKind.bits, IntKind.signed]
    simp; omega
  rw [hw]; rfl
theorem bits_fin (x : Nat) : (bits .and .u64 ((x : Int) / 4503599627370496) 2047 != 2047) = isFin x := by
  have h1 : (bits .and .u64 ((x : Int) / 4503599627370496) 2047) = ((x / 2 ^ 52 % 2048 : Nat) : Int) := by
    unfold bits
    have ha : (BitVec.ofInt 64 ((x : Int) / 4503599627370496)).toNat = x / 2 ^ 52 % 2 ^ 64 := by
      have : ((x : Int) / 4503599627370496) = ((x / 2 ^ 52 : Nat) : Int) := by omega
      rw [this, BitVec.ofInt_natCast, BitVec.toNat_ofNat]
    show IntKind.u64.wrap ((BitVec.ofInt 64 ((x : Int) / 4503599627370496) &&& BitVec.ofInt 64 2047).toNat : Int) = _
    have hc : (BitVec.ofInt 64 2047).toNat = 2 ^ 11 - 1 := by decide
    rw [BitVec.toNat_and, ha, hc, Nat.and_two_pow_sub_one_eq_mod]
    simp only [IntKind.wrap, IntKind.bits, IntKind.signed]
    simp; omega
  rw [h1]
  unfold isFin infR
  rw [Bool.eq_iff_iff]
  simp
  omega
end Go.Proofs.Ytigkfdoeneemeaa.Fl
