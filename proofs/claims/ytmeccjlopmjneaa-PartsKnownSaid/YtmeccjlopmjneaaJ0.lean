/- Several texts, joined. -/
import Derived.WalkKit
import Derived.WalkLawsBesides
import Derived.Deep.Draws
import Derived.Deep.Quiet
import Derived.Deep.QuietTactic
import Derived.BigQuiet
import Derived.Laws.AppendOwnNone
import Derived.Laws.MakeOwn
import Derived.Test.YtmeccjlopmjneaaProg
import Derived.Laws.StructEq
import Derived.Lib.SliceRun
import Derived.Lib.Hide
import Derived.Lib.Strings
import Derived.Lib.Slices
import Derived.Lib.Small
import Derived.Lib.Walk
import Derived.Lib.BitFns
import Derived.Deep.Light
import Derived.Lib.EndianBits
import Derived.Deep.OwnRows
import Derived.Deep.RegionHeld3
import Derived.Deep.RegionWith
set_option linter.unusedVariables false
set_option linter.unusedSimpArgs false
/- Floats: what the model's operations on float64 give, NaN included, as functions of the operands' bits and the world; plain facts on the words. -/
namespace Go.Proofs.Ytmeccjlopmjneaa.Fl
open Go Ieee

/-- The bits of a float operation's result in a world. -/
def fop (op : BinOp) (x y : Nat) (w : World) : Nat :=
  match floatBits op .f64 x y with
  | some r => r
  | none => (Question.nanBits .f64 x y).cut (w.tape w.drawn (.nanBits .f64 x y))

/-- How many draws the operation makes. -/
def fdr (op : BinOp) (x y : Nat) : Nat := match floatBits op .f64 x y with | some _ => 0 | none => 1

section
variable {P : Program} (w : World)
theorem run_fop (op : BinOp) (h : op = .add ∨ op = .sub ∨ op = .mul ∨ op = .quo) (t : TypeId) (x y : Nat) :
    (binOp op t (.float .f64 x) (.float .f64 y)).run P w = .ok (.float .f64 (fop op x y w)) (w.drewN (fdr op x y)) := by
  cases e : floatBits op .f64 x y with
  | some r =>
    rw [run_float_arith w op t .f64 x y r e]
    simp only [fop, fdr, e]; rfl
  | none =>
    simp only [fop, fdr, e]
    rcases h with rfl | rfl | rfl | rfl <;>
      (unfold floatBits at e; simp only at e; simp [binOp, Op.floatArith, e, Question.forced]; rfl)
@[go_sem] theorem run_fadd (t : TypeId) (x y : Nat) : (binOp .add t (.float .f64 x) (.float .f64 y)).run P w = .ok (.float .f64 (fop .add x y w)) (w.drewN (fdr .add x y)) := run_fop w .add (by simp) t x y
@[go_sem] theorem run_fsub (t : TypeId) (x y : Nat) : (binOp .sub t (.float .f64 x) (.float .f64 y)).run P w = .ok (.float .f64 (fop .sub x y w)) (w.drewN (fdr .sub x y)) := run_fop w .sub (by simp) t x y
@[go_sem] theorem run_fmul (t : TypeId) (x y : Nat) : (binOp .mul t (.float .f64 x) (.float .f64 y)).run P w = .ok (.float .f64 (fop .mul x y w)) (w.drewN (fdr .mul x y)) := run_fop w .mul (by simp) t x y
@[go_sem] theorem run_fquo (t : TypeId) (x y : Nat) : (binOp .quo t (.float .f64 x) (.float .f64 y)).run P w = .ok (.float .f64 (fop .quo x y w)) (w.drewN (fdr .quo x y)) := run_fop w .quo (by simp) t x y
@[go_sem] theorem run_store_float (a : Addr) (x : Nat) (m : Mode) : (store a (.float .f64 x) m).run P w = stored P w a (.float .f64 x) m := run_store P w a _ m rfl
@[go_sem] theorem run_store_complex (a : Addr) (x y : Nat) (m : Mode) : (store a (.complex .f64 x y) m).run P w = stored P w a (.complex .f64 x y) m := run_store P w a _ m rfl
@[go_sem] theorem unary_neg_float (x : Nat) : Op.unary .neg (.float .f64 x) = pure (.float .f64 (Op.negFloat .f64 x)) := rfl
end

/-- The rung of infinity of a double. -/
def infR : Nat := 9218868437227405312
def isNaN (x : Nat) : Bool := decide (infR < x % 2 ^ 63)
def isInf (x : Nat) : Bool := decide (x % 2 ^ 63 = infR)
def isFin (x : Nat) : Bool := decide (x % 2 ^ 63 < infR)
def fneg (x : Nat) : Bool := decide (x / 2 ^ 63 % 2 = 1)
/-- A finite double is 'mag * 2 ^ (place - 1074)'. -/
def mag (x : Nat) : Nat := if x % 2 ^ 63 < 2 ^ 52 then x % 2 ^ 63 else 2 ^ 52 + x % 2 ^ 52
def plc (x : Nat) : Nat := x % 2 ^ 63 / 2 ^ 52 - 1

theorem read_eq (x : Nat) : double.read x =
    if x % 2 ^ 63 < 2 ^ 52 then .number (x / 2 ^ 63 % 2 == 1) (x % 2 ^ 63) (-1074)
    else if x % 2 ^ 63 < infR then .number (x / 2 ^ 63 % 2 == 1) (2 ^ 52 + x % 2 ^ 63 % 2 ^ 52) (-1074 + ((x % 2 ^ 63 / 2 ^ 52 - 1 : Nat) : Int))
    else if x % 2 ^ 63 = infR then .infinity (x / 2 ^ 63 % 2 == 1)
    else .nan (x / 2 ^ 63 % 2 == 1) (x % 2 ^ 63 - infR) := rfl

theorem read_fin (x : Nat) (h : isFin x = true) : double.read x = .number (fneg x) (mag x) (-1074 + (plc x : Int)) := by
  have h' : x % 2 ^ 63 < infR := by simpa [isFin] using h
  rw [read_eq]
  have es : (x / 2 ^ 63 % 2 == 1) = fneg x := by unfold fneg; rw [Bool.eq_iff_iff]; simp
  rw [es]
  by_cases c : x % 2 ^ 63 < 2 ^ 52
  · rw [if_pos c]
    unfold mag plc
    rw [if_pos c]
    have : x % 2 ^ 63 / 2 ^ 52 - 1 = 0 := by omega
    rw [this]; rfl
  · rw [if_neg c, if_pos h']
    unfold mag plc
    rw [if_neg c]
    congr 2
    omega
theorem read_inf (x : Nat) (h : isInf x = true) : double.read x = .infinity (fneg x) := by
  have h' : x % 2 ^ 63 = infR := by simpa [isInf] using h
  rw [read_eq]
  have es : (x / 2 ^ 63 % 2 == 1) = fneg x := by unfold fneg; rw [Bool.eq_iff_iff]; simp
  rw [es, h', if_neg (by decide), if_neg (by decide), if_pos rfl]
theorem read_nan (x : Nat) (h : isNaN x = true) : ∃ s t, double.read x = .nan s t := by
  have h' : infR < x % 2 ^ 63 := by simpa [isNaN] using h
  rw [read_eq]
  have : ¬ x % 2 ^ 63 < 2 ^ 52 := by unfold infR at h'; omega
  rw [if_neg this, if_neg (by omega), if_neg (by omega)]
  exact ⟨_, _, rfl⟩
theorem tri (x : Nat) : isFin x = true ∨ isInf x = true ∨ isNaN x = true := by
  simp only [isFin, isInf, isNaN, decide_eq_true_eq]; omega
theorem fin_not (x : Nat) : isFin x = !(isInf x || isNaN x) := by
  rw [Bool.eq_iff_iff]; simp only [isFin, isInf, isNaN]; simp; omega

theorem cut_nan (x y t : Nat) : isNaN ((Question.nanBits .f64 x y).cut t) = true := by
  unfold Question.cut isNaN infR
  simp only [decide_eq_true_eq]
  have h1 : t / 2 % (2 ^ 52 - 1) < 2 ^ 52 - 1 := Nat.mod_lt _ (by decide)
  generalize t / 2 % (2 ^ 52 - 1) = k at *
  rcases (by omega : t % 2 = 0 ∨ t % 2 = 1) with e | e <;> rw [e] <;> omega
theorem cut_lt (x y t : Nat) : (Question.nanBits .f64 x y).cut t < 2 ^ 64 := by
  unfold Question.cut
  simp only
  have h1 : t / 2 % (2 ^ 52 - 1) < 2 ^ 52 - 1 := Nat.mod_lt _ (by decide)
  generalize t / 2 % (2 ^ 52 - 1) = k at *
  rcases (by omega : t % 2 = 0 ∨ t % 2 = 1) with e | e <;> rw [e] <;> omega

theorem fop_some {op : BinOp} {x y r : Nat} (h : floatBits op .f64 x y = some r) (w : World) : fop op x y w = r := by simp [fop, h]
theorem fop_none {op : BinOp} {x y : Nat} (h : floatBits op .f64 x y = none) (w : World) : isNaN (fop op x y w) = true := by
  simp only [fop, h]; exact cut_nan _ _ _
theorem fop_lt (op : BinOp) (x y : Nat) (w : World) : fop op x y w < 2 ^ 64 := by
  cases h : floatBits op .f64 x y with
  | some r => rw [fop_some h]; have := floatBits_wf h; simpa [Lit.wf] using this
  | none => simp only [fop, h]; exact cut_lt _ _ _

/-- Two words are the same, or both NaN: what a deterministic program may be sure of. -/
def same (x y : Nat) : Prop := x = y ∨ (isNaN x = true ∧ isNaN y = true)
theorem same.refl (x : Nat) : same x x := .inl rfl
theorem same.symm {x y : Nat} (h : same x y) : same y x := by
  rcases h with rfl | ⟨a, b⟩
  · exact .inl rfl
  · exact .inr ⟨b, a⟩
theorem same.trans {x y z : Nat} (h : same x y) (k : same y z) : same x z := by
  rcases h with rfl | ⟨a, b⟩
  · exact k
  · rcases k with rfl | ⟨c, d⟩
    · exact .inr ⟨a, b⟩
    · exact .inr ⟨a, d⟩

abbrev ord (x y : Nat) : Option Ordering := double.order x y
theorem ord_nan_left {x : Nat} (h : isNaN x = true) (y : Nat) : ord x y = none := by
  obtain ⟨s, t, e⟩ := read_nan x h
  simp [ord, Format.order, e, Datum.order]
theorem ord_nan_right {y : Nat} (h : isNaN y = true) (x : Nat) : ord x y = none := by
  obtain ⟨s, t, e⟩ := read_nan y h
  simp only [ord, Format.order, e]
  cases double.read x <;> rfl
theorem ord_self {x : Nat} (h : isNaN x = false) : ord x x = some .eq := by
  rcases tri x with f | i | n
  · simp [ord, Format.order, read_fin x f, Datum.order]
  · simp [ord, Format.order, read_inf x i, Datum.order]
  · simp [n] at h
theorem ord_self_eq (x : Nat) : (ord x x == some .eq) = !isNaN x := by
  cases h : isNaN x
  · rw [ord_self h]; rfl
  · rw [ord_nan_left h]; rfl
theorem ord_self_ne (x : Nat) : (ord x x != some .eq) = isNaN x := by
  cases h : isNaN x
  · rw [ord_self h]; rfl
  · rw [ord_nan_left h]; rfl
theorem same.ord {x y u v : Nat} (h : same x y) (k : same u v) : ord x u = ord y v := by
  rcases h with rfl | ⟨a, b⟩
  · rcases k with rfl | ⟨c, d⟩
    · rfl
    · rw [ord_nan_right c, ord_nan_right d]
  · rw [ord_nan_left a, ord_nan_left b]

theorem bits_nan {op : BinOp} (h : op = .add ∨ op = .sub ∨ op = .mul ∨ op = .quo) (x y : Nat) (n : isNaN x = true ∨ isNaN y = true) : floatBits op .f64 x y = none := by
  rcases n with n | n
  · obtain ⟨s, t, e⟩ := read_nan _ n
    rcases h with rfl | rfl | rfl | rfl <;> simp [floatBits, FloatKind.format, Format.add, Format.sub, Format.mul, Format.div, e, Datum.sum, Datum.product, Datum.quotient]
  · obtain ⟨s, t, e⟩ := read_nan _ n
    rcases h with rfl | rfl | rfl | rfl <;> simp only [floatBits, FloatKind.format, Format.add, Format.sub, Format.mul, Format.div, e] <;> cases double.read x <;> simp [Datum.sum, Datum.product, Datum.quotient, Datum.opposite]
theorem same.fop {op : BinOp} (h : op = .add ∨ op = .sub ∨ op = .mul ∨ op = .quo) {x y u v : Nat} (hx : same x u) (hy : same y v) (w w' : World) : same (fop op x y w) (fop op u v w') := by
  rcases hx with rfl | ⟨a, b⟩
  · rcases hy with rfl | ⟨c, d⟩
    · cases e : floatBits op .f64 x y with
      | some r => rw [fop_some e, fop_some e]; exact .inl rfl
      | none => exact .inr ⟨fop_none e w, fop_none e w'⟩
    · exact .inr ⟨fop_none (bits_nan h _ _ (.inr c)) w, fop_none (bits_nan h _ _ (.inr d)) w'⟩
  · exact .inr ⟨fop_none (bits_nan h _ _ (.inl a)) w, fop_none (bits_nan h _ _ (.inl b)) w'⟩
theorem same_add {x y u v : Nat} (hx : same x u) (hy : same y v) (w w' : World) : same (Fl.fop .add x y w) (Fl.fop .add u v w') := same.fop (by simp) hx hy w w'
theorem same_sub {x y u v : Nat} (hx : same x u) (hy : same y v) (w w' : World) : same (Fl.fop .sub x y w) (Fl.fop .sub u v w') := same.fop (by simp) hx hy w w'
theorem same_mul {x y u v : Nat} (hx : same x u) (hy : same y v) (w w' : World) : same (Fl.fop .mul x y w) (Fl.fop .mul u v w') := same.fop (by simp) hx hy w w'
theorem same_quo {x y u v : Nat} (hx : same x u) (hy : same y v) (w w' : World) : same (Fl.fop .quo x y w) (Fl.fop .quo u v w') := same.fop (by simp) hx hy w w'

end Go.Proofs.Ytmeccjlopmjneaa.Fl
/- Doubles as numbers: a finite double is a whole number of units 2^-1074; the order of floats is the order of these numbers; among sizes it is the order of the words. -/
namespace Go.Proofs.Ytmeccjlopmjneaa.Fl
open Go Ieee

/-- The size of a finite double in units of 2^-1074. -/
def V (x : Nat) : Nat := mag x * 2 ^ plc x
def Sv (x : Nat) : Int := if fneg x then -(V x : Int) else (V x : Int)

theorem V_mod (x : Nat) : V (x % 2 ^ 63) = V x := by
  unfold V mag plc
  have e1 : x % 2 ^ 63 % 2 ^ 63 = x % 2 ^ 63 := Nat.mod_mod _ _
  have e2 : x % 2 ^ 63 % 2 ^ 52 = x % 2 ^ 52 := by omega
  rw [e1, e2]

theorem V_small {r : Nat} (h : r < 2 ^ 52) : V r = r := by
  unfold V mag plc
  have e1 : r % 2 ^ 63 = r := by omega
  rw [e1, if_pos h]
  have : r / 2 ^ 52 - 1 = 0 := by omega
  rw [this]; simp
theorem V_big {r : Nat} (h : 2 ^ 52 ≤ r) (h2 : r < 2 ^ 63) : V r = (2 ^ 52 + r % 2 ^ 52) * 2 ^ (r / 2 ^ 52 - 1) := by
  unfold V mag plc
  have e1 : r % 2 ^ 63 = r := by omega
  rw [e1, if_neg (by omega)]

theorem V_step {r : Nat} (h : r + 1 < 2 ^ 63) : V r < V (r + 1) := by
  by_cases a : r + 1 < 2 ^ 52
  · rw [V_small a, V_small (by omega)]; omega
  · by_cases b : r < 2 ^ 52
    · have hr : r = 2 ^ 52 - 1 := by omega
      rw [V_small b, V_big (by omega) h, hr]; decide
    · rw [V_big (by omega) (by omega), V_big (by omega) h]
      by_cases c : (r + 1) % 2 ^ 52 = 0
      · have e1 : r % 2 ^ 52 = 2 ^ 52 - 1 := by omega
        have e2 : (r + 1) / 2 ^ 52 - 1 = (r / 2 ^ 52 - 1) + 1 := by omega
        rw [e1, e2, c, show 2 ^ (r / 2 ^ 52 - 1 + 1) = 2 ^ (r / 2 ^ 52 - 1) * 2 from Nat.pow_succ ..]
        have : 0 < 2 ^ (r / 2 ^ 52 - 1) := Nat.two_pow_pos _
        generalize 2 ^ (r / 2 ^ 52 - 1) = k at *
        omega
      · have e1 : (r + 1) % 2 ^ 52 = r % 2 ^ 52 + 1 := by omega
        have e2 : (r + 1) / 2 ^ 52 = r / 2 ^ 52 := by omega
        rw [e1, e2]
        exact Nat.mul_lt_mul_of_pos_right (by omega) (Nat.two_pow_pos _)
theorem V_lt {r s : Nat} (h : r < s) (hs : s < 2 ^ 63) : V r < V s := by
  induction s with
  | zero => omega
  | succ s ih =>
    by_cases e : r = s
    · subst e; exact V_step hs
    · exact Nat.lt_trans (ih (by omega) (by omega)) (V_step hs)
theorem V_le {r s : Nat} (h : r ≤ s) (hs : s < 2 ^ 63) : V r ≤ V s := by
  by_cases e : r = s
  · subst e; exact Nat.le_refl _
  · exact Nat.le_of_lt (V_lt (by omega) hs)
theorem V_inj {r s : Nat} (hr : r < 2 ^ 63) (hs : s < 2 ^ 63) (h : V r = V s) : r = s := by
  by_cases a : r < s
  · have := V_lt a hs; omega
  · by_cases b : s < r
    · have := V_lt b hr; omega
    · omega
theorem V_zero : V 0 = 0 := by decide
theorem V_pos {r : Nat} (h : 0 < r) (hs : r < 2 ^ 63) : 0 < V r := by have := V_lt h hs; rw [V_zero] at this; exact this

theorem cmp_eq {a b c d : Int} (h1 : a < b ↔ c < d) (h2 : a = b ↔ c = d) : compare a b = compare c d := by
  simp only [compare, compareOfLessAndEq]
  by_cases x : a < b
  · rw [if_pos x, if_pos (h1.1 x)]
  · rw [if_neg x, if_neg (fun y => x (h1.2 y))]
    by_cases z : a = b
    · rw [if_pos z, if_pos (h2.1 z)]
    · rw [if_neg z, if_neg (fun y => z (h2.2 y))]
theorem cmp_scale {a b k : Int} (hk : 0 < k) : compare (a * k) (b * k) = compare a b :=
  cmp_eq ⟨fun h => Int.lt_of_mul_lt_mul_right h (Int.le_of_lt hk), fun h => Int.mul_lt_mul_of_pos_right h hk⟩
    ⟨fun h => Int.eq_of_mul_eq_mul_right (Int.ne_of_gt hk) h, fun h => by rw [h]⟩

theorem signed_scale (s : Bool) (m k : Nat) (j : Nat) : signed s m k * ((2 ^ j : Nat) : Int) = signed s m (k + j) := by
  unfold signed
  have e : ((m <<< k : Nat) : Int) * ((2 ^ j : Nat) : Int) = ((m <<< (k + j) : Nat) : Int) := by
    rw [Nat.shiftLeft_eq, Nat.shiftLeft_eq, Nat.pow_add, ← Nat.mul_assoc]; rfl
  split
  · rw [Int.neg_mul, e]
  · rw [e]
theorem signed_Sv (x : Nat) : signed (fneg x) (mag x) (plc x) = Sv x := by
  unfold signed Sv V
  rw [Nat.shiftLeft_eq]

theorem ord_fin {x y : Nat} (hx : isFin x = true) (hy : isFin y = true) : ord x y = some (compare (Sv x) (Sv y)) := by
  simp only [ord, Format.order, read_fin x hx, read_fin y hy, Datum.order]
  have e1 : (-1074 + (plc x : Int) - min (-1074 + (plc x : Int)) (-1074 + (plc y : Int))).toNat = plc x - min (plc x) (plc y) := by omega
  have e2 : (-1074 + (plc y : Int) - min (-1074 + (plc x : Int)) (-1074 + (plc y : Int))).toNat = plc y - min (plc x) (plc y) := by omega
  rw [e1, e2]
  congr 1
  have hk : (0 : Int) < ((2 ^ min (plc x) (plc y) : Nat) : Int) := by have := Nat.two_pow_pos (min (plc x) (plc y)); omega
  rw [← cmp_scale hk, signed_scale, signed_scale]
  have f1 : plc x - min (plc x) (plc y) + min (plc x) (plc y) = plc x := by omega
  have f2 : plc y - min (plc x) (plc y) + min (plc x) (plc y) = plc y := by omega
  rw [f1, f2, signed_Sv, signed_Sv]

theorem fneg_small {x : Nat} (h : x < 2 ^ 63) : fneg x = false := by unfold fneg; simp; omega
theorem Sv_small {x : Nat} (h : x < 2 ^ 63) : Sv x = (V x : Int) := by unfold Sv; rw [fneg_small h]; rfl
/-- Among sizes the order is that of the words. -/
theorem ord_pos {x y : Nat} (hx : x < infR) (hy : y < infR) : ord x y = some (compare x y) := by
  have lx : x < 2 ^ 63 := by unfold infR at hx; omega
  have ly : y < 2 ^ 63 := by unfold infR at hy; omega
  rw [ord_fin (by simp [isFin]; omega) (by simp [isFin]; omega), Sv_small lx, Sv_small ly]
  congr 1
  simp only [compare, compareOfLessAndEq]
  by_cases a : x < y
  · rw [if_pos (by have := V_lt a ly; omega), if_pos a]
  · by_cases b : x = y
    · subst b; simp
    · have := V_lt (show y < x by omega) lx
      rw [if_neg (by omega), if_neg (by omega), if_neg a, if_neg b]
/-- math.IsInf's test. -/
theorem ord_max {x : Nat} (h : x < 2 ^ 63) : (ord x 9218868437227405311 == some .gt) = isInf x := by
  have e : x % 2 ^ 63 = x := by omega
  rcases tri x with f | i | n
  · have hx : x < infR := by simpa [isFin, e] using f
    rw [ord_pos hx (by decide)]
    have : isInf x = false := by simp [isInf, e]; omega
    rw [this]
    simp only [compare, compareOfLessAndEq]
    unfold infR at hx
    by_cases a : x < 9218868437227405311
    · rw [if_pos a]; rfl
    · rw [if_neg a, if_pos (by omega)]; rfl
  · rw [i]
    have : ord x 9218868437227405311 = some .gt := by
      simp only [ord, Format.order, read_inf x i, fneg_small h, read_fin 9218868437227405311 (by decide), Datum.order]; rfl
    rw [this]; rfl
  · rw [ord_nan_left n]
    have : isInf x = false := by simp only [isNaN, decide_eq_true_eq] at n; simp [isInf]; omega
    rw [this]; rfl

theorem isInf_mod (x : Nat) : isInf (x % 2 ^ 63) = isInf x := by unfold isInf; rw [Nat.mod_mod]
theorem isNaN_mod (x : Nat) : isNaN (x % 2 ^ 63) = isNaN x := by unfold isNaN; rw [Nat.mod_mod]
theorem isFin_mod (x : Nat) : isFin (x % 2 ^ 63) = isFin x := by unfold isFin; rw [Nat.mod_mod]

/-- x - x is 0 of just the finite ones. -/
theorem sub_self_fin {x : Nat} (h : isFin x = true) (w : World) : fop .sub x x w = 0 := by
  refine fop_some ?_ w
  simp only [floatBits, FloatKind.format, Format.sub, read_fin x h, Datum.opposite, Datum.sum, Option.map_some, Option.some.injEq]
  have e : (-1074 + (plc x : Int) - min (-1074 + (plc x : Int)) (-1074 + (plc x : Int))).toNat = 0 := by omega
  rw [e]
  have t : signed (fneg x) (mag x) 0 + signed (!fneg x) (mag x) 0 = 0 := by unfold signed; cases fneg x <;> simp <;> omega
  rw [t]
  simp [Format.write, Format.nearest, Format.word]
theorem sub_self_not {x : Nat} (h : isFin x = false) (w : World) : isNaN (fop .sub x x w) = true := by
  refine fop_none ?_ w
  rcases tri x with f | i | n
  · simp [f] at h
  · simp [floatBits, FloatKind.format, Format.sub, read_inf x i, Datum.opposite, Datum.sum]
  · exact bits_nan (by simp) x x (.inl n)
theorem sub_self_ord (x : Nat) (w : World) : (ord (fop .sub x x w) 0 == some .eq) = isFin x := by
  cases h : isFin x
  · rw [ord_nan_left (sub_self_not h w)]; rfl
  · rw [sub_self_fin h w]; decide

theorem bits_abs (x : Nat) (hx : x < 2 ^ 64) : (bits .andNot .u64 (x : Int) 9223372036854775808).toNat = x % 2 ^ 63 := by
  unfold bits
  have hb : ~~~(BitVec.ofInt 64 9223372036854775808) = BitVec.ofNat 64 (2 ^ 63 - 1) := by decide
  have ha : (BitVec.ofInt 64 (x : Int)).toNat = x := by
    rw [BitVec.ofInt_natCast, BitVec.toNat_ofNat]; omega
  show (IntKind.u64.wrap ((BitVec.ofInt 64 (x : Int) &&& ~~~(BitVec.ofInt 64 9223372036854775808)).toNat : Int)).toNat = _
  rw [hb, BitVec.toNat_and, ha]
  have hc : (BitVec.ofNat 64 (2 ^ 63 - 1)).toNat = 2 ^ 63 - 1 := by decide
  rw [hc, Nat.and_two_pow_sub_one_eq_mod]
  have hw : IntKind.u64.wrap ((x % 2 ^ 63 : Nat) : Int) = ((x % 2 ^ 63 : Nat) : Int) := by
    simp only [IntKind.wrap, IntKind.bits, IntKind.signed]
    simp; omega
  rw [hw]; rfl
theorem bits_fin (x : Nat) : (bits .and .u64 ((x : Int) / 4503599627370496) 2047 != 2047) = isFin x := by
  have h1 : (bits .and .u64 ((x : Int) / 4503599627370496) 2047) = ((x / 2 ^ 52 % 2048 : Nat) : Int) := by
    unfold bits
    have ha : (BitVec.ofInt 64 ((x : Int) / 4503599627370496)).toNat = x / 2 ^ 52 % 2 ^ 64 := by
      have : ((x : Int) / 4503599627370496) = ((x / 2 ^ 52 : Nat) : Int) := by omega
      rw [this, BitVec.ofInt_natCast, BitVec.toNat_ofNat]
    show IntKind.u64.wrap ((BitVec.ofInt 64 ((x : Int) / 4503599627370496) &&& BitVec.ofInt 64 2047).toNat : Int) = _
    have hc : (BitVec.ofInt 64 2047).toNat = 2 ^ 11 - 1 := by decide
    rw [BitVec.toNat_and, ha, hc, Nat.and_two_pow_sub_one_eq_mod]
    simp only [IntKind.wrap, IntKind.bits, IntKind.signed]
    simp; omega
  rw [h1]
  unfold isFin infR
  rw [Bool.eq_iff_iff]
  simp
  omega
end Go.Proofs.Ytmeccjlopmjneaa.Fl
/- Rounding: the nearest double to any number, told by the halves between two neighbours; from this it keeps the order and tells what is a double exactly. -/
namespace Go.Proofs.Ytmeccjlopmjneaa.Fl
open Go Ieee

/-- The size of rung r in units of 2^-1074 (infinity's rung and those behind go on as the next binades). -/
def U (r : Nat) : Nat := if r < 2 ^ 52 then r else (2 ^ 52 + r % 2 ^ 52) * 2 ^ (r / 2 ^ 52 - 1)
theorem U_small {r : Nat} (h : r < 2 ^ 52) : U r = r := if_pos h
theorem U_big {r : Nat} (h : 2 ^ 52 ≤ r) : U r = (2 ^ 52 + r % 2 ^ 52) * 2 ^ (r / 2 ^ 52 - 1) := if_neg (by omega)
theorem V_U (x : Nat) : V x = U (x % 2 ^ 63) := by
  unfold V mag plc
  by_cases c : x % 2 ^ 63 < 2 ^ 52
  · rw [if_pos c, U_small c]
    have : x % 2 ^ 63 / 2 ^ 52 - 1 = 0 := by omega
    rw [this]; simp
  · rw [if_neg c, U_big (by omega)]
    have : x % 2 ^ 63 % 2 ^ 52 = x % 2 ^ 52 := by omega
    rw [this]
theorem U_kept (e k : Nat) (hk : k ≤ 2 ^ 53) (he : e = 0 ∨ 2 ^ 52 ≤ k) : U (e * 2 ^ 52 + k) = k * 2 ^ e := by
  by_cases a : k < 2 ^ 52
  · have e0 : e = 0 := by omega
    subst e0
    rw [U_small (by omega)]; simp
  · by_cases b : k < 2 ^ 53
    · rw [U_big (by omega)]
      have e1 : (e * 2 ^ 52 + k) % 2 ^ 52 = k - 2 ^ 52 := by omega
      have e2 : (e * 2 ^ 52 + k) / 2 ^ 52 - 1 = e := by omega
      rw [e1, e2, show 2 ^ 52 + (k - 2 ^ 52) = k by omega]
    · rw [U_big (by omega)]
      have e1 : (e * 2 ^ 52 + k) % 2 ^ 52 = 0 := by omega
      have e2 : (e * 2 ^ 52 + k) / 2 ^ 52 - 1 = e + 1 := by omega
      have e3 : k = 2 ^ 52 * 2 := by omega
      rw [e1, e2, e3, show 2 ^ (e + 1) = 2 ^ e * 2 from Nat.pow_succ ..]
      rw [Nat.add_zero, Nat.mul_assoc, Nat.mul_comm 2 (2 ^ e)]
theorem U_step (r : Nat) : U r < U (r + 1) := by
  by_cases a : r < 2 ^ 52
  · have h1 := U_kept 0 r (by omega) (.inl rfl)
    have h2 := U_kept 0 (r + 1) (by omega) (.inl rfl)
    simp only [Nat.zero_mul, Nat.zero_add, Nat.pow_zero, Nat.mul_one] at h1 h2
    rw [h1, h2]; omega
  · have ek : ∃ e k, r = e * 2 ^ 52 + k ∧ 2 ^ 52 ≤ k ∧ k < 2 ^ 53 := ⟨r / 2 ^ 52 - 1, r % 2 ^ 52 + 2 ^ 52, by omega, by omega, by omega⟩
    obtain ⟨e, k, rfl, h1, h2⟩ := ek
    rw [U_kept e k (by omega) (.inr h1), Nat.add_assoc, U_kept e (k + 1) (by omega) (.inr (by omega))]
    exact Nat.mul_lt_mul_of_pos_right (by omega) (Nat.two_pow_pos _)
theorem U_lt {r s : Nat} (h : r < s) : U r < U s := by
  induction s with
  | zero => omega
  | succ s ih =>
    by_cases e : r = s
    · subst e; exact U_step r
    · exact Nat.lt_trans (ih (by omega)) (U_step s)
theorem U_le {r s : Nat} (h : r ≤ s) : U r ≤ U s := by
  by_cases e : r = s
  · subst e; exact Nat.le_refl _
  · exact Nat.le_of_lt (U_lt (by omega))
theorem U_inj {r s : Nat} (h : U r = U s) : r = s := by
  by_cases a : r < s
  · have := U_lt a; omega
  · by_cases b : s < r
    · have := U_lt b; omega
    · omega
theorem U_zero : U 0 = 0 := U_small (by decide)
theorem lt_of_U {r s : Nat} (h : U r < U s) : r < s := by
  by_cases a : r < s
  · exact a
  · have := U_le (show s ≤ r by omega); omega
theorem le_of_U {r s : Nat} (h : U r ≤ U s) : r ≤ s := by
  by_cases a : r ≤ s
  · exact a
  · have := U_lt (show s < r by omega); omega

/-- Rung r is the nearest one to N / 2^D units (of two the even one; infinity's from the half behind the greatest double on). -/
structure Rn (N D r : Nat) : Prop where
  le : r ≤ infR
  lo : r = 0 ∨ (U (r - 1) + U r) * 2 ^ D < 2 * N ∨ ((U (r - 1) + U r) * 2 ^ D = 2 * N ∧ r % 2 = 0)
  hi : r = infR ∨ 2 * N < (U r + U (r + 1)) * 2 ^ D ∨ (2 * N = (U r + U (r + 1)) * 2 ^ D ∧ r % 2 = 0)

theorem Rn.mono {N M D r s : Nat} (h : Rn N D r) (k : Rn M D s) (le : N ≤ M) : r ≤ s := by
  by_cases c : r ≤ s
  · exact c
  · exfalso
    have hr := h.le
    have hQ : 0 < 2 ^ D := Nat.two_pow_pos D
    have u1 : U s ≤ U (r - 1) := U_le (by omega)
    have u2 : U (s + 1) ≤ U r := U_le (by omega)
    have m1 : (U s + U (s + 1)) * 2 ^ D ≤ (U (r - 1) + U r) * 2 ^ D := Nat.mul_le_mul_right _ (by omega)
    rcases h.lo with l | l | ⟨l, pr⟩
    · omega
    · rcases k.hi with q | q | ⟨q, _⟩ <;> omega
    · rcases k.hi with q | q | ⟨q, ps⟩
      · omega
      · omega
      · by_cases e : s = r - 1
        · omega
        · have u3 : U s < U (r - 1) := U_lt (by omega)
          have m2 : (U s + U (s + 1)) * 2 ^ D < (U (r - 1) + U r) * 2 ^ D := Nat.mul_lt_mul_of_pos_right (by omega) hQ
          omega
theorem Rn.uniq {N D r s : Nat} (h : Rn N D r) (k : Rn N D s) : r = s := Nat.le_antisymm (h.mono k (Nat.le_refl _)) (k.mono h (Nat.le_refl _))
theorem Rn.exact {r : Nat} (D : Nat) (h : r ≤ infR) : Rn (U r * 2 ^ D) D r := by
  have hQ : 0 < 2 ^ D := Nat.two_pow_pos D
  refine ⟨h, ?_, ?_⟩
  · by_cases c : r = 0
    · exact .inl c
    · have u := U_lt (show r - 1 < r by omega)
      have m : (U (r - 1) + U r) * 2 ^ D < (U r + U r) * 2 ^ D := Nat.mul_lt_mul_of_pos_right (by omega) hQ
      have : (U r + U r) * 2 ^ D = 2 * (U r * 2 ^ D) := by rw [Nat.add_mul]; omega
      exact .inr (.inl (by omega))
  · have u := U_step r
    have m : (U r + U r) * 2 ^ D < (U r + U (r + 1)) * 2 ^ D := Nat.mul_lt_mul_of_pos_right (by omega) hQ
    have : (U r + U r) * 2 ^ D = 2 * (U r * 2 ^ D) := by rw [Nat.add_mul]; omega
    exact .inr (.inl (by omega))
theorem Rn.scale {N D r : Nat} (h : Rn N D r) (k : Nat) : Rn (N * 2 ^ k) (D + k) r := by
  have hK : 0 < 2 ^ k := Nat.two_pow_pos k
  have e : ∀ A, A * 2 ^ (D + k) = A * 2 ^ D * 2 ^ k := fun A => by rw [Nat.pow_add, Nat.mul_assoc]
  have f : 2 * (N * 2 ^ k) = 2 * N * 2 ^ k := by rw [Nat.mul_assoc]
  refine ⟨h.le, ?_, ?_⟩
  · rw [e, f]
    rcases h.lo with l | l | ⟨l, p⟩
    · exact .inl l
    · exact .inr (.inl (Nat.mul_lt_mul_of_pos_right l hK))
    · exact .inr (.inr ⟨by rw [l], p⟩)
  · rw [e, f]
    rcases h.hi with l | l | ⟨l, p⟩
    · exact .inl l
    · exact .inr (.inl (Nat.mul_lt_mul_of_pos_right l hK))
    · exact .inr (.inr ⟨by rw [l], p⟩)

/-- n / G, rounded, G the gap. -/
theorem cut_gap (n G : Nat) (hG : 0 < G) :
    let K := n / G + (decide (G < 2 * (n % G)) || (G == 2 * (n % G) && n / G % 2 == 1)).toNat
    (2 * n < (2 * K + 1) * G ∨ (2 * n = (2 * K + 1) * G ∧ K % 2 = 0)) ∧ (2 * K * G < 2 * n + G ∨ (2 * K * G = 2 * n + G ∧ K % 2 = 0)) := by
  intro K
  have hn : G * (n / G) + n % G = n := Nat.div_add_mod n G
  have hr : n % G < G := Nat.mod_lt _ hG
  have eA : G * (n / G) = n / G * G := Nat.mul_comm _ _
  by_cases a : G < 2 * (n % G)
  · have hK : K = n / G + 1 := by show n / G + _ = _; simp [a]
    rw [hK]
    generalize n / G = q at *
    have e1 : (2 * (q + 1) + 1) * G = 2 * (q * G) + 3 * G := by rw [Nat.add_mul, Nat.mul_add, Nat.add_mul, Nat.mul_assoc]; omega
    have e2 : 2 * (q + 1) * G = 2 * (q * G) + 2 * G := by rw [Nat.mul_add, Nat.add_mul, Nat.mul_assoc]
    rw [e1, e2]
    generalize q * G = A at *
    exact ⟨.inl (by omega), .inl (by omega)⟩
  · by_cases b : G = 2 * (n % G)
    · by_cases c : n / G % 2 = 1
      · have hK : K = n / G + 1 := by
          show n / G + _ = _
          have : (G == 2 * (n % G)) = true := by simpa using b
          rw [this, c]; simp
        rw [hK]
        generalize n / G = q at *
        have e1 : (2 * (q + 1) + 1) * G = 2 * (q * G) + 3 * G := by rw [Nat.add_mul, Nat.mul_add, Nat.add_mul, Nat.mul_assoc]; omega
        have e2 : 2 * (q + 1) * G = 2 * (q * G) + 2 * G := by rw [Nat.mul_add, Nat.add_mul, Nat.mul_assoc]
        rw [e1, e2]
        generalize q * G = A at *
        exact ⟨.inl (by omega), .inr ⟨by omega, by omega⟩⟩
      · have hK : K = n / G := by
          show n / G + _ = _
          have : (n / G % 2 == 1) = false := by simp; omega
          rw [this]; simp [a]
        rw [hK]
        generalize n / G = q at *
        have e1 : (2 * q + 1) * G = 2 * (q * G) + G := by rw [Nat.add_mul, Nat.mul_assoc]; omega
        have e2 : 2 * q * G = 2 * (q * G) := by rw [Nat.mul_assoc]
        rw [e1, e2]
        generalize q * G = A at *
        exact ⟨.inr ⟨by omega, by omega⟩, .inl (by omega)⟩
    · have hK : K = n / G := by
        show n / G + _ = _
        have : (G == 2 * (n % G)) = false := by simpa using b
        rw [this]; simp [a]
      rw [hK]
      generalize n / G = q at *
      have e1 : (2 * q + 1) * G = 2 * (q * G) + G := by rw [Nat.add_mul, Nat.mul_assoc]; omega
      have e2 : 2 * q * G = 2 * (q * G) := by rw [Nat.mul_assoc]
      rw [e1, e2]
      generalize q * G = A at *
      exact ⟨.inl (by omega), .inl (by omega)⟩
theorem cut_spec (neg : Bool) (n drop : Nat) :
    (2 * n < (2 * Toward.even.cut neg n drop + 1) * 2 ^ drop ∨ (2 * n = (2 * Toward.even.cut neg n drop + 1) * 2 ^ drop ∧ Toward.even.cut neg n drop % 2 = 0)) ∧
    (2 * Toward.even.cut neg n drop * 2 ^ drop < 2 * n + 2 ^ drop ∨ (2 * Toward.even.cut neg n drop * 2 ^ drop = 2 * n + 2 ^ drop ∧ Toward.even.cut neg n drop % 2 = 0)) := by
  by_cases c : drop ≤ n.log2 + 2
  · have e : Toward.even.cut neg n drop = n / 2 ^ drop + (decide (2 ^ drop < 2 * (n % 2 ^ drop)) || (2 ^ drop == 2 * (n % 2 ^ drop) && n / 2 ^ drop % 2 == 1)).toNat := by
      unfold Toward.cut
      have : min drop (n.log2 + 2) = drop := by omega
      rw [this, Nat.one_shiftLeft]
    rw [e]
    exact cut_gap n (2 ^ drop) (Nat.two_pow_pos _)
  · have hn : n < 2 ^ (n.log2 + 1) := Nat.lt_log2_self
    have h2 : 2 ^ (n.log2 + 2) = 2 * 2 ^ (n.log2 + 1) := by rw [Nat.pow_succ 2 (n.log2 + 1), Nat.mul_comm]
    have e : Toward.even.cut neg n drop = 0 := by
      unfold Toward.cut
      have : min drop (n.log2 + 2) = n.log2 + 2 := by omega
      simp only [this, Nat.one_shiftLeft]
      have d0 : n / 2 ^ (n.log2 + 2) = 0 := Nat.div_eq_of_lt (by omega)
      have m0 : n % 2 ^ (n.log2 + 2) = n := Nat.mod_eq_of_lt (by omega)
      rw [d0, m0]
      have : ¬ 2 ^ (n.log2 + 2) < 2 * n := by omega
      simp [this]
    rw [e]
    have h3 : 2 ^ (n.log2 + 2) ≤ 2 ^ drop := Nat.pow_le_pow_right (by omega) (by omega)
    exact ⟨.inl (by omega), .inl (by have := Nat.two_pow_pos drop; omega)⟩

theorem infR_even : infR % 2 = 0 := by decide

/-- What is found by the digits that are kept, ahead of the bound at infinity. -/
theorem rn_kept {N D e K : Nat} (hK : K ≤ 2 ^ 53) (he : e = 0 ∨ (2 ^ 52 ≤ K ∧ 2 ^ 52 * 2 ^ (e + D) ≤ N))
    (h1 : 2 * N < (2 * K + 1) * 2 ^ (e + D) ∨ (2 * N = (2 * K + 1) * 2 ^ (e + D) ∧ K % 2 = 0))
    (h2 : 2 * K * 2 ^ (e + D) < 2 * N + 2 ^ (e + D) ∨ (2 * K * 2 ^ (e + D) = 2 * N + 2 ^ (e + D) ∧ K % 2 = 0)) :
    Rn N D (min (e * 2 ^ 52 + K) infR) := by
  have hQ : 0 < 2 ^ D := Nat.two_pow_pos D
  have hPQ : 0 < 2 ^ (e + D) := Nat.two_pow_pos _
  have ePQ : 2 ^ (e + D) = 2 ^ e * 2 ^ D := Nat.pow_add ..
  have uK : U (e * 2 ^ 52 + K) = K * 2 ^ e := U_kept e K hK (he.imp_right And.left)
  have lo : e * 2 ^ 52 + K = 0 ∨ (U (e * 2 ^ 52 + K - 1) + U (e * 2 ^ 52 + K)) * 2 ^ D < 2 * N ∨ ((U (e * 2 ^ 52 + K - 1) + U (e * 2 ^ 52 + K)) * 2 ^ D = 2 * N ∧ (e * 2 ^ 52 + K) % 2 = 0) := by
    by_cases k0 : e * 2 ^ 52 + K = 0
    · exact .inl k0
    · right
      by_cases c : K = 2 ^ 52 ∧ e ≠ 0
      · have hN : 2 ^ 52 * 2 ^ (e + D) ≤ N := by rcases he with h | h; omega; exact h.2
        have u := U_lt (show e * 2 ^ 52 + K - 1 < e * 2 ^ 52 + K by omega)
        have m : (U (e * 2 ^ 52 + K - 1) + U (e * 2 ^ 52 + K)) * 2 ^ D < (U (e * 2 ^ 52 + K) + U (e * 2 ^ 52 + K)) * 2 ^ D := Nat.mul_lt_mul_of_pos_right (by omega) hQ
        have f : (U (e * 2 ^ 52 + K) + U (e * 2 ^ 52 + K)) * 2 ^ D = 2 * (2 ^ 52 * 2 ^ (e + D)) := by
          rw [uK, c.1, ← Nat.two_mul, Nat.mul_assoc, Nat.mul_assoc, ← ePQ]
        exact .inl (by omega)
      · have hk1 : 1 ≤ K ∧ (e = 0 ∨ 2 ^ 52 ≤ K - 1) := by
          rcases he with h | h
          · exact ⟨by omega, .inl h⟩
          · by_cases h0 : e = 0
            · exact ⟨by omega, .inl h0⟩
            · exact ⟨by omega, .inr (by omega)⟩
        have uP : U (e * 2 ^ 52 + K - 1) = (K - 1) * 2 ^ e := by
          rw [show e * 2 ^ 52 + K - 1 = e * 2 ^ 52 + (K - 1) by omega]; exact U_kept e (K - 1) (by omega) hk1.2
        have f : (U (e * 2 ^ 52 + K - 1) + U (e * 2 ^ 52 + K)) * 2 ^ D = (2 * K - 1) * 2 ^ (e + D) := by
          rw [uP, uK, ← Nat.add_mul, ePQ, Nat.mul_assoc]; congr 1; omega
        have g : 2 * K * 2 ^ (e + D) = (2 * K - 1) * 2 ^ (e + D) + 2 ^ (e + D) := by
          rw [← Nat.succ_mul]; congr 1; omega
        rw [f]
        rcases h2 with h | ⟨h, p⟩
        · exact .inl (by omega)
        · exact .inr ⟨by omega, by omega⟩
  have hi : 2 * N < (U (e * 2 ^ 52 + K) + U (e * 2 ^ 52 + K + 1)) * 2 ^ D ∨ (2 * N = (U (e * 2 ^ 52 + K) + U (e * 2 ^ 52 + K + 1)) * 2 ^ D ∧ (e * 2 ^ 52 + K) % 2 = 0) := by
    by_cases c : K < 2 ^ 53
    · have uS : U (e * 2 ^ 52 + K + 1) = (K + 1) * 2 ^ e := by
        rw [show e * 2 ^ 52 + K + 1 = e * 2 ^ 52 + (K + 1) by omega]; exact U_kept e (K + 1) (by omega) (he.imp_right fun h => by omega)
      have f : (U (e * 2 ^ 52 + K) + U (e * 2 ^ 52 + K + 1)) * 2 ^ D = (2 * K + 1) * 2 ^ (e + D) := by
        rw [uK, uS, ← Nat.add_mul, ePQ, Nat.mul_assoc]; congr 1; omega
      rw [f]
      rcases h1 with h | ⟨h, p⟩
      · exact .inl h
      · exact .inr ⟨h, by omega⟩
    · have hK' : K = 2 ^ 53 := by omega
      have uS : U (e * 2 ^ 52 + K + 1) = (K + 2) * 2 ^ e := by
        rw [hK', show e * 2 ^ 52 + 2 ^ 53 + 1 = (e + 1) * 2 ^ 52 + (2 ^ 52 + 1) by omega, U_kept (e + 1) (2 ^ 52 + 1) (by omega) (.inr (by omega)), show 2 ^ (e + 1) = 2 ^ e * 2 from Nat.pow_succ .., Nat.mul_comm (2 ^ e) 2, ← Nat.mul_assoc]
      have f : (U (e * 2 ^ 52 + K) + U (e * 2 ^ 52 + K + 1)) * 2 ^ D = (2 * K + 2) * 2 ^ (e + D) := by
        rw [uK, uS, ← Nat.add_mul, ePQ, Nat.mul_assoc]; congr 1; omega
      have g : (2 * K + 2) * 2 ^ (e + D) = (2 * K + 1) * 2 ^ (e + D) + 2 ^ (e + D) := by rw [← Nat.succ_mul]
      rw [f]
      exact .inl (by rcases h1 with h | ⟨h, _⟩ <;> omega)
  by_cases c : e * 2 ^ 52 + K ≤ infR
  · rw [Nat.min_eq_left c]
    exact ⟨c, lo, .inr hi⟩
  · rw [Nat.min_eq_right (by omega)]
    refine ⟨Nat.le_refl _, ?_, .inl rfl⟩
    have u1 : U (infR - 1) ≤ U (e * 2 ^ 52 + K - 1) := U_le (by omega)
    have u2 : U infR < U (e * 2 ^ 52 + K) := U_lt (by omega)
    have m : (U (infR - 1) + U infR) * 2 ^ D < (U (e * 2 ^ 52 + K - 1) + U (e * 2 ^ 52 + K)) * 2 ^ D := Nat.mul_lt_mul_of_pos_right (by omega) hQ
    right; left
    rcases lo with l | l | ⟨l, _⟩ <;> omega

theorem word_def (s : Bool) (r : Nat) : double.word s r = if s then 2 ^ 63 + r else r := rfl

/-- The nearest word to m * 2^place. -/
theorem rn_nearest (s : Bool) (m : Nat) (place : Int) (D : Nat) (hp : 0 ≤ place + 1074 + D) :
    ∃ r, double.nearest s m place = double.word s r ∧ Rn (m * 2 ^ (place + 1074 + D).toNat) D r := by
  by_cases m0 : m = 0
  · subst m0
    refine ⟨0, by unfold Format.nearest; rw [if_pos rfl], ⟨Nat.zero_le _, .inl rfl, .inr (.inl ?_)⟩⟩
    have u := U_step 0
    have : 0 < (U 0 + U (0 + 1)) * 2 ^ D := Nat.mul_pos (by omega) (Nat.two_pow_pos _)
    simpa using this
  · have hL : 2 ^ m.log2 ≤ m := Nat.log2_self_le m0
    have hL2 : m < 2 ^ (m.log2 + 1) := Nat.lt_log2_self
    have eN : double.nearest s m place = double.word s (min ((max (place + (m.log2 : Int) - 52) (-1074) + 1074).toNat * 2 ^ 52 + Toward.even.cut s (m <<< (place - max (place + (m.log2 : Int) - 52) (-1074)).toNat) (max (place + (m.log2 : Int) - 52) (-1074) - place).toNat) infR) := by
      unfold Format.nearest; rw [if_neg m0]; rfl
    generalize hlast : max (place + (m.log2 : Int) - 52) (-1074) = last at eN
    generalize he : (last + 1074).toNat = e at eN
    generalize ha : (place - last).toNat = a at eN
    generalize hd : (last - place).toNat = d at eN
    generalize hx : (place + 1074 + D).toNat = x
    rw [Nat.shiftLeft_eq] at eN
    generalize hK : Toward.even.cut s (m * 2 ^ a) d = K at eN
    generalize hn : m * 2 ^ a = n at *
    obtain ⟨c1, c2⟩ := cut_spec s n d
    rw [hK] at c1 c2
    have hxd : x + d = e + D + a := by omega
    have hnn : m * 2 ^ x * 2 ^ d = n * 2 ^ (e + D) := by
      rw [Nat.mul_assoc, ← Nat.pow_add, hxd, ← hn, Nat.mul_assoc, ← Nat.pow_add, Nat.add_comm a (e + D)]
    have hd0 : 0 < 2 ^ d := Nat.two_pow_pos d
    have hPQ : 0 < 2 ^ (e + D) := Nat.two_pow_pos _
    have up : n < 2 ^ 53 * 2 ^ d := by
      have h1 : n < 2 ^ (m.log2 + 1) * 2 ^ a := by rw [← hn]; exact Nat.mul_lt_mul_of_pos_right hL2 (Nat.two_pow_pos a)
      have h2 : 2 ^ (m.log2 + 1) * 2 ^ a ≤ 2 ^ 53 * 2 ^ d := by
        rw [← Nat.pow_add, ← Nat.pow_add]; exact Nat.pow_le_pow_right (by omega) (by omega)
      omega
    have dn : e = 0 ∨ 2 ^ 52 * 2 ^ d ≤ n := by
      by_cases e0 : e = 0
      · exact .inl e0
      · right
        have h1 : 2 ^ m.log2 * 2 ^ a ≤ n := by rw [← hn]; exact Nat.mul_le_mul_right _ hL
        have h2 : 2 ^ 52 * 2 ^ d ≤ 2 ^ m.log2 * 2 ^ a := by
          rw [← Nat.pow_add, ← Nat.pow_add]; exact Nat.pow_le_pow_right (by omega) (by omega)
        omega
    refine ⟨_, eN, rn_kept ?_ ?_ ?_ ?_⟩
    · have h : 2 * K * 2 ^ d ≤ 2 * n + 2 ^ d := by rcases c2 with h | ⟨h, _⟩ <;> omega
      have h' : 2 * K * 2 ^ d < (2 ^ 54 + 1) * 2 ^ d := by
        have : (2 ^ 54 + 1) * 2 ^ d = 2 * (2 ^ 53 * 2 ^ d) + 2 ^ d := by rw [Nat.add_mul, ← Nat.mul_assoc]; omega
        omega
      have := Nat.lt_of_mul_lt_mul_right h'
      omega
    · refine dn.imp_right fun h => ⟨?_, ?_⟩
      · have h1 : 2 * n ≤ (2 * K + 1) * 2 ^ d := by rcases c1 with h | ⟨h, _⟩ <;> omega
        have h2 : 2 ^ 53 * 2 ^ d ≤ (2 * K + 1) * 2 ^ d := by
          have : 2 ^ 53 * 2 ^ d = 2 * (2 ^ 52 * 2 ^ d) := by rw [← Nat.mul_assoc]
          omega
        have := Nat.le_of_mul_le_mul_right h2 hd0
        omega
      · refine Nat.le_of_mul_le_mul_right ?_ hd0
        rw [hnn, Nat.mul_assoc, Nat.mul_comm (2 ^ (e + D)), ← Nat.mul_assoc]
        exact Nat.mul_le_mul_right _ h
    · have l1 : 2 * (m * 2 ^ x) * 2 ^ d = 2 * n * 2 ^ (e + D) := by rw [Nat.mul_assoc, hnn, ← Nat.mul_assoc]
      have l2 : (2 * K + 1) * 2 ^ (e + D) * 2 ^ d = (2 * K + 1) * 2 ^ d * 2 ^ (e + D) := by rw [Nat.mul_assoc, Nat.mul_comm (2 ^ (e + D)), ← Nat.mul_assoc]
      rcases c1 with h | ⟨h, p⟩
      · refine .inl (Nat.lt_of_mul_lt_mul_right (a := 2 ^ d) ?_)
        rw [l1, l2]; exact Nat.mul_lt_mul_of_pos_right h hPQ
      · refine .inr ⟨Nat.eq_of_mul_eq_mul_right hd0 ?_, p⟩
        rw [l1, l2, h]
    · have l1 : (2 * (m * 2 ^ x) + 2 ^ (e + D)) * 2 ^ d = (2 * n + 2 ^ d) * 2 ^ (e + D) := by
        rw [Nat.add_mul, Nat.add_mul, Nat.mul_assoc, hnn, ← Nat.mul_assoc, Nat.mul_comm (2 ^ d)]
      have l2 : 2 * K * 2 ^ (e + D) * 2 ^ d = 2 * K * 2 ^ d * 2 ^ (e + D) := by rw [Nat.mul_assoc, Nat.mul_comm (2 ^ (e + D)), ← Nat.mul_assoc]
      rcases c2 with h | ⟨h, p⟩
      · refine .inl (Nat.lt_of_mul_lt_mul_right (a := 2 ^ d) ?_)
        rw [l1, l2]; exact Nat.mul_lt_mul_of_pos_right h hPQ
      · refine .inr ⟨Nat.eq_of_mul_eq_mul_right hd0 ?_, p⟩
        rw [l1, l2, h]
end Go.Proofs.Ytmeccjlopmjneaa.Fl
/- The operations on doubles by the rounding of Rnd: products, sums, quotients, roots; signs and order of the operands. -/
namespace Go.Proofs.Ytmeccjlopmjneaa.Fl
open Go Ieee

theorem infR_lt : infR < 2 ^ 63 := by decide
theorem word_mod {s : Bool} {r : Nat} (h : r ≤ infR) : double.word s r % 2 ^ 63 = r := by
  have := infR_lt
  rw [word_def]; cases s <;> simp <;> omega
theorem word_neg {s : Bool} {r : Nat} (h : r ≤ infR) : fneg (double.word s r) = s := by
  have := infR_lt
  rw [word_def]; unfold fneg; cases s <;> simp <;> omega
theorem word_nan {s : Bool} {r : Nat} (h : r ≤ infR) : isNaN (double.word s r) = false := by
  unfold isNaN; rw [word_mod h]; simp; omega
theorem word_fin {s : Bool} {r : Nat} (h : r ≤ infR) : isFin (double.word s r) = decide (r < infR) := by
  unfold isFin; rw [word_mod h]
theorem word_eta (x : Nat) (h : x < 2 ^ 64) : double.word (fneg x) (x % 2 ^ 63) = x := by
  rw [word_def]; unfold fneg
  by_cases c : x / 2 ^ 63 % 2 = 1
  · rw [if_pos (by simpa using c)]; omega
  · rw [if_neg (by simpa using c)]; omega

theorem pow_cut (a b c : Nat) (h : a + b = c) : 2 ^ a * 2 ^ b = 2 ^ c := by rw [← h, Nat.pow_add]
theorem pow_le_cut {a b c m : Nat} (h : a + b = c) (hm : 2 ^ a ≤ m) : 2 ^ c ≤ m * 2 ^ b := by rw [← pow_cut a b c h]; exact Nat.mul_le_mul_right _ hm
theorem pow_ge_cut {a b c m s : Nat} (h : a + b = c) (hm : m ≤ s * 2 ^ a) : m * 2 ^ b ≤ s * 2 ^ c := by rw [← pow_cut a b c h, ← Nat.mul_assoc]; exact Nat.mul_le_mul_right _ hm
theorem U_at {r e k j s c : Nat} (hr : e * 2 ^ 52 + k = r) (hk : k ≤ 2 ^ 53) (he : e = 0 ∨ 2 ^ 52 ≤ k) (hc : k = s * 2 ^ j) (hj : j + e = c) : U r = s * 2 ^ c := by
  rw [← hr, U_kept e k hk he, hc, Nat.mul_assoc, pow_cut j e c hj]
theorem U_at1 {r e k j c : Nat} (hr : e * 2 ^ 52 + k = r) (hk : k ≤ 2 ^ 53) (he : e = 0 ∨ 2 ^ 52 ≤ k) (hc : k = 2 ^ j) (hj : j + e = c) : U r = 2 ^ c := by
  rw [← hr, U_kept e k hk he, hc, pow_cut j e c hj]
/- The number 1074 goes by a letter: a literal of that size as an exponent is refused. -/
theorem U_one {K : Nat} (h : K = 1074) : U 4607182418800017408 = 2 ^ K := U_at1 (e := 1022) (k := 2 ^ 52) (j := 52) (by decide) (by decide) (.inr (by decide)) rfl (by omega)
theorem U_half {K : Nat} (h : K = 1073) : U 4609434218613702656 = 3 * 2 ^ K := U_at (e := 1022) (k := 3 * 2 ^ 51) (j := 51) (by decide) (by decide) (.inr (by decide)) rfl (by omega)
theorem U_two {K : Nat} (h : K = 1074) : U 4611686018427387904 = 2 * 2 ^ K := U_at (e := 1023) (k := 2 ^ 52) (j := 51) (by decide) (by decide) (.inr (by decide)) (by decide) (by omega)
/-- Units of a finite double. -/
theorem V_rung (x : Nat) : V x = U (x % 2 ^ 63) := V_U x

theorem mul_fin {x y : Nat} (hx : isFin x = true) (hy : isFin y = true) :
    ∃ r, floatBits .mul .f64 x y = some (double.word (fneg x ^^ fneg y) r) ∧ ∀ K, K = 1074 → Rn (V x * V y) K r := by
  obtain ⟨K, hK⟩ : ∃ K, K = 1074 := ⟨_, rfl⟩
  obtain ⟨r, e, h⟩ := rn_nearest (fneg x ^^ fneg y) (mag x * mag y) (-1074 + (plc x : Int) + (-1074 + (plc y : Int))) K (by omega)
  refine ⟨r, ?_, ?_⟩
  · simp only [floatBits, FloatKind.format, Format.mul, read_fin x hx, read_fin y hy, Datum.product, Option.map_some, Format.write, e]
  · intro K' hK'
    rw [hK', ← hK]
    have ep : (-1074 + (plc x : Int) + (-1074 + (plc y : Int)) + 1074 + (K : Int)).toNat = plc x + plc y := by omega
    rw [ep] at h
    unfold V
    rw [show mag x * 2 ^ plc x * (mag y * 2 ^ plc y) = mag x * mag y * 2 ^ (plc x + plc y) by rw [Nat.pow_add]; ac_rfl]
    exact h
theorem add_fin {x y : Nat} (hx : isFin x = true) (hy : isFin y = true) :
    ∃ r, floatBits .add .f64 x y = some (double.word (if Sv x + Sv y = 0 then fneg x && fneg y else decide (Sv x + Sv y < 0)) r) ∧ Rn (Sv x + Sv y).natAbs 0 r := by
  have hk : (0 : Int) < ((2 ^ min (plc x) (plc y) : Nat) : Int) := by have := Nat.two_pow_pos (min (plc x) (plc y)); omega
  have e1 : (-1074 + (plc x : Int) - min (-1074 + (plc x : Int)) (-1074 + (plc y : Int))).toNat = plc x - min (plc x) (plc y) := by omega
  have e2 : (-1074 + (plc y : Int) - min (-1074 + (plc x : Int)) (-1074 + (plc y : Int))).toNat = plc y - min (plc x) (plc y) := by omega
  have f1 : plc x - min (plc x) (plc y) + min (plc x) (plc y) = plc x := by omega
  have f2 : plc y - min (plc x) (plc y) + min (plc x) (plc y) = plc y := by omega
  generalize ht : signed (fneg x) (mag x) (plc x - min (plc x) (plc y)) + signed (fneg y) (mag y) (plc y - min (plc x) (plc y)) = t
  have hs : t * ((2 ^ min (plc x) (plc y) : Nat) : Int) = Sv x + Sv y := by
    rw [← ht, Int.add_mul, signed_scale, signed_scale, f1, f2, signed_Sv, signed_Sv]
  have ez : (t = 0) ↔ (Sv x + Sv y = 0) := by
    rw [← hs]; constructor
    · intro h; rw [h, Int.zero_mul]
    · intro h; rcases Int.mul_eq_zero.1 h with h | h
      · exact h
      · omega
  have el : (t < 0) ↔ (Sv x + Sv y < 0) := by
    rw [← hs]; constructor
    · intro h; have := Int.mul_lt_mul_of_pos_right h hk; rwa [Int.zero_mul] at this
    · intro h; by_cases c : t < 0
      · exact c
      · have := Int.mul_nonneg (show (0 : Int) ≤ t by omega) (Int.le_of_lt hk); omega
  obtain ⟨r, e, h⟩ := rn_nearest (if Sv x + Sv y = 0 then fneg x && fneg y else decide (Sv x + Sv y < 0)) t.natAbs (min (-1074 + (plc x : Int)) (-1074 + (plc y : Int))) 0 (by omega)
  refine ⟨r, ?_, ?_⟩
  · simp only [floatBits, FloatKind.format, Format.add, read_fin x hx, read_fin y hy, Datum.sum, Option.map_some, Format.write, e1, e2, ht]
    rw [← e]
    congr 2
    by_cases c : t = 0
    · rw [if_pos c, if_pos (ez.1 c)]
    · rw [if_neg c, if_neg (fun h => c (ez.2 h))]
      exact decide_eq_decide.2 el
  · have ep : (min (-1074 + (plc x : Int)) (-1074 + (plc y : Int)) + 1074 + ((0 : Nat) : Int)).toNat = min (plc x) (plc y) := by omega
    rw [ep] at h
    have : t.natAbs * 2 ^ min (plc x) (plc y) = (Sv x + Sv y).natAbs := by
      rw [← hs, Int.natAbs_mul, Int.natAbs_natCast]
    rw [← this]; exact h

/-- A quotient with a digit that tells whether anything is left: at most T just where the number is at most n * T. -/
theorem sticky_le (d n T : Nat) (hn : 0 < n) (h : d ≤ n * T) : 2 * (d / n) + (d % n != 0).toNat ≤ 2 * T := by
  have hd := Nat.div_add_mod d n
  by_cases c : d % n = 0
  · have : (d % n != 0) = false := by simpa using c
    rw [this]
    have : n * (d / n) ≤ n * T := by omega
    have := Nat.le_of_mul_le_mul_left this hn
    simp; omega
  · have : (d % n != 0) = true := by simpa using c
    rw [this]
    have : n * (d / n) < n * T := by omega
    have := Nat.lt_of_mul_lt_mul_left this
    simp; omega
/-- The quotient of two sizes, the first not the greater, is a size of at most one. -/
theorem quo_le_one {x y : Nat} (hx : x < infR) (hy : y < infR) (y0 : 0 < y) (h : x ≤ y) :
    ∃ r, floatBits .quo .f64 x y = some r ∧ r ≤ 4607182418800017408 := by
  have l := infR_lt
  have fx : isFin x = true := by unfold isFin; rw [Nat.mod_eq_of_lt (by omega)]; simpa using hx
  have fy : isFin y = true := by unfold isFin; rw [Nat.mod_eq_of_lt (by omega)]; simpa using hy
  have nx : fneg x = false := fneg_small (by omega)
  have ny : fneg y = false := fneg_small (by omega)
  have hV : V x ≤ V y := V_le h (by omega)
  have y1 : 0 < V y := V_pos y0 (by omega)
  have my : mag y ≠ 0 := by intro e; unfold V at y1; rw [e] at y1; simp at y1
  generalize hmore : 54 + (mag y).log2 - (mag x).log2 = more
  generalize hd : mag x <<< more = d
  generalize hQ : 2 * (d / mag y) + (d % mag y != 0).toNat = Q
  have eq : floatBits .quo .f64 x y = some (double.nearest false Q (-1074 + (plc x : Int) - (-1074 + (plc y : Int)) - (more : Int) - 1)) := by
    simp only [floatBits, FloatKind.format, Format.div, read_fin x fx, read_fin y fy, Datum.quotient, if_neg my, Option.map_some, Format.write, nx, ny]
    rw [← hQ, ← hd, ← hmore]; rfl
  obtain ⟨K, hK⟩ : ∃ K, K = 1074 := ⟨_, rfl⟩
  obtain ⟨r, e, hr⟩ := rn_nearest false Q (-1074 + (plc x : Int) - (-1074 + (plc y : Int)) - (more : Int) - 1) (plc y + more + 1) (by omega)
  refine ⟨r, by rw [eq, e]; rfl, ?_⟩
  have ep : (-1074 + (plc x : Int) - (-1074 + (plc y : Int)) - (more : Int) - 1 + 1074 + ((plc y + more + 1 : Nat) : Int)).toNat = plc x + K := by omega
  rw [ep] at hr
  have one := Rn.exact (plc y + more + 1) (show 4607182418800017408 ≤ infR by decide)
  refine hr.mono one ?_
  rw [U_one hK]
  -- the heart: Q * 2^px ≤ 2 * 2^(py + more)
  have key : Q * 2 ^ plc x ≤ 2 * 2 ^ (plc y + more) := by
    by_cases m0 : mag x = 0
    · have : d = 0 := by rw [← hd, m0]; simp
      rw [this] at hQ
      have : Q = 0 := by rw [← hQ]; simp
      rw [this]; simp
    · have hdx : d * 2 ^ plc x ≤ mag y * 2 ^ (plc y + more) := by
        rw [← hd, Nat.shiftLeft_eq, Nat.pow_add, ← Nat.mul_assoc, Nat.mul_assoc, Nat.mul_comm (2 ^ more), ← Nat.mul_assoc]
        exact Nat.mul_le_mul_right _ hV
      have hdy : mag y ≤ d := by
        have a1 : mag y < 2 ^ ((mag y).log2 + 1) := Nat.lt_log2_self
        have a2 : 2 ^ (mag x).log2 ≤ mag x := Nat.log2_self_le m0
        have a3 : 2 ^ ((mag y).log2 + 1) ≤ 2 ^ (mag x).log2 * 2 ^ more := by rw [← Nat.pow_add]; exact Nat.pow_le_pow_right (by omega) (by omega)
        have a4 : 2 ^ (mag x).log2 * 2 ^ more ≤ mag x * 2 ^ more := Nat.mul_le_mul_right _ a2
        rw [← hd, Nat.shiftLeft_eq]; omega
      have hp : plc x ≤ plc y + more := by
        by_cases c : plc x ≤ plc y + more
        · exact c
        · exfalso
          have b1 : 2 ^ (plc y + more) < 2 ^ plc x := Nat.pow_lt_pow_right (by omega) (by omega)
          have b2 : mag y * 2 ^ (plc y + more) < mag y * 2 ^ plc x := Nat.mul_lt_mul_of_pos_left b1 (by omega)
          have b3 : mag y * 2 ^ plc x ≤ d * 2 ^ plc x := Nat.mul_le_mul_right _ hdy
          omega
      have split : 2 ^ (plc y + more) = 2 ^ (plc y + more - plc x) * 2 ^ plc x := by rw [← Nat.pow_add, Nat.sub_add_cancel hp]
      have hT : d ≤ mag y * 2 ^ (plc y + more - plc x) := by
        refine Nat.le_of_mul_le_mul_right ?_ (Nat.two_pow_pos (plc x))
        rw [Nat.mul_assoc, ← split]; exact hdx
      have := sticky_le d (mag y) _ (by omega) hT
      rw [hQ] at this
      rw [split, ← Nat.mul_assoc]
      exact Nat.mul_le_mul_right _ this
  rw [Nat.pow_add 2 (plc x) K, Nat.pow_succ 2 (plc y + more)]
  generalize 2 ^ K = T
  generalize 2 ^ plc x = X at *
  generalize 2 ^ (plc y + more) = Y at *
  have h1 : Q * (X * T) = Q * X * T := by ac_rfl
  have h2 : T * (Y * 2) = 2 * Y * T := by ac_rfl
  rw [h1, h2]
  exact Nat.mul_le_mul_right _ key

/-- The digits of a root. -/
theorem rootFrom_up (n : Nat) : ∀ todo root, root * root ≤ n → Datum.rootFrom n todo root * Datum.rootFrom n todo root ≤ n := by
  intro todo
  induction todo with
  | zero => intro root h; exact h
  | succ t ih =>
    intro root h
    unfold Datum.rootFrom
    apply ih
    by_cases c : (root + 1 <<< t) * (root + 1 <<< t) ≤ n
    · rw [if_pos c]; exact c
    · rw [if_neg c]; exact h
theorem rootFrom_dn (n : Nat) : ∀ todo root, n < (root + 2 ^ todo) * (root + 2 ^ todo) → n < (Datum.rootFrom n todo root + 1) * (Datum.rootFrom n todo root + 1) := by
  intro todo
  induction todo with
  | zero => intro root h; simpa [Datum.rootFrom] using h
  | succ t ih =>
    intro root h
    unfold Datum.rootFrom
    apply ih
    have e : 2 ^ (t + 1) = 2 ^ t + 2 ^ t := by rw [Nat.pow_succ]; omega
    rw [Nat.one_shiftLeft]
    by_cases c : (root + 2 ^ t) * (root + 2 ^ t) ≤ n
    · rw [if_pos c, Nat.add_assoc, ← e]; exact h
    · rw [if_neg c]; omega
theorem sqrt_form {x : Nat} (fx : isFin x = true) (nx : fneg x = false) (m0 : mag x ≠ 0) (more n : Nat) (pl : Int) (h1 : 108 - (mag x).log2 + ((-1074 + (plc x : Int) - ((108 - (mag x).log2 : Nat) : Int)) % 2).toNat = more) (h2 : mag x <<< more = n) (h3 : (-1074 + (plc x : Int) - (more : Int)) / 2 - 1 = pl) :
    double.sqrt x = some (double.nearest false (2 * Datum.rootFrom n (n.log2 / 2 + 1) 0 + (Datum.rootFrom n (n.log2 / 2 + 1) 0 * Datum.rootFrom n (n.log2 / 2 + 1) 0 != n).toNat) pl) := by
  subst h1 h2 h3
  show (Datum.root (52 + 2) (double.read x)).map double.write = _
  rw [read_fin x fx, nx]
  unfold Datum.root
  simp only [if_neg m0]
  rfl
/-- The root of a double from 1 to 2 lies from 1 to 3/2. -/
theorem root_mid {x : Nat} (h1 : 4607182418800017408 ≤ x) (h2 : x ≤ 4611686018427387904) :
    ∃ r, double.sqrt x = some r ∧ 4607182418800017408 ≤ r ∧ r ≤ 4609434218613702656 := by
  have fx : isFin x = true := by unfold isFin infR; simp; omega
  have nx : fneg x = false := fneg_small (by omega)
  have key : ∀ n, 2 ^ 108 ≤ n → n ≤ 2 ^ 109 → ∃ r, double.nearest false (2 * Datum.rootFrom n (n.log2 / 2 + 1) 0 + (Datum.rootFrom n (n.log2 / 2 + 1) 0 * Datum.rootFrom n (n.log2 / 2 + 1) 0 != n).toNat) (-55) = r ∧ 4607182418800017408 ≤ r ∧ r ≤ 4609434218613702656 := by
    intro n n1 n2
    have up := rootFrom_up n (n.log2 / 2 + 1) 0 (by omega)
    have dn := rootFrom_dn n (n.log2 / 2 + 1) 0 (by
      rw [Nat.zero_add, ← Nat.pow_add]
      refine Nat.lt_of_lt_of_le (Nat.lt_log2_self) (Nat.pow_le_pow_right (by omega) (by omega)))
    generalize Datum.rootFrom n (n.log2 / 2 + 1) 0 = k at *
    have kl : 2 ^ 54 ≤ k := by
      by_cases c : 2 ^ 54 ≤ k
      · exact c
      · have : (k + 1) * (k + 1) ≤ 2 ^ 54 * 2 ^ 54 := Nat.mul_le_mul (by omega) (by omega)
        have e : 2 ^ 54 * 2 ^ 54 = 2 ^ 108 := by rw [← Nat.pow_add]
        omega
    have ku : k + 1 ≤ 3 * 2 ^ 53 := by
      by_cases c : k + 1 ≤ 3 * 2 ^ 53
      · exact c
      · have : (3 * 2 ^ 53) * (3 * 2 ^ 53) ≤ k * k := Nat.mul_le_mul (by omega) (by omega)
        have e : 2 ^ 109 < (3 * 2 ^ 53) * (3 * 2 ^ 53) := by decide
        omega
    generalize hb : (k * k != n).toNat = b
    have hb1 : b ≤ 1 := by rw [← hb]; cases (k * k != n) <;> simp
    obtain ⟨r, e, hr⟩ := rn_nearest false (2 * k + b) (-55) 0 (by omega)
    obtain ⟨K, hK⟩ : ∃ K, K = 1019 := ⟨_, rfl⟩
    rw [show ((-55 : Int) + 1074 + ((0 : Nat) : Int)).toNat = K by rw [hK]; decide] at hr
    refine ⟨r, by rw [e]; rfl, ?_, ?_⟩
    · refine (Rn.exact 0 (show 4607182418800017408 ≤ infR by decide)).mono hr ?_
      rw [U_one (K := K + 55) (by omega), Nat.pow_zero, Nat.mul_one]
      exact pow_le_cut (a := 55) (by omega) (by omega)
    · refine hr.mono (Rn.exact 0 (show 4609434218613702656 ≤ infR by decide)) ?_
      rw [U_half (K := K + 54) (by omega), Nat.pow_zero, Nat.mul_one]
      exact pow_ge_cut (a := 54) (by omega) (by omega)
  have hm : x % 2 ^ 63 = x := by omega
  by_cases c : x = 4611686018427387904
  · have mx : mag x = 2 ^ 52 := by rw [c]; decide
    have px : plc x = 1023 := by rw [c]; decide
    have ml : (mag x).log2 = 52 := by rw [mx]; decide
    obtain ⟨r, e, a, b⟩ := key (mag x <<< 57) (by rw [Nat.shiftLeft_eq, mx]; omega) (by rw [Nat.shiftLeft_eq, mx]; omega)
    refine ⟨r, ?_, a, b⟩
    rw [← e]
    exact sqrt_form fx nx (by rw [mx]; decide) 57 _ (-55) (by rw [ml, px]; decide) rfl (by rw [px]; decide)
  · have mx : mag x = 2 ^ 52 + x % 2 ^ 52 := by unfold mag; rw [if_neg (by omega)]
    have px : plc x = 1022 := by unfold plc; omega
    have ml : (mag x).log2 = 52 := by
      have m0 : mag x ≠ 0 := by omega
      have h3 : 2 ^ 52 ≤ mag x := by omega
      have h4 : mag x < 2 ^ 53 := by omega
      have a1 := (Nat.le_log2 m0).2 h3
      have a2 := (Nat.log2_lt m0).2 h4
      omega
    obtain ⟨r, e, a, b⟩ := key (mag x <<< 56) (by rw [Nat.shiftLeft_eq, mx]; omega) (by rw [Nat.shiftLeft_eq, mx]; omega)
    refine ⟨r, ?_, a, b⟩
    rw [← e]
    exact sqrt_form fx nx (by omega) 56 _ (-55) (by rw [ml, px]; decide) rfl (by rw [px]; decide)
end Go.Proofs.Ytmeccjlopmjneaa.Fl
/- Worlds that agree below: 'w.ext x' is x where x is w with at most new blocks, else w; so a contract may hand back a world of which only this is known, and the walk reads old cells through it. -/
namespace Go
open Go.RowKit

/-- w' is w with at most new blocks and draws. -/
def Blw (w w' : World) : Prop := Below w.heap.size w w'

open Classical in
noncomputable def World.ext (w x : World) : World := if Blw w x then x else w

theorem Blw.refl (w : World) : Blw w w := Below.refl _ _
theorem Blw.size {w w' : World} (h : Blw w w') : w.heap.size ≤ w'.heap.size := Below.size h
theorem Blw.trans {a b c : World} (h : Blw a b) (k : Blw b c) : Blw a c := Below.trans h (Below.mono k h.size)
theorem Blw.alloc {a w : World} (h : Blw a w) (o : Obj) : Blw a (w.alloc o) := Below.alloc h h.size o
theorem Blw.drew {a w : World} (h : Blw a w) : Blw a w.drew := Below.drew h
theorem Blw.drewN {a w : World} (h : Blw a w) (n : Nat) : Blw a (w.drewN n) := (show Below a.heap.size a w from h).trans ⟨rfl, rfl, rfl, Nat.le_refl _, fun _ _ => rfl⟩
theorem Blw.setCell {a w : World} (h : Blw a w) (p : Addr) (u : Value) (hp : a.heap.size ≤ p.block) : Blw a (w.setCell p u) := Below.setCell h hp u
theorem World.blw_ext (w x : World) : Blw w (w.ext x) := by
  unfold World.ext; split
  · assumption
  · exact Blw.refl _
theorem World.ext_of {w w' : World} (h : Blw w w') : w.ext w' = w' := by unfold World.ext; rw [if_pos h]
theorem Blw.ext {a w : World} (h : Blw a w) (x : World) : Blw a (w.ext x) := h.trans (World.blw_ext w x)
theorem Blw.is {w w' : World} (h : Blw w w') : ∃ x, w' = w.ext x := ⟨w', (World.ext_of h).symm⟩

theorem World.le_ext (w x : World) : w.heap.size ≤ (w.ext x).heap.size := (w.blw_ext x).size
theorem World.heap_ext (w x : World) (b : Nat) (h : b < w.heap.size) : (w.ext x).heap[b]? = w.heap[b]? := Below.block (w.blw_ext x) b h
@[simp, go_sem] theorem World.cell?_ext (w x : World) (b o : Nat) (s : Option Nat) (h : b < w.heap.size) : (w.ext x).cell? ⟨b, o, s⟩ = w.cell? ⟨b, o, s⟩ := Below.cell (w.blw_ext x) h
@[simp, go_sem] theorem World.frozen?_ext (w x : World) (b o : Nat) (s : Option Nat) (h : b < w.heap.size) : (w.ext x).frozen? ⟨b, o, s⟩ = w.frozen? ⟨b, o, s⟩ := Below.frozen (w.blw_ext x) h
@[simp, go_sem] theorem World.lt_ext (w x : World) (b : Nat) (h : b < w.heap.size) : b < (w.ext x).heap.size := Nat.lt_of_lt_of_le h (w.le_ext x)

/-- A region that draws its order, of operations and calls that yield the same values whatever new blocks there are: one walk. -/
theorem wp_region_ext_lit {P : Program} {id : Nat} {Q : Exit → Act → World → Prop} {a : Act} {w : World} {l : List Oper} (hm : P.follows .mixedOrders = true) (hB : Region.lexB .any l.toArray = true)
    (h : wpQuiet P l.toArray (fun w' => ∃ x, w' = w.ext x) (fun a' => ∀ w', (∃ x, w' = w.ext x) → Q .normal a' w') l a) : (Code.region id l.toArray true).wp P Q a w :=
  wp_region_quiet (C := fun w' => ∃ x, w' = w.ext x) hm hB ((Blw.refl w).drew.is) (by simpa using h)

theorem Calls.ext_of {P : Program} {f : FuncId} {args : Array Value} {w y : World} {v : Value}
    (h : Calls P f args (w.ext y) fun e w' => e = .returned v ∧ ∃ x, w' = (w.ext y).ext x) : Calls P f args (w.ext y) fun e w'' => e = .returned v ∧ ∃ x, w'' = w.ext x :=
  h.mono fun _ _ ⟨he, x, hx⟩ => ⟨he, by rw [hx]; exact (((Blw.refl w).ext y).ext x).is⟩
theorem Calls.ext_same {P : Program} {f : FuncId} {args : Array Value} {w y : World} {v : Value}
    (h : Calls P f args (w.ext y) fun e w' => e = .returned v ∧ w' = w.ext y) : Calls P f args (w.ext y) fun e w'' => e = .returned v ∧ ∃ x, w'' = w.ext x :=
  h.mono fun _ _ ⟨he, hx⟩ => ⟨he, by rw [hx]; exact ⟨y, rfl⟩⟩

end Go
/- Slices that are read: what lies behind a slice's address, as a list of cells. -/
namespace Go
open Go.RowKit

/-- Behind the address lie these cells (where there are none, the address may be nil). -/
def Arr (w : World) (a : Option Addr) (cs : List Value) : Prop :=
  cs = [] ∨ ∃ b o, a = some ⟨b, o, none⟩ ∧ b < w.heap.size ∧ ∀ i, i < cs.length → w.cell? ⟨b, o + i, none⟩ = cs[i]?

theorem Arr.nil (w : World) (a : Option Addr) : Arr w a [] := .inl rfl
theorem Arr.blw {w w' : World} {a : Option Addr} {cs : List Value} (h : Arr w a cs) (k : Blw w w') : Arr w' a cs := by
  rcases h with h | ⟨b, o, e, hb, hc⟩
  · exact .inl h
  · exact .inr ⟨b, o, e, Nat.lt_of_lt_of_le hb k.size, fun i hi => by rw [← hc i hi]; exact Below.cell k hb⟩
theorem Arr.ext {w : World} {a : Option Addr} {cs : List Value} (h : Arr w a cs) (x : World) : Arr (w.ext x) a cs := h.blw (w.blw_ext x)
theorem Arr.drewN {w : World} {a : Option Addr} {cs : List Value} (h : Arr w a cs) (n : Nat) : Arr (w.drewN n) a cs := h
theorem Arr.drew {w : World} {a : Option Addr} {cs : List Value} (h : Arr w a cs) : Arr w.drew a cs := h
theorem Arr.alloc {w : World} {a : Option Addr} {cs : List Value} (h : Arr w a cs) (o : Obj) : Arr (w.alloc o) a cs := h.blw ((Blw.refl w).alloc o)
/-- A part of it, from the begin on. -/
theorem Arr.pre {w : World} {a : Option Addr} {cs ds : List Value} (h : Arr w a cs) (k : ds <+: cs) : Arr w a ds := by
  rcases h with h | ⟨b, o, e, hb, hc⟩
  · subst h; exact .inl (List.prefix_nil.1 k)
  · obtain ⟨t, rfl⟩ := k
    exact .inr ⟨b, o, e, hb, fun i hi => by rw [hc i (by simp; omega), List.getElem?_append_left hi]⟩
/-- One cell. -/
theorem Arr.at {w : World} {a : Option Addr} {cs : List Value} (h : Arr w a cs) {i : Nat} (hi : i < cs.length) :
    ∃ b o, a = some ⟨b, o, none⟩ ∧ b < w.heap.size ∧ w.cell? ⟨b, o + i, none⟩ = some cs[i] := by
  rcases h with h | ⟨b, o, e, hb, hc⟩
  · subst h; exact absurd hi (by simp)
  · exact ⟨b, o, e, hb, by rw [hc i hi, List.getElem?_eq_getElem hi]⟩

/-- The element at a place, of a list of one-cell elements. -/
theorem Arr.elem {α : Type} {f : α → Value} {w : World} {a : Option Addr} {l : List α} (h : Arr w a (l.map f)) {k : Nat} (hk : k < l.length) :
    ∃ x b o, Hid (l.drop k = x :: l.drop (k + 1)) ∧ x ∈ l ∧ Hid (l[k]? = some x) ∧ a = some ⟨b, o, none⟩ ∧ b < w.heap.size ∧ w.cell? ⟨b, o + k, none⟩ = some (f x) := by
  obtain ⟨b, o, e, hb, hc⟩ := h.at (i := k) (by simpa using hk)
  exact ⟨l[k], b, o, List.drop_eq_getElem_cons hk, List.getElem_mem hk, by show l[k]? = some l[k]; rw [List.getElem?_eq_getElem hk], e, hb, by rw [hc]; simp⟩

end Go
/- Slices that a call makes itself: append, make and stores, as laws for the walk in worlds that agree below. -/
namespace Go
open Go.RowKit

/-- The rows of the tables on a slice type t of elements e: zero value, cells, bytes. -/
structure SlT (P : Program) (t e : TypeId) (z : Value) (size bytes : Nat) : Prop where
  under : P.underlying t = some (.slice e)
  info : (P.info? e).map (fun i => (i.zero, i.size, i.bytes)) = some (some z, size, bytes)
  cells : z.cells.size = size
  pos : 0 < size

theorem Blw.grown {w0 w w' : World} (h : Blw w0 w) {row : Option Nat} (hg : w.grownBy w' row) (hr : ∀ k, row = some k → w0.heap.size ≤ k) : Blw w0 w' :=
  Below.grown h hg h.size hr

theorem ownsRow_blw {w w' : World} {B : Nat} {e : TypeId} {size n : Nat} {v : Value} {cs : List Value} (h : w.ownsRow B e size v n cs) (k : Blw w w') : w'.ownsRow B e size v n cs := by
  obtain ⟨h1, h2⟩ := h
  refine ⟨h1, ?_⟩
  rcases h2 with h2 | ⟨g, cap, cur, hv, hg, hh, r⟩
  · exact .inl h2
  · refine .inr ⟨g, cap, cur, hv, hg, ?_, r⟩
    rw [Below.block k g (Array.getElem?_eq_some_iff.1 hh).1]; exact hh
theorem ownsRow_mono {w : World} {B B' : Nat} {e : TypeId} {size n : Nat} {v : Value} {cs : List Value} (h : w.ownsRow B e size v n cs) (k : B' ≤ B) : w.ownsRow B' e size v n cs := by
  obtain ⟨h1, h2⟩ := h
  refine ⟨h1, ?_⟩
  rcases h2 with h2 | ⟨g, cap, cur, hv, hg, hh, r⟩
  · exact .inl h2
  · exact .inr ⟨g, cap, cur, hv, by omega, hh, r⟩
/-- What is owned may be read. -/
theorem own_arr {w : World} {B : Nat} {e : TypeId} {size n : Nat} {v : Value} {cs : List Value} (h : w.ownsRow B e size v n cs) :
    ∃ a c, v = .slice a n c ∧ Arr w a cs ∧ cs.length = n * size ∧ n ≤ c ∧ c ≤ maxLen ∧ (a = none → n = 0 ∧ c = 0) := by
  obtain ⟨h1, h2⟩ := h
  rcases h2 with ⟨rfl, rfl⟩ | ⟨g, cap, cur, rfl, hg, hh, hn, hm, hs, ht⟩
  · have : cs = [] := List.eq_nil_of_length_eq_zero (by omega)
    exact ⟨none, 0, rfl, .inl this, h1, Nat.le_refl _, Nat.zero_le _, fun _ => ⟨rfl, rfl⟩⟩
  · refine ⟨some ⟨g, 0, none⟩, cap, rfl, .inr ⟨g, 0, rfl, (Array.getElem?_eq_some_iff.1 hh).1, fun i hi => ?_⟩, h1, hn, hm, fun h => by cases h⟩
    have e : w.cell? ⟨g, 0 + i, none⟩ = cur[i]? := by simp [World.cell?, hh]
    rw [e, ← ht, List.getElem?_take, if_pos (by omega)]
    simp

theorem own_cap {w : World} {B : Nat} {e : TypeId} {size n c : Nat} {a : Option Addr} {cs : List Value} (h : w.ownsRow B e size (.slice a n c) n cs) : n ≤ c := by
  obtain ⟨_, _, e, _, _, hc, _⟩ := own_arr h
  cases e; exact hc

theorem Arr.lit (w : World) (cs : Array Value) (t : TypeId) (fr : Nat × Nat) : Arr (w.alloc (.cells cs t fr)) (some ⟨w.heap.size, 0, none⟩) cs.toList := by
  refine .inr ⟨w.heap.size, 0, rfl, by simp, fun i hi => ?_⟩
  have e : (w.alloc (.cells cs t fr)).heap[w.heap.size]? = some (.cells cs t fr) := heap_alloc_new w _
  show (match (w.alloc (.cells cs t fr)).heap[w.heap.size]? with | some (.cells c _ _) => if (none : Option Nat).isSome then none else c[0 + i]? | _ => none) = _
  rw [e]; simp

section
variable {P : Program} {ops : Array Oper} {rest : List Oper} {o : Oper} {a : Act} {Q : Exit → Act → World → Prop}

/-- 'append(s, x...)', s the call's own, x anything that can be read. -/
theorem wpList_app (w0 w : World) (hgd : o.guard = none) (s x : Operand) (t : TypeId) (ho : o.op = .call { callee := .builtin .append, args := #[s, x], argTypes := #[t, t] })
    {e : TypeId} {z : Value} {size bytes : Nat} (hT : SlT P t e z size bytes) (hb : Blw w0 w) (v : Value) (n : Nat) (xs : List Value) (hs : a.eval s = v) (hown : w.ownsRow w0.heap.size e size v n xs)
    (ad : Option Addr) (m c : Nat) (news : List Value) (hx : a.eval x = .slice ad m c) (hn : ad = none → c = 0) (hr : Arr w ad news) (hl : news.length = m * size) (h1 : ∀ u ∈ news, u.oneCell' = true)
    (h63 : n + m ≤ maxLen) (hbytes : (n + m) * bytes ≤ 140737488355328)
    (h : ∀ v' w', w'.ownsRow w0.heap.size e size v' (n + m) (xs ++ news) → Blw w0 w' → w.grownBy w' v.ownBlock → (v' = .slice none 0 0 ↔ v = .slice none 0 0 ∧ m = 0) → wpList P ops Q rest (a.put o.dst v') w') : wpList P ops Q (o :: rest) a w := by
  obtain ⟨i, hi, hz0, hz1, hz2⟩ := info_parts hT.info
  have hpos := hT.pos
  cases ad with
  | none =>
    have hnews : news = [] := by
      rcases hr with h | ⟨b, o, e, _⟩
      · exact h
      · cases e
    have hm : m = 0 := by
      rcases Nat.eq_zero_or_pos m with h | h
      · exact h
      · have := Nat.mul_pos h hpos; rw [hnews] at hl; simp at hl; omega
    subst hnews hm
    have hc := hn rfl
    subst hc
    refine wpList_append_own_none hgd s x t ho w0.heap.size e i size hT.under hi v n xs hs hown hx ?_
    have := h v w (by simpa using hown) hb (World.grownBy.refl _ _) (by simp)
    simpa using this
  | some ad =>
    refine wpList_append_own (w := w) hgd s x t ho w0.heap.size e i z size bytes hT.under hi hz0 hz1 hz2 hT.cells hpos v n xs hs hown ad m c news hx hl ?_ h1 h63 hbytes hb.size ?_
    · intro j u hj
      rcases hr with h | ⟨b, o, e, hbs, hc⟩
      · subst h; simp at hj
      · cases e
        have hjl : j < news.length := by rw [List.getElem?_eq_some_iff] at hj; exact hj.1
        have := hc j hjl
        rw [hj] at this
        have ea : (⟨b, o, none⟩ : Addr).add j = ⟨b, o + j, none⟩ := by unfold Addr.add; split <;> simp_all
        rw [ea]; exact this
    · intro v' w' g1 g2 g3
      exact h v' w' g1 (hb.grown g2 (fun k hk => (World.ownsRow.lt hown k hk).1)) g2 g3
end
end Go
/- What a call writes: all blocks but those of a set are as they were. -/
namespace Go
open Go.RowKit

structure KeptO (O : Nat → Prop) (w w' : World) : Prop where
  os : w'.os = w.os
  tape : w'.tape = w.tape
  output : w'.output = w.output
  size : w.heap.size ≤ w'.heap.size
  block : ∀ k, k < w.heap.size → ¬ O k → w'.heap[k]? = w.heap[k]?

section
variable {O : Nat → Prop} {w a : World}
theorem KeptO.refl (w : World) : KeptO O w w := ⟨rfl, rfl, rfl, Nat.le_refl _, fun _ _ _ => rfl⟩
theorem KeptO.trans {b c : World} (h : KeptO O a b) (k : KeptO O b c) : KeptO O a c :=
  ⟨k.os.trans h.os, k.tape.trans h.tape, k.output.trans h.output, Nat.le_trans h.size k.size, fun i hi ho => (k.block i (Nat.lt_of_lt_of_le hi h.size) ho).trans (h.block i hi ho)⟩
theorem KeptO.mono {O' : Nat → Prop} {b : World} (h : KeptO O a b) (k : ∀ i, i < a.heap.size → O i → O' i) : KeptO O' a b := ⟨h.os, h.tape, h.output, h.size, fun i hi ho => h.block i hi (fun x => ho (k i hi x))⟩
theorem KeptO.of_blw {b : World} (h : Blw a b) : KeptO O a b := ⟨Below.os h, Below.tape h, Below.output h, Below.size h, fun k hk _ => Below.block h k hk⟩
theorem KeptO.blw {w0 b : World} (h0 : Blw w0 a) (h : KeptO O a b) (k : ∀ i, O i → w0.heap.size ≤ i) : Blw w0 b :=
  ⟨h.os.trans (Below.os h0), h.tape.trans (Below.tape h0), h.output.trans (Below.output h0), Nat.le_trans (Below.size h0) h.size,
    fun i hi => (h.block i (Nat.lt_of_lt_of_le hi (Below.size h0)) (fun x => by have := k i x; omega)).trans (Below.block h0 i hi)⟩
theorem KeptO.alloc (h : KeptO O a w) (o : Obj) : KeptO O a (w.alloc o) := ⟨h.os, h.tape, h.output, by have := h.size; simp; omega, fun k hk ho => (Below.heap_alloc w o k (Nat.lt_of_lt_of_le hk h.size)).trans (h.block k hk ho)⟩
theorem KeptO.drewN (h : KeptO O a w) (n : Nat) : KeptO O a (w.drewN n) := ⟨h.os, h.tape, h.output, h.size, h.block⟩
theorem KeptO.drew (h : KeptO O a w) : KeptO O a w.drew := ⟨h.os, h.tape, h.output, h.size, h.block⟩
theorem KeptO.ext (h : KeptO O a w) (x : World) : KeptO O a (w.ext x) :=
  have k := w.blw_ext x
  ⟨(Below.os k).trans h.os, (Below.tape k).trans h.tape, (Below.output k).trans h.output, Nat.le_trans h.size (Below.size k), fun i hi ho => (Below.block k i (Nat.lt_of_lt_of_le hi h.size)).trans (h.block i hi ho)⟩
theorem KeptO.setCell (h : KeptO O a w) (p : Addr) (u : Value) (hp : O p.block ∨ a.heap.size ≤ p.block) : KeptO O a (w.setCell p u) :=
  ⟨h.os, h.tape, h.output, by have := h.size; simp [World.setCell]; exact this, fun k hk ho => (Below.heap_setCell w p u k (fun e => by subst e; rcases hp with hp | hp; exact ho hp; omega)).trans (h.block k hk ho)⟩
theorem KeptO.grown {w' : World} (h : KeptO O a w) {row : Option Nat} (hg : w.grownBy w' row) (hr : ∀ k, row = some k → O k ∨ a.heap.size ≤ k) : KeptO O a w' :=
  ⟨hg.os.trans h.os, hg.tape.trans h.tape, hg.output.trans h.output, Nat.le_trans h.size hg.size, fun k hk ho => (hg.block k (Nat.lt_of_lt_of_le hk h.size) (fun e => by rcases hr k e.symm with x | x; exact ho x; omega)).trans (h.block k hk ho)⟩
theorem KeptO.heap {b : World} (h : KeptO O a b) {k : Nat} {x : Obj} (hk : a.heap[k]? = some x) (ho : ¬ O k) : b.heap[k]? = some x := by
  rw [h.block k (Array.getElem?_eq_some_iff.1 hk).1 ho]; exact hk
theorem KeptO.own {b : World} (h : KeptO O a b) {B : Nat} {e : TypeId} {size n : Nat} {v : Value} {cs : List Value} (hw : a.ownsRow B e size v n cs) (ho : ∀ k, v.ownBlock = some k → ¬ O k) : b.ownsRow B e size v n cs := by
  obtain ⟨h1, h2⟩ := hw
  refine ⟨h1, ?_⟩
  rcases h2 with h2 | ⟨g, cap, cur, hv, hg, hh, r⟩
  · exact .inl h2
  · subst hv; exact .inr ⟨g, cap, cur, rfl, hg, h.heap hh (ho g rfl), r⟩
theorem KeptO.arr {b : World} (h : KeptO O a b) {p : Option Addr} {cs : List Value} (hw : Arr a p cs) (ho : ∀ q, p = some q → ¬ O q.block) : Arr b p cs := by
  rcases hw with h1 | ⟨c, o, e, hb, hc⟩
  · exact .inl h1
  · subst e
    exact .inr ⟨c, o, rfl, Nat.lt_of_lt_of_le hb h.size, fun i hi => by rw [← hc i hi]; exact World.cell?_of_block (h.block c hb (ho _ rfl))⟩
end

/-- A block, carried on. -/
theorem at_alloc {w : World} {g : Nat} {x : Obj} (o : Obj) (h : w.heap[g]? = some x) : (w.alloc o).heap[g]? = some x := by
  rw [Below.heap_alloc w o g (Array.getElem?_eq_some_iff.1 h).1]; exact h
theorem at_drewN {w : World} {g : Nat} {x : Obj} (n : Nat) (h : w.heap[g]? = some x) : (w.drewN n).heap[g]? = some x := h
theorem at_drew {w : World} {g : Nat} {x : Obj} (h : w.heap[g]? = some x) : w.drew.heap[g]? = some x := h
theorem at_ext {w : World} {g : Nat} {x : Obj} (y : World) (h : w.heap[g]? = some x) : (w.ext y).heap[g]? = some x := by
  rw [w.heap_ext y g (Array.getElem?_eq_some_iff.1 h).1]; exact h
theorem at_set {w : World} {g : Nat} {cs : Array Value} {t : TypeId} (i : Nat) (v : Value) (h : w.heap[g]? = some (.cells cs t (0, 0))) : (w.setCell ⟨g, i, none⟩ v).heap[g]? = some (.cells (cs.setIfInBounds i v) t (0, 0)) :=
  heap_setCell_same w g i cs t v h
theorem at_far {w : World} {g b i : Nat} {x : Obj} (v : Value) (hne : g ≠ b) (h : w.heap[g]? = some x) : (w.setCell ⟨b, i, none⟩ v).heap[g]? = some x := by
  rw [Below.heap_setCell w _ v g hne]; exact h
theorem at_grown {w w' : World} {g : Nat} {x : Obj} {row : Option Nat} (hg : w.grownBy w' row) (hne : some g ≠ row) (h : w.heap[g]? = some x) : w'.heap[g]? = some x := by
  rw [hg.block g (Array.getElem?_eq_some_iff.1 h).1 hne]; exact h
end Go
/- Lists of plain elements as cells. -/
namespace Go.Proofs.Ytmeccjlopmjneaa
open Go.RowKit
abbrev flt (l : List Nat) : List Value := l.map (Value.float .f64)
abbrev u64s (l : List Nat) : List Value := l.map (fun n : Nat => Value.int .u64 n)
abbrev u32s (l : List Nat) : List Value := l.map (fun n : Nat => Value.int .u32 n)
abbrev i64s (l : List Int) : List Value := l.map (fun n : Int => Value.int .i64 n)
/-- A slice of the call's own that holds these cells, handed back. -/
def RetOwn (w : World) (T size n : Nat) (cs : List Value) (e : Ending) (w' : World) : Prop :=
  ∃ (a : Option Addr) (c : Nat) (x : World), e = .returned (.slice a n c) ∧ w' = w.ext x ∧ (w.ext x).ownsRow w.heap.size T size (.slice a n c) n cs ∧ Arr (w.ext x) a cs ∧ (a = none → c = 0)
theorem RetOwn.of {w w' : World} {T size n : Nat} {cs : List Value} {v : Value} (h : w'.ownsRow w.heap.size T size v n cs) (k : Blw w w') : RetOwn w T size n cs (.returned v) w' := by
  obtain ⟨a, c, rfl, ha, _, _, _, hn⟩ := own_arr h
  obtain ⟨x, rfl⟩ := k.is
  exact ⟨a, c, x, rfl, rfl, h, ha, fun h => (hn h).2⟩

theorem ex_hid {α : Type} (a : α) : ∃ x, Hid (a = x) := ⟨a, by unfold Hid; rfl⟩
end Go.Proofs.Ytmeccjlopmjneaa
/- Facts on this translation's types: equality of small structs; how they are built. -/
namespace Go.Proofs.Ytmeccjlopmjneaa
open Go.RowKit

set_option maxRecDepth 100000 in
@[go_sem] theorem eqFault (a b c d : Int) (w : World) : (Op.equalIn 10000 106 (.agg #[.int .i64 a, .int .i64 b]) (.agg #[.int .i64 c, .int .i64 d])).run Try.prog w = .ok (a == c && b == d) w := by
  have hS : Try.prog.underlying 106 = some (.struct (Try.prog.fieldsOf 106)) := by kernel_rfl
  have hp : Try.prog.stoodInHeld 106 = false := by kernel_rfl
  rw [show (10000 : Nat) = 9999 + 1 from rfl, run_equalIn_agg w 9999 106 _ _ hS hp]
  simp only [Program.fieldsOf, Try.underlying106]
  go_simp
  by_cases h1 : a = c <;> by_cases h2 : b = d <;> simp [h1, h2]
@[go_sem] theorem eqNilWords (w : World) (a : Option Addr) (n c : Nat) : (binOp .eql 32 (.slice a n c) (.slice none 0 0)).run Try.prog w = .ok (.bool a.isNone) w := Lib.run_eql_slice_nil w _ _ a n c 0 0 Try.underlying32
end Go.Proofs.Ytmeccjlopmjneaa
/- Natural numbers as words of 32 bits, the lowest first: plain arithmetic, no program. -/
namespace Go.Proofs.Ytmeccjlopmjneaa.W

/-- The number that words stand for. -/
def val : List Nat → Nat
  | [] => 0
  | x :: l => x + 4294967296 * val l
def WF (l : List Nat) : Prop := ∀ x ∈ l, x < 4294967296
/-- The words of a number, without noughts at the end. -/
def toW (n : Nat) : List Nat := if h : n = 0 then [] else n % 4294967296 :: toW (n / 4294967296)
termination_by n
decreasing_by omega
/-- No nought at the end. -/
def Nrm (l : List Nat) : Prop := l.getLast? ≠ some 0
abbrev pw (k : Nat) : Nat := 4294967296 ^ k

theorem WF.nil : WF [] := by simp [WF]
theorem WF.cons {x : Nat} {l : List Nat} (hx : x < 4294967296) (h : WF l) : WF (x :: l) := by
  intro y hy
  rcases List.mem_cons.1 hy with rfl | hy
  · exact hx
  · exact h y hy
theorem WF.head {x : Nat} {l : List Nat} (h : WF (x :: l)) : x < 4294967296 := h x List.mem_cons_self
theorem WF.tail {x : Nat} {l : List Nat} (h : WF (x :: l)) : WF l := fun y hy => h y (List.mem_cons_of_mem _ hy)
theorem WF.take {l : List Nat} (h : WF l) (k : Nat) : WF (l.take k) := fun x hx => h x (List.mem_of_mem_take hx)
theorem WF.drop {l : List Nat} (h : WF l) (k : Nat) : WF (l.drop k) := fun x hx => h x (List.mem_of_mem_drop hx)
theorem WF.app {a b : List Nat} (h : WF a) (k : WF b) : WF (a ++ b) := fun x hx => by
  rcases List.mem_append.1 hx with hx | hx
  · exact h x hx
  · exact k x hx
theorem WF.left {a b : List Nat} (h : WF (a ++ b)) : WF a := fun x hx => h x (List.mem_append_left _ hx)
theorem WF.right {a b : List Nat} (h : WF (a ++ b)) : WF b := fun x hx => h x (List.mem_append_right _ hx)
theorem WF.set {l : List Nat} (h : WF l) (i : Nat) {v : Nat} (hv : v < 4294967296) : WF (l.set i v) := fun x hx => by
  rcases List.mem_or_eq_of_mem_set hx with hx | rfl
  · exact h x hx
  · exact hv
theorem WF.rep (k : Nat) : WF (List.replicate k 0) := fun x hx => by rw [List.eq_of_mem_replicate hx]; decide
theorem WF.at {l : List Nat} (h : WF l) {i x : Nat} (hi : l[i]? = some x) : x < 4294967296 := h x (List.mem_of_getElem? hi)

theorem val_app (a b : List Nat) : val (a ++ b) = val a + pw a.length * val b := by
  induction a with
  | nil => simp [val]
  | cons x a ih => simp only [List.cons_append, val, ih, List.length_cons, pw, Nat.pow_succ]; rw [Nat.mul_add, Nat.mul_comm (4294967296 ^ a.length) 4294967296, Nat.mul_assoc]; omega
theorem val_rep (k : Nat) : val (List.replicate k 0) = 0 := by
  induction k with
  | zero => rfl
  | succ k ih => simp [List.replicate_succ, val, ih]
theorem val_snoc (a : List Nat) (x : Nat) : val (a ++ [x]) = val a + pw a.length * x := by rw [val_app]; simp [val]
theorem pw_pos (k : Nat) : 0 < pw k := Nat.pow_pos (by decide)
theorem pw_succ (k : Nat) : pw (k + 1) = 4294967296 * pw k := by simp only [pw, Nat.pow_succ, Nat.mul_comm]
theorem val_lt {l : List Nat} (h : WF l) : val l < pw l.length := by
  induction l with
  | nil => simp [val, pw]
  | cons x l ih =>
    have h1 := ih h.tail
    have h2 := h.head
    simp only [val, List.length_cons, pw_succ]
    omega
theorem val_split (l : List Nat) (k : Nat) (hk : k ≤ l.length) : val l = val (l.take k) + pw k * val (l.drop k) := by
  have e : l.take k ++ l.drop k = l := List.take_append_drop k l
  have hl : (l.take k).length = k := by simp; omega
  calc val l = val (l.take k ++ l.drop k) := by rw [e]
    _ = _ := by rw [val_app, hl]
theorem val_take_succ {l : List Nat} {k x : Nat} (h : l[k]? = some x) : val (l.take (k + 1)) = val (l.take k) + pw k * x := by
  have hk : k < l.length := (List.getElem?_eq_some_iff.1 h).1
  rw [List.take_add_one, h, Option.toList_some, val_snoc]
  rw [List.length_take, Nat.min_eq_left (by omega)]

theorem toW_zero : toW 0 = [] := by unfold toW; rfl
theorem toW_pos {n : Nat} (h : n ≠ 0) : toW n = n % 4294967296 :: toW (n / 4294967296) := by rw [toW, dif_neg h]
theorem val_toW (n : Nat) : val (toW n) = n := by
  induction n using Nat.strongRecOn with
  | ind n ih =>
    by_cases h : n = 0
    · subst h; rw [toW_zero]; rfl
    · rw [toW_pos h, val, ih (n / 4294967296) (by omega)]; omega
theorem wf_toW (n : Nat) : WF (toW n) := by
  induction n using Nat.strongRecOn with
  | ind n ih =>
    by_cases h : n = 0
    · subst h; rw [toW_zero]; exact WF.nil
    · rw [toW_pos h]; exact WF.cons (by omega) (ih (n / 4294967296) (by omega))
theorem toW_ne {n : Nat} (h : n ≠ 0) : toW n ≠ [] := by rw [toW_pos h]; simp
theorem toW_nil {n : Nat} : toW n = [] ↔ n = 0 := ⟨fun h => by rcases Nat.eq_zero_or_pos n with e | e; exact e; exact absurd h (toW_ne (by omega)), fun h => by rw [h, toW_zero]⟩
theorem nrm_toW (n : Nat) : Nrm (toW n) := by
  induction n using Nat.strongRecOn with
  | ind n ih =>
    by_cases h : n = 0
    · subst h; rw [toW_zero]; simp [Nrm]
    · rw [toW_pos h]
      by_cases h2 : n / 4294967296 = 0
      · rw [h2, toW_zero]; simp [Nrm]; omega
      · have := ih (n / 4294967296) (by omega)
        unfold Nrm at *
        cases e : toW (n / 4294967296) with
        | nil => exact absurd e (toW_ne h2)
        | cons y t => rw [e] at this; rw [List.getLast?_cons_cons]; exact this
theorem nrm_nil : Nrm [] := by simp [Nrm]
theorem nrm_tail {x : Nat} {l : List Nat} (h : Nrm (x :: l)) : Nrm l := by
  cases l with
  | nil => exact nrm_nil
  | cons y l => unfold Nrm at *; rw [List.getLast?_cons_cons] at h; exact h
theorem val_pos {l : List Nat} (h : Nrm l) (hne : l ≠ []) : 0 < val l := by
  induction l with
  | nil => exact absurd rfl hne
  | cons x l ih =>
    rw [val]
    cases l with
    | nil => simp [Nrm] at h; simp [val]; omega
    | cons y l => have := ih (nrm_tail h) (by simp); omega
/-- The one form. -/
theorem toW_val {l : List Nat} (hw : WF l) (h : Nrm l) : toW (val l) = l := by
  induction l with
  | nil => exact toW_zero
  | cons x l ih =>
    have hp := val_pos h (by simp)
    have hx := hw.head
    rw [toW_pos (by omega)]
    have e1 : val (x :: l) % 4294967296 = x := by rw [val]; omega
    have e2 : val (x :: l) / 4294967296 = val l := by rw [val]; omega
    rw [e1, e2, ih hw.tail (nrm_tail h)]
theorem val_inj {a b : List Nat} (ha : WF a) (na : Nrm a) (hb : WF b) (nb : Nrm b) (h : val a = val b) : a = b := by
  rw [← toW_val ha na, ← toW_val hb nb, h]
theorem toW_app_zeros {l : List Nat} (hw : WF l) : ∃ z, l = toW (val l) ++ List.replicate z 0 := by
  induction l with
  | nil => exact ⟨0, by simp [val, toW_zero]⟩
  | cons x l ih =>
    obtain ⟨z, e⟩ := ih hw.tail
    have hx := hw.head
    by_cases h : val (x :: l) = 0
    · rw [h, toW_zero]
      have h1 : x = 0 := by rw [val] at h; omega
      have h2 : val l = 0 := by rw [val] at h; omega
      rw [h2, toW_zero] at e
      exact ⟨z + 1, by rw [h1, e]; simp [List.replicate_succ]⟩
    · refine ⟨z, ?_⟩
      rw [toW_pos h]
      have e1 : val (x :: l) % 4294967296 = x := by rw [val]; omega
      have e2 : val (x :: l) / 4294967296 = val l := by rw [val]; omega
      rw [e1, e2]
      conv => lhs; rw [e]
      simp
theorem toW_pre {l : List Nat} (hw : WF l) : toW (val l) <+: l := by
  obtain ⟨z, e⟩ := toW_app_zeros hw
  exact ⟨_, e.symm⟩
theorem toW_len_le {l : List Nat} (hw : WF l) : (toW (val l)).length ≤ l.length := (toW_pre hw).length_le
theorem toW_take {l : List Nat} (hw : WF l) : l.take (toW (val l)).length = toW (val l) := (List.prefix_iff_eq_take.1 (toW_pre hw)).symm
/-- A prefix with no nought at its end and the same number is the one form. -/
theorem toW_eq_take {l : List Nat} (hw : WF l) {n : Nat} (hn : n ≤ l.length) (hv : val (l.take n) = val l) (hz : n = 0 ∨ l[n - 1]? ≠ some 0) : toW (val l) = l.take n := by
  rw [← hv]
  refine toW_val (hw.take n) ?_
  rcases hz with rfl | hz
  · simp [Nrm]
  · unfold Nrm
    rw [List.getLast?_take]
    by_cases h0 : n = 0
    · simp [h0]
    · rw [if_neg h0]
      have : n - 1 < l.length := by omega
      rw [List.getElem?_eq_getElem this] at hz ⊢
      simpa using hz
theorem len_toW_le {n k : Nat} : (toW n).length ≤ k ↔ n < pw k := by
  constructor
  · intro h
    have h1 := val_lt (wf_toW n)
    rw [val_toW] at h1
    exact Nat.lt_of_lt_of_le h1 (Nat.pow_le_pow_right (by decide) h)
  · intro h
    rcases Nat.lt_or_ge k (toW n).length with hlt | hge
    · exfalso
      have hne : n ≠ 0 := by intro e; rw [e, toW_zero] at hlt; simp at hlt
      -- the words from place k on are not all nought
      have h1 := val_split (toW n) k (by omega)
      rw [val_toW] at h1
      have h2 : 0 < val ((toW n).drop k) := by
        refine val_pos ?_ (by intro e; have := congrArg List.length e; simp at this; omega)
        have := nrm_toW n
        unfold Nrm at *
        rw [List.getLast?_drop]
        rw [if_neg (by omega)]; exact this
      have : pw k ≤ pw k * val ((toW n).drop k) := Nat.le_mul_of_pos_right _ h2
      omega
    · exact hge

theorem val_set {l : List Nat} {j x : Nat} (v : Nat) (h : l[j]? = some x) : val (l.set j v) + pw j * x = val l + pw j * v := by
  induction l generalizing j with
  | nil => simp at h
  | cons a l ih =>
    cases j with
    | zero => simp at h; subst h; simp [val, pw]; omega
    | succ j =>
      simp only [List.getElem?_cons_succ] at h
      have := ih h
      simp only [List.set_cons_succ, val, pw_succ]
      rw [Nat.mul_assoc, Nat.mul_assoc]
      omega
theorem take_set {l : List Nat} (N j v : Nat) : (l.set j v).take N = (l.take N).set j v := List.take_set ..
theorem val_take_set {l : List Nat} {N j x : Nat} (v : Nat) (hj : j < N) (h : l[j]? = some x) : val ((l.set j v).take N) + pw j * x = val (l.take N) + pw j * v := by
  rw [take_set]
  exact val_set v (by rw [List.getElem?_take, if_pos hj]; exact h)
theorem val_take_set_end {l : List Nat} {j : Nat} (v : Nat) (hj : j < l.length) : val ((l.set j v).take (j + 1)) = val (l.take j) + pw j * v := by
  rw [val_take_succ (x := v) (by simp [hj]), List.take_set_of_le (Nat.le_refl _)]
/-- A step of a sum by words. -/
theorem step_val {A A' P old v t c c' s : Nat} (h1 : A' + P * old = A + P * v) (h2 : t = c + s + old) (h3 : t = v + 4294967296 * c') : A' + (4294967296 * P) * c' = A + P * c + P * s := by
  have e1 : P * t = P * c + P * s + P * old := by rw [h2, Nat.mul_add, Nat.mul_add]
  have e2 : P * t = P * v + P * (4294967296 * c') := by rw [h3, Nat.mul_add]
  have e3 : (4294967296 * P) * c' = P * (4294967296 * c') := by rw [Nat.mul_comm 4294967296 P, Nat.mul_assoc]
  omega
theorem pw_add (a b : Nat) : pw (a + b) = pw a * pw b := Nat.pow_add ..
theorem mul_words {x y : Nat} (hx : x < 4294967296) (hy : y < 4294967296) : x * y ≤ 18446744065119617025 := Nat.mul_le_mul (Nat.le_of_lt_succ hx) (Nat.le_of_lt_succ hy)

theorem mul_step {A A' i j x y z c v c' t B V : Nat} (h1 : A' + pw (i + j) * z = A + pw (i + j) * v) (ht : t = c + (x * y + z)) (hv : t = v + 4294967296 * c') (h : A + pw (i + j) * c = B + pw i * (x * V)) :
    A' + pw (i + (j + 1)) * c' = B + pw i * (x * (V + pw j * y)) := by
  have e := step_val (t := t) (c := c) (s := x * y) h1 (by omega) hv
  rw [← Nat.add_assoc, pw_succ, e, h, Nat.mul_add, Nat.mul_add, Nat.add_assoc, pw_add]
  congr 2
  rw [Nat.mul_assoc, Nat.mul_left_comm x (pw j) y]

/-- -1, 0, 1. -/
def cmpN (x y : Nat) : Int := if x < y then -1 else if y < x then 1 else 0
theorem cmpN_lt {x y : Nat} (h : x < y) : cmpN x y = -1 := by unfold cmpN; rw [if_pos h]
theorem cmpN_gt {x y : Nat} (h : y < x) : cmpN x y = 1 := by unfold cmpN; rw [if_neg (by omega), if_pos h]
theorem cmpN_eq (x : Nat) : cmpN x x = 0 := by unfold cmpN; rw [if_neg (by omega), if_neg (by omega)]
theorem val_lt_len {a b : List Nat} (ha : WF a) (nb : Nrm b) (h : a.length < b.length) : val a < val b := by
  have h1 := val_lt ha
  have h2 := val_split b a.length (by omega)
  have h3 : 0 < val (b.drop a.length) := by
    refine val_pos ?_ (by intro e; have := congrArg List.length e; simp at this; omega)
    unfold Nrm at *
    rw [List.getLast?_drop, if_neg (by omega)]; exact nb
  have : pw a.length ≤ pw a.length * val (b.drop a.length) := Nat.le_mul_of_pos_right _ h3
  omega
theorem val_lt_at {a b : List Nat} (ha : WF a) {i x y : Nat} (hx : a[i]? = some x) (hy : b[i]? = some y) (hd : val (a.drop (i + 1)) = val (b.drop (i + 1))) (h : x < y) : val a < val b := by
  have la : i < a.length := (List.getElem?_eq_some_iff.1 hx).1
  have lb : i < b.length := (List.getElem?_eq_some_iff.1 hy).1
  have h1 := val_split a (i + 1) (by omega)
  have h2 := val_split b (i + 1) (by omega)
  rw [val_take_succ hx] at h1
  rw [val_take_succ hy] at h2
  have h3 := val_lt (ha.take i)
  have h4 : (a.take i).length = i := by simp; omega
  rw [h4] at h3
  rw [h1, h2, hd]
  have h5 : pw i * (x + 1) ≤ pw i * y := Nat.mul_le_mul_left _ h
  rw [Nat.mul_add, Nat.mul_one] at h5
  omega
end Go.Proofs.Ytmeccjlopmjneaa.W
/- Walks of package nat: the looks at words, cut, copies, order. -/
namespace Go.Proofs.Ytmeccjlopmjneaa
open Go.RowKit

theorem ret_i64 {a b : Int} (h : a = b) : Ending.returned (.int .i64 a) = .returned (.int .i64 b) := by rw [h]
def chk (l : List Nat) : Int := if 8192 < l.length then 3 else if l.getLast? = some 0 then 11 else 0
theorem u32s_len (l : List Nat) : (u32s l).length = l.length := by simp
theorem sl_words : SlT Try.prog 32 44 (.int .u32 0) 1 4 := ⟨Try.underlying32, by kernel_rfl, by kernel_rfl, by decide⟩
theorem u32s_one (l : List Nat) : ∀ u ∈ u32s l, u.oneCell' = true := by simp [Value.oneCell']

set_option maxHeartbeats 400000 in
theorem natCheck_any (a : Option Addr) (l : List Nat) (cap : Nat) (w : World) (h : Arr w a (u32s l)) (hl : l.length ≤ 9223372036854775807) :
    Calls Try.prog 120 #[.slice a l.length cap] w fun e w' => e = .returned (.int .i64 (chk l)) ∧ w' = w := by
  by_cases h1 : 8192 < l.length
  · go_enter Try.func120, Try.ntmps120
    go_wp2
    go_ret
    exact ⟨ret_i64 (by unfold chk; rw [if_pos h1]), rfl⟩
  · by_cases h2 : 0 < l.length
    · obtain ⟨x, b, o, -, -, hx, rfl, hb, hc⟩ := h.elem (k := l.length - 1) (by omega)
      have hlast : Hid (l.getLast? = some x) := by show l.getLast? = some x; rw [List.getLast?_eq_getElem?]; exact hx.out
      by_cases h3 : x = 0
      all_goals
        go_enter Try.func120, Try.ntmps120
        go_wp2
        go_ret
        exact ⟨ret_i64 (by unfold chk; rw [if_neg h1, hlast.out]; simp [h3]), rfl⟩
    · go_enter Try.func120, Try.ntmps120
      go_wp2
      go_ret
      have : l = [] := List.eq_nil_of_length_eq_zero (by omega)
      exact ⟨ret_i64 (by subst this; rfl), rfl⟩

set_option maxHeartbeats 400000 in
theorem natChecked_any (a b : Option Addr) (l m : List Nat) (c d : Nat) (w : World) (h : Arr w a (u32s l)) (k : Arr w b (u32s m)) (hl : l.length ≤ 9223372036854775807) (hm : m.length ≤ 9223372036854775807) :
    Calls Try.prog 155 #[.slice a l.length c, .slice b m.length d] w fun e w' => e = .returned (.int .i64 (if chk l = 0 then chk m else chk l)) ∧ w' = w := by
  by_cases h1 : chk l = 0
  · go_enter Try.func155, Try.ntmps155
    go_wp2_with fail
    refine Calls.mono (natCheck_any a l c w h hl) ?_
    rintro e w' ⟨rfl, rfl⟩
    go_wp2_with (go_at_call 120; refine Calls.mono (natCheck_any b m d _ k hm) ?_; rintro e w' ⟨rfl, rfl⟩)
    go_ret
    exact ⟨ret_i64 (by first | rfl | rw [if_pos h1]), rfl⟩
  · go_enter Try.func155, Try.ntmps155
    go_wp2_with fail
    refine Calls.mono (natCheck_any a l c w h hl) ?_
    rintro e w' ⟨rfl, rfl⟩
    go_wp2
    go_ret
    exact ⟨ret_i64 (by first | rfl | rw [if_neg h1]), rfl⟩

set_option maxHeartbeats 400000 in
theorem natCut_any (a : Option Addr) (l : List Nat) (cap : Nat) (w : World) (h : Arr w a (u32s l)) (hc : l.length ≤ cap) (hl : cap ≤ 9223372036854775807) (hw : W.WF l) :
    Calls Try.prog 157 #[.slice a l.length cap] w fun e w' => e = .returned (.slice a (W.toW (W.val l)).length cap) ∧ w' = w := by
  go_enter Try.func157, Try.ntmps157
  go_wp2
  go_loop [3] (fun i => ∃ k : Nat, k ≤ l.length ∧ i = .int .i64 k ∧ Hid (W.val (l.take k) = W.val l)) (fun i => (intOf i).toNat)
  case atStart => exact ⟨l.length, Nat.le_refl _, rfl, by show W.val (l.take l.length) = W.val l; rw [List.take_length]⟩
  case round =>
    obtain ⟨k, hk, rfl, hv⟩ := hrel
    by_cases h0 : 0 < k
    · obtain ⟨x, b, o, -, -, hx, rfl, hb, hcl⟩ := h.elem (k := k - 1) (by omega)
      by_cases h3 : x = 0
      · subst h3
        go_wp2
        go_round
        case rel => exact ⟨k - 1, by omega, by go_num, by
          show W.val (l.take (k - 1)) = W.val l
          have := W.val_take_succ hx.out
          rw [Nat.sub_add_cancel h0, hv.out] at this
          omega⟩
        case measure => (first | (simp [intOf]; done) | (simp [intOf]; omega))
      · go_wp2
        go_ret
        have e := W.toW_eq_take hw hk hv.out (.inr (by rw [hx.out]; simpa using h3))
        exact ⟨by rw [e]; simp [Nat.min_eq_left hk], rfl⟩
    · have : k = 0 := by omega
      subst this
      go_wp2
      go_ret
      have e := W.toW_eq_take hw hk hv.out (.inl rfl)
      exact ⟨by rw [e]; simp, rfl⟩

set_option maxHeartbeats 400000 in
theorem cloneWords_any (a : Option Addr) (l : List Nat) (cap : Nat) (w : World) (h : Arr w a (u32s l)) (hn : a = none → l.length = 0 ∧ cap = 0) (hlen : l.length ≤ 1099511627776) :
    Calls Try.prog 160 #[.slice a l.length cap] w (RetOwn w 44 1 l.length (u32s l)) := by
  cases a with
  | none =>
    obtain ⟨h0, rfl⟩ := hn rfl
    have : l = [] := List.eq_nil_of_length_eq_zero h0
    subst this
    clear h hn h0 hlen
    go_enter Try.func160, Try.ntmps160
    go_wp2
    go_ret
    exact RetOwn.of (World.ownsRow_nil _ _ _ _) (Blw.refl w)
  | some q =>
    have hown : (w.alloc (.cells #[] 44)).ownsRow w.heap.size 44 1 (.slice (some ⟨w.heap.size, 0, none⟩) 0 0) 0 [] := World.ownsRow_made w #[] 0 (Nat.le_refl _) (Nat.zero_le _) rfl
    clear hn
    go_enter Try.func160, Try.ntmps160
    go_wp2_with (at_builtin; refine wpList_app w _ rfl _ _ 32 rfl sl_words ((Blw.refl w).alloc _) _ 0 [] rfl hown (some q) l.length cap (u32s l) rfl (fun h => by cases h) (h.alloc _) (by simp) (u32s_one l) (by unfold maxLen; omega) (by omega) ?_; intro v' w1 hown1 hb1 _ _)
    go_ret
    exact RetOwn.of (by simpa using hown1) hb1

theorem arr_pre {w : World} {a : Option Addr} {l m : List Nat} (h : Arr w a (u32s l)) (k : m <+: l) : Arr w a (u32s m) := h.pre (k.map _)

set_option maxHeartbeats 400000 in
theorem natTrim_any (a : Option Addr) (l : List Nat) (cap : Nat) (w : World) (h : Arr w a (u32s l)) (hn : a = none → cap = 0) (hc : l.length ≤ cap) (hl : cap ≤ 9223372036854775807) (hll : l.length ≤ 1099511627776) (hw : W.WF l) :
    Calls Try.prog 164 #[.slice a l.length cap] w (RetOwn w 44 1 (W.toW (W.val l)).length (u32s (W.toW (W.val l)))) := by
  have hp := W.toW_pre hw
  have hle := W.toW_len_le hw
  go_enter Try.func164, Try.ntmps164
  go_wp2_with fail
  refine Calls.mono (natCut_any a l cap w h hc (by omega) hw) ?_
  rintro e w' ⟨rfl, rfl⟩
  go_wp2_with (go_at_call 160; refine Calls.mono (cloneWords_any a (W.toW (W.val l)) cap _ (arr_pre h hp) (fun h => by have := hn h; omega) (by omega)) ?_; rintro e w1 ⟨a1, c1, x1, rfl, rfl, r1, r2, r3⟩)
  go_ret
  exact ⟨a1, c1, x1, rfl, rfl, r1, r2, r3⟩

theorem natCut_is (a : Option Addr) (l p : List Nat) (cap : Nat) (w : World) (h : Arr w a (u32s l)) (hc : l.length ≤ cap) (hl : cap ≤ 9223372036854775807) (hw : W.WF l) (hp : Hid (W.toW (W.val l) = p)) :
    Calls Try.prog 157 #[.slice a l.length cap] w fun e w' => e = .returned (.slice a p.length cap) ∧ w' = w := by
  rw [← hp.out]; exact natCut_any a l cap w h hc hl hw
/-- Words cut: the one form, under a name. -/
theorem cut_name {w : World} {a : Option Addr} {l : List Nat} (h : Arr w a (u32s l)) (hw : W.WF l) : ∃ p, Hid (W.toW (W.val l) = p) ∧ Hid (W.val l = W.val p) ∧ W.WF p ∧ W.Nrm p ∧ Arr w a (u32s p) ∧ p.length ≤ l.length :=
  ⟨_, (by unfold Hid; rfl), (by unfold Hid; rw [W.val_toW]), W.wf_toW _, W.nrm_toW _, arr_pre h (W.toW_pre hw), W.toW_len_le hw⟩

set_option maxHeartbeats 1000000 in
theorem natCompare_any (a b : Option Addr) (l m : List Nat) (c d : Nat) (w : World) (h : Arr w a (u32s l)) (k : Arr w b (u32s m)) (hc : l.length ≤ c) (hd : m.length ≤ d) (hl : c ≤ 9223372036854775807) (hm : d ≤ 9223372036854775807) (wl : W.WF l) (wm : W.WF m) :
    Calls Try.prog 117 #[.slice a l.length c, .slice b m.length d] w fun e w' => e = .returned (.int .i64 (W.cmpN (W.val l) (W.val m))) ∧ ∃ x, w' = w.ext x := by
  obtain ⟨p, hp, vp, fl, nl, h2, ll⟩ := cut_name h wl
  obtain ⟨q, hq, vq, fm, nm, k2, lm⟩ := cut_name k wm
  rw [vp.out, vq.out]
  go_enter Try.func117, Try.ntmps117
  go_wp2_with fail
  refine Calls.mono (natCut_is a l p c w h hc (by omega) wl hp) ?_
  rintro e w' ⟨rfl, rfl⟩
  go_wp2_with fail
  refine Calls.mono (natCut_is b m q d _ k hd (by omega) wm hq) ?_
  rintro e w' ⟨rfl, rfl⟩
  have p31 : p.length ≤ 9223372036854775807 := by omega
  have q31 : q.length ≤ 9223372036854775807 := by omega
  clear hp vp hq vq h k hc hd wl wm
  by_cases hlen : p.length = q.length
  · have HE := Lib.hid hlen
    have e1 : ((p.length : Int) != (q.length : Int)) = false := by rw [hlen]; simp
    clear hlen
    go_wp2_with fail
    clear e1
    go_loopw [5] (fun i wr => ∃ (k : Nat) (x : World), k ≤ p.length ∧ i = .int .i64 ((k : Int) - 1) ∧ Hid (W.val (p.drop k) = W.val (q.drop k)) ∧ wr = w'.ext x) (fun i _ => (intOf i + 1).toNat)
    case atStart => exact ⟨p.length, w', Nat.le_refl _, rfl, by show W.val _ = W.val _; rw [List.drop_length, HE.out, List.drop_length], (World.ext_of (Blw.refl w')).symm⟩
    case round =>
      obtain ⟨k, wx, hk, rfl, hv, rfl⟩ := hrel
      by_cases h0 : 0 < k
      · obtain ⟨j, rfl⟩ : ∃ j, k = j + 1 := ⟨k - 1, by omega⟩
        have ej : (((j + 1 : Nat) : Int) - 1) = (j : Int) := by omega
        rw [ej]
        clear ej
        have hjq : j < q.length := by have := HE.out; omega
        obtain ⟨x, b1, o1, hdx, -, hx, rfl, hb1, hc1⟩ := h2.elem (k := j) (by omega)
        obtain ⟨y, b2, o2, hdy, -, hy, rfl, hb2, hc2⟩ := k2.elem (k := j) hjq
        have i0 : (0 : Int) ≤ (j : Int) := by omega
        have i1 : (j : Int) < (p.length : Int) := by omega
        have i2 : (j : Int) < (q.length : Int) := by omega
        clear h0
        by_cases hxy : x < y
        · go_wp2_with fail
          go_quiet (fail)
          go_wp2
          go_ret
          exact ⟨ret_i64 (by rw [W.cmpN_lt (W.val_lt_at fl hx.out hy.out hv.out hxy)]), Blw.is (by repeat (first | exact Blw.refl _ | apply Blw.ext | apply Blw.alloc | apply Blw.drewN | apply Blw.drew | refine Blw.setCell ?_ _ _ (by simp)))⟩
        · by_cases hyx : y < x
          · go_wp2_with fail
            go_quiet (fail)
            go_wp2_with fail
            go_quiet (fail)
            go_wp2
            go_ret
            exact ⟨ret_i64 (by rw [W.cmpN_gt (W.val_lt_at fm hy.out hx.out hv.out.symm hyx)]), Blw.is (by repeat (first | exact Blw.refl _ | apply Blw.ext | apply Blw.alloc | apply Blw.drewN | apply Blw.drew | refine Blw.setCell ?_ _ _ (by simp)))⟩
          · go_wp2_with fail
            go_quiet (fail)
            go_wp2_with fail
            go_quiet (fail)
            go_wp2_with fail
            go_roundw
            case rel => exact ⟨j, _, by omega, by go_num, by
              show W.val _ = W.val _
              rw [hdx.out, hdy.out, W.val, W.val, hv.out, show x = y by omega], (World.ext_of (by repeat (first | exact Blw.refl _ | apply Blw.ext | apply Blw.alloc | apply Blw.drewN | apply Blw.drew | refine Blw.setCell ?_ _ _ (by simp)))).symm⟩
            case measure => (first | (simp [intOf]; done) | (simp [intOf]; omega))
      · have : k = 0 := by omega
        subst this
        have e0 : (((0 : Nat) : Int) - 1) = -1 := by omega
        rw [e0]
        clear h0
        go_wp2_with fail
        go_ret
        exact ⟨ret_i64 (by have := hv.out; simp only [List.drop_zero] at this; rw [this, W.cmpN_eq]), Blw.is (by repeat (first | exact Blw.refl _ | apply Blw.ext | apply Blw.alloc | apply Blw.drewN | apply Blw.drew | refine Blw.setCell ?_ _ _ (by simp)))⟩
  · by_cases hlt : p.length < q.length
    · go_wp2
      go_ret
      exact ⟨ret_i64 (by rw [W.cmpN_lt (W.val_lt_len fl nm hlt)]), Blw.is (by repeat (first | exact Blw.refl _ | apply Blw.ext | apply Blw.alloc | apply Blw.drewN | apply Blw.drew | refine Blw.setCell ?_ _ _ (by simp)))⟩
    · go_wp2
      go_ret
      exact ⟨ret_i64 (by rw [W.cmpN_gt (W.val_lt_len fm nl (by omega))]), Blw.is (by repeat (first | exact Blw.refl _ | apply Blw.ext | apply Blw.alloc | apply Blw.drewN | apply Blw.drew | refine Blw.setCell ?_ _ _ (by simp)))⟩
end Go.Proofs.Ytmeccjlopmjneaa
/- Walks of bits.Len32, bits.LeadingZeros32. -/
namespace Go.Proofs.Ytmeccjlopmjneaa
open Go.RowKit

set_option maxRecDepth 100000 in
theorem len8tab_size : (Lib.len8tab.size : Int) = 256 := by
  have : Lib.len8tab.size = 256 := by decide
  omega
theorem wrap_add (k a b : Nat) (hk : k ≤ 56) (ha : a ≤ 8) (hb : b = k + a) : RowKit.wrap64 ((k : Int) + RowKit.wrap64 (a : Int)) = (b : Int) := by
  unfold RowKit.wrap64
  omega
theorem wrap_wrap (a : Nat) (ha : a ≤ 8) : RowKit.wrap64 (RowKit.wrap64 (a : Int)) = (a : Int) := by
  unfold RowKit.wrap64
  omega
theorem wrap_one (a : Nat) (ha : a ≤ 8) : RowKit.wrap64 (a : Int) = (a : Int) := by
  unfold RowKit.wrap64
  omega
theorem len8_get (y : Int) (h : y.toNat < Lib.len8tab.size) : ((Lib.len8tab[y.toNat]'h).toNat : Int) = Lib.len8 y := by
  unfold Lib.len8
  rw [getElem?_pos Lib.len8tab y.toNat h]
  rfl

set_option maxHeartbeats 4000000 in
set_option maxRecDepth 100000 in
theorem len32_any (x : Int) (w : World) (h0 : 0 ≤ x) (h1 : x ≤ 4294967295) :
    Calls Try.prog 168 #[.int .u32 x] w fun e w' => e = .returned (.int .i64 (Lib.bitLen x.toNat)) ∧ w' = w := by
  go_enter Try.func168, Try.ntmps168
  go_wp2
  all_goals first
    | (go_ret; refine ⟨congrArg Ending.returned (congrArg (Value.int IntKind.i64) ?_), rfl⟩; go_light)
    | (exfalso
       go_light
       have hs := len8tab_size
       omega)
  all_goals first
    | (rw [len8_get (x / 65536 / 256) _, Lib.len8_of (x / 65536 / 256) (by omega) (by omega)]
       have e : (x / 65536 / 256).toNat = x.toNat / 16777216 := by omega
       have l := Lib.bitLen_le8' (x / 65536 / 256) (by omega) (by omega)
       have s := Lib.bitLen_shift24 x.toNat (by omega) (by omega)
       rw [e] at l ⊢
       exact wrap_add 24 _ _ (by decide) l s)
    | (rw [len8_get (x / 65536) _, Lib.len8_of (x / 65536) (by omega) (by omega)]
       have e : (x / 65536).toNat = x.toNat / 65536 := by omega
       have l := Lib.bitLen_le8' (x / 65536) (by omega) (by omega)
       have s := Lib.bitLen_shift16 x.toNat (by omega) (by omega)
       rw [e] at l ⊢
       exact wrap_add 16 _ _ (by decide) l s)
    | (rw [len8_get (x / 256) _, Lib.len8_of (x / 256) (by omega) (by omega)]
       have e : (x / 256).toNat = x.toNat / 256 := by omega
       have l := Lib.bitLen_le8' (x / 256) (by omega) (by omega)
       have s := Lib.bitLen_shift8 x.toNat (by omega) (by omega)
       rw [e] at l ⊢
       exact wrap_add 8 _ _ (by decide) l s)
    | (rw [len8_get (x) _, Lib.len8_of (x) (by omega) (by omega)]
       have l := Lib.bitLen_le8' (x) (by omega) (by omega)
       first | exact wrap_wrap _ l | exact wrap_add 0 _ _ (by decide) l (by omega) | exact wrap_one _ l)

theorem bitLen_le32 (x : Int) (h0 : 0 ≤ x) (h1 : x ≤ 4294967295) : Lib.bitLen x.toNat ≤ 32 := Lib.bitLen_le x.toNat 32 (by omega) (by omega)
theorem lead32_any (x : Int) (w : World) (h0 : 0 ≤ x) (h1 : x ≤ 4294967295) :
    Calls Try.prog 172 #[.int .u32 x] w fun e w' => e = .returned (.int .i64 (32 - Lib.bitLen x.toNat)) ∧ w' = w := by
  have hb := bitLen_le32 x h0 h1
  go_enter Try.func172, Try.ntmps172
  go_wp2_with (go_at_call 168; refine (len32_any x _ h0 h1).mono ?_; rintro e w' ⟨rfl, rfl⟩)
  go_ret
  refine ⟨congrArg Ending.returned (congrArg (Value.int IntKind.i64) ?_), rfl⟩
  first | rfl | omega | (go_light; omega)
end Go.Proofs.Ytmeccjlopmjneaa
/- Bits of a number: plain arithmetic. -/
namespace Go.Proofs.Ytmeccjlopmjneaa.W

/-- How many bits. -/
def bl (n : Nat) : Nat := if n = 0 then 0 else bl (n / 2) + 1
termination_by n
decreasing_by omega
theorem bl_zero : bl 0 = 0 := by unfold bl; rfl
theorem bl_pos {n : Nat} (h : n ≠ 0) : bl n = bl (n / 2) + 1 := by rw [bl, if_neg h]
theorem bl_le {n k : Nat} : bl n ≤ k ↔ n < 2 ^ k := by
  induction k generalizing n with
  | zero =>
    constructor
    · intro h
      by_cases hn : n = 0
      · simp [hn]
      · rw [bl_pos hn] at h; omega
    · intro h
      have : n = 0 := by simpa using h
      rw [this, bl_zero]; exact Nat.le_refl _
  | succ k ih =>
    by_cases hn : n = 0
    · subst hn; have := Nat.two_pow_pos (k + 1); simp [bl_zero, this]
    · rw [bl_pos hn, Nat.pow_succ]
      have := @ih (n / 2)
      omega
theorem bl_lt_pow (n : Nat) : n < 2 ^ bl n := bl_le.1 (Nat.le_refl _)
theorem bl_ge {n : Nat} (h : n ≠ 0) : 2 ^ (bl n - 1) ≤ n := by
  rcases Nat.lt_or_ge n (2 ^ (bl n - 1)) with h1 | h1
  · have := bl_le.2 h1
    have : bl n ≠ 0 := by rw [bl_pos h]; omega
    omega
  · exact h1
theorem bl_is {n k : Nat} (h1 : 2 ^ k ≤ n) (h2 : n < 2 ^ (k + 1)) : bl n = k + 1 := by
  have a := bl_le.2 h2
  rcases Nat.lt_or_ge k (bl n) with h | h
  · omega
  · have := bl_le.1 h; omega
theorem bl_mul {n k : Nat} (h : n ≠ 0) : bl (n * 2 ^ k) = bl n + k := by
  have h1 := bl_ge h
  have h2 := bl_lt_pow n
  have h3 : bl n ≠ 0 := by rw [bl_pos h]; omega
  have hp : 0 < 2 ^ k := Nat.two_pow_pos k
  have e : bl n + k = (bl n - 1 + k) + 1 := by omega
  rw [e]
  refine bl_is ?_ ?_
  · rw [Nat.pow_add]; exact Nat.mul_le_mul_right _ h1
  · rw [show bl n - 1 + k + 1 = bl n + k by omega, Nat.pow_add]; exact Nat.mul_lt_mul_of_pos_right h2 hp
theorem pw_two (k : Nat) : pw k = 2 ^ (32 * k) := by
  show (4294967296 : Nat) ^ k = _
  rw [show (4294967296 : Nat) = 2 ^ 32 by decide, ← Nat.pow_mul]
/-- A number's bits by its first word. -/
theorem bl_words {l : List Nat} (hw : WF l) {x : Nat} (hx : l.getLast? = some x) (h0 : x ≠ 0) : bl (val l) = 32 * (l.length - 1) + bl x := by
  have hl : 0 < l.length := by cases l with | nil => simp at hx | cons => simp
  have h1 := bl_ge h0
  have h2 := bl_lt_pow x
  have h3 : bl x ≠ 0 := by rw [bl_pos h0]; omega
  rw [List.getLast?_eq_getElem?] at hx
  have e := val_take_succ hx
  rw [Nat.sub_add_cancel hl, List.take_length] at e
  have h4 := val_lt (hw.take (l.length - 1))
  have h5 : (l.take (l.length - 1)).length = l.length - 1 := by simp
  rw [h5] at h4
  have e2 : 32 * (l.length - 1) + bl x = (32 * (l.length - 1) + (bl x - 1)) + 1 := by omega
  rw [e2]
  rw [e]
  have h6 : pw (l.length - 1) * (x + 1) ≤ pw (l.length - 1) * 2 ^ bl x := Nat.mul_le_mul_left _ h2
  rw [Nat.mul_add, Nat.mul_one] at h6
  refine bl_is ?_ ?_
  · rw [Nat.pow_add, ← pw_two]
    exact Nat.le_trans (Nat.mul_le_mul_left _ h1) (Nat.le_add_left _ _)
  · rw [show 32 * (l.length - 1) + (bl x - 1) + 1 = 32 * (l.length - 1) + bl x by omega, Nat.pow_add, ← pw_two]
    omega
theorem bl_aux : ∀ (f n : Nat), n < 2 ^ f → Lib.bitLenAux f n = bl n
  | 0, n, h => by
    have : n = 0 := by simpa using h
    rw [this, bl_zero]; rfl
  | f + 1, n, h => by
    unfold Lib.bitLenAux
    by_cases hn : n = 0
    · rw [if_pos hn, hn, bl_zero]
    · rw [if_neg hn, bl_pos hn, bl_aux f (n / 2) (by rw [Nat.pow_succ] at h; omega), Nat.add_comm]
theorem bitLen_bl {n : Nat} (h : n < 4294967296) : Lib.bitLen n = bl n := bl_aux 64 n (Nat.lt_trans h (by decide))
theorem bl_le32 {n : Nat} (h : n < 4294967296) : bl n ≤ 32 := bl_le.2 h
end Go.Proofs.Ytmeccjlopmjneaa.W
/- Walks of package nat: bits, one and two words, what is told. -/
namespace Go.Proofs.Ytmeccjlopmjneaa
open Go.RowKit

set_option maxHeartbeats 1000000 in
theorem natBits_any (a : Option Addr) (l : List Nat) (cap : Nat) (w : World) (h : Arr w a (u32s l)) (hc : l.length ≤ cap) (hl : cap ≤ 9223372036854775807) (hll : l.length ≤ 1099511627776) (hw : W.WF l) :
    Calls Try.prog 153 #[.slice a l.length cap] w fun e w' => e = .returned (.int .i64 (W.bl (W.val l))) ∧ w' = w := by
  obtain ⟨p, hp, vp, fl, nl, h2, ll⟩ := cut_name h hw
  rw [vp.out]
  go_enter Try.func153, Try.ntmps153
  go_wp2_with fail
  refine Calls.mono (natCut_is a l p cap w h hc (by omega) hw hp) ?_
  rintro e w' ⟨rfl, rfl⟩
  have p31 : p.length ≤ 1099511627776 := by omega
  clear hp vp h hc hw
  by_cases h0 : 0 < p.length
  · obtain ⟨x, b, o, -, -, hx, rfl, hb, hcl⟩ := h2.elem (k := p.length - 1) (by omega)
    have hlast : p.getLast? = some x := by rw [List.getLast?_eq_getElem?]; exact hx.out
    have hx0 : x ≠ 0 := fun e => nl (by rw [hlast, e])
    have hxl : x < 4294967296 := fl.at hx.out
    have hb := W.bl_words fl hlast hx0
    have hbx := W.bl_le32 hxl
    have HB := Lib.hid hb
    clear hb hlast nl fl
    have e0 : ((p.length : Int) == 0) = false := beq_false_of_ne (by omega)
    go_wp2_with (go_at_call 168; refine (len32_any x _ (by omega) (by omega)).mono ?_; rintro e w' ⟨rfl, rfl⟩)
    go_ret
    refine ⟨ret_i64 ?_, rfl⟩
    rw [HB.out]
    simp only [W.bitLen_bl hxl]
    go_light
    unfold wrap64
    omega
  · have : p = [] := List.eq_nil_of_length_eq_zero (by omega)
    subst this
    go_wp2
    go_ret
    exact ⟨ret_i64 (by simp [W.val, W.bl_zero]), rfl⟩

/-- A list of words of the call's own. -/
abbrev RetW (w : World) (n : Nat) (e : Ending) (w' : World) : Prop := RetOwn w 44 1 (W.toW n).length (u32s (W.toW n)) e w'

theorem u32s_two (x y : Nat) : u32s [x, y] = [.int .u32 x, .int .u32 y] := rfl
/-- An own list cut is an own list. -/
theorem own_cut {w : World} {B c : Nat} {a : Option Addr} {l : List Nat} (h : w.ownsRow B 44 1 (.slice a l.length c) l.length (u32s l)) (hw : W.WF l) :
    w.ownsRow B 44 1 (.slice a (W.toW (W.val l)).length c) (W.toW (W.val l)).length (u32s (W.toW (W.val l))) := by
  have ht := W.toW_take hw
  have hle := W.toW_len_le hw
  obtain ⟨h1, h2⟩ := h
  refine ⟨by simp, ?_⟩
  rcases h2 with ⟨h3, h4⟩ | ⟨g, cap, cur, hv, hg, hh, hn, hm, hs, ht2⟩
  · left
    injection h3 with h3 h5 h6
    subst h3
    have e : l = [] := List.eq_nil_of_length_eq_zero h4
    subst e
    simp [W.val, W.toW_zero]; exact h6
  · right
    injection hv with hv hv2 hv3
    subst hv hv3
    refine ⟨g, c, cur, rfl, hg, hh, by omega, hm, hs, ?_⟩
    have e : cur.toList.take ((W.toW (W.val l)).length * 1) = (u32s l).take (W.toW (W.val l)).length := by
      rw [← ht2, List.take_take]; congr 1; omega
    rw [e]
    exact List.map_take.symm.trans (congrArg (List.map _) ht)


theorem own_lit (w : World) (l : List Nat) (h : l.length ≤ maxLen) : (w.alloc (.cells (u32s l).toArray 44 (0, 0))).ownsRow w.heap.size 44 1 (.slice (some ⟨w.heap.size, 0, none⟩) l.length l.length) l.length (u32s l) :=
  ⟨by simp, .inr ⟨w.heap.size, l.length, _, rfl, Nat.le_refl _, heap_alloc_new w _, Nat.le_refl _, h, by simp, List.take_of_length_le (by simp)⟩⟩
theorem own_read {w : World} {B : Nat} {e : TypeId} {size n c : Nat} {a : Option Addr} {cs : List Value} (h : w.ownsRow B e size (.slice a n c) n cs) : Arr w a cs := by
  obtain ⟨_, _, e, k, _⟩ := own_arr h
  cases e; exact k

set_option maxHeartbeats 400000 in
theorem natOf_any (x : Nat) (w : World) (hx : x < 18446744073709551616) :
    Calls Try.prog 128 #[.int .u64 x] w (RetW w x) := by
  go_enter Try.func128, Try.ntmps128
  go_wp2_with fail
  obtain ⟨lo, hlo⟩ : ∃ lo, lo = x % 4294967296 := ⟨_, rfl⟩
  obtain ⟨hi, hhi⟩ : ∃ hi, hi = x / 4294967296 := ⟨_, rfl⟩
  have e1 : ((x : Int) % 4294967296) = (lo : Int) := by omega
  have e2 : ((x : Int) / 4294967296) = (hi : Int) := by omega
  have ev : Hid (W.val [lo, hi] = x) := by show W.val [lo, hi] = x; simp only [W.val]; omega
  have hwf : W.WF [lo, hi] := W.WF.cons (by omega) (W.WF.cons (by omega) W.WF.nil)
  rw [e1, e2]
  clear e1 e2 hlo hhi
  have ho := own_lit w [lo, hi] (show 2 ≤ maxLen by decide)
  have ho2 := own_cut ho hwf
  rw [ev.out] at ho2
  refine Calls.mono (natCut_any (some ⟨w.heap.size, 0, none⟩) [lo, hi] 2 _ (own_read ho) (show 2 ≤ 2 by decide) (by decide) hwf) ?_
  rintro e w' ⟨rfl, rfl⟩
  rw [ev.out]
  clear ev ho
  go_wp2
  go_ret
  exact RetOwn.of ho2 ((Blw.refl w).alloc _)

set_option maxHeartbeats 400000 in
theorem natTold_any (a : Option Addr) (l : List Nat) (cap : Nat) (w : World) (h : Arr w a (u32s l)) (hc : l.length ≤ cap) (hl : cap ≤ 9223372036854775807) (hll : l.length ≤ 1099511627776) (hw : W.WF l) :
    Calls Try.prog 162 #[.slice a l.length cap] w fun e w' =>
      e = .returned (if 8192 < (W.toW (W.val l)).length then .tuple #[.slice none 0 0, .int .i64 3] else .tuple #[.slice a (W.toW (W.val l)).length cap, .int .i64 0]) ∧ w' = w := by
  obtain ⟨p, hp, vp, fl, nl, h2, ll⟩ := cut_name h hw
  rw [hp.out]
  have p31 : p.length ≤ 1099511627776 := by omega
  by_cases h0 : 8192 < p.length
  · rw [if_pos h0]
    go_enter Try.func162, Try.ntmps162
    go_wp2_with fail
    refine Calls.mono (natCut_is a l p cap w h hc (by omega) hw hp) ?_
    rintro e w' ⟨rfl, rfl⟩
    go_wp2
    go_ret2
    exact ⟨rfl, rfl⟩
  · rw [if_neg h0]
    go_enter Try.func162, Try.ntmps162
    go_wp2_with fail
    refine Calls.mono (natCut_is a l p cap w h hc (by omega) hw hp) ?_
    rintro e w' ⟨rfl, rfl⟩
    go_wp2
    go_ret2
    exact ⟨rfl, rfl⟩

theorem val_u64 {a b : Nat} {i : Int} (h : i = (b : Int)) (k : a = b) : Value.int .u64 i = .int .u64 (a : Int) := by rw [h, k]
theorem or_nought (x : Nat) (h : x < 4294967296) : bits .or .u64 ((0 : Nat) : Int) (x : Int) = (x : Int) := by
  rw [(bits_nat .u64 64 (by decide) wraps_u64 0 x (by decide) (by omega)).2]; simp
theorem or_high (y x : Nat) (hy : y < 4294967296) (hx : x < 4294967296) : bits .or .u64 (y : Int) ((x : Int) * 4294967296) = ((y + 4294967296 * x : Nat) : Int) := by
  rw [u64_or32 _ _ (by omega) (by omega) (by omega) (by omega) (by omega)]; omega
set_option maxHeartbeats 1000000 in
theorem natUint64_any (a : Option Addr) (l : List Nat) (cap : Nat) (w : World) (h : Arr w a (u32s l)) (hc : l.length ≤ cap) (hl : cap ≤ 9223372036854775807) (hll : l.length ≤ 1099511627776) (hw : W.WF l) :
    Calls Try.prog 116 #[.slice a l.length cap] w fun e w' =>
      e = .returned (if 2 < (W.toW (W.val l)).length then .tuple #[.int .u64 0, .bool false] else .tuple #[.int .u64 (W.val l), .bool true]) ∧ w' = w := by
  obtain ⟨p, hp, vp, fl, nl, h2, ll⟩ := cut_name h hw
  rw [hp.out, vp.out]
  have p31 : p.length ≤ 1099511627776 := by omega
  by_cases h0 : 2 < p.length
  · rw [if_pos h0]
    go_enter Try.func116, Try.ntmps116
    go_wp2_with fail
    refine Calls.mono (natCut_is a l p cap w h hc (by omega) hw hp) ?_
    rintro e w' ⟨rfl, rfl⟩
    go_wp2
    go_ret2
    exact ⟨rfl, rfl⟩
  · rw [if_neg h0]
    go_enter Try.func116, Try.ntmps116
    go_wp2_with fail
    refine Calls.mono (natCut_is a l p cap w h hc (by omega) hw hp) ?_
    rintro e w' ⟨rfl, rfl⟩
    clear hp vp h hc hw
    go_wp2_with fail
    go_loop [4, 14] (fun x i => ∃ k : Nat, k ≤ p.length ∧ i = .int .i64 k ∧ x = .int .u64 (W.val (p.take k))) (fun _ i => (p.length - intOf i).toNat)
    case atStart => exact ⟨0, Nat.zero_le _, rfl, by simp [W.val]⟩
    case round =>
      obtain ⟨k, hk, rfl, rfl⟩ := hrel
      by_cases h3 : k < p.length
      · obtain ⟨x, b, o, -, -, hx, rfl, hb, hcl⟩ := h2.elem (k := k) h3
        have hv := Lib.hid (W.val_take_succ hx.out)
        have hxl := fl.at hx.out
        have hvt := Lib.hid (W.val_lt (fl.take k))
        have k2 : k = 0 ∨ k = 1 := by omega
        rcases k2 with rfl | rfl
        · simp only [Nat.add_zero] at hcl
          go_wp2
          go_round
          case rel => exact ⟨1, by omega, by go_num, val_u64 (or_nought x hxl) (by have := hv.out; simpa [W.val] using this)⟩
          case measure => (first | (simp [intOf]; done) | (simp [intOf]; omega))
        · go_wp2
          go_round
          case rel => exact ⟨2, by omega, by go_num, val_u64 (or_high (W.val (p.take 1)) x (by
            have := hvt.out
            rw [List.length_take, Nat.min_eq_left (by omega)] at this
            simpa using this) hxl) (by have := hv.out; simpa using this)⟩
          case measure => (first | (simp [intOf]; done) | (simp [intOf]; omega))
      · have : k = p.length := by omega
        subst this
        rw [show List.take p.length p = p from List.take_length]
        go_wp2
        go_ret2
        exact ⟨rfl, rfl⟩
end Go.Proofs.Ytmeccjlopmjneaa
/- A block of words that a call writes. -/
namespace Go.Proofs.Ytmeccjlopmjneaa
open Go.RowKit

/-- A block that holds words. -/
def Bk (w : World) (g : Nat) (l : List Nat) : Prop := w.heap[g]? = some (.cells (u32s l).toArray 44 (0, 0))

section
variable {w : World} {g : Nat} {l : List Nat}
theorem Bk.lt (h : Bk w g l) : g < w.heap.size := (Array.getElem?_eq_some_iff.1 h).1
theorem Bk.frozen (h : Bk w g l) (i : Nat) : w.frozen? ⟨g, i, none⟩ = false := frozen_of_row w g i _ _ h
theorem Bk.cell (h : Bk w g l) {k x : Nat} (hx : l[k]? = some x) : w.cell? ⟨g, k, none⟩ = some (.int .u32 x) := by
  unfold Bk at h
  simp [World.cell?, h, hx]
theorem Bk.elem (h : Bk w g l) {k : Nat} (hk : k < l.length) : ∃ x, Hid (l[k]? = some x) ∧ w.cell? ⟨g, k, none⟩ = some (.int .u32 x) ∧ w.frozen? ⟨g, k, none⟩ = false :=
  ⟨l[k], List.getElem?_eq_getElem hk, h.cell (List.getElem?_eq_getElem hk), h.frozen k⟩
theorem Bk.mk (h : w.heap[g]? = some (.cells (u32s l).toArray 44 (0, 0))) : Bk w g l := h
theorem Bk.alloc (h : Bk w g l) (o : Obj) : Bk (w.alloc o) g l := at_alloc o h
theorem Bk.drew (h : Bk w g l) : Bk w.drew g l := h
theorem Bk.drewN (h : Bk w g l) (n : Nat) : Bk (w.drewN n) g l := h
theorem Bk.ext (h : Bk w g l) (x : World) : Bk (w.ext x) g l := at_ext x h
theorem Bk.blw (h : Bk w g l) {w' : World} (k : Blw w w') : Bk w' g l := by
  unfold Bk; rw [Below.block k g h.lt]; exact h
theorem Bk.set (h : Bk w g l) (i : Nat) {v : Value} {n : Nat} (hv : v = .int .u32 (n : Int)) : Bk (w.setCell ⟨g, i, none⟩ v) g (l.set i n) := by
  have := at_set i v h
  unfold Bk
  rw [this, hv]
  congr 2
  apply Array.ext'
  simp [List.map_set]
theorem Bk.far (h : Bk w g l) {b : Nat} (i : Nat) (v : Value) (hne : g ≠ b) : Bk (w.setCell ⟨b, i, none⟩ v) g l := at_far v hne h
theorem Bk.keptO {O : Nat → Prop} {w' : World} (h : Bk w g l) (k : KeptO O w w') (ho : ¬ O g) : Bk w' g l := k.heap h ho
theorem Bk.arr (h : Bk w g l) : Arr w (some ⟨g, 0, none⟩) (u32s l) := .inr ⟨g, 0, rfl, h.lt, fun i hi => by
  have hi' : i < l.length := by simpa using hi
  rw [Nat.zero_add, h.cell (List.getElem?_eq_getElem hi')]; simp [hi']⟩
theorem Bk.part (h : Bk w g l) (o : Nat) {m : List Nat} (hm : m <+: l.drop o) : Arr w (some ⟨g, o, none⟩) (u32s m) := .inr ⟨g, o, rfl, h.lt, fun i hi => by
  have hi' : i < m.length := by simpa using hi
  obtain ⟨t, ht⟩ := hm
  have e : l[o + i]? = some m[i] := by rw [← List.getElem?_drop, ← ht, List.getElem?_append_left hi', List.getElem?_eq_getElem hi']
  rw [h.cell e]; simp [hi']⟩
theorem Bk.own (h : Bk w g l) {B : Nat} (hB : B ≤ g) (hl : l.length ≤ maxLen) : w.ownsRow B 44 1 (.slice (some ⟨g, 0, none⟩) l.length l.length) l.length (u32s l) :=
  ⟨by simp, .inr ⟨g, l.length, _, rfl, hB, h, Nat.le_refl _, hl, by simp, List.take_of_length_le (by simp)⟩⟩
end
theorem Bk.new (w : World) (l : List Nat) : Bk (w.alloc (.cells (u32s l).toArray 44 (0, 0))) w.heap.size l := heap_alloc_new w _
theorem made_words (n : Nat) : madeCells #[.int .u32 0] n = (u32s (List.replicate n 0)).toArray := by
  apply Array.ext'
  simp only [madeCells, Array.toList_map, Array.toList_range]
  apply List.ext_getElem
  · simp
  · intro i h1 h2
    simp [Nat.mod_one]

/-- A stretch of words in a block. -/
def Wn (w : World) (g : Nat) (pre : List Value) (l : List Nat) (post : List Value) : Prop := w.heap[g]? = some (.cells (pre ++ u32s l ++ post).toArray 44 (0, 0))
section
variable {w : World} {g : Nat} {pre post : List Value} {l : List Nat}
theorem Wn.lt (h : Wn w g pre l post) : g < w.heap.size := (Array.getElem?_eq_some_iff.1 h).1
theorem Wn.frozen (h : Wn w g pre l post) (i : Nat) : w.frozen? ⟨g, i, none⟩ = false := frozen_of_row w g i _ _ h
theorem Wn.cell (h : Wn w g pre l post) {k x : Nat} (hx : l[k]? = some x) : w.cell? ⟨g, pre.length + k, none⟩ = some (.int .u32 x) := by
  unfold Wn at h
  have hk : k < l.length := (List.getElem?_eq_some_iff.1 hx).1
  simp only [World.cell?, h]
  simp [List.getElem?_append, hk]
  exact congrArg Nat.cast (List.getElem?_eq_some_iff.1 hx).2
theorem Wn.elem (h : Wn w g pre l post) {k : Nat} (hk : k < l.length) : ∃ x, Hid (l[k]? = some x) ∧ w.cell? ⟨g, pre.length + k, none⟩ = some (.int .u32 x) ∧ w.frozen? ⟨g, pre.length + k, none⟩ = false :=
  ⟨l[k], List.getElem?_eq_getElem hk, h.cell (List.getElem?_eq_getElem hk), h.frozen _⟩
theorem Wn.blw (h : Wn w g pre l post) {w' : World} (k : Blw w w') : Wn w' g pre l post := by
  unfold Wn; rw [Below.block k g h.lt]; exact h
theorem Wn.alloc (h : Wn w g pre l post) (o : Obj) : Wn (w.alloc o) g pre l post := at_alloc o h
theorem Wn.set (h : Wn w g pre l post) {i : Nat} (hi : i < l.length) {v : Value} {n : Nat} (hv : v = .int .u32 (n : Int)) : Wn (w.setCell ⟨g, pre.length + i, none⟩ v) g pre (l.set i n) post := by
  have := at_set (pre.length + i) v h
  unfold Wn
  rw [this, hv]
  congr 2
  apply Array.ext'
  simp [List.map_set, hi]
theorem Wn.keptO {O : Nat → Prop} {w' : World} (h : Wn w g pre l post) (k : KeptO O w w') (ho : ¬ O g) : Wn w' g pre l post := k.heap h ho
theorem Wn.arr (h : Wn w g pre l post) : Arr w (some ⟨g, pre.length, none⟩) (u32s l) := .inr ⟨g, pre.length, rfl, h.lt, fun i hi => by
  have hi' : i < l.length := by simpa using hi
  rw [h.cell (List.getElem?_eq_getElem hi')]; simp [hi']⟩
theorem Wn.own (h : Wn w g [] l post) {B : Nat} (hB : B ≤ g) (hl : l.length + post.length ≤ maxLen) : w.ownsRow B 44 1 (.slice (some ⟨g, 0, none⟩) l.length (l.length + post.length)) l.length (u32s l) :=
  ⟨by simp, .inr ⟨g, l.length + post.length, _, rfl, hB, h, by omega, hl, by simp, by simp⟩⟩
theorem Wn.of_own {B n c : Nat} {a : Option Addr} (h : w.ownsRow B 44 1 (.slice a n c) n (u32s l)) (hn : 0 < n) : ∃ g post, a = some ⟨g, 0, none⟩ ∧ B ≤ g ∧ Wn w g [] l post ∧ n = l.length ∧ c = l.length + post.length ∧ c ≤ maxLen := by
  obtain ⟨h1, h2⟩ := h
  have hl : l.length = n := by simpa using h1
  rcases h2 with ⟨h3, h4⟩ | ⟨g, cap, cur, hv, hg, hh, hn, hm, hs, ht⟩
  · omega
  · injection hv with hv hv2 hv3
    subst hv hv3
    refine ⟨g, cur.toList.drop n, rfl, hg, ?_, hl.symm, ?_, hm⟩
    · unfold Wn
      rw [hh]
      congr 2
      apply Array.ext'
      rw [Nat.mul_one] at ht
      rw [← ht, List.nil_append, List.take_append_drop]
    · simp; omega
theorem Bk.wn (h : Bk w g l) : Wn w g [] l [] := by unfold Wn; unfold Bk at h; rw [h]; simp
/-- A part of a block of words. -/
theorem Bk.split {a b : List Nat} (h : Bk w g (a ++ l ++ b)) : Wn w g (u32s a) l (u32s b) := by
  unfold Wn; unfold Bk at h; rw [h]; simp
theorem Bk.join {a b : List Nat} (h : Wn w g (u32s a) l (u32s b)) : Bk w g (a ++ l ++ b) := by
  unfold Bk; unfold Wn at h; rw [h]; simp
end

/-- 'make([]uint32, n)'. -/
theorem wpList_words (w : World) {ops : Array Oper} {rest : List Oper} {o : Oper} {a : Act} {Q : Exit → Act → World → Prop}
    (hg : o.guard = none) (l c : Operand) (hop : o.op = Op.makeSlice 32 l c)
    (kl kc : IntKind) (L C : Int) (n : Nat) (hl : a.eval l = .int kl L) (hc : a.eval c = .int kc C) (hL : L = (n : Int)) (hC : C = (n : Int)) (h63 : n ≤ 1099511627776)
    (hK : ∀ w', Bk w' w.heap.size (List.replicate n 0) → Blw w w' → wpList Try.prog ops Q rest (a.put o.dst (.slice (some ⟨w.heap.size, 0, none⟩) n n)) w') :
    wpList Try.prog ops Q (o :: rest) a w := by
  subst hL hC
  obtain ⟨i, hi, hz0, hz1, hz2⟩ := info_parts sl_words.info
  refine wpList_make_row w hg l c 32 hop 44 i _ sl_words.under hi hz0 hz1 rfl kl kc n hl hc (by rw [hz2]; omega) (by omega) ?_
  rw [made_words]
  exact hK _ (Bk.new w _) ((Blw.refl w).alloc _)
end Go.Proofs.Ytmeccjlopmjneaa
/- The walk of nat.Mul. -/
namespace Go.Proofs.Ytmeccjlopmjneaa
open Go.RowKit

/-- A number, or ErrLong. -/
def RetN (w : World) (n : Nat) (e : Ending) (w' : World) : Prop :=
  (8192 < (W.toW n).length ∧ e = .returned (.tuple #[.slice none 0 0, .int .i64 3]) ∧ Blw w w') ∨
  ((W.toW n).length ≤ 8192 ∧ ∃ (a : Option Addr) (c : Nat), e = .returned (.tuple #[.slice a (W.toW n).length c, .int .i64 0]) ∧ w'.ownsRow w.heap.size 44 1 (.slice a (W.toW n).length c) (W.toW n).length (u32s (W.toW n)) ∧ Blw w w')

set_option maxRecDepth 100000 in
set_option maxHeartbeats 1000000 in
theorem natMul_main (a b : Option Addr) (l m : List Nat) (c d : Nat) (w : World) (h : Arr w a (u32s l)) (k : Arr w b (u32s m)) (wl : W.WF l) (wm : W.WF m)
    (c1 : chk l = 0) (c2 : chk m = 0) (l0 : 0 < l.length) (m0 : 0 < m.length) (hs : l.length + m.length ≤ 8193) :
    Calls Try.prog 161 #[.slice a l.length c, .slice b m.length d] w (RetN w (W.val l * W.val m)) := by
  have p1 : l.length ≤ 1099511627776 := by omega
  have p2 : m.length ≤ 1099511627776 := by omega
  have q1 : ((l.length : Int) == 0) = false := beq_false_of_ne (by omega)
  have q2 : ((m.length : Int) == 0) = false := beq_false_of_ne (by omega)
  have q3 : decide ((8193 : Int) < (l.length : Int) + (m.length : Int)) = false := by simp; omega
  go_enter Try.func161, Try.ntmps161
  go_wp2_with fail
  refine Calls.mono (natChecked_any a b l m c d w h k (by omega) (by omega)) ?_
  rintro e w' ⟨rfl, rfl⟩
  rw [c1, if_pos rfl, c2]
  go_wp2_with (refine wpList_words _ rfl _ _ rfl .i64 .i64 _ _ (l.length + m.length) rfl rfl (by omega) (by omega) (by omega) ?_; intro w1 hbk hb1)
  clear c1 c2 q1 q2 q3
  go_loopw [41] (fun i wr => ∃ (k : Nat) (cs : List Nat), k ≤ l.length ∧ i = .int .i64 k ∧ Bk wr w'.heap.size cs ∧ Blw w' wr ∧ Hid (cs.length = l.length + m.length) ∧ Hid (W.WF cs) ∧ Hid (W.val (cs.take (k + m.length)) = W.val (l.take k) * W.val m)) (fun i _ => (l.length - intOf i).toNat)
  case atStart => exact ⟨0, _, Nat.zero_le _, rfl, hbk, hb1, List.length_replicate, W.WF.rep _, by
    show W.val _ = W.val _ * _
    rw [List.take_replicate, W.val_rep]; simp [W.val]⟩
  case round =>
    obtain ⟨i, cs, hi, rfl, hg, hbw, hcl, hcw, hcv⟩ := hrel
    by_cases h0 : i < l.length
    · obtain ⟨x, b1, o1, -, -, hx, rfl, hq1, hq2⟩ := (h.blw hbw).elem (k := i) h0
      have hxl := wl.at hx.out
      go_wp2_with fail
      go_loopw [10, 48] (fun c j wx => ∃ (k c' : Nat) (ds : List Nat), k ≤ m.length ∧ j = .int .i64 k ∧ c = .int .u64 c' ∧ c' < 4294967296 ∧ Bk wx w'.heap.size ds ∧ Blw w' wx ∧ Hid (ds.length = l.length + m.length) ∧ Hid (W.WF ds) ∧
        Hid (W.val (ds.take (i + m.length)) + W.pw (i + k) * c' = W.val (l.take i) * W.val m + W.pw i * (x * W.val (m.take k)))) (fun _ j _ => (m.length - intOf j).toNat)
      case atStart => exact ⟨0, 0, cs, Nat.zero_le _, rfl, rfl, by decide, hg, hbw, hcl, hcw, by
        show _ = _
        rw [hcv.out, Nat.mul_zero, List.take_zero, W.val, Nat.mul_zero, Nat.mul_zero]⟩
      case round =>
        obtain ⟨j, c', ds, hj, rfl, rfl, hc', hgx, hbx, hdl, hdw, hdv⟩ := hrel
        by_cases h1 : j < m.length
        · obtain ⟨y, b2, o2, -, -, hy, rfl, hr1, hr2⟩ := (k.blw hbx).elem (k := j) h1
          have hyl := wm.at hy.out
          obtain ⟨z, hz, hz1, hz2⟩ := hgx.elem (k := i + j) (by rw [hdl.out]; omega)
          have hzl := hdw.out.at hz.out
          have hxy := W.mul_words hxl hyl
          have hxy2 : (x : Int) * (y : Int) ≤ 18446744065119617025 := by rw [← Int.natCast_mul]; omega
          have hxy3 : (0 : Int) ≤ (x : Int) * (y : Int) := Int.mul_nonneg (Int.natCast_nonneg x) (Int.natCast_nonneg y)
          have hdl1 : i + j < l.length + m.length := by omega
          go_wp2_with fail
          have ep : (x : Int) * (y : Int) = ((x * y : Nat) : Int) := (Int.natCast_mul x y).symm
          rw [ep]
          have key := fun (v c'' : Nat) (ht : c' + (x * y + z) = v + 4294967296 * c'') => W.mul_step (W.val_take_set v (N := i + m.length) (by omega) hz.out) rfl ht hdv.out
          rw [← W.val_take_succ hy.out] at key
          have KEY := Lib.hid key
          clear key hxy2 hxy3 ep
          go_roundw
          case rel => exact ⟨j + 1, (c' + (x * y + z)) / 4294967296, ds.set (i + j) ((c' + (x * y + z)) % 4294967296), h1, by go_num, congrArg (Value.int .u64) (by omega), by omega, hgx.set _ (congrArg (Value.int .u32) (by omega)), hbx.setCell _ _ (Nat.le_refl _), by (show _ = _; rw [List.length_set]; exact hdl.out), hdw.out.set _ (by omega), KEY.out _ _ (by omega)⟩
          case measure => (first | (simp [intOf]; done) | (simp [intOf]; omega))
        · have : j = m.length := by omega
          subst this
          rw [List.take_length] at hdv
          obtain ⟨z, hz, hz1, hz2⟩ := hgx.elem (k := i + m.length) (by rw [hdl.out]; omega)
          have hdl1 : i + m.length < l.length + m.length := by omega
          go_wp2_with fail
          go_roundw
          case rel => exact ⟨i + 1, ds.set (i + m.length) c', h0, by go_num, hgx.set _ (congrArg (Value.int .u32) (by omega)), hbx.setCell _ _ (Nat.le_refl _), by (show _ = _; rw [List.length_set]; exact hdl.out), hdw.out.set _ hc', by
            show _ = _
            rw [show i + 1 + m.length = i + m.length + 1 by omega, W.val_take_set_end _ (by rw [hdl.out]; omega), hdv.out, W.val_take_succ hx.out, Nat.add_mul, Nat.mul_assoc]⟩
          case measure => (first | (simp [intOf]; done) | (simp [intOf]; omega))
    · have : i = l.length := by omega
      subst this
      have e1 : W.val cs = W.val l * W.val m := by
        have := hcv.out
        rwa [List.take_length, ← hcl.out, List.take_length] at this
      go_wp2_with fail
      have hcap : l.length + m.length ≤ 1099511627776 := by omega
      have own := hg.own (Nat.le_refl _) (by rw [hcl.out]; unfold maxLen; omega)
      have own2 := own_cut own hcw.out
      have hA := hg.arr
      have hln := hcl.out
      rw [hcl.out, e1] at own2
      refine Calls.mono (P := Try.prog) (show Calls Try.prog 162 #[.slice (some ⟨w'.heap.size, 0, none⟩) (l.length + m.length) (l.length + m.length)] wr _ from by
        have := natTold_any (some ⟨w'.heap.size, 0, none⟩) cs (l.length + m.length) wr hA (by omega) (by omega) (by omega) hcw.out
        rw [hln, e1] at this; exact this) ?_
      rintro e w2 ⟨rfl, rfl⟩
      by_cases h8 : 8192 < (W.toW (W.val l * W.val m)).length
      · rw [if_pos h8]
        go_wp2
        go_ret2
        exact .inl ⟨h8, rfl, hbw⟩
      · rw [if_neg h8]
        go_wp2
        go_ret2
        exact .inr ⟨Nat.le_of_not_lt h8, _, _, rfl, own2, hbw⟩
end Go.Proofs.Ytmeccjlopmjneaa
/- Walks of package nat: one word, in place. -/
namespace Go.Proofs.Ytmeccjlopmjneaa
open Go.RowKit

theorem tdiv_nat (a b : Nat) : ((a : Int)).tdiv (b : Int) = ((a / b : Nat) : Int) := rfl
theorem tmod_nat (a b : Nat) : ((a : Int)).tmod (b : Int) = ((a % b : Nat) : Int) := rfl
theorem u32_of {n : Nat} {i : Int} (h : i = (n : Int)) : Value.int .u32 i = .int .u32 (n : Int) := by rw [h]
theorem u64_of {n : Nat} {i : Int} (h : i = (n : Int)) : Value.int .u64 i = .int .u64 (n : Int) := by rw [h]
/-- The step of a division by one word. -/
theorem W.small_step {r x d V D : Nat} (h : V * d + r = D) : (((r * 4294967296 + x) / d) + 4294967296 * V) * d + (r * 4294967296 + x) % d = x + 4294967296 * D := by
  have e := Nat.div_add_mod (r * 4294967296 + x) d
  rw [Nat.add_mul, Nat.mul_assoc, Nat.mul_comm ((r * 4294967296 + x) / d) d]
  have : 4294967296 * (V * d) + 4294967296 * r = 4294967296 * D := by rw [← Nat.mul_add, h]
  omega
theorem or_low (y x : Nat) (hy : y < 4294967296) (hx : x < 4294967296) : bits .or .u64 ((y : Int) * 4294967296) (x : Int) = ((y * 4294967296 + x : Nat) : Int) := by
  rw [bits_join .u64 64 (by decide) wraps_u64 32 _ _ (by omega) (by omega) (by omega) (by omega) (by omega) (by omega)]; omega
theorem val_drop {l : List Nat} {k x : Nat} (h : l[k]? = some x) : W.val (l.drop k) = x + 4294967296 * W.val (l.drop (k + 1)) := by
  have hk : k < l.length := (List.getElem?_eq_some_iff.1 h).1
  rw [List.drop_eq_getElem_cons hk, W.val, (List.getElem?_eq_some_iff.1 h).2]
theorem drop_set {l : List Nat} {k v : Nat} (hk : k < l.length) : (l.set k v).drop k = v :: l.drop (k + 1) := by
  rw [List.drop_eq_getElem_cons (by simpa using hk)]
  simp [List.drop_set]

set_option maxRecDepth 100000 in
set_option maxHeartbeats 1000000 in
theorem natSmall_any (g o : Nat) (pre post : List Value) (l : List Nat) (cap d : Nat) (w : World) (ho : pre.length = o) (h : Wn w g pre l post) (hc : l.length ≤ cap) (hl : cap ≤ 9223372036854775807) (hll : l.length ≤ 1099511627776) (wl : W.WF l) (hd : 0 < d) (hd2 : d < 4294967296) :
    Calls Try.prog 171 #[.slice (some ⟨g, o, none⟩) l.length cap, .int .u32 d] w fun e w' => ∃ q : List Nat, e = .returned (.tuple #[.slice (some ⟨g, o, none⟩) (W.toW (W.val l / d)).length cap, .int .u32 (W.val l % d : Nat)]) ∧
      Wn w' g pre q post ∧ W.WF q ∧ q.length = l.length ∧ W.val q = W.val l / d ∧ KeptO (· = g) w w' := by
  subst ho
  have p1 : l.length ≤ 1099511627776 := by omega
  have d0 : ((d : Int) == 0) = false := beq_false_of_ne (by omega)
  go_enter Try.func171, Try.ntmps171
  go_wp2_with fail
  go_loopw [6, 7] (fun r i wr => ∃ (k r' : Nat) (ds : List Nat), k ≤ l.length ∧ i = .int .i64 ((k : Int) - 1) ∧ r = .int .u64 r' ∧ r' < d ∧ Wn wr g pre ds post ∧ KeptO (· = g) w wr ∧ Hid (ds.length = l.length) ∧ Hid (W.WF ds) ∧ Hid (ds.take k = l.take k) ∧ Hid (W.val (ds.drop k) * d + r' = W.val (l.drop k))) (fun _ i _ => (intOf i + 1).toNat)
  case atStart => exact ⟨l.length, 0, l, Nat.le_refl _, rfl, rfl, hd, h, KeptO.refl w, rfl, wl, rfl, by show _ = _; rw [List.drop_length, W.val, Nat.zero_mul]⟩
  case round =>
    obtain ⟨k, r, ds, hk, rfl, rfl, hr, hg, hw, hdl, hdw, hdt, hdv⟩ := hrel
    by_cases h0 : 0 < k
    · obtain ⟨j, rfl⟩ : ∃ j, k = j + 1 := ⟨k - 1, by omega⟩
      have ej : (((j + 1 : Nat) : Int) - 1) = (j : Int) := by omega
      rw [ej]
      clear ej
      obtain ⟨x, hx, hx1, hx2⟩ := hg.elem (k := j) (by rw [hdl.out]; omega)
      have hxl := hdw.out.at hx.out
      have hlx : Hid (l[j]? = some x) := by
        show l[j]? = some x
        have : (l.take (j + 1))[j]? = some x := by rw [← hdt.out, List.getElem?_take, if_pos (by omega)]; exact hx.out
        rwa [List.getElem?_take, if_pos (by omega)] at this
      have r1 : r < 4294967296 := by omega
      have i1 : (j : Int) < (l.length : Int) := by omega
      have i0 : (0 : Int) ≤ (j : Int) := by omega
      clear h0
      go_wp2_with fail
      rw [or_low r x r1 hxl, tdiv_nat, tmod_nat, IntKind.wrap_u64]
      have hq : (r * 4294967296 + x) / d < 4294967296 := Nat.div_lt_of_lt_mul (by
        have : (r + 1) * 4294967296 ≤ d * 4294967296 := Nat.mul_le_mul_right _ hr
        omega)
      have hm : (r * 4294967296 + x) % d < d := Nat.mod_lt _ hd
      have key := W.small_step (r := r) (x := x) (d := d) hdv.out
      have hjl : j < ds.length := by rw [hdl.out]; omega
      rw [← val_drop hlx.out] at key
      generalize hqq : (r * 4294967296 + x) / d = q at *
      generalize hmm : (r * 4294967296 + x) % d = m at *
      go_roundw
      case rel => exact ⟨j, m, ds.set j q, by omega, rfl, rfl, hm, hg.set hjl (u32_of (by omega)), hw.setCell _ _ (.inl rfl), by (show _ = _; rw [List.length_set]; exact hdl.out), hdw.out.set _ hq, by
        show _ = _
        rw [List.take_set_of_le (Nat.le_refl _)]
        have := congrArg (List.take j) hdt.out
        rwa [List.take_take, List.take_take, Nat.min_eq_left (by omega)] at this, by
        show _ = _
        rw [drop_set hjl, W.val]; exact key⟩
      case measure => (first | (simp [intOf]; done) | (simp [intOf]; omega))
    · have : k = 0 := by omega
      subst this
      have e0 : (((0 : Nat) : Int) - 1) = -1 := by omega
      rw [e0]
      have hv : W.val ds * d + r = W.val l := by have := hdv.out; simpa using this
      have v1 : W.val ds = W.val l / d := by
        rw [← hv, Nat.add_comm, Nat.add_mul_div_right _ _ hd, Nat.div_eq_of_lt hr, Nat.zero_add]
      have v2 : Hid (r = W.val l % d) := by
        show r = W.val l % d
        rw [← hv, Nat.add_comm, Nat.add_mul_mod_self_right, Nat.mod_eq_of_lt hr]
      have r1 : r < 4294967296 := by omega
      have hcut := natCut_any (some ⟨g, pre.length, none⟩) ds cap wr hg.arr (by rw [hdl.out]; exact hc) (by omega) hdw.out
      rw [hdl.out, v1] at hcut
      clear h0
      go_wp2_with (go_at_call 157; refine Calls.mono hcut ?_; rintro e w' ⟨rfl, rfl⟩)
      go_ret2
      refine ⟨ds, ?_, hg, hdw.out, hdl.out, v1, hw⟩
      exact congrArg (fun x : Nat => Ending.returned (.tuple #[.slice (some ⟨g, pre.length, none⟩) (W.toW (W.val l / d)).length cap, .int .u32 (x : Int)])) v2.out
end Go.Proofs.Ytmeccjlopmjneaa
/- Walks of package nat: shifts by less than a word. -/
namespace Go.Proofs.Ytmeccjlopmjneaa
open Go.RowKit

theorem pow_split {n : Nat} (hn : n < 32) : (2 : Nat) ^ n * 2 ^ (32 - n) = 4294967296 := by
  rw [← Nat.pow_add, show n + (32 - n) = 32 by omega]
theorem up_facts {x y n : Nat} (hx : x < 4294967296) (hy : y < 2 ^ n) (hn : n < 32) :
    bits .or .u32 (y : Int) (IntKind.u64.wrap ((x : Int) * 2 ^ n) % 4294967296) = ((y + x * 2 ^ n % 4294967296 : Nat) : Int) ∧ y + x * 2 ^ n % 4294967296 < 4294967296 ∧
    IntKind.u64.wrap ((x : Int) * 2 ^ n) / 4294967296 % 4294967296 = ((x * 2 ^ n / 4294967296 : Nat) : Int) ∧ x * 2 ^ n / 4294967296 < 2 ^ n ∧ x * 2 ^ n / 4294967296 < 4294967296 := by
  have hs := pow_split hn
  have hp : 0 < (2 : Nat) ^ (32 - n) := Nat.two_pow_pos _
  have hp2 : (2 : Nat) ^ n ≤ 4294967296 := by rw [← hs]; exact Nat.le_mul_of_pos_right _ hp
  have hlo : x * 2 ^ n % 4294967296 % 2 ^ n = 0 := by
    rw [← hs, Nat.mod_mul_right_mod, Nat.mul_mod_left]
  have hsum : y + x * 2 ^ n % 4294967296 < 4294967296 := by
    have h1 : x * 2 ^ n % 4294967296 < 2 ^ n * 2 ^ (32 - n) := by rw [hs]; exact Nat.mod_lt _ (by decide)
    have h2 : x * 2 ^ n % 4294967296 / 2 ^ n < 2 ^ (32 - n) := Nat.div_lt_of_lt_mul h1
    have h3 := Nat.div_add_mod (x * 2 ^ n % 4294967296) (2 ^ n)
    rw [hlo] at h3
    have h4 : 2 ^ n * (x * 2 ^ n % 4294967296 / 2 ^ n + 1) ≤ 2 ^ n * 2 ^ (32 - n) := Nat.mul_le_mul_left _ h2
    rw [hs, Nat.mul_add, Nat.mul_one] at h4
    omega
  have hlt : x * 2 ^ n < 18446744073709551616 := by
    have : x * 2 ^ n ≤ 4294967295 * 4294967296 := Nat.mul_le_mul (by omega) hp2
    omega
  have hi : x * 2 ^ n / 4294967296 < 2 ^ n := Nat.div_lt_of_lt_mul (Nat.mul_lt_mul_of_pos_right hx (Nat.two_pow_pos n))
  have ec : (x : Int) * 2 ^ n = ((x * 2 ^ n : Nat) : Int) := by rw [Int.natCast_mul, Int.natCast_pow]; rfl
  rw [ec, IntKind.wrap_u64]
  have hi2 : x * 2 ^ n / 4294967296 < 4294967296 := Nat.lt_of_lt_of_le hi hp2
  generalize x * 2 ^ n = t at *
  refine ⟨?_, hsum, by omega, hi, hi2⟩
  have e2 : ((t : Int) % 18446744073709551616 % 4294967296) = ((t % 4294967296 : Nat) : Int) := by omega
  rw [e2, bits_join_low .u32 32 (by decide) wraps_u32 n _ _ (by omega) (by exact_mod_cast hy) (by omega) (by omega) (by exact_mod_cast hlo) (by omega)]
  omega
theorem up_val {ds : List Nat} {k x y z n V : Nat} (hk : k + 1 < ds.length) (hy : ds[k]? = some y) (h : W.val (ds.take (k + 1)) = V * 2 ^ n) :
    W.val (((ds.set k (y + x * 2 ^ n % 4294967296)).set (k + 1) (x * 2 ^ n / 4294967296)).take (k + 1 + 1)) = (V + W.pw k * x) * 2 ^ n := by
  rw [W.val_take_set_end _ (by simpa using hk)]
  have h1 := W.val_take_set (N := k + 1) (y + x * 2 ^ n % 4294967296) (by omega) hy
  rw [h, Nat.mul_add] at h1
  have h2 := Nat.div_add_mod (x * 2 ^ n) 4294967296
  rw [Nat.add_mul, W.pw_succ, Nat.mul_assoc (W.pw k), ← h2]
  generalize x * 2 ^ n = t at *
  rw [h2, Nat.mul_comm 4294967296 (W.pw k), Nat.mul_assoc]
  have h3 : W.pw k * t = W.pw k * (4294967296 * (t / 4294967296)) + W.pw k * (t % 4294967296) := by rw [← Nat.mul_add, h2]
  omega

/-- What up makes: a block of its own. -/
def UpPost (w : World) (l : List Nat) (n : Nat) (e : Ending) (w' : World) : Prop :=
  e = .returned (.slice (some ⟨w.heap.size, 0, none⟩) (l.length + 1) (l.length + 1)) ∧ ∃ ds, Bk w' w.heap.size ds ∧ ds.length = l.length + 1 ∧ W.WF ds ∧ W.val ds = W.val l * 2 ^ n ∧ Blw w w'

set_option maxRecDepth 100000 in
set_option maxHeartbeats 1000000 in
theorem natUp_any (a : Option Addr) (l : List Nat) (cap n : Nat) (w : World) (h : Arr w a (u32s l)) (hl : l.length ≤ 1000000) (wl : W.WF l) (hn : n < 32) :
    Calls Try.prog 170 #[.slice a l.length cap, .int .u64 n] w (UpPost w l n) := by
  go_enter Try.func170, Try.ntmps170
  go_wp2_with (refine wpList_words _ rfl _ _ rfl .i64 .i64 _ _ (l.length + 1) rfl rfl (by omega) (by omega) (by omega) ?_; intro w1 hbk hb1)
  go_loopw [15] (fun i wr => ∃ (k y : Nat) (ds : List Nat), k ≤ l.length ∧ i = .int .i64 k ∧ Bk wr w.heap.size ds ∧ Blw w wr ∧ Hid (ds.length = l.length + 1) ∧ Hid (W.WF ds) ∧ Hid (ds[k]? = some y) ∧ Hid (y < 2 ^ n) ∧ Hid (W.val (ds.take (k + 1)) = W.val (l.take k) * 2 ^ n)) (fun i _ => (l.length - intOf i).toNat)
  case atStart => exact ⟨0, 0, _, Nat.zero_le _, rfl, hbk, hb1, List.length_replicate, W.WF.rep _, by (show _ = _; simp), Nat.two_pow_pos n, by
    show W.val _ = W.val _ * _
    rw [List.take_replicate, W.val_rep]; simp [W.val]⟩
  case round =>
    obtain ⟨k, y, ds, hk, rfl, hg, hw, hdl, hdw, hy, hy2, hdv⟩ := hrel
    by_cases h0 : k < l.length
    · obtain ⟨x, b1, o1, -, -, hx, rfl, hq1, hq2⟩ := (h.blw hw).elem (k := k) h0
      have hxl := wl.at hx.out
      obtain ⟨z, hz, hz1, hz2⟩ := hg.elem (k := k + 1) (by rw [hdl.out]; omega)
      have hyc := hg.cell hy.out
      have hyf := hg.frozen k
      have k1 : k < l.length + 1 := by omega
      go_wp2_with fail
      obtain ⟨f1, f2, f3, f4, f5⟩ := up_facts hxl hy2.out hn
      have hkd : k + 1 < ds.length := by rw [hdl.out]; omega
      have hv := up_val (x := x) (z := z) hkd hy.out hdv.out
      rw [← W.val_take_succ hx.out] at hv
      rw [f1, f3]
      go_roundw
      case rel => exact ⟨k + 1, x * 2 ^ n / 4294967296, (ds.set k (y + x * 2 ^ n % 4294967296)).set (k + 1) (x * 2 ^ n / 4294967296), h0, by go_num, (hg.set k rfl).set (k + 1) rfl, (hw.setCell _ _ (Nat.le_refl _)).setCell _ _ (Nat.le_refl _), by (show _ = _; rw [List.length_set, List.length_set]; exact hdl.out), (hdw.out.set _ f2).set _ f5, by (show _ = _; rw [List.getElem?_set_self (by simpa using hkd)]), f4, hv⟩
      case measure => (first | (simp [intOf]; done) | (simp [intOf]; omega))
    · have : k = l.length := by omega
      subst this
      have e1 : W.val ds = W.val l * 2 ^ n := by
        have := hdv.out
        rwa [List.take_length, ← hdl.out, List.take_length] at this
      go_wp2
      go_ret
      exact ⟨rfl, ds, hg, hdl.out, hdw.out, e1, hw⟩

theorem down_word {x y F n : Nat} (hx : x < 4294967296) (hn : n < 32) :
    (x + 4294967296 * (y + 4294967296 * F)) / 2 ^ n = (x + 4294967296 * y) / 2 ^ n % 4294967296 + 4294967296 * ((y + 4294967296 * F) / 2 ^ n) := by
  have hs := pow_split hn
  have hp : 0 < (2 : Nat) ^ n := Nat.two_pow_pos _
  have e1 : (y + 4294967296 * F) / 2 ^ n = y / 2 ^ n + 2 ^ (32 - n) * F := by
    rw [← hs, Nat.mul_assoc, Nat.add_mul_div_left _ _ hp]
  have e2 : (x + 4294967296 * (y + 4294967296 * F)) / 2 ^ n = (x + 4294967296 * y) / 2 ^ n + 4294967296 * (2 ^ (32 - n) * F) := by
    have : x + 4294967296 * (y + 4294967296 * F) = (x + 4294967296 * y) + 2 ^ n * (4294967296 * (2 ^ (32 - n) * F)) := by
      have : 2 ^ n * (4294967296 * (2 ^ (32 - n) * F)) = 4294967296 * (4294967296 * F) := by
        rw [Nat.mul_left_comm (2 ^ n), ← Nat.mul_assoc (2 ^ n), hs]
      omega
    rw [this, Nat.add_mul_div_left _ _ hp]
  have e3 : (x + 4294967296 * y) / 2 ^ n / 4294967296 = y / 2 ^ n := by
    rw [Nat.div_div_eq_div_mul, Nat.mul_comm (2 ^ n) 4294967296, ← Nat.div_div_eq_div_mul, show (x + 4294967296 * y) / 4294967296 = y by omega]
  have e4 := Nat.div_add_mod ((x + 4294967296 * y) / 2 ^ n) 4294967296
  rw [e3] at e4
  rw [e1, e2]
  omega
theorem pow_int (n : Nat) : (2 : Int) ^ n = ((2 ^ n : Nat) : Int) := by rw [Int.natCast_pow]; rfl
theorem down_or {x y n : Nat} (hx : x < 4294967296) (hy : y < 4294967296) : bits .or .u64 (x : Int) ((y : Int) * 4294967296) / 2 ^ n % 4294967296 = (((x + 4294967296 * y) / 2 ^ n % 4294967296 : Nat) : Int) := by
  rw [or_high x y hx hy, pow_int, ← Int.natCast_ediv]; rfl
theorem down_one {x n : Nat} (hx : x < 4294967296) : (x : Int) / 2 ^ n % 4294967296 = ((x / 2 ^ n % 4294967296 : Nat) : Int) := by
  rw [pow_int, ← Int.natCast_ediv]; rfl

set_option maxRecDepth 100000 in
set_option maxHeartbeats 1000000 in
theorem natDown_any (g o : Nat) (pre post : List Value) (l : List Nat) (cap n : Nat) (w : World) (ho : pre.length = o) (h : Wn w g pre l post) (hc : l.length ≤ cap) (hl : cap ≤ 9223372036854775807) (hll : l.length ≤ 1099511627776) (wl : W.WF l) (hn : n < 32) :
    Calls Try.prog 169 #[.slice (some ⟨g, o, none⟩) l.length cap, .int .u64 n] w fun e w' => ∃ q : List Nat, e = .returned (.slice (some ⟨g, o, none⟩) (W.toW (W.val l / 2 ^ n)).length cap) ∧
      Wn w' g pre q post ∧ W.WF q ∧ q.length = l.length ∧ W.val q = W.val l / 2 ^ n ∧ KeptO (· = g) w w' := by
  subst ho
  have p1 : l.length ≤ 1099511627776 := by omega
  go_enter Try.func169, Try.ntmps169
  go_wp2_with fail
  go_loopw [9] (fun i wr => ∃ (k : Nat) (ds : List Nat), k ≤ l.length ∧ i = .int .i64 k ∧ Wn wr g pre ds post ∧ KeptO (· = g) w wr ∧ Hid (ds.length = l.length) ∧ Hid (W.WF ds) ∧ Hid (ds.drop k = l.drop k) ∧ Hid (W.val (ds.take k) + W.pw k * (W.val (l.drop k) / 2 ^ n) = W.val l / 2 ^ n)) (fun i _ => (l.length - intOf i).toNat)
  case atStart => exact ⟨0, l, Nat.zero_le _, rfl, h, KeptO.refl w, rfl, wl, rfl, by (show _ = _; rw [List.take_zero, W.val, List.drop_zero, Nat.zero_add]; show 1 * _ = _; rw [Nat.one_mul])⟩
  case round =>
    obtain ⟨k, ds, hk, rfl, hg, hw, hdl, hdw, hdd, hdv⟩ := hrel
    by_cases h0 : k < l.length
    · have hkd : k < ds.length := by rw [hdl.out]; omega
      obtain ⟨x, hx, hx1, hx2⟩ := hg.elem (k := k) hkd
      have hxl := hdw.out.at hx.out
      have hlx : Hid (l[k]? = some x) := by
        show l[k]? = some x
        have := congrArg (fun t : List Nat => t[0]?) hdd.out
        simp only [List.getElem?_drop, Nat.add_zero] at this
        rw [← this]; exact hx.out
      have hdd2 : Hid (ds.drop (k + 1) = l.drop (k + 1)) := by
        show _ = _
        have := congrArg (List.drop 1) hdd.out
        rwa [List.drop_drop, List.drop_drop] at this
      have hvx := Lib.hid (val_drop hlx.out)
      by_cases h1 : k + 1 < l.length
      · obtain ⟨y, hy, hy1, hy2⟩ := hg.elem (k := k + 1) (by rw [hdl.out]; omega)
        have hyl := hdw.out.at hy.out
        have hly : l[k + 1]? = some y := by
          have := congrArg (fun t : List Nat => t[0]?) hdd2.out
          simp only [List.getElem?_drop, Nat.add_zero] at this
          rw [← this]; exact hy.out
        have hvy := Lib.hid (val_drop hly)
        clear hly
        have i1 : (k : Int) + 1 < (l.length : Int) := by omega
        go_wp2_with fail
        rw [down_or hxl hyl]
        have key := down_word (y := y) (F := W.val (l.drop (k + 1 + 1))) hxl hn
        rw [← hvy.out, ← hvx.out] at key
        have hb : (x + 4294967296 * y) / 2 ^ n % 4294967296 < 4294967296 := Nat.mod_lt _ (by decide)
        generalize (x + 4294967296 * y) / 2 ^ n % 4294967296 = v at *
        go_roundw
        case rel => exact ⟨k + 1, ds.set k v, h0, by go_num, hg.set hkd rfl, hw.setCell _ _ (.inl rfl), by (show _ = _; rw [List.length_set]; exact hdl.out), hdw.out.set _ hb, by (show _ = _; rw [List.drop_set_of_lt (Nat.lt_succ_self k)]; exact hdd2.out), by
          show _ = _
          rw [W.val_take_set_end _ hkd, ← hdv.out, key, Nat.mul_add, W.pw_succ, Nat.mul_left_comm, ← Nat.mul_assoc 4294967296]
          omega⟩
        case measure => (first | (simp [intOf]; done) | (simp [intOf]; omega))
      · have e0 : l.drop (k + 1) = [] := List.drop_eq_nil_of_le (by omega)
        have i1 : decide ((k : Int) + 1 < (l.length : Int)) = false := by simp; omega
        have HE := Lib.hid e0
        clear e0
        go_wp2_with fail
        rw [down_one hxl]
        have key := down_word (x := x) (y := 0) (F := 0) hxl hn
        have hb : x / 2 ^ n % 4294967296 < 4294967296 := Nat.mod_lt _ (by decide)
        have e2 : W.val (l.drop k) / 2 ^ n = x / 2 ^ n % 4294967296 := by
          rw [hvx.out, HE.out, W.val]
          simpa using key
        generalize x / 2 ^ n % 4294967296 = v at *
        go_roundw
        case rel => exact ⟨k + 1, ds.set k v, h0, by go_num, hg.set hkd rfl, hw.setCell _ _ (.inl rfl), by (show _ = _; rw [List.length_set]; exact hdl.out), hdw.out.set _ hb, by (show _ = _; rw [List.drop_set_of_lt (Nat.lt_succ_self k)]; exact hdd2.out), by
          show _ = _
          rw [W.val_take_set_end _ hkd, ← hdv.out, e2, HE.out, W.val, Nat.zero_div, Nat.mul_zero, Nat.add_zero]⟩
        case measure => (first | (simp [intOf]; done) | (simp [intOf]; omega))
    · have : k = l.length := by omega
      subst this
      have e1 : W.val ds = W.val l / 2 ^ n := by
        have := hdv.out
        rw [List.drop_length, W.val, Nat.zero_div, Nat.mul_zero, Nat.add_zero, ← hdl.out, List.take_length] at this
        exact this
      have hcut := natCut_any (some ⟨g, pre.length, none⟩) ds cap wr hg.arr (by rw [hdl.out]; exact hc) (by omega) hdw.out
      rw [hdl.out, e1] at hcut
      go_wp2_with (go_at_call 157; refine Calls.mono hcut ?_; rintro e w' ⟨rfl, rfl⟩)
      go_ret
      exact ⟨ds, rfl, hg, hdw.out, hdl.out, e1, hw⟩
end Go.Proofs.Ytmeccjlopmjneaa
/- Walks of package nat: what is taken off and added in place. -/
namespace Go.Proofs.Ytmeccjlopmjneaa
open Go.RowKit

theorem off_step {A A0 Vk k c b q y u u' c' b' : Nat} (h : A + q * Vk = A0 + W.pw k * (c + b)) (e : u' + (c + q * y) + b = u + 4294967296 * (c' + b')) :
    (A + W.pw k * u') + q * (Vk + W.pw k * y) = (A0 + W.pw k * u) + W.pw (k + 1) * (c' + b') := by
  have e1 : W.pw k * (u' + (c + q * y) + b) = W.pw k * (u + 4294967296 * (c' + b')) := by rw [e]
  have e2 : W.pw (k + 1) * (c' + b') = W.pw k * (4294967296 * (c' + b')) := by rw [W.pw_succ, Nat.mul_comm 4294967296, Nat.mul_assoc]
  have e3 : q * (Vk + W.pw k * y) = q * Vk + W.pw k * (q * y) := by rw [Nat.mul_add, Nat.mul_left_comm]
  rw [Nat.mul_add, Nat.mul_add, Nat.mul_add] at e1
  rw [Nat.mul_add] at h
  rw [Nat.mul_add] at e1
  rw [e2, e3]
  omega
theorem back_step {A A0 Vk k c y u u' c' : Nat} (h : A + W.pw k * c = A0 + Vk) (e : u' + 4294967296 * c' = c + u + y) :
    (A + W.pw k * u') + W.pw (k + 1) * c' = (A0 + W.pw k * u) + (Vk + W.pw k * y) := by
  have e1 : W.pw k * (u' + 4294967296 * c') = W.pw k * (c + u + y) := by rw [e]
  have e2 : W.pw (k + 1) * c' = W.pw k * (4294967296 * c') := by rw [W.pw_succ, Nat.mul_comm 4294967296, Nat.mul_assoc]
  rw [Nat.mul_add, Nat.mul_add, Nat.mul_add] at e1
  rw [e2]
  omega
theorem mul_words' {x y : Nat} (hx : x ≤ 4294967296) (hy : y < 4294967296) : x * y ≤ 18446744069414584320 := Nat.mul_le_mul hx (Nat.le_of_lt_succ hy)
/-- A difference of words in 64 bits: its low word and its top bit. -/
theorem diff_word (u t b : Nat) (hu : u < 4294967296) (hb : b ≤ 1) :
    ∃ u' b' : Nat, IntKind.u64.wrap (IntKind.u64.wrap ((u : Int) - (t : Int) % 4294967296) - (b : Int)) % 4294967296 = (u' : Int) ∧ IntKind.u64.wrap (IntKind.u64.wrap ((u : Int) - (t : Int) % 4294967296) - (b : Int)) / 9223372036854775808 = (b' : Int) ∧
      u' < 4294967296 ∧ b' ≤ 1 ∧ u' + t + b = u + 4294967296 * (t / 4294967296 + b') := by
  by_cases h : t % 4294967296 + b ≤ u
  · refine ⟨u - t % 4294967296 - b, 0, ?_, ?_, ?_, ?_, ?_⟩
    · rw [IntKind.wrap_u64, IntKind.wrap_u64]; omega
    · rw [IntKind.wrap_u64, IntKind.wrap_u64]; omega
    · omega
    · omega
    · omega
  · refine ⟨u + 4294967296 - t % 4294967296 - b, 1, ?_, ?_, ?_, ?_, ?_⟩
    · rw [IntKind.wrap_u64, IntKind.wrap_u64]; omega
    · rw [IntKind.wrap_u64, IntKind.wrap_u64]; omega
    · omega
    · omega
    · omega

set_option maxRecDepth 100000 in
set_option maxHeartbeats 2000000 in
theorem natOff_any (g o : Nat) (pre post : List Value) (l v : List Nat) (bv : Option Addr) (cap cv q : Nat) (w : World) (ho : pre.length = o) (h : Wn w g pre l post) (hv : Arr w bv (u32s v)) (hne : ∀ a, bv = some a → a.block ≠ g)
    (hl : l.length ≤ 1000000) (hvl : v.length < l.length) (wl : W.WF l) (wv : W.WF v) (hq : q ≤ 4294967296) :
    Calls Try.prog 174 #[.slice (some ⟨g, o, none⟩) l.length cap, .slice bv v.length cv, .int .u64 q] w fun e w' => ∃ (u : List Nat) (b : Nat), e = .returned (.bool (b != 0)) ∧ b ≤ 1 ∧
      Wn w' g pre u post ∧ W.WF u ∧ u.length = l.length ∧ W.val u + q * W.val v = W.val l + W.pw l.length * b ∧ KeptO (· = g) w w' := by
  subst ho
  go_enter Try.func174, Try.ntmps174
  go_wp2_with fail
  go_loopw [7, 8, 13] (fun c b i wr => ∃ (k c' b' : Nat) (ds : List Nat), k ≤ l.length ∧ i = .int .i64 k ∧ c = .int .u64 c' ∧ b = .int .u64 b' ∧ c' < 4294967296 ∧ b' ≤ 1 ∧ (v.length < k → c' = 0) ∧ Wn wr g pre ds post ∧ KeptO (· = g) w wr ∧ Hid (ds.length = l.length) ∧ Hid (W.WF ds) ∧ Hid (ds.drop k = l.drop k) ∧
    Hid (W.val (ds.take k) + q * W.val (v.take k) = W.val (l.take k) + W.pw k * (c' + b'))) (fun _ _ i _ => (l.length - intOf i).toNat)
  case atStart => exact ⟨0, 0, 0, l, Nat.zero_le _, rfl, rfl, rfl, by decide, by decide, fun _ => rfl, h, KeptO.refl w, rfl, wl, rfl, by (show _ = _; rw [List.take_zero, List.take_zero, W.val, Nat.mul_zero]; rfl)⟩
  case round =>
    obtain ⟨k, c, b, ds, hk, rfl, rfl, rfl, hc, hb, hcz, hg, hw, hdl, hdw, hdd, hdv⟩ := hrel
    have HZ := Lib.hid hcz; clear hcz
    by_cases h0 : k < l.length
    · have hkd : k < ds.length := by rw [hdl.out]; omega
      obtain ⟨x, hx, hx1, hx2⟩ := hg.elem (k := k) hkd
      have hxl := hdw.out.at hx.out
      have hlx : Hid (l[k]? = some x) := by
        show l[k]? = some x
        have := congrArg (fun t : List Nat => t[0]?) hdd.out
        simp only [List.getElem?_drop, Nat.add_zero] at this
        rw [← this]; exact hx.out
      have hdd2 : Hid (ds.drop (k + 1) = l.drop (k + 1)) := by
        show _ = _
        have := congrArg (List.drop 1) hdd.out
        rwa [List.drop_drop, List.drop_drop] at this
      by_cases h1 : k < v.length
      · obtain ⟨y, b2, o2, -, -, hy, rfl, hr1, hr2⟩ := (hw.arr hv (fun a ha => hne a ha)).elem (k := k) h1
        have hyl := wv.at hy.out
        have hxy := mul_words' hq hyl
        have hxy2 : (q : Int) * (y : Int) ≤ 18446744069414584320 := by rw [← Int.natCast_mul]; omega
        have hxy3 : (0 : Int) ≤ (q : Int) * (y : Int) := Int.mul_nonneg (Int.natCast_nonneg q) (Int.natCast_nonneg y)
        have i1 : (k : Int) < (v.length : Int) := by omega
        go_wp2_with fail
        have ep : (c : Int) + (q : Int) * (y : Int) = ((c + q * y : Nat) : Int) := by rw [Int.natCast_add, Int.natCast_mul]
        rw [ep]
        obtain ⟨u', b', f1, f2, f3, f4, f5⟩ := diff_word x (c + q * y) b hxl hb
        rw [f1, f2]
        have key := off_step hdv.out f5
        rw [← W.val_take_succ hy.out, ← W.val_take_succ hlx.out, ← W.val_take_set_end _ hkd] at key
        clear ep f1 f2 f5 hxy2 hxy3
        generalize hT : c + q * y = T at *
        go_roundw
        case rel => exact ⟨k + 1, T / 4294967296, b', ds.set k u', h0, by go_num, u64_of (by omega), rfl, by omega, f4, fun hh => absurd hh (by omega), hg.set hkd rfl, hw.setCell _ _ (.inl rfl), by (show _ = _; rw [List.length_set]; exact hdl.out), hdw.out.set _ f3, by (show _ = _; rw [List.drop_set_of_lt (Nat.lt_succ_self k)]; exact hdd2.out), key⟩
        case measure => (first | (simp [intOf]; done) | (simp [intOf]; omega))
      · have i1 : decide ((k : Int) < (v.length : Int)) = false := by simp; omega
        have hc0 : v.length < k + 1 := by omega
        go_wp2_with fail
        have ep : (c : Int) = (c : Int) % 4294967296 := by omega
        have key : ∃ u' b' : Nat, IntKind.u64.wrap (IntKind.u64.wrap ((x : Int) - (c : Int)) - (b : Int)) % 4294967296 = (u' : Int) ∧ IntKind.u64.wrap (IntKind.u64.wrap ((x : Int) - (c : Int)) - (b : Int)) / 9223372036854775808 = (b' : Int) ∧
            u' < 4294967296 ∧ b' ≤ 1 ∧ u' + (c + q * 0) + b = x + 4294967296 * (0 + b') := by
          obtain ⟨u', b', f1, f2, f3, f4, f5⟩ := diff_word x c b hxl hb
          rw [← ep] at f1 f2
          exact ⟨u', b', f1, f2, f3, f4, by omega⟩
        obtain ⟨u', b', f1, f2, f3, f4, f5⟩ := key
        rw [f1, f2]
        have key := off_step hdv.out f5
        have evt : v.take k = v.take (k + 1) := by rw [List.take_of_length_le (by omega), List.take_of_length_le (by omega)]
        rw [Nat.mul_zero, Nat.add_zero, evt, ← W.val_take_succ hlx.out, ← W.val_take_set_end _ hkd] at key
        go_roundw
        case rel => exact ⟨k + 1, 0, b', ds.set k u', h0, by go_num, u64_of (by omega), rfl, by omega, f4, fun _ => rfl, hg.set hkd rfl, hw.setCell _ _ (.inl rfl), by (show _ = _; rw [List.length_set]; exact hdl.out), hdw.out.set _ f3, by (show _ = _; rw [List.drop_set_of_lt (Nat.lt_succ_self k)]; exact hdd2.out), key⟩
        case measure => (first | (simp [intOf]; done) | (simp [intOf]; omega))
    · have : k = l.length := by omega
      subst this
      have hc0 := HZ.out hvl
      subst hc0
      have e1 : W.val ds + q * W.val v = W.val l + W.pw l.length * b := by
        have := hdv.out
        rw [List.take_length, ← hdl.out, List.take_length, List.take_of_length_le (by rw [hdl.out]; omega), hdl.out, Nat.zero_add] at this
        exact this
      have hb2 : b = 0 ∨ b = 1 := by omega
      rcases hb2 with rfl | rfl
      · go_wp2
        go_ret
        exact ⟨ds, 0, rfl, by decide, hg, hdw.out, hdl.out, e1, hw⟩
      · go_wp2
        go_ret
        exact ⟨ds, 1, rfl, by decide, hg, hdw.out, hdl.out, e1, hw⟩

set_option maxRecDepth 100000 in
set_option maxHeartbeats 2000000 in
theorem natBack_any (g o : Nat) (pre post : List Value) (l v : List Nat) (bv : Option Addr) (cap cv : Nat) (w : World) (ho : pre.length = o) (h : Wn w g pre l post) (hv : Arr w bv (u32s v)) (hne : ∀ a, bv = some a → a.block ≠ g)
    (hl : l.length ≤ 1000000) (hvl : v.length ≤ l.length) (wl : W.WF l) (wv : W.WF v) :
    Calls Try.prog 175 #[.slice (some ⟨g, o, none⟩) l.length cap, .slice bv v.length cv] w fun e w' => ∃ (u : List Nat) (c : Nat), e = .returned (.tuple #[]) ∧ 
      Wn w' g pre u post ∧ W.WF u ∧ u.length = l.length ∧ W.val u + W.pw l.length * c = W.val l + W.val v ∧ KeptO (· = g) w w' := by
  subst ho
  go_enter Try.func175, Try.ntmps175
  go_wp2_with fail
  go_loopw [4, 8] (fun c i wr => ∃ (k c' : Nat) (ds : List Nat), k ≤ l.length ∧ i = .int .i64 k ∧ c = .int .u64 c' ∧ c' ≤ 1 ∧ Wn wr g pre ds post ∧ KeptO (· = g) w wr ∧ Hid (ds.length = l.length) ∧ Hid (W.WF ds) ∧ Hid (ds.drop k = l.drop k) ∧
    Hid (W.val (ds.take k) + W.pw k * c' = W.val (l.take k) + W.val (v.take k))) (fun _ i _ => (l.length - intOf i).toNat)
  case atStart => exact ⟨0, 0, l, Nat.zero_le _, rfl, rfl, by decide, h, KeptO.refl w, rfl, wl, rfl, by (show _ = _; rw [List.take_zero, List.take_zero, W.val, Nat.mul_zero])⟩
  case round =>
    obtain ⟨k, c, ds, hk, rfl, rfl, hc, hg, hw, hdl, hdw, hdd, hdv⟩ := hrel
    by_cases h0 : k < l.length
    · have hkd : k < ds.length := by rw [hdl.out]; omega
      obtain ⟨x, hx, hx1, hx2⟩ := hg.elem (k := k) hkd
      have hxl := hdw.out.at hx.out
      have hlx : Hid (l[k]? = some x) := by
        show l[k]? = some x
        have := congrArg (fun t : List Nat => t[0]?) hdd.out
        simp only [List.getElem?_drop, Nat.add_zero] at this
        rw [← this]; exact hx.out
      have hdd2 : Hid (ds.drop (k + 1) = l.drop (k + 1)) := by
        show _ = _
        have := congrArg (List.drop 1) hdd.out
        rwa [List.drop_drop, List.drop_drop] at this
      by_cases h1 : k < v.length
      · obtain ⟨y, b2, o2, -, -, hy, rfl, hr1, hr2⟩ := (hw.arr hv (fun a ha => hne a ha)).elem (k := k) h1
        have hyl := wv.at hy.out
        have i1 : (k : Int) < (v.length : Int) := by omega
        go_wp2_with fail
        have key := fun (u' c' : Nat) (f5 : u' + 4294967296 * c' = c + x + y) => back_step hdv.out f5
        rw [← W.val_take_succ hy.out, ← W.val_take_succ hlx.out] at key
        have KEY := Lib.hid key
        clear key
        go_roundw
        case rel => exact ⟨k + 1, (c + x + y) / 4294967296, ds.set k ((c + x + y) % 4294967296), h0, by go_num, u64_of (by omega), by omega, hg.set hkd (u32_of (by omega)), hw.setCell _ _ (.inl rfl), by (show _ = _; rw [List.length_set]; exact hdl.out), hdw.out.set _ (by omega), by (show _ = _; rw [List.drop_set_of_lt (Nat.lt_succ_self k)]; exact hdd2.out), by
          show _ = _
          rw [W.val_take_set_end _ hkd]
          exact KEY.out _ _ (by omega)⟩
        case measure => (first | (simp [intOf]; done) | (simp [intOf]; omega))
      · have i1 : decide ((k : Int) < (v.length : Int)) = false := by simp; omega
        have hc0 : v.length < k + 1 := by omega
        go_wp2_with fail
        have key := fun (u' c' : Nat) (f5 : u' + 4294967296 * c' = c + x + 0) => back_step hdv.out f5
        have evt : v.take k = v.take (k + 1) := by rw [List.take_of_length_le (by omega), List.take_of_length_le (by omega)]
        rw [Nat.mul_zero, Nat.add_zero, evt, ← W.val_take_succ hlx.out] at key
        have KEY := Lib.hid key
        clear key
        go_roundw
        case rel => exact ⟨k + 1, (c + x) / 4294967296, ds.set k ((c + x) % 4294967296), h0, by go_num, u64_of (by omega), by omega, hg.set hkd (u32_of (by omega)), hw.setCell _ _ (.inl rfl), by (show _ = _; rw [List.length_set]; exact hdl.out), hdw.out.set _ (by omega), by (show _ = _; rw [List.drop_set_of_lt (Nat.lt_succ_self k)]; exact hdd2.out), by
          show _ = _
          rw [W.val_take_set_end _ hkd]
          exact KEY.out _ _ (by omega)⟩
        case measure => (first | (simp [intOf]; done) | (simp [intOf]; omega))
    · have : k = l.length := by omega
      subst this
      have e1 : W.val ds + W.pw l.length * c = W.val l + W.val v := by
        have := hdv.out
        rw [List.take_length, ← hdl.out, List.take_length, List.take_of_length_le (by rw [hdl.out]; omega), hdl.out] at this
        exact this
      go_wp2
      refine bodyPost_end (v := .tuple #[]) (by simp [results, Try.results175, go_sem]) rfl ?_
      exact ⟨ds, c, rfl, hg, hdw.out, hdl.out, e1, hw⟩
end Go.Proofs.Ytmeccjlopmjneaa
/- The walk of nat.guess: a word of a quotient out of the first words. -/
namespace Go.Proofs.Ytmeccjlopmjneaa
open Go.RowKit

/-- The first words of two numbers: what a guess goes by. -/
structure Gs (U V top u2 v1 v2 P lu lv : Nat) : Prop where
  hU : U = (top * 4294967296 + u2) * P + lu
  hV : V = (v1 * 4294967296 + v2) * P + lv
  plu : lu < P
  plv : lv < P
  pv1 : 2147483648 ≤ v1
  pv1b : v1 < 4294967296
  pv2 : v2 < 4294967296
  pu2 : u2 < 4294967296
  lt : U < V * 4294967296

section
variable {U V top u2 v1 v2 P lu lv : Nat}
theorem Gs.vpos (h : Gs U V top u2 v1 v2 P lu lv) : 0 < V := by
  have h1 := h.hV
  have : 0 < (v1 * 4294967296 + v2) * P := Nat.mul_pos (by have := h.pv1; omega) (by have := h.plv; omega)
  omega
/-- A multiple that fits, by the first words. -/
theorem Gs.fits (h : Gs U V top u2 v1 v2 P lu lv) {q : Nat} (hq : q * V ≤ U) : q * (v1 * 4294967296 + v2) ≤ top * 4294967296 + u2 := by
  have h1 : q * (v1 * 4294967296 + v2) * P ≤ q * V := by
    rw [Nat.mul_assoc, h.hV]; exact Nat.mul_le_mul_left _ (Nat.le_add_right _ _)
  have h2 : q * (v1 * 4294967296 + v2) * P < (top * 4294967296 + u2 + 1) * P := by
    rw [Nat.add_mul _ 1, Nat.one_mul]
    have := h.hU
    have := h.plu
    omega
  exact Nat.le_of_lt_succ (Nat.lt_of_mul_lt_mul_right h2)
theorem Gs.top_le (h : Gs U V top u2 v1 v2 P lu lv) : top ≤ v1 * 4294967296 + v2 := by
  have h1 : (top * 4294967296) * P ≤ U := by
    have := h.hU
    rw [Nat.add_mul] at this
    omega
  have h2 : V * 4294967296 ≤ (v1 * 4294967296 + v2 + 1) * 4294967296 * P := by
    rw [Nat.mul_right_comm]
    refine Nat.mul_le_mul_right _ ?_
    rw [h.hV, Nat.add_mul _ 1, Nat.one_mul]
    have := h.plv
    omega
  have h3 : top * 4294967296 * P < (v1 * 4294967296 + v2 + 1) * 4294967296 * P := Nat.lt_of_le_of_lt h1 (Nat.lt_of_lt_of_le h.lt h2)
  exact Nat.le_of_lt_succ (Nat.lt_of_mul_lt_mul_right (Nat.lt_of_mul_lt_mul_right h3))
theorem Gs.start (h : Gs U V top u2 v1 v2 P lu lv) : top / v1 * v1 + top % v1 = top ∧ U / V ≤ top / v1 ∧ top % v1 < 4294967296 ∧ top / v1 ≤ 4294967297 := by
  have hv := h.pv1
  refine ⟨by rw [Nat.mul_comm]; exact Nat.div_add_mod _ _, ?_, Nat.lt_trans (Nat.mod_lt _ (by omega)) h.pv1b, ?_⟩
  · rw [Nat.le_div_iff_mul_le (by omega)]
    have h1 := h.fits (Nat.div_mul_le_self U V)
    rw [Nat.mul_add, ← Nat.mul_assoc] at h1
    have := h.pu2
    have h2 : U / V * v1 * 4294967296 < (top + 1) * 4294967296 := by omega
    exact Nat.le_of_lt_succ (Nat.lt_of_mul_lt_mul_right h2)
  · have h1 := h.top_le
    have h2 := h.pv2
    refine Nat.le_of_lt_succ (Nat.div_lt_of_lt_mul ?_)
    omega
theorem Gs.dec (h : Gs U V top u2 v1 v2 P lu lv) {q r : Nat} (hq : q * v1 + r = top) (hQ : U / V ≤ q) (hc : 4294967296 ≤ q ∨ r * 4294967296 + u2 < q * v2) : U / V + 1 ≤ q := by
  rcases Nat.lt_or_ge (U / V) q with h1 | h1
  · exact h1
  · exfalso
    have e : q = U / V := Nat.le_antisymm h1 hQ
    rcases hc with h2 | h2
    · have : U / V < 4294967296 := Nat.div_lt_of_lt_mul h.lt
      omega
    · have h3 := h.fits (q := q) (by rw [e]; exact Nat.div_mul_le_self U V)
      rw [Nat.mul_add, ← Nat.mul_assoc, ← hq, Nat.add_mul] at h3
      omega
theorem Gs.fin (h : Gs U V top u2 v1 v2 P lu lv) {q r : Nat} (hq : q * v1 + r = top) (hB : q ≤ 4294967296) (hc : q * v2 ≤ r * 4294967296 + u2) : q ≤ U / V + 1 := by
  cases q with
  | zero => exact Nat.zero_le _
  | succ p =>
    refine Nat.succ_le_succ ?_
    rw [Nat.le_div_iff_mul_le h.vpos]
    have h1 : (p + 1) * (v1 * 4294967296 + v2) ≤ top * 4294967296 + u2 := by
      rw [Nat.mul_add, ← Nat.mul_assoc, ← hq, Nat.add_mul]
      omega
    have hv := h.pv1
    have h2 : p * (v1 * 4294967296 + v2 + 1) ≤ top * 4294967296 + u2 := by
      rw [Nat.mul_add, Nat.mul_one]
      rw [Nat.add_mul, Nat.one_mul] at h1
      omega
    have h3 : V ≤ (v1 * 4294967296 + v2 + 1) * P := by
      rw [h.hV, Nat.add_mul _ 1, Nat.one_mul]
      have := h.plv
      omega
    have h4 : p * V ≤ (top * 4294967296 + u2) * P := by
      refine Nat.le_trans (Nat.mul_le_mul_left p h3) ?_
      rw [← Nat.mul_assoc]
      exact Nat.mul_le_mul_right _ h2
    have := h.hU
    omega
theorem Gs.brk (h : Gs U V top u2 v1 v2 P lu lv) {q r : Nat} (hB : q ≤ 4294967296) (hr : 4294967296 ≤ r) : q * v2 ≤ r * 4294967296 + u2 := by
  have h1 : q * v2 ≤ 4294967296 * 4294967296 := Nat.mul_le_mul hB (Nat.le_of_lt h.pv2)
  have h2 : 4294967296 * 4294967296 ≤ r * 4294967296 := Nat.mul_le_mul_right _ hr
  omega
end

set_option maxRecDepth 100000 in
set_option maxHeartbeats 4000000 in
theorem natGuess_any (a b : Option Addr) (u v : List Nat) (c d n : Nat) (w : World) (ha : Arr w a (u32s u)) (hb : Arr w b (u32s v)) (wu : W.WF u) (wv : W.WF v) (hu : u.length = n + 3) (hv : v.length = n + 2) (hl : n ≤ 1000000)
    (top u2 v1 v2 P lu lv un u1 : Nat) (h : Gs (W.val u) (W.val v) top u2 v1 v2 P lu lv) (ht : top = un * 4294967296 + u1) (e0 : u[n + 2]? = some un) (e1 : u[n + 1]? = some u1) (e2 : u[n]? = some u2) (e3 : v[n + 1]? = some v1) (e4 : v[n]? = some v2) :
    Calls Try.prog 173 #[.slice a u.length c, .slice b v.length d] w fun e w' => (∃ q : Nat, e = .returned (.int .u64 q) ∧ q ≤ 4294967296 ∧ W.val u / W.val v ≤ q ∧ q ≤ W.val u / W.val v + 1) ∧ ∃ x, w' = w.ext x := by
  obtain ⟨x0, b1, o1, -, -, f0, rfl, g1, k0⟩ := ha.elem (k := n + 2) (by omega)
  obtain ⟨x1, b1', o1', -, -, f1, ee, g1', k1⟩ := ha.elem (k := n + 1) (by omega)
  cases ee
  obtain ⟨x2, b1', o1', -, -, f2, ee, g1', k2⟩ := ha.elem (k := n) (by omega)
  cases ee
  obtain ⟨y1, b2, o2, -, -, f3, rfl, g2, k3⟩ := hb.elem (k := n + 1) (by omega)
  obtain ⟨y2, b2', o2', -, -, f4, ee, g2', k4⟩ := hb.elem (k := n) (by omega)
  cases ee
  cases f0.out.symm.trans e0
  cases f1.out.symm.trans e1
  cases f2.out.symm.trans e2
  cases f3.out.symm.trans e3
  cases f4.out.symm.trans e4
  have b0 := wu.at e0
  have b1l := wu.at e1
  have b2l := wu.at e2
  have b3 := wv.at e3
  have b4 := wv.at e4
  have hv1 := h.pv1
  have H := Lib.hid h
  have HT := Lib.hid ht
  clear ht h e0 e1 e2 e3 e4 f0 f1 f2 f3 f4 ha hb g1' g2'
  rw [hu, hv]
  have i1 : (n : Int) + 2 < (n : Int) + 3 := by omega
  have i2 : (n : Int) + 1 < (n : Int) + 3 := by omega
  have i3 : (n : Int) < (n : Int) + 3 := by omega
  have i4 : (n : Int) + 1 < (n : Int) + 2 := by omega
  have i5 : (n : Int) < (n : Int) + 2 := by omega
  go_enter Try.func173, Try.ntmps173
  go_wp2_with fail
  go_quiet (fail)
  rw [or_low un u1 b0 b1l, ← HT.out]
  have hv0 : ((v1 : Int) == 0) = false := beq_false_of_ne (by omega)
  go_wp2_with fail
  go_quiet (fail)
  obtain ⟨s1, s2, s3, s4⟩ := H.out.start
  have eq : IntKind.u64.wrap ((top : Int) / (v1 : Int)) = ((top / v1 : Nat) : Int) := by
    rw [IntKind.wrap_u64, ← Int.natCast_ediv]
    generalize top / v1 = q0 at *
    omega
  have em : ((top : Int) % (v1 : Int)) = ((top % v1 : Nat) : Int) := (Int.natCast_emod ..).symm
  rw [eq, em]
  clear eq em
  have hQ0 := Lib.hid s2
  have hS1 := Lib.hid s1
  clear s1 s2
  generalize top / v1 = q0 at *
  generalize top % v1 = r0 at *
  go_wp2_with fail
  go_loopw [7, 8] (fun q r wr => ∃ (q' r' : Nat) (x : World), q = .int .u64 q' ∧ r = .int .u64 r' ∧ q' ≤ 4294967297 ∧ r' < 4294967296 ∧ Hid (q' * v1 + r' = top) ∧ Hid (W.val u / W.val v ≤ q') ∧ wr = w.ext x) (fun q _ _ => (intOf q).toNat)
  case atStart => exact ⟨q0, r0, _, rfl, rfl, s4, s3, hS1, hQ0, (World.ext_of (by repeat (first | exact Blw.refl _ | apply Blw.ext | apply Blw.alloc | apply Blw.drewN | apply Blw.drew | refine Blw.setCell ?_ _ _ (by simp)))).symm⟩
  case round =>
    obtain ⟨q, r, x, rfl, rfl, hq, hr, hS, hQ, rfl⟩ := hrel
    have hm := Nat.mul_le_mul hq (Nat.le_of_lt_succ b4)
    have hm2 : (q : Int) * (v2 : Int) ≤ 18446744073709551615 := by rw [← Int.natCast_mul]; omega
    have hm3 : (0 : Int) ≤ (q : Int) * (v2 : Int) := Int.mul_nonneg (Int.natCast_nonneg q) (Int.natCast_nonneg v2)
    clear hm
    by_cases h1 : 4294967296 ≤ q
    · have c1 : ((q : Int) / 4294967296 != 0) = true := by simp; omega
      have hd := Lib.hid (H.out.dec hS.out hQ.out (.inl h1))
      have q1 : 1 ≤ q := by omega
      have eq1 : ((q : Int) - 1) = ((q - 1 : Nat) : Int) := by omega
      have er1 : ((r : Int) + (v1 : Int)) = ((r + v1 : Nat) : Int) := by omega
      have EQ := Lib.hid eq1
      have ER := Lib.hid er1
      clear eq1 er1
      have hS' : Hid ((q - 1) * v1 + (r + v1) = top) := by
        show _ = _
        rw [← hS.out]
        obtain ⟨p, rfl⟩ : ∃ p, q = p + 1 := ⟨q - 1, by omega⟩
        rw [Nat.add_sub_cancel, Nat.add_mul, Nat.one_mul]; omega
      have hQ' : Hid (W.val u / W.val v ≤ q - 1) := by
        have := hd.out
        show _ ≤ _
        generalize W.val u / W.val v = Q at *
        omega
      by_cases h2 : 4294967296 ≤ r + v1
      · have c2 : (((r : Int) + (v1 : Int)) / 4294967296 != 0) = true := by simp; omega
        have hF := Lib.hid (H.out.fin hS'.out (by omega) (H.out.brk (q := q - 1) (by omega) h2))
        go_wp2_with fail
        go_quiet (fail)
        go_wp2_with fail
        go_ret
        exact ⟨⟨q - 1, congrArg (fun i => Ending.returned (.int .u64 i)) EQ.out, by omega, hQ'.out, hF.out⟩, Blw.is (by repeat (first | exact Blw.refl _ | apply Blw.ext | apply Blw.alloc | apply Blw.drewN | apply Blw.drew | refine Blw.setCell ?_ _ _ (by simp)))⟩
      · have c2 : (((r : Int) + (v1 : Int)) / 4294967296 != 0) = false := by simp; omega
        go_wp2_with fail
        go_quiet (fail)
        go_wp2_with fail
        go_roundw
        case rel => exact ⟨q - 1, r + v1, _, congrArg (Value.int .u64) EQ.out, congrArg (Value.int .u64) ER.out, by omega, by omega, hS', hQ', (World.ext_of (by repeat (first | exact Blw.refl _ | apply Blw.ext | apply Blw.alloc | apply Blw.drewN | apply Blw.drew | refine Blw.setCell ?_ _ _ (by simp)))).symm⟩
        case measure => (first | (simp [intOf]; done) | (simp [intOf]; omega))
    · have c1 : ((q : Int) / 4294967296 != 0) = false := by simp; omega
      by_cases h3 : r * 4294967296 + u2 < q * v2
      · have c3 : decide (bits BinOp.or IntKind.u64 ((r : Int) * 4294967296) (u2 : Int) < (q : Int) * (v2 : Int)) = true := by
          rw [or_low r u2 hr b2l, ← Int.natCast_mul]; simp; omega
        have q0 : 0 < q := by
          rcases Nat.eq_zero_or_pos q with e | e
          · rw [e, Nat.zero_mul] at h3; omega
          · exact e
        have hd := Lib.hid (H.out.dec hS.out hQ.out (.inr h3))
        clear h3
        have q1 : 1 ≤ q := by omega
        have eq1 : ((q : Int) - 1) = ((q - 1 : Nat) : Int) := by omega
        have er1 : ((r : Int) + (v1 : Int)) = ((r + v1 : Nat) : Int) := by omega
        have EQ := Lib.hid eq1
        have ER := Lib.hid er1
        clear eq1 er1
        have hS' : Hid ((q - 1) * v1 + (r + v1) = top) := by
          show _ = _
          rw [← hS.out]
          obtain ⟨p, rfl⟩ : ∃ p, q = p + 1 := ⟨q - 1, by omega⟩
          rw [Nat.add_sub_cancel, Nat.add_mul, Nat.one_mul]; omega
        have hQ' : Hid (W.val u / W.val v ≤ q - 1) := by
          have := hd.out
          show _ ≤ _
          generalize W.val u / W.val v = Q at *
          omega
        by_cases h2 : 4294967296 ≤ r + v1
        · have c2 : (((r : Int) + (v1 : Int)) / 4294967296 != 0) = true := by simp; omega
          have hF := Lib.hid (H.out.fin hS'.out (by omega) (H.out.brk (q := q - 1) (by omega) h2))
          go_wp2_with fail
          go_quiet (fail)
          go_wp2_with fail
          go_ret
          exact ⟨⟨q - 1, congrArg (fun i => Ending.returned (.int .u64 i)) EQ.out, by omega, hQ'.out, hF.out⟩, Blw.is (by repeat (first | exact Blw.refl _ | apply Blw.ext | apply Blw.alloc | apply Blw.drewN | apply Blw.drew | refine Blw.setCell ?_ _ _ (by simp)))⟩
        · have c2 : (((r : Int) + (v1 : Int)) / 4294967296 != 0) = false := by simp; omega
          go_wp2_with fail
          go_quiet (fail)
          go_wp2_with fail
          go_roundw
          case rel => exact ⟨q - 1, r + v1, _, congrArg (Value.int .u64) EQ.out, congrArg (Value.int .u64) ER.out, by omega, by omega, hS', hQ', (World.ext_of (by repeat (first | exact Blw.refl _ | apply Blw.ext | apply Blw.alloc | apply Blw.drewN | apply Blw.drew | refine Blw.setCell ?_ _ _ (by simp)))).symm⟩
          case measure => (first | (simp [intOf]; done) | (simp [intOf]; omega))
      · have c3 : decide (bits BinOp.or IntKind.u64 ((r : Int) * 4294967296) (u2 : Int) < (q : Int) * (v2 : Int)) = false := by
          rw [or_low r u2 hr b2l, ← Int.natCast_mul]; simp; omega
        have hF := Lib.hid (H.out.fin hS.out (by omega) (Nat.le_of_not_lt h3))
        clear h3
        go_wp2_with fail
        go_quiet (fail)
        go_wp2_with fail
        go_ret
        exact ⟨⟨q, rfl, by omega, hQ.out, hF.out⟩, Blw.is (by repeat (first | exact Blw.refl _ | apply Blw.ext | apply Blw.alloc | apply Blw.drewN | apply Blw.drew | refine Blw.setCell ?_ _ _ (by simp)))⟩
end Go.Proofs.Ytmeccjlopmjneaa
/- Walks of nat.divide: the short ways. -/
namespace Go.Proofs.Ytmeccjlopmjneaa
open Go.RowKit

/-- Two numbers in memory of the call's own. -/
def RetTwo (w : World) (x y : Nat) (e : Ending) (w' : World) : Prop :=
  ∃ (a1 : Option Addr) (c1 : Nat) (a2 : Option Addr) (c2 : Nat), e = .returned (.tuple #[.slice a1 (W.toW x).length c1, .slice a2 (W.toW y).length c2]) ∧ Blw w w' ∧
    w'.ownsRow w.heap.size 44 1 (.slice a1 (W.toW x).length c1) (W.toW x).length (u32s (W.toW x)) ∧ w'.ownsRow w.heap.size 44 1 (.slice a2 (W.toW y).length c2) (W.toW y).length (u32s (W.toW y))

/-- A copy of words, not none: a block of its own. -/
theorem cloneWords_new (a : Option Addr) (l : List Nat) (cap : Nat) (w : World) (h : Arr w a (u32s l)) (h0 : 0 < l.length) (hlen : l.length ≤ 1099511627776) :
    Calls Try.prog 160 #[.slice a l.length cap] w fun e w' => ∃ (g : Nat) (post : List Value) (x : World), e = .returned (.slice (some ⟨g, 0, none⟩) l.length (l.length + post.length)) ∧ w' = w.ext x ∧ w.heap.size ≤ g ∧ Wn (w.ext x) g [] l post ∧ l.length + post.length ≤ 9223372036854775807 := by
  have hn : a = none → l.length = 0 ∧ cap = 0 := by
    rintro rfl
    obtain ⟨x, b, o, -, -, -, e, -⟩ := h.elem (k := 0) h0
    cases e
  refine (cloneWords_any a l cap w h hn hlen).mono ?_
  rintro e w' ⟨a1, c1, x, rfl, rfl, r1, r2, r3⟩
  obtain ⟨g, post, rfl, hB, hw, -, rfl, hm⟩ := Wn.of_own r1 h0
  exact ⟨g, post, x, rfl, rfl, hB, hw, hm⟩

theorem cmp_lt (x y : Nat) : (decide (W.cmpN x y < 0)) = decide (x < y) := by
  unfold W.cmpN
  by_cases h : x < y
  · simp [h]
  · rw [if_neg h]; by_cases h2 : y < x <;> simp [h, h2]

set_option maxRecDepth 100000 in
set_option maxHeartbeats 1000000 in
theorem natDivide_less (a b : Option Addr) (l m : List Nat) (c d : Nat) (w : World) (h : Arr w a (u32s l)) (k : Arr w b (u32s m)) (hc : l.length ≤ c) (hd : m.length ≤ d) (hcm : c ≤ 9223372036854775807) (hdm : d ≤ 9223372036854775807) (ha : a = none → l.length = 0 ∧ c = 0)
    (wl : W.WF l) (wm : W.WF m) (nl : W.Nrm l) (hl : l.length ≤ 8193) (hlt : W.val l < W.val m) :
    Calls Try.prog 156 #[.slice a l.length c, .slice b m.length d] w (RetTwo w 0 (W.val l)) := by
  have c1 : decide (W.cmpN (W.val l) (W.val m) < 0) = true := by rw [cmp_lt]; simpa using hlt
  have HL := Lib.hid (W.toW_val wl nl)
  go_enter Try.func156, Try.ntmps156
  go_wp2_with fail
  refine Calls.mono (natCompare_any a b l m c d w h k hc hd hcm hdm wl wm) ?_
  rintro e w' ⟨rfl, x, rfl⟩
  go_wp2_with fail
  refine Calls.mono (cloneWords_any a l c _ (h.ext x) ha (by omega)) ?_
  rintro e w' ⟨a1, c1, x1, rfl, rfl, r1, r2, r3⟩
  go_wp2
  go_ret2
  refine ⟨none, 0, a1, c1, ?_, ((Blw.refl w).ext x).ext x1, ?_, ?_⟩
  · rw [HL.out, W.toW_zero]; rfl
  · rw [W.toW_zero]; exact World.ownsRow_nil _ _ _ _
  · rw [HL.out]; exact ownsRow_mono r1 (w.le_ext x)

set_option maxRecDepth 100000 in
set_option maxHeartbeats 4000000 in
theorem natDivide_one (a b : Option Addr) (l : List Nat) (y : Nat) (c d : Nat) (w : World) (h : Arr w a (u32s l)) (k : Arr w b (u32s [y])) (hc : l.length ≤ c) (hd : 1 ≤ d) (hcm : c ≤ 9223372036854775807) (hdm : d ≤ 9223372036854775807)
    (wl : W.WF l) (hy : y < 4294967296) (hy0 : 0 < y) (hl : l.length ≤ 8193) (hge : y ≤ W.val l) :
    Calls Try.prog 156 #[.slice a l.length c, .slice b 1 d] w (RetTwo w (W.val l / y) (W.val l % y)) := by
  have vy : W.val [y] = y := by simp [W.val]
  have l0 : 0 < l.length := by
    cases l with
    | nil => simp [W.val] at hge; omega
    | cons => simp
  have c1 : decide (W.cmpN (W.val l) y < 0) = false := by rw [cmp_lt]; simpa using hge
  obtain ⟨y', b1, o1, -, -, hyy, rfl, hb, hbc⟩ := k.elem (k := 0) (by simp)
  have : y' = y := by have := hyy.out; simpa using this.symm
  subst this
  simp only [Nat.add_zero] at hbc
  have hcmp := natCompare_any a (some ⟨b1, o1, none⟩) l [y'] c d w h k hc hd hcm hdm wl (W.WF.cons hy W.WF.nil)
  rw [vy] at hcmp
  have hmod : W.val l % y' < 18446744073709551616 := Nat.lt_trans (Nat.mod_lt _ hy0) (by omega)
  have hz : hyy = hyy := rfl
  clear hyy hz vy
  go_enter Try.func156, Try.ntmps156
  go_wp2_with fail
  refine Calls.mono hcmp ?_
  rintro e w' ⟨rfl, x, rfl⟩
  go_wp2_with fail
  have hbx : b1 < (w.ext x).drew.heap.size := Nat.lt_of_lt_of_le hb (w.le_ext x)
  have hcx : (w.ext x).drew.cell? ⟨b1, o1, none⟩ = some (.int .u32 y') := by go_simp
  go_region_held3 (fun w' => w'.cell? ⟨b1, o1, none⟩ = some (.int .u32 y')) (first | go_keep | assumption | go_simp) (first
    | (go_at_call 160; refine Calls.mono (cloneWords_new a l c _ ((h.ext x).drew) l0 (by omega)) ?_; rintro e w' ⟨g, post, x1, rfl, rfl, hg, hW, hm⟩; have hS1 := (World.cell?_ext (w.ext x).drew x1 b1 o1 none hbx).trans hcx)
    | (go_at_call 171; refine Calls.mono (natSmall_any g 0 [] post l (l.length + post.length) y' _ rfl hW (by omega) hm (by omega) wl hy0 hy) ?_; rintro e w' ⟨q, rfl, q1, q2, q3, q4, q5⟩; have hS2 := (World.cell?_of_block (a := ⟨b1, o1, none⟩) (q5.block b1 (Nat.lt_of_lt_of_le hbx (World.le_ext _ _)) (by omega))).trans hS1))
  have em : ((W.val l : Int) % (y' : Int)) = ((W.val l % y' : Nat) : Int) := (Int.natCast_emod ..).symm
  rw [em]
  clear em
  have hs := w.le_ext x
  have hgw : w.heap.size ≤ g := Nat.le_trans hs hg
  have ho := q1.own (B := w.heap.size) hgw (by rw [q3]; unfold maxLen; omega)
  have ho2 := own_cut ho q2
  rw [q4, q3] at ho2
  have hb3 : Blw w w' := KeptO.blw ((((Blw.refl w).ext x).drew).ext x1) q5 (fun i hi => by rw [hi]; exact hgw)
  have ml : W.val l % y' < y' := Nat.mod_lt _ hy0
  clear hcmp hge c1 hbc hcx hS1 hS2 k h hW q5
  go_wp2_with fail
  refine Calls.mono (natOf_any (W.val l % y') _ hmod) ?_
  rintro e w2 ⟨a2, c2, x2, rfl, rfl, r1, r2, r3⟩
  go_wp2
  go_ret2
  exact ⟨some ⟨g, 0, none⟩, l.length + post.length, a2, c2, rfl, hb3.ext x2, ownsRow_blw ho2 (w'.blw_ext x2), ownsRow_mono r1 hb3.size⟩
end Go.Proofs.Ytmeccjlopmjneaa
/- The long division by words: plain arithmetic. -/
namespace Go.Proofs.Ytmeccjlopmjneaa.W

theorem val_zero_of_lt {l : List Nat} {k : Nat} (h : val l < pw k) : val (l.drop k) = 0 := by
  rcases Nat.lt_or_ge l.length k with h1 | h1
  · rw [List.drop_eq_nil_of_le (by omega)]; rfl
  · have e := val_split l k h1
    rcases Nat.eq_zero_or_pos (val (l.drop k)) with h2 | h2
    · exact h2
    · have : pw k ≤ pw k * val (l.drop k) := Nat.le_mul_of_pos_right _ h2
      omega
theorem val_take_of_lt {l : List Nat} {k : Nat} (h : val l < pw k) : val (l.take k) = val l := by
  rcases Nat.lt_or_ge l.length k with h1 | h1
  · rw [List.take_of_length_le (by omega)]
  · have e := val_split l k h1
    rw [val_zero_of_lt h] at e
    omega
/-- The number whose first word is made great. -/
theorem norm_len {m : List Nat} (hw : WF m) (hn : Nrm m) {x : Nat} (hx : m.getLast? = some x) : (toW (val m * 2 ^ (32 - bl x))).length = m.length ∧ 2147483648 * pw (m.length - 1) ≤ val m * 2 ^ (32 - bl x) ∧ val m * 2 ^ (32 - bl x) < pw m.length := by
  have h0 : x ≠ 0 := fun e => hn (by rw [hx, e])
  have hl : 0 < m.length := by cases m with | nil => simp at hx | cons => simp
  have hxl : x < 4294967296 := hw x (List.mem_of_getLast? hx)
  have h1 := bl_words hw hx h0
  have h2 := bl_le32 hxl
  have hv : val m ≠ 0 := by have := val_pos hn (by intro e; rw [e] at hx; simp at hx); omega
  have h3 := bl_mul (k := 32 - bl x) hv
  rw [h1, show 32 * (m.length - 1) + bl x + (32 - bl x) = 32 * m.length by omega] at h3
  have h4 := bl_lt_pow (val m * 2 ^ (32 - bl x))
  have h5 := bl_ge (n := val m * 2 ^ (32 - bl x)) (Nat.mul_ne_zero hv (Nat.ne_of_gt (Nat.two_pow_pos _)))
  rw [h3] at h4 h5
  rw [← pw_two] at h4
  have h6 : 2 ^ (32 * m.length - 1) = 2147483648 * pw (m.length - 1) := by
    rw [pw_two, show (2147483648 : Nat) = 2 ^ 31 by decide, ← Nat.pow_add, show 31 + 32 * (m.length - 1) = 32 * m.length - 1 by omega]
  rw [h6] at h5
  refine ⟨Nat.le_antisymm (len_toW_le.2 h4) ?_, h5, h4⟩
  rcases Nat.lt_or_ge (toW (val m * 2 ^ (32 - bl x))).length m.length with h7 | h7
  · exfalso
    have h8 := len_toW_le.1 (show (toW (val m * 2 ^ (32 - bl x))).length ≤ m.length - 1 by omega)
    have := pw_pos (m.length - 1)
    omega
  · exact h7
/-- The first words of a stretch and of the number that goes into it. -/
theorem gs_of {u v : List Nat} {n : Nat} (wu : WF u) (wv : WF v) (hu : u.length = n + 3) (hv : v.length = n + 2) (hb : 2147483648 * pw (n + 1) ≤ val v) (hlt : val u < val v * 4294967296)
    {un u1 u2 v1 v2 : Nat} (e0 : u[n + 2]? = some un) (e1 : u[n + 1]? = some u1) (e2 : u[n]? = some u2) (e3 : v[n + 1]? = some v1) (e4 : v[n]? = some v2) :
    Gs (val u) (val v) (un * 4294967296 + u1) u2 v1 v2 (pw n) (val (u.take n)) (val (v.take n)) := by
  have a0 := val_take_succ e0
  have a1 := val_take_succ e1
  have a2 := val_take_succ e2
  have a3 := val_take_succ e3
  have a4 := val_take_succ e4
  rw [List.take_of_length_le (by omega)] at a0 a3
  have l1 := val_lt (wu.take n)
  have l2 := val_lt (wv.take n)
  have l3 := val_lt (wv.take (n + 1))
  rw [List.length_take, Nat.min_eq_left (by omega)] at l1 l2 l3
  have p1 : pw (n + 1) = 4294967296 * pw n := pw_succ n
  have p2 : pw (n + 2) = 4294967296 * pw (n + 1) := pw_succ (n + 1)
  refine ⟨?_, ?_, l1, l2, ?_, wv.at e3, wv.at e4, wu.at e2, hlt⟩
  · rw [show n + 1 + 1 = n + 2 by omega] at a1
    rw [a0, a1, a2, p2, p1]
    generalize pw n = p
    rw [Nat.add_mul, Nat.mul_right_comm (un * 4294967296 + u1) 4294967296 p, Nat.add_mul, Nat.mul_right_comm un 4294967296 p, Nat.mul_assoc, Nat.mul_assoc, Nat.mul_assoc, Nat.mul_comm p un, Nat.mul_comm p u1, Nat.mul_comm p u2]
    omega
  · rw [a3, a4, p1, Nat.add_mul]
    rw [Nat.mul_comm (pw n) v2, Nat.mul_comm (4294967296 * pw n) v1, Nat.mul_assoc v1]
    omega
  · rcases Nat.lt_or_ge v1 2147483648 with h | h
    · exfalso
      rw [a3] at hb
      have : pw (n + 1) * (v1 + 1) ≤ pw (n + 1) * 2147483648 := Nat.mul_le_mul_left _ h
      rw [Nat.mul_add, Nat.mul_one] at this
      omega
    · exact h

theorem drop_cons {l : List Nat} {k x : Nat} (h : l[k]? = some x) : l.drop k = x :: l.drop (k + 1) := by
  have hk : k < l.length := (List.getElem?_eq_some_iff.1 h).1
  rw [List.drop_eq_getElem_cons hk, (List.getElem?_eq_some_iff.1 h).2]
/-- A round of the division: the quotient's word, and what is left. -/
theorem div_step {ui V S Qs D : Nat} (hV : 0 < V) (hui : ui < 4294967296) (hS : S < V) (h : Qs * V + S = D) :
    (ui + 4294967296 * S) < V * 4294967296 ∧ ((ui + 4294967296 * S) / V + 4294967296 * Qs) * V + (ui + 4294967296 * S) % V = ui + 4294967296 * D := by
  refine ⟨by omega, ?_⟩
  have e := Nat.div_add_mod (ui + 4294967296 * S) V
  rw [Nat.add_mul, Nat.mul_assoc, Nat.mul_comm ((ui + 4294967296 * S) / V) V]
  have : 4294967296 * (Qs * V) + 4294967296 * S = 4294967296 * D := by rw [← Nat.mul_add, h]
  omega
theorem div_round {us us0 qs : List Nat} {V j N : Nat} (hl : j + N + 1 ≤ us.length) (wu : WF us) (hv : V < pw N) (hut : us.take (j + 1) = us0.take (j + 1)) (hlen : us0.length = us.length)
    (hud : val (us.drop (j + 1)) < V) (hqd : val (qs.drop (j + 1)) * V + val (us.drop (j + 1)) = val (us0.drop (j + 1))) (hjq : j < qs.length) :
    ∃ A part R, us = A ++ part ++ R ∧ A.length = j ∧ part.length = N + 1 ∧ WF part ∧ WF A ∧ WF R ∧ val part < V * 4294967296 ∧
      ∀ part' : List Nat, part'.length = N + 1 → val part' = val part % V → (A ++ part' ++ R).take j = us0.take j ∧ val ((A ++ part' ++ R).drop j) < V ∧ val ((qs.set j (val part / V)).drop j) * V + val ((A ++ part' ++ R).drop j) = val (us0.drop j) := by
  have hV : 0 < V := by omega
  have hj : j < us.length := by omega
  obtain ⟨ui, hui⟩ : ∃ ui, us[j]? = some ui := ⟨us[j], List.getElem?_eq_getElem hj⟩
  have hui0 : us0[j]? = some ui := by
    have : (us.take (j + 1))[j]? = some ui := by rw [List.getElem?_take, if_pos (by omega)]; exact hui
    rw [hut, List.getElem?_take, if_pos (by omega)] at this
    exact this
  have hul := wu.at hui
  have d1 := drop_cons hui
  have v1 : val (us.drop j) = ui + 4294967296 * val (us.drop (j + 1)) := by rw [d1, val]
  have v0 : val (us0.drop j) = ui + 4294967296 * val (us0.drop (j + 1)) := by rw [drop_cons hui0, val]
  have hR : val (((us.drop j).drop (N + 1))) = 0 := by
    rw [d1, List.drop_succ_cons]
    exact val_zero_of_lt (Nat.lt_trans hud hv)
  have hp : val ((us.drop j).take (N + 1)) = val (us.drop j) := by
    have e := val_split (us.drop j) (N + 1) (by simp; omega)
    rw [hR] at e
    omega
  obtain ⟨s1, s2⟩ := div_step hV hul hud hqd
  rw [← v1, ← hp] at s1 s2
  refine ⟨us.take j, (us.drop j).take (N + 1), (us.drop j).drop (N + 1), ?_, by simp; omega, by simp; omega, (wu.drop j).take _, wu.take j, (wu.drop j).drop _, s1, ?_⟩
  · rw [List.append_assoc, List.take_append_drop, List.take_append_drop]
  · intro part' hl' hv'
    have hA : (us.take j).length = j := by simp; omega
    have e1 : (us.take j ++ part' ++ (us.drop j).drop (N + 1)).drop j = part' ++ (us.drop j).drop (N + 1) := by
      rw [List.append_assoc, List.drop_append_of_le_length (by omega), List.drop_of_length_le (by omega), List.nil_append]
    have e2 : val (part' ++ (us.drop j).drop (N + 1)) = val part' := by rw [val_app, hR, Nat.mul_zero, Nat.add_zero]
    refine ⟨?_, ?_, ?_⟩
    · rw [List.append_assoc, List.take_append_of_le_length (by omega), List.take_of_length_le (by omega)]
      have := congrArg (List.take j) hut
      rwa [List.take_take, List.take_take, Nat.min_eq_left (by omega)] at this
    · rw [e1, e2, hv']; exact Nat.mod_lt _ hV
    · rw [e1, e2, hv', v0, drop_cons (x := val ((us.drop j).take (N + 1)) / V) (by rw [List.getElem?_set_self hjq]), List.drop_set_of_lt (Nat.lt_succ_self j), val]
      exact s2
/-- What is taken off, and added back. -/
theorem off_is {U V P x part b : Nat} (hV : V < P) (hV0 : 0 < V) (hU : U < P) (hx : U / V ≤ x) (hx2 : x ≤ U / V + 1) (hp : part < P) (h : part + x * V = U + P * b) (hb : b ≤ 1) :
    (b = 0 ∧ x = U / V ∧ part = U % V) ∨ (b = 1 ∧ x = U / V + 1 ∧ ∀ part2 c, part2 < P → part2 + P * c = part + V → part2 = U % V) := by
  have e := Nat.div_add_mod U V
  have hm := Nat.mod_lt U hV0
  generalize U / V = Q at *
  generalize U % V = R at *
  have hb2 : b = 0 ∨ b = 1 := by omega
  have hx3 : x = Q ∨ x = Q + 1 := by omega
  rcases hb2 with rfl | rfl
  · left
    rcases hx3 with rfl | rfl
    · refine ⟨rfl, rfl, ?_⟩
      rw [Nat.mul_comm] at h; omega
    · exfalso
      rw [Nat.add_mul, Nat.one_mul, Nat.mul_comm] at h
      omega
  · right
    rcases hx3 with rfl | rfl
    · exfalso
      rw [Nat.mul_comm] at h; omega
    · refine ⟨rfl, rfl, ?_⟩
      intro part2 c h2 h3
      rw [Nat.add_mul, Nat.one_mul, Nat.mul_comm Q V] at h
      have hc : c = 0 ∨ c = 1 ∨ 2 ≤ c := by omega
      rcases hc with rfl | rfl | hc
      · omega
      · omega
      · have : P * 2 ≤ P * c := Nat.mul_le_mul_left _ hc
        omega
theorem div_end {A M k q r : Nat} (h : q * (M * 2 ^ k) + r = A * 2 ^ k) (hr : r < M * 2 ^ k) : q = A / M ∧ r / 2 ^ k = A % M := by
  have hp : 0 < 2 ^ k := Nat.two_pow_pos k
  have hM : 0 < M := Nat.pos_of_ne_zero (by rintro rfl; simp at hr)
  have e1 : q = A * 2 ^ k / (M * 2 ^ k) := by
    rw [← h, Nat.add_comm, Nat.add_mul_div_right _ _ (Nat.mul_pos hM hp), Nat.div_eq_of_lt hr, Nat.zero_add]
  have e2 : r = A * 2 ^ k % (M * 2 ^ k) := by
    rw [← h, Nat.add_comm, Nat.add_mul_mod_self_right, Nat.mod_eq_of_lt hr]
  rw [Nat.mul_div_mul_right _ _ hp] at e1
  rw [Nat.mul_mod_mul_right] at e2
  refine ⟨e1, ?_⟩
  rw [e2, Nat.mul_div_cancel _ hp]
end Go.Proofs.Ytmeccjlopmjneaa.W
/- The walk of nat.divide: the long way. -/
namespace Go.Proofs.Ytmeccjlopmjneaa
open Go.RowKit

theorem lead32_nat (x : Nat) (w : World) (h : x < 4294967296) :
    Calls Try.prog 172 #[.int .u32 x] w fun e w' => e = .returned (.int .i64 ((32 - W.bl x : Nat) : Int)) ∧ w' = w := by
  refine (lead32_any x w (by omega) (by omega)).mono ?_
  rintro e w' ⟨rfl, rfl⟩
  have := W.bl_le32 h
  refine ⟨ret_i64 ?_, rfl⟩
  rw [Int.toNat_natCast, W.bitLen_bl h]
  omega

set_option maxRecDepth 100000 in
set_option maxHeartbeats 8000000 in
theorem natDivide_long (a b : Option Addr) (l m : List Nat) (n : Nat) (c d : Nat) (w : World) (h : Arr w a (u32s l)) (k : Arr w b (u32s m)) (hc : l.length ≤ c) (hd : m.length ≤ d) (hcm : c ≤ 9223372036854775807) (hdm : d ≤ 9223372036854775807)
    (wl : W.WF l) (wm : W.WF m) (nm : W.Nrm m) (hl : l.length ≤ 8193) (hm : m.length = n + 2) (hge : W.val m ≤ W.val l) :
    Calls Try.prog 156 #[.slice a l.length c, .slice b m.length d] w (RetTwo w (W.val l / W.val m) (W.val l % W.val m)) := by
  have c1 : decide (W.cmpN (W.val l) (W.val m) < 0) = false := by rw [cmp_lt]; simpa using hge
  have hml : m.length ≤ l.length := by
    have h1 := W.val_lt wl
    rcases Nat.lt_or_ge l.length m.length with h2 | h2
    · have := W.val_lt_len wl nm h2; omega
    · exact h2
  have c2 : ((m.length : Int) == 1) = false := beq_false_of_ne (by omega)
  obtain ⟨x, b1, o1, -, -, hx, rfl, hb, hbc⟩ := k.elem (k := m.length - 1) (by omega)
  have hlast : m.getLast? = some x := by rw [List.getLast?_eq_getElem?]; exact hx.out
  obtain ⟨N1, N2, N3⟩ := W.norm_len wm nm hlast
  have hxl := wm.at hx.out
  obtain ⟨s, hs⟩ : ∃ s, s = 32 - W.bl x := ⟨_, rfl⟩
  have hx0 : x ≠ 0 := fun e => nm (by rw [hlast, e])
  have hs32 : s < 32 := by have : W.bl x ≠ 0 := (by intro e; rw [W.bl_pos hx0] at e; omega); omega
  rw [← hs] at N1 N2 N3
  have hml1 : 0 < m.length := by omega
  have i1 : ((m.length : Int) - 1) < (m.length : Int) := by omega
  have HL := Lib.hid hlast
  have HS := Lib.hid hs
  have HN1 := Lib.hid N1
  have HN2 := Lib.hid N2
  have HN3 := Lib.hid N3
  have HGE := Lib.hid hge
  have HM := Lib.hid hm
  have hm2 : 2 ≤ m.length := by omega
  clear hm
  clear hlast hs hx N1 N2 N3 hge
  go_enter Try.func156, Try.ntmps156
  go_wp2_with fail
  refine Calls.mono (natCompare_any a _ l m c d w h k hc hd hcm hdm wl wm) ?_
  rintro e w' ⟨rfl, x0, rfl⟩
  go_wp2_with fail
  refine Calls.mono (lead32_nat x _ hxl) ?_
  rintro e w' ⟨rfl, rfl⟩
  rw [← HS.out]
  go_wp2_with fail
  refine Calls.mono (natUp_any _ m d s _ (k.ext x0) (by omega) wm hs32) ?_
  rintro e w1 ⟨rfl, vs, hvB, hvL, hvW, hvV, hv1⟩
  go_wp2_with fail
  obtain ⟨gv, hgv⟩ : ∃ gv, gv = (w.ext x0).heap.size := ⟨_, rfl⟩
  have hcut := natCut_any (some ⟨gv, 0, none⟩) vs (m.length + 1) w1 (by rw [hgv]; exact hvB.arr) (by omega) (by omega) hvW
  have hvA0 := arr_pre (by rw [hgv]; exact hvB.arr : Arr w1 (some ⟨gv, 0, none⟩) (u32s vs)) (W.toW_pre hvW)
  rw [hvL, hvV, HN1.out] at hcut
  rw [hvV] at hvA0
  obtain ⟨vv, hvv⟩ : ∃ vv, vv = W.toW (W.val m * 2 ^ s) := ⟨_, rfl⟩
  have vvL := HN1.out
  have vvW := W.wf_toW (W.val m * 2 ^ s)
  have vvV := W.val_toW (W.val m * 2 ^ s)
  rw [← hvv] at vvL vvW vvV hvA0
  have VVV := Lib.hid vvV
  have VVL := Lib.hid vvL
  have hB1 : Blw w w1 := ((Blw.refl w).ext x0).trans hv1
  have hgv1 : gv < w1.heap.size := by rw [hgv]; exact hvB.lt
  have hgv0 : w.heap.size ≤ gv := by rw [hgv]; exact w.le_ext x0
  clear hvB hvL hvW hvV vvV vvL HN1
  rw [← hgv]
  clear hgv hvv
  refine Calls.mono hcut ?_
  rintro e w' ⟨rfl, rfl⟩
  clear hcut
  go_wp2_with fail
  refine Calls.mono (natUp_any a l c s _ (h.blw hB1) (by omega) wl hs32) ?_
  rintro e w2 ⟨rfl, us0, huB, huL, huW, huV, hu1⟩
  obtain ⟨gu, hgu⟩ : ∃ gu, gu = w'.heap.size := ⟨_, rfl⟩
  rw [← hgu] at huB
  have hvA := hvA0.blw hu1
  have hB2 : Blw w w2 := hB1.trans hu1
  have hgu1 : gv < gu := by omega
  have hlq : (l.length : Int) + 1 - (m.length : Int) = ((l.length + 1 - m.length : Nat) : Int) := by omega
  obtain ⟨nq, hnq⟩ : ∃ nq, nq = l.length + 1 - m.length := ⟨_, rfl⟩
  rw [← hnq] at hlq
  have HLQ := Lib.hid hlq
  have HNQ := Lib.hid hnq
  have hnq1 : nq ≤ 8194 := by omega
  clear hlq hnq
  go_wp2_with (refine wpList_words _ rfl _ _ rfl .i64 .i64 _ _ nq rfl rfl HLQ.out HLQ.out (by omega) ?_; intro w3 hqB hq1)
  obtain ⟨gq, hgq⟩ : ∃ gq, gq = w2.heap.size := ⟨_, rfl⟩
  rw [← hgq] at hqB ⊢
  have hguq : gu < gq := by rw [hgq]; exact huB.lt
  have huB3 := huB.blw hq1
  have hvA3 := hvA.blw hq1
  have hB3 : Blw w w3 := hB2.trans hq1
  have hgu0 : w.heap.size ≤ gu := by omega
  have HUL := Lib.hid huL
  have HUV := Lib.hid huV
  subst hgu
  clear hgq hvA hvA0 huB h k hb hbc hu1 hv1 hB1 hB2 hq1 c1 c2 huL huV i1 hgv1
  -- the words of the dividend from the last place on are below the divisor
  have hstart : Hid (W.val (us0.drop nq) < W.val vv) := by
    show _ < _
    have e := W.val_split us0 nq (by rw [HUL.out]; have := HNQ.out; omega)
    rw [HUV.out] at e
    have h1 := W.val_lt wl
    have h2 : W.pw l.length = W.pw nq * W.pw (m.length - 1) := by rw [← W.pw_add]; congr 1; have := HNQ.out; omega
    have h3 : (2 : Nat) ^ s ≤ 2147483648 := Nat.pow_le_pow_right (n := 2) (by decide) (show s ≤ 31 by omega)
    have h4 : W.val l * 2 ^ s < W.pw l.length * 2 ^ s := Nat.mul_lt_mul_of_pos_right h1 (Nat.two_pow_pos s)
    have h5 : W.pw nq * W.val (us0.drop nq) < W.pw nq * (W.pw (m.length - 1) * 2 ^ s) := by
      rw [← Nat.mul_assoc, ← h2]; omega
    have h6 := Nat.lt_of_mul_lt_mul_left h5
    have h7 : W.pw (m.length - 1) * 2 ^ s ≤ W.pw (m.length - 1) * 2147483648 := Nat.mul_le_mul_left _ h3
    have h8 := HN2.out
    rw [VVV.out]
    rw [Nat.mul_comm 2147483648] at h8
    exact Nat.lt_of_lt_of_le h6 (Nat.le_trans h7 h8)
  have hvv0 : Hid (2147483648 * W.pw (n + 1) ≤ W.val vv) := by
    show _ ≤ _
    rw [VVV.out]
    have := HN2.out
    rwa [HM.out] at this
  have hvvlt : Hid (W.val vv < W.pw m.length) := by
    show _ < _
    rw [VVV.out]; exact HN3.out
  go_loopw [11] (fun i wr => ∃ (k : Nat) (us qs : List Nat), k ≤ nq ∧ i = .int .i64 ((k : Int) - 1) ∧ Bk wr w'.heap.size us ∧ Bk wr gq qs ∧ Arr wr (some ⟨gv, 0, none⟩) (u32s vv) ∧ Blw w wr ∧ Hid (us.length = l.length + 1) ∧ Hid (qs.length = nq) ∧ Hid (W.WF us) ∧ Hid (W.WF qs) ∧
    Hid (us.take k = us0.take k) ∧ Hid (W.val (us.drop k) < W.val vv) ∧ Hid (W.val (qs.drop k) * W.val vv + W.val (us.drop k) = W.val (us0.drop k))) (fun i _ => (intOf i + 1).toNat)
  case atStart => exact ⟨nq, us0, _, Nat.le_refl _, rfl, huB3, hqB, hvA3, hB3, HUL, List.length_replicate, huW, W.WF.rep _, rfl, hstart, by
    show _ = _
    rw [List.drop_of_length_le (by simp), W.val, Nat.zero_mul, Nat.zero_add]⟩
  case round =>
    obtain ⟨k, us, qs, hk, rfl, hgU, hgQ, hvA, hB, hul, hql, huw, hqw, hut, hud, hqd⟩ := hrel
    by_cases h0 : 0 < k
    · obtain ⟨j, rfl⟩ : ∃ j, k = j + 1 := ⟨k - 1, by omega⟩
      have ej : (((j + 1 : Nat) : Int) - 1) = (j : Int) := by omega
      rw [ej]
      clear ej
      have hjl : j + m.length + 1 ≤ l.length + 1 := by have := HNQ.out; omega
      have i0 : (0 : Int) ≤ (j : Int) := by omega
      clear h0
      have vvl := VVL.out
      obtain ⟨A, part, R, rfl, hA, hpl, hpw, hAw, hRw, hlt, hnew⟩ := W.div_round (N := m.length) (by rw [hul.out]; exact hjl) huw.out hvvlt.out hut.out (by rw [hul.out]; exact HUL.out) hud.out hqd.out (by rw [hql.out]; omega)
      have hW := hgU.split
      have hAL : (u32s A).length = j := by rw [u32s_len]; exact hA
      have hPA : Arr wr (some ⟨w'.heap.size, j, none⟩) (u32s part) := by have := hW.arr; rwa [hAL] at this
      have hpn : part.length = n + 3 := by rw [hpl, HM.out]
      have hvn : vv.length = n + 2 := by rw [vvl, HM.out]
      have hn1 : n ≤ 1000000 := by have := HM.out; omega
      have E0 := List.getElem?_eq_getElem (l := part) (i := n + 2) (by omega)
      have E1 := List.getElem?_eq_getElem (l := part) (i := n + 1) (by omega)
      have E2 := List.getElem?_eq_getElem (l := part) (i := n) (by omega)
      have E3 := List.getElem?_eq_getElem (l := vv) (i := n + 1) (by omega)
      have E4 := List.getElem?_eq_getElem (l := vv) (i := n) (by omega)
      have hguess := natGuess_any (some ⟨w'.heap.size, j, none⟩) (some ⟨gv, 0, none⟩) part vv (l.length + 1 - j) (m.length + 1) n wr hPA hvA hpw vvW hpn hvn hn1 _ _ _ _ _ _ _ _ _ (W.gs_of hpw vvW hpn hvn hvv0.out hlt E0 E1 E2 E3 E4) rfl E0 E1 E2 E3 E4
      rw [hpl, vvl] at hguess
      have hcapj : j + m.length + 1 - j = m.length + 1 := by omega
      have hvpos : 0 < W.val vv := by have := hud.out; omega
      have hQB : W.val part / W.val vv < 4294967296 := Nat.div_lt_of_lt_mul hlt
      have hPL := W.val_lt hpw
      have HPL := Lib.hid hpl
      have HNEW := Lib.hid hnew
      have HLT := Lib.hid hlt
      have HQB := Lib.hid hQB
      have HPLT := Lib.hid hPL
      have HVP := Lib.hid hvpos
      have HVL := Lib.hid vvl
      clear E0 E1 E2 E3 E4 hnew hlt hQB hPL hvpos hpl hpn hvn
      go_wp2_with fail
      rw [hcapj]
      refine Calls.mono hguess ?_
      rintro e w4 ⟨⟨q, rfl, hq1, hq2, hq3⟩, x4, rfl⟩
      clear hguess
      have hoff := natOff_any w'.heap.size j (u32s A) (u32s R) part vv (some ⟨gv, 0, none⟩) (l.length + 1 - j) (m.length + 1) q (wr.ext x4) hAL (hW.blw (wr.blw_ext x4)) (hvA.ext x4) (fun a ha => by cases ha; exact Nat.ne_of_lt hgu1) (by rw [HPL.out]; omega) (by rw [HPL.out, HVL.out]; omega) hpw vvW hq1
      rw [HPL.out, HVL.out] at hoff
      have HQ2 := Lib.hid hq2
      have HQ3 := Lib.hid hq3
      clear hq2 hq3
      go_wp2_with fail
      refine Calls.mono hoff ?_
      rintro e w5 ⟨u5, b5, rfl, hb5, hW5, hu5w, hu5l, hu5v, hK5⟩
      clear hoff
      have hP : W.val vv < W.pw (m.length + 1) := by
        have := hvvlt.out
        rw [W.pw_succ]
        generalize W.pw m.length = p at *
        omega
      have hU : W.val part < W.pw (m.length + 1) := by have := HPLT.out; rwa [HPL.out] at this
      have h5 : W.val u5 < W.pw (m.length + 1) := by have := W.val_lt hu5w; rwa [hu5l] at this
      have hcases := W.off_is hP HVP.out hU HQ2.out HQ3.out h5 hu5v hb5
      have hQ5 := (hgQ.ext x4).keptO hK5 (Nat.ne_of_gt hguq)
      have hA5 := hK5.arr (hvA.ext x4) (fun q hq => by cases hq; exact Nat.ne_of_lt hgu1)
      have hB5 : Blw w w5 := KeptO.blw (hB.ext x4) hK5 (fun i hi => by rw [hi]; exact hgu0)
      have hgq0 : w.heap.size ≤ gq := by omega
      have hjn : j < nq := by omega
      have hqQ := HQB.out
      clear hP hU h5 hu5v hgQ hvA hB hK5 hgU hW hPA HQ2 HQ3 HPLT
      rcases hcases with ⟨rfl, hq, hv5⟩ | ⟨rfl, hq, hv5⟩
      · have HV := Lib.hid hv5
        have HQ := Lib.hid hq
        have hql1 : q < 4294967296 := by rw [hq]; exact hqQ
        clear hv5 hq hqQ
        obtain ⟨z, hz, hz1, hz2⟩ := hQ5.elem (k := j) (by rw [hql.out]; exact hjn)
        go_wp2_with fail
        go_roundw
        case rel =>
          obtain ⟨t1, t2, t3⟩ := HNEW.out u5 hu5l HV.out
          exact ⟨j, A ++ u5 ++ R, qs.set j (W.val part / W.val vv), by omega, rfl, (Bk.join hW5).far _ _ (Nat.ne_of_lt hguq), hQ5.set j (u32_of (by rw [← HQ.out])), (KeptO.arr (O := (· = gq)) ((KeptO.refl w5).setCell _ _ (.inl rfl)) hA5 (fun q hq => by cases hq; show gv ≠ gq; omega)), hB5.setCell _ _ hgq0, by
            show _ = _
            have := hul.out
            simp only [List.length_append] at this ⊢
            rw [hu5l]; rw [HPL.out] at this; exact this, by (show _ = _; rw [List.length_set]; exact hql.out), (hAw.app hu5w).app hRw, hqw.out.set _ HQB.out, t1, t2, t3⟩
        case measure => (first | (simp [intOf]; done) | (simp [intOf]; omega))
      · have HV := Lib.hid hv5
        have HQ := Lib.hid hq
        have hql1 : q - 1 < 4294967296 := by rw [hq]; generalize W.val part / W.val vv = Q at *; omega
        have hq0 : 1 ≤ q := by rw [hq]; exact Nat.succ_pos _
        clear hv5 hq hqQ
        have hback := natBack_any w'.heap.size j (u32s A) (u32s R) u5 vv (some ⟨gv, 0, none⟩) (l.length + 1 - j) (m.length + 1) w5 hAL hW5 hA5 (fun a ha => by cases ha; exact Nat.ne_of_lt hgu1) (by rw [hu5l]; omega) (by rw [hu5l, HVL.out]; omega) hu5w vvW
        rw [hu5l, HVL.out] at hback
        go_wp2_with fail
        refine Calls.mono hback ?_
        rintro e w6 ⟨u6, c6, rfl, hW6, hu6w, hu6l, hu6v, hK6⟩
        clear hback
        have hu6l' : u6.length = m.length + 1 := hu6l
        have h6 : W.val u6 < W.pw (m.length + 1) := by have := W.val_lt hu6w; rwa [hu6l'] at this
        have HV6 := Lib.hid (HV.out (W.val u6) c6 h6 hu6v)
        have hQ6 := hQ5.keptO hK6 (Nat.ne_of_gt hguq)
        have hA6 := hK6.arr hA5 (fun q hq => by cases hq; exact Nat.ne_of_lt hgu1)
        have hB6 : Blw w w6 := KeptO.blw hB5 hK6 (fun i hi => by rw [hi]; exact hgu0)
        have hqe : ((q : Int) - 1) = ((q - 1 : Nat) : Int) := by omega
        have HQE := Lib.hid hqe
        clear h6 hu6v hQ5 hA5 hB5 hK6 hW5 hqe
        obtain ⟨z, hz, hz1, hz2⟩ := hQ6.elem (k := j) (by rw [hql.out]; exact hjn)
        go_wp2_with fail
        go_roundw
        case rel =>
          obtain ⟨t1, t2, t3⟩ := HNEW.out u6 hu6l' HV6.out
          exact ⟨j, A ++ u6 ++ R, qs.set j (W.val part / W.val vv), by omega, rfl, (Bk.join hW6).far _ _ (Nat.ne_of_lt hguq), hQ6.set j (u32_of (by
            have e : q - 1 = W.val part / W.val vv := by rw [HQ.out]; rfl
            rw [← e]; omega)), (KeptO.arr (O := (· = gq)) ((KeptO.refl w6).setCell _ _ (.inl rfl)) hA6 (fun q hq => by cases hq; show gv ≠ gq; omega)), hB6.setCell _ _ hgq0, by
            show _ = _
            have := hul.out
            simp only [List.length_append] at this ⊢
            rw [hu6l']; rw [HPL.out] at this; exact this, by (show _ = _; rw [List.length_set]; exact hql.out), (hAw.app hu6w).app hRw, hqw.out.set _ HQB.out, t1, t2, t3⟩
        case measure => (first | (simp [intOf]; done) | (simp [intOf]; omega))
    · have : k = 0 := by omega
      subst this
      have e0 : (((0 : Nat) : Int) - 1) = -1 := by omega
      rw [e0]
      have hfin : W.val qs * (W.val m * 2 ^ s) + W.val us = W.val l * 2 ^ s := by
        have := hqd.out
        rw [List.drop_zero, List.drop_zero, List.drop_zero, VVV.out, HUV.out] at this
        exact this
      have hfin2 : W.val us < W.val m * 2 ^ s := by
        have := hud.out
        rw [List.drop_zero, VVV.out] at this
        exact this
      have hlow : W.val (us.take m.length) = W.val us := W.val_take_of_lt (Nat.lt_trans hfin2 HN3.out)
      obtain ⟨r1, r2⟩ := W.div_end hfin hfin2
      clear h0 e0
      have vvl := VVL.out
      obtain ⟨t, ht⟩ := W.toW_pre huw.out
      obtain ⟨p, hp⟩ : ∃ p, p = W.toW (W.val us) := ⟨_, rfl⟩
      rw [← hp] at ht
      have hpw : W.WF p := by rw [hp]; exact W.wf_toW _
      have hpv : W.val p = W.val us := by rw [hp, W.val_toW]
      have hpl : p.length ≤ m.length := by rw [hp]; exact W.len_toW_le.2 (Nat.lt_trans hfin2 HN3.out)
      have hBp : Bk wr w'.heap.size (([] : List Nat) ++ p ++ t) := by rw [List.nil_append, ht]; exact hgU
      have hWp : Wn wr w'.heap.size [] p (u32s t) := hBp.split
      have hcq : ∀ Z, Bk Z gq qs → Calls Try.prog 157 #[.slice (some ⟨gq, 0, none⟩) nq nq] Z fun e w2 => e = .returned (.slice (some ⟨gq, 0, none⟩) (W.toW (W.val l / W.val m)).length nq) ∧ w2 = Z := by
        intro Z hW
        have := natCut_any (some ⟨gq, 0, none⟩) qs nq Z hW.arr (by rw [hql.out]; omega) (by omega) hqw.out
        rw [hql.out, r1] at this; exact this
      have hcu : ∀ Z, Bk Z w'.heap.size us → Calls Try.prog 157 #[.slice (some ⟨w'.heap.size, 0, none⟩) m.length (l.length + 1)] Z fun e w2 => e = .returned (.slice (some ⟨w'.heap.size, 0, none⟩) p.length (l.length + 1)) ∧ w2 = Z := by
        intro Z hW
        have hpre : us.take m.length <+: us := List.take_prefix _ _
        have := natCut_any (some ⟨w'.heap.size, 0, none⟩) (us.take m.length) (l.length + 1) Z (arr_pre hW.arr hpre) (by simp; omega) (by omega) (huw.out.take _)
        rw [hlow, ← hp, List.length_take, hul.out, Nat.min_eq_left (by omega)] at this; exact this
      have hdn : ∀ Z, Wn Z w'.heap.size [] p (u32s t) → Calls Try.prog 169 #[.slice (some ⟨w'.heap.size, 0, none⟩) p.length (l.length + 1), .int .u64 s] Z fun e w2 => ∃ q : List Nat, e = .returned (.slice (some ⟨w'.heap.size, 0, none⟩) (W.toW (W.val l % W.val m)).length (l.length + 1)) ∧
          Wn w2 w'.heap.size [] q (u32s t) ∧ W.WF q ∧ q.length = p.length ∧ W.val q = W.val l % W.val m ∧ KeptO (· = w'.heap.size) Z w2 := by
        intro Z hW
        have := natDown_any w'.heap.size 0 [] (u32s t) p (l.length + 1) s Z rfl hW (by omega) (by omega) (by omega) hpw hs32
        rw [hpv, r2] at this; exact this
      have hwd : Wn wr.drew w'.heap.size [] p (u32s t) := hWp
      have hqd0 : Bk wr.drew gq qs := hgQ
      have hud0 : Bk wr.drew w'.heap.size us := hgU
      have hml2 : m.length ≤ l.length + 1 := by omega
      have HQL := Lib.hid r1
      have hpt : Hid (p.length + t.length = l.length + 1) := by show _ = _; rw [← hul.out, ← ht, List.length_append]
      have HCQ := Lib.hid hcq
      have HCU := Lib.hid hcu
      have HDN := Lib.hid hdn
      clear hfin hfin2 hlow r1 r2 hcq hcu hdn hp ht hpv hBp
      go_wp2_with fail
      go_region_with (first
        | (go_at_call 157; (first | (with_reducible refine Calls.mono (HCU.out _ hud0) ?_) | (with_reducible refine Calls.mono (HCQ.out _ hqd0) ?_) | (with_reducible refine Calls.mono (HCQ.out _ hqd1) ?_)); rintro e w2 ⟨rfl, rfl⟩)
        | (go_at_call 169; (with_reducible refine Calls.mono (HDN.out _ hwd) ?_); rintro e w5 ⟨q5, rfl, hW5, hw5, hl5, hv5, hK5⟩; have hqd1 := hqd0.keptO hK5 (Nat.ne_of_gt hguq)))
      all_goals
        have hBf : Blw w w5 := KeptO.blw hB.drew hK5 (fun i hi => by rw [hi]; exact hgu0)
        have o1 := own_cut (hqd1.own (B := w.heap.size) (by omega) (by rw [hql.out]; unfold maxLen; omega)) hqw.out
        rw [hql.out, HQL.out] at o1
        have o2 := own_cut (hW5.own (B := w.heap.size) hgu0 (by rw [u32s_len, hl5, hpt.out]; unfold maxLen; omega)) hw5
        rw [u32s_len, hl5, hpt.out, hv5] at o2
        clear HCQ HCU HDN hqd1 hW5 hK5
        go_wp2
        go_ret2
        exact ⟨_, _, _, _, rfl, hBf, o1, o2⟩
end Go.Proofs.Ytmeccjlopmjneaa
/- nat.divide, DivMod, Mul: the contracts. -/
namespace Go.Proofs.Ytmeccjlopmjneaa
open Go.RowKit

theorem natDivide_any (a b : Option Addr) (l m : List Nat) (c d : Nat) (w : World) (h : Arr w a (u32s l)) (k : Arr w b (u32s m)) (hc : l.length ≤ c) (hd : m.length ≤ d) (hcm : c ≤ 9223372036854775807) (hdm : d ≤ 9223372036854775807) (ha : a = none → l.length = 0 ∧ c = 0)
    (wl : W.WF l) (wm : W.WF m) (nl : W.Nrm l) (nm : W.Nrm m) (hl : l.length ≤ 8193) (hm : 0 < m.length) :
    Calls Try.prog 156 #[.slice a l.length c, .slice b m.length d] w (RetTwo w (W.val l / W.val m) (W.val l % W.val m)) := by
  rcases Nat.lt_or_ge (W.val l) (W.val m) with hlt | hge
  · rw [Nat.div_eq_of_lt hlt, Nat.mod_eq_of_lt hlt]
    exact natDivide_less a b l m c d w h k hc hd hcm hdm ha wl wm nl hl hlt
  · rcases Nat.lt_or_ge m.length 2 with h2 | h2
    · obtain ⟨y, rfl⟩ : ∃ y, m = [y] := List.length_eq_one_iff.1 (by omega)
      have vy : W.val [y] = y := by rw [W.val, W.val, Nat.mul_zero, Nat.add_zero]
      rw [vy] at hge ⊢
      have y0 : 0 < y := by have := W.val_pos nm (by simp); rwa [vy] at this
      exact natDivide_one a b l y c d w h k hc hd hcm hdm wl (wm y (by simp)) y0 hl hge
    · obtain ⟨n, hn⟩ : ∃ n, m.length = n + 2 := ⟨m.length - 2, by omega⟩
      exact natDivide_long a b l m n c d w h k hc hd hcm hdm wl wm nm hl hn hge

/-- Numbers that may be. -/
theorem chk_zero {l : List Nat} (h : l.length ≤ 8192) (n : W.Nrm l) : chk l = 0 := by
  unfold chk; rw [if_neg (by omega), if_neg n]

/-- A number of the call's own and no error. -/
def RetOk (w : World) (n : Nat) (e : Ending) (w' : World) : Prop :=
  ∃ (a : Option Addr) (c : Nat), e = .returned (.tuple #[.slice a (W.toW n).length c, .int .i64 0]) ∧ Blw w w' ∧ w'.ownsRow w.heap.size 44 1 (.slice a (W.toW n).length c) (W.toW n).length (u32s (W.toW n))

set_option maxRecDepth 100000 in
set_option maxHeartbeats 1000000 in
theorem natMul_any (a b : Option Addr) (l m : List Nat) (c d : Nat) (w : World) (h : Arr w a (u32s l)) (k : Arr w b (u32s m)) (wl : W.WF l) (wm : W.WF m) (nl : W.Nrm l) (nm : W.Nrm m) (hs : l.length + m.length ≤ 8192) :
    Calls Try.prog 161 #[.slice a l.length c, .slice b m.length d] w (RetOk w (W.val l * W.val m)) := by
  have c1 := chk_zero (l := l) (by omega) nl
  have c2 := chk_zero (l := m) (by omega) nm
  by_cases h0 : l.length = 0 ∨ m.length = 0
  · have hv : W.val l * W.val m = 0 := by
      rcases h0 with h0 | h0
      · rw [List.eq_nil_of_length_eq_zero h0, W.val, Nat.zero_mul]
      · rw [List.eq_nil_of_length_eq_zero h0, W.val, Nat.mul_zero]
    have HV := Lib.hid hv
    have hz := W.toW_zero
    have post : RetOk w (W.val l * W.val m) (.returned (.tuple #[.slice none 0 0, .int .i64 0])) w := by
      rw [HV.out]
      refine ⟨none, 0, ?_, Blw.refl w, ?_⟩
      · rw [hz]; rfl
      · rw [hz]; exact World.ownsRow_nil _ _ _ _
    have hp := Lib.hid post
    clear hv hz post
    have p1 : l.length ≤ 8192 := by omega
    have p2 : m.length ≤ 8192 := by omega
    by_cases h1 : l.length = 0
    · have q1 : ((l.length : Int) == 0) = true := by rw [h1]; rfl
      have hck := natChecked_any a b l m c d w h k (by omega) (by omega)
      rw [c1, if_pos rfl, c2] at hck
      clear h1 h0
      go_enter Try.func161, Try.ntmps161
      go_wp2_with fail
      refine Calls.mono hck ?_
      rintro e w' ⟨rfl, rfl⟩
      go_wp2
      go_ret2
      exact hp.out
    · have q1 : ((l.length : Int) == 0) = false := beq_false_of_ne (by omega)
      have q2 : ((m.length : Int) == 0) = true := by rw [show m.length = 0 by omega]; rfl
      have hck := natChecked_any a b l m c d w h k (by omega) (by omega)
      rw [c1, if_pos rfl, c2] at hck
      clear h1 h0
      go_enter Try.func161, Try.ntmps161
      go_wp2_with fail
      refine Calls.mono hck ?_
      rintro e w' ⟨rfl, rfl⟩
      go_wp2
      go_ret2
      exact hp.out
  · refine Calls.mono (natMul_main a b l m c d w h k wl wm c1 c2 (by omega) (by omega) (by omega)) ?_
    rintro e w' (⟨h8, -⟩ | ⟨-, a1, c1, rfl, r1, r2⟩)
    · exfalso
      have h1 := W.val_lt wl
      have h2 := W.val_lt wm
      have h3 : W.val l * W.val m < W.pw (l.length + m.length) := by
        rw [W.pw_add]
        exact Nat.mul_lt_mul'' h1 h2
      have h4 := W.len_toW_le.2 h3
      omega
    · exact ⟨a1, c1, rfl, r2, r1⟩

set_option maxRecDepth 100000 in
set_option maxHeartbeats 1000000 in
theorem natDivMod_any (a b : Option Addr) (l m : List Nat) (c d : Nat) (w : World) (h : Arr w a (u32s l)) (k : Arr w b (u32s m)) (hc : l.length ≤ c) (hd : m.length ≤ d) (hcm : c ≤ 9223372036854775807) (hdm : d ≤ 9223372036854775807) (ha : a = none → l.length = 0 ∧ c = 0)
    (wl : W.WF l) (wm : W.WF m) (nl : W.Nrm l) (nm : W.Nrm m) (hl : l.length ≤ 8192) (hm : 0 < m.length) (hm2 : m.length ≤ 8192) :
    Calls Try.prog 115 #[.slice a l.length c, .slice b m.length d] w fun e w' => ∃ (a1 : Option Addr) (c1 : Nat) (a2 : Option Addr) (c2 : Nat), e = .returned (.tuple #[.slice a1 (W.toW (W.val l / W.val m)).length c1, .slice a2 (W.toW (W.val l % W.val m)).length c2, .int .i64 0]) ∧ Blw w w' ∧
      w'.ownsRow w.heap.size 44 1 (.slice a1 (W.toW (W.val l / W.val m)).length c1) (W.toW (W.val l / W.val m)).length (u32s (W.toW (W.val l / W.val m))) ∧ w'.ownsRow w.heap.size 44 1 (.slice a2 (W.toW (W.val l % W.val m)).length c2) (W.toW (W.val l % W.val m)).length (u32s (W.toW (W.val l % W.val m))) := by
  have c1 := chk_zero (l := l) (by omega) nl
  have c2 := chk_zero (l := m) (by omega) nm
  have hck := natChecked_any a b l m c d w h k (by omega) (by omega)
  rw [c1, if_pos rfl, c2] at hck
  have q2 : ((m.length : Int) == 0) = false := beq_false_of_ne (by omega)
  go_enter Try.func115, Try.ntmps115
  go_wp2_with fail
  refine Calls.mono hck ?_
  rintro e w' ⟨rfl, rfl⟩
  go_wp2_with fail
  refine Calls.mono (natDivide_any a b l m c d _ h k hc hd hcm hdm ha wl wm nl nm (by omega) hm) ?_
  rintro e w2 ⟨a1, c1', a2, c2', rfl, r1, r2, r3⟩
  go_wp2
  refine bodyPost_ret (v := .tuple #[.slice a1 (W.toW (W.val l / W.val m)).length c1', .slice a2 (W.toW (W.val l % W.val m)).length c2', .int .i64 0]) (by simp [results, Try.results115, go_sem]) rfl ?_
  exact ⟨a1, c1', a2, c2', rfl, r1, r2, r3⟩
end Go.Proofs.Ytmeccjlopmjneaa
/- The number that a slice's words stand for, read out of a world: for measures. -/
namespace Go.Proofs.Ytmeccjlopmjneaa
open Go.RowKit

def NumV (w : World) (v : Value) (n : Nat) : Prop := ∃ (a : Option Addr) (c : Nat), v = .slice a (W.toW n).length c ∧ Arr w a (u32s (W.toW n))
theorem u32s_inj {l m : List Nat} (h : u32s l = u32s m) : l = m := by
  induction l generalizing m with
  | nil => cases m with
    | nil => rfl
    | cons y m => simp at h
  | cons x l ih => cases m with
    | nil => simp at h
    | cons y m =>
      simp only [List.map_cons, List.cons.injEq] at h
      obtain ⟨h1, h2⟩ := h
      have e : x = y := by injection h1 with _ h1; omega
      rw [e, ih h2]
theorem arr_uniq {w : World} {a : Option Addr} {cs ds : List Value} (h : Arr w a cs) (k : Arr w a ds) (hl : cs.length = ds.length) : cs = ds := by
  apply List.ext_getElem? 
  intro i
  rcases Nat.lt_or_ge i cs.length with hi | hi
  · rcases h with h | ⟨b, o, e, hb, hc⟩
    · subst h; simp at hi
    · rcases k with k | ⟨b', o', e', hb', hc'⟩
      · exact absurd hi (by rw [hl, k]; simp)
      · rw [e] at e'; cases e'
        exact (hc i hi).symm.trans (hc' i (by omega))
  · rw [List.getElem?_eq_none hi, List.getElem?_eq_none (by omega)]
theorem NumV.uniq {w : World} {v : Value} {n m : Nat} (h : NumV w v n) (k : NumV w v m) : n = m := by
  obtain ⟨a, c, rfl, h1⟩ := h
  obtain ⟨a', c', e, h2⟩ := k
  injection e with e1 e2 e3
  subst e1
  have := u32s_inj (arr_uniq h1 h2 (by simpa using e2))
  rw [← W.val_toW n, this, W.val_toW]
open Classical in
noncomputable def readN (w : World) (v : Value) : Nat := if h : ∃ n, NumV w v n then h.choose else 0
theorem readN_is {w : World} {v : Value} {n : Nat} (h : NumV w v n) : readN w v = n := by
  unfold readN
  have hh : ∃ n, NumV w v n := ⟨n, h⟩
  rw [dif_pos hh]
  exact hh.choose_spec.uniq h
end Go.Proofs.Ytmeccjlopmjneaa
/- The walk of nat.Gcd. -/
namespace Go.Proofs.Ytmeccjlopmjneaa
open Go.RowKit

/-- A number in memory of the call's own. -/
def OwnN (B : Nat) (w : World) (v : Value) (n : Nat) : Prop := ∃ (a : Option Addr) (c : Nat), v = .slice a (W.toW n).length c ∧ w.ownsRow B 44 1 (.slice a (W.toW n).length c) (W.toW n).length (u32s (W.toW n))
theorem OwnN.blw {B : Nat} {w w' : World} {v : Value} {n : Nat} (h : OwnN B w v n) (k : Blw w w') : OwnN B w' v n := by
  obtain ⟨a, c, e, h⟩ := h; exact ⟨a, c, e, ownsRow_blw h k⟩
theorem OwnN.parts {B : Nat} {w : World} {v : Value} {n : Nat} (h : OwnN B w v n) : ∃ (a : Option Addr) (c : Nat), v = .slice a (W.toW n).length c ∧ Arr w a (u32s (W.toW n)) ∧ (W.toW n).length ≤ c ∧ c ≤ 9223372036854775807 ∧ (a = none → (W.toW n).length = 0 ∧ c = 0) := by
  obtain ⟨a, c, e, h⟩ := h
  obtain ⟨a', c', e', k1, k2, k3, k4, k5⟩ := own_arr h
  cases e'
  exact ⟨a, c, e, k1, k3, k4, k5⟩
theorem OwnN.num {B : Nat} {w : World} {v : Value} {n : Nat} (h : OwnN B w v n) : NumV w v n := by
  obtain ⟨a, c, e, k, _⟩ := h.parts; exact ⟨a, c, e, k⟩
theorem gcd_step (X Y : Nat) : Nat.gcd Y (X % Y) = Nat.gcd X Y := by rw [Nat.gcd_comm Y, ← Nat.gcd_rec, Nat.gcd_comm]

set_option maxRecDepth 100000 in
set_option maxHeartbeats 4000000 in
theorem natGcd_any (a b : Option Addr) (l m : List Nat) (c d : Nat) (w : World) (h : Arr w a (u32s l)) (k : Arr w b (u32s m)) (ha : a = none → l.length = 0 ∧ c = 0) (hb : b = none → m.length = 0 ∧ d = 0)
    (wl : W.WF l) (wm : W.WF m) (nl : W.Nrm l) (nm : W.Nrm m) (hl : l.length ≤ 8192) (hm : m.length ≤ 8192) :
    Calls Try.prog 121 #[.slice a l.length c, .slice b m.length d] w (RetOk w (Nat.gcd (W.val l) (W.val m))) := by
  have c1 := chk_zero (l := l) (by omega) nl
  have c2 := chk_zero (l := m) (by omega) nm
  have hck := natChecked_any a b l m c d w h k (by omega) (by omega)
  rw [c1, if_pos rfl, c2] at hck
  have L1 := Lib.hid (W.toW_val wl nl)
  have L2 := Lib.hid (W.toW_val wm nm)
  have B1 := Lib.hid (W.len_toW_le.1 (by rw [L1.out]; exact hl))
  have B2 := Lib.hid (W.len_toW_le.1 (by rw [L2.out]; exact hm))
  clear c1 c2
  go_enter Try.func121, Try.ntmps121
  go_wp2_with fail
  refine Calls.mono hck ?_
  rintro e w' ⟨rfl, rfl⟩
  clear hck
  go_wp2_with fail
  refine Calls.mono (cloneWords_any a l c _ h ha (by omega)) ?_
  rintro e w1 ⟨a1, c1, x1, rfl, rfl, r1, r2, r3⟩
  go_wp2_with fail
  refine Calls.mono (cloneWords_any b m d _ (k.ext x1) hb (by omega)) ?_
  rintro e w1 ⟨a2, c2, x2, rfl, rfl, s1, s2, s3⟩
  go_wp2_with fail
  go_loopw [7, 8] (fun x y wr => ∃ (X Y : Nat), OwnN w'.heap.size wr x X ∧ OwnN w'.heap.size wr y Y ∧ Blw w' wr ∧ Hid (Nat.gcd X Y = Nat.gcd (W.val l) (W.val m)) ∧ Hid (X < W.pw 8192) ∧ Hid (Y < W.pw 8192)) (fun _ y wr => readN wr y)
  case atStart => exact ⟨W.val l, W.val m, ⟨a1, c1, by rw [L1.out], by rw [L1.out]; exact ownsRow_blw r1 (World.blw_ext _ _)⟩, ⟨a2, c2, by rw [L2.out], by rw [L2.out]; exact ownsRow_mono s1 (World.le_ext _ _)⟩, ((Blw.refl w').ext x1).ext x2, rfl, B1.out, B2.out⟩
  case round =>
    obtain ⟨X, Y, hX, hY, hB, hG, hX8, hY8⟩ := hrel
    have nX := readN_is hX.num
    have nY := readN_is hY.num
    obtain ⟨p1, q1, rfl, A1, A2, A3, A4⟩ := hX.parts
    obtain ⟨p2, q2, rfl, D1, D2, D3, D4⟩ := hY.parts
    have lX : (W.toW X).length ≤ 8192 := W.len_toW_le.2 hX8.out
    have lY : (W.toW Y).length ≤ 8192 := W.len_toW_le.2 hY8.out
    by_cases h2 : 2 < (W.toW Y).length
    · have hdiv := natDivide_any p1 p2 (W.toW X) (W.toW Y) q1 q2 wr A1 D1 A2 D2 A3 D3 A4 (W.wf_toW X) (W.wf_toW Y) (W.nrm_toW X) (W.nrm_toW Y) (by omega) (by omega)
      rw [W.val_toW, W.val_toW] at hdiv
      have hY0 : 0 < Y := by
        rcases Nat.eq_zero_or_pos Y with e | e
        · rw [e, W.toW_zero] at h2; simp at h2
        · exact e
      have HY := Lib.hid hY
      have HNY := Lib.hid nY
      have HY0 := Lib.hid hY0
      clear hX hY nX nY A1 A4 D1 D4 hY0
      go_wp2_with fail
      refine Calls.mono hdiv ?_
      rintro e w3 ⟨u1, v1, u2, v2, rfl, t1, t2, t3⟩
      clear hdiv
      go_wp2_with fail
      have hlt : X % Y < Y := Nat.mod_lt _ HY0.out
      have HLT := Lib.hid hlt
      have own2 : OwnN w'.heap.size w3 (.slice u2 (W.toW (X % Y)).length v2) (X % Y) := ⟨u2, v2, rfl, ownsRow_mono t3 hB.size⟩
      have nZ := Lib.hid (readN_is own2.num)
      have OWN2 := Lib.hid own2
      clear hlt own2 t2 t3
      go_roundw
      case rel => exact ⟨Y, X % Y, HY.out.blw t1, OWN2.out, hB.trans t1, by (show _ = _; rw [gcd_step]; exact hG.out), hY8, Nat.lt_trans HLT.out hY8.out⟩
      case measure => (rw [nZ.out, HNY.out]; exact HLT.out)
    · by_cases h0 : (W.toW Y).length = 0
      · have hY0 : Y = 0 := W.toW_nil.1 (List.eq_nil_of_length_eq_zero h0)
        have q1' : (((W.toW Y).length : Int) == 0) = true := by rw [h0]; rfl
        have hg : X = Nat.gcd (W.val l) (W.val m) := by rw [← hG.out, hY0, Nat.gcd_zero_right]
        have HG := Lib.hid hg
        have HX := Lib.hid hX
        clear hg hX hY nX nY A1 A4 D1 D4 hY0 h0
        go_wp2_with fail
        go_ret2
        obtain ⟨a3, c3, e3, o3⟩ := HX.out
        cases e3
        rw [← HG.out]
        exact ⟨_, _, rfl, hB, o3⟩
      · have hY0 : 0 < Y := Nat.pos_of_ne_zero (fun e => h0 (by rw [e, W.toW_zero]; rfl))
        have q1' : (((W.toW Y).length : Int) == 0) = false := beq_false_of_ne (by omega)
        have hdiv := natDivide_any p1 p2 (W.toW X) (W.toW Y) q1 q2 wr A1 D1 A2 D2 A3 D3 A4 (W.wf_toW X) (W.wf_toW Y) (W.nrm_toW X) (W.nrm_toW Y) (by omega) (by omega)
        rw [W.val_toW, W.val_toW] at hdiv
        have hYl : Y < 18446744073709551616 := by
          have := W.len_toW_le.1 (Nat.le_of_not_lt h2)
          exact Nat.lt_of_lt_of_le this (by decide)
        have hlt : X % Y < Y := Nat.mod_lt _ hY0
        have hZ2 : (W.toW (X % Y)).length ≤ 2 := W.len_toW_le.2 (Nat.lt_trans hlt (W.len_toW_le.1 (Nat.le_of_not_lt h2)))
        have HLT := Lib.hid hlt
        have hG2 : Hid (Nat.gcd Y (X % Y) = Nat.gcd (W.val l) (W.val m)) := by show _ = _; rw [gcd_step]; exact hG.out
        clear hX hY nX nY A1 A4 D4 hlt
        go_wp2_with fail
        refine Calls.mono hdiv ?_
        rintro e w3 ⟨u1, v1, u2, v2, rfl, t1, t2, t3⟩
        clear hdiv
        obtain ⟨zz, hzz⟩ : ∃ zz, zz = X % Y := ⟨_, rfl⟩
        rw [← hzz] at t3 hZ2 hG2 HLT ⊢
        have hzl : zz < 18446744073709551616 := Nat.lt_trans HLT.out hYl
        obtain ⟨u2', v2', e2, k1, k2, k3, k4, k5⟩ := own_arr t3
        cases e2
        have hua := natUint64_any p2 (W.toW Y) q2 w3 (D1.blw t1) D2 D3 (by omega) (W.wf_toW Y)
        rw [W.val_toW, if_neg h2] at hua
        have hub := natUint64_any u2 (W.toW zz) v2 w3 k1 k3 k4 (by omega) (W.wf_toW zz)
        rw [W.val_toW, if_neg (by omega)] at hub
        have HZZ := Lib.hid hzz
        clear hzz k1 k5 t2 t3 D1
        go_wp2_with fail
        refine Calls.mono hua ?_
        rintro e w4 ⟨rfl, rfl⟩
        clear hua
        go_wp2_with fail
        refine Calls.mono hub ?_
        rintro e w5 ⟨rfl, rfl⟩
        clear hub
        go_wp2_with fail
        go_loopw [13, 15] (fun x y wr => ∃ (M N : Nat) (z : World), x = .int .u64 M ∧ y = .int .u64 N ∧ M < 18446744073709551616 ∧ N < 18446744073709551616 ∧ Hid (Nat.gcd M N = Nat.gcd (W.val l) (W.val m)) ∧ wr = w5.ext z) (fun _ y _ => (intOf y).toNat)
        case atStart => exact ⟨Y, zz, w5, rfl, rfl, hYl, hzl, hG2, (World.ext_of (Blw.refl w5)).symm⟩
        case round =>
          obtain ⟨M, N, z, rfl, rfl, hM, hN, hMN, rfl⟩ := hrel
          by_cases hN0 : N = 0
          · subst hN0
            have e1 : M = Nat.gcd (W.val l) (W.val m) := by rw [← hMN.out, Nat.gcd_zero_right]
            have HE := Lib.hid e1
            clear e1
            go_wp2_with fail
            refine Calls.mono (natOf_any M _ hM) ?_
            rintro e w6 ⟨a6, c6, x6, rfl, rfl, r61, r62, r63⟩
            go_wp2
            go_ret2
            rw [← HE.out]
            exact ⟨a6, c6, rfl, (((hB.trans t1).ext z).ext x6), ownsRow_mono r61 ((hB.trans t1).ext z).size⟩
          · have hn : ((N : Int) != 0) = true := by simp; omega
            have hn2 : ((N : Int) == 0) = false := beq_false_of_ne (by omega)
            have hm := Nat.mod_lt M (Nat.pos_of_ne_zero hN0)
            go_wp2_with fail
            go_quiet (fail)
            go_wp2_with fail
            have em : ((M : Int) % (N : Int)) = ((M % N : Nat) : Int) := (Int.natCast_emod ..).symm
            have HMN : Hid (Nat.gcd N (M % N) = Nat.gcd (W.val l) (W.val m)) := by show _ = _; rw [gcd_step]; exact hMN.out
            generalize hR : M % N = R at *
            go_roundw
            case rel => exact ⟨N, R, _, rfl, congrArg (Value.int .u64) em, hN, by omega, HMN, (World.ext_of (by repeat (first | exact Blw.refl _ | apply Blw.ext | apply Blw.alloc | apply Blw.drewN | apply Blw.drew | refine Blw.setCell ?_ _ _ (by simp)))).symm⟩
            case measure => (simp only [intOf]; rw [em]; omega)
end Go.Proofs.Ytmeccjlopmjneaa
/- Fractions: what ratio.Check says, walked. -/
namespace Go.Proofs.Ytmeccjlopmjneaa
open Go.RowKit

/-- A fraction as it is handed about: its words, whatever they are. -/
structure Fr where
  neg : Bool
  num : List Nat
  den : List Nat
abbrev frV (r : Fr) (a : Option Addr) (c : Nat) (b : Option Addr) (d : Nat) : Value := .agg #[.bool r.neg, .slice a r.num.length c, .slice b r.den.length d]
/-- It lies behind these addresses. -/
structure FrA (w : World) (r : Fr) (a : Option Addr) (c : Nat) (b : Option Addr) (d : Nat) : Prop where
  an : Arr w a (u32s r.num)
  ad : Arr w b (u32s r.den)
  cn : r.num.length ≤ c
  cm : c ≤ 9223372036854775807
  dn : r.den.length ≤ d
  dm : d ≤ 9223372036854775807
  na : a = none → r.num.length = 0 ∧ c = 0
  nb : b = none → r.den.length = 0 ∧ d = 0
  wn : W.WF r.num
  wd : W.WF r.den
theorem FrA.blw {w w' : World} {r : Fr} {a : Option Addr} {c : Nat} {b : Option Addr} {d : Nat} (h : FrA w r a c b d) (k : Blw w w') : FrA w' r a c b d :=
  ⟨h.an.blw k, h.ad.blw k, h.cn, h.cm, h.dn, h.dm, h.na, h.nb, h.wn, h.wd⟩

def chkF (r : Fr) : Int := if 2048 < r.num.length ∨ 2048 < r.den.length then 3 else if r.num.getLast? = some 0 ∨ r.den.getLast? = some 0 ∨ r.den.length = 0 ∨ (r.num.length = 0 ∧ r.neg = true) ∨ ¬ Nat.gcd (W.val r.num) (W.val r.den) = 1 then 11 else 0

/-- A fraction that may be. -/
structure Fr.Ok (r : Fr) : Prop where
  ln : r.num.length ≤ 2048
  ld : r.den.length ≤ 2048
  nn : W.Nrm r.num
  nd : W.Nrm r.den
  d0 : 0 < r.den.length
  ns : r.num.length = 0 → r.neg = false
  g : Nat.gcd (W.val r.num) (W.val r.den) = 1
theorem chkF_ok {r : Fr} (h : r.Ok) : chkF r = 0 := by
  unfold chkF
  rw [if_neg (by have := h.ln; have := h.ld; omega), if_neg]
  rintro (k | k | k | ⟨k, k2⟩ | k)
  · exact h.nn k
  · exact h.nd k
  · have := h.d0; omega
  · rw [h.ns k] at k2; cases k2
  · exact k h.g
theorem ok_chkF {r : Fr} (h : chkF r = 0) : r.Ok := by
  unfold chkF at h
  split at h
  · cases h
  · rename_i h1
    split at h
    · cases h
    · rename_i h2
      refine ⟨by omega, by omega, fun k => h2 (.inl k), fun k => h2 (.inr (.inl k)), ?_, fun k => ?_, ?_⟩
      · rcases Nat.eq_zero_or_pos r.den.length with k | k
        · exact absurd (.inr (.inr (.inl k))) h2
        · exact k
      · cases hn : r.neg
        · rfl
        · exact absurd (.inr (.inr (.inr (.inl ⟨k, hn⟩)))) h2
      · rcases Nat.decEq (Nat.gcd (W.val r.num) (W.val r.den)) 1 with k | k
        · exact absurd (.inr (.inr (.inr (.inr k)))) h2
        · exact k
theorem chkF_cases (r : Fr) : chkF r = 0 ∨ chkF r = 3 ∨ chkF r = 11 := by
  unfold chkF
  split
  · simp
  · split <;> simp

set_option maxHeartbeats 400000 in
theorem ratioLong_any (a : Option Addr) (n c : Nat) (w : World) (hn : n ≤ 9223372036854775807) :
    Calls Try.prog 119 #[.slice a n c] w fun e w' => e = .returned (.bool (decide ((2048 : Int) < (n : Int)))) ∧ w' = w := by
  go_enter Try.func119, Try.ntmps119
  go_wp2
  go_ret
  exact ⟨rfl, rfl⟩

theorem chk_last {l : List Nat} (h : l.length ≤ 8192) (k : l.getLast? = some 0) : chk l = 11 := by
  unfold chk; rw [if_neg (by omega), if_pos k]

set_option maxRecDepth 100000 in
set_option maxHeartbeats 4000000 in
theorem ratioCheck_any (r : Fr) (a : Option Addr) (c : Nat) (b : Option Addr) (d : Nat) (w : World) (h : FrA w r a c b d) :
    Calls Try.prog 60 #[frV r a c b d] w fun e w' => e = .returned (.int .i64 (chkF r)) ∧ ∃ x, w' = w.ext x := by
  obtain ⟨neg, num, den⟩ := r
  obtain ⟨an, ad, cn, cm, dn, dm, na, nb, wn, wd⟩ := h
  simp only at an ad cn dn na nb wn wd
  by_cases hA : 2048 < num.length
  · have f1 : decide ((2048 : Int) < (num.length : Int)) = true := by simp; omega
    have HE := Lib.hid (show chkF ⟨neg, num, den⟩ = 3 from if_pos (.inl hA))
    go_enter Try.func60, Try.ntmps60
    go_wp2_with (go_at_call 119; refine (ratioLong_any _ _ _ _ (by omega)).mono ?_; rintro e w' ⟨rfl, rfl⟩)
    go_ret
    exact ⟨ret_i64 HE.out.symm, Blw.is (by repeat (first | exact Blw.refl _ | apply Blw.ext | apply Blw.alloc | apply Blw.drewN | apply Blw.drew | refine Blw.setCell ?_ _ _ (by simp)))⟩
  by_cases hB : 2048 < den.length
  · have f1 : decide ((2048 : Int) < (num.length : Int)) = false := by simp; omega
    have f2 : decide ((2048 : Int) < (den.length : Int)) = true := by simp; omega
    have HE := Lib.hid (show chkF ⟨neg, num, den⟩ = 3 from if_pos (.inr hB))
    go_enter Try.func60, Try.ntmps60
    go_wp2_with (go_at_call 119; refine (ratioLong_any _ _ _ _ (by omega)).mono ?_; rintro e w' ⟨rfl, rfl⟩)
    go_ret
    exact ⟨ret_i64 HE.out.symm, Blw.is (by repeat (first | exact Blw.refl _ | apply Blw.ext | apply Blw.alloc | apply Blw.drewN | apply Blw.drew | refine Blw.setCell ?_ _ _ (by simp)))⟩
  have hAB : ¬ (2048 < num.length ∨ 2048 < den.length) := by omega
  have f1 : decide ((2048 : Int) < (num.length : Int)) = false := by simp; omega
  have f2 : decide ((2048 : Int) < (den.length : Int)) = false := by simp; omega
  have K1 := fun (W : World) (hb : Blw w W) => natCheck_any a num c W (an.blw hb) (by omega)
  have K2 := fun (W : World) (hb : Blw w W) => natCheck_any b den d W (ad.blw hb) (by omega)
  by_cases hC : num.getLast? = some 0
  · have HE := Lib.hid (show chkF ⟨neg, num, den⟩ = 11 by unfold chkF; rw [if_neg hAB, if_pos (.inl hC)])
    rw [chk_last (by omega) hC] at K1
    have H1 := Lib.hid K1
    clear K1 K2 hC hAB an ad
    go_enter Try.func60, Try.ntmps60
    go_wp2_with (first | (go_at_call 119; refine (ratioLong_any _ _ _ _ (by omega)).mono ?_; rintro e w' ⟨rfl, rfl⟩) | (go_at_call 120; (with_reducible refine Calls.mono (H1.out _ (by repeat (first | exact Blw.refl _ | apply Blw.ext | apply Blw.alloc | apply Blw.drewN | apply Blw.drew | refine Blw.setCell ?_ _ _ (by simp)))) ?_); rintro e w' ⟨rfl, rfl⟩))
    go_ret
    exact ⟨ret_i64 HE.out.symm, Blw.is (by repeat (first | exact Blw.refl _ | apply Blw.ext | apply Blw.alloc | apply Blw.drewN | apply Blw.drew | refine Blw.setCell ?_ _ _ (by simp)))⟩
  by_cases hD : den.getLast? = some 0
  · have HE := Lib.hid (show chkF ⟨neg, num, den⟩ = 11 by unfold chkF; rw [if_neg hAB, if_pos (.inr (.inl hD))])
    rw [chk_zero (by omega) hC] at K1
    rw [chk_last (by omega) hD] at K2
    have H1 := Lib.hid K1
    have H2 := Lib.hid K2
    clear K1 K2 hC hD hAB an ad
    go_enter Try.func60, Try.ntmps60
    go_wp2_with (first | (go_at_call 119; refine (ratioLong_any _ _ _ _ (by omega)).mono ?_; rintro e w' ⟨rfl, rfl⟩) | (go_at_call 120; (first | (with_reducible refine Calls.mono (H1.out _ (by repeat (first | exact Blw.refl _ | apply Blw.ext | apply Blw.alloc | apply Blw.drewN | apply Blw.drew | refine Blw.setCell ?_ _ _ (by simp)))) ?_) | (with_reducible refine Calls.mono (H2.out _ (by repeat (first | exact Blw.refl _ | apply Blw.ext | apply Blw.alloc | apply Blw.drewN | apply Blw.drew | refine Blw.setCell ?_ _ _ (by simp)))) ?_)); rintro e w' ⟨rfl, rfl⟩))
    go_ret
    exact ⟨ret_i64 HE.out.symm, Blw.is (by repeat (first | exact Blw.refl _ | apply Blw.ext | apply Blw.alloc | apply Blw.drewN | apply Blw.drew | refine Blw.setCell ?_ _ _ (by simp)))⟩
  rw [chk_zero (by omega) hC] at K1
  rw [chk_zero (by omega) hD] at K2
  have H1 := Lib.hid K1
  have H2 := Lib.hid K2
  clear K1 K2
  by_cases hE : den.length = 0
  · have HE := Lib.hid (show chkF ⟨neg, num, den⟩ = 11 by unfold chkF; rw [if_neg hAB, if_pos (.inr (.inr (.inl hE)))])
    have q1 : ((den.length : Int) == 0) = true := by rw [hE]; rfl
    clear hE hC hD hAB an ad
    go_enter Try.func60, Try.ntmps60
    go_wp2_with (first | (go_at_call 119; refine (ratioLong_any _ _ _ _ (by omega)).mono ?_; rintro e w' ⟨rfl, rfl⟩) | (go_at_call 120; (first | (with_reducible refine Calls.mono (H1.out _ (by repeat (first | exact Blw.refl _ | apply Blw.ext | apply Blw.alloc | apply Blw.drewN | apply Blw.drew | refine Blw.setCell ?_ _ _ (by simp)))) ?_) | (with_reducible refine Calls.mono (H2.out _ (by repeat (first | exact Blw.refl _ | apply Blw.ext | apply Blw.alloc | apply Blw.drewN | apply Blw.drew | refine Blw.setCell ?_ _ _ (by simp)))) ?_)); rintro e w' ⟨rfl, rfl⟩))
    go_ret
    exact ⟨ret_i64 HE.out.symm, Blw.is (by repeat (first | exact Blw.refl _ | apply Blw.ext | apply Blw.alloc | apply Blw.drewN | apply Blw.drew | refine Blw.setCell ?_ _ _ (by simp)))⟩
  have q1 : ((den.length : Int) == 0) = false := beq_false_of_ne (by omega)
  by_cases hF : num.length = 0 ∧ neg = true
  · have HE := Lib.hid (show chkF ⟨neg, num, den⟩ = 11 by unfold chkF; rw [if_neg hAB, if_pos (.inr (.inr (.inr (.inl hF))))])
    have q2 : ((num.length : Int) == 0) = true := by rw [hF.1]; rfl
    obtain ⟨-, rfl⟩ := hF
    clear hE hC hD hAB an ad
    go_enter Try.func60, Try.ntmps60
    go_wp2_with (first | (go_at_call 119; refine (ratioLong_any _ _ _ _ (by omega)).mono ?_; rintro e w' ⟨rfl, rfl⟩) | (go_at_call 120; (first | (with_reducible refine Calls.mono (H1.out _ (by repeat (first | exact Blw.refl _ | apply Blw.ext | apply Blw.alloc | apply Blw.drewN | apply Blw.drew | refine Blw.setCell ?_ _ _ (by simp)))) ?_) | (with_reducible refine Calls.mono (H2.out _ (by repeat (first | exact Blw.refl _ | apply Blw.ext | apply Blw.alloc | apply Blw.drewN | apply Blw.drew | refine Blw.setCell ?_ _ _ (by simp)))) ?_)); rintro e w' ⟨rfl, rfl⟩))
    go_ret
    exact ⟨ret_i64 HE.out.symm, Blw.is (by repeat (first | exact Blw.refl _ | apply Blw.ext | apply Blw.alloc | apply Blw.drewN | apply Blw.drew | refine Blw.setCell ?_ _ _ (by simp)))⟩
  have GC := fun (W : World) (hb : Blw w W) => natGcd_any a b num den c d W (an.blw hb) (ad.blw hb) na nb wn wd hC hD (by omega) (by omega)
  obtain ⟨G, hG⟩ : ∃ G, Nat.gcd (W.val num) (W.val den) = G := ⟨_, rfl⟩
  rw [hG] at GC
  have HG := Lib.hid GC
  have HE := Lib.hid (show chkF ⟨neg, num, den⟩ = if G = 1 then 0 else 11 by
    unfold chkF
    rw [if_neg hAB]
    by_cases h1 : G = 1
    · rw [if_pos h1, if_neg]
      rintro (k | k | k | k | k)
      · exact hC k
      · exact hD k
      · exact hE k
      · exact hF k
      · exact k (hG.trans h1)
    · rw [if_neg h1, if_pos (.inr (.inr (.inr (.inr (fun k => h1 (hG.symm.trans k))))))])
  have hcase : (((num.length : Int) == 0) = true ∧ neg = false) ∨ ((num.length : Int) == 0) = false := by
    by_cases h0 : num.length = 0
    · left
      refine ⟨by rw [h0]; rfl, ?_⟩
      cases hn : neg
      · rfl
      · exact absurd ⟨h0, hn⟩ hF
    · right; exact beq_false_of_ne (by omega)
  clear GC hG hF hE hC hD hAB an ad
  go_enter Try.func60, Try.ntmps60
  rcases hcase with ⟨q2, rfl⟩ | q2
  all_goals
    go_wp2_with (first | (go_at_call 119; refine (ratioLong_any _ _ _ _ (by omega)).mono ?_; rintro e w' ⟨rfl, rfl⟩) | (go_at_call 120; (first | (with_reducible refine Calls.mono (H1.out _ (by repeat (first | exact Blw.refl _ | apply Blw.ext | apply Blw.alloc | apply Blw.drewN | apply Blw.drew | refine Blw.setCell ?_ _ _ (by simp)))) ?_) | (with_reducible refine Calls.mono (H2.out _ (by repeat (first | exact Blw.refl _ | apply Blw.ext | apply Blw.alloc | apply Blw.drewN | apply Blw.drew | refine Blw.setCell ?_ _ _ (by simp)))) ?_)); rintro e w' ⟨rfl, rfl⟩))
    refine Calls.mono (HG.out _ (by repeat (first | exact Blw.refl _ | apply Blw.ext | apply Blw.alloc | apply Blw.drewN | apply Blw.drew | refine Blw.setCell ?_ _ _ (by simp)))) ?_
    rintro e w2 ⟨a3, c3, rfl, hb3, o3⟩
    obtain ⟨a4, c4, he, k1, k2, k3, k4, k5⟩ := own_arr o3
    cases he
    have hb2 : Blw w w2 := ((Blw.refl w).alloc _).trans hb3
    have hcmp := natCompare_any a3 (some ⟨w2.heap.size, 0, none⟩) (W.toW G) [1] c3 1 (w2.alloc (.cells (u32s [1]).toArray 44 (0, 0))) (k1.alloc _) (own_read (own_lit w2 [1] (by decide))) k3 (by decide) k4 (by decide) (W.wf_toW G) (W.WF.cons (by decide) W.WF.nil)
    rw [W.val_toW, show W.val [1] = 1 from rfl] at hcmp
    clear o3 k5 k2
    go_wp2_with fail
    refine Calls.mono hcmp ?_
    rintro e w4 ⟨rfl, x4, rfl⟩
    clear hcmp
    by_cases hg1 : G = 1
    · have q3 : (W.cmpN G 1 != 0) = false := by rw [hg1, W.cmpN_eq]; rfl
      rw [if_pos hg1] at HE
      clear hg1
      go_wp2
      go_ret
      exact ⟨ret_i64 HE.out.symm, Blw.is ((hb2.alloc _).ext _)⟩
    · have q3 : (W.cmpN G 1 != 0) = true := by
        rcases Nat.lt_or_ge G 1 with h | h
        · rw [W.cmpN_lt h]; rfl
        · rw [W.cmpN_gt (by omega)]; rfl
      rw [if_neg hg1] at HE
      clear hg1
      go_wp2
      go_ret
      exact ⟨ret_i64 HE.out.symm, Blw.is ((hb2.alloc _).ext _)⟩
end Go.Proofs.Ytmeccjlopmjneaa
