/- Floats: what the model's operations on float64 give, NaN included, as functions of the operands' bits and the world; plain facts on the words. -/
import Derived.WalkKit
import Derived.WalkLawsBesides
import Derived.Deep.Draws
namespace Go.Proofs.Ytigkfdoeneemeaa.Fl
open Go Ieee

/-- The bits of a float operation's result in a world. -/
def fop (op : BinOp) (x y : Nat) (w : World) : Nat :=
  match floatBits op .f64 x y with
  | some r => r
  | none => (Question.nanBits .f64 x y).cut (w.tape w.drawn (.nanBits .f64 x y))

/-- How many draws the operation makes. -/
def fdr (op : BinOp) (x y : Nat) : Nat := match floatBits op .f64 x y with | some _ => 0 | none => 1

section
variable {P : Program} (w : World)
theorem run_fop (op : BinOp) (h : op = .add ∨ op = .sub ∨ op = .mul ∨ op = .quo) (t : TypeId) (x y : Nat) :
    (binOp op t (.float .f64 x) (.float .f64 y)).run P w = .ok (.float .f64 (fop op x y w)) (w.drewN (fdr op x y)) := by
  cases e : floatBits op .f64 x y with
  | some r =>
    rw [run_float_arith w op t .f64 x y r e]
    simp only [fop, fdr, e]; rfl
  | none =>
    simp only [fop, fdr, e]
    rcases h with rfl | rfl | rfl | rfl <;>
      (unfold floatBits at e; simp only at e; simp [binOp, Op.floatArith, e, Question.forced]; rfl)
@[go_sem] theorem run_fadd (t : TypeId) (x y : Nat) : (binOp .add t (.float .f64 x) (.float .f64 y)).run P w = .ok (.float .f64 (fop .add x y w)) (w.drewN (fdr .add x y)) := run_fop w .add (by simp) t x y
@[go_sem] theorem run_fsub (t : TypeId) (x y : Nat) : (binOp .sub t (.float .f64 x) (.float .f64 y)).run P w = .ok (.float .f64 (fop .sub x y w)) (w.drewN (fdr .sub x y)) := run_fop w .sub (by simp) t x y
@[go_sem] theorem run_fmul (t : TypeId) (x y : Nat) : (binOp .mul t (.float .f64 x) (.float .f64 y)).run P w = .ok (.float .f64 (fop .mul x y w)) (w.drewN (fdr .mul x y)) := run_fop w .mul (by simp) t x y
@[go_sem] theorem run_fquo (t : TypeId) (x y : Nat) : (binOp .quo t (.float .f64 x) (.float .f64 y)).run P w = .ok (.float .f64 (fop .quo x y w)) (w.drewN (fdr .quo x y)) := run_fop w .quo (by simp) t x y
@[go_sem] theorem run_store_float (a : Addr) (x : Nat) (m : Mode) : (store a (.float .f64 x) m).run P w = stored P w a (.float .f64 x) m := run_store P w a _ m rfl
@[go_sem] theorem run_store_complex (a : Addr) (x y : Nat) (m : Mode) : (store a (.complex .f64 x y) m).run P w = stored P w a (.complex .f64 x y) m := run_store P w a _ m rfl
@[go_sem] theorem unary_neg_float (x : Nat) : Op.unary .neg (.float .f64 x) = pure (.float .f64 (Op.negFloat .f64 x)) := rfl
end

/-- The rung of infinity of a double. -/
def infR : Nat := 9218868437227405312
def isNaN (x : Nat) : Bool := decide (infR < x % 2 ^ 63)
def isInf (x : Nat) : Bool := decide (x % 2 ^ 63 = infR)
def isFin (x : Nat) : Bool := decide (x % 2 ^ 63 < infR)
def fneg (x : Nat) : Bool := decide (x / 2 ^ 63 % 2 = 1)
/-- A finite double is 'mag * 2 ^ (place - 1074)'. -/
def mag (x : Nat) : Nat := if x % 2 ^ 63 < 2 ^ 52 then x % 2 ^ 63 else 2 ^ 52 + x % 2 ^ 52
def plc (x : Nat) : Nat := x % 2 ^ 63 / 2 ^ 52 - 1

theorem read_eq (x : Nat) : double.read x =
    if x % 2 ^ 63 < 2 ^ 52 then .number (x / 2 ^ 63 % 2 == 1) (x % 2 ^ 63) (-1074)
    else if x % 2 ^ 63 < infR then .number (x / 2 ^ 63 % 2 == 1) (2 ^ 52 + x % 2 ^ 63 % 2 ^ 52) (-1074 + ((x % 2 ^ 63 / 2 ^ 52 - 1 : Nat) : Int))
    else if x % 2 ^ 63 = infR then .infinity (x / 2 ^ 63 % 2 == 1)
    else .nan (x / 2 ^ 63 % 2 == 1) (x % 2 ^ 63 - infR) := rfl

theorem read_fin (x : Nat) (h : isFin x = true) : double.read x = .number (fneg x) (mag x) (-1074 + (plc x : Int)) := by
  have h' : x % 2 ^ 63 < infR := by simpa [isFin] using h
  rw [read_eq]
  have es : (x / 2 ^ 63 % 2 == 1) = fneg x := by unfold fneg; rw [Bool.eq_iff_iff]; simp
  rw [es]
  by_cases c : x % 2 ^ 63 < 2 ^ 52
  · rw [if_pos c]
    unfold mag plc
    rw [if_pos c]
    have : x % 2 ^ 63 / 2 ^ 52 - 1 = 0 := by omega
    rw [this]; rfl
  · rw [if_neg c, if_pos h']
    unfold mag plc
    rw [if_neg c]
    congr 2
    omega
theorem read_inf (x : Nat) (h : isInf x = true) : double.read x = .infinity (fneg x) := by
  have h' : x % 2 ^ 63 = infR := by simpa [isInf] using h
  rw [read_eq]
  have es : (x / 2 ^ 63 % 2 == 1) = fneg x := by unfold fneg; rw [Bool.eq_iff_iff]; simp
  rw [es, h', if_neg (by decide), if_neg (by decide), if_pos rfl]
theorem read_nan (x : Nat) (h : isNaN x = true) : ∃ s t, double.read x = .nan s t := by
  have h' : infR < x % 2 ^ 63 := by simpa [isNaN] using h
  rw [read_eq]
  have : ¬ x % 2 ^ 63 < 2 ^ 52 := by unfold infR at h'; omega
  rw [if_neg this, if_neg (by omega), if_neg (by omega)]
  exact ⟨_, _, rfl⟩
theorem tri (x : Nat) : isFin x = true ∨ isInf x = true ∨ isNaN x = true := by
  simp only [isFin, isInf, isNaN, decide_eq_true_eq]; omega
theorem fin_not (x : Nat) : isFin x = !(isInf x || isNaN x) := by
  rw [Bool.eq_iff_iff]; simp only [isFin, isInf, isNaN]; simp; omega

theorem cut_nan (x y t : Nat) : isNaN ((Question.nanBits .f64 x y).cut t) = true := by
  unfold Question.cut isNaN infR
  simp only [decide_eq_true_eq]
  have h1 : t / 2 % (2 ^ 52 - 1) < 2 ^ 52 - 1 := Nat.mod_lt _ (by decide)
  generalize t / 2 % (2 ^ 52 - 1) = k at *
  rcases (by omega : t % 2 = 0 ∨ t % 2 = 1) with e | e <;> rw [e] <;> omega
theorem cut_lt (x y t : Nat) : (Question.nanBits .f64 x y).cut t < 2 ^ 64 := by
  unfold Question.cut
  simp only
  have h1 : t / 2 % (2 ^ 52 - 1) < 2 ^ 52 - 1 := Nat.mod_lt _ (by decide)
  generalize t / 2 % (2 ^ 52 - 1) = k at *
  rcases (by omega : t % 2 = 0 ∨ t % 2 = 1) with e | e <;> rw [e] <;> omega

theorem fop_some {op : BinOp} {x y r : Nat} (h : floatBits op .f64 x y = some r) (w : World) : fop op x y w = r := by simp [fop, h]
theorem fop_none {op : BinOp} {x y : Nat} (h : floatBits op .f64 x y = none) (w : World) : isNaN (fop op x y w) = true := by
  simp only [fop, h]; exact cut_nan _ _ _
theorem fop_lt (op : BinOp) (x y : Nat) (w : World) : fop op x y w < 2 ^ 64 := by
  cases h : floatBits op .f64 x y with
  | some r => rw [fop_some h]; have := floatBits_wf h; simpa [Lit.wf] using this
  | none => simp only [fop, h]; exact cut_lt _ _ _

/-- Two words are the same, or both NaN: what a deterministic program may be sure of. -/
def same (x y : Nat) : Prop := x = y ∨ (isNaN x = true ∧ isNaN y = true)
theorem same.refl (x : Nat) : same x x := .inl rfl
theorem same.symm {x y : Nat} (h : same x y) : same y x := by
  rcases h with rfl | ⟨a, b⟩
  · exact .inl rfl
  · exact .inr ⟨b, a⟩
theorem same.trans {x y z : Nat} (h : same x y) (k : same y z) : same x z := by
  rcases h with rfl | ⟨a, b⟩
  · exact k
  · rcases k with rfl | ⟨c, d⟩
    · exact .inr ⟨a, b⟩
    · exact .inr ⟨a, d⟩

abbrev ord (x y : Nat) : Option Ordering := double.order x y
theorem ord_nan_left {x : Nat} (h : isNaN x = true) (y : Nat) : ord x y = none := by
  obtain ⟨s, t, e⟩ := read_nan x h
  simp [ord, Format.order, e, Datum.order]
theorem ord_nan_right {y : Nat} (h : isNaN y = true) (x : Nat) : ord x y = none := by
  obtain ⟨s, t, e⟩ := read_nan y h
  simp only [ord, Format.order, e]
  cases double.read x <;> rfl
theorem ord_self {x : Nat} (h : isNaN x = false) : ord x x = some .eq := by
  rcases tri x with f | i | n
  · simp [ord, Format.order, read_fin x f, Datum.order]
  · simp [ord, Format.order, read_inf x i, Datum.order]
  · simp [n] at h
theorem ord_self_eq (x : Nat) : (ord x x == some .eq) = !isNaN x := by
  cases h : isNaN x
  · rw [ord_self h]; rfl
  · rw [ord_nan_left h]; rfl
theorem ord_self_ne (x : Nat) : (ord x x != some .eq) = isNaN x := by
  cases h : isNaN x
  · rw [ord_self h]; rfl
  · rw [ord_nan_left h]; rfl
theorem same.ord {x y u v : Nat} (h : same x y) (k : same u v) : ord x u = ord y v := by
  rcases h with rfl | ⟨a, b⟩
  · rcases k with rfl | ⟨c, d⟩
    · rfl
    · rw [ord_nan_right c, ord_nan_right d]
  · rw [ord_nan_left a, ord_nan_left b]

theorem bits_nan {op : BinOp} (h : op = .add ∨ op = .sub ∨ op = .mul ∨ op = .quo) (x y : Nat) (n : isNaN x = true ∨ isNaN y = true) : floatBits op .f64 x y = none := by
  rcases n with n | n
  · obtain ⟨s, t, e⟩ := read_nan _ n
    rcases h with rfl | rfl | rfl | rfl <;> simp [floatBits, FloatKind.format, Format.add, Format.sub, Format.mul, Format.div, e, Datum.sum, Datum.product, Datum.quotient]
  · obtain ⟨s, t, e⟩ := read_nan _ n
    rcases h with rfl | rfl | rfl | rfl <;> simp only [floatBits, FloatKind.format, Format.add, Format.sub, Format.mul, Format.div, e] <;> cases double.read x <;> simp [Datum.sum, Datum.product, Datum.quotient, Datum.opposite]
theorem same.fop {op : BinOp} (h : op = .add ∨ op = .sub ∨ op = .mul ∨ op = .quo) {x y u v : Nat} (hx : same x u) (hy : same y v) (w w' : World) : same (fop op x y w) (fop op u v w') := by
  rcases hx with rfl | ⟨a, b⟩
  · rcases hy with rfl | ⟨c, d⟩
    · cases e : floatBits op .f64 x y with
      | some r => rw [fop_some e, fop_some e]; exact .inl rfl
      | none => exact .inr ⟨fop_none e w, fop_none e w'⟩
    · exact .inr ⟨fop_none (bits_nan h _ _ (.inr c)) w, fop_none (bits_nan h _ _ (.inr d)) w'⟩
  · exact .inr ⟨fop_none (bits_nan h _ _ (.inl a)) w, fop_none (bits_nan h _ _ (.inl b)) w'⟩
theorem same_add {x y u v : Nat} (hx : same x u) (hy : same y v) (w w' : World) : same (Fl.fop .add x y w) (Fl.fop .add u v w') := same.fop (by simp) hx hy w w'
theorem same_sub {x y u v : Nat} (hx : same x u) (hy : same y v) (w w' : World) : same (Fl.fop .sub x y w) (Fl.fop .sub u v w') := same.fop (by simp) hx hy w w'
theorem same_mul {x y u v : Nat} (hx : same x u) (hy : same y v) (w w' : World) : same (Fl.fop .mul x y w) (Fl.fop .mul u v w') := same.fop (by simp) hx hy w w'
theorem same_quo {x y u v : Nat} (hx : same x u) (hy : same y v) (w w' : World) : same (Fl.fop .quo x y w) (Fl.fop .quo u v w') := same.fop (by simp) hx hy w w'

end Go.Proofs.Ytigkfdoeneemeaa.Fl
