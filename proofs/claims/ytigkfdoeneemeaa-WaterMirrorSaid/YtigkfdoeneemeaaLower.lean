/- Walks of height.Lower and of the reference's: both compare the same rounded sums. -/
import Derived.Test.YtigkfdoeneemeaaProg
import Derived.Test.YtigkfdoeneemeaaFl
import Derived.Test.YtigkfdoeneemeaaExt
namespace Go.Proofs.Ytigkfdoeneemeaa
open Go.RowKit

def lowerB (a b c d : Nat) : Bool := Fl.ord (Fl.fop .add a b default) (Fl.fop .sub c d default) == some .lt
theorem lowerB_any (a b c d : Nat) (w w' : World) : (FloatKind.f64.format.order (Fl.fop .add a b w) (Fl.fop .sub c d w') == some .lt) = lowerB a b c d := by
  unfold lowerB
  rw [Fl.same.ord (Fl.same_add (.refl a) (.refl b) default w) (Fl.same_sub (.refl c) (.refl d) default w')]
  rfl

set_option maxHeartbeats 400000 in
theorem lower_any (a b c d : Nat) (w : World) :
    Calls Try.prog 16 #[.agg #[.float .f64 a, .float .f64 b], .agg #[.float .f64 c, .float .f64 d]] w fun e w' => e = .returned (.bool (lowerB a b c d)) ∧ ∃ x, w' = w.ext x := by
  go_enter Try.func16, Try.ntmps16
  go_wp2
  go_ret
  exact ⟨congrArg (fun b => Ending.returned (.bool b)) (lowerB_any _ _ _ _ _ _), ((((Blw.refl w).alloc _).alloc _).drewN _).is⟩

set_option maxHeartbeats 400000 in
theorem refLower_any (a b c d : Nat) (w : World) :
    Calls Try.prog 17 #[.agg #[.float .f64 a, .float .f64 b], .agg #[.float .f64 c, .float .f64 d]] w fun e w' => e = .returned (.bool (lowerB a b c d)) ∧ ∃ x, w' = w.ext x := by
  go_enter Try.func17, Try.ntmps17
  go_wp2
  go_ret
  exact ⟨congrArg (fun b => Ending.returned (.bool b)) (lowerB_any _ _ _ _ _ _), ((((Blw.refl w).alloc _).alloc _).drewN _).is⟩
end Go.Proofs.Ytigkfdoeneemeaa
