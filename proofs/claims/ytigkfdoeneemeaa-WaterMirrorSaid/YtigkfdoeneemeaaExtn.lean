/- The bodyless functions of package math that the program calls: what each call runs to. -/
import Derived.Test.YtigkfdoeneemeaaProg
import Derived.Test.YtigkfdoeneemeaaFl
import Derived.Laws.Externs
namespace Go.Proofs.Ytigkfdoeneemeaa
open Go.RowKit

@[go_sem] theorem call_frombits (n : Int) (w : World) : (callFunc 15 #[.int .u64 n]).run Try.prog w = .ok (.value (.float .f64 n.toNat)) w := by
  rw [run_callFunc_extern (fn := Try.f15) (e := Extern.MathFloatBits.float64frombits) (by kernel_rfl) (by kernel_rfl) (by kernel_rfl) (by kernel_rfl) (by kernel_rfl)]; rfl
@[go_sem] theorem call_bits (n : Nat) (w : World) : (callFunc 107 #[.float .f64 n]).run Try.prog w = .ok (.value (.int .u64 n)) w := by
  rw [run_callFunc_extern (fn := Try.f107) (e := Extern.MathFloatBits.float64bits) (by kernel_rfl) (by kernel_rfl) (by kernel_rfl) (by kernel_rfl) (by kernel_rfl)]; rfl
end Go.Proofs.Ytigkfdoeneemeaa
