/- The walk of the law HeightLower. -/
import Derived.Test.YtigkfdoeneemeaaLower
import Derived.Test.YtigkfdoeneemeaaExtn
namespace Go.Proofs.Ytigkfdoeneemeaa
open Go.RowKit

set_option maxHeartbeats 400000 in
set_option maxRecDepth 100000 in
theorem heightLower_walk (a0 a1 a2 a3 : Int) (w : World) :
    Calls Try.prog 3 #[.int .u64 a0, .int .u64 a1, .int .u64 a2, .int .u64 a3] w fun e w' => e = .returned (.bool true) ∧ ∃ x, w' = w.ext x := by
  go_enter Try.func3, Try.ntmps3
  go_wp2
  refine wp_region_ext_lit (by kernel_rfl) (by kernel_rfl) ?_
  repeat (quiet_step ((first | (go_at_call 16; exact Calls.ext_of (lower_any _ _ _ _ _)) | (go_at_call 17; exact Calls.ext_of (refLower_any _ _ _ _ _)))))
  refine wpQuiet_nil ?_
  rintro _ ⟨x, rfl⟩
  go_wp2
  go_ret
  exact ⟨by simp, Blw.is (by repeat (first | exact Blw.refl _ | apply Blw.ext | apply Blw.alloc | apply Blw.drewN | apply Blw.drew))⟩
end Go.Proofs.Ytigkfdoeneemeaa
