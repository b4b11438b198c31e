/- The walk of the law AlarmNil. -/
import Derived.Test.YtigkfdoeneemeaaLives
namespace Go.Proofs.Ytigkfdoeneemeaa
open Go.RowKit

/-- A watch that is nil, or that nobody made. -/
def NoW (w : World) (p : Option Addr) : Prop := p = none ∨ ∃ g, p = some ⟨g, 0, none⟩ ∧ g < w.heap.size ∧ w.cell? ⟨g, 0, none⟩ = some (.bool false)
theorem NoW.ext {w : World} {p : Option Addr} (h : NoW w p) (x : World) : NoW (w.ext x) p := by
  rcases h with h | ⟨g, h, hg, hc⟩
  · exact .inl h
  · exact .inr ⟨g, h, w.lt_ext x g hg, by rw [World.cell?_ext _ _ _ _ _ hg]; exact hc⟩
theorem NoW.blw {w w' : World} {p : Option Addr} (h : NoW w p) (k : Blw w w') : NoW w' p := by
  obtain ⟨x, rfl⟩ := k.is; exact h.ext x

set_option maxHeartbeats 400000 in
theorem isNot_any (p : Option Addr) (w : World) (h : NoW w p) :
    Calls Try.prog 98 #[.pointer p] w fun e w' => e = .returned (.bool false) ∧ w' = w := by
  rcases h with rfl | ⟨g, rfl, hg, hc⟩
  all_goals
    go_enter Try.func98, Try.ntmps98
    go_wp2
    go_ret
    exact ⟨rfl, rfl⟩
set_option maxHeartbeats 400000 in
theorem feedNot_any (p : Option Addr) (t : Int) (h : Nat) (w : World) (hp : NoW w p) :
    Calls Try.prog 25 #[.pointer p, .agg #[.int .i64 t, .float .f64 h]] w fun e w' => e = .returned (.tuple #[.int .u8 0, .int .i64 1]) ∧ ∃ x, w' = w.ext x := by
  go_enter Try.func25, Try.ntmps25
  go_wp2_with (go_at_call 98; refine Calls.mono (isNot_any p _ (hp.blw (by repeat (first | exact Blw.refl _ | apply Blw.ext | apply Blw.alloc | apply Blw.drewN | apply Blw.drew | refine Blw.setCell ?_ _ _ (by simp))))) ?_; rintro e w' ⟨rfl, rfl⟩)
  go_ret2
  exact ⟨rfl, Blw.is (by repeat (first | exact Blw.refl _ | apply Blw.ext | apply Blw.alloc | apply Blw.drewN | apply Blw.drew | refine Blw.setCell ?_ _ _ (by simp)))⟩
set_option maxHeartbeats 400000 in
theorem upNot_any (p : Option Addr) (w : World) (hp : NoW w p) :
    Calls Try.prog 26 #[.pointer p] w fun e w' => e = .returned (.bool false) ∧ w' = w := by
  go_enter Try.func26, Try.ntmps26
  go_wp2_with (go_at_call 98; refine Calls.mono (isNot_any p _ hp) ?_; rintro e w' ⟨rfl, rfl⟩)
  go_ret
  exact ⟨rfl, rfl⟩
set_option maxHeartbeats 400000 in
theorem alarmsNot_any (p : Option Addr) (w : World) (hp : NoW w p) :
    Calls Try.prog 27 #[.pointer p] w fun e w' => e = .returned (.slice none 0 0) ∧ w' = w := by
  go_enter Try.func27, Try.ntmps27
  go_wp2_with (go_at_call 98; refine Calls.mono (isNot_any p _ hp) ?_; rintro e w' ⟨rfl, rfl⟩)
  go_ret
  exact ⟨rfl, rfl⟩

set_option maxRecDepth 100000 in
set_option maxHeartbeats 2000000 in
theorem alarmNil_walk (t : Int) (h : Nat) (w : World) :
    Calls Try.prog 5 #[.agg #[.int .i64 t, .float .f64 h]] w fun e w' => e = .returned (.bool true) ∧ ∃ x, w' = w.ext x := by
  go_enter Try.func5, Try.ntmps5
  go_wp2_with fail
  refine gen_world (fun W => Blw w W ∧ W.cell? ⟨w.heap.size, 0, none⟩ = some (.int .i64 t) ∧ W.cell? ⟨w.heap.size, 1, none⟩ = some (.float .f64 h) ∧ w.heap.size + 1 + 1 < W.heap.size ∧
    W.cell? ⟨w.heap.size + 1 + 1, 0, none⟩ = some (.pointer none) ∧ W.cell? ⟨w.heap.size + 1 + 1, 1, none⟩ = some (.pointer (some ⟨w.heap.size + 1, 0, none⟩)) ∧ NoW W (some ⟨w.heap.size + 1, 0, none⟩)) ⟨(by repeat (first | exact Blw.refl _ | apply Blw.ext | apply Blw.alloc | apply Blw.drewN | apply Blw.drew | refine Blw.setCell ?_ _ _ (by simp))), (by go_simp), (by go_simp), (by simp), (by go_simp), (by go_simp), .inr ⟨_, rfl, (by simp), (by go_simp)⟩⟩ ?_
  rintro W ⟨hb, c0, c1, hs, d0, d1, hn⟩
  have hs1 : w.heap.size < W.heap.size := by omega
  have hs2 : w.heap.size + 1 < W.heap.size := by omega
  go_loopw [4] (fun i wr => ∃ (k : Nat) (x : World), k ≤ 2 ∧ i = .int .i64 k ∧ wr = W.ext x) (fun i _ => 2 - (intOf i).toNat)
  case atStart => exact ⟨0, W, by omega, rfl, (World.ext_of (Blw.refl W)).symm⟩
  case round =>
    obtain ⟨k, x, hk, rfl, rfl⟩ := hrel
    by_cases h2 : k = 2
    · subst h2
      go_wp2_with (go_at_call 28; refine Calls.mono (lives_any _) ?_; rintro e w' ⟨rfl, y, rfl⟩)
      go_ret
      exact ⟨rfl, Blw.is (((hb.trans (by repeat (first | exact Blw.refl _ | apply Blw.ext | apply Blw.alloc | apply Blw.drewN | apply Blw.drew | refine Blw.setCell ?_ _ _ (by simp))))))⟩
    · obtain ⟨p, hp, e0⟩ : ∃ p, NoW W p ∧ W.cell? ⟨w.heap.size + 1 + 1, k, none⟩ = some (.pointer p) := by
        have : k = 0 ∨ k = 1 := by omega
        rcases this with rfl | rfl
        · exact ⟨none, .inl rfl, d0⟩
        · exact ⟨_, hn, d1⟩
      have hk2 : k < 2 := by omega
      have i0 : (0 : Int) ≤ (k : Int) := by omega
      have i1 : (k : Int) < 2 := by omega
      clear h2 d0 d1 hn
      go_wp2_with fail
      refine wp_region_ext_lit (by kernel_rfl) (by kernel_rfl) ?_
      repeat (quiet_step ((go_at_call 25; exact Calls.ext_of (feedNot_any p _ _ _ ((hp.ext _).ext _)))))
      refine wpQuiet_nil ?_
      rintro _ ⟨y, rfl⟩
      go_wp2_with (first | (go_at_call 26; refine Calls.mono (upNot_any p _ ((hp.ext _).ext _)) ?_; rintro e w' ⟨rfl, rfl⟩) | (go_at_call 27; refine Calls.mono (alarmsNot_any p _ ((hp.ext _).ext _)) ?_; rintro e w' ⟨rfl, rfl⟩))
      go_roundw
      case rel => exact ⟨k + 1, _, by omega, by go_num, (World.ext_of (by repeat (first | exact Blw.refl _ | apply Blw.ext | apply Blw.alloc | apply Blw.drewN | apply Blw.drew | refine Blw.setCell ?_ _ _ (by simp)))).symm⟩
      case measure => simp [intOf]; omega
end Go.Proofs.Ytigkfdoeneemeaa
