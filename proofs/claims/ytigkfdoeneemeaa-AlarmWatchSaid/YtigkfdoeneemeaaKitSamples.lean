/- Walks of the kit's copies and comparisons of lists of samples. -/
import Derived.Test.YtigkfdoeneemeaaKitFloats
import Derived.Test.YtigkfdoeneemeaaRef29a
namespace Go.Proofs.Ytigkfdoeneemeaa
open Go.RowKit

theorem sl_samples : SlT Try.prog 55 43 (.agg #[.int .i64 0, .float .f64 0]) 2 16 := ⟨Try.underlying55, by kernel_rfl, by kernel_rfl, by decide⟩
theorem smps_len (l : List (Int × Nat)) : (smps l).length = l.length * 2 := by
  induction l with
  | nil => rfl
  | cons a l ih => simp [smps, smp] at ih ⊢; omega
theorem smps_one (l : List (Int × Nat)) : ∀ u ∈ smps l, u.oneCell' = true := by
  intro u hu
  simp [smps, smp] at hu
  obtain ⟨a, b, _, h | h⟩ := hu <;> rw [h] <;> rfl
theorem smps_app (l m : List (Int × Nat)) : smps (l ++ m) = smps l ++ smps m := List.flatMap_append

set_option maxHeartbeats 400000 in
theorem copySamples_any (a : Option Addr) (l : List (Int × Nat)) (cap : Nat) (w : World) (h : Arr w a (smps l)) (hn : a = none → cap = 0) (hl : l.length ≤ 1099511627776) :
    Calls Try.prog 102 #[.slice a l.length cap] w (RetOwn w 43 2 l.length (smps l)) := by
  have hown : (w.alloc (.cells #[] 43)).ownsRow w.heap.size 43 2 (.slice (some ⟨w.heap.size, 0, none⟩) 0 0) 0 [] := World.ownsRow_made w #[] 0 (Nat.le_refl _) (Nat.zero_le _) rfl
  have HL := Lib.hid (smps_len l)
  go_enter Try.func102, Try.ntmps102
  go_wp2_with (at_builtin; refine wpList_app w _ rfl _ _ 55 rfl sl_samples ((Blw.refl w).alloc _) _ 0 [] rfl hown a l.length cap (smps l) rfl hn (h.alloc _) HL.out (smps_one l) (by unfold maxLen; omega) (by omega) ?_; intro v' w1 hown1 hb1 _ _)
  go_ret
  exact RetOwn.of (by simpa using hown1) hb1

def spS : List (Int × Nat) := [(-9, 0), (-9, 4607182418800017408), (-9, 4611686018427387904)]
theorem spS_at (k : Nat) (h : k < 3) : floatOfInt .f64 k = (spS.getD k (0, 0)).2 := by
  have : k = 0 ∨ k = 1 ∨ k = 2 := by omega
  rcases this with rfl | rfl | rfl <;> decide +kernel

set_option maxHeartbeats 800000 in
theorem lentSamples_any (a : Option Addr) (l : List (Int × Nat)) (cap : Nat) (w : World) (h : Arr w a (smps l)) (hn : a = none → cap = 0) (hl : l.length ≤ 1099511627776) :
    Calls Try.prog 30 #[.slice a l.length cap] w (RetOwn w 43 2 (l.length + 3) (smps (l ++ spS))) := by
  go_enter Try.func30, Try.ntmps30
  go_wp2_with (go_at_call 102; refine (copySamples_any a l cap _ h hn hl).mono ?_; rintro e w' ⟨a1, c1, x1, rfl, rfl, hown1, -, -⟩)
  go_loopw [3, 4] (fun v i wr => ∃ k : Nat, k ≤ 3 ∧ i = .int .i64 k ∧ wr.ownsRow w.heap.size 43 2 v (l.length + k) (smps (l ++ spS.take k)) ∧ Blw w wr) (fun _ i _ => 3 - (intOf i).toNat)
  case atStart => exact ⟨0, by omega, rfl, by simpa using hown1, (Blw.refl w).ext x1⟩
  case round =>
    obtain ⟨k, hk, rfl, hown, hb⟩ := hrel
    clear hown1
    by_cases hlt : k < 3
    · have hf := Lib.hid (spS_at k hlt)
      go_wp2_with (at_builtin; refine wpList_app w _ rfl _ _ 55 rfl sl_samples (hb.alloc _) _ (l.length + k) _ rfl (ownsRow_blw hown ((Blw.refl _).alloc _)) _ 1 1 [.int .i64 (-9), .float .f64 (floatOfInt .f64 k)] rfl (by simp) (Arr.lit _ _ _ _) (by simp) (by simp [Value.oneCell']) (by unfold maxLen; omega) (by omega) ?_; intro v' w1 hown1 hb1 _ _)
      go_roundw
      case rel => exact ⟨k + 1, by omega, by go_num, by
        rw [hf.out] at hown1
        have e : smps (l ++ spS.take (k + 1)) = smps (l ++ spS.take k) ++ [.int .i64 (-9), .float .f64 (spS.getD k (0, 0)).2] := by
          have : k = 0 ∨ k = 1 ∨ k = 2 := by omega
          rcases this with rfl | rfl | rfl <;> simp [smps, smp, spS]
        rw [e]; exact hown1, hb1⟩
      case measure => simp [intOf]; omega
    · have hk3 : k = 3 := by omega
      subst hk3
      go_wp2_with fail
      go_ret
      exact RetOwn.of hown hb

set_option maxHeartbeats 800000 in
theorem sameSamples_refl_any (a b : Option Addr) (l : List (Int × Nat)) (c d : Nat) (w : World) (ha : Arr w a (smps l)) (hb : Arr w b (smps l)) (hl : l.length ≤ 1099511627776) :
    Calls Try.prog 103 #[.slice a l.length c, .slice b l.length d] w fun e w' => e = .returned (.bool true) ∧ ∃ x, w' = w.ext x := by
  go_enter Try.func103, Try.ntmps103
  go_wp2
  go_loopw [5] (fun i wr => ∃ (k : Nat) (x : World), k ≤ l.length ∧ i = .int .i64 k ∧ wr = w.ext x) (fun i _ => l.length - (intOf i).toNat)
  case atStart => exact ⟨0, w, Nat.zero_le _, rfl, (World.ext_of (Blw.refl w)).symm⟩
  case round =>
    obtain ⟨k, wx, hk, rfl, rfl⟩ := hrel
    by_cases hlt : k < l.length
    · obtain ⟨t, x, b1, o1, hg1, -, rfl, hb1, d0, d1⟩ := smp_at ha hlt
      obtain ⟨t2, x2, b2, o2, hg2, -, rfl, hb2, e0, e1⟩ := smp_at hb hlt
      have hxy := hg1.symm.trans hg2
      simp at hxy
      obtain ⟨rfl, rfl⟩ := hxy
      clear hg1 hg2
      have hs := sBits_refl x
      have h0 : (0 : Int) ≤ (k : Int) := by omega
      have h1 : (k : Int) < (l.length : Int) := by omega
      go_wp2_with fail
      go_quiet ((go_at_call 143; exact Calls.quiet_of_same (sameBits_any x x _)))
      go_wp2
      go_roundw
      case rel => exact ⟨k + 1, _, by omega, by go_num, (World.ext_of (by repeat (first | exact Blw.refl _ | apply Blw.ext | apply Blw.alloc | apply Blw.drewN | apply Blw.drew | refine Blw.setCell ?_ _ _ (by simp)))).symm⟩
      case measure => simp [intOf]; omega
    · go_wp2
      go_ret
      exact ⟨rfl, Blw.is (by repeat (first | exact Blw.refl _ | apply Blw.ext | apply Blw.alloc | apply Blw.drewN | apply Blw.drew | refine Blw.setCell ?_ _ _ (by simp)))⟩

set_option maxHeartbeats 400000 in
theorem keptSamples_any (a b : Option Addr) (l : List (Int × Nat)) (c d : Nat) (w : World) (ha : Arr w a (smps (l ++ spS))) (hb : Arr w b (smps l)) (hn : b = none → d = 0) (hl : l.length ≤ 1000000000) :
    Calls Try.prog 34 #[.slice a (l.length + 3) c, .slice b l.length d] w fun e w' => e = .returned (.bool true) ∧ ∃ x, w' = w.ext x := by
  have h3 : (l ++ spS).length = l.length + 3 := by simp [spS]
  go_enter Try.func34, Try.ntmps34
  go_wp2_with fail
  refine (lentSamples_any b l d w hb hn (by omega)).mono ?_
  rintro e w' ⟨a1, c1, x1, rfl, rfl, hown1, ha1, -⟩
  go_wp2_with fail
  rw [← h3]
  refine (sameSamples_refl_any a a1 (l ++ spS) c c1 _ (ha.ext x1) ha1 (by omega)).mono ?_
  rintro e w' ⟨rfl, x2, rfl⟩
  go_wp2
  go_ret
  exact ⟨rfl, Blw.is (by repeat (first | exact Blw.refl _ | apply Blw.ext | apply Blw.alloc | apply Blw.drewN | apply Blw.drew | refine Blw.setCell ?_ _ _ (by simp)))⟩

/-- The law's comparison of two lists of alarms that are the same. -/
theorem sameAlarms_any (a b : Option Addr) (l : List (Int × Int)) (c d : Nat) (w : World) (ha : Arr w a (alCells l)) (hb : Arr w b (alCells l)) (hl : l.length ≤ 1099511627776) :
    Calls Try.prog 33 #[.slice a l.length c, .slice b l.length d] w fun e w' => e = .returned (.bool true) ∧ ∃ x, w' = w.ext x := by
  go_enter Try.func33, Try.ntmps33
  go_wp2
  go_loopw [5] (fun i wr => ∃ (k : Nat) (x : World), k ≤ l.length ∧ i = .int .i64 k ∧ wr = w.ext x) (fun i _ => l.length - (intOf i).toNat)
  case atStart => exact ⟨0, w, Nat.zero_le _, rfl, (World.ext_of (Blw.refl w)).symm⟩
  case round =>
    obtain ⟨k, wx, hk, rfl, rfl⟩ := hrel
    by_cases hlt : k < l.length
    · obtain ⟨t, x, b1, o1, hg1, -, rfl, hb1, d0, d1⟩ := al_at ha hlt
      obtain ⟨t2, x2, b2, o2, hg2, -, rfl, hb2, e0, e1⟩ := al_at hb hlt
      have hxy := hg1.symm.trans hg2
      simp at hxy
      obtain ⟨rfl, rfl⟩ := hxy
      clear hg1 hg2
      have h0 : (0 : Int) ≤ (k : Int) := by omega
      have h1 : (k : Int) < (l.length : Int) := by omega
      go_wp2_with fail
      go_quiet (fail)
      go_wp2
      go_roundw
      case rel => exact ⟨k + 1, _, by omega, by go_num, (World.ext_of (by repeat (first | exact Blw.refl _ | apply Blw.ext | apply Blw.alloc | apply Blw.drewN | apply Blw.drew | refine Blw.setCell ?_ _ _ (by simp)))).symm⟩
      case measure => simp [intOf]; omega
    · go_wp2
      go_ret
      exact ⟨rfl, Blw.is (by repeat (first | exact Blw.refl _ | apply Blw.ext | apply Blw.alloc | apply Blw.drewN | apply Blw.drew | refine Blw.setCell ?_ _ _ (by simp)))⟩
end Go.Proofs.Ytigkfdoeneemeaa
