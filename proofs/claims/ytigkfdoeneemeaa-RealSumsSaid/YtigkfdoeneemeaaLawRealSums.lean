/- The walk of the law RealSums. -/
import Derived.Test.YtigkfdoeneemeaaRealSum
import Derived.Test.YtigkfdoeneemeaaKitFloats
import Derived.Test.YtigkfdoeneemeaaTypes
namespace Go.Proofs.Ytigkfdoeneemeaa
open Go.RowKit

def sFl (x y : Nat) : Bool := (Fl.ord x y == some .eq) || (Fl.isNaN x && Fl.isNaN y)
theorem sFl_refl (x : Nat) : sFl x x = true := by
  unfold sFl; rw [Fl.ord_self_eq]; cases Fl.isNaN x <;> rfl
set_option maxHeartbeats 400000 in
theorem sameFloat_refl_any (x : Nat) (w : World) :
    Calls Try.prog 23 #[.float .f64 x, .float .f64 x] w fun e w' => e = .returned (.bool true) ∧ w' = w := by
  have ex : (FloatKind.f64.format.order x x == some .eq) = !Fl.isNaN x := Fl.ord_self_eq x
  have ey : (FloatKind.f64.format.order x x != some .eq) = Fl.isNaN x := Fl.ord_self_ne x
  go_enter Try.func23, Try.ntmps23
  cases hx : Fl.isNaN x
  all_goals
    rw [hx] at ex ey
    go_wp2
    go_ret
    exact ⟨ret_bool (by simp), rfl⟩

set_option maxHeartbeats 400000 in
theorem keptFloats_any (a b : Option Addr) (l : List Nat) (c d : Nat) (w : World) (ha : Arr w a (flt (l ++ spF))) (hb : Arr w b (flt l)) (hn : b = none → d = 0) (hl : l.length ≤ 1099511627776) :
    Calls Try.prog 24 #[.slice a (l.length + 3) c, .slice b l.length d] w fun e w' => e = .returned (.bool true) ∧ ∃ x, w' = w.ext x := by
  have h3 : (l ++ spF).length = l.length + 3 := by simp [spF]
  go_enter Try.func24, Try.ntmps24
  go_wp2_with fail
  refine (lentFloats_any b l d w hb hn hl).mono ?_
  rintro e w' ⟨a1, c1, x1, rfl, rfl, hown1, ha1, -⟩
  go_wp2_with fail
  rw [← h3]
  refine (sameFloats_refl_any a a1 (l ++ spF) c c1 _ (ha.ext x1) ha1 (by omega)).mono ?_
  rintro e w' ⟨rfl, x2, rfl⟩
  go_wp2
  go_ret
  exact ⟨rfl, Blw.is (by repeat (first | exact Blw.refl _ | apply Blw.ext | apply Blw.alloc | apply Blw.drewN | apply Blw.drew | refine Blw.setCell ?_ _ _ (by simp)))⟩

set_option maxRecDepth 100000 in
set_option maxHeartbeats 1000000 in
theorem realSums_walk (x y : Nat) (a : Option Addr) (l : List Nat) (cap : Nat) (w : World) (hx : x < 2 ^ 64) (hy : y < 2 ^ 64) (h : Arr w a (u64s l)) (hlt : ∀ z ∈ l, z < 2 ^ 64) :
    Calls Try.prog 4 #[.int .u64 x, .int .u64 y, .slice a l.length cap] w fun e w' => e = .returned (.bool true) ∧ ∃ x, w' = w.ext x := by
  go_enter Try.func4, Try.ntmps4
  by_cases hbig : 3000 < l.length
  · go_wp2
    go_ret
    exact ⟨rfl, Blw.is (by repeat (first | exact Blw.refl _ | apply Blw.ext | apply Blw.alloc | apply Blw.drewN | apply Blw.drew | refine Blw.setCell ?_ _ _ (by simp)))⟩
  · go_wp2
    go_loopw [9, 10] (fun v i wr => ∃ (k : Nat) (x : World), k ≤ l.length ∧ i = .int .i64 k ∧ wr = w.ext x ∧ (w.ext x).ownsRow w.heap.size 23 1 v k (flt (l.take k))) (fun _ i _ => l.length - (intOf i).toNat)
    case atStart => exact ⟨0, w, Nat.zero_le _, rfl, (World.ext_of (Blw.refl w)).symm, by simpa using World.ownsRow_nil _ _ _ _⟩
    case round =>
      obtain ⟨k, wx, hk, rfl, rfl, hown⟩ := hrel
      by_cases hk2 : k < l.length
      · obtain ⟨z, b, o, hd, hm, hg, rfl, hbs, hc⟩ := h.elem hk2
        go_wp2_with (at_builtin; refine wpList_app w _ rfl _ _ 30 rfl sl_floats (((Blw.refl w).ext wx).alloc _) _ k _ rfl (ownsRow_blw hown ((Blw.refl _).alloc _)) _ 1 1 [.float .f64 z] rfl (by simp) (Arr.lit _ _ _ _) (by simp) (by simp [Value.oneCell']) (by unfold maxLen; omega) (by omega) ?_; intro v' w1 hown1 hb1 _ _)
        go_roundw
        case rel => exact ⟨k + 1, w1, by omega, by go_num, (World.ext_of hb1).symm, by
          rw [World.ext_of hb1]
          have e : flt (l.take (k + 1)) = flt (l.take k) ++ [.float .f64 z] := by
            rw [flt, List.take_add_one, hg.out]; simp
          rw [e]; exact hown1⟩
        case measure => simp [intOf]; omega
      · have hkl : k = l.length := by omega
        subst hkl
        rw [List.take_length] at hown
        obtain ⟨a9, c9, rfl, har, _, _, _, hn9⟩ := own_arr hown
        go_wp2_with fail
        refine (twoSum_any _ _ _ hx hy).mono ?_
        rintro e w' ⟨he, n2, rfl⟩
        obtain ⟨s2, t2, r, rfl, hts, hs2, ht2⟩ := TsRes.of he
        clear he
        go_wp2_with fail
        refine (ref06TwoSum_any _ _ _).mono ?_
        rintro e w' ⟨he, n3, rfl⟩
        rw [hts.out] at he
        subst he
        simp only [tsV]
        go_wp2_with fail
        refine (lentFloats_any a9 l c9 _ (har.drewN _) (fun h => (hn9 h).2) (by omega)).mono ?_
        rintro e w' ⟨a1, c1, x1, rfl, rfl, hown1, ha1, hn1⟩
        obtain ⟨b1, o1, rfl, -, -⟩ := ha1.at (i := l.length) (by simp [spF])
        have hp : Arr (((w.ext wx).drewN (n2 + n3)).ext x1) (some ⟨b1, o1, none⟩) (flt l) := ha1.pre (by simp)
        have hcap := own_cap hown1
        go_wp2_with fail
        refine (realSum_any _ l c1 _ hp (by omega) hlt).mono ?_
        rintro e w' ⟨he, x2, rfl⟩
        obtain ⟨⟨p1, p2, p3, p5⟩, p4⟩ : ∃ p : Nat × Nat × Int × Int, Hid (sumAll l = p) := ⟨_, rfl⟩
        rw [p4.out] at he
        subst he
        simp only [sumV]
        go_wp2_with fail
        refine (ref06Sum_any _ l c9 _ (har.blw (by repeat (first | exact Blw.refl _ | apply Blw.ext | apply Blw.alloc | apply Blw.drewN | apply Blw.drew | refine Blw.setCell ?_ _ _ (by simp)))) (by omega)).mono ?_
        rintro e w' ⟨he, x3, rfl⟩
        rw [p4.out] at he
        subst he
        simp only [sumV]
        go_wp2_with fail
        go_wp2_with (first | (go_at_call 23; refine (sameFloat_refl_any _ _).mono ?_; rintro e w' ⟨rfl, rfl⟩) | (go_at_call 24; refine (keptFloats_any _ a9 l _ c9 _ (ha1.blw (by repeat (first | exact Blw.refl _ | apply Blw.ext | apply Blw.alloc | apply Blw.drewN | apply Blw.drew | refine Blw.setCell ?_ _ _ (by simp)))) (har.blw (by repeat (first | exact Blw.refl _ | apply Blw.ext | apply Blw.alloc | apply Blw.drewN | apply Blw.drew | refine Blw.setCell ?_ _ _ (by simp)))) (fun h => (hn9 h).2) (by omega)).mono ?_; rintro e w' ⟨rfl, x4, rfl⟩))
        go_ret
        exact ⟨rfl, Blw.is (by repeat (first | exact Blw.refl _ | apply Blw.ext | apply Blw.alloc | apply Blw.drewN | apply Blw.drew | refine Blw.setCell ?_ _ _ (by simp)))⟩
end Go.Proofs.Ytigkfdoeneemeaa
