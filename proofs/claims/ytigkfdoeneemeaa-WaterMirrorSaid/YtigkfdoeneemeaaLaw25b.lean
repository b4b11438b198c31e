/- The law of waters: small, SameInts, walked. -/
import Derived.Test.YtigkfdoeneemeaaLaw25a
namespace Go.Proofs.Ytigkfdoeneemeaa
open Go.RowKit

def smallL (l : List FL) : Bool := if (60 < l.length ∧ l.length ≤ 4096) ∨ 4105 < l.length then false else l.all fun x => smF x.r

set_option maxRecDepth 100000 in
set_option maxHeartbeats 2000000 in
theorem law25small_any (A : Option Addr) (l : List FL) (cap : Nat) (w : World) (hA : Arr w A (fls l)) (hl : l.length ≤ 9223372036854775807) (hw : ∀ x ∈ l, x.r.num.length ≤ 9223372036854775807 ∧ x.r.den.length ≤ 9223372036854775807) :
    Calls Try.prog 74 #[.slice A l.length cap] w fun e w' => e = .returned (.bool (smallL l)) ∧ ∃ x, w' = w.ext x := by
  by_cases h0 : (60 < l.length ∧ l.length ≤ 4096) ∨ 4105 < l.length
  · have HE := Lib.hid (show smallL l = false from if_pos h0)
    rcases h0 with ⟨h1, h2⟩ | h1
    · have d1 : decide ((60 : Int) < (l.length : Int)) = true := by simp; omega
      have d2 : decide ((l.length : Int) ≤ 4096) = true := by simp; omega
      go_enter Try.func74, Try.ntmps74
      go_wp2
      go_ret
      exact ⟨ret_bool HE.out.symm, Blw.is (by repeat (first | exact Blw.refl _ | apply Blw.ext | apply Blw.alloc | apply Blw.drewN | apply Blw.drew | refine Blw.setCell ?_ _ _ (by simp)))⟩
    · have d1 : decide ((60 : Int) < (l.length : Int)) = true := by simp; omega
      have d2 : decide ((l.length : Int) ≤ 4096) = false := by simp; omega
      have d3 : decide ((4105 : Int) < (l.length : Int)) = true := by simp; omega
      go_enter Try.func74, Try.ntmps74
      go_wp2
      go_ret
      exact ⟨ret_bool HE.out.symm, Blw.is (by repeat (first | exact Blw.refl _ | apply Blw.ext | apply Blw.alloc | apply Blw.drewN | apply Blw.drew | refine Blw.setCell ?_ _ _ (by simp)))⟩
  · have he : smallL l = l.all fun x => smF x.r := if_neg h0
    have HE := Lib.hid he
    have hcs : decide ((60 : Int) < (l.length : Int)) = false ∨ (decide ((60 : Int) < (l.length : Int)) = true ∧ decide ((l.length : Int) ≤ 4096) = false) := by
      by_cases h1 : 60 < l.length
      · exact .inr ⟨by simp; omega, by simp; omega⟩
      · exact .inl (by simp; omega)
    have d3 : decide ((4105 : Int) < (l.length : Int)) = false := by simp; omega
    have HW := Lib.hid hw
    clear h0 he hw
    go_enter Try.func74, Try.ntmps74
    rcases hcs with d1 | ⟨d1, d2⟩
    all_goals
      go_wp2
      go_loopw [3] (fun vi wr => ∃ k : Nat, k ≤ l.length ∧ vi = .int .i64 k ∧ Hid ((l.all fun x => smF x.r) = (l.drop k).all fun x => smF x.r) ∧ Blw w wr) (fun i _ => l.length - (intOf i).toNat)
      case atStart => exact ⟨0, Nat.zero_le _, rfl, rfl, Blw.refl _⟩
      case round =>
        obtain ⟨k, hk, rfl, hall, hb⟩ := hrel
        by_cases hlt : k < l.length
        · obtain ⟨x, b, o, hgk, hm, rfl, hbs, c0, c1, c2⟩ := fl_at (hA.blw hb) hlt
          obtain ⟨b1, b2⟩ := HW.out x hm
          have hd : l.drop k = x :: l.drop (k + 1) := by
            obtain ⟨h9, h8⟩ := List.getElem?_eq_some_iff.1 hgk
            rw [List.drop_eq_getElem_cons h9, h8]
          have SM := fun W => law04Small_any x.r x.a x.c x.b x.d W b1 b2
          have hall2 := hall.out
          rw [hd, List.all_cons] at hall2
          generalize smF x.r = u at *
          have HSM := Lib.hid SM
          clear SM hall hgk hd hm
          go_wp2_with fail
          refine Calls.mono (HSM.out _) ?_
          rintro e w2 ⟨rfl, x2, rfl⟩
          cases u
          · have HA2 := Lib.hid (HE.out.trans hall2)
            clear hall2
            go_wp2
            go_ret
            exact ⟨ret_bool (by rw [HA2.out]; rfl), Blw.is (hb.ext _)⟩
          · have HA2 := Lib.hid hall2
            clear hall2
            go_wp2
            go_roundw
            case rel => exact ⟨k + 1, by omega, by go_num, HA2, hb.ext _⟩
            case measure => simp [intOf]; omega
        · have hkl : k = l.length := by omega
          subst hkl
          have HA2 := Lib.hid (HE.out.trans (hall.out.trans (show ((l.drop l.length).all fun x => smF x.r) = true by rw [List.drop_length]; rfl)))
          clear hall
          go_wp2
          go_ret
          exact ⟨ret_bool HA2.out.symm, Blw.is hb⟩

set_option maxHeartbeats 800000 in
theorem sameInts_refl_any (a b : Option Addr) (l : List Int) (c d : Nat) (w : World) (ha : Arr w a (i64s l)) (hb : Arr w b (i64s l)) (hl : l.length ≤ 1099511627776) :
    Calls Try.prog 93 #[.slice a l.length c, .slice b l.length d] w fun e w' => e = .returned (.bool true) ∧ ∃ x, w' = w.ext x := by
  go_enter Try.func93, Try.ntmps93
  go_wp2
  go_loopw [5] (fun i wr => ∃ (k : Nat) (x : World), k ≤ l.length ∧ i = .int .i64 k ∧ wr = w.ext x) (fun i _ => l.length - (intOf i).toNat)
  case atStart => exact ⟨0, w, Nat.zero_le _, rfl, (World.ext_of (Blw.refl w)).symm⟩
  case round =>
    obtain ⟨k, wx, hk, rfl, rfl⟩ := hrel
    by_cases hlt : k < l.length
    · obtain ⟨x, b1, o1, hd1, -, -, rfl, hb1, hc1⟩ := ha.elem hlt
      obtain ⟨y, b2, o2, hd2, -, -, rfl, hb2, hc2⟩ := hb.elem hlt
      have hxy : x = y := by have := hd1.out.symm.trans hd2.out; simp at this; exact this
      subst hxy
      have h0 : (0 : Int) ≤ (k : Int) := by omega
      have h1 : (k : Int) < (l.length : Int) := by omega
      go_wp2_with fail
      go_quiet (fail)
      go_wp2
      go_roundw
      case rel => exact ⟨k + 1, _, by omega, by go_num, (World.ext_of (by repeat (first | exact Blw.refl _ | apply Blw.ext | apply Blw.alloc | apply Blw.drewN | apply Blw.drew | refine Blw.setCell ?_ _ _ (by simp)))).symm⟩
      case measure => simp [intOf]; omega
    · go_wp2
      go_ret
      exact ⟨rfl, Blw.is (by repeat (first | exact Blw.refl _ | apply Blw.ext | apply Blw.alloc | apply Blw.drewN | apply Blw.drew | refine Blw.setCell ?_ _ _ (by simp)))⟩
end Go.Proofs.Ytigkfdoeneemeaa
