/- Fractions: what ratio.Check says, walked. -/
import Derived.Test.YtigkfdoeneemeaaGcd
namespace Go.Proofs.Ytigkfdoeneemeaa
open Go.RowKit

/-- A fraction as it is handed about: its words, whatever they are. -/
structure Fr where
  neg : Bool
  num : List Nat
  den : List Nat
abbrev frV (r : Fr) (a : Option Addr) (c : Nat) (b : Option Addr) (d : Nat) : Value := .agg #[.bool r.neg, .slice a r.num.length c, .slice b r.den.length d]
/-- It lies behind these addresses. -/
structure FrA (w : World) (r : Fr) (a : Option Addr) (c : Nat) (b : Option Addr) (d : Nat) : Prop where
  an : Arr w a (u32s r.num)
  ad : Arr w b (u32s r.den)
  cn : r.num.length ≤ c
  cm : c ≤ 9223372036854775807
  dn : r.den.length ≤ d
  dm : d ≤ 9223372036854775807
  na : a = none → r.num.length = 0 ∧ c = 0
  nb : b = none → r.den.length = 0 ∧ d = 0
  wn : W.WF r.num
  wd : W.WF r.den
theorem FrA.blw {w w' : World} {r : Fr} {a : Option Addr} {c : Nat} {b : Option Addr} {d : Nat} (h : FrA w r a c b d) (k : Blw w w') : FrA w' r a c b d :=
  ⟨h.an.blw k, h.ad.blw k, h.cn, h.cm, h.dn, h.dm, h.na, h.nb, h.wn, h.wd⟩

def chkF (r : Fr) : Int := if 2048 < r.num.length ∨ 2048 < r.den.length then 3 else if r.num.getLast? = some 0 ∨ r.den.getLast? = some 0 ∨ r.den.length = 0 ∨ (r.num.length = 0 ∧ r.neg = true) ∨ ¬ Nat.gcd (W.val r.num) (W.val r.den) = 1 then 11 else 0

/-- A fraction that may be. -/
structure Fr.Ok (r : Fr) : Prop where
  ln : r.num.length ≤ 2048
  ld : r.den.length ≤ 2048
  nn : W.Nrm r.num
  nd : W.Nrm r.den
  d0 : 0 < r.den.length
  ns : r.num.length = 0 → r.neg = false
  g : Nat.gcd (W.val r.num) (W.val r.den) = 1
theorem chkF_ok {r : Fr} (h : r.Ok) : chkF r = 0 := by
  unfold chkF
  rw [if_neg (by have := h.ln; have := h.ld; omega), if_neg]
  rintro (k | k | k | ⟨k, k2⟩ | k)
  · exact h.nn k
  · exact h.nd k
  · have := h.d0; omega
  · rw [h.ns k] at k2; cases k2
  · exact k h.g
theorem ok_chkF {r : Fr} (h : chkF r = 0) : r.Ok := by
  unfold chkF at h
  split at h
  · cases h
  · rename_i h1
    split at h
    · cases h
    · rename_i h2
      refine ⟨by omega, by omega, fun k => h2 (.inl k), fun k => h2 (.inr (.inl k)), ?_, fun k => ?_, ?_⟩
      · rcases Nat.eq_zero_or_pos r.den.length with k | k
        · exact absurd (.inr (.inr (.inl k))) h2
        · exact k
      · cases hn : r.neg
        · rfl
        · exact absurd (.inr (.inr (.inr (.inl ⟨k, hn⟩)))) h2
      · rcases Nat.decEq (Nat.gcd (W.val r.num) (W.val r.den)) 1 with k | k
        · exact absurd (.inr (.inr (.inr (.inr k)))) h2
        · exact k
theorem chkF_cases (r : Fr) : chkF r = 0 ∨ chkF r = 3 ∨ chkF r = 11 := by
  unfold chkF
  split
  · simp
  · split <;> simp

set_option maxHeartbeats 400000 in
theorem ratioLong_any (a : Option Addr) (n c : Nat) (w : World) (hn : n ≤ 9223372036854775807) :
    Calls Try.prog 151 #[.slice a n c] w fun e w' => e = .returned (.bool (decide ((2048 : Int) < (n : Int)))) ∧ w' = w := by
  go_enter Try.func151, Try.ntmps151
  go_wp2
  go_ret
  exact ⟨rfl, rfl⟩

theorem chk_last {l : List Nat} (h : l.length ≤ 8192) (k : l.getLast? = some 0) : chk l = 11 := by
  unfold chk; rw [if_neg (by omega), if_pos k]

set_option maxRecDepth 100000 in
set_option maxHeartbeats 4000000 in
theorem ratioCheck_any (r : Fr) (a : Option Addr) (c : Nat) (b : Option Addr) (d : Nat) (w : World) (h : FrA w r a c b d) :
    Calls Try.prog 127 #[frV r a c b d] w fun e w' => e = .returned (.int .i64 (chkF r)) ∧ ∃ x, w' = w.ext x := by
  obtain ⟨neg, num, den⟩ := r
  obtain ⟨an, ad, cn, cm, dn, dm, na, nb, wn, wd⟩ := h
  simp only at an ad cn dn na nb wn wd
  by_cases hA : 2048 < num.length
  · have f1 : decide ((2048 : Int) < (num.length : Int)) = true := by simp; omega
    have HE := Lib.hid (show chkF ⟨neg, num, den⟩ = 3 from if_pos (.inl hA))
    go_enter Try.func127, Try.ntmps127
    go_wp2_with (go_at_call 151; refine (ratioLong_any _ _ _ _ (by omega)).mono ?_; rintro e w' ⟨rfl, rfl⟩)
    go_ret
    exact ⟨ret_i64 HE.out.symm, Blw.is (by repeat (first | exact Blw.refl _ | apply Blw.ext | apply Blw.alloc | apply Blw.drewN | apply Blw.drew | refine Blw.setCell ?_ _ _ (by simp)))⟩
  by_cases hB : 2048 < den.length
  · have f1 : decide ((2048 : Int) < (num.length : Int)) = false := by simp; omega
    have f2 : decide ((2048 : Int) < (den.length : Int)) = true := by simp; omega
    have HE := Lib.hid (show chkF ⟨neg, num, den⟩ = 3 from if_pos (.inr hB))
    go_enter Try.func127, Try.ntmps127
    go_wp2_with (go_at_call 151; refine (ratioLong_any _ _ _ _ (by omega)).mono ?_; rintro e w' ⟨rfl, rfl⟩)
    go_ret
    exact ⟨ret_i64 HE.out.symm, Blw.is (by repeat (first | exact Blw.refl _ | apply Blw.ext | apply Blw.alloc | apply Blw.drewN | apply Blw.drew | refine Blw.setCell ?_ _ _ (by simp)))⟩
  have hAB : ¬ (2048 < num.length ∨ 2048 < den.length) := by omega
  have f1 : decide ((2048 : Int) < (num.length : Int)) = false := by simp; omega
  have f2 : decide ((2048 : Int) < (den.length : Int)) = false := by simp; omega
  have K1 := fun (W : World) (hb : Blw w W) => natCheck_any a num c W (an.blw hb) (by omega)
  have K2 := fun (W : World) (hb : Blw w W) => natCheck_any b den d W (ad.blw hb) (by omega)
  by_cases hC : num.getLast? = some 0
  · have HE := Lib.hid (show chkF ⟨neg, num, den⟩ = 11 by unfold chkF; rw [if_neg hAB, if_pos (.inl hC)])
    rw [chk_last (by omega) hC] at K1
    have H1 := Lib.hid K1
    clear K1 K2 hC hAB an ad
    go_enter Try.func127, Try.ntmps127
    go_wp2_with (first | (go_at_call 151; refine (ratioLong_any _ _ _ _ (by omega)).mono ?_; rintro e w' ⟨rfl, rfl⟩) | (go_at_call 152; (with_reducible refine Calls.mono (H1.out _ (by repeat (first | exact Blw.refl _ | apply Blw.ext | apply Blw.alloc | apply Blw.drewN | apply Blw.drew | refine Blw.setCell ?_ _ _ (by simp)))) ?_); rintro e w' ⟨rfl, rfl⟩))
    go_ret
    exact ⟨ret_i64 HE.out.symm, Blw.is (by repeat (first | exact Blw.refl _ | apply Blw.ext | apply Blw.alloc | apply Blw.drewN | apply Blw.drew | refine Blw.setCell ?_ _ _ (by simp)))⟩
  by_cases hD : den.getLast? = some 0
  · have HE := Lib.hid (show chkF ⟨neg, num, den⟩ = 11 by unfold chkF; rw [if_neg hAB, if_pos (.inr (.inl hD))])
    rw [chk_zero (by omega) hC] at K1
    rw [chk_last (by omega) hD] at K2
    have H1 := Lib.hid K1
    have H2 := Lib.hid K2
    clear K1 K2 hC hD hAB an ad
    go_enter Try.func127, Try.ntmps127
    go_wp2_with (first | (go_at_call 151; refine (ratioLong_any _ _ _ _ (by omega)).mono ?_; rintro e w' ⟨rfl, rfl⟩) | (go_at_call 152; (first | (with_reducible refine Calls.mono (H1.out _ (by repeat (first | exact Blw.refl _ | apply Blw.ext | apply Blw.alloc | apply Blw.drewN | apply Blw.drew | refine Blw.setCell ?_ _ _ (by simp)))) ?_) | (with_reducible refine Calls.mono (H2.out _ (by repeat (first | exact Blw.refl _ | apply Blw.ext | apply Blw.alloc | apply Blw.drewN | apply Blw.drew | refine Blw.setCell ?_ _ _ (by simp)))) ?_)); rintro e w' ⟨rfl, rfl⟩))
    go_ret
    exact ⟨ret_i64 HE.out.symm, Blw.is (by repeat (first | exact Blw.refl _ | apply Blw.ext | apply Blw.alloc | apply Blw.drewN | apply Blw.drew | refine Blw.setCell ?_ _ _ (by simp)))⟩
  rw [chk_zero (by omega) hC] at K1
  rw [chk_zero (by omega) hD] at K2
  have H1 := Lib.hid K1
  have H2 := Lib.hid K2
  clear K1 K2
  by_cases hE : den.length = 0
  · have HE := Lib.hid (show chkF ⟨neg, num, den⟩ = 11 by unfold chkF; rw [if_neg hAB, if_pos (.inr (.inr (.inl hE)))])
    have q1 : ((den.length : Int) == 0) = true := by rw [hE]; rfl
    clear hE hC hD hAB an ad
    go_enter Try.func127, Try.ntmps127
    go_wp2_with (first | (go_at_call 151; refine (ratioLong_any _ _ _ _ (by omega)).mono ?_; rintro e w' ⟨rfl, rfl⟩) | (go_at_call 152; (first | (with_reducible refine Calls.mono (H1.out _ (by repeat (first | exact Blw.refl _ | apply Blw.ext | apply Blw.alloc | apply Blw.drewN | apply Blw.drew | refine Blw.setCell ?_ _ _ (by simp)))) ?_) | (with_reducible refine Calls.mono (H2.out _ (by repeat (first | exact Blw.refl _ | apply Blw.ext | apply Blw.alloc | apply Blw.drewN | apply Blw.drew | refine Blw.setCell ?_ _ _ (by simp)))) ?_)); rintro e w' ⟨rfl, rfl⟩))
    go_ret
    exact ⟨ret_i64 HE.out.symm, Blw.is (by repeat (first | exact Blw.refl _ | apply Blw.ext | apply Blw.alloc | apply Blw.drewN | apply Blw.drew | refine Blw.setCell ?_ _ _ (by simp)))⟩
  have q1 : ((den.length : Int) == 0) = false := beq_false_of_ne (by omega)
  by_cases hF : num.length = 0 ∧ neg = true
  · have HE := Lib.hid (show chkF ⟨neg, num, den⟩ = 11 by unfold chkF; rw [if_neg hAB, if_pos (.inr (.inr (.inr (.inl hF))))])
    have q2 : ((num.length : Int) == 0) = true := by rw [hF.1]; rfl
    obtain ⟨-, rfl⟩ := hF
    clear hE hC hD hAB an ad
    go_enter Try.func127, Try.ntmps127
    go_wp2_with (first | (go_at_call 151; refine (ratioLong_any _ _ _ _ (by omega)).mono ?_; rintro e w' ⟨rfl, rfl⟩) | (go_at_call 152; (first | (with_reducible refine Calls.mono (H1.out _ (by repeat (first | exact Blw.refl _ | apply Blw.ext | apply Blw.alloc | apply Blw.drewN | apply Blw.drew | refine Blw.setCell ?_ _ _ (by simp)))) ?_) | (with_reducible refine Calls.mono (H2.out _ (by repeat (first | exact Blw.refl _ | apply Blw.ext | apply Blw.alloc | apply Blw.drewN | apply Blw.drew | refine Blw.setCell ?_ _ _ (by simp)))) ?_)); rintro e w' ⟨rfl, rfl⟩))
    go_ret
    exact ⟨ret_i64 HE.out.symm, Blw.is (by repeat (first | exact Blw.refl _ | apply Blw.ext | apply Blw.alloc | apply Blw.drewN | apply Blw.drew | refine Blw.setCell ?_ _ _ (by simp)))⟩
  have GC := fun (W : World) (hb : Blw w W) => natGcd_any a b num den c d W (an.blw hb) (ad.blw hb) na nb wn wd hC hD (by omega) (by omega)
  obtain ⟨G, hG⟩ : ∃ G, Nat.gcd (W.val num) (W.val den) = G := ⟨_, rfl⟩
  rw [hG] at GC
  have HG := Lib.hid GC
  have HE := Lib.hid (show chkF ⟨neg, num, den⟩ = if G = 1 then 0 else 11 by
    unfold chkF
    rw [if_neg hAB]
    by_cases h1 : G = 1
    · rw [if_pos h1, if_neg]
      rintro (k | k | k | k | k)
      · exact hC k
      · exact hD k
      · exact hE k
      · exact hF k
      · exact k (hG.trans h1)
    · rw [if_neg h1, if_pos (.inr (.inr (.inr (.inr (fun k => h1 (hG.symm.trans k))))))])
  have hcase : (((num.length : Int) == 0) = true ∧ neg = false) ∨ ((num.length : Int) == 0) = false := by
    by_cases h0 : num.length = 0
    · left
      refine ⟨by rw [h0]; rfl, ?_⟩
      cases hn : neg
      · rfl
      · exact absurd ⟨h0, hn⟩ hF
    · right; exact beq_false_of_ne (by omega)
  clear GC hG hF hE hC hD hAB an ad
  go_enter Try.func127, Try.ntmps127
  rcases hcase with ⟨q2, rfl⟩ | q2
  all_goals
    go_wp2_with (first | (go_at_call 151; refine (ratioLong_any _ _ _ _ (by omega)).mono ?_; rintro e w' ⟨rfl, rfl⟩) | (go_at_call 152; (first | (with_reducible refine Calls.mono (H1.out _ (by repeat (first | exact Blw.refl _ | apply Blw.ext | apply Blw.alloc | apply Blw.drewN | apply Blw.drew | refine Blw.setCell ?_ _ _ (by simp)))) ?_) | (with_reducible refine Calls.mono (H2.out _ (by repeat (first | exact Blw.refl _ | apply Blw.ext | apply Blw.alloc | apply Blw.drewN | apply Blw.drew | refine Blw.setCell ?_ _ _ (by simp)))) ?_)); rintro e w' ⟨rfl, rfl⟩))
    refine Calls.mono (HG.out _ (by repeat (first | exact Blw.refl _ | apply Blw.ext | apply Blw.alloc | apply Blw.drewN | apply Blw.drew | refine Blw.setCell ?_ _ _ (by simp)))) ?_
    rintro e w2 ⟨a3, c3, rfl, hb3, o3⟩
    obtain ⟨a4, c4, he, k1, k2, k3, k4, k5⟩ := own_arr o3
    cases he
    have hb2 : Blw w w2 := ((Blw.refl w).alloc _).trans hb3
    have hcmp := natCompare_any a3 (some ⟨w2.heap.size, 0, none⟩) (W.toW G) [1] c3 1 (w2.alloc (.cells (u32s [1]).toArray 135 (0, 0))) (k1.alloc _) (own_read (own_lit w2 [1] (by decide))) k3 (by decide) k4 (by decide) (W.wf_toW G) (W.WF.cons (by decide) W.WF.nil)
    rw [W.val_toW, show W.val [1] = 1 from rfl] at hcmp
    clear o3 k5 k2
    go_wp2_with fail
    refine Calls.mono hcmp ?_
    rintro e w4 ⟨rfl, x4, rfl⟩
    clear hcmp
    by_cases hg1 : G = 1
    · have q3 : (W.cmpN G 1 != 0) = false := by rw [hg1, W.cmpN_eq]; rfl
      rw [if_pos hg1] at HE
      clear hg1
      go_wp2
      go_ret
      exact ⟨ret_i64 HE.out.symm, Blw.is ((hb2.alloc _).ext _)⟩
    · have q3 : (W.cmpN G 1 != 0) = true := by
        rcases Nat.lt_or_ge G 1 with h | h
        · rw [W.cmpN_lt h]; rfl
        · rw [W.cmpN_gt (by omega)]; rfl
      rw [if_neg hg1] at HE
      clear hg1
      go_wp2
      go_ret
      exact ⟨ret_i64 HE.out.symm, Blw.is ((hb2.alloc _).ext _)⟩
end Go.Proofs.Ytigkfdoeneemeaa
