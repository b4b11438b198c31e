/- Several texts, joined. -/
import Derived.Test.YtmeccjlopmjneaaJ2
set_option linter.unusedVariables false
set_option linter.unusedSimpArgs false
/- PartsKnown: what its closed calls tell. -/
namespace Go.Proofs.Ytmeccjlopmjneaa
open Go.RowKit

theorem ex_third : Nq.ex 1 3 = -2 := by
  have h1 : W.bl 1 = 1 := W.bl_is (k := 0) (by decide) (by decide)
  have h3 : W.bl 3 = 2 := W.bl_is (k := 1) (by decide) (by decide)
  rw [Nq.ex_neg (p := 1) (by rw [h1, h3]; rfl), if_pos (by decide)]
  rfl
theorem nr_13 : Nq.nr 1 3 = 4599676419421066581 := by
  have hk : Nq.kk 1 3 = -54 := by unfold Nq.kk; rw [ex_third]; rfl
  unfold Nq.nr Nq.mm
  rw [hk]
  decide +kernel
theorem val_one (n : Nat) : W.val [n] = n := by simp [W.val]
theorem nr_third : nrF ⟨false, [1], [3]⟩ = (4599676419421066581, 0) := by
  have hc : chkF ⟨false, [1], [3]⟩ = 0 := by decide +kernel
  have hi : (4599676419421066581 : Nat) ≠ Fl.infR := by decide
  unfold nrF
  rw [if_neg (by rw [hc]; simp), if_neg (by decide)]
  simp only [val_one]
  rw [ex_third, nr_13, if_neg (by decide), if_neg hi, if_neg (by simp)]
theorem nr_nought : nrF ⟨false, [], [1]⟩ = (0, 0) := by
  have hc : chkF ⟨false, [], [1]⟩ = 0 := by decide +kernel
  unfold nrF
  rw [if_neg (by rw [hc]; simp)]
  rfl
abbrev bigW : List Nat := List.replicate 32 0 ++ [1]
theorem big_val : W.val bigW = W.pw 32 := by
  rw [W.val_app, W.val_rep, val_one, List.length_replicate, Nat.zero_add, Nat.mul_one]
theorem bl_two (k : Nat) : W.bl (2 ^ k) = k + 1 := W.bl_is (Nat.le_refl _) (Nat.pow_lt_pow_right (by decide) (Nat.lt_succ_self k))
theorem ex_pw (j : Nat) : Nq.ex (W.pw j) 1 = ((32 * j : Nat) : Int) := by
  have h1 : W.bl 1 = 1 := W.bl_is (k := 0) (by decide) (by decide)
  have h2 : W.bl (W.pw j) = 32 * j + 1 := by rw [W.pw_two]; exact bl_two _
  rw [Nq.ex_nn (p := 32 * j) (by rw [h1, h2]; omega), if_neg]
  rw [W.pw_two, Nat.one_mul]; exact Nat.lt_irrefl _
theorem big_ok : chkF ⟨false, bigW, [1]⟩ = 0 := by
  unfold chkF
  rw [if_neg (by decide), if_neg]
  rintro (k | k | k | ⟨k, -⟩ | k)
  · exact absurd k (by decide)
  · exact absurd k (by decide)
  · exact absurd k (by decide)
  · exact absurd k (by decide)
  · apply k
    show Nat.gcd (W.val bigW) (W.val [1]) = 1
    rw [val_one, Nat.gcd_one_right]
theorem big_ex : Nq.ex (W.val bigW) 1 = 1024 := by
  rw [big_val]; exact ex_pw 32
theorem nr_big : nrF ⟨false, bigW, [1]⟩ = (0, 9) := by
  unfold nrF
  rw [if_neg (by rw [big_ok]; simp), if_neg (by decide)]
  simp only [val_one]
  rw [if_pos (by rw [big_ex]; decide)]
theorem small_third : smallF 1 3 = ⟨false, [1], [3]⟩ := by
  have h1 : W.toW 1 = [1] := toW_small (by decide) (by decide)
  have h3 : W.toW 3 = [3] := toW_small (by decide) (by decide)
  show (⟨_, W.toW 1, W.toW 3⟩ : Fr) = _
  rw [h1, h3]; rfl
theorem small_nought : smallF 0 1 = ⟨false, [], [1]⟩ := by
  have h1 : W.toW 1 = [1] := toW_small (by decide) (by decide)
  show (⟨_, W.toW 0, W.toW 1⟩ : Fr) = _
  rw [h1, W.toW_zero]; rfl
theorem mul_k_re : fS (fM 9214871658872686752 0) (fM 0 9214871658872686752) = 0 := by decide +kernel
theorem mul_k_im : fA (fM 9214871658872686752 9214871658872686752) (fM 0 0) = 9218868437227405312 := by decide +kernel
theorem abs_k1 : absS (9094988921128908188 % 2 ^ 63) (9094988921128908188 % 2 ^ 63) = 9097522851029299729 := by decide +kernel
theorem abs_k2 : absS (9223372036854775808 % 2 ^ 63) (9223372036854775808 % 2 ^ 63) = 0 := by decide +kernel
theorem abs_k3 : absS (9221120237041090561 % 2 ^ 63) (9218868437227405312 % 2 ^ 63) = 9221120237041090561 := by decide +kernel
theorem abs_k4 : absS (18442240474082181120 % 2 ^ 63) (4611686018427387904 % 2 ^ 63) = 9218868437227405312 := by decide +kernel
theorem neg_k0 : Op.negFloat .f64 0 = 9223372036854775808 := by decide +kernel
theorem neg_ki : Op.negFloat .f64 9218868437227405312 = 18442240474082181120 := by decide +kernel
theorem neg_kn : Op.negFloat .f64 9221120237041090561 = 18444492273895866369 := by decide +kernel
theorem chkG_third : chkG (⟨false, [1], [3]⟩, ⟨false, [], [1]⟩) = 0 := by decide +kernel
theorem chkG_big : chkG (⟨false, [], [1]⟩, ⟨false, bigW, [1]⟩) = 0 := by
  unfold chkG; rw [if_pos (by decide +kernel)]; exact big_ok
theorem nrG_third : nrG (⟨false, [1], [3]⟩, ⟨false, [], [1]⟩) = (4599676419421066581, 0, 0) := by
  unfold nrG
  rw [if_neg (by rw [chkG_third]; simp), if_neg (by rw [nr_third]; simp), if_neg (by rw [nr_nought]; simp), nr_third, nr_nought]
theorem nrG_none : nrG (zF, zF) = (0, 0, 11) := by
  unfold nrG
  rw [if_pos (by decide +kernel)]
  congr 2
theorem nrG_big : nrG (⟨false, [], [1]⟩, ⟨false, bigW, [1]⟩) = (0, 0, 9) := by
  unfold nrG
  rw [if_neg (by rw [chkG_big]; simp), if_neg (by rw [nr_nought]; simp), if_pos (by rw [nr_big]; simp), nr_big]

set_option maxHeartbeats 400000 in
theorem signbit_yes (w : World) : Calls Try.prog 18 #[.float .f64 9223372036854775808] w fun e w' => e = .returned (.bool true) ∧ w' = w := by
  go_enter Try.func18, Try.ntmps18
  go_wp2
  go_ret
  exact ⟨ret_bool (by decide +kernel), rfl⟩
set_option maxHeartbeats 400000 in
theorem signbit_no (w : World) : Calls Try.prog 18 #[.float .f64 0] w fun e w' => e = .returned (.bool false) ∧ w' = w := by
  go_enter Try.func18, Try.ntmps18
  go_wp2
  go_ret
  exact ⟨ret_bool (by decide +kernel), rfl⟩
set_option maxHeartbeats 400000 in
theorem isInf_up (w : World) : Calls Try.prog 20 #[.float .f64 9218868437227405312, .int .i64 1] w fun e w' => e = .returned (.bool true) ∧ w' = w := by
  go_enter Try.func20, Try.ntmps20
  go_wp2
  go_ret
  exact ⟨ret_bool (by decide +kernel), rfl⟩
set_option maxHeartbeats 400000 in
theorem nan_any (w : World) : Calls Try.prog 13 #[] w fun e w' => e = .returned (.float .f64 9221120237041090561) ∧ w' = w := by
  go_enter Try.func13, Try.ntmps13
  go_wp2
  go_ret
  exact ⟨rfl, rfl⟩
end Go.Proofs.Ytmeccjlopmjneaa
/- The walk of the law PartsKnown. -/
namespace Go.Proofs.Ytmeccjlopmjneaa
open Go.RowKit
theorem cellsF {w : World} {n : Nat} {x : FL} (h : RowAt w n (flA x) 34) : ∀ i, w.cell? ⟨n, i, none⟩ = (flA x)[i]? := (row_facts h).2.1
theorem mulK (w : World) : Calls Try.prog 14 #[.complex .f64 9214871658872686752 0, .complex .f64 0 9214871658872686752] w fun e w' => e = .returned (.complex .f64 0 9218868437227405312) ∧ ∃ x, w' = w.ext x := by
  refine (partsMul_any _ _ _ _ w).mono ?_
  rintro e w' ⟨r, i, z, rfl, hr, hi, -, -, hz⟩
  have er := same_is (by decide) (mul_k_re ▸ hr.out)
  have ei := same_is (by decide) (mul_k_im ▸ hi.out)
  subst er ei
  exact ⟨rfl, z, hz⟩
theorem absK1 (w : World) : Calls Try.prog 17 #[.complex .f64 9094988921128908188 9094988921128908188] w fun e w' => e = .returned (.float .f64 9097522851029299729) ∧ ∃ x, w' = w.ext x := by
  refine (partsAbs_any 9094988921128908188 9094988921128908188 w (by decide) (by decide)).mono ?_
  rintro e w' ⟨s, z, rfl, hs, -, hz⟩
  have er := same_is (by decide) (abs_k1 ▸ hs.out)
  subst er
  exact ⟨rfl, z, hz⟩
theorem absK2 (w : World) : Calls Try.prog 17 #[.complex .f64 9223372036854775808 9223372036854775808] w fun e w' => e = .returned (.float .f64 0) ∧ ∃ x, w' = w.ext x := by
  refine (partsAbs_any 9223372036854775808 9223372036854775808 w (by decide) (by decide)).mono ?_
  rintro e w' ⟨s, z, rfl, hs, -, hz⟩
  have er := same_is (by decide) (abs_k2 ▸ hs.out)
  subst er
  exact ⟨rfl, z, hz⟩
theorem absK4 (w : World) : Calls Try.prog 17 #[.complex .f64 18442240474082181120 4611686018427387904] w fun e w' => e = .returned (.float .f64 9218868437227405312) ∧ ∃ x, w' = w.ext x := by
  refine (partsAbs_any 18442240474082181120 4611686018427387904 w (by decide) (by decide)).mono ?_
  rintro e w' ⟨s, z, rfl, hs, -, hz⟩
  have er := same_is (by decide) (abs_k4 ▸ hs.out)
  subst er
  exact ⟨rfl, z, hz⟩
theorem absK3 (w : World) : Calls Try.prog 17 #[.complex .f64 9221120237041090561 9218868437227405312] w fun e w' => ∃ s, e = .returned (.float .f64 s) ∧ Hid (Fl.isNaN s = true) ∧ ∃ x, w' = w.ext x := by
  refine (partsAbs_any 9221120237041090561 9218868437227405312 w (by decide) (by decide)).mono ?_
  rintro e w' ⟨s, z, rfl, hs, -, hz⟩
  refine ⟨s, rfl, ?_, z, hz⟩
  have h := hs.out
  rw [abs_k3] at h
  show _ = true
  rw [← Fl.same.nan h]
  decide
theorem smallK1 (w : World) : Calls Try.prog 24 #[.int .i64 1, .int .i64 3] w fun e w' => ∃ y : FL, y.r = ⟨false, [1], [3]⟩ ∧ e = .returned (.tuple #[flV y, .int .i64 0]) ∧ Blw w w' ∧ FL.In w' y := by
  refine (ratioSmall_any 1 3 w (by decide) (by decide) (by decide) (by decide) (by decide)).mono ?_
  intro e w' h
  obtain ⟨y, h1, h2, h3, h4⟩ := RetFr.fl (R := (smallF 1 3, 0)) h (smallF_wf 1 3)
  exact ⟨y, h1.trans small_third, h2, h3, h4.in⟩
theorem smallK2 (w : World) : Calls Try.prog 24 #[.int .i64 0, .int .i64 1] w fun e w' => ∃ y : FL, y.r = ⟨false, [], [1]⟩ ∧ e = .returned (.tuple #[flV y, .int .i64 0]) ∧ Blw w w' ∧ FL.In w' y := by
  refine (ratioSmall_any 0 1 w (by decide) (by decide) (by decide) (by decide) (by decide)).mono ?_
  intro e w' h
  obtain ⟨y, h1, h2, h3, h4⟩ := RetFr.fl (R := (smallF 0 1, 0)) h (smallF_wf 0 1)
  exact ⟨y, h1.trans small_nought, h2, h3, h4.in⟩
theorem nearK (z : GL) (w : World) (hz : GL.In w z) (a b : Nat) (er : Int) (h : nrG z.g = (a, b, er)) : Calls Try.prog 25 #[gV z] w fun E w' => E = .returned (.tuple #[.complex .f64 a b, .int .i64 er]) ∧ ∃ x, w' = w.ext x := by
  have := partsNearest_any z w hz
  rwa [h] at this

set_option maxRecDepth 100000 in
set_option maxHeartbeats 4000000 in
theorem partsKnown_walk (w : World) : Calls Try.prog 3 #[] w fun e w' => e = .returned (.bool true) ∧ ∃ x, w' = w.ext x := by
  have n0 := neg_k0
  have n1 := neg_ki
  have n2 := neg_kn
  have o1 : (FloatKind.f64.format.order 9097522851029299729 9097522851029299729 == some .eq) = true := by decide +kernel
  have o2 : (FloatKind.f64.format.order 0 0 == some .eq) = true := by decide +kernel
  have o3 : (FloatKind.f64.format.order 4607182418800017408 4607182418800017408 == some .eq) = true := by decide +kernel
  have s1 : (sBits 9221120237041090561 18444492273895866369 && sBits 0 0) = true := by decide +kernel
  have s2 : (sBits 0 9223372036854775808 && sBits 0 9223372036854775808) = false := by decide +kernel
  have e1 : eqB 9221120237041090561 0 9221120237041090561 0 = false := by decide +kernel
  have e2 : eqB 0 0 9223372036854775808 9223372036854775808 = true := by decide +kernel
  go_enter Try.func3, Try.ntmps3
  go_wp2_with (first
    | (go_at_call 12; (with_reducible refine (inf_any _).mono ?_); rintro e w' ⟨rfl, hw⟩; have hw := hw.symm; subst hw)
    | (go_at_call 13; (with_reducible refine (nan_any _).mono ?_); rintro e w' ⟨rfl, hw⟩; have hw := hw.symm; subst hw)
    | (go_at_call 14; (with_reducible refine (mulK _).mono ?_); rintro e w' ⟨rfl, x, rfl⟩)
    | (go_at_call 15; (with_reducible refine (partsNeg_any _ _ _).mono ?_); rintro e w' ⟨rfl, hw⟩; have hw := hw.symm; subst hw)
    | (go_at_call 16; (with_reducible refine (partsConj_any _ _ _).mono ?_); rintro e w' ⟨rfl, hw⟩; have hw := hw.symm; subst hw)
    | (go_at_call 17; (first | (with_reducible refine (absK1 _).mono ?_) | (with_reducible refine (absK2 _).mono ?_) | (with_reducible refine (absK4 _).mono ?_)); rintro e w' ⟨rfl, x, rfl⟩)
    | (go_at_call 18; (first | (with_reducible refine (signbit_yes _).mono ?_) | (with_reducible refine (signbit_no _).mono ?_)); rintro e w' ⟨rfl, hw⟩; have hw := hw.symm; subst hw))
  refine Calls.mono (absK3 _) ?_
  rintro E V ⟨s, rfl, hs, hv⟩
  have hb : Blw w V := by obtain ⟨x, hx⟩ := hv; rw [hx]; exact (by repeat (first | exact Blw.refl _ | apply Blw.ext | apply Blw.alloc | apply Blw.drewN | apply Blw.drew | refine Blw.setCell ?_ _ _ (by simp)))
  have hn : Fl.isNaN s = true := hs.out
  clear hv hs
  go_wp2_with (first
    | (go_at_call 19; (with_reducible refine (isNaN_any _ _).mono ?_); rw [hn]; rintro e w' ⟨rfl, hw⟩; have hw := hw.symm; subst hw))
  refine Calls.mono (absK4 _) ?_
  rintro E V1 ⟨rfl, x1, hx⟩
  have hb1 : Blw w V1 := hb.trans (by rw [hx]; exact World.blw_ext _ _)
  clear hx hb hn
  go_wp2_with (first
    | (go_at_call 20; (with_reducible refine (isInf_up _).mono ?_); rintro e w' ⟨rfl, hw⟩; have hw := hw.symm; subst hw)
    | (go_at_call 18; (first | (with_reducible refine (signbit_yes _).mono ?_) | (with_reducible refine (signbit_no _).mono ?_)); rintro e w' ⟨rfl, hw⟩; have hw := hw.symm; subst hw)
    | (go_at_call 21; (with_reducible refine (partsSame_any _ _ _ _ _).mono ?_); (first | rw [s1] | rw [s2]); rintro e w' ⟨rfl, hw⟩; have hw := hw.symm; subst hw)
    | (go_at_call 22; (with_reducible refine (partsEqual_any _ _ _ _ _).mono ?_); (first | rw [e1] | rw [e2]); rintro e w' ⟨rfl, hw⟩; have hw := hw.symm; subst hw))
  refine Calls.mono (partsExact_bad _ _ _ (by decide) (by decide) (by decide)) ?_
  rintro E V2 ⟨rfl, x2, hx⟩
  have hb2 : Blw w V2 := hb1.trans (by rw [hx]; exact World.blw_ext _ _)
  clear hx hb1
  go_wp2_with fail
  refine Calls.mono (smallK1 _) ?_
  rintro E V3 ⟨y1, ey1, rfl, hb3, hy1⟩
  have HY1 := Lib.hid ey1
  have hb3 : Blw w V3 := hb2.trans (Blw.trans (by repeat (first | exact Blw.refl _ | apply Blw.ext | apply Blw.alloc | apply Blw.drewN | apply Blw.drew | refine Blw.setCell ?_ _ _ (by simp))) hb3)
  clear ey1 hb2
  go_wp2_with fail
  refine Calls.mono (smallK2 _) ?_
  rintro E V4 ⟨y2, ey2, rfl, hb4, hy2⟩
  have HY2 := Lib.hid ey2
  have hX : RowAt V4 V3.heap.size (flA y1) 34 := RowAt.blw (heap_alloc_new _ _) hb4
  have hy1 := hy1.blw (Blw.trans (by repeat (first | exact Blw.refl _ | apply Blw.ext | apply Blw.alloc | apply Blw.drewN | apply Blw.drew | refine Blw.setCell ?_ _ _ (by simp))) hb4)
  have hb4 : Blw w V4 := (hb3.alloc _).trans hb4
  clear ey2 hb3
  obtain ⟨lX, cX, -⟩ := row_facts hX
  go_wp2_with fail
  refine Calls.mono (nearK ⟨y1, y2⟩ _ ⟨hy1.blw (by repeat (first | exact Blw.refl _ | apply Blw.ext | apply Blw.alloc | apply Blw.drewN | apply Blw.drew | refine Blw.setCell ?_ _ _ (by simp))), hy2.blw (by repeat (first | exact Blw.refl _ | apply Blw.ext | apply Blw.alloc | apply Blw.drewN | apply Blw.drew | refine Blw.setCell ?_ _ _ (by simp)))⟩ 4599676419421066581 0 0 (by show nrG (y1.r, y2.r) = _; rw [HY1.out, HY2.out]; exact nrG_third)) ?_
  rintro E V5 ⟨rfl, x5, hx⟩
  have b5 : Blw (V4.alloc (.cells (flA y2) 34 (0, 0))) V5 := by rw [hx]; exact World.blw_ext _ _
  have hY : RowAt V5 V4.heap.size (flA y2) 34 := RowAt.blw (heap_alloc_new _ _) b5
  have hy2 := hy2.blw (Blw.trans (by repeat (first | exact Blw.refl _ | apply Blw.ext | apply Blw.alloc | apply Blw.drewN | apply Blw.drew | refine Blw.setCell ?_ _ _ (by simp))) b5)
  have hb5 : Blw w V5 := (hb4.alloc _).trans b5
  clear hx hb4 b5 hX lX cX hy1
  go_wp2_with fail
  refine Calls.mono (nearK zG _ ⟨zL_in _, zL_in _⟩ 0 0 11 nrG_none) ?_
  rintro E V6 ⟨rfl, x6, hx⟩
  have b6 : Blw V5 V6 := by rw [hx]; exact World.blw_ext _ _
  have hY := RowAt.blw hY b6
  have hy2 := hy2.blw b6
  have hb6 := hb5.trans b6
  clear hx b6 hb5
  obtain ⟨lY, cY, -⟩ := row_facts hY
  go_upto_region 13 with fail
  go_cut [19] (fun s19 wx => ∃ n m d : Nat, s19 = .pointer (some ⟨n, 0, none⟩) ∧ n ≠ m ∧ d ≠ m ∧ Bk wx m (List.replicate 33 0) ∧ Bk wx d [1] ∧ RowAt wx n #[.bool y2.r.neg, .slice y2.a y2.r.num.length y2.c, .slice y2.b y2.r.den.length y2.d, .bool false, .slice (some ⟨m, 0, none⟩) 33 33, .slice (some ⟨d, 0, none⟩) 1 1] 36 ∧ V6.heap.size ≤ m ∧ Blw V6 wx)
  case first =>
    have hmk : ∀ w : World, (Instr.makeSlice 32 (.int .i64 33) (.int .i64 33)).run Try.prog w = .ok (.slice (some ⟨w.heap.size, 0, none⟩) 33 33) (w.alloc (.cells (u32s (List.replicate 33 0)).toArray 44 (0, 0))) := fun _ => by kernel_rfl
    obtain ⟨CS, hCS⟩ : ∃ CS, CS = (u32s (List.replicate 33 0)).toArray := ⟨_, rfl⟩
    rw [← hCS] at hmk
    have HCS := Lib.hid hCS
    clear hCS
    go_wp2_with fail
    go_region_held3 (fun wx => ∀ i, wx.cell? ⟨V4.heap.size, i, none⟩ = (flA y2)[i]?) (refine cellsF (x := y2) ?_ <;> (repeat (first | with_reducible assumption | with_reducible exact heap_alloc_new _ _ | (with_reducible refine heap_alloc_at ?_; (simp; done)) | with_reducible refine RowAt.set3z ?_ _ _ _ | with_reducible refine RowAt.far3 ?_ (by omega) _ _ _ | with_reducible refine RowAt.far6 ?_ (by omega) _ | with_reducible refine at_alloc _ ?_ | with_reducible refine at_drew ?_))) (fail)
    all_goals
      go_wp2_with fail
      go_meet
      refine ⟨_, ?_, ?_, rfl, ?_, ?_, ?_, ?_, ?_, ?_, ?_⟩
      rotate_left 6
      · exact (by repeat (first | with_reducible assumption | with_reducible exact heap_alloc_new _ _ | (with_reducible refine heap_alloc_at ?_; (simp; done)) | with_reducible refine RowAt.set3z ?_ _ _ _ | with_reducible refine RowAt.far3 ?_ (by omega) _ _ _ | with_reducible refine RowAt.far6 ?_ (by omega) _ | with_reducible refine at_alloc _ ?_ | with_reducible refine at_drew ?_))
      · first | omega | (simp; done) | (simp; omega)
      · exact (by repeat (first | with_reducible assumption | with_reducible exact Blw.refl _ | with_reducible refine Blw.alloc ?_ _ | with_reducible refine Blw.drew ?_ | with_reducible refine Blw.set3 ?_ (by omega) _ _ _))
      · first | omega | (simp; done) | (simp; omega)
      · first | omega | (simp; done) | (simp; omega)
      · unfold Bk
        rw [← HCS.out]
        exact (by repeat (first | with_reducible assumption | with_reducible exact heap_alloc_new _ _ | (with_reducible refine heap_alloc_at ?_; (simp; done)) | with_reducible refine RowAt.set3z ?_ _ _ _ | with_reducible refine RowAt.far3 ?_ (by omega) _ _ _ | with_reducible refine RowAt.far6 ?_ (by omega) _ | with_reducible refine at_alloc _ ?_ | with_reducible refine at_drew ?_))
      · show _ = some (Obj.cells #[.int .u32 1] _ _)
        exact (by repeat (first | with_reducible assumption | with_reducible exact heap_alloc_new _ _ | (with_reducible refine heap_alloc_at ?_; (simp; done)) | with_reducible refine RowAt.set3z ?_ _ _ _ | with_reducible refine RowAt.far3 ?_ (by omega) _ _ _ | with_reducible refine RowAt.far6 ?_ (by omega) _ | with_reducible refine at_alloc _ ?_ | with_reducible refine at_drew ?_))
  case rest =>
    clear hY lY cY
    obtain ⟨n, m, d, rfl, hnm, hdm, hM, hD, hN, hm, hb⟩ := hcut
    obtain ⟨lN, cN, -⟩ := row_facts hN
    obtain ⟨z, hz, hz1, hz2⟩ := hM.elem (k := 32) (by decide)
    have hM2 : Bk (wc.setCell ⟨m, 32, none⟩ (.int .u32 1)) m bigW := hM.set 32 (v := .int .u32 1) (n := 1) rfl
    have hD2 : Bk (wc.setCell ⟨m, 32, none⟩ (.int .u32 1)) d [1] := hD.far _ _ hdm
    have hN2 : RowAt (wc.setCell ⟨m, 32, none⟩ (.int .u32 1)) n _ _ := at_far _ hnm hN
    have hb2 : Blw V6 (wc.setCell ⟨m, 32, none⟩ (.int .u32 1)) := hb.setCell _ _ hm
    have bigIn : FL.In (wc.setCell ⟨m, 32, none⟩ (.int .u32 1)) ⟨⟨false, bigW, [1]⟩, some ⟨m, 0, none⟩, 33, some ⟨d, 0, none⟩, 1⟩ :=
      ⟨hM2.arr, hD2.arr, (show bigW.length ≤ 33 by decide), (show 33 ≤ 9223372036854775807 by decide), (show 1 ≤ 1 by decide), (show 1 ≤ 9223372036854775807 by decide), (fun h => by cases h), (fun h => by cases h), W.WF.app (W.WF.rep 32) (W.WF.cons (by decide) W.WF.nil), W.WF.cons (by decide) W.WF.nil⟩
    have KN : Calls Try.prog 25 #[.agg #[.bool y2.r.neg, .slice y2.a y2.r.num.length y2.c, .slice y2.b y2.r.den.length y2.d, .bool false, .slice (some ⟨m, 0, none⟩) 33 33, .slice (some ⟨d, 0, none⟩) 1 1]] (wc.setCell ⟨m, 32, none⟩ (.int .u32 1)) fun E w' => E = .returned (.tuple #[.complex .f64 0 0, .int .i64 9]) ∧ ∃ x, w' = (wc.setCell ⟨m, 32, none⟩ (.int .u32 1)).ext x :=
      nearK ⟨y2, ⟨⟨false, bigW, [1]⟩, some ⟨m, 0, none⟩, 33, some ⟨d, 0, none⟩, 1⟩⟩ _ ⟨hy2.blw hb2, bigIn⟩ 0 0 9 (by show nrG (y2.r, _) = _; rw [HY2.out]; exact nrG_big)
    have KC : ∀ wx, Blw (wc.setCell ⟨m, 32, none⟩ (.int .u32 1)) wx → Calls Try.prog 28 #[.agg #[.bool y2.r.neg, .slice y2.a y2.r.num.length y2.c, .slice y2.b y2.r.den.length y2.d, .bool false, .slice (some ⟨m, 0, none⟩) 33 33, .slice (some ⟨d, 0, none⟩) 1 1]] wx fun E w' => E = .returned (.int .i64 0) ∧ ∃ x, w' = wx.ext x := by
      intro wx hw
      have := gaussCheck_any ⟨y2, ⟨⟨false, bigW, [1]⟩, some ⟨m, 0, none⟩, 33, some ⟨d, 0, none⟩, 1⟩⟩ wx ⟨(hy2.blw hb2).blw hw, bigIn.blw hw⟩
      have e : chkG (GL.g ⟨y2, ⟨⟨false, bigW, [1]⟩, some ⟨m, 0, none⟩, 33, some ⟨d, 0, none⟩, 1⟩⟩) = 0 := by show chkG (y2.r, _) = 0; rw [HY2.out]; exact chkG_big
      rw [e] at this
      exact this
    have HKN := Lib.hid KN
    have HKC := Lib.hid KC
    clear KN KC hM2 hD2 bigIn hD hM
    go_wp2_with fail
    refine Calls.mono HKN.out ?_
    rintro E V7 ⟨rfl, x7, hx⟩
    have b7 : Blw (wc.setCell ⟨m, 32, none⟩ (.int .u32 1)) V7 := by rw [hx]; exact World.blw_ext _ _
    have hN7 := RowAt.blw hN2 b7
    clear hx hN hN2 lN cN hz hz1 hz2
    go_wp2_with fail
    refine Calls.mono (awake7_any _) ?_
    rintro E V8 ⟨rfl, x8, hx⟩
    have b8 := b7.trans (show Blw V7 V8 by rw [hx]; exact World.blw_ext _ _)
    have hN8 := RowAt.blw hN7 (show Blw V7 V8 by rw [hx]; exact World.blw_ext _ _)
    clear hx hN7 b7
    obtain ⟨lN, cN, -⟩ := row_facts hN8
    go_wp2_with (first
      | (go_at_call 20; (with_reducible refine (isInf_up _).mono ?_); rintro e w' ⟨rfl, hw⟩; have hw := hw.symm; subst hw))
    refine Calls.mono (HKC.out _ b8) ?_
    rintro E V9 ⟨rfl, x9, hx⟩
    have b9 : Blw w V9 := (hb6.trans (hb2.trans b8)).trans (by rw [hx]; exact World.blw_ext _ _)
    clear hx
    go_wp2
    go_ret
    exact ⟨rfl, b9.is⟩
end Go.Proofs.Ytmeccjlopmjneaa
