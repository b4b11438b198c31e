/- Several texts, joined. -/
import Derived.Test.YtigkfdoeneemeaaJ0
import Derived.Deep.RegionHeld3
import Derived.WalkMore
import Derived.Deep.LoopGhost
set_option linter.unusedVariables false
set_option linter.unusedSimpArgs false
/- Walks of slackwaterref01.Over: the short ways. -/
namespace Go.Proofs.Ytigkfdoeneemeaa
open Go.RowKit

set_option maxRecDepth 100000 in
set_option maxHeartbeats 2000000 in
theorem refOver_less (a b : Option Addr) (l m : List Nat) (c d : Nat) (w : World) (h : Arr w a (u32s l)) (k : Arr w b (u32s m)) (hc : l.length ≤ c) (hcm : c ≤ 9223372036854775807) (ha : a = none → c = 0) (wl : W.WF l) (wm : W.WF m) (hl : l.length ≤ 100000) (hm : m.length ≤ 100000) (hlt : W.val l < W.val m) :
    Calls Try.prog 192 #[.slice a l.length c, .slice b m.length d] w (RetTwo w (W.val l / W.val m) (W.val l % W.val m)) := by
  have c1 : decide (W.cmpN (W.val l) (W.val m) < 0) = true := by rw [cmp_lt]; simpa using hlt
  have E1 := Lib.hid (Nat.div_eq_of_lt hlt)
  have E2 := Lib.hid (Nat.mod_eq_of_lt hlt)
  have hcp := Lib.hid (refCompare_any a b l m c d w h k wl wm (by omega) (by omega))
  have htr := Lib.hid (refTrim_any a l c w h hc hcm ha wl (by omega))
  clear hlt
  go_enter Try.func192, Try.ntmps192
  go_wp2_with fail
  refine Calls.mono hcp.out ?_
  rintro e w' ⟨rfl, rfl⟩
  go_wp2_with fail
  refine Calls.mono htr.out ?_
  rintro e w' ⟨a1, c2, x1, rfl, rfl, r1, r2, r3⟩
  go_wp2
  go_ret2
  refine ⟨none, 0, a1, c2, ?_, (Blw.refl w').ext x1, ?_, ?_⟩
  · rw [E1.out, E2.out, W.toW_zero]; rfl
  · rw [E1.out, W.toW_zero]; exact World.ownsRow_nil _ _ _ _
  · rw [E2.out]; exact r1

set_option maxRecDepth 100000 in
set_option maxHeartbeats 2000000 in
theorem refOver_one (a b : Option Addr) (l : List Nat) (y : Nat) (c d : Nat) (w : World) (h : Arr w a (u32s l)) (k : Arr w b (u32s [y])) (wl : W.WF l) (hy : y < 4294967296) (hy0 : 0 < y) (hl : l.length ≤ 100000) (hge : y ≤ W.val l) :
    Calls Try.prog 192 #[.slice a l.length c, .slice b 1 d] w (RetTwo w (W.val l / y) (W.val l % y)) := by
  have vy : W.val [y] = y := by simp [W.val]
  have wy : W.WF [y] := W.WF.cons hy W.WF.nil
  have hcp : Calls Try.prog 199 #[.slice a l.length c, .slice b 1 d] w fun e w' => e = .returned (.int .i64 (W.cmpN (W.val l) (W.val [y]))) ∧ w' = w := refCompare_any a b l [y] c d w h k wl wy (by omega) (by simp)
  rw [vy] at hcp
  have c1 : decide (W.cmpN (W.val l) y < 0) = false := by rw [cmp_lt]; simpa using hge
  have HCP := Lib.hid hcp
  obtain ⟨y', b1, o1, -, -, hx, rfl, hr1, hr2⟩ := k.elem (k := 0) (by simp)
  have ey : y' = y := by have := hx.out; simp at this; exact this.symm
  subst ey
  have hsm := Lib.hid (refSmall_any a l c y' w h wl hl hy0 hy)
  have hm : W.val l % y' < 18446744073709551616 := Nat.lt_of_lt_of_le (Nat.mod_lt _ hy0) (by omega)
  clear hcp hge vy hx
  generalize W.val l % y' = R at *
  generalize W.val l / y' = Q at *
  rw [Nat.add_zero] at hr2
  go_enter Try.func192, Try.ntmps192
  go_wp2_with fail
  refine Calls.mono HCP.out ?_
  rintro e w' ⟨rfl, rfl⟩
  go_wp2_with fail
  refine Calls.mono hsm.out ?_
  rintro e w1 ⟨a1, c2, rfl, r1, r2⟩
  have hof := Lib.hid (refOf_any R w1 hm)
  clear HCP hsm
  go_wp2_with fail
  refine Calls.mono hof.out ?_
  rintro e w2 ⟨a2, c3, x2, rfl, rfl, s1, s2, s3⟩
  go_wp2
  go_ret2
  exact ⟨a1, c2, a2, c3, rfl, r1.ext x2, ownsRow_blw r2 (World.blw_ext _ _), ownsRow_mono s1 r1.size⟩
end Go.Proofs.Ytigkfdoeneemeaa
/- The walk of slackwaterref01.Over: the long way. -/
namespace Go.Proofs.Ytigkfdoeneemeaa
open Go.RowKit

section
variable {w : World} {g : Nat} {pre post : List Value} {l : List Nat}
theorem Wn.split {a b : List Nat} (h : Wn w g [] (a ++ l ++ b) post) : Wn w g (u32s a) l (u32s b ++ post) := by
  unfold Wn at *; rw [h]; simp
theorem Wn.join {a b : List Nat} (h : Wn w g (u32s a) l (u32s b ++ post)) : Wn w g [] (a ++ l ++ b) post := by
  unfold Wn at *; rw [h]; simp
end
theorem W.over_start {A V M nq : Nat} {us0 : List Nat} (hu : W.val us0 = A) (hl : us0.length = (W.toW A).length + 1) (hn : nq + M = (W.toW A).length + 1) (hM : 0 < M) (hV : W.pw (M - 1) ≤ V) : W.val (us0.drop nq) < V := by
  have e := W.val_split us0 nq (by omega)
  have h1 : A < W.pw (W.toW A).length := W.len_toW_le.1 (Nat.le_refl _)
  rw [show (W.toW A).length = nq + (M - 1) by omega, W.pw_add] at h1
  rw [hu] at e
  have h2 : W.pw nq * W.val (us0.drop nq) < W.pw nq * W.pw (M - 1) := by omega
  exact Nat.lt_of_lt_of_le (Nat.lt_of_mul_lt_mul_left h2) hV

set_option maxRecDepth 100000 in
set_option maxHeartbeats 8000000 in
theorem refOver_long (a b : Option Addr) (l m : List Nat) (n : Nat) (c d : Nat) (w : World) (h : Arr w a (u32s l)) (k : Arr w b (u32s m)) (hc : l.length ≤ c) (hd : m.length ≤ d) (hcm : c ≤ 9223372036854775807) (hdm : d ≤ 9223372036854775807)
    (wl : W.WF l) (wm : W.WF m) (nm : W.Nrm m) (hl : l.length ≤ 8192) (hm : m.length = n + 2) (hm8 : m.length ≤ 8190) (hge : W.val m ≤ W.val l) :
    Calls Try.prog 192 #[.slice a l.length c, .slice b m.length d] w (RetTwo w (W.val l / W.val m) (W.val l % W.val m)) := by
  have c1 : decide (W.cmpN (W.val l) (W.val m) < 0) = false := by rw [cmp_lt]; simpa using hge
  have c2 : ((m.length : Int) == 1) = false := beq_false_of_ne (by omega)
  obtain ⟨x, b1, o1, -, -, hx, rfl, hb, hbc⟩ := k.elem (k := m.length - 1) (by omega)
  have hlast : m.getLast? = some x := by rw [List.getLast?_eq_getElem?]; exact hx.out
  obtain ⟨N1, N2, N3⟩ := W.norm_len wm nm hlast
  have hxl := wm.at hx.out
  obtain ⟨s, hs⟩ : ∃ s, s = 32 - W.bl x := ⟨_, rfl⟩
  have hx0 : x ≠ 0 := fun e => nm (by rw [hlast, e])
  have hblw := W.bl_words wm hlast hx0
  have hbl32 := W.bl_le32 hxl
  have hbl1 : W.bl x ≠ 0 := by intro e; rw [W.bl_pos hx0] at e; omega
  have hs32 : s < 32 := by omega
  have hbits : (32 : Int) * (m.length : Int) - ((W.bl (W.val m) : Nat) : Int) = (s : Int) := by omega
  rw [← hs] at N1 N2 N3
  have hvm : 0 < W.val m := W.val_pos nm (by intro e; rw [e] at hm; simp at hm)
  have hcp := Lib.hid (refCompare_any a _ l m c d w h k wl wm (by omega) (by omega))
  have hbt := Lib.hid (refBits_any _ m d w k hd hdm (fun h => by cases h) wm (by omega))
  have hA : W.val m * 2 ^ s ≤ W.val l * 2 ^ s := Nat.mul_le_mul_right _ hge
  have hN0 : m.length ≤ (W.toW (W.val l * 2 ^ s)).length := by
    rw [← N1]
    exact W.len_toW_le.2 (Nat.lt_of_le_of_lt hA (W.len_toW_le.1 (Nat.le_refl _)))
  have hN1 : (W.toW (W.val l * 2 ^ s)).length ≤ 8193 := by
    refine Nat.le_trans (m := l.length + 1) (W.len_toW_le.2 ?_) (by omega)
    rw [W.pw_add]
    exact Nat.mul_lt_mul'' (W.val_lt wl) (Nat.lt_of_lt_of_le (Nat.pow_lt_pow_right (by decide) hs32) (by decide))
  have hbw : wrap64 ((32 : Int) * (m.length : Int) - ((W.bl (W.val m) : Nat) : Int)) = (s : Int) := by rw [hbits]; unfold wrap64; omega
  have HN1 := Lib.hid N1
  have HN2 := Lib.hid N2
  have HN3 := Lib.hid N3
  have HM := Lib.hid hm
  have HS : Hid (s ≤ 31) := by show s ≤ 31; omega
  have hm2 : 2 ≤ m.length := by omega
  have hp2 : Hid (W.pw (m.length - 1) ≤ W.val m * 2 ^ s) := by
    show _ ≤ _
    refine Nat.le_trans ?_ N2
    generalize W.pw (m.length - 1) = p
    omega
  have HVM : Hid (0 < W.val m * 2 ^ s) := by show 0 < _; exact Nat.mul_pos hvm (Nat.two_pow_pos s)
  clear hm hlast hs hx N1 N2 N3 hge hblw hbl32 hbl1 hbits hvm hA hxl hx0 hb hbc
  obtain ⟨A, hA⟩ : ∃ A, A = W.val l * 2 ^ s := ⟨_, rfl⟩
  obtain ⟨V, hV⟩ : ∃ V, V = W.val m * 2 ^ s := ⟨_, rfl⟩
  rw [← hA] at hN0 hN1
  rw [← hV] at HN1 HN2 HN3 hp2 HVM
  have HA := Lib.hid hA
  have HV := Lib.hid hV
  clear hA hV
  go_enter Try.func192, Try.ntmps192
  go_wp2_with fail
  refine Calls.mono hcp.out ?_
  rintro e w' ⟨rfl, rfl⟩
  go_wp2_with fail
  refine Calls.mono hbt.out ?_
  rintro e w1 ⟨rfl, x1, rfl⟩
  clear hcp hbt
  have hup1 := Lib.hid (refUp_any (some ⟨b1, o1, none⟩) m d s (w'.ext x1) (k.ext x1) wm (by omega) (by omega))
  rw [← HV.out] at hup1
  go_wp2_with fail
  rw [hbw]
  refine Calls.mono hup1.out ?_
  rintro e w2 ⟨a2, c2, x2, rfl, rfl, r1, r2, r3⟩
  have HRV := Lib.hid r2
  have hup2 := Lib.hid (refUp_any a l c s ((w'.ext x1).ext x2) ((h.ext x1).ext x2) wl (by omega) (by omega))
  rw [← HA.out] at hup2
  have hVd := W.wf_toW V
  have hVn := W.nrm_toW V
  have hVv := W.val_toW V
  have hAd := W.wf_toW A
  have hAv := W.val_toW A
  obtain ⟨dd, hdd⟩ : ∃ dd, dd = W.toW V := ⟨_, rfl⟩
  rw [← hdd] at hVd hVn hVv r1 r2 HN1 ⊢
  have HDV := Lib.hid hVv
  have HDL := Lib.hid HN1.out
  clear hup1 hbw r3 HRV hVv hdd
  have ddl : dd.length = m.length := HDL.out
  rw [ddl] at r1 ⊢
  go_wp2_with fail
  refine Calls.mono hup2.out ?_
  rintro e w2 ⟨a3, c3, x3, rfl, rfl, s1, s2, s3⟩
  clear hup2 s3
  obtain ⟨w2, hw2⟩ : ∃ w2, w2 = (w'.ext x1).ext x2 := ⟨_, rfl⟩
  have hB2 : Blw w' w2 := by rw [hw2]; exact ((Blw.refl w').ext x1).ext x2
  rw [← hw2] at s1 s2 r1 r2 ⊢
  have hB23 : Blw w2 (w2.ext x3) := World.blw_ext _ _
  have ha2 : ∀ q, a2 = some q → q.block < w2.heap.size := by
    rintro q rfl
    exact (World.ownsRow.lt r1 _ rfl).2
  obtain ⟨w3, hw3⟩ : ∃ w3, w3 = w2.ext x3 := ⟨_, rfl⟩
  rw [← hw3] at hB23 s1 ⊢
  clear r1 s2 hw3 hw2 h k
  obtain ⟨N, hN⟩ : ∃ N, N = (W.toW A).length := ⟨_, rfl⟩
  obtain ⟨us0, hus⟩ : ∃ us0, us0 = W.toW A ++ [0] := ⟨_, rfl⟩
  have hul : us0.length = N + 1 := by rw [hus, hN]; simp
  have huv : W.val us0 = A := by rw [hus, W.val_snoc, hAv, Nat.mul_zero, Nat.add_zero]
  have huw : W.WF us0 := by rw [hus]; exact hAd.app (W.WF.cons (by decide) W.WF.nil)
  have hstart : ∀ nq, nq + m.length = N + 1 → W.val (us0.drop nq) < V := fun nq hnq => W.over_start huv (by rw [hul, hN]) (by rw [hnq, hN]) (by omega) hp2.out
  rw [← hN] at hN0 hN1 s1 ⊢
  obtain ⟨nq, hnq⟩ : ∃ nq, nq + m.length = N + 1 := ⟨N + 1 - m.length, by omega⟩
  have hnq2 : (N : Int) + 1 - (m.length : Int) = (nq : Int) := by omega
  have HNQ := Lib.hid hnq
  have hnq1 : nq ≤ 8194 := by omega
  have hst := hstart nq hnq
  have HST2 := Lib.hid hst
  have hsu : u32s (W.toW A) ++ u32s [0] = u32s us0 := by rw [hus]; simp
  have HUL := Lib.hid hul
  have HUV := Lib.hid huv
  clear hnq hst hul huv hstart hAv hAd hus hN
  generalize W.toW A = ta at *
  go_wp2_with (first
    | (at_builtin; refine wpList_app w2 _ rfl _ _ 86 rfl sl_words (hB23.alloc _) _ N (u32s ta) rfl (ownsRow_blw s1 ((Blw.refl _).alloc _)) _ 1 1 (u32s [0]) rfl (by simp) (Arr.lit _ _ _ _) (by simp) (u32s_one _) (by unfold maxLen; omega) (by omega) ?_; intro v4 w4 hown4 hb4 _ _; rw [hsu] at hown4; obtain ⟨a4, c4, rfl, -, -, hc4, hc4m, -⟩ := own_arr hown4; obtain ⟨gu, post, rfl, hgu, hW4, -, hc4', -⟩ := Wn.of_own hown4 (Nat.succ_pos N); have HC4 := Lib.hid hc4'; clear hc4')
    | (refine wpList_words _ rfl _ _ rfl .i64 .i64 _ _ nq rfl rfl (by omega) (by omega) (by omega) ?_; intro w5 hqB hq1))
  have hc4x : c4 ≤ 9223372036854775807 := by unfold maxLen at hc4m; omega
  have HNQ2 := Lib.hid hnq2
  clear hown4 hnq2 s1 hsu hc4m
  have hA4 := Lib.hid (r2.blw hb4)
  have hB4 : Blw w' w4 := hB2.trans hb4
  obtain ⟨gq, hgq⟩ : ∃ gq, gq = w4.heap.size := ⟨_, rfl⟩
  rw [← hgq] at hqB ⊢
  have hguq : gu < gq := by rw [hgq]; exact hW4.lt
  have hW5 := hW4.blw hq1
  have hA5 := hA4.out.blw hq1
  have hB5 : Blw w' w5 := hB4.trans hq1
  have hgu0 : w'.heap.size ≤ gu := Nat.le_trans hB2.size hgu
  have ha2g : ∀ q, a2 = some q → q.block ≠ gu := fun q hq e => by have := ha2 q hq; omega
  have ha2q : ∀ q, a2 = some q → q.block ≠ gq := fun q hq e => by have := ha2 q hq; omega
  clear hA4 hW4 hb4 hq1 hB4 hB23 hgu hB2 r2 ha2 hgq
  clear HNQ2 ddl
  go_loopw [12] (fun i wr => ∃ (k : Nat) (us qs : List Nat), k ≤ nq ∧ i = .int .i64 ((k : Int) - 1) ∧ Wn wr gu [] us post ∧ Bk wr gq qs ∧ Arr wr a2 (u32s dd) ∧ Blw w' wr ∧ Hid (us.length = N + 1) ∧ Hid (qs.length = nq) ∧ Hid (W.WF us) ∧ Hid (W.WF qs) ∧
    Hid (us.take k = us0.take k) ∧ Hid (W.val (us.drop k) < V) ∧ Hid (W.val (qs.drop k) * V + W.val (us.drop k) = W.val (us0.drop k))) (fun i _ => (intOf i + 1).toNat)
  case atStart => exact ⟨nq, us0, _, Nat.le_refl _, rfl, hW5, hqB, hA5, hB5, HUL, List.length_replicate, huw, W.WF.rep _, rfl, HST2, by
    show _ = _
    rw [List.drop_of_length_le (by simp), W.val, Nat.zero_mul, Nat.zero_add]⟩
  case round =>
    obtain ⟨k, us, qs, hk, rfl, hgU, hgQ, hvA, hB, hul, hql, husw, hqw, hut, hud, hqd⟩ := hrel
    by_cases h0 : 0 < k
    · obtain ⟨j, rfl⟩ : ∃ j, k = j + 1 := ⟨k - 1, by omega⟩
      have ej : (((j + 1 : Nat) : Int) - 1) = (j : Int) := by omega
      rw [ej]
      clear ej
      have hjl : j + m.length + 1 ≤ N + 1 := by have := HNQ.out; omega
      have i0 : (0 : Int) ≤ (j : Int) := by omega
      clear h0
      obtain ⟨PA, part, PR, rfl, hA, hpl, hpw, hAw, hRw, hlt, hnew⟩ := W.div_round (N := m.length) (by rw [hul.out]; exact hjl) husw.out HN3.out hut.out (by rw [hul.out]; exact HUL.out) hud.out hqd.out (by rw [hql.out]; omega)
      have hW := hgU.split
      have hAL : (u32s PA).length = j := by rw [u32s_len]; exact hA
      have hdig := refDigit_any gu j (u32s PA) (u32s PR ++ post) part dd a2 (c4 - j) c2 (n + 1) wr hAL hW hvA hpw hVd hVn (by rw [hpl, HM.out]) (by rw [HDL.out, HM.out]) (by have := HM.out; omega) (by rw [HDV.out]; exact hlt)
      rw [hpl, HDL.out, HDV.out] at hdig
      have hcapj : j + m.length + 1 - j = m.length + 1 := by omega
      have hQB : W.val part / V < 4294967296 := Nat.div_lt_of_lt_mul hlt
      have HPL := Lib.hid hpl
      have HNEW := Lib.hid hnew
      have HQB := Lib.hid hQB
      have HDIG := Lib.hid hdig
      have hVp : Hid (0 < V) := HVM
      have c2' : (j : Int) + (m.length : Int) + 1 ≤ (N : Int) + 1 := by omega
      have c3' : (j : Int) + (m.length : Int) + 1 ≤ (c4 : Int) := by omega
      have c5' : (N : Int) + 1 ≤ (c4 : Int) := by omega
      clear hnew hlt hQB hpl hdig
      obtain ⟨Q, hQ⟩ : ∃ Q, Q = W.val part / V := ⟨_, rfl⟩
      rw [← hQ] at HDIG HQB HNEW
      clear hQ
      have hQl : Q < 4294967296 := HQB.out
      go_wp2_with fail
      refine Calls.mono HDIG.out ?_
      rintro e w6 ⟨rfl, u, hW6, hu6w, hu6l, hu6v, hK6⟩
      have hQ6 := hgQ.keptO hK6 (Nat.ne_of_gt hguq)
      have hA6 := hK6.arr hvA (fun q hq => ha2g q hq)
      have hB6 : Blw w' w6 := KeptO.blw hB hK6 (fun i hi => by rw [hi]; exact hgu0)
      have hgq0 : w'.heap.size ≤ gq := by omega
      have hjn : j < nq := by omega
      obtain ⟨z, hz, hz1, hz2⟩ := hQ6.elem (k := j) (by rw [hql.out]; exact hjn)
      have HV6 := Lib.hid hu6v
      have HN6 := Lib.hid HNEW
      clear hgQ hvA hB hK6 hgU hW HDIG hu6v
      go_wp2_with fail
      go_roundw
      case rel =>
        obtain ⟨t1, t2, t3⟩ := HNEW.out u hu6l HV6.out
        have hne : gu ≠ gq := Nat.ne_of_lt hguq
        exact ⟨j, PA ++ u ++ PR, qs.set j Q, by omega, rfl, (KeptO.refl w6 |>.setCell (O := (· = gq)) _ _ (.inl rfl)) |> (fun kk => hW6.join.keptO kk hne), hQ6.set j rfl, (KeptO.arr (O := (· = gq)) ((KeptO.refl w6).setCell _ _ (.inl rfl)) hA6 (fun q hq => ha2q q hq)), hB6.setCell _ _ hgq0, by
          show _ = _
          have := hul.out
          simp only [List.length_append] at this ⊢
          rw [hu6l]; rw [HPL.out] at this; exact this, by (show _ = _; rw [List.length_set]; exact hql.out), (hAw.app hu6w).app hRw, hqw.out.set _ HQB.out, t1, t2, t3⟩
      case measure => (first | (simp [intOf]; done) | (simp [intOf]; omega))
    · have : k = 0 := by omega
      subst this
      have e0 : (((0 : Nat) : Int) - 1) = -1 := by omega
      rw [e0]
      have hfin : W.val qs * (W.val m * 2 ^ s) + W.val us = W.val l * 2 ^ s := by
        have := hqd.out
        rw [List.drop_zero, List.drop_zero, List.drop_zero, HUV.out, HA.out, HV.out] at this
        exact this
      have hfin2 : W.val us < W.val m * 2 ^ s := by
        have := hud.out
        rw [List.drop_zero, HV.out] at this
        exact this
      obtain ⟨r1, r2⟩ := W.div_end hfin hfin2
      have hcq := refTrim_any (some ⟨gq, 0, none⟩) qs nq wr hgQ.arr (by rw [hql.out]; exact Nat.le_refl _) (by omega) (fun h => by cases h) hqw.out (by rw [hql.out]; omega)
      rw [hql.out, r1] at hcq
      have hcu := fun x => refTrim_any (some ⟨gu, 0, none⟩) us c4 (wr.ext x) (hgU.blw (World.blw_ext _ x)).arr (by rw [hul.out]; exact hc4) hc4x (fun h => by cases h) husw.out (by rw [hul.out]; omega)
      rw [hul.out] at hcu
      have hul1 : (W.toW (W.val us)).length ≤ N + 1 := by have := W.toW_len_le husw.out; rwa [hul.out] at this
      obtain ⟨U, hU⟩ : ∃ U, U = W.val us := ⟨_, rfl⟩
      rw [← hU] at hcu r2 hul1
      have HCQ := Lib.hid hcq
      have HCU := Lib.hid hcu
      have HR2 := Lib.hid r2
      clear h0 e0 hfin hfin2 r1 r2 hcq hcu hU
      go_wp2_with fail
      refine Calls.mono HCQ.out ?_
      rintro e w6 ⟨a6, c6, x6, rfl, rfl, s1, s2, s3⟩
      go_wp2_with fail
      refine Calls.mono (HCU.out x6) ?_
      intro e w7 h7
      obtain ⟨a7, c7, x7, rfl, rfl, t1, t2, t3, t4, t5⟩ := h7.parts
      have hdn := refDown_any a7 (W.toW U) c7 s ((wr.ext x6).ext x7) t2 t3 t4 (W.wf_toW _) (by omega) (by omega)
      rw [W.val_toW, HR2.out] at hdn
      have HDN := Lib.hid hdn
      clear HCQ HCU hdn s2 s3 t2 t5 hgU hgQ hvA
      go_wp2_with fail
      refine Calls.mono HDN.out ?_
      rintro e w8 ⟨a8, c8, x8, rfl, rfl, v1, v2, v3⟩
      clear HDN
      go_wp2
      go_ret2
      exact ⟨a6, c6, a8, c8, rfl, ((hB.ext x6).ext x7).ext x8, ownsRow_mono (ownsRow_blw (ownsRow_blw s1 (World.blw_ext _ x7)) (World.blw_ext _ x8)) hB.size, ownsRow_mono v1 (Nat.le_trans hB.size (Nat.le_trans (World.le_ext _ x6) (World.le_ext _ x7)))⟩
end Go.Proofs.Ytigkfdoeneemeaa
/- Walks of slackwaterref01: Over in one law, Common. -/
namespace Go.Proofs.Ytigkfdoeneemeaa
open Go.RowKit

theorem refOver_any (a b : Option Addr) (l m : List Nat) (c d : Nat) (w : World) (h : Arr w a (u32s l)) (k : Arr w b (u32s m)) (hc : l.length ≤ c) (hd : m.length ≤ d) (hcm : c ≤ 9223372036854775807) (hdm : d ≤ 9223372036854775807) (ha : a = none → c = 0)
    (wl : W.WF l) (wm : W.WF m) (nm : W.Nrm m) (hl : l.length ≤ 8192) (hm : 0 < m.length) (hm8 : m.length ≤ 8190) :
    Calls Try.prog 192 #[.slice a l.length c, .slice b m.length d] w (RetTwo w (W.val l / W.val m) (W.val l % W.val m)) := by
  by_cases h1 : W.val l < W.val m
  · exact refOver_less a b l m c d w h k hc hcm ha wl wm (by omega) (by omega) h1
  · by_cases h2 : m.length = 1
    · obtain ⟨y, rfl⟩ := List.length_eq_one_iff.1 h2
      have vy : W.val [y] = y := by simp [W.val]
      have hy0 : 0 < y := by
        have := W.val_pos nm (by simp)
        rwa [vy] at this
      have := refOver_one a b l y c d w h k wl wm.head hy0 (by omega) (by rw [vy] at h1; omega)
      rw [vy]; exact this
    · obtain ⟨n, hn⟩ : ∃ n, m.length = n + 2 := ⟨m.length - 2, by omega⟩
      exact refOver_long a b l m n c d w h k hc hd hcm hdm wl wm nm hl hn hm8 (by omega)

/-- A slice that holds the words of a number, which may be handed in. -/
def HasN (w : World) (v : Value) (n : Nat) : Prop := ∃ (a : Option Addr) (c : Nat), v = .slice a (W.toW n).length c ∧ Arr w a (u32s (W.toW n)) ∧ (W.toW n).length ≤ c ∧ c ≤ 9223372036854775807 ∧ (a = none → c = 0)
theorem HasN.num {w : World} {v : Value} {n : Nat} (h : HasN w v n) : NumV w v n := by
  obtain ⟨a, c, e, k, _⟩ := h; exact ⟨a, c, e, k⟩
theorem HasN.blw {w w' : World} {v : Value} {n : Nat} (h : HasN w v n) (k : Blw w w') : HasN w' v n := by
  obtain ⟨a, c, e, h, r⟩ := h; exact ⟨a, c, e, h.blw k, r⟩
theorem HasN.own {w : World} {B n c : Nat} {a : Option Addr} (h : w.ownsRow B 135 1 (.slice a (W.toW n).length c) (W.toW n).length (u32s (W.toW n))) : HasN w (.slice a (W.toW n).length c) n := by
  obtain ⟨a', c', e, k1, _, k3, k4, k5⟩ := own_arr h
  cases e
  exact ⟨a, c, rfl, k1, k3, k4, fun e => (k5 e).2⟩

set_option maxRecDepth 100000 in
set_option maxHeartbeats 4000000 in
theorem refCommon_any (a b : Option Addr) (l m : List Nat) (c d : Nat) (w : World) (h : Arr w a (u32s l)) (k : Arr w b (u32s m)) (hc : l.length ≤ c) (hd : m.length ≤ d) (hcm : c ≤ 9223372036854775807) (hdm : d ≤ 9223372036854775807) (ha : a = none → c = 0) (hb : b = none → d = 0)
    (wl : W.WF l) (wm : W.WF m) (nl : W.Nrm l) (nm : W.Nrm m) (hl : l.length ≤ 8190) (hm : m.length ≤ 8190) :
    Calls Try.prog 178 #[.slice a l.length c, .slice b m.length d] w (RetW w (Nat.gcd (W.val l) (W.val m))) := by
  have L1 := W.toW_val wl nl
  have L2 := W.toW_val wm nm
  have B1 := Lib.hid (W.len_toW_le.1 (by rw [L1]; exact hl))
  have B2 := Lib.hid (W.len_toW_le.1 (by rw [L2]; exact hm))
  have H1 : HasN w (.slice a l.length c) (W.val l) := by rw [← congrArg List.length L1]; exact ⟨a, c, rfl, by rw [L1]; exact h, by rw [L1]; exact hc, hcm, ha⟩
  have H2 : HasN w (.slice b m.length d) (W.val m) := by rw [← congrArg List.length L2]; exact ⟨b, d, rfl, by rw [L2]; exact k, by rw [L2]; exact hd, hdm, hb⟩
  clear L1 L2
  go_enter Try.func178, Try.ntmps178
  go_wp2_with fail
  go_loopw [0, 1] (fun x y wr => ∃ (X Y : Nat), HasN wr x X ∧ HasN wr y Y ∧ Blw w wr ∧ Hid (Nat.gcd X Y = Nat.gcd (W.val l) (W.val m)) ∧ Hid (X < W.pw 8190) ∧ Hid (Y < W.pw 8190)) (fun _ y wr => readN wr y)
  case atStart => exact ⟨W.val l, W.val m, H1, H2, Blw.refl w, rfl, B1.out, B2.out⟩
  case round =>
    obtain ⟨X, Y, hX, hY, hB, hG, hX8, hY8⟩ := hrel
    have nX := readN_is hX.num
    have nY := readN_is hY.num
    have HX := Lib.hid hX
    have HY := Lib.hid hY
    obtain ⟨p1, q1, rfl, A1, A2, A3, A4⟩ := hX
    obtain ⟨p2, q2, rfl, D1, D2, D3, D4⟩ := hY
    have lX : (W.toW X).length ≤ 8190 := W.len_toW_le.2 hX8.out
    have lY : (W.toW Y).length ≤ 8190 := W.len_toW_le.2 hY8.out
    by_cases h0 : (W.toW Y).length = 0
    · have hY0 : Y = 0 := W.toW_nil.1 (List.eq_nil_of_length_eq_zero h0)
      have hg : X = Nat.gcd (W.val l) (W.val m) := by rw [← hG.out, hY0, Nat.gcd_zero_right]
      have htr := refTrim_any p1 (W.toW X) q1 wr A1 A2 A3 A4 (W.wf_toW X) (by omega)
      rw [W.val_toW] at htr
      have HTR := Lib.hid htr
      have HG := Lib.hid hg
      clear htr hg hY0 nX nY A1 A4 D1 D4
      go_wp2_with fail
      refine Calls.mono HTR.out ?_
      rintro e w6 ⟨a6, c6, x6, rfl, rfl, s1, s2, s3⟩
      clear HTR
      go_wp2
      go_ret
      rw [← HG.out]
      exact RetOwn.of (ownsRow_mono s1 hB.size) (hB.ext x6)
    · have hY0 : 0 < Y := Nat.pos_of_ne_zero (fun e => h0 (by rw [e, W.toW_zero]; rfl))
      have hov := refOver_any p1 p2 (W.toW X) (W.toW Y) q1 q2 wr A1 D1 A2 D2 A3 D3 A4 (W.wf_toW X) (W.wf_toW Y) (W.nrm_toW Y) (by omega) (by omega) lY
      rw [W.val_toW, W.val_toW] at hov
      have HOV := Lib.hid hov
      have hlt : X % Y < Y := Nat.mod_lt _ hY0
      have HLT := Lib.hid hlt
      have HNY := Lib.hid nY
      clear hov nX nY A1 A4 D1 D4 hlt hY0
      go_wp2_with fail
      refine Calls.mono HOV.out ?_
      rintro e w3 ⟨u1, v1, u2, v2, rfl, t1, t2, t3⟩
      have hz := HasN.own t3
      have nZ := Lib.hid (readN_is hz.num)
      have HZ := Lib.hid hz
      clear HOV t2 t3 hz
      go_wp2_with fail
      go_roundw
      case rel => exact ⟨Y, X % Y, HY.out.blw t1, HZ.out, hB.trans t1, by (show _ = _; rw [gcd_step]; exact hG.out), hY8, Nat.lt_trans HLT.out hY8.out⟩
      case measure => (rw [nZ.out, HNY.out]; exact HLT.out)
end Go.Proofs.Ytigkfdoeneemeaa
/- Walks of slackwaterref01: Add, Sub, Mul, Gcd (of numbers in their one form). -/
namespace Go.Proofs.Ytigkfdoeneemeaa
open Go.RowKit

theorem add_len' {l m : List Nat} {N : Nat} (wl : W.WF l) (wm : W.WF m) (hl : l.length ≤ N) (hm : m.length ≤ N) : (W.toW (W.val l + W.val m)).length ≤ N + 1 := by
  refine W.len_toW_le.2 ?_
  have h1 := W.val_lt wl
  have h2 := W.val_lt wm
  have h3 : W.pw l.length ≤ W.pw N := Nat.pow_le_pow_right (by decide) hl
  have h4 : W.pw m.length ≤ W.pw N := Nat.pow_le_pow_right (by decide) hm
  rw [W.pw_succ]
  generalize W.pw N = p at *
  generalize W.pw l.length = p3 at *
  generalize W.pw m.length = p4 at *
  omega
theorem add_len {l m : List Nat} (wl : W.WF l) (wm : W.WF m) (hl : l.length ≤ 8191) (hm : m.length ≤ 8191) : (W.toW (W.val l + W.val m)).length ≤ 8192 := add_len' wl wm hl hm
theorem times_len_le {l m : List Nat} (wl : W.WF l) (wm : W.WF m) : (W.toW (W.val l * W.val m)).length ≤ l.length + m.length := by
  refine W.len_toW_le.2 ?_
  rw [W.pw_add]
  exact Nat.mul_lt_mul'' (W.val_lt wl) (W.val_lt wm)
theorem sub_len {l m : List Nat} (wl : W.WF l) (hl : l.length ≤ 8192) : (W.toW (W.val l - W.val m)).length ≤ 8192 :=
  Nat.le_trans (W.len_toW_le.2 (Nat.lt_of_le_of_lt (Nat.sub_le _ _) (W.val_lt wl))) hl
theorem mul_len {l m : List Nat} (wl : W.WF l) (wm : W.WF m) (hs : l.length + m.length ≤ 8192) : (W.toW (W.val l * W.val m)).length ≤ 8192 := by
  refine Nat.le_trans (W.len_toW_le.2 ?_) hs
  rw [W.pw_add]
  exact Nat.mul_lt_mul'' (W.val_lt wl) (W.val_lt wm)
theorem gcd_len {l m : List Nat} (wl : W.WF l) (wm : W.WF m) (hl : l.length ≤ 8192) (hm : m.length ≤ 8192) : (W.toW (Nat.gcd (W.val l) (W.val m))).length ≤ 8192 := by
  rcases Nat.eq_zero_or_pos (W.val l) with h | h
  · rw [h, Nat.gcd_zero_left]
    exact Nat.le_trans (W.toW_len_le wm) hm
  · exact Nat.le_trans (W.len_toW_le.2 (Nat.lt_of_le_of_lt (Nat.gcd_le_left _ h) (W.val_lt wl))) hl

set_option maxRecDepth 100000 in
set_option maxHeartbeats 2000000 in
theorem refAdd_ok (a b : Option Addr) (l m : List Nat) (c d : Nat) (w : World) (h : Arr w a (u32s l)) (k : Arr w b (u32s m)) (wl : W.WF l) (wm : W.WF m) (nl : W.Nrm l) (nm : W.Nrm m) (hl : l.length ≤ 8191) (hm : m.length ≤ 8191) :
    Calls Try.prog 206 #[.slice a l.length c, .slice b m.length d] w (RetOk w (W.val l + W.val m)) := by
  have H1 := Lib.hid (refBoth_any a b l m c d w h k (by omega) (by omega) nl nm)
  have H2 := Lib.hid (refPlus_any a b l m c d w h k wl wm (by omega) (by omega))
  have hL := add_len wl wm hl hm
  generalize W.val l + W.val m = n at *
  go_enter Try.func206, Try.ntmps206
  go_wp2_with fail
  refine Calls.mono H1.out ?_
  rintro e w' ⟨rfl, rfl⟩
  go_wp2_with fail
  refine Calls.mono H2.out ?_
  rintro e w2 ⟨a3, c3, x3, rfl, rfl, r1, r2, r3⟩
  go_wp2_with (go_at_call 177; refine Calls.mono (refTold_ok a3 _ c3 _ hL) ?_; rintro e w' ⟨rfl, rfl⟩)
  go_ret2
  exact ⟨a3, c3, rfl, World.blw_ext _ _, r1⟩

set_option maxRecDepth 100000 in
set_option maxHeartbeats 2000000 in
theorem refSub_ok (a b : Option Addr) (l m : List Nat) (c d : Nat) (w : World) (h : Arr w a (u32s l)) (k : Arr w b (u32s m)) (wl : W.WF l) (wm : W.WF m) (nl : W.Nrm l) (nm : W.Nrm m) (hl : l.length ≤ 8192) (hm : m.length ≤ 8192) (hle : W.val m ≤ W.val l) :
    Calls Try.prog 207 #[.slice a l.length c, .slice b m.length d] w (RetOk w (W.val l - W.val m)) := by
  have H1 := Lib.hid (refBoth_any a b l m c d w h k (by omega) (by omega) nl nm)
  have H2 := Lib.hid (refLess_any a b l m c d w h k wl wm (by omega) (by omega) hle)
  have H3 := Lib.hid (refCompare_any a b l m c d w h k wl wm (by omega) (by omega))
  have c1 : decide (W.cmpN (W.val l) (W.val m) < 0) = false := by rw [cmp_lt]; simpa using hle
  have hL := sub_len (m := m) wl hl
  clear hle
  generalize W.val l - W.val m = n at *
  go_enter Try.func207, Try.ntmps207
  go_wp2_with fail
  refine Calls.mono H1.out ?_
  rintro e w' ⟨rfl, rfl⟩
  go_wp2_with fail
  refine Calls.mono H3.out ?_
  rintro e w' ⟨rfl, rfl⟩
  go_wp2_with fail
  refine Calls.mono H2.out ?_
  rintro e w2 ⟨a3, c3, x3, rfl, rfl, r1, r2, r3⟩
  go_wp2_with (go_at_call 177; refine Calls.mono (refTold_ok a3 _ c3 _ hL) ?_; rintro e w' ⟨rfl, rfl⟩)
  go_ret2
  exact ⟨a3, c3, rfl, World.blw_ext _ _, r1⟩

set_option maxRecDepth 100000 in
set_option maxHeartbeats 2000000 in
theorem refMul_ok (a b : Option Addr) (l m : List Nat) (c d : Nat) (w : World) (h : Arr w a (u32s l)) (k : Arr w b (u32s m)) (wl : W.WF l) (wm : W.WF m) (nl : W.Nrm l) (nm : W.Nrm m) (hs : l.length + m.length ≤ 8192) :
    Calls Try.prog 208 #[.slice a l.length c, .slice b m.length d] w (RetOk w (W.val l * W.val m)) := by
  have H1 := Lib.hid (refBoth_any a b l m c d w h k (by omega) (by omega) nl nm)
  have H2 := Lib.hid (refTimes_any a b l m c d w h k wl wm (by omega))
  have hL := mul_len wl wm hs
  have i1 : decide ((8192 : Int) < (l.length : Int) + (m.length : Int) - 1) = false := by simp; omega
  have i2 : ((l.length : Int) + (m.length : Int) - 1 ≤ 8192) := by omega
  generalize W.val l * W.val m = n at *
  by_cases hl0 : 0 < l.length <;> by_cases hm0 : 0 < m.length
  all_goals
    go_enter Try.func208, Try.ntmps208
    go_wp2_with fail
    refine Calls.mono H1.out ?_
    rintro e w' ⟨rfl, rfl⟩
    go_wp2_with fail
    refine Calls.mono H2.out ?_
    rintro e w2 ⟨a3, c3, x3, rfl, rfl, r1, r2, r3⟩
    go_wp2_with (go_at_call 177; refine Calls.mono (refTold_ok a3 _ c3 _ hL) ?_; rintro e w' ⟨rfl, rfl⟩)
    go_ret2
    exact ⟨a3, c3, rfl, World.blw_ext _ _, r1⟩

set_option maxRecDepth 100000 in
set_option maxHeartbeats 2000000 in
theorem refGcd_ok (a b : Option Addr) (l m : List Nat) (c d : Nat) (w : World) (h : Arr w a (u32s l)) (k : Arr w b (u32s m)) (hc : l.length ≤ c) (hd : m.length ≤ d) (hcm : c ≤ 9223372036854775807) (hdm : d ≤ 9223372036854775807) (ha : a = none → c = 0) (hb : b = none → d = 0)
    (wl : W.WF l) (wm : W.WF m) (nl : W.Nrm l) (nm : W.Nrm m) (hl : l.length ≤ 8190) (hm : m.length ≤ 8190) :
    Calls Try.prog 156 #[.slice a l.length c, .slice b m.length d] w (RetOk w (Nat.gcd (W.val l) (W.val m))) := by
  have H1 := Lib.hid (refBoth_any a b l m c d w h k (by omega) (by omega) nl nm)
  have H2 := Lib.hid (refCommon_any a b l m c d w h k hc hd hcm hdm ha hb wl wm nl nm hl hm)
  have hL := gcd_len wl wm (show l.length ≤ 8192 by omega) (show m.length ≤ 8192 by omega)
  generalize Nat.gcd (W.val l) (W.val m) = n at *
  go_enter Try.func156, Try.ntmps156
  go_wp2_with fail
  refine Calls.mono H1.out ?_
  rintro e w' ⟨rfl, rfl⟩
  go_wp2_with fail
  refine Calls.mono H2.out ?_
  rintro e w2 ⟨a3, c3, x3, rfl, rfl, r1, r2, r3⟩
  go_wp2_with (go_at_call 177; refine Calls.mono (refTold_ok a3 _ c3 _ hL) ?_; rintro e w' ⟨rfl, rfl⟩)
  go_ret2
  exact ⟨a3, c3, rfl, World.blw_ext _ _, r1⟩
end Go.Proofs.Ytigkfdoeneemeaa
/- Fractions: what ratio.Check says, walked. -/
namespace Go.Proofs.Ytigkfdoeneemeaa
open Go.RowKit

/-- A fraction as it is handed about: its words, whatever they are. -/
structure Fr where
  neg : Bool
  num : List Nat
  den : List Nat
abbrev frV (r : Fr) (a : Option Addr) (c : Nat) (b : Option Addr) (d : Nat) : Value := .agg #[.bool r.neg, .slice a r.num.length c, .slice b r.den.length d]
/-- It lies behind these addresses. -/
structure FrA (w : World) (r : Fr) (a : Option Addr) (c : Nat) (b : Option Addr) (d : Nat) : Prop where
  an : Arr w a (u32s r.num)
  ad : Arr w b (u32s r.den)
  cn : r.num.length ≤ c
  cm : c ≤ 9223372036854775807
  dn : r.den.length ≤ d
  dm : d ≤ 9223372036854775807
  na : a = none → r.num.length = 0 ∧ c = 0
  nb : b = none → r.den.length = 0 ∧ d = 0
  wn : W.WF r.num
  wd : W.WF r.den
theorem FrA.blw {w w' : World} {r : Fr} {a : Option Addr} {c : Nat} {b : Option Addr} {d : Nat} (h : FrA w r a c b d) (k : Blw w w') : FrA w' r a c b d :=
  ⟨h.an.blw k, h.ad.blw k, h.cn, h.cm, h.dn, h.dm, h.na, h.nb, h.wn, h.wd⟩

def chkF (r : Fr) : Int := if 2048 < r.num.length ∨ 2048 < r.den.length then 3 else if r.num.getLast? = some 0 ∨ r.den.getLast? = some 0 ∨ r.den.length = 0 ∨ (r.num.length = 0 ∧ r.neg = true) ∨ ¬ Nat.gcd (W.val r.num) (W.val r.den) = 1 then 11 else 0

/-- A fraction that may be. -/
structure Fr.Ok (r : Fr) : Prop where
  ln : r.num.length ≤ 2048
  ld : r.den.length ≤ 2048
  nn : W.Nrm r.num
  nd : W.Nrm r.den
  d0 : 0 < r.den.length
  ns : r.num.length = 0 → r.neg = false
  g : Nat.gcd (W.val r.num) (W.val r.den) = 1
theorem chkF_ok {r : Fr} (h : r.Ok) : chkF r = 0 := by
  unfold chkF
  rw [if_neg (by have := h.ln; have := h.ld; omega), if_neg]
  rintro (k | k | k | ⟨k, k2⟩ | k)
  · exact h.nn k
  · exact h.nd k
  · have := h.d0; omega
  · rw [h.ns k] at k2; cases k2
  · exact k h.g
theorem ok_chkF {r : Fr} (h : chkF r = 0) : r.Ok := by
  unfold chkF at h
  split at h
  · cases h
  · rename_i h1
    split at h
    · cases h
    · rename_i h2
      refine ⟨by omega, by omega, fun k => h2 (.inl k), fun k => h2 (.inr (.inl k)), ?_, fun k => ?_, ?_⟩
      · rcases Nat.eq_zero_or_pos r.den.length with k | k
        · exact absurd (.inr (.inr (.inl k))) h2
        · exact k
      · cases hn : r.neg
        · rfl
        · exact absurd (.inr (.inr (.inr (.inl ⟨k, hn⟩)))) h2
      · rcases Nat.decEq (Nat.gcd (W.val r.num) (W.val r.den)) 1 with k | k
        · exact absurd (.inr (.inr (.inr (.inr k)))) h2
        · exact k
theorem chkF_cases (r : Fr) : chkF r = 0 ∨ chkF r = 3 ∨ chkF r = 11 := by
  unfold chkF
  split
  · simp
  · split <;> simp

set_option maxHeartbeats 400000 in
theorem ratioLong_any (a : Option Addr) (n c : Nat) (w : World) (hn : n ≤ 9223372036854775807) :
    Calls Try.prog 151 #[.slice a n c] w fun e w' => e = .returned (.bool (decide ((2048 : Int) < (n : Int)))) ∧ w' = w := by
  go_enter Try.func151, Try.ntmps151
  go_wp2
  go_ret
  exact ⟨rfl, rfl⟩

theorem chk_last {l : List Nat} (h : l.length ≤ 8192) (k : l.getLast? = some 0) : chk l = 11 := by
  unfold chk; rw [if_neg (by omega), if_pos k]

set_option maxRecDepth 100000 in
set_option maxHeartbeats 4000000 in
theorem ratioCheck_any (r : Fr) (a : Option Addr) (c : Nat) (b : Option Addr) (d : Nat) (w : World) (h : FrA w r a c b d) :
    Calls Try.prog 127 #[frV r a c b d] w fun e w' => e = .returned (.int .i64 (chkF r)) ∧ ∃ x, w' = w.ext x := by
  obtain ⟨neg, num, den⟩ := r
  obtain ⟨an, ad, cn, cm, dn, dm, na, nb, wn, wd⟩ := h
  simp only at an ad cn dn na nb wn wd
  by_cases hA : 2048 < num.length
  · have f1 : decide ((2048 : Int) < (num.length : Int)) = true := by simp; omega
    have HE := Lib.hid (show chkF ⟨neg, num, den⟩ = 3 from if_pos (.inl hA))
    go_enter Try.func127, Try.ntmps127
    go_wp2_with (go_at_call 151; refine (ratioLong_any _ _ _ _ (by omega)).mono ?_; rintro e w' ⟨rfl, rfl⟩)
    go_ret
    exact ⟨ret_i64 HE.out.symm, Blw.is (by repeat (first | exact Blw.refl _ | apply Blw.ext | apply Blw.alloc | apply Blw.drewN | apply Blw.drew | refine Blw.setCell ?_ _ _ (by simp)))⟩
  by_cases hB : 2048 < den.length
  · have f1 : decide ((2048 : Int) < (num.length : Int)) = false := by simp; omega
    have f2 : decide ((2048 : Int) < (den.length : Int)) = true := by simp; omega
    have HE := Lib.hid (show chkF ⟨neg, num, den⟩ = 3 from if_pos (.inr hB))
    go_enter Try.func127, Try.ntmps127
    go_wp2_with (go_at_call 151; refine (ratioLong_any _ _ _ _ (by omega)).mono ?_; rintro e w' ⟨rfl, rfl⟩)
    go_ret
    exact ⟨ret_i64 HE.out.symm, Blw.is (by repeat (first | exact Blw.refl _ | apply Blw.ext | apply Blw.alloc | apply Blw.drewN | apply Blw.drew | refine Blw.setCell ?_ _ _ (by simp)))⟩
  have hAB : ¬ (2048 < num.length ∨ 2048 < den.length) := by omega
  have f1 : decide ((2048 : Int) < (num.length : Int)) = false := by simp; omega
  have f2 : decide ((2048 : Int) < (den.length : Int)) = false := by simp; omega
  have K1 := fun (W : World) (hb : Blw w W) => natCheck_any a num c W (an.blw hb) (by omega)
  have K2 := fun (W : World) (hb : Blw w W) => natCheck_any b den d W (ad.blw hb) (by omega)
  by_cases hC : num.getLast? = some 0
  · have HE := Lib.hid (show chkF ⟨neg, num, den⟩ = 11 by unfold chkF; rw [if_neg hAB, if_pos (.inl hC)])
    rw [chk_last (by omega) hC] at K1
    have H1 := Lib.hid K1
    clear K1 K2 hC hAB an ad
    go_enter Try.func127, Try.ntmps127
    go_wp2_with (first | (go_at_call 151; refine (ratioLong_any _ _ _ _ (by omega)).mono ?_; rintro e w' ⟨rfl, rfl⟩) | (go_at_call 152; (with_reducible refine Calls.mono (H1.out _ (by repeat (first | exact Blw.refl _ | apply Blw.ext | apply Blw.alloc | apply Blw.drewN | apply Blw.drew | refine Blw.setCell ?_ _ _ (by simp)))) ?_); rintro e w' ⟨rfl, rfl⟩))
    go_ret
    exact ⟨ret_i64 HE.out.symm, Blw.is (by repeat (first | exact Blw.refl _ | apply Blw.ext | apply Blw.alloc | apply Blw.drewN | apply Blw.drew | refine Blw.setCell ?_ _ _ (by simp)))⟩
  by_cases hD : den.getLast? = some 0
  · have HE := Lib.hid (show chkF ⟨neg, num, den⟩ = 11 by unfold chkF; rw [if_neg hAB, if_pos (.inr (.inl hD))])
    rw [chk_zero (by omega) hC] at K1
    rw [chk_last (by omega) hD] at K2
    have H1 := Lib.hid K1
    have H2 := Lib.hid K2
    clear K1 K2 hC hD hAB an ad
    go_enter Try.func127, Try.ntmps127
    go_wp2_with (first | (go_at_call 151; refine (ratioLong_any _ _ _ _ (by omega)).mono ?_; rintro e w' ⟨rfl, rfl⟩) | (go_at_call 152; (first | (with_reducible refine Calls.mono (H1.out _ (by repeat (first | exact Blw.refl _ | apply Blw.ext | apply Blw.alloc | apply Blw.drewN | apply Blw.drew | refine Blw.setCell ?_ _ _ (by simp)))) ?_) | (with_reducible refine Calls.mono (H2.out _ (by repeat (first | exact Blw.refl _ | apply Blw.ext | apply Blw.alloc | apply Blw.drewN | apply Blw.drew | refine Blw.setCell ?_ _ _ (by simp)))) ?_)); rintro e w' ⟨rfl, rfl⟩))
    go_ret
    exact ⟨ret_i64 HE.out.symm, Blw.is (by repeat (first | exact Blw.refl _ | apply Blw.ext | apply Blw.alloc | apply Blw.drewN | apply Blw.drew | refine Blw.setCell ?_ _ _ (by simp)))⟩
  rw [chk_zero (by omega) hC] at K1
  rw [chk_zero (by omega) hD] at K2
  have H1 := Lib.hid K1
  have H2 := Lib.hid K2
  clear K1 K2
  by_cases hE : den.length = 0
  · have HE := Lib.hid (show chkF ⟨neg, num, den⟩ = 11 by unfold chkF; rw [if_neg hAB, if_pos (.inr (.inr (.inl hE)))])
    have q1 : ((den.length : Int) == 0) = true := by rw [hE]; rfl
    clear hE hC hD hAB an ad
    go_enter Try.func127, Try.ntmps127
    go_wp2_with (first | (go_at_call 151; refine (ratioLong_any _ _ _ _ (by omega)).mono ?_; rintro e w' ⟨rfl, rfl⟩) | (go_at_call 152; (first | (with_reducible refine Calls.mono (H1.out _ (by repeat (first | exact Blw.refl _ | apply Blw.ext | apply Blw.alloc | apply Blw.drewN | apply Blw.drew | refine Blw.setCell ?_ _ _ (by simp)))) ?_) | (with_reducible refine Calls.mono (H2.out _ (by repeat (first | exact Blw.refl _ | apply Blw.ext | apply Blw.alloc | apply Blw.drewN | apply Blw.drew | refine Blw.setCell ?_ _ _ (by simp)))) ?_)); rintro e w' ⟨rfl, rfl⟩))
    go_ret
    exact ⟨ret_i64 HE.out.symm, Blw.is (by repeat (first | exact Blw.refl _ | apply Blw.ext | apply Blw.alloc | apply Blw.drewN | apply Blw.drew | refine Blw.setCell ?_ _ _ (by simp)))⟩
  have q1 : ((den.length : Int) == 0) = false := beq_false_of_ne (by omega)
  by_cases hF : num.length = 0 ∧ neg = true
  · have HE := Lib.hid (show chkF ⟨neg, num, den⟩ = 11 by unfold chkF; rw [if_neg hAB, if_pos (.inr (.inr (.inr (.inl hF))))])
    have q2 : ((num.length : Int) == 0) = true := by rw [hF.1]; rfl
    obtain ⟨-, rfl⟩ := hF
    clear hE hC hD hAB an ad
    go_enter Try.func127, Try.ntmps127
    go_wp2_with (first | (go_at_call 151; refine (ratioLong_any _ _ _ _ (by omega)).mono ?_; rintro e w' ⟨rfl, rfl⟩) | (go_at_call 152; (first | (with_reducible refine Calls.mono (H1.out _ (by repeat (first | exact Blw.refl _ | apply Blw.ext | apply Blw.alloc | apply Blw.drewN | apply Blw.drew | refine Blw.setCell ?_ _ _ (by simp)))) ?_) | (with_reducible refine Calls.mono (H2.out _ (by repeat (first | exact Blw.refl _ | apply Blw.ext | apply Blw.alloc | apply Blw.drewN | apply Blw.drew | refine Blw.setCell ?_ _ _ (by simp)))) ?_)); rintro e w' ⟨rfl, rfl⟩))
    go_ret
    exact ⟨ret_i64 HE.out.symm, Blw.is (by repeat (first | exact Blw.refl _ | apply Blw.ext | apply Blw.alloc | apply Blw.drewN | apply Blw.drew | refine Blw.setCell ?_ _ _ (by simp)))⟩
  have GC := fun (W : World) (hb : Blw w W) => natGcd_any a b num den c d W (an.blw hb) (ad.blw hb) na nb wn wd hC hD (by omega) (by omega)
  obtain ⟨G, hG⟩ : ∃ G, Nat.gcd (W.val num) (W.val den) = G := ⟨_, rfl⟩
  rw [hG] at GC
  have HG := Lib.hid GC
  have HE := Lib.hid (show chkF ⟨neg, num, den⟩ = if G = 1 then 0 else 11 by
    unfold chkF
    rw [if_neg hAB]
    by_cases h1 : G = 1
    · rw [if_pos h1, if_neg]
      rintro (k | k | k | k | k)
      · exact hC k
      · exact hD k
      · exact hE k
      · exact hF k
      · exact k (hG.trans h1)
    · rw [if_neg h1, if_pos (.inr (.inr (.inr (.inr (fun k => h1 (hG.symm.trans k))))))])
  have hcase : (((num.length : Int) == 0) = true ∧ neg = false) ∨ ((num.length : Int) == 0) = false := by
    by_cases h0 : num.length = 0
    · left
      refine ⟨by rw [h0]; rfl, ?_⟩
      cases hn : neg
      · rfl
      · exact absurd ⟨h0, hn⟩ hF
    · right; exact beq_false_of_ne (by omega)
  clear GC hG hF hE hC hD hAB an ad
  go_enter Try.func127, Try.ntmps127
  rcases hcase with ⟨q2, rfl⟩ | q2
  all_goals
    go_wp2_with (first | (go_at_call 151; refine (ratioLong_any _ _ _ _ (by omega)).mono ?_; rintro e w' ⟨rfl, rfl⟩) | (go_at_call 152; (first | (with_reducible refine Calls.mono (H1.out _ (by repeat (first | exact Blw.refl _ | apply Blw.ext | apply Blw.alloc | apply Blw.drewN | apply Blw.drew | refine Blw.setCell ?_ _ _ (by simp)))) ?_) | (with_reducible refine Calls.mono (H2.out _ (by repeat (first | exact Blw.refl _ | apply Blw.ext | apply Blw.alloc | apply Blw.drewN | apply Blw.drew | refine Blw.setCell ?_ _ _ (by simp)))) ?_)); rintro e w' ⟨rfl, rfl⟩))
    refine Calls.mono (HG.out _ (by repeat (first | exact Blw.refl _ | apply Blw.ext | apply Blw.alloc | apply Blw.drewN | apply Blw.drew | refine Blw.setCell ?_ _ _ (by simp)))) ?_
    rintro e w2 ⟨a3, c3, rfl, hb3, o3⟩
    obtain ⟨a4, c4, he, k1, k2, k3, k4, k5⟩ := own_arr o3
    cases he
    have hb2 : Blw w w2 := ((Blw.refl w).alloc _).trans hb3
    have hcmp := natCompare_any a3 (some ⟨w2.heap.size, 0, none⟩) (W.toW G) [1] c3 1 (w2.alloc (.cells (u32s [1]).toArray 135 (0, 0))) (k1.alloc _) (own_read (own_lit w2 [1] (by decide))) k3 (by decide) k4 (by decide) (W.wf_toW G) (W.WF.cons (by decide) W.WF.nil)
    rw [W.val_toW, show W.val [1] = 1 from rfl] at hcmp
    clear o3 k5 k2
    go_wp2_with fail
    refine Calls.mono hcmp ?_
    rintro e w4 ⟨rfl, x4, rfl⟩
    clear hcmp
    by_cases hg1 : G = 1
    · have q3 : (W.cmpN G 1 != 0) = false := by rw [hg1, W.cmpN_eq]; rfl
      rw [if_pos hg1] at HE
      clear hg1
      go_wp2
      go_ret
      exact ⟨ret_i64 HE.out.symm, Blw.is ((hb2.alloc _).ext _)⟩
    · have q3 : (W.cmpN G 1 != 0) = true := by
        rcases Nat.lt_or_ge G 1 with h | h
        · rw [W.cmpN_lt h]; rfl
        · rw [W.cmpN_gt (by omega)]; rfl
      rw [if_neg hg1] at HE
      clear hg1
      go_wp2
      go_ret
      exact ⟨ret_i64 HE.out.symm, Blw.is ((hb2.alloc _).ext _)⟩
end Go.Proofs.Ytigkfdoeneemeaa
/- Fractions compared, walked. -/
namespace Go.Proofs.Ytigkfdoeneemeaa
open Go.RowKit

def chk2 (r s : Fr) : Int := if chkF r = 0 then chkF s else chkF r

set_option maxHeartbeats 1000000 in
theorem ratioChecks_any (r s : Fr) (a : Option Addr) (c : Nat) (b : Option Addr) (d : Nat) (a' : Option Addr) (c' : Nat) (b' : Option Addr) (d' : Nat) (w : World) (h : FrA w r a c b d) (k : FrA w s a' c' b' d') :
    Calls Try.prog 164 #[frV r a c b d, frV s a' c' b' d'] w fun e w' => e = .returned (.int .i64 (chk2 r s)) ∧ ∃ x, w' = w.ext x := by
  have K1 := fun (W : World) (hb : Blw w W) => ratioCheck_any r a c b d W (h.blw hb)
  have K2 := fun (W : World) (hb : Blw w W) => ratioCheck_any s a' c' b' d' W (k.blw hb)
  have he : chk2 r s = if chkF r = 0 then chkF s else chkF r := rfl
  generalize chkF r = u at *
  generalize chkF s = v at *
  have HE := Lib.hid he
  clear he
  have H1 := Lib.hid K1
  have H2 := Lib.hid K2
  clear K1 K2 h k
  by_cases hu : u = 0
  · subst hu
    rw [if_pos rfl] at HE
    go_enter Try.func164, Try.ntmps164
    go_wp2_with fail
    refine Calls.mono (H1.out _ (by repeat (first | exact Blw.refl _ | apply Blw.ext | apply Blw.alloc | apply Blw.drewN | apply Blw.drew | refine Blw.setCell ?_ _ _ (by simp)))) ?_
    rintro e w1 ⟨rfl, x1, rfl⟩
    go_wp2_with fail
    refine Calls.mono (H2.out _ (by repeat (first | exact Blw.refl _ | apply Blw.ext | apply Blw.alloc | apply Blw.drewN | apply Blw.drew | refine Blw.setCell ?_ _ _ (by simp)))) ?_
    rintro e w1 ⟨rfl, x2, rfl⟩
    go_wp2
    go_ret
    exact ⟨ret_i64 HE.out.symm, Blw.is (by repeat (first | exact Blw.refl _ | apply Blw.ext | apply Blw.alloc | apply Blw.drewN | apply Blw.drew | refine Blw.setCell ?_ _ _ (by simp)))⟩
  · rw [if_neg hu] at HE
    have q : (u != 0) = true := by simpa using hu
    go_enter Try.func164, Try.ntmps164
    go_wp2_with fail
    refine Calls.mono (H1.out _ (by repeat (first | exact Blw.refl _ | apply Blw.ext | apply Blw.alloc | apply Blw.drewN | apply Blw.drew | refine Blw.setCell ?_ _ _ (by simp)))) ?_
    rintro e w1 ⟨rfl, x1, rfl⟩
    go_wp2
    go_ret
    exact ⟨ret_i64 HE.out.symm, Blw.is (by repeat (first | exact Blw.refl _ | apply Blw.ext | apply Blw.alloc | apply Blw.drewN | apply Blw.drew | refine Blw.setCell ?_ _ _ (by simp)))⟩

set_option maxHeartbeats 400000 in
theorem ratioTimes_any (a b : Option Addr) (l m : List Nat) (c d : Nat) (w : World) (h : Arr w a (u32s l)) (k : Arr w b (u32s m)) (wl : W.WF l) (wm : W.WF m) (nl : W.Nrm l) (nm : W.Nrm m) (hs : l.length + m.length ≤ 8192) :
    Calls Try.prog 165 #[.slice a l.length c, .slice b m.length d] w (RetW w (W.val l * W.val m)) := by
  have hm := natMul_any a b l m c d w h k wl wm nl nm hs
  clear h k
  go_enter Try.func165, Try.ntmps165
  go_wp2_with fail
  refine Calls.mono hm ?_
  rintro e w1 ⟨a1, c1, rfl, hb, o1⟩
  clear hm
  go_wp2
  go_ret
  exact RetOwn.of o1 hb

def cmpF (r s : Fr) : Int := if r.neg = true ∧ s.neg = true then W.cmpN (W.val s.num * W.val r.den) (W.val r.num * W.val s.den) else if r.neg = true then -1 else if s.neg = true then 1 else W.cmpN (W.val r.num * W.val s.den) (W.val s.num * W.val r.den)

set_option maxHeartbeats 400000 in
theorem ratioCompare_bad (r s : Fr) (a : Option Addr) (c : Nat) (b : Option Addr) (d : Nat) (a' : Option Addr) (c' : Nat) (b' : Option Addr) (d' : Nat) (w : World) (h : FrA w r a c b d) (k : FrA w s a' c' b' d') (hu : ¬ chk2 r s = 0) :
    Calls Try.prog 140 #[frV r a c b d, frV s a' c' b' d'] w fun e w' => e = .returned (.tuple #[.int .i64 0, .int .i64 (chk2 r s)]) ∧ ∃ x, w' = w.ext x := by
  have K1 := fun (W : World) (hb : Blw w W) => ratioChecks_any r s a c b d a' c' b' d' W (h.blw hb) (k.blw hb)
  generalize chk2 r s = u at *
  have H1 := Lib.hid K1
  have q : (u != 0) = true := by simpa using hu
  clear K1 h k
  go_enter Try.func140, Try.ntmps140
  go_wp2_with fail
  refine Calls.mono (H1.out _ (by repeat (first | exact Blw.refl _ | apply Blw.ext | apply Blw.alloc | apply Blw.drewN | apply Blw.drew | refine Blw.setCell ?_ _ _ (by simp)))) ?_
  rintro e w1 ⟨rfl, x1, rfl⟩
  go_wp2
  go_ret2
  exact ⟨rfl, Blw.is (by repeat (first | exact Blw.refl _ | apply Blw.ext | apply Blw.alloc | apply Blw.drewN | apply Blw.drew | refine Blw.setCell ?_ _ _ (by simp)))⟩

theorem Fr.Ok.len {r s : Fr} (h : r.Ok) (k : s.Ok) : r.num.length + s.den.length ≤ 8192 ∧ s.num.length + r.den.length ≤ 8192 ∧ r.num.length + s.num.length ≤ 8192 ∧ r.den.length + s.den.length ≤ 8192 := by
  have := h.ln; have := h.ld; have := k.ln; have := k.ld
  omega

theorem cmp_words (X Y : Nat) (p1 : Option Addr) (q1 : Nat) (p2 : Option Addr) (q2 : Nat) (w : World) (h1 : Arr w p1 (u32s (W.toW X))) (h2 : Arr w p2 (u32s (W.toW Y))) (k1 : (W.toW X).length ≤ q1) (k2 : q1 ≤ maxLen) (j1 : (W.toW Y).length ≤ q2) (j2 : q2 ≤ maxLen) :
    Calls Try.prog 154 #[.slice p1 (W.toW X).length q1, .slice p2 (W.toW Y).length q2] w fun e w' => e = .returned (.int .i64 (W.cmpN X Y)) ∧ ∃ x, w' = w.ext x := by
  have := natCompare_any p1 p2 (W.toW X) (W.toW Y) q1 q2 w h1 h2 k1 j1 k2 j2 (W.wf_toW X) (W.wf_toW Y)
  rw [W.val_toW, W.val_toW] at this
  exact this
theorem cmp_words' (X Y : Nat) (p1 : Option Addr) (q1 : Nat) (p2 : Option Addr) (q2 : Nat) (w : World) (h1 : Arr w p1 (u32s (W.toW X))) (h2 : Arr w p2 (u32s (W.toW Y))) (k1 : (W.toW X).length ≤ q1) (k2 : q1 ≤ maxLen) (j1 : (W.toW Y).length ≤ q2) (j2 : q2 ≤ maxLen) :
    Calls Try.prog 154 #[.slice p2 (W.toW Y).length q2, .slice p1 (W.toW X).length q1] w fun e w' => e = .returned (.int .i64 (W.cmpN Y X)) ∧ ∃ x, w' = w.ext x :=
  cmp_words Y X p2 q2 p1 q1 w h2 h1 j1 j2 k1 k2

set_option maxRecDepth 100000 in
set_option maxHeartbeats 4000000 in
theorem ratioCompare_ok (r s : Fr) (a : Option Addr) (c : Nat) (b : Option Addr) (d : Nat) (a' : Option Addr) (c' : Nat) (b' : Option Addr) (d' : Nat) (w : World) (h : FrA w r a c b d) (k : FrA w s a' c' b' d') (hr : r.Ok) (hs : s.Ok) :
    Calls Try.prog 140 #[frV r a c b d, frV s a' c' b' d'] w fun e w' => e = .returned (.tuple #[.int .i64 (cmpF r s), .int .i64 0]) ∧ ∃ x, w' = w.ext x := by
  have K1 := fun (W : World) (hb : Blw w W) => ratioChecks_any r s a c b d a' c' b' d' W (h.blw hb) (k.blw hb)
  rw [show chk2 r s = 0 by unfold chk2; rw [chkF_ok hr, if_pos rfl, chkF_ok hs]] at K1
  have H1 := Lib.hid K1
  have HL := hr.len hs
  obtain ⟨S, hS⟩ : ∃ S : World → Prop, S = fun W => w.heap.size + 1 < W.heap.size ∧ Blw w W ∧ W.cell? ⟨w.heap.size, 0, none⟩ = some (.bool r.neg) ∧ W.cell? ⟨w.heap.size, 1, none⟩ = some (.slice a r.num.length c) ∧ W.cell? ⟨w.heap.size, 2, none⟩ = some (.slice b r.den.length d) ∧
      W.cell? ⟨w.heap.size + 1, 0, none⟩ = some (.bool s.neg) ∧ W.cell? ⟨w.heap.size + 1, 1, none⟩ = some (.slice a' s.num.length c') ∧ W.cell? ⟨w.heap.size + 1, 2, none⟩ = some (.slice b' s.den.length d') := ⟨_, rfl⟩
  have KS : ∀ W W' : World, S W → Blw W W' → S W' := by
    subst hS
    rintro W W' ⟨h1, h2, h3, h4, h5, h6, h7, h8⟩ hb
    exact ⟨Nat.lt_of_lt_of_le h1 hb.size, h2.trans hb, (Below.cell hb (by show w.heap.size < _; omega)).trans h3, (Below.cell hb (by show w.heap.size < _; omega)).trans h4, (Below.cell hb (by show w.heap.size < _; omega)).trans h5, (Below.cell hb h1).trans h6, (Below.cell hb h1).trans h7, (Below.cell hb h1).trans h8⟩
  have SB : ∀ W : World, S W → Blw w W := by
    subst hS
    rintro W ⟨h1, h2, -⟩; exact h2
  have T1 := Lib.hid (fun (W : World) (hb : S W) => ratioTimes_any a b' r.num s.den c d' W (h.an.blw (SB W hb)) (k.ad.blw (SB W hb)) h.wn k.wd hr.nn hs.nd HL.1)
  have T2 := Lib.hid (fun (W : World) (hb : S W) => ratioTimes_any a' b s.num r.den c' d W (k.an.blw (SB W hb)) (h.ad.blw (SB W hb)) k.wn h.wd hs.nn hr.nd HL.2.1)
  have hcm : cmpF r s = if r.neg = true ∧ s.neg = true then W.cmpN (W.val s.num * W.val r.den) (W.val r.num * W.val s.den) else if r.neg = true then -1 else if s.neg = true then 1 else W.cmpN (W.val r.num * W.val s.den) (W.val s.num * W.val r.den) := rfl
  obtain ⟨X, hX⟩ : ∃ X, X = W.val r.num * W.val s.den := ⟨_, rfl⟩
  obtain ⟨Y, hY⟩ : ∃ Y, Y = W.val s.num * W.val r.den := ⟨_, rfl⟩
  rw [← hX] at T1 hcm
  rw [← hY] at T2 hcm
  have HC := Lib.hid hcm
  obtain ⟨rn, rnum, rden⟩ := r
  obtain ⟨sn, snum, sden⟩ := s
  simp only at T1 T2 HC
  have HXY := Lib.hid (cmp_words X Y)
  have HYX := Lib.hid (cmp_words' X Y)
  have HKS := Lib.hid KS
  have HSB := Lib.hid SB
  clear K1 h k hr hs hX hY HL hcm KS SB
  simp only at hS
  go_enter Try.func140, Try.ntmps140
  go_wp2_with fail
  refine Calls.mono (H1.out _ (by repeat (first | exact Blw.refl _ | apply Blw.ext | apply Blw.alloc | apply Blw.drewN | apply Blw.drew | refine Blw.setCell ?_ _ _ (by simp)))) ?_
  rintro e w1 ⟨rfl, x1, rfl⟩
  go_wp2_with fail
  have hS0 : S (((w.alloc (.cells #[.bool rn, .slice a rnum.length c, .slice b rden.length d] 88 (0, 0))).alloc (.cells #[.bool sn, .slice a' snum.length c', .slice b' sden.length d'] 88 (0, 0))).ext x1).drew := by
    rw [hS]
    exact ⟨Nat.lt_of_lt_of_le (by simp) (World.le_ext _ x1), (by repeat (first | exact Blw.refl _ | apply Blw.ext | apply Blw.alloc | apply Blw.drewN | apply Blw.drew | refine Blw.setCell ?_ _ _ (by simp))), by go_simp, by go_simp, by go_simp, by go_simp, by go_simp, by go_simp⟩
  subst hS
  go_region_held3 (fun W => w.heap.size + 1 < W.heap.size ∧ Blw w W ∧ W.cell? ⟨w.heap.size, 0, none⟩ = some (.bool rn) ∧ W.cell? ⟨w.heap.size, 1, none⟩ = some (.slice a rnum.length c) ∧ W.cell? ⟨w.heap.size, 2, none⟩ = some (.slice b rden.length d) ∧
      W.cell? ⟨w.heap.size + 1, 0, none⟩ = some (.bool sn) ∧ W.cell? ⟨w.heap.size + 1, 1, none⟩ = some (.slice a' snum.length c') ∧ W.cell? ⟨w.heap.size + 1, 2, none⟩ = some (.slice b' sden.length d')) (first | assumption | go_keep) (first
    | (go_at_call 165; (with_reducible refine Calls.mono (T1.out _ (by assumption)) ?_); rintro e w9 ⟨p1, q1, y1, rfl, rfl, o1, -, -⟩; have hS1 := HKS.out _ _ (by assumption) (World.blw_ext _ y1))
    | (go_at_call 165; (with_reducible refine Calls.mono (T2.out _ (by assumption)) ?_); rintro e w9 ⟨p2, q2, y2, rfl, rfl, o2, -, -⟩; have hS2 := HKS.out _ _ (by assumption) (World.blw_ext _ y2)))
  all_goals
    obtain ⟨_, _, he, A1, -, k1, k2, -⟩ := own_arr o1
    cases he
    obtain ⟨_, _, he, A2, -, j1, j2, -⟩ := own_arr o2
    cases he
    clear T1 T2 HKS HSB H1 hS0 hS1 hS2 o1 o2
    cases rn <;> cases sn
    · have HV := HC.out
      rw [if_neg (by simp), if_neg (by simp), if_neg (by simp)] at HV
      go_wp2_with fail
      refine Calls.mono (HXY.out _ _ _ _ _ (by first | exact A1 | exact A1.ext _) (by first | exact A2 | exact A2.ext _) k1 k2 j1 j2) ?_
      rintro e w8 ⟨rfl, x8, rfl⟩
      go_wp2
      go_ret2
      exact ⟨by first | (rw [HV]; rfl) | rfl, Blw.is (by repeat (first | exact Blw.refl _ | apply Blw.ext | apply Blw.alloc | apply Blw.drewN | apply Blw.drew | refine Blw.setCell ?_ _ _ (by simp)))⟩
    · have HV := HC.out
      rw [if_neg (by simp), if_neg (by simp), if_pos rfl] at HV
      go_wp2
      go_ret2
      exact ⟨by first | (rw [HV]; rfl) | rfl, Blw.is (by repeat (first | exact Blw.refl _ | apply Blw.ext | apply Blw.alloc | apply Blw.drewN | apply Blw.drew | refine Blw.setCell ?_ _ _ (by simp)))⟩
    · have HV := HC.out
      rw [if_neg (by simp), if_pos rfl] at HV
      go_wp2
      go_ret2
      exact ⟨by first | (rw [HV]; rfl) | rfl, Blw.is (by repeat (first | exact Blw.refl _ | apply Blw.ext | apply Blw.alloc | apply Blw.drewN | apply Blw.drew | refine Blw.setCell ?_ _ _ (by simp)))⟩
    · have HV := HC.out
      rw [if_pos ⟨rfl, rfl⟩] at HV
      go_wp2_with fail
      refine Calls.mono (HYX.out _ _ _ _ _ (by first | exact A1 | exact A1.ext _) (by first | exact A2 | exact A2.ext _) k1 k2 j1 j2) ?_
      rintro e w8 ⟨rfl, x8, rfl⟩
      go_wp2
      go_ret2
      exact ⟨by first | (rw [HV]; rfl) | rfl, Blw.is (by repeat (first | exact Blw.refl _ | apply Blw.ext | apply Blw.alloc | apply Blw.drewN | apply Blw.drew | refine Blw.setCell ?_ _ _ (by simp)))⟩
end Go.Proofs.Ytigkfdoeneemeaa
/- Walks of slackwaterref03: same, trimmed, one, times, Check, both. -/
namespace Go.Proofs.Ytigkfdoeneemeaa
open Go.RowKit

theorem ret_bl {a b : Bool} (h : a = b) : Ending.returned (.bool a) = .returned (.bool b) := by rw [h]
set_option maxHeartbeats 1600000 in
theorem ref03Same_any (a b : Option Addr) (l m : List Nat) (c d : Nat) (w : World) (ha : Arr w a (u32s l)) (hb : Arr w b (u32s m)) (hl : l.length ≤ 1099511627776) (hm : m.length ≤ 1099511627776) :
    Calls Try.prog 157 #[.slice a l.length c, .slice b m.length d] w fun e w' => e = .returned (.bool (l == m)) ∧ ∃ x, w' = w.ext x := by
  by_cases hlm : l.length = m.length
  · have HLM := Lib.hid hlm
    have d1 : ((l.length : Int) != (m.length : Int)) = false := by simp; omega
    have d2 : ((l.length : Int) == (m.length : Int)) = true := by simp; omega
    clear hlm
    go_enter Try.func157, Try.ntmps157
    go_wp2
    clear d1 d2
    go_loopw [5] (fun i wr => ∃ k : Nat, k ≤ l.length ∧ i = .int .i64 k ∧ Blw w wr ∧ Hid (l.take k = m.take k)) (fun i _ => l.length - (intOf i).toNat)
    case atStart => exact ⟨0, Nat.zero_le _, rfl, Blw.refl _, rfl⟩
    case round =>
      obtain ⟨k, hk, rfl, hbw, htk⟩ := hrel
      have hlm := HLM.out
      by_cases hlt : k < l.length
      · obtain ⟨x, b1, o1, hd1, -, hgx, rfl, hb1, hc1⟩ := (ha.blw hbw).elem hlt
        obtain ⟨y, b2, o2, hd2, -, hgy, rfl, hb2, hc2⟩ := (hb.blw hbw).elem (show k < m.length by omega)
        have h0 : (0 : Int) ≤ (k : Int) := by omega
        have h1 : (k : Int) < (l.length : Int) := by omega
        have h2 : (k : Int) < (m.length : Int) := by omega
        have HX : Hid (l[k]? = some x) := hgx.out
        have HY : Hid (m[k]? = some y) := hgy.out
        clear hgx hgy hd1 hd2 hlm
        by_cases hxy : x = y
        · have HT : Hid (l.take (k + 1) = m.take (k + 1)) := by
            show _ = _
            rw [List.take_add_one, List.take_add_one, htk.out, HX.out, HY.out, hxy]
          subst hxy
          clear HX HY
          go_wp2_with fail
          go_quiet (fail)
          go_wp2
          go_roundw
          case rel => exact ⟨k + 1, by omega, by go_num, hbw.trans (by repeat (first | exact Blw.refl _ | apply Blw.ext | apply Blw.alloc | apply Blw.drewN | apply Blw.drew | refine Blw.setCell ?_ _ _ (by simp))), HT⟩
          case measure => simp [intOf]; omega
        · have HF : Hid ((l == m) = false) := by
            show _ = _
            simp only [beq_eq_false_iff_ne, ne_eq]
            intro e
            have := HX.out
            rw [e, HY.out] at this
            exact hxy (by injection this with this; exact this.symm)
          have q1 : ((x : Int) != (y : Int)) = true := by simp; omega
          have q2 : ((x : Int) == (y : Int)) = false := by simp; omega
          clear HX HY htk hxy
          go_wp2_with fail
          go_quiet (fail)
          go_wp2
          go_ret
          exact ⟨ret_bl HF.out.symm, Blw.is (hbw.trans (by repeat (first | exact Blw.refl _ | apply Blw.ext | apply Blw.alloc | apply Blw.drewN | apply Blw.drew | refine Blw.setCell ?_ _ _ (by simp))))⟩
      · have HF : Hid ((l == m) = true) := by
          show _ = _
          have := htk.out
          rw [List.take_of_length_le (by omega), List.take_of_length_le (by omega)] at this
          simpa using this
        clear htk hlm
        go_wp2
        go_ret
        exact ⟨ret_bl HF.out.symm, Blw.is hbw⟩
  · have HF : Hid ((l == m) = false) := by
      show _ = _
      simp only [beq_eq_false_iff_ne, ne_eq]
      intro e; exact hlm (by rw [e])
    have d1 : ((l.length : Int) != (m.length : Int)) = true := by simp; omega
    have d2 : ((l.length : Int) == (m.length : Int)) = false := by simp; omega
    clear hlm
    go_enter Try.func157, Try.ntmps157
    go_wp2
    go_ret
    exact ⟨ret_bl HF.out.symm, Blw.is (Blw.refl _)⟩


set_option maxHeartbeats 1000000 in
theorem refTrimmed_any (a : Option Addr) (l : List Nat) (c : Nat) (w : World) (h : Arr w a (u32s l)) (hl : l.length ≤ 9223372036854775807) :
    Calls Try.prog 155 #[.slice a l.length c] w fun e w' => e = .returned (.bool (decide (¬ l.getLast? = some 0))) ∧ w' = w := by
  by_cases h0 : l.length = 0
  · have e0 : l = [] := List.eq_nil_of_length_eq_zero h0
    subst e0
    go_enter Try.func155, Try.ntmps155
    go_wp2
    go_ret
    exact ⟨rfl, rfl⟩
  · obtain ⟨x, b, o, -, -, hx, rfl, hb, hc⟩ := h.elem (k := l.length - 1) (by omega)
    have hlast : Hid (l.getLast? = some x) := by show l.getLast? = some x; rw [List.getLast?_eq_getElem?]; exact hx.out
    have d1 : ((l.length : Int) == 0) = false := beq_false_of_ne (by omega)
    have i1 : ((l.length : Int) - 1).toNat = l.length - 1 := by omega
    have i2 : (0 : Int) ≤ (l.length : Int) - 1 := by omega
    have i3 : (1 : Int) ≤ (l.length : Int) := by omega
    clear h0 h
    by_cases hx0 : x = 0
    · have HE : Hid (decide (¬ l.getLast? = some 0) = false) := by show _ = _; rw [hlast.out, hx0]; rfl
      subst hx0
      clear hx hlast
      go_enter Try.func155, Try.ntmps155
      go_wp2
      go_ret
      exact ⟨ret_bl HE.out.symm, rfl⟩
    · have HE : Hid (decide (¬ l.getLast? = some 0) = true) := by show _ = _; rw [hlast.out]; simpa using hx0
      have d2 : ((x : Int) != 0) = true := by simp; omega
      have d3 : ((x : Int) == 0) = false := by simp; omega
      clear hx hlast hx0
      go_enter Try.func155, Try.ntmps155
      go_wp2
      go_ret
      exact ⟨ret_bl HE.out.symm, rfl⟩
set_option maxHeartbeats 1000000 in
theorem refOne_any (w : World) : Calls Try.prog 158 #[] w fun e w' => e = .returned (.slice (some ⟨w.heap.size, 0, none⟩) 1 1) ∧ w' = w.alloc (.cells (u32s [1]).toArray 135 (0, 0)) := by
  go_enter Try.func158, Try.ntmps158
  go_wp2
  go_ret
  exact ⟨rfl, rfl⟩
set_option maxHeartbeats 1000000 in
theorem refTimes3_any (a b : Option Addr) (l m : List Nat) (c d : Nat) (w : World) (h : Arr w a (u32s l)) (k : Arr w b (u32s m)) (wl : W.WF l) (wm : W.WF m) (nl : W.Nrm l) (nm : W.Nrm m) (hs : l.length + m.length ≤ 8192) :
    Calls Try.prog 195 #[.slice a l.length c, .slice b m.length d] w (RetW w (W.val l * W.val m)) := by
  have hm := refMul_ok a b l m c d w h k wl wm nl nm hs
  clear h k
  go_enter Try.func195, Try.ntmps195
  go_wp2_with fail
  refine Calls.mono hm ?_
  rintro e w1 ⟨a1, c1, rfl, hb, o1⟩
  clear hm
  go_wp2
  go_ret
  exact RetOwn.of o1 hb
end Go.Proofs.Ytigkfdoeneemeaa
/- The walk of slackwaterref03.Check, both. -/
namespace Go.Proofs.Ytigkfdoeneemeaa
open Go.RowKit

set_option maxRecDepth 100000 in
set_option maxHeartbeats 4000000 in
theorem refCheck3_any (r : Fr) (a : Option Addr) (c : Nat) (b : Option Addr) (d : Nat) (w : World) (h : FrA w r a c b d) :
    Calls Try.prog 130 #[frV r a c b d] w fun e w' => e = .returned (.int .i64 (chkF r)) ∧ ∃ x, w' = w.ext x := by
  obtain ⟨neg, num, den⟩ := r
  obtain ⟨an, ad, cn, cm, dn, dm, na, nb, wn, wd⟩ := h
  simp only at an ad cn dn na nb wn wd
  by_cases hA : 2048 < num.length
  · have f1 : decide ((2048 : Int) < (num.length : Int)) = true := by simp; omega
    have HE := Lib.hid (show chkF ⟨neg, num, den⟩ = 3 from if_pos (.inl hA))
    go_enter Try.func130, Try.ntmps130
    go_wp2_with fail
    go_ret
    exact ⟨ret_i64 HE.out.symm, Blw.is (by repeat (first | exact Blw.refl _ | apply Blw.ext | apply Blw.alloc | apply Blw.drewN | apply Blw.drew | refine Blw.setCell ?_ _ _ (by simp)))⟩
  by_cases hB : 2048 < den.length
  · have f1 : decide ((2048 : Int) < (num.length : Int)) = false := by simp; omega
    have f2 : decide ((2048 : Int) < (den.length : Int)) = true := by simp; omega
    have HE := Lib.hid (show chkF ⟨neg, num, den⟩ = 3 from if_pos (.inr hB))
    go_enter Try.func130, Try.ntmps130
    go_wp2_with fail
    go_ret
    exact ⟨ret_i64 HE.out.symm, Blw.is (by repeat (first | exact Blw.refl _ | apply Blw.ext | apply Blw.alloc | apply Blw.drewN | apply Blw.drew | refine Blw.setCell ?_ _ _ (by simp)))⟩
  have hAB : ¬ (2048 < num.length ∨ 2048 < den.length) := by omega
  have f1 : decide ((2048 : Int) < (num.length : Int)) = false := by simp; omega
  have f2 : decide ((2048 : Int) < (den.length : Int)) = false := by simp; omega
  have K1 := fun (W : World) (hb : Blw w W) => refTrimmed_any a num c W (an.blw hb) (by omega)
  have K2 := fun (W : World) (hb : Blw w W) => refTrimmed_any b den d W (ad.blw hb) (by omega)
  by_cases hC : num.getLast? = some 0
  · have HE := Lib.hid (show chkF ⟨neg, num, den⟩ = 11 by unfold chkF; rw [if_neg hAB, if_pos (.inl hC)])
    rw [decide_eq_false (show ¬ ¬ num.getLast? = some 0 from fun k => k hC)] at K1
    have H1 := Lib.hid K1
    clear K1 K2 hC hAB an ad
    go_enter Try.func130, Try.ntmps130
    go_wp2_with (go_at_call 155; (with_reducible refine Calls.mono (H1.out _ (by repeat (first | exact Blw.refl _ | apply Blw.ext | apply Blw.alloc | apply Blw.drewN | apply Blw.drew | refine Blw.setCell ?_ _ _ (by simp)))) ?_); rintro e w' ⟨rfl, rfl⟩)
    go_ret
    exact ⟨ret_i64 HE.out.symm, Blw.is (by repeat (first | exact Blw.refl _ | apply Blw.ext | apply Blw.alloc | apply Blw.drewN | apply Blw.drew | refine Blw.setCell ?_ _ _ (by simp)))⟩
  rw [decide_eq_true hC] at K1
  have H1 := Lib.hid K1
  clear K1
  by_cases hD : den.getLast? = some 0
  · have HE := Lib.hid (show chkF ⟨neg, num, den⟩ = 11 by unfold chkF; rw [if_neg hAB, if_pos (.inr (.inl hD))])
    rw [decide_eq_false (show ¬ ¬ den.getLast? = some 0 from fun k => k hD)] at K2
    have H2 := Lib.hid K2
    clear K2 hC hD hAB an ad
    go_enter Try.func130, Try.ntmps130
    go_wp2_with (go_at_call 155; (first | (with_reducible refine Calls.mono (H1.out _ (by repeat (first | exact Blw.refl _ | apply Blw.ext | apply Blw.alloc | apply Blw.drewN | apply Blw.drew | refine Blw.setCell ?_ _ _ (by simp)))) ?_) | (with_reducible refine Calls.mono (H2.out _ (by repeat (first | exact Blw.refl _ | apply Blw.ext | apply Blw.alloc | apply Blw.drewN | apply Blw.drew | refine Blw.setCell ?_ _ _ (by simp)))) ?_)); rintro e w' ⟨rfl, rfl⟩)
    go_ret
    exact ⟨ret_i64 HE.out.symm, Blw.is (by repeat (first | exact Blw.refl _ | apply Blw.ext | apply Blw.alloc | apply Blw.drewN | apply Blw.drew | refine Blw.setCell ?_ _ _ (by simp)))⟩
  rw [decide_eq_true hD] at K2
  have H2 := Lib.hid K2
  clear K2
  by_cases hE : den.length = 0
  · have HE := Lib.hid (show chkF ⟨neg, num, den⟩ = 11 by unfold chkF; rw [if_neg hAB, if_pos (.inr (.inr (.inl hE)))])
    have q1 : ((den.length : Int) == 0) = true := by rw [hE]; rfl
    clear hE hC hD hAB an ad
    go_enter Try.func130, Try.ntmps130
    go_wp2_with (go_at_call 155; (first | (with_reducible refine Calls.mono (H1.out _ (by repeat (first | exact Blw.refl _ | apply Blw.ext | apply Blw.alloc | apply Blw.drewN | apply Blw.drew | refine Blw.setCell ?_ _ _ (by simp)))) ?_) | (with_reducible refine Calls.mono (H2.out _ (by repeat (first | exact Blw.refl _ | apply Blw.ext | apply Blw.alloc | apply Blw.drewN | apply Blw.drew | refine Blw.setCell ?_ _ _ (by simp)))) ?_)); rintro e w' ⟨rfl, rfl⟩)
    go_ret
    exact ⟨ret_i64 HE.out.symm, Blw.is (by repeat (first | exact Blw.refl _ | apply Blw.ext | apply Blw.alloc | apply Blw.drewN | apply Blw.drew | refine Blw.setCell ?_ _ _ (by simp)))⟩
  have q1 : ((den.length : Int) == 0) = false := beq_false_of_ne (by omega)
  by_cases hF : num.length = 0 ∧ neg = true
  · have HE := Lib.hid (show chkF ⟨neg, num, den⟩ = 11 by unfold chkF; rw [if_neg hAB, if_pos (.inr (.inr (.inr (.inl hF))))])
    have q2 : ((num.length : Int) == 0) = true := by rw [hF.1]; rfl
    obtain ⟨-, rfl⟩ := hF
    clear hE hC hD hAB an ad
    go_enter Try.func130, Try.ntmps130
    go_wp2_with (go_at_call 155; (first | (with_reducible refine Calls.mono (H1.out _ (by repeat (first | exact Blw.refl _ | apply Blw.ext | apply Blw.alloc | apply Blw.drewN | apply Blw.drew | refine Blw.setCell ?_ _ _ (by simp)))) ?_) | (with_reducible refine Calls.mono (H2.out _ (by repeat (first | exact Blw.refl _ | apply Blw.ext | apply Blw.alloc | apply Blw.drewN | apply Blw.drew | refine Blw.setCell ?_ _ _ (by simp)))) ?_)); rintro e w' ⟨rfl, rfl⟩)
    go_ret
    exact ⟨ret_i64 HE.out.symm, Blw.is (by repeat (first | exact Blw.refl _ | apply Blw.ext | apply Blw.alloc | apply Blw.drewN | apply Blw.drew | refine Blw.setCell ?_ _ _ (by simp)))⟩
  have GC := fun (W : World) (hb : Blw w W) => refGcd_ok a b num den c d W (an.blw hb) (ad.blw hb) cn dn cm dm (fun e => (na e).2) (fun e => (nb e).2) wn wd hC hD (by omega) (by omega)
  obtain ⟨G, hG⟩ : ∃ G, Nat.gcd (W.val num) (W.val den) = G := ⟨_, rfl⟩
  rw [hG] at GC
  have HG := Lib.hid GC
  have HE := Lib.hid (show chkF ⟨neg, num, den⟩ = if G = 1 then 0 else 11 by
    unfold chkF
    rw [if_neg hAB]
    by_cases h1 : G = 1
    · rw [if_pos h1, if_neg]
      rintro (k | k | k | k | k)
      · exact hC k
      · exact hD k
      · exact hE k
      · exact hF k
      · exact k (hG.trans h1)
    · rw [if_neg h1, if_pos (.inr (.inr (.inr (.inr (fun k => h1 (hG.symm.trans k))))))])
  have hcase : (((num.length : Int) == 0) = true ∧ neg = false) ∨ ((num.length : Int) == 0) = false := by
    by_cases h0 : num.length = 0
    · left
      refine ⟨by rw [h0]; rfl, ?_⟩
      cases hn : neg
      · rfl
      · exact absurd ⟨h0, hn⟩ hF
    · right; exact beq_false_of_ne (by omega)
  have G8 : Hid ((W.toW G).length ≤ 2048 ∨ G = 0 ∨ True) := .inr (.inr trivial)
  clear G8
  have hgl := gcd_len wn wd (show num.length ≤ 8192 by omega) (show den.length ≤ 8192 by omega)
  rw [hG] at hgl
  have HGL := Lib.hid hgl
  clear GC hG hF hE hC hD hAB an ad hgl
  go_enter Try.func130, Try.ntmps130
  rcases hcase with ⟨q2, rfl⟩ | q2
  all_goals
    go_wp2_with (go_at_call 155; (first | (with_reducible refine Calls.mono (H1.out _ (by repeat (first | exact Blw.refl _ | apply Blw.ext | apply Blw.alloc | apply Blw.drewN | apply Blw.drew | refine Blw.setCell ?_ _ _ (by simp)))) ?_) | (with_reducible refine Calls.mono (H2.out _ (by repeat (first | exact Blw.refl _ | apply Blw.ext | apply Blw.alloc | apply Blw.drewN | apply Blw.drew | refine Blw.setCell ?_ _ _ (by simp)))) ?_)); rintro e w' ⟨rfl, rfl⟩)
    refine Calls.mono (HG.out _ (by repeat (first | exact Blw.refl _ | apply Blw.ext | apply Blw.alloc | apply Blw.drewN | apply Blw.drew | refine Blw.setCell ?_ _ _ (by simp)))) ?_
    rintro e w2 ⟨a3, c3, rfl, hb3, o3⟩
    have A3 := own_read o3
    have hb2 : Blw w w2 := ((Blw.refl w).alloc _).trans hb3
    clear o3 hb3 HG H1 H2
    go_wp2_with fail
    refine Calls.mono (refOne_any w2) ?_
    rintro e w3 ⟨rfl, rfl⟩
    have hsm : Calls Try.prog 157 #[.slice a3 (W.toW G).length c3, .slice (some ⟨w2.heap.size, 0, none⟩) 1 1] (w2.alloc (.cells (u32s [1]).toArray 135 (0, 0))) fun e w' => e = .returned (.bool (W.toW G == [1])) ∧ ∃ x, w' = (w2.alloc (.cells (u32s [1]).toArray 135 (0, 0))).ext x := ref03Same_any a3 (some ⟨w2.heap.size, 0, none⟩) (W.toW G) [1] c3 1 (w2.alloc (.cells (u32s [1]).toArray 135 (0, 0))) (A3.alloc _) (own_read (own_lit w2 [1] (by decide))) (by have := HGL.out; omega) (by decide)
    have hW1 : W.toW G = [1] ↔ G = 1 := ⟨fun e => by have := W.val_toW G; rw [e] at this; exact this.symm, fun e => by rw [e, W.toW_pos (by decide)]; simp [W.toW_zero]⟩
    have HSM := Lib.hid hsm
    clear hsm A3 HGL
    by_cases hg1 : G = 1
    · rw [if_pos hg1] at HE
      have hb : (W.toW G == [1]) = true := by rw [hW1.2 hg1]; rfl
      rw [hb] at HSM
      clear hg1 hb hW1
      go_wp2_with fail
      refine Calls.mono HSM.out ?_
      rintro e w4 ⟨rfl, x4, rfl⟩
      go_wp2
      go_ret
      exact ⟨ret_i64 HE.out.symm, Blw.is ((hb2.alloc _).ext _)⟩
    · rw [if_neg hg1] at HE
      have hb : (W.toW G == [1]) = false := by
        rw [beq_eq_false_iff_ne]
        exact fun e => hg1 (hW1.1 e)
      rw [hb] at HSM
      clear hg1 hb hW1
      go_wp2_with fail
      refine Calls.mono HSM.out ?_
      rintro e w4 ⟨rfl, x4, rfl⟩
      go_wp2
      go_ret
      exact ⟨ret_i64 HE.out.symm, Blw.is ((hb2.alloc _).ext _)⟩

set_option maxHeartbeats 1000000 in
theorem refBoth3_any (r s : Fr) (a : Option Addr) (c : Nat) (b : Option Addr) (d : Nat) (a' : Option Addr) (c' : Nat) (b' : Option Addr) (d' : Nat) (w : World) (h : FrA w r a c b d) (k : FrA w s a' c' b' d') :
    Calls Try.prog 179 #[frV r a c b d, frV s a' c' b' d'] w fun e w' => e = .returned (.int .i64 (chk2 r s)) ∧ ∃ x, w' = w.ext x := by
  have K1 := fun (W : World) (hb : Blw w W) => refCheck3_any r a c b d W (h.blw hb)
  have K2 := fun (W : World) (hb : Blw w W) => refCheck3_any s a' c' b' d' W (k.blw hb)
  have he : chk2 r s = if chkF r = 0 then chkF s else chkF r := rfl
  generalize chkF r = u at *
  generalize chkF s = v at *
  have HE := Lib.hid he
  clear he
  have H1 := Lib.hid K1
  have H2 := Lib.hid K2
  clear K1 K2 h k
  by_cases hu : u = 0
  · subst hu
    rw [if_pos rfl] at HE
    go_enter Try.func179, Try.ntmps179
    go_wp2_with fail
    refine Calls.mono (H1.out _ (by repeat (first | exact Blw.refl _ | apply Blw.ext | apply Blw.alloc | apply Blw.drewN | apply Blw.drew | refine Blw.setCell ?_ _ _ (by simp)))) ?_
    rintro e w1 ⟨rfl, x1, rfl⟩
    go_wp2_with fail
    refine Calls.mono (H2.out _ (by repeat (first | exact Blw.refl _ | apply Blw.ext | apply Blw.alloc | apply Blw.drewN | apply Blw.drew | refine Blw.setCell ?_ _ _ (by simp)))) ?_
    rintro e w1 ⟨rfl, x2, rfl⟩
    go_wp2
    go_ret
    exact ⟨ret_i64 HE.out.symm, Blw.is (by repeat (first | exact Blw.refl _ | apply Blw.ext | apply Blw.alloc | apply Blw.drewN | apply Blw.drew | refine Blw.setCell ?_ _ _ (by simp)))⟩
  · rw [if_neg hu] at HE
    have q : (u == 0) = false := by simpa using hu
    go_enter Try.func179, Try.ntmps179
    go_wp2_with fail
    refine Calls.mono (H1.out _ (by repeat (first | exact Blw.refl _ | apply Blw.ext | apply Blw.alloc | apply Blw.drewN | apply Blw.drew | refine Blw.setCell ?_ _ _ (by simp)))) ?_
    rintro e w1 ⟨rfl, x1, rfl⟩
    go_wp2
    go_ret
    exact ⟨ret_i64 HE.out.symm, Blw.is (by repeat (first | exact Blw.refl _ | apply Blw.ext | apply Blw.alloc | apply Blw.drewN | apply Blw.drew | refine Blw.setCell ?_ _ _ (by simp)))⟩
end Go.Proofs.Ytigkfdoeneemeaa
/- The walk of slackwaterref03.Signed. -/
namespace Go.Proofs.Ytigkfdoeneemeaa
open Go.RowKit

/-- Two whole numbers with their signs, added. -/
def sgnF (s : Bool) (X : Nat) (t : Bool) (Y : Nat) : Bool × Nat := if s = t then (s, X + Y) else if X < Y then (t, Y - X) else (s && decide (0 < X - Y), X - Y)

/-- A sign and a number of the call's own. -/
def RetSg (w : World) (z : Bool × Nat) (e : Ending) (w' : World) : Prop :=
  ∃ (a : Option Addr) (c : Nat), e = .returned (.tuple #[.bool z.1, .slice a (W.toW z.2).length c]) ∧ Blw w w' ∧ w'.ownsRow w.heap.size 135 1 (.slice a (W.toW z.2).length c) (W.toW z.2).length (u32s (W.toW z.2))

set_option maxRecDepth 100000 in
set_option maxHeartbeats 2000000 in
theorem refSigned_any (s t : Bool) (X Y : Nat) (p1 : Option Addr) (q1 : Nat) (p2 : Option Addr) (q2 : Nat) (w : World) (h : Arr w p1 (u32s (W.toW X))) (k : Arr w p2 (u32s (W.toW Y))) (hl : (W.toW X).length ≤ 8191) (hm : (W.toW Y).length ≤ 8191) :
    Calls Try.prog 194 #[.bool s, .slice p1 (W.toW X).length q1, .bool t, .slice p2 (W.toW Y).length q2] w (RetSg w (sgnF s X t Y)) := by
  have hadd := refAdd_ok p1 p2 (W.toW X) (W.toW Y) q1 q2 w h k (W.wf_toW X) (W.wf_toW Y) (W.nrm_toW X) (W.nrm_toW Y) hl hm
  have hcmp := refCompare_any p1 p2 (W.toW X) (W.toW Y) q1 q2 w h k (W.wf_toW X) (W.wf_toW Y) (by omega) (by omega)
  have hsub1 := fun (hle : W.val (W.toW Y) ≤ W.val (W.toW X)) => refSub_ok p1 p2 (W.toW X) (W.toW Y) q1 q2 w h k (W.wf_toW X) (W.wf_toW Y) (W.nrm_toW X) (W.nrm_toW Y) (by omega) (by omega) hle
  have hsub2 := fun (hle : W.val (W.toW X) ≤ W.val (W.toW Y)) => refSub_ok p2 p1 (W.toW Y) (W.toW X) q2 q1 w k h (W.wf_toW Y) (W.wf_toW X) (W.nrm_toW Y) (W.nrm_toW X) (by omega) (by omega) hle
  simp only [W.val_toW] at hadd hcmp hsub1 hsub2
  by_cases hst : s = t
  · subst hst
    have HE : Hid (sgnF s X s Y = (s, X + Y)) := by show _ = _; unfold sgnF; rw [if_pos rfl]
    have HA := Lib.hid hadd
    have d1 : (s == s) = true := by simp
    clear hadd hcmp hsub1 hsub2 h k
    go_enter Try.func194, Try.ntmps194
    go_wp2_with fail
    refine Calls.mono HA.out ?_
    rintro e w1 ⟨a1, c1, rfl, hb, o1⟩
    go_wp2
    go_ret2
    rw [HE.out]
    exact ⟨a1, c1, rfl, hb, o1⟩
  · have d1 : (s == t) = false := by simpa using hst
    by_cases hlt : X < Y
    · have HE : Hid (sgnF s X t Y = (t, Y - X)) := by show _ = _; unfold sgnF; rw [if_neg hst, if_pos hlt]
      have d2 : decide (W.cmpN X Y < 0) = true := by rw [cmp_lt]; simpa using hlt
      have HS := Lib.hid (hsub2 (by omega))
      have HC := Lib.hid hcmp
      clear hadd hcmp hsub1 hsub2 h k hst hlt
      go_enter Try.func194, Try.ntmps194
      go_wp2_with fail
      refine Calls.mono HC.out ?_
      rintro e w' ⟨rfl, rfl⟩
      go_wp2_with fail
      refine Calls.mono HS.out ?_
      rintro e w1 ⟨a1, c1, rfl, hb, o1⟩
      go_wp2
      go_ret2
      rw [HE.out]
      exact ⟨a1, c1, rfl, hb, o1⟩
    · have HE : Hid (sgnF s X t Y = (s && decide (0 < X - Y), X - Y)) := by show _ = _; unfold sgnF; rw [if_neg hst, if_neg hlt]
      have d2 : decide (W.cmpN X Y < 0) = false := by rw [cmp_lt]; simpa using hlt
      have HS := Lib.hid (hsub1 (by omega))
      have HC := Lib.hid hcmp
      have hz : decide (0 < X - Y) = decide (0 < (W.toW (X - Y)).length) := by
        by_cases h0 : X - Y = 0
        · rw [h0, W.toW_zero]; rfl
        · rw [decide_eq_true (by omega), decide_eq_true]
          exact List.length_pos_iff.2 (W.toW_ne h0)
      rw [hz] at HE
      have HL := sub_len (l := W.toW X) (m := W.toW Y) (W.wf_toW X) (by omega)
      rw [W.val_toW, W.val_toW] at HL
      generalize X - Y = Z at *
      clear hadd hcmp hsub1 hsub2 h k hst hlt hz
      cases s
      all_goals
        go_enter Try.func194, Try.ntmps194
        go_wp2_with fail
        refine Calls.mono HC.out ?_
        rintro e w' ⟨rfl, rfl⟩
        go_wp2_with fail
        refine Calls.mono HS.out ?_
        rintro e w1 ⟨a1, c1, rfl, hb, o1⟩
        go_wp2
        go_ret2
        rw [HE.out]
        exact ⟨a1, c1, rfl, hb, o1⟩
end Go.Proofs.Ytigkfdoeneemeaa
/- Fractions made: lowest, size, Small, copied, turned, Neg, walked. -/
namespace Go.Proofs.Ytigkfdoeneemeaa
open Go.RowKit

/-- A fraction of the call's own, and an error. -/
def RetFr (w : World) (r : Fr) (er : Int) (e : Ending) (w' : World) : Prop :=
  ∃ (a : Option Addr) (c : Nat) (b : Option Addr) (d : Nat), e = .returned (.tuple #[frV r a c b d, .int .i64 er]) ∧ Blw w w' ∧ w'.ownsRow w.heap.size 135 1 (.slice a r.num.length c) r.num.length (u32s r.num) ∧ w'.ownsRow w.heap.size 135 1 (.slice b r.den.length d) r.den.length (u32s r.den)
theorem FrA.own {w : World} {B : Nat} {r : Fr} {a : Option Addr} {c : Nat} {b : Option Addr} {d : Nat} (h : w.ownsRow B 135 1 (.slice a r.num.length c) r.num.length (u32s r.num)) (k : w.ownsRow B 135 1 (.slice b r.den.length d) r.den.length (u32s r.den)) (wn : W.WF r.num) (wd : W.WF r.den) : FrA w r a c b d := by
  obtain ⟨a', c', e, h1, h2, h3, h4, h5⟩ := own_arr h
  cases e
  obtain ⟨b', d', e, k1, k2, k3, k4, k5⟩ := own_arr k
  cases e
  exact ⟨h1, k1, h3, h4, k3, k4, h5, k5, wn, wd⟩

/-- A block of three cells, written anew. -/
theorem three {w : World} {g : Nat} {v0 v1 v2 : Value} {t : TypeId} (h : w.heap[g]? = some (.cells #[v0, v1, v2] t (0, 0))) (u0 u1 u2 : Value) :
    (∀ i, w.frozen? ⟨g, i, none⟩ = false) ∧ w.cell? ⟨g, 0, none⟩ = some v0 ∧ w.cell? ⟨g, 1, none⟩ = some v1 ∧ w.cell? ⟨g, 2, none⟩ = some v2 ∧
    (w.setCell ⟨g, 0, none⟩ u0).cell? ⟨g, 0, none⟩ = some u0 ∧ ((w.setCell ⟨g, 0, none⟩ u0).setCell ⟨g, 1, none⟩ u1).cell? ⟨g, 1, none⟩ = some u1 ∧ (((w.setCell ⟨g, 0, none⟩ u0).setCell ⟨g, 1, none⟩ u1).setCell ⟨g, 2, none⟩ u2).cell? ⟨g, 2, none⟩ = some u2 :=
  ⟨fun i => frozen_of_row w g i _ _ h, (cell_of_row w g 0 _ _ _ h).trans rfl, (cell_of_row w g 1 _ _ _ h).trans rfl, (cell_of_row w g 2 _ _ _ h).trans rfl, (cell_of_row _ g 0 _ _ _ (at_set 0 u0 h)).trans (by simp), (cell_of_row _ g 1 _ _ _ (at_set 1 u1 (at_set 0 u0 h))).trans (by simp), (cell_of_row _ g 2 _ _ _ (at_set 2 u2 (at_set 1 u1 (at_set 0 u0 h)))).trans (by simp)⟩
theorem blw_three {w w' : World} {g : Nat} (h : Blw w w') (hg : w.heap.size ≤ g) (u0 u1 u2 : Value) : Blw w (((w'.setCell ⟨g, 0, none⟩ u0).setCell ⟨g, 1, none⟩ u1).setCell ⟨g, 2, none⟩ u2) :=
  ((h.setCell _ _ hg).setCell _ _ hg).setCell _ _ hg
theorem own_three {w : World} {B g : Nat} {e : TypeId} {size n : Nat} {v : Value} {cs : List Value} (h : w.ownsRow B e size v n cs) (hg : g < B) (u0 u1 u2 : Value) : (((w.setCell ⟨g, 0, none⟩ u0).setCell ⟨g, 1, none⟩ u1).setCell ⟨g, 2, none⟩ u2).ownsRow B e size v n cs :=
  KeptO.own (O := fun k => k = g) (((KeptO.setCell (KeptO.refl (O := fun k => k = g) w) ⟨g, 0, none⟩ u0 (.inl rfl)).setCell ⟨g, 1, none⟩ u1 (.inl rfl)).setCell ⟨g, 2, none⟩ u2 (.inl rfl)) h (fun k hk e => by have := (World.ownsRow.lt h k hk).1; omega)

set_option maxRecDepth 100000 in
set_option maxHeartbeats 4000000 in
theorem ratioLowest_any (neg : Bool) (a b : Option Addr) (l m : List Nat) (c d : Nat) (w : World) (h : Arr w a (u32s l)) (k : Arr w b (u32s m)) (hc : l.length ≤ c) (hd : m.length ≤ d) (hcm : c ≤ 9223372036854775807) (hdm : d ≤ 9223372036854775807) (ha : a = none → l.length = 0 ∧ c = 0) (hb : b = none → m.length = 0 ∧ d = 0)
    (wl : W.WF l) (wm : W.WF m) (nl : W.Nrm l) (nm : W.Nrm m) (hl : l.length ≤ 8192) (hm : m.length ≤ 8192) (hm0 : 0 < m.length) (hX : W.val l / Nat.gcd (W.val l) (W.val m) < W.pw 2048) (hY : W.val m / Nat.gcd (W.val l) (W.val m) < W.pw 2048) :
    Calls Try.prog 166 #[.bool neg, .slice a l.length c, .slice b m.length d] w (RetFr w ⟨neg && decide (0 < (W.toW (W.val l / Nat.gcd (W.val l) (W.val m))).length), W.toW (W.val l / Nat.gcd (W.val l) (W.val m)), W.toW (W.val m / Nat.gcd (W.val l) (W.val m))⟩ 0) := by
  have GC := fun (W : World) (hb' : Blw w W) => natGcd_any a b l m c d W (h.blw hb') (k.blw hb') ha hb wl wm nl nm hl hm
  have vm : 0 < W.val m := W.val_pos nm (by intro e; rw [e] at hm0; simp at hm0)
  obtain ⟨G, hG⟩ : ∃ G, Nat.gcd (W.val l) (W.val m) = G := ⟨_, rfl⟩
  have G0 : 0 < G := by rw [← hG]; exact Nat.gcd_pos_of_pos_right _ vm
  have GB : G ≤ W.val m := by rw [← hG]; exact Nat.gcd_le_right _ vm
  have gl : (W.toW G).length ≤ 8192 := by
    refine Nat.le_trans ?_ hm
    have := W.len_toW_le.2 (Nat.lt_of_le_of_lt GB (W.val_lt wm))
    exact this
  have g0 : 0 < (W.toW G).length := by
    rcases Nat.eq_zero_or_pos (W.toW G).length with e | e
    · have := W.toW_nil.1 (List.eq_nil_of_length_eq_zero e); omega
    · exact e
  rw [hG] at hX hY GC ⊢
  have lX := W.len_toW_le.2 hX
  have lY := W.len_toW_le.2 hY
  have D1 := fun (W' : World) (hb' : Blw w W') (a3 : Option Addr) (c3 : Nat) (o3 : Arr W' a3 (u32s (W.toW G))) (k3 : (W.toW G).length ≤ c3) (k4 : c3 ≤ 9223372036854775807) => natDivMod_any a a3 l (W.toW G) c c3 W' (h.blw hb') o3 hc k3 hcm k4 ha wl (W.wf_toW G) nl (W.nrm_toW G) hl g0 gl
  have D2 := fun (W' : World) (hb' : Blw w W') (a3 : Option Addr) (c3 : Nat) (o3 : Arr W' a3 (u32s (W.toW G))) (k3 : (W.toW G).length ≤ c3) (k4 : c3 ≤ 9223372036854775807) => natDivMod_any b a3 m (W.toW G) d c3 W' (k.blw hb') o3 hd k3 hdm k4 hb wm (W.wf_toW G) nm (W.nrm_toW G) hm g0 gl
  simp only [W.val_toW] at D1 D2
  generalize W.val l / G = X at *
  generalize W.val m / G = Y at *
  generalize W.val l % G = X2 at *
  generalize W.val m % G = Y2 at *
  have HG := Lib.hid GC
  have HD1 := Lib.hid D1
  have HD2 := Lib.hid D2
  clear GC D1 D2 hG GB G0 vm h k hX hY
  have f1 : decide ((2048 : Int) < ((W.toW X).length : Int)) = false := by simp; omega
  have f2 : decide ((2048 : Int) < ((W.toW Y).length : Int)) = false := by simp; omega
  have hF0 : (w.alloc (.cells #[.bool false, .slice none 0 0, .slice none 0 0] 88)).heap[w.heap.size]? = some (.cells #[.bool false, .slice none 0 0, .slice none 0 0] 88 (0, 0)) := heap_alloc_new _ _
  go_enter Try.func166, Try.ntmps166
  go_wp2_with fail
  refine Calls.mono (HG.out _ (by repeat (first | exact Blw.refl _ | apply Blw.ext | apply Blw.alloc | apply Blw.drewN | apply Blw.drew | refine Blw.setCell ?_ _ _ (by simp)))) ?_
  rintro e w2 ⟨a3, c3, rfl, hb2, o3⟩
  obtain ⟨a4, c4, he, k1, k2, k3, k4, k5⟩ := own_arr o3
  cases he
  have hbw2 : Blw w w2 := ((Blw.refl w).alloc _).trans hb2
  have hF2 := (KeptO.of_blw (O := fun _ => False) hb2).heap hF0 id
  clear o3 k2 k5 hF0
  go_wp2_with fail
  refine Calls.mono (HD1.out w2 hbw2 a3 c3 k1 k3 k4) ?_
  rintro e w3 ⟨p1, q1, p2, q2, rfl, hb3, oX, -⟩
  have hF3 := (KeptO.of_blw (O := fun _ => False) hb3).heap hF2 id
  go_wp2_with fail
  refine Calls.mono (HD2.out w3 (hbw2.trans hb3) a3 c3 (k1.blw hb3) k3 k4) ?_
  rintro e w4 ⟨p3, q3, p4, q4, rfl, hb4, oY, -⟩
  have hF4 := (KeptO.of_blw (O := fun _ => False) hb4).heap hF3 id
  have oX4 := ownsRow_mono (ownsRow_blw oX hb4) (show w.heap.size + 1 ≤ w2.heap.size from Nat.le_trans (by simp) hb2.size)
  have oY4 := ownsRow_mono oY (show w.heap.size + 1 ≤ w3.heap.size from Nat.le_trans (Nat.le_trans (by simp) hb2.size) hb3.size)
  have hbw4 := (hbw2.trans hb3).trans hb4
  have l1 : (W.toW X).length ≤ 9223372036854775807 := by omega
  have l2 : (W.toW Y).length ≤ 9223372036854775807 := by omega
  clear hF2 hF3 oX oY hb4 hb3 hb2 hbw2 k1
  cases neg
  · obtain ⟨hfz, d0, d1, d2, r0, r1, r2⟩ := three hF4 (.bool false) (.slice p1 (W.toW X).length q1) (.slice p3 (W.toW Y).length q3)
    go_wp2_with (go_at_call 151; refine (ratioLong_any _ _ _ _ (by omega)).mono ?_; rintro e w' ⟨rfl, h9⟩; subst h9)
    exact bodyPost_ret (v := .tuple #[.agg #[.bool false, .slice p1 (W.toW X).length q1, .slice p3 (W.toW Y).length q3], .int .i64 0]) (by simp [results, Try.results166, go_sem, r0, r1, r2]) rfl ⟨p1, q1, p3, q3, rfl, blw_three hbw4 (Nat.le_refl _) _ _ _, own_three (ownsRow_mono oX4 (Nat.le_refl _)) (Nat.lt_succ_self _) _ _ _ |> (ownsRow_mono · (Nat.le_succ _)), own_three oY4 (Nat.lt_succ_self _) _ _ _ |> (ownsRow_mono · (Nat.le_succ _))⟩
  · obtain ⟨hfz, d0, d1, d2, r0, r1, r2⟩ := three hF4 (.bool (decide (0 < (W.toW X).length))) (.slice p1 (W.toW X).length q1) (.slice p3 (W.toW Y).length q3)
    go_wp2_with (go_at_call 151; refine (ratioLong_any _ _ _ _ (by omega)).mono ?_; rintro e w' ⟨rfl, h9⟩; subst h9)
    exact bodyPost_ret (v := .tuple #[.agg #[.bool (decide (0 < (W.toW X).length)), .slice p1 (W.toW X).length q1, .slice p3 (W.toW Y).length q3], .int .i64 0]) (by simp [results, Try.results166, go_sem, r0, r1, r2]) rfl ⟨p1, q1, p3, q3, rfl, blw_three hbw4 (Nat.le_refl _) _ _ _, own_three oX4 (Nat.lt_succ_self _) _ _ _ |> (ownsRow_mono · (Nat.le_succ _)), own_three oY4 (Nat.lt_succ_self _) _ _ _ |> (ownsRow_mono · (Nat.le_succ _))⟩

set_option maxHeartbeats 400000 in
theorem ratioSize_any (n : Int) (w : World) (h0 : -9223372036854775808 ≤ n) (h1 : n ≤ 9223372036854775807) :
    Calls Try.prog 167 #[.int .i64 n] w (RetW w n.natAbs) := by
  have hO := natOf_any n.natAbs w (by omega)
  have e1 : IntKind.u64.wrap (-(IntKind.u64.wrap n)) = if n < 0 then (n.natAbs : Int) else IntKind.u64.wrap (-(IntKind.u64.wrap n)) := by
    split
    · rw [IntKind.wrap_u64, IntKind.wrap_u64]; omega
    · rfl
  go_enter Try.func167, Try.ntmps167
  by_cases hn : n < 0
  · rw [if_pos hn] at e1
    have e2 : (-(n % 18446744073709551616)) % 18446744073709551616 = (n.natAbs : Int) := by omega
    have e3 : (-n) % 18446744073709551616 = (n.natAbs : Int) := by omega
    go_wp2_with fail
    refine Calls.mono hO ?_
    rintro e w1 ⟨a1, c1, x1, rfl, rfl, o1, -, -⟩
    clear hO
    go_wp2
    go_ret
    exact RetOwn.of o1 (by repeat (first | exact Blw.refl _ | apply Blw.ext | apply Blw.alloc | apply Blw.drewN | apply Blw.drew | refine Blw.setCell ?_ _ _ (by simp)))
  · have e2 : n % 18446744073709551616 = (n.natAbs : Int) := by omega
    have e4 : IntKind.u64.wrap n = (n.natAbs : Int) := by rw [IntKind.wrap_u64]; omega
    go_wp2_with fail
    refine Calls.mono hO ?_
    rintro e w1 ⟨a1, c1, x1, rfl, rfl, o1, -, -⟩
    clear hO
    go_wp2
    go_ret
    exact RetOwn.of o1 (by repeat (first | exact Blw.refl _ | apply Blw.ext | apply Blw.alloc | apply Blw.drewN | apply Blw.drew | refine Blw.setCell ?_ _ _ (by simp)))

theorem pw_mono_any (a b : Nat) (h : a ≤ b) : W.pw a ≤ W.pw b := Nat.pow_le_pow_right (by decide) (by first | exact h | omega)
theorem u64_lt_pw {x : Nat} (h : x < 18446744073709551616) : x < W.pw 2048 :=
  Nat.lt_of_lt_of_le (show x < W.pw 2 by have : W.pw 2 = 18446744073709551616 := by decide
                                         omega) (pw_mono_any 2 2048 (by decide))

/-- n over d in its one form. -/
def smallF (n d : Int) : Fr :=
  ⟨(decide (n < 0) != decide (d < 0)) && decide (0 < (W.toW (n.natAbs / Nat.gcd n.natAbs d.natAbs)).length), W.toW (n.natAbs / Nat.gcd n.natAbs d.natAbs), W.toW (d.natAbs / Nat.gcd n.natAbs d.natAbs)⟩

theorem smallF_same {n d : Int} (h : decide (n < 0) = decide (d < 0)) : smallF n d = ⟨false, W.toW (n.natAbs / Nat.gcd n.natAbs d.natAbs), W.toW (d.natAbs / Nat.gcd n.natAbs d.natAbs)⟩ := by
  unfold smallF; rw [h]; simp
theorem smallF_diff {n d : Int} (h : decide (n < 0) = !decide (d < 0)) : smallF n d = ⟨decide (0 < (W.toW (n.natAbs / Nat.gcd n.natAbs d.natAbs)).length), W.toW (n.natAbs / Nat.gcd n.natAbs d.natAbs), W.toW (d.natAbs / Nat.gcd n.natAbs d.natAbs)⟩ := by
  unfold smallF; rw [h]; simp

set_option maxRecDepth 100000 in
set_option maxHeartbeats 4000000 in
theorem ratioSmall_any (n d : Int) (w : World) (n0 : -9223372036854775808 ≤ n) (n1 : n ≤ 9223372036854775807) (d0 : -9223372036854775808 ≤ d) (d1 : d ≤ 9223372036854775807) (hd : d ≠ 0) :
    Calls Try.prog 141 #[.int .i64 n, .int .i64 d] w (RetFr w (smallF n d) 0) := by
  have L := fun (neg : Bool) (a : Option Addr) (c : Nat) (b : Option Addr) (e : Nat) (W' : World) (h : Arr W' a (u32s (W.toW n.natAbs))) (k : Arr W' b (u32s (W.toW d.natAbs))) (hc : (W.toW n.natAbs).length ≤ c) (hcm : c ≤ 9223372036854775807) (ha : a = none → (W.toW n.natAbs).length = 0 ∧ c = 0) (he : (W.toW d.natAbs).length ≤ e) (hem : e ≤ 9223372036854775807) (hb : b = none → (W.toW d.natAbs).length = 0 ∧ e = 0) =>
    ratioLowest_any neg a b (W.toW n.natAbs) (W.toW d.natAbs) c e W' h k hc he hcm hem ha hb (W.wf_toW _) (W.wf_toW _) (W.nrm_toW _) (W.nrm_toW _)
      (Nat.le_trans (W.len_toW_le.2 (u64_lt_pw (by omega))) (by decide)) (Nat.le_trans (W.len_toW_le.2 (u64_lt_pw (by omega))) (by decide))
      (by
        rcases Nat.eq_zero_or_pos (W.toW d.natAbs).length with e | e
        · have := W.toW_nil.1 (List.eq_nil_of_length_eq_zero e); omega
        · exact e)
      (by rw [W.val_toW, W.val_toW]; exact u64_lt_pw (Nat.lt_of_le_of_lt (Nat.div_le_self _ _) (by omega)))
      (by rw [W.val_toW, W.val_toW]; exact u64_lt_pw (Nat.lt_of_le_of_lt (Nat.div_le_self _ _) (by omega)))
  simp only [W.val_toW] at L
  have HL := Lib.hid L
  clear L
  have q : (d == 0) = false := by simpa using hd
  have hF0 : (w.alloc (.cells #[.bool false, .slice none 0 0, .slice none 0 0] 88)).heap[w.heap.size]? = some (.cells #[.bool false, .slice none 0 0, .slice none 0 0] 88 (0, 0)) := heap_alloc_new _ _
  have hcs : (decide (n < 0) = false ∧ decide (d < 0) = false) ∨ (decide (n < 0) = true ∧ decide (d < 0) = true) ∨ (decide (n < 0) = false ∧ decide (d < 0) = true) ∨ (decide (n < 0) = true ∧ decide (d < 0) = false) := by
    cases decide (n < 0) <;> cases decide (d < 0) <;> simp
  rcases hcs with ⟨hn, hdd⟩ | ⟨hn, hdd⟩ | ⟨hn, hdd⟩ | ⟨hn, hdd⟩
  · go_enter Try.func141, Try.ntmps141
    go_wp2_with fail
    refine Calls.mono (ratioSize_any n _ n0 n1) ?_
    rintro e w1 ⟨a1, c1, x1, rfl, rfl, o1, -, -⟩
    go_wp2_with fail
    refine Calls.mono (ratioSize_any d _ d0 d1) ?_
    rintro e w1 ⟨a2, c2, x2, rfl, rfl, o2, -, -⟩
    obtain ⟨_, _, he, A1, -, k1, k2, k3⟩ := own_arr o1
    cases he
    obtain ⟨_, _, he, A2, -, j1, j2, j3⟩ := own_arr o2
    cases he
    go_wp2_with fail
    refine Calls.mono (HL.out _ a1 c1 a2 c2 _ (A1.ext x2) A2 k1 k2 k3 j1 j2 j3) ?_
    rintro e w5 ⟨p1, q1, p2, q2, rfl, hb5, oX, oY⟩
    have hF5 := (KeptO.of_blw (O := fun _ => False) ((((Blw.refl _).ext x1).ext x2).trans hb5)).heap hF0 id
    have hs5 : w.heap.size + 1 ≤ (((w.alloc (.cells #[.bool false, .slice none 0 0, .slice none 0 0] 88)).ext x1).ext x2).heap.size := Nat.le_trans (by simp) (Blw.size (((Blw.refl _).ext x1).ext x2))
    have hbw5 : Blw w w5 := Blw.trans (by repeat (first | exact Blw.refl _ | apply Blw.ext | apply Blw.alloc | apply Blw.drewN | apply Blw.drew | refine Blw.setCell ?_ _ _ (by simp))) hb5
    have oX5 := ownsRow_mono oX hs5
    have oY5 := ownsRow_mono oY hs5
    clear oX oY o1 o2 hb5 hs5 A1 A2 k3 j3 HL
    simp only at oX5 oY5
    obtain ⟨hfz, e0, e1, e2, r0, r1, r2⟩ := three hF5 (.bool (false)) (.slice p1 (W.toW (n.natAbs / Nat.gcd n.natAbs d.natAbs)).length q1) (.slice p2 (W.toW (d.natAbs / Nat.gcd n.natAbs d.natAbs)).length q2)
    have HSM := Lib.hid (smallF_same (n := n) (d := d) (by rw [hn, hdd]))
    generalize W.toW (n.natAbs / Nat.gcd n.natAbs d.natAbs) = nw at *
    generalize W.toW (d.natAbs / Nat.gcd n.natAbs d.natAbs) = dw at *
    go_wp2_with fail
    refine bodyPost_ret (v := .tuple #[.agg #[.bool (false), .slice p1 nw.length q1, .slice p2 dw.length q2], .int .i64 0]) (by simp [results, Try.results141, go_sem, r0, r1, r2]) rfl ?_
    rw [HSM.out]
    exact ⟨p1, q1, p2, q2, rfl, blw_three hbw5 (Nat.le_refl _) _ _ _, own_three oX5 (Nat.lt_succ_self _) _ _ _ |> (ownsRow_mono · (Nat.le_succ _)), own_three oY5 (Nat.lt_succ_self _) _ _ _ |> (ownsRow_mono · (Nat.le_succ _))⟩
  · go_enter Try.func141, Try.ntmps141
    go_wp2_with fail
    refine Calls.mono (ratioSize_any n _ n0 n1) ?_
    rintro e w1 ⟨a1, c1, x1, rfl, rfl, o1, -, -⟩
    go_wp2_with fail
    refine Calls.mono (ratioSize_any d _ d0 d1) ?_
    rintro e w1 ⟨a2, c2, x2, rfl, rfl, o2, -, -⟩
    obtain ⟨_, _, he, A1, -, k1, k2, k3⟩ := own_arr o1
    cases he
    obtain ⟨_, _, he, A2, -, j1, j2, j3⟩ := own_arr o2
    cases he
    go_wp2_with fail
    refine Calls.mono (HL.out _ a1 c1 a2 c2 _ (A1.ext x2) A2 k1 k2 k3 j1 j2 j3) ?_
    rintro e w5 ⟨p1, q1, p2, q2, rfl, hb5, oX, oY⟩
    have hF5 := (KeptO.of_blw (O := fun _ => False) ((((Blw.refl _).ext x1).ext x2).trans hb5)).heap hF0 id
    have hs5 : w.heap.size + 1 ≤ (((w.alloc (.cells #[.bool false, .slice none 0 0, .slice none 0 0] 88)).ext x1).ext x2).heap.size := Nat.le_trans (by simp) (Blw.size (((Blw.refl _).ext x1).ext x2))
    have hbw5 : Blw w w5 := Blw.trans (by repeat (first | exact Blw.refl _ | apply Blw.ext | apply Blw.alloc | apply Blw.drewN | apply Blw.drew | refine Blw.setCell ?_ _ _ (by simp))) hb5
    have oX5 := ownsRow_mono oX hs5
    have oY5 := ownsRow_mono oY hs5
    clear oX oY o1 o2 hb5 hs5 A1 A2 k3 j3 HL
    simp only at oX5 oY5
    obtain ⟨hfz, e0, e1, e2, r0, r1, r2⟩ := three hF5 (.bool (false)) (.slice p1 (W.toW (n.natAbs / Nat.gcd n.natAbs d.natAbs)).length q1) (.slice p2 (W.toW (d.natAbs / Nat.gcd n.natAbs d.natAbs)).length q2)
    have HSM := Lib.hid (smallF_same (n := n) (d := d) (by rw [hn, hdd]))
    generalize W.toW (n.natAbs / Nat.gcd n.natAbs d.natAbs) = nw at *
    generalize W.toW (d.natAbs / Nat.gcd n.natAbs d.natAbs) = dw at *
    go_wp2_with fail
    refine bodyPost_ret (v := .tuple #[.agg #[.bool (false), .slice p1 nw.length q1, .slice p2 dw.length q2], .int .i64 0]) (by simp [results, Try.results141, go_sem, r0, r1, r2]) rfl ?_
    rw [HSM.out]
    exact ⟨p1, q1, p2, q2, rfl, blw_three hbw5 (Nat.le_refl _) _ _ _, own_three oX5 (Nat.lt_succ_self _) _ _ _ |> (ownsRow_mono · (Nat.le_succ _)), own_three oY5 (Nat.lt_succ_self _) _ _ _ |> (ownsRow_mono · (Nat.le_succ _))⟩
  · go_enter Try.func141, Try.ntmps141
    go_wp2_with fail
    refine Calls.mono (ratioSize_any n _ n0 n1) ?_
    rintro e w1 ⟨a1, c1, x1, rfl, rfl, o1, -, -⟩
    go_wp2_with fail
    refine Calls.mono (ratioSize_any d _ d0 d1) ?_
    rintro e w1 ⟨a2, c2, x2, rfl, rfl, o2, -, -⟩
    obtain ⟨_, _, he, A1, -, k1, k2, k3⟩ := own_arr o1
    cases he
    obtain ⟨_, _, he, A2, -, j1, j2, j3⟩ := own_arr o2
    cases he
    go_wp2_with fail
    refine Calls.mono (HL.out _ a1 c1 a2 c2 _ (A1.ext x2) A2 k1 k2 k3 j1 j2 j3) ?_
    rintro e w5 ⟨p1, q1, p2, q2, rfl, hb5, oX, oY⟩
    have hF5 := (KeptO.of_blw (O := fun _ => False) ((((Blw.refl _).ext x1).ext x2).trans hb5)).heap hF0 id
    have hs5 : w.heap.size + 1 ≤ (((w.alloc (.cells #[.bool false, .slice none 0 0, .slice none 0 0] 88)).ext x1).ext x2).heap.size := Nat.le_trans (by simp) (Blw.size (((Blw.refl _).ext x1).ext x2))
    have hbw5 : Blw w w5 := Blw.trans (by repeat (first | exact Blw.refl _ | apply Blw.ext | apply Blw.alloc | apply Blw.drewN | apply Blw.drew | refine Blw.setCell ?_ _ _ (by simp))) hb5
    have oX5 := ownsRow_mono oX hs5
    have oY5 := ownsRow_mono oY hs5
    clear oX oY o1 o2 hb5 hs5 A1 A2 k3 j3 HL
    simp only at oX5 oY5
    obtain ⟨hfz, e0, e1, e2, r0, r1, r2⟩ := three hF5 (.bool (decide (0 < (W.toW (n.natAbs / Nat.gcd n.natAbs d.natAbs)).length))) (.slice p1 (W.toW (n.natAbs / Nat.gcd n.natAbs d.natAbs)).length q1) (.slice p2 (W.toW (d.natAbs / Nat.gcd n.natAbs d.natAbs)).length q2)
    have HSM := Lib.hid (smallF_diff (n := n) (d := d) (by rw [hn, hdd]; rfl))
    generalize W.toW (n.natAbs / Nat.gcd n.natAbs d.natAbs) = nw at *
    generalize W.toW (d.natAbs / Nat.gcd n.natAbs d.natAbs) = dw at *
    go_wp2_with fail
    refine bodyPost_ret (v := .tuple #[.agg #[.bool (decide (0 < nw.length)), .slice p1 nw.length q1, .slice p2 dw.length q2], .int .i64 0]) (by simp [results, Try.results141, go_sem, r0, r1, r2]) rfl ?_
    rw [HSM.out]
    exact ⟨p1, q1, p2, q2, rfl, blw_three hbw5 (Nat.le_refl _) _ _ _, own_three oX5 (Nat.lt_succ_self _) _ _ _ |> (ownsRow_mono · (Nat.le_succ _)), own_three oY5 (Nat.lt_succ_self _) _ _ _ |> (ownsRow_mono · (Nat.le_succ _))⟩
  · go_enter Try.func141, Try.ntmps141
    go_wp2_with fail
    refine Calls.mono (ratioSize_any n _ n0 n1) ?_
    rintro e w1 ⟨a1, c1, x1, rfl, rfl, o1, -, -⟩
    go_wp2_with fail
    refine Calls.mono (ratioSize_any d _ d0 d1) ?_
    rintro e w1 ⟨a2, c2, x2, rfl, rfl, o2, -, -⟩
    obtain ⟨_, _, he, A1, -, k1, k2, k3⟩ := own_arr o1
    cases he
    obtain ⟨_, _, he, A2, -, j1, j2, j3⟩ := own_arr o2
    cases he
    go_wp2_with fail
    refine Calls.mono (HL.out _ a1 c1 a2 c2 _ (A1.ext x2) A2 k1 k2 k3 j1 j2 j3) ?_
    rintro e w5 ⟨p1, q1, p2, q2, rfl, hb5, oX, oY⟩
    have hF5 := (KeptO.of_blw (O := fun _ => False) ((((Blw.refl _).ext x1).ext x2).trans hb5)).heap hF0 id
    have hs5 : w.heap.size + 1 ≤ (((w.alloc (.cells #[.bool false, .slice none 0 0, .slice none 0 0] 88)).ext x1).ext x2).heap.size := Nat.le_trans (by simp) (Blw.size (((Blw.refl _).ext x1).ext x2))
    have hbw5 : Blw w w5 := Blw.trans (by repeat (first | exact Blw.refl _ | apply Blw.ext | apply Blw.alloc | apply Blw.drewN | apply Blw.drew | refine Blw.setCell ?_ _ _ (by simp))) hb5
    have oX5 := ownsRow_mono oX hs5
    have oY5 := ownsRow_mono oY hs5
    clear oX oY o1 o2 hb5 hs5 A1 A2 k3 j3 HL
    simp only at oX5 oY5
    obtain ⟨hfz, e0, e1, e2, r0, r1, r2⟩ := three hF5 (.bool (decide (0 < (W.toW (n.natAbs / Nat.gcd n.natAbs d.natAbs)).length))) (.slice p1 (W.toW (n.natAbs / Nat.gcd n.natAbs d.natAbs)).length q1) (.slice p2 (W.toW (d.natAbs / Nat.gcd n.natAbs d.natAbs)).length q2)
    have HSM := Lib.hid (smallF_diff (n := n) (d := d) (by rw [hn, hdd]; rfl))
    generalize W.toW (n.natAbs / Nat.gcd n.natAbs d.natAbs) = nw at *
    generalize W.toW (d.natAbs / Nat.gcd n.natAbs d.natAbs) = dw at *
    go_wp2_with fail
    refine bodyPost_ret (v := .tuple #[.agg #[.bool (decide (0 < nw.length)), .slice p1 nw.length q1, .slice p2 dw.length q2], .int .i64 0]) (by simp [results, Try.results141, go_sem, r0, r1, r2]) rfl ?_
    rw [HSM.out]
    exact ⟨p1, q1, p2, q2, rfl, blw_three hbw5 (Nat.le_refl _) _ _ _, own_three oX5 (Nat.lt_succ_self _) _ _ _ |> (ownsRow_mono · (Nat.le_succ _)), own_three oY5 (Nat.lt_succ_self _) _ _ _ |> (ownsRow_mono · (Nat.le_succ _))⟩
end Go.Proofs.Ytigkfdoeneemeaa
/- Lists of fractions, and of waters, as cells. -/
namespace Go.Proofs.Ytigkfdoeneemeaa
open Go.RowKit

theorem cells_at {α : Type} (f : α → List Value) (n : Nat) (hf : ∀ x, (f x).length = n) (l : List α) (k j : Nat) (hk : k < l.length) (hj : j < n) : (l.flatMap f)[k * n + j]? = (f l[k])[j]? := by
  induction l generalizing k with
  | nil => simp at hk
  | cons a l ih =>
    rw [List.flatMap_cons]
    cases k with
    | zero =>
      rw [Nat.zero_mul, Nat.zero_add, List.getElem?_append_left (by rw [hf]; exact hj)]
      rfl
    | succ k =>
      have h := ih k (by simpa using hk)
      rw [List.getElem?_append_right (by rw [hf, Nat.succ_mul]; omega), hf, show (k + 1) * n + j - n = k * n + j by rw [Nat.succ_mul]; omega, h]
      rfl
theorem cells_len {α : Type} (f : α → List Value) (n : Nat) (hf : ∀ x, (f x).length = n) (l : List α) : (l.flatMap f).length = l.length * n := by
  induction l with
  | nil => simp
  | cons a l ih => rw [List.flatMap_cons, List.length_append, ih, hf, List.length_cons, Nat.succ_mul]; omega
/-- The cells of the element at a place. -/
theorem cells_arr {α : Type} (f : α → List Value) (n : Nat) (hf : ∀ x, (f x).length = n) (hn : 0 < n) {w : World} {A : Option Addr} {l : List α} (h : Arr w A (l.flatMap f)) {k : Nat} (hk : k < l.length) :
    ∃ (x : α) (b o : Nat), l[k]? = some x ∧ x ∈ l ∧ A = some ⟨b, o, none⟩ ∧ b < w.heap.size ∧ ∀ j, j < n → w.cell? ⟨b, o + k * n + j, none⟩ = (f x)[j]? := by
  have hl := cells_len f n hf l
  rcases h with h | ⟨b, o, e, hb, hc⟩
  · exfalso
    rw [h] at hl
    have := Nat.mul_pos (Nat.lt_of_le_of_lt (Nat.zero_le k) hk) hn
    simp at hl
    omega
  · refine ⟨l[k], b, o, List.getElem?_eq_getElem hk, List.getElem_mem hk, e, hb, fun j hj => ?_⟩
    have h2 : k * n + j < l.length * n := by
      have := Nat.mul_le_mul_right n (show k + 1 ≤ l.length from hk)
      rw [Nat.succ_mul] at this
      omega
    rw [Nat.add_assoc, hc _ (by rw [hl]; exact h2), cells_at f n hf l k j hk hj]

/-- A fraction in a list: its words and where they lie. -/
structure FL where
  r : Fr
  a : Option Addr
  c : Nat
  b : Option Addr
  d : Nat
def FL.cells (x : FL) : List Value := [.bool x.r.neg, .slice x.a x.r.num.length x.c, .slice x.b x.r.den.length x.d]
abbrev fls (l : List FL) : List Value := l.flatMap FL.cells
def FL.In (w : World) (x : FL) : Prop := FrA w x.r x.a x.c x.b x.d
theorem FL.In.blw {w w' : World} {x : FL} (h : FL.In w x) (k : Blw w w') : FL.In w' x := FrA.blw h k
theorem fl_at {w : World} {A : Option Addr} {l : List FL} (h : Arr w A (fls l)) {k : Nat} (hk : k < l.length) :
    ∃ (x : FL) (b o : Nat), l[k]? = some x ∧ x ∈ l ∧ A = some ⟨b, o, none⟩ ∧ b < w.heap.size ∧ w.cell? ⟨b, o + k * 3, none⟩ = some (.bool x.r.neg) ∧ w.cell? ⟨b, o + k * 3 + 1, none⟩ = some (.slice x.a x.r.num.length x.c) ∧ w.cell? ⟨b, o + k * 3 + 2, none⟩ = some (.slice x.b x.r.den.length x.d) := by
  obtain ⟨x, b, o, h1, h2, h3, h4, h5⟩ := cells_arr FL.cells 3 (fun _ => rfl) (by decide) h hk
  exact ⟨x, b, o, h1, h2, h3, h4, h5 0 (by decide), h5 1 (by decide), h5 2 (by decide)⟩

/-- A water in a list. -/
structure WL where
  tick : Int
  last : Int
  top : Bool
  h : FL
def WL.cells (x : WL) : List Value := [.int .i64 x.tick, .int .i64 x.last, .bool x.top, .bool x.h.r.neg, .slice x.h.a x.h.r.num.length x.h.c, .slice x.h.b x.h.r.den.length x.h.d]
abbrev wls (l : List WL) : List Value := l.flatMap WL.cells
theorem wl_at {w : World} {A : Option Addr} {l : List WL} (h : Arr w A (wls l)) {k : Nat} (hk : k < l.length) :
    ∃ (x : WL) (b o : Nat), l[k]? = some x ∧ x ∈ l ∧ A = some ⟨b, o, none⟩ ∧ b < w.heap.size ∧ w.cell? ⟨b, o + k * 6, none⟩ = some (.int .i64 x.tick) ∧ w.cell? ⟨b, o + k * 6 + 1, none⟩ = some (.int .i64 x.last) ∧ w.cell? ⟨b, o + k * 6 + 2, none⟩ = some (.bool x.top) ∧
      w.cell? ⟨b, o + k * 6 + 3, none⟩ = some (.bool x.h.r.neg) ∧ w.cell? ⟨b, o + k * 6 + 4, none⟩ = some (.slice x.h.a x.h.r.num.length x.h.c) ∧ w.cell? ⟨b, o + k * 6 + 5, none⟩ = some (.slice x.h.b x.h.r.den.length x.h.d) := by
  obtain ⟨x, b, o, h1, h2, h3, h4, h5⟩ := cells_arr WL.cells 6 (fun _ => rfl) (by decide) h hk
  exact ⟨x, b, o, h1, h2, h3, h4, h5 0 (by decide), h5 1 (by decide), h5 2 (by decide), h5 3 (by decide), h5 4 (by decide), h5 5 (by decide)⟩
def WL.key (x : WL) : Int × Int × Bool × Fr := (x.tick, x.last, x.top, x.h.r)
end Go.Proofs.Ytigkfdoeneemeaa
/- The waters of a list, in plain Lean: of the signs of its steps. -/
namespace Go.Proofs.Ytigkfdoeneemeaa

/-- The first step from k on that is none of 0. -/
def nextS (f : Nat → Int) (n k : Nat) : Option Nat := if k < n then (if f k = 0 then nextS f n (k + 1) else some k) else none
termination_by n - k

theorem nextS_out {f : Nat → Int} {n k : Nat} (h : ¬ k < n) : nextS f n k = none := by rw [nextS, if_neg h]
theorem nextS_on {f : Nat → Int} {n k : Nat} (h : k < n) (h0 : f k = 0) : nextS f n k = nextS f n (k + 1) := by rw [nextS, if_pos h, if_pos h0]
theorem nextS_at {f : Nat → Int} {n k : Nat} (h : k < n) (h0 : ¬ f k = 0) : nextS f n k = some k := by rw [nextS, if_pos h, if_neg h0]

/-- The water that begins at a place. -/
def wat (f : Nat → Int) (n i : Nat) : Option (Nat × Nat × Bool) :=
  if i = 0 ∨ f i = 0 then none else
  match nextS f n (i + 1) with
  | none => none
  | some k => if f k = f i then none else some (i, k - 1, f i == 1)
def wats (f : Nat → Int) (n i : Nat) : List (Nat × Nat × Bool) := (List.range i).filterMap (wat f n)

theorem wats_one (f : Nat → Int) (n : Nat) : wats f n 1 = [] := by simp [wats, wat]
theorem wats_none {f : Nat → Int} {n i : Nat} (h : wat f n i = none) : wats f n (i + 1) = wats f n i := by
  unfold wats; rw [List.range_succ, List.filterMap_append]; simp [h]
theorem wats_some {f : Nat → Int} {n i : Nat} {x : Nat × Nat × Bool} (h : wat f n i = some x) : wats f n (i + 1) = wats f n i ++ [x] := by
  unfold wats; rw [List.range_succ, List.filterMap_append]; simp [h]
theorem wat_zero {f : Nat → Int} {n i : Nat} (h : f i = 0) : wat f n i = none := by unfold wat; rw [if_pos (.inr h)]
theorem wat_next {f : Nat → Int} {n i : Nat} (hi : 0 < i) (h : ¬ f i = 0) : wat f n i = match nextS f n (i + 1) with | none => none | some k => if f k = f i then none else some (i, k - 1, f i == 1) := by
  unfold wat; rw [if_neg (by omega)]
theorem wat_out {f : Nat → Int} {n i : Nat} (hi : 0 < i) (h : ¬ f i = 0) (k : nextS f n (i + 1) = none) : wat f n i = none := by rw [wat_next hi h, k]
theorem wat_same {f : Nat → Int} {n i j : Nat} (hi : 0 < i) (h : ¬ f i = 0) (k : nextS f n (i + 1) = some j) (e : f j = f i) : wat f n i = none := by rw [wat_next hi h, k]; exact if_pos e
theorem wat_turn {f : Nat → Int} {n i j : Nat} (hi : 0 < i) (h : ¬ f i = 0) (k : nextS f n (i + 1) = some j) (e : ¬ f j = f i) : wat f n i = some (i, j - 1, f i == 1) := by rw [wat_next hi h, k]; exact if_neg e
end Go.Proofs.Ytigkfdoeneemeaa
/- The waters of a list that is negated, and of one that is turned round: plain Lean. -/
namespace Go.Proofs.Ytigkfdoeneemeaa

/-- Each with the one behind. -/
def cons2 {α : Type} : List α → List (α × α)
  | a :: b :: r => (a, b) :: cons2 (b :: r)
  | _ => []
theorem cons2_snoc {α : Type} (l : List α) (a b : α) : cons2 (l ++ [a, b]) = cons2 (l ++ [a]) ++ [(a, b)] := by
  induction l with
  | nil => rfl
  | cons x t ih =>
    cases t with
    | nil => rfl
    | cons y t => simp only [List.cons_append, cons2] at ih ⊢; rw [ih]
theorem cons2_reverse {α : Type} (l : List α) : cons2 l.reverse = ((cons2 l).map fun p => (p.2, p.1)).reverse := by
  induction l with
  | nil => rfl
  | cons a t ih =>
    cases t with
    | nil => rfl
    | cons b r =>
      have e : (a :: b :: r).reverse = r.reverse ++ [b, a] := by simp
      rw [e, cons2_snoc, show r.reverse ++ [b] = (b :: r).reverse by simp, ih]
      simp [cons2]
theorem cons2_map {α β : Type} (h : α → β) (l : List α) : cons2 (l.map h) = (cons2 l).map fun p => (h p.1, h p.2) := by
  induction l with
  | nil => rfl
  | cons a t ih =>
    cases t with
    | nil => rfl
    | cons b r => simp only [List.map_cons, cons2] at ih ⊢; rw [ih]
theorem cons2_mem {α : Type} (l : List α) : ∀ p ∈ cons2 l, p.1 ∈ l ∧ p.2 ∈ l := by
  induction l with
  | nil => intro p h; cases h
  | cons a t ih =>
    cases t with
    | nil => intro p h; cases h
    | cons b r =>
      intro p h
      simp only [cons2, List.mem_cons] at h
      rcases h with rfl | h
      · simp
      · have := ih p (by simpa [cons2] using h)
        exact ⟨List.mem_cons_of_mem _ this.1, List.mem_cons_of_mem _ this.2⟩

/-- The places from m on where the list goes up or down. -/
def plc (f : Nat → Int) (n m : Nat) : List Nat := (List.range' m (n - m)).filter fun i => f i != 0
def wat2 (f : Nat → Int) (p : Nat × Nat) : Option (Nat × Nat × Bool) := if f p.2 = f p.1 then none else some (p.1, p.2 - 1, f p.1 == 1)

theorem range_step {n m : Nat} (h : m < n) : List.range' m (n - m) = m :: List.range' (m + 1) (n - (m + 1)) := by
  obtain ⟨d, hd⟩ : ∃ d, n - m = d + 1 := ⟨n - m - 1, by omega⟩
  rw [hd, show n - (m + 1) = d by omega]
  rfl
theorem plc_on {f : Nat → Int} {n m : Nat} (h : m < n) (h0 : f m = 0) : plc f n m = plc f n (m + 1) := by
  unfold plc; rw [range_step h, List.filter_cons, if_neg (by simp [h0])]
theorem plc_at {f : Nat → Int} {n m : Nat} (h : m < n) (h0 : ¬ f m = 0) : plc f n m = m :: plc f n (m + 1) := by
  unfold plc; rw [range_step h, List.filter_cons, if_pos (by simp [h0])]
theorem plc_out {f : Nat → Int} {n m : Nat} (h : ¬ m < n) : plc f n m = [] := by
  unfold plc; rw [show n - m = 0 by omega]; rfl

theorem nextS_plc (f : Nat → Int) (n : Nat) : ∀ d m, n - m = d → nextS f n m = (plc f n m).head? := by
  intro d
  induction d with
  | zero => intro m h; rw [nextS_out (by omega), plc_out (by omega)]; rfl
  | succ d ih =>
    intro m h
    by_cases h0 : f m = 0
    · rw [nextS_on (by omega) h0, plc_on (by omega) h0]; exact ih (m + 1) (by omega)
    · rw [nextS_at (by omega) h0, plc_at (by omega) h0]; rfl

theorem wats_from (f : Nat → Int) (n : Nat) : ∀ d m, n - m = d → 0 < m → (List.range' m (n - m)).filterMap (wat f n) = (cons2 (plc f n m)).filterMap (wat2 f) := by
  intro d
  induction d with
  | zero => intro m h _; rw [plc_out (by omega), h]; rfl
  | succ d ih =>
    intro m h hm
    rw [range_step (by omega), List.filterMap_cons]
    by_cases h0 : f m = 0
    · rw [wat_zero h0, plc_on (by omega) h0]; exact ih (m + 1) (by omega) (by omega)
    · have hn := nextS_plc f n d (m + 1) (by omega)
      have hi := ih (m + 1) (by omega) (by omega)
      rw [plc_at (by omega) h0]
      cases hp : plc f n (m + 1) with
      | nil =>
        rw [hp] at hn hi
        rw [wat_out hm h0 hn, hi]; rfl
      | cons k r =>
        rw [hp] at hn hi
        by_cases e : f k = f m
        · rw [wat_same hm h0 hn e, hi]
          simp [cons2, wat2, e]
        · rw [wat_turn hm h0 hn e, hi]
          simp [cons2, wat2, e]

theorem wats_plc (f : Nat → Int) (n : Nat) : wats f n n = (cons2 (plc f n 1)).filterMap (wat2 f) := by
  rw [← wats_from f n (n - 1) 1 rfl (by omega)]
  unfold wats
  cases n with
  | zero => rfl
  | succ n =>
    rw [List.range_eq_range', show n + 1 - 1 = n by omega, List.range'_succ]
    rw [List.filterMap_cons]
    have : wat f (n + 1) 0 = none := by unfold wat; rw [if_pos (.inl rfl)]
    rw [this]

theorem fm_congr {α β : Type} {l : List α} {f g : α → Option β} (h : ∀ x ∈ l, f x = g x) : l.filterMap f = l.filterMap g := by
  induction l with
  | nil => rfl
  | cons a l ih =>
    rw [List.filterMap_cons, List.filterMap_cons, h a (by simp), ih (fun x hx => h x (by simp [hx]))]
/-- Negated: the same waters, tops and bottoms changed about. -/
theorem wats_neg {f g : Nat → Int} {n : Nat} (hf : ∀ i, 0 < i → i < n → f i = -1 ∨ f i = 0 ∨ f i = 1) (hg : ∀ i, 0 < i → i < n → g i = - f i) :
    wats g n n = (wats f n n).map fun p => (p.1, p.2.1, !p.2.2) := by
  have hz : plc g n 1 = plc f n 1 := by
    unfold plc
    apply List.filter_congr
    intro i hi
    simp only [List.mem_range'_1] at hi
    have := hg i (by omega) (by omega)
    rw [this, Bool.eq_iff_iff, bne_iff_ne, bne_iff_ne]
    omega
  rw [wats_plc, wats_plc, hz, List.map_filterMap]
  apply fm_congr
  intro p hp
  obtain ⟨h1, h2⟩ := cons2_mem _ p hp
  simp only [plc, List.mem_filter, List.mem_range'_1, bne_iff_ne] at h1 h2
  have a1 := hf p.1 (by omega) (by omega)
  have a2 := hf p.2 (by omega) (by omega)
  have b1 := hg p.1 (by omega) (by omega)
  have b2 := hg p.2 (by omega) (by omega)
  unfold wat2
  rw [b1, b2]
  by_cases e : f p.2 = f p.1
  · rw [if_pos e, if_pos (by omega)]; rfl
  · rw [if_neg e, if_neg (by omega)]
    simp only [Option.map_some]
    congr 2
    rcases a1 with a | a | a
    · rw [a]; rfl
    · exact absurd a h1.2
    · rw [a]; rfl

theorem range_turn (n : Nat) : ((List.range' 1 (n - 1)).map fun i => n - i).reverse = List.range' 1 (n - 1) := by
  apply List.ext_getElem
  · simp
  · intro i h1 h2
    simp at h1 h2
    simp [List.getElem_reverse]
    omega

theorem plc_round {f g : Nat → Int} {n : Nat} (hg : ∀ i, 0 < i → i < n → g i = - f (n - i)) : plc g n 1 = ((plc f n 1).map fun i => n - i).reverse := by
  unfold plc
  rw [← range_turn n, List.filter_reverse, List.filter_map]
  congr 2
  rw [range_turn n]
  apply List.filter_congr
  intro i hi
  simp only [List.mem_range'_1] at hi
  have h := hg (n - i) (by omega) (by omega)
  rw [show n - (n - i) = i by omega] at h
  show (g (n - i) != 0) = (f i != 0)
  rw [h, Bool.eq_iff_iff, bne_iff_ne, bne_iff_ne]
  omega

/-- Turned round: the same waters, turned round. -/
theorem wats_round {f g : Nat → Int} {n : Nat} (hf : ∀ i, 0 < i → i < n → f i = -1 ∨ f i = 0 ∨ f i = 1) (hg : ∀ i, 0 < i → i < n → g i = - f (n - i)) :
    wats g n n = ((wats f n n).map fun p => (n - 1 - p.2.1, n - 1 - p.1, p.2.2)).reverse := by
  rw [wats_plc, wats_plc, plc_round hg, cons2_reverse, cons2_map, List.filterMap_reverse, List.map_map, List.filterMap_map, List.map_filterMap]
  congr 1
  apply fm_congr
  intro p hp
  obtain ⟨h1, h2⟩ := cons2_mem _ p hp
  simp only [plc, List.mem_filter, List.mem_range'_1, bne_iff_ne] at h1 h2
  have a1 := hf p.1 (by omega) (by omega)
  have a2 := hf p.2 (by omega) (by omega)
  have b1 := hg (n - p.1) (by omega) (by omega)
  have b2 := hg (n - p.2) (by omega) (by omega)
  rw [show n - (n - p.1) = p.1 by omega] at b1
  rw [show n - (n - p.2) = p.2 by omega] at b2
  show wat2 g (n - p.2, n - p.1) = _
  unfold wat2
  simp only [b1, b2]
  by_cases e : f p.2 = f p.1
  · rw [if_pos e, if_pos (by omega)]; rfl
  · rw [if_neg e, if_neg (by omega)]
    simp only [Option.map_some]
    have k1 : n - 1 - (p.2 - 1) = n - p.2 := by omega
    have k2 : n - p.1 - 1 = n - 1 - p.1 := by omega
    have k3 : (-f p.2 == 1) = (f p.1 == 1) := by
      rw [Bool.eq_iff_iff, beq_iff_eq, beq_iff_eq]
      have := h1.2
      have := h2.2
      omega
    rw [k1, k2, k3]
end Go.Proofs.Ytigkfdoeneemeaa
/- Fractions copied and negated, walked. -/
namespace Go.Proofs.Ytigkfdoeneemeaa
open Go.RowKit

/-- A fraction of the call's own. -/
def RetFr1 (w : World) (r : Fr) (e : Ending) (w' : World) : Prop :=
  ∃ (a : Option Addr) (c : Nat) (b : Option Addr) (d : Nat), e = .returned (frV r a c b d) ∧ Blw w w' ∧ w'.ownsRow w.heap.size 135 1 (.slice a r.num.length c) r.num.length (u32s r.num) ∧ w'.ownsRow w.heap.size 135 1 (.slice b r.den.length d) r.den.length (u32s r.den)

set_option maxRecDepth 100000 in
set_option maxHeartbeats 4000000 in
theorem ratioCopied_any (r : Fr) (a : Option Addr) (c : Nat) (b : Option Addr) (d : Nat) (w : World) (h : FrA w r a c b d) (hr : r.Ok) :
    Calls Try.prog 139 #[frV r a c b d] w (RetFr1 w r) := by
  obtain ⟨S, hS⟩ : ∃ S : World → Prop, S = fun W => w.heap.size + 1 < W.heap.size ∧ Blw w W ∧ W.cell? ⟨w.heap.size, 0, none⟩ = some (.bool r.neg) ∧ W.cell? ⟨w.heap.size, 1, none⟩ = some (.slice a r.num.length c) ∧ W.cell? ⟨w.heap.size, 2, none⟩ = some (.slice b r.den.length d) := ⟨_, rfl⟩
  have KS : ∀ W W' : World, S W → Blw W W' → S W' := by
    subst hS
    rintro W W' ⟨h1, h2, h3, h4, h5⟩ hb
    exact ⟨Nat.lt_of_lt_of_le h1 hb.size, h2.trans hb, (Below.cell hb (by show w.heap.size < _; omega)).trans h3, (Below.cell hb (by show w.heap.size < _; omega)).trans h4, (Below.cell hb (by show w.heap.size < _; omega)).trans h5⟩
  have KR : ∀ W W' : World, W.heap[w.heap.size + 1]? = some (.cells #[.bool false, .slice none 0 0, .slice none 0 0] 88 (0, 0)) → Blw W W' → W'.heap[w.heap.size + 1]? = some (.cells #[.bool false, .slice none 0 0, .slice none 0 0] 88 (0, 0)) :=
    fun W W' hF hb => (KeptO.of_blw (O := fun _ => False) hb).heap hF id
  have RR : ∀ W : World, W.heap[w.heap.size + 1]? = some (.cells #[.bool false, .slice none 0 0, .slice none 0 0] 88 (0, 0)) → (∀ i, W.frozen? ⟨w.heap.size + 1, i, none⟩ = false) ∧ W.cell? ⟨w.heap.size + 1, 0, none⟩ = some (.bool false) ∧ W.cell? ⟨w.heap.size + 1, 1, none⟩ = some (.slice none 0 0) ∧ W.cell? ⟨w.heap.size + 1, 2, none⟩ = some (.slice none 0 0) :=
    fun W hF => ⟨fun i => frozen_of_row W _ i _ _ hF, (cell_of_row W _ 0 _ _ _ hF).trans rfl, (cell_of_row W _ 1 _ _ _ hF).trans rfl, (cell_of_row W _ 2 _ _ _ hF).trans rfl⟩
  have SB : ∀ W : World, S W → Blw w W := by
    subst hS
    rintro W ⟨h1, h2, -⟩; exact h2
  have T1 := fun (W : World) (hb : S W) => natTrim_any a r.num c W (h.an.blw (SB W hb)) (fun e => (h.na e).2) h.cn h.cm (by have := hr.ln; omega) h.wn
  have T2 := fun (W : World) (hb : S W) => natTrim_any b r.den d W (h.ad.blw (SB W hb)) (fun e => (h.nb e).2) h.dn h.dm (by have := hr.ld; omega) h.wd
  rw [W.toW_val h.wn hr.nn] at T1
  rw [W.toW_val h.wd hr.nd] at T2
  have HT1 := Lib.hid T1
  have HT2 := Lib.hid T2
  have HKS := Lib.hid KS
  have HSB := Lib.hid SB
  have HKR := Lib.hid KR
  have HRR := Lib.hid RR
  obtain ⟨rn, rnum, rden⟩ := r
  simp only at hS HT1 HT2
  clear T1 T2 KS KR RR SB h hr
  go_enter Try.func139, Try.ntmps139
  go_wp2_with fail
  have hS0 : S ((w.alloc (.cells #[.bool rn, .slice a rnum.length c, .slice b rden.length d] 88 (0, 0))).alloc (.cells #[.bool false, .slice none 0 0, .slice none 0 0] 88 (0, 0))).drew := by
    rw [hS]
    exact ⟨by simp, (by repeat (first | exact Blw.refl _ | apply Blw.ext | apply Blw.alloc | apply Blw.drewN | apply Blw.drew | refine Blw.setCell ?_ _ _ (by simp))), by go_simp, by go_simp, by go_simp⟩
  have hR0 : ((w.alloc (.cells #[.bool rn, .slice a rnum.length c, .slice b rden.length d] 88 (0, 0))).alloc (.cells #[.bool false, .slice none 0 0, .slice none 0 0] 88 (0, 0))).drew.heap[w.heap.size + 1]? = some (.cells #[.bool false, .slice none 0 0, .slice none 0 0] 88 (0, 0)) := by
    have := heap_alloc_new (w.alloc (.cells #[.bool rn, .slice a rnum.length c, .slice b rden.length d] 88 (0, 0))) (.cells #[.bool false, .slice none 0 0, .slice none 0 0] 88 (0, 0))
    rw [show (w.alloc (.cells #[.bool rn, .slice a rnum.length c, .slice b rden.length d] 88 (0, 0))).heap.size = w.heap.size + 1 by simp] at this
    exact this
  have hsz : w.heap.size + 2 ≤ ((w.alloc (.cells #[.bool rn, .slice a rnum.length c, .slice b rden.length d] 88 (0, 0))).alloc (.cells #[.bool false, .slice none 0 0, .slice none 0 0] 88 (0, 0))).drew.heap.size := by simp
  subst hS
  go_region_held3 (fun W => w.heap.size + 1 < W.heap.size ∧ Blw w W ∧ W.cell? ⟨w.heap.size, 0, none⟩ = some (.bool rn) ∧ W.cell? ⟨w.heap.size, 1, none⟩ = some (.slice a rnum.length c) ∧ W.cell? ⟨w.heap.size, 2, none⟩ = some (.slice b rden.length d)) (first | assumption | (refine ⟨?_, blw_three (HSB.out _ (by assumption)) (Nat.le_succ _) _ _ _, ?_, ?_, ?_⟩ <;> go_keep) | go_keep) (first
    | (go_at_call 163; (with_reducible refine Calls.mono (HT1.out _ (by assumption)) ?_); rintro e w9 ⟨p1, q1, y1, rfl, rfl, o1, -, -⟩; have hS1 := HKS.out _ _ (by assumption) (World.blw_ext _ y1); have hR1 := HKR.out _ _ (by assumption) (World.blw_ext _ y1); have hRR := HRR.out _ hR1)
    | (go_at_call 163; (with_reducible refine Calls.mono (HT2.out _ (by assumption)) ?_); rintro e w9 ⟨p2, q2, y2, rfl, rfl, o2, -, -⟩; have hS2 := HKS.out _ _ (by assumption) (World.blw_ext _ y2); have hR2 := HKR.out _ _ (by assumption) (World.blw_ext _ y2); have hRR2 := HRR.out _ hR2))


  · clear HT1 HT2 HKS HKR HRR hS0 hR0 hS1 hS2 hRR hRR2
    obtain ⟨hfz, e0, e1, e2, r0, r1, r2⟩ := three hR2 (.bool rn) (.slice p1 rnum.length q1) (.slice p2 rden.length q2)
    have oF := ownsRow_mono (ownsRow_blw o1 (World.blw_ext _ y2)) hsz
    have oS := ownsRow_mono o2 (Nat.le_trans hsz (World.le_ext _ y1))
    go_wp2_with fail
    refine bodyPost_ret (v := .agg #[.bool rn, .slice p1 rnum.length q1, .slice p2 rden.length q2]) (by simp [results, Try.results139, go_sem, r0, r1, r2]) rfl ?_
    exact ⟨p1, q1, p2, q2, rfl, blw_three (by repeat (first | exact Blw.refl _ | apply Blw.ext | apply Blw.alloc | apply Blw.drewN | apply Blw.drew | refine Blw.setCell ?_ _ _ (by simp))) (Nat.le_succ _) _ _ _, own_three oF (Nat.lt_succ_self _) _ _ _ |> (ownsRow_mono · (by omega)), own_three oS (Nat.lt_succ_self _) _ _ _ |> (ownsRow_mono · (by omega))⟩

def negF (r : Fr) : Fr := ⟨!r.neg && decide (0 < r.num.length), r.num, r.den⟩
theorem negF_ok {r : Fr} (h : r.Ok) : (negF r).Ok :=
  ⟨h.ln, h.ld, h.nn, h.nd, h.d0, (fun k => by show (!r.neg && decide (0 < r.num.length)) = false; have k : r.num.length = 0 := k; rw [k]; simp), h.g⟩

set_option maxHeartbeats 1000000 in
theorem ratioTurned_any (r : Fr) (a : Option Addr) (c : Nat) (b : Option Addr) (d : Nat) (w : World) :
    Calls Try.prog 138 #[frV r a c b d] w fun e w' => e = .returned (frV (negF r) a c b d) ∧ ∃ x, w' = w.ext x := by
  obtain ⟨neg, num, den⟩ := r
  have hB0 : ((w.alloc (.cells #[.bool neg, .slice a num.length c, .slice b den.length d] 88 (0, 0))).alloc (.cells #[.bool false, .slice none 0 0, .slice none 0 0] 88 (0, 0))).heap[w.heap.size]? = some (.cells #[.bool neg, .slice a num.length c, .slice b den.length d] 88 (0, 0)) := at_alloc _ (heap_alloc_new _ _)
  have hR0 : ((w.alloc (.cells #[.bool neg, .slice a num.length c, .slice b den.length d] 88 (0, 0))).alloc (.cells #[.bool false, .slice none 0 0, .slice none 0 0] 88 (0, 0))).heap[w.heap.size + 1]? = some (.cells #[.bool false, .slice none 0 0, .slice none 0 0] 88 (0, 0)) := by
    have := heap_alloc_new (w.alloc (.cells #[.bool neg, .slice a num.length c, .slice b den.length d] 88 (0, 0))) (.cells #[.bool false, .slice none 0 0, .slice none 0 0] 88 (0, 0))
    rw [show (w.alloc (.cells #[.bool neg, .slice a num.length c, .slice b den.length d] 88 (0, 0))).heap.size = w.heap.size + 1 by simp] at this
    exact this
  cases neg
  · have hR1 := at_far (b := w.heap.size) (i := 0) (.bool (decide (0 < num.length))) (by omega) hR0
    obtain ⟨hfz, e0, e1, e2, r0, r1, r2⟩ := three hR1 (.bool (decide (0 < num.length))) (.slice a num.length c) (.slice b den.length d)
    have hb : Blw w ((w.alloc (.cells #[.bool false, .slice a num.length c, .slice b den.length d] 88 (0, 0))).alloc (.cells #[.bool false, .slice none 0 0, .slice none 0 0] 88 (0, 0))) := (by repeat (first | exact Blw.refl _ | apply Blw.ext | apply Blw.alloc | apply Blw.drewN | apply Blw.drew | refine Blw.setCell ?_ _ _ (by simp)))
    clear hR1 hR0 hB0
    go_enter Try.func138, Try.ntmps138
    go_wp2_with fail
    exact bodyPost_ret (v := .agg #[.bool (decide (0 < num.length)), .slice a num.length c, .slice b den.length d]) (by simp [results, Try.results138, go_sem, r0, r1, r2]) rfl ⟨rfl, Blw.is (by repeat (first | exact Blw.refl _ | apply Blw.ext | apply Blw.alloc | apply Blw.drewN | apply Blw.drew | refine Blw.setCell ?_ _ _ (by simp)))⟩
  · have hR1 := at_far (b := w.heap.size) (i := 0) (.bool (false)) (by omega) hR0
    obtain ⟨hfz, e0, e1, e2, r0, r1, r2⟩ := three hR1 (.bool (false)) (.slice a num.length c) (.slice b den.length d)
    have hb : Blw w ((w.alloc (.cells #[.bool true, .slice a num.length c, .slice b den.length d] 88 (0, 0))).alloc (.cells #[.bool false, .slice none 0 0, .slice none 0 0] 88 (0, 0))) := (by repeat (first | exact Blw.refl _ | apply Blw.ext | apply Blw.alloc | apply Blw.drewN | apply Blw.drew | refine Blw.setCell ?_ _ _ (by simp)))
    clear hR1 hR0 hB0
    go_enter Try.func138, Try.ntmps138
    go_wp2_with fail
    exact bodyPost_ret (v := .agg #[.bool (false), .slice a num.length c, .slice b den.length d]) (by simp [results, Try.results138, go_sem, r0, r1, r2]) rfl ⟨rfl, Blw.is (by repeat (first | exact Blw.refl _ | apply Blw.ext | apply Blw.alloc | apply Blw.drewN | apply Blw.drew | refine Blw.setCell ?_ _ _ (by simp)))⟩

set_option maxRecDepth 100000 in
set_option maxHeartbeats 1000000 in
theorem ratioNeg_ok (r : Fr) (a : Option Addr) (c : Nat) (b : Option Addr) (d : Nat) (w : World) (h : FrA w r a c b d) (hr : r.Ok) :
    Calls Try.prog 89 #[frV r a c b d] w (RetFr w (negF r) 0) := by
  have K1 := Lib.hid (fun (W : World) (hb : Blw w W) => ratioCheck_any r a c b d W (h.blw hb))
  rw [chkF_ok hr] at K1
  have K2 := Lib.hid (fun (W : World) (hb : Blw w W) => ratioCopied_any r a c b d W (h.blw hb) hr)
  have hF0 : ((w.alloc (.cells #[.bool r.neg, .slice a r.num.length c, .slice b r.den.length d] 88 (0, 0))).alloc (.cells #[.bool false, .slice none 0 0, .slice none 0 0] 88 (0, 0))).heap[w.heap.size + 1]? = some (.cells #[.bool false, .slice none 0 0, .slice none 0 0] 88 (0, 0)) := by
    have := heap_alloc_new (w.alloc (.cells #[.bool r.neg, .slice a r.num.length c, .slice b r.den.length d] 88 (0, 0))) (.cells #[.bool false, .slice none 0 0, .slice none 0 0] 88 (0, 0))
    rw [show (w.alloc (.cells #[.bool r.neg, .slice a r.num.length c, .slice b r.den.length d] 88 (0, 0))).heap.size = w.heap.size + 1 by simp] at this
    exact this
  clear h hr
  go_enter Try.func89, Try.ntmps89
  go_wp2_with fail
  refine Calls.mono (K1.out _ (by repeat (first | exact Blw.refl _ | apply Blw.ext | apply Blw.alloc | apply Blw.drewN | apply Blw.drew | refine Blw.setCell ?_ _ _ (by simp)))) ?_
  rintro e w1 ⟨rfl, x1, rfl⟩
  go_wp2_with fail
  refine Calls.mono (K2.out _ (by repeat (first | exact Blw.refl _ | apply Blw.ext | apply Blw.alloc | apply Blw.drewN | apply Blw.drew | refine Blw.setCell ?_ _ _ (by simp)))) ?_
  rintro e w2 ⟨p1, q1, p2, q2, rfl, hb2, oX, oY⟩
  go_wp2_with fail
  refine Calls.mono (ratioTurned_any r p1 q1 p2 q2 _) ?_
  rintro e w3 ⟨rfl, x3, rfl⟩
  have hF3 := at_ext x3 ((KeptO.of_blw (O := fun _ => False) (((Blw.refl _).ext x1).trans hb2)).heap hF0 id)
  have hs : w.heap.size + 2 ≤ (((w.alloc (.cells #[.bool r.neg, .slice a r.num.length c, .slice b r.den.length d] 88 (0, 0))).alloc (.cells #[.bool false, .slice none 0 0, .slice none 0 0] 88 (0, 0))).ext x1).heap.size := Nat.le_trans (by simp) (World.le_ext _ x1)
  have oX3 := ownsRow_mono (ownsRow_blw oX (World.blw_ext _ x3)) hs
  have oY3 := ownsRow_mono (ownsRow_blw oY (World.blw_ext _ x3)) hs
  have hbw : Blw w (w2.ext x3) := (Blw.trans (by repeat (first | exact Blw.refl _ | apply Blw.ext | apply Blw.alloc | apply Blw.drewN | apply Blw.drew | refine Blw.setCell ?_ _ _ (by simp))) hb2).ext x3
  clear oX oY hs hb2 hF0 K1 K2
  obtain ⟨rn, rnum, rden⟩ := r
  simp only at oX3 oY3
  generalize w2.ext x3 = w4 at *
  obtain ⟨hfz, e0, e1, e2, r0, r1, r2⟩ := three hF3 (.bool (negF ⟨rn, rnum, rden⟩).neg) (.slice p1 (negF ⟨rn, rnum, rden⟩).num.length q1) (.slice p2 (negF ⟨rn, rnum, rden⟩).den.length q2)
  go_wp2_with fail
  exact bodyPost_ret (v := .tuple #[.agg #[.bool (negF ⟨rn, rnum, rden⟩).neg, .slice p1 (negF ⟨rn, rnum, rden⟩).num.length q1, .slice p2 (negF ⟨rn, rnum, rden⟩).den.length q2], .int .i64 0]) (by simp [results, Try.results89, go_sem, r0, r1, r2]) rfl ⟨p1, q1, p2, q2, rfl, blw_three hbw (Nat.le_succ _) _ _ _, own_three oX3 (Nat.lt_succ_self _) _ _ _ |> (ownsRow_mono · (by omega)), own_three oY3 (Nat.lt_succ_self _) _ _ _ |> (ownsRow_mono · (by omega))⟩

set_option maxHeartbeats 1000000 in
theorem ratioNeg_bad (r : Fr) (a : Option Addr) (c : Nat) (b : Option Addr) (d : Nat) (w : World) (h : FrA w r a c b d) (hr : ¬ chkF r = 0) :
    Calls Try.prog 89 #[frV r a c b d] w fun e w' => e = .returned (.tuple #[frV ⟨false, [], []⟩ none 0 none 0, .int .i64 (chkF r)]) ∧ ∃ x, w' = w.ext x := by
  have K1 := Lib.hid (fun (W : World) (hb : Blw w W) => ratioCheck_any r a c b d W (h.blw hb))
  have hF0 : ((w.alloc (.cells #[.bool r.neg, .slice a r.num.length c, .slice b r.den.length d] 88 (0, 0))).alloc (.cells #[.bool false, .slice none 0 0, .slice none 0 0] 88 (0, 0))).heap[w.heap.size + 1]? = some (.cells #[.bool false, .slice none 0 0, .slice none 0 0] 88 (0, 0)) := by
    have := heap_alloc_new (w.alloc (.cells #[.bool r.neg, .slice a r.num.length c, .slice b r.den.length d] 88 (0, 0))) (.cells #[.bool false, .slice none 0 0, .slice none 0 0] 88 (0, 0))
    rw [show (w.alloc (.cells #[.bool r.neg, .slice a r.num.length c, .slice b r.den.length d] 88 (0, 0))).heap.size = w.heap.size + 1 by simp] at this
    exact this
  generalize chkF r = u at *
  have q : (u != 0) = true := by simpa using hr
  clear h hr
  go_enter Try.func89, Try.ntmps89
  go_wp2_with fail
  refine Calls.mono (K1.out _ (by repeat (first | exact Blw.refl _ | apply Blw.ext | apply Blw.alloc | apply Blw.drewN | apply Blw.drew | refine Blw.setCell ?_ _ _ (by simp)))) ?_
  rintro e w1 ⟨rfl, x1, rfl⟩
  have hF3 := at_ext x1 hF0
  have hbw : Blw w (((w.alloc (.cells #[.bool r.neg, .slice a r.num.length c, .slice b r.den.length d] 88 (0, 0))).alloc (.cells #[.bool false, .slice none 0 0, .slice none 0 0] 88 (0, 0))).ext x1) := (by repeat (first | exact Blw.refl _ | apply Blw.ext | apply Blw.alloc | apply Blw.drewN | apply Blw.drew | refine Blw.setCell ?_ _ _ (by simp)))
  clear hF0 K1
  obtain ⟨hfz, e0, e1, e2, r0, r1, r2⟩ := three hF3 (.bool false) (.slice none 0 0) (.slice none 0 0)
  go_wp2_with fail
  exact bodyPost_ret (v := .tuple #[.agg #[.bool false, .slice none 0 0, .slice none 0 0], .int .i64 u]) (by simp [results, Try.results89, go_sem, r0, r1, r2]) rfl ⟨rfl, (blw_three hbw (Nat.le_succ _) _ _ _).is⟩
end Go.Proofs.Ytigkfdoeneemeaa
/- The small functions of package water: counted, from, copied, walked. -/
namespace Go.Proofs.Ytigkfdoeneemeaa
open Go.RowKit

def cntd (n : Nat) (first : Int) : Int := if 4096 < n then 3 else if first < 0 ∨ 1048576 < first ∨ (0 < n ∧ 1048576 - (n : Int) + 1 < first) then 2 else 0

set_option maxHeartbeats 1000000 in
theorem counted_any (n : Nat) (first : Int) (w : World) (hn : n ≤ 9223372036854775807) :
    Calls Try.prog 126 #[.int .i64 n, .int .i64 first] w fun e w' => e = .returned (.int .i64 (cntd n first)) ∧ w' = w := by
  have he : cntd n first = if 4096 < n then 3 else if first < 0 ∨ 1048576 < first ∨ (0 < n ∧ 1048576 - (n : Int) + 1 < first) then 2 else 0 := rfl
  have HE := Lib.hid he
  clear he
  by_cases h1 : 4096 < n
  · rw [if_pos h1] at HE
    go_enter Try.func126, Try.ntmps126
    go_wp2
    go_ret
    exact ⟨ret_i64 HE.out.symm, rfl⟩
  rw [if_neg h1] at HE
  by_cases h2 : first < 0
  · rw [if_pos (.inl h2)] at HE
    have d1 : decide (first < 0) = true := by simpa using h2
    go_enter Try.func126, Try.ntmps126
    go_wp2
    go_ret
    exact ⟨ret_i64 HE.out.symm, rfl⟩
  have d1 : decide (first < 0) = false := by simpa using h2
  by_cases h3 : 1048576 < first
  · rw [if_pos (.inr (.inl h3))] at HE
    have d2 : decide (1048576 < first) = true := by simpa using h3
    go_enter Try.func126, Try.ntmps126
    go_wp2
    go_ret
    exact ⟨ret_i64 HE.out.symm, rfl⟩
  have d2 : decide (1048576 < first) = false := by simpa using h3
  by_cases h4 : 0 < n
  · have d3 : decide (0 < n) = true := by simpa using h4
    have e1 : IntKind.i64.wrap (IntKind.i64.wrap (1048576 - (n : Int)) + 1) = 1048576 - (n : Int) + 1 := by rw [IntKind.wrap_i64, IntKind.wrap_i64]; omega
    have e2 : IntKind.i64.wrap (1048576 - (n : Int)) = 1048576 - (n : Int) := by rw [IntKind.wrap_i64]; omega
    have e3 : IntKind.i64.wrap (1048576 - (n : Int) + 1) = 1048576 - (n : Int) + 1 := by rw [IntKind.wrap_i64]; omega
    by_cases h5 : 1048576 - (n : Int) + 1 < first
    · rw [if_pos (.inr (.inr ⟨h4, h5⟩))] at HE
      have d4 : decide (1048576 - (n : Int) + 1 < first) = true := by simpa using h5
      go_enter Try.func126, Try.ntmps126
      go_wp2
      go_ret
      exact ⟨ret_i64 HE.out.symm, rfl⟩
    · rw [if_neg (by omega)] at HE
      have d4 : decide (1048576 - (n : Int) + 1 < first) = false := by simpa using h5
      go_enter Try.func126, Try.ntmps126
      go_wp2
      go_ret
      exact ⟨ret_i64 HE.out.symm, rfl⟩
  · have d3 : decide (0 < n) = false := by simpa using h4
    rw [if_neg (by omega)] at HE
    go_enter Try.func126, Try.ntmps126
    go_wp2
    go_ret
    exact ⟨ret_i64 HE.out.symm, rfl⟩

set_option maxHeartbeats 400000 in
theorem from_ok (x y : FL) (w : World) (hx : FL.In w x) (hy : FL.In w y) (ox : x.r.Ok) (oy : y.r.Ok) :
    Calls Try.prog 128 #[frV x.r x.a x.c x.b x.d, frV y.r y.a y.c y.b y.d] w fun e w' => e = .returned (.int .i64 (cmpF y.r x.r)) ∧ ∃ z, w' = w.ext z := by
  have K := Lib.hid (fun (W : World) (hb : Blw w W) => ratioCompare_ok y.r x.r y.a y.c y.b y.d x.a x.c x.b x.d W (hy.blw hb) (hx.blw hb) oy ox)
  clear hx hy ox oy
  go_enter Try.func128, Try.ntmps128
  go_wp2_with fail
  refine Calls.mono (K.out _ (by repeat (first | exact Blw.refl _ | apply Blw.ext | apply Blw.alloc | apply Blw.drewN | apply Blw.drew | refine Blw.setCell ?_ _ _ (by simp)))) ?_
  rintro e w1 ⟨rfl, x1, rfl⟩
  go_wp2
  go_ret
  exact ⟨rfl, Blw.is (by repeat (first | exact Blw.refl _ | apply Blw.ext | apply Blw.alloc | apply Blw.drewN | apply Blw.drew | refine Blw.setCell ?_ _ _ (by simp)))⟩
end Go.Proofs.Ytigkfdoeneemeaa
/- The walk of water.copied. -/
namespace Go.Proofs.Ytigkfdoeneemeaa
open Go.RowKit

theorem own_past {W1 W9 w2 : World} {B n size : Nat} {e : TypeId} {v : Value} {cs : List Value} {g : Option Nat} (h : W1.ownsRow B e size v n cs) (k : Blw W1 W9) (hg : W9.grownBy w2 g) (hne : ∀ i, v.ownBlock = some i → g ≠ some i) : w2.ownsRow B e size v n cs :=
  KeptO.own (O := fun k => g = some k) (KeptO.grown (KeptO.of_blw k) hg (fun _ hk => .inl hk)) h (fun k hk e => hne k hk e)

set_option maxRecDepth 100000 in
set_option maxHeartbeats 8000000 in
theorem waterCopied_any (r : Fr) (a : Option Addr) (c : Nat) (b : Option Addr) (d : Nat) (w : World) (h : FrA w r a c b d) (hr : r.Ok) :
    Calls Try.prog 129 #[frV r a c b d] w (RetFr1 w r) := by
  obtain ⟨rn, rnum, rden⟩ := r
  obtain ⟨W0, hW0⟩ : ∃ W0, W0 = ((w.alloc (.cells #[.bool rn, .slice a rnum.length c, .slice b rden.length d] 88 (0, 0))).alloc (.cells #[.bool false, .slice none 0 0, .slice none 0 0] 88 (0, 0))) := ⟨_, rfl⟩
  have hb0 : Blw w W0 := by rw [hW0]; exact (by repeat (first | exact Blw.refl _ | apply Blw.ext | apply Blw.alloc | apply Blw.drewN | apply Blw.drew | refine Blw.setCell ?_ _ _ (by simp)))
  have hs0 : W0.heap.size = w.heap.size + 2 := by rw [hW0]; simp
  have hR0 : W0.heap[w.heap.size + 1]? = some (.cells #[.bool false, .slice none 0 0, .slice none 0 0] 88 (0, 0)) := by
    have := heap_alloc_new (w.alloc (.cells #[.bool rn, .slice a rnum.length c, .slice b rden.length d] 88 (0, 0))) (.cells #[.bool false, .slice none 0 0, .slice none 0 0] 88 (0, 0))
    rw [show (w.alloc (.cells #[.bool rn, .slice a rnum.length c, .slice b rden.length d] 88 (0, 0))).heap.size = w.heap.size + 1 by simp] at this
    rw [hW0]; exact this
  have hB0 : W0.heap[w.heap.size]? = some (.cells #[.bool rn, .slice a rnum.length c, .slice b rden.length d] 88 (0, 0)) := by rw [hW0]; exact at_alloc _ (heap_alloc_new _ _)
  have hA := h.an.blw hb0
  have hD := h.ad.blw hb0
  have hl1 : (u32s rnum).length = rnum.length * 1 := by simp
  have hl2 : (u32s rden).length = rden.length * 1 := by simp
  have ln := hr.ln
  have ld := hr.ld
  have na := fun e => (h.na e).2
  have nb := fun e => (h.nb e).2
  simp only at ln ld na nb hA hD
  clear h hr
  go_enter Try.func129, Try.ntmps129
  go_wp2_with fail
  have hS0 : w.heap.size + 1 < W0.heap.size ∧ Blw w W0 ∧ W0.cell? ⟨w.heap.size, 0, none⟩ = some (.bool rn) ∧ W0.cell? ⟨w.heap.size, 1, none⟩ = some (.slice a rnum.length c) ∧ W0.cell? ⟨w.heap.size, 2, none⟩ = some (.slice b rden.length d) :=
    ⟨by omega, hb0, (cell_of_row W0 _ 0 _ _ _ hB0).trans rfl, (cell_of_row W0 _ 1 _ _ _ hB0).trans rfl, (cell_of_row W0 _ 2 _ _ _ hB0).trans rfl⟩
  have KS : ∀ W W' : World, (w.heap.size + 1 < W.heap.size ∧ Blw w W ∧ W.cell? ⟨w.heap.size, 0, none⟩ = some (.bool rn) ∧ W.cell? ⟨w.heap.size, 1, none⟩ = some (.slice a rnum.length c) ∧ W.cell? ⟨w.heap.size, 2, none⟩ = some (.slice b rden.length d)) → Blw W W' →
      (w.heap.size + 1 < W'.heap.size ∧ Blw w W' ∧ W'.cell? ⟨w.heap.size, 0, none⟩ = some (.bool rn) ∧ W'.cell? ⟨w.heap.size, 1, none⟩ = some (.slice a rnum.length c) ∧ W'.cell? ⟨w.heap.size, 2, none⟩ = some (.slice b rden.length d)) := by
    rintro W W' ⟨h1, h2, h3, h4, h5⟩ hb
    exact ⟨Nat.lt_of_lt_of_le h1 hb.size, h2.trans hb, (Below.cell hb (by show w.heap.size < _; omega)).trans h3, (Below.cell hb (by show w.heap.size < _; omega)).trans h4, (Below.cell hb (by show w.heap.size < _; omega)).trans h5⟩
  have KR : ∀ W W' : World, W.heap[w.heap.size + 1]? = some (.cells #[.bool false, .slice none 0 0, .slice none 0 0] 88 (0, 0)) → Blw W W' → W'.heap[w.heap.size + 1]? = some (.cells #[.bool false, .slice none 0 0, .slice none 0 0] 88 (0, 0)) :=
    fun W W' hF hb => (KeptO.of_blw (O := fun _ => False) hb).heap hF id
  have RR : ∀ W : World, W.heap[w.heap.size + 1]? = some (.cells #[.bool false, .slice none 0 0, .slice none 0 0] 88 (0, 0)) → (∀ i, W.frozen? ⟨w.heap.size + 1, i, none⟩ = false) ∧ W.cell? ⟨w.heap.size + 1, 0, none⟩ = some (.bool false) ∧ W.cell? ⟨w.heap.size + 1, 1, none⟩ = some (.slice none 0 0) ∧ W.cell? ⟨w.heap.size + 1, 2, none⟩ = some (.slice none 0 0) :=
    fun W hF => ⟨fun i => frozen_of_row W _ i _ _ hF, (cell_of_row W _ 0 _ _ _ hF).trans rfl, (cell_of_row W _ 1 _ _ _ hF).trans rfl, (cell_of_row W _ 2 _ _ _ hF).trans rfl⟩
  have HKS := Lib.hid KS
  have HKR := Lib.hid KR
  have HRR := Lib.hid RR
  clear KS KR RR
  subst hW0
  have hSd : w.heap.size + 1 < (((w.alloc (.cells #[.bool rn, .slice a rnum.length c, .slice b rden.length d] 88 (0, 0))).alloc (.cells #[.bool false, .slice none 0 0, .slice none 0 0] 88 (0, 0)))).drew.heap.size ∧ Blw w (((w.alloc (.cells #[.bool rn, .slice a rnum.length c, .slice b rden.length d] 88 (0, 0))).alloc (.cells #[.bool false, .slice none 0 0, .slice none 0 0] 88 (0, 0)))).drew ∧ (((w.alloc (.cells #[.bool rn, .slice a rnum.length c, .slice b rden.length d] 88 (0, 0))).alloc (.cells #[.bool false, .slice none 0 0, .slice none 0 0] 88 (0, 0)))).drew.cell? ⟨w.heap.size, 0, none⟩ = some (.bool rn) ∧ (((w.alloc (.cells #[.bool rn, .slice a rnum.length c, .slice b rden.length d] 88 (0, 0))).alloc (.cells #[.bool false, .slice none 0 0, .slice none 0 0] 88 (0, 0)))).drew.cell? ⟨w.heap.size, 1, none⟩ = some (.slice a rnum.length c) ∧ (((w.alloc (.cells #[.bool rn, .slice a rnum.length c, .slice b rden.length d] 88 (0, 0))).alloc (.cells #[.bool false, .slice none 0 0, .slice none 0 0] 88 (0, 0)))).drew.cell? ⟨w.heap.size, 2, none⟩ = some (.slice b rden.length d) := HKS.out _ _ hS0 ((Blw.refl _).drew)
  go_region_held3 (fun W => w.heap.size + 1 < W.heap.size ∧ Blw w W ∧ W.cell? ⟨w.heap.size, 0, none⟩ = some (.bool rn) ∧ W.cell? ⟨w.heap.size, 1, none⟩ = some (.slice a rnum.length c) ∧ W.cell? ⟨w.heap.size, 2, none⟩ = some (.slice b rden.length d)) (first | assumption | (exact HKS.out _ _ hS0 (((Blw.refl _).alloc _).drew)) | (exact HKS.out _ _ hS0 ((((Blw.refl _).alloc _).alloc _).drew)) | (exact HKS.out _ _ (by assumption) ((Blw.refl _).alloc _)) | (refine ⟨?_, blw_three (Blw.trans hb0 (by assumption)) (Nat.le_succ _) _ _ _, ?_, ?_, ?_⟩ <;> go_keep)) (first
    | (refine step_app ((w.alloc (.cells #[.bool rn, .slice a rnum.length c, .slice b rden.length d] 88 (0, 0))).alloc (.cells #[.bool false, .slice none 0 0, .slice none 0 0] 88 (0, 0))) _ (by rfl) _ _ 86 (by rfl) sl_words ?_ _ 0 [] (by rfl) (ownsRow_empty ?_ rfl ?_) a rnum.length c (u32s rnum) (by rfl) na (hA.blw ?_) hl1 (u32s_one _) (by unfold maxLen; omega) (by omega) ?_
       · (first | exact ((Blw.refl _).alloc _).drew | exact (((Blw.refl _).alloc _).alloc _).drew | exact Blw.alloc (by assumption) _ | assumption)
       · (first | (with_reducible refine at_drew (heap_alloc_at ?_); simp; done) | (with_reducible refine at_drew (at_alloc _ (heap_alloc_at ?_)); simp; done) | (with_reducible exact heap_alloc_at rfl) | (with_reducible refine heap_alloc_at ?_; simp; done) | (refine HD2.out _ ?_ _ ?_ <;> first | (with_reducible refine at_drew (heap_alloc_at ?_); simp; done) | (with_reducible refine at_drew (at_alloc _ (heap_alloc_at ?_)); simp; done) | (simp [Value.ownBlock]; done)))
       · (first | (simp; done) | (have hq := Blw.size b2; simp at hq; first | omega | (simp; omega)))
       · (first | exact ((Blw.refl _).alloc _).drew | exact (((Blw.refl _).alloc _).alloc _).drew | exact Blw.alloc (by assumption) _ | assumption)
       intro v1 w1 o1 b1 g1 t1
       rw [Nat.zero_add, List.nil_append] at o1
       obtain ⟨p1, q1, rfl, -, -, -, -, -⟩ := own_arr o1
       have hS1 := HKS.out _ _ hS0 b1
       have hRR1 := HRR.out _ (HKR.out _ _ hR0 b1)
       have HD1 := Lib.hid (fun (k : Nat) (hne : some k ≠ _) (x : Obj) (hk : _ = some x) => at_grown g1 hne hk))
    | (refine step_app ((w.alloc (.cells #[.bool rn, .slice a rnum.length c, .slice b rden.length d] 88 (0, 0))).alloc (.cells #[.bool false, .slice none 0 0, .slice none 0 0] 88 (0, 0))) _ (by rfl) _ _ 86 (by rfl) sl_words ?_ _ 0 [] (by rfl) (ownsRow_empty ?_ rfl ?_) b rden.length d (u32s rden) (by rfl) nb (hD.blw ?_) hl2 (u32s_one _) (by unfold maxLen; omega) (by omega) ?_
       · (first | exact ((Blw.refl _).alloc _).drew | exact (((Blw.refl _).alloc _).alloc _).drew | exact Blw.alloc (by assumption) _ | assumption)
       · (first | (with_reducible refine at_drew (heap_alloc_at ?_); simp; done) | (with_reducible refine at_drew (at_alloc _ (heap_alloc_at ?_)); simp; done) | (with_reducible exact heap_alloc_at rfl) | (with_reducible refine heap_alloc_at ?_; simp; done) | (refine HD1.out _ ?_ _ ?_ <;> first | (with_reducible refine at_drew (heap_alloc_at ?_); simp; done) | (with_reducible refine at_drew (at_alloc _ (heap_alloc_at ?_)); simp; done) | (simp [Value.ownBlock]; done)))
       · (first | (simp; done) | (have hq := Blw.size b1; simp at hq; first | omega | (simp; omega)))
       · (first | exact ((Blw.refl _).alloc _).drew | exact (((Blw.refl _).alloc _).alloc _).drew | exact Blw.alloc (by assumption) _ | assumption)
       intro v2 w2 o2 b2 g2 t2
       rw [Nat.zero_add, List.nil_append] at o2
       obtain ⟨p2, q2, rfl, -, -, -, -, -⟩ := own_arr o2
       have hS2 := HKS.out _ _ hS0 b2
       have hRR2 := HRR.out _ (HKR.out _ _ hR0 b2)
       have HD2 := Lib.hid (fun (k : Nat) (hne : some k ≠ _) (x : Obj) (hk : _ = some x) => at_grown g2 hne hk)))
  all_goals
    have hF2 := HKR.out _ _ hR0 b2
    obtain ⟨hfz, e0, e1, e2, r0, r1, r2⟩ := three hF2 (.bool rn) (.slice p1 rnum.length q1) (.slice p2 rden.length q2)
    have o12 : w2.ownsRow ((w.alloc (.cells #[.bool rn, .slice a rnum.length c, .slice b rden.length d] 88 (0, 0))).alloc (.cells #[.bool false, .slice none 0 0, .slice none 0 0] 88 (0, 0))).heap.size 135 1 (.slice p1 rnum.length q1) rnum.length (u32s rnum) := by
      first
      | (refine own_past o1 ((Blw.refl w1).alloc _) g2 ?_
         intro i hi e
         have h1 := World.ownsRow.lt o1 i hi
         simp [Value.ownBlock] at e
         omega)
      | (refine own_past o1 (Blw.refl w1) g2 ?_
         intro i hi e
         rw [hi] at t1
         simp [Value.ownBlock] at e t1
         omega)
    have hs3 : ((w.alloc (.cells #[.bool rn, .slice a rnum.length c, .slice b rden.length d] 88 (0, 0))).alloc (.cells #[.bool false, .slice none 0 0, .slice none 0 0] 88 (0, 0))).heap.size = w.heap.size + 2 := by simp
    rw [hs3] at o12 o2
    have hbw : Blw w w2 := Blw.trans hb0 b2
    clear hF2 hS1 hS2 hRR1 hRR2 HD1 HD2 t1 t2 g1 g2 b1 b2 o1 hS0 hSd HKS HKR HRR hR0 hB0 hA hD
    go_wp2_with fail
    exact bodyPost_ret (v := .agg #[.bool rn, .slice p1 rnum.length q1, .slice p2 rden.length q2]) (by simp [results, Try.results129, go_sem, r0, r1, r2]) rfl ⟨p1, q1, p2, q2, rfl, blw_three hbw (Nat.le_succ _) _ _ _, own_three o12 (Nat.lt_succ_self _) _ _ _ |> (ownsRow_mono · (by omega)), own_three o2 (Nat.lt_succ_self _) _ _ _ |> (ownsRow_mono · (by omega))⟩
end Go.Proofs.Ytigkfdoeneemeaa
/- The walk of water.Of, of heights that may be. -/
namespace Go.Proofs.Ytigkfdoeneemeaa
open Go.RowKit

def fl0 : FL := ⟨⟨false, [], []⟩, none, 0, none, 0⟩
def rg (l : List FL) (i : Nat) : Fr := (l.getD i fl0).r
/-- How a height goes from the one ahead. -/
def sg (l : List FL) (i : Nat) : Int := cmpF (rg l i) (rg l (i - 1))
def wkey (l : List FL) (first : Int) (t : Nat × Nat × Bool) : Int × Int × Bool × Fr := (first + t.1, first + t.2.1, t.2.2, rg l t.1)
theorem rg_at {l : List FL} {i : Nat} {x : FL} (h : l[i]? = some x) : rg l i = x.r := by unfold rg; rw [List.getD_eq_getElem?_getD, h]; rfl

/-- The fraction's words lie in memory of the call's own. -/
def OwnFL (B : Nat) (w : World) (x : FL) : Prop :=
  w.ownsRow B 135 1 (.slice x.a x.r.num.length x.c) x.r.num.length (u32s x.r.num) ∧ w.ownsRow B 135 1 (.slice x.b x.r.den.length x.d) x.r.den.length (u32s x.r.den) ∧ W.WF x.r.num ∧ W.WF x.r.den
theorem OwnFL.blw {B : Nat} {w w' : World} {x : FL} (h : OwnFL B w x) (k : Blw w w') : OwnFL B w' x := ⟨ownsRow_blw h.1 k, ownsRow_blw h.2.1 k, h.2.2.1, h.2.2.2⟩
theorem OwnFL.in {B : Nat} {w : World} {x : FL} (h : OwnFL B w x) : FL.In w x := FrA.own h.1 h.2.1 h.2.2.1 h.2.2.2
/-- Rows of elements of different types lie in different blocks. -/
theorem own_types {w : World} {B B2 n n2 size size2 : Nat} {e e2 : TypeId} {v v2 : Value} {cs cs2 : List Value} (h : w.ownsRow B e size v n cs) (k : w.ownsRow B2 e2 size2 v2 n2 cs2) (hne : e ≠ e2) : ∀ i, v.ownBlock = some i → v2.ownBlock ≠ some i := by
  intro i h1 h2
  rcases h.2 with ⟨rfl, _⟩ | ⟨g, c, cur, rfl, _, hh, _⟩
  · cases h1
  · rcases k.2 with ⟨rfl, _⟩ | ⟨g2, c2, cur2, rfl, _, kk, _⟩
    · cases h2
    · simp [Value.ownBlock] at h1 h2
      rw [h1] at hh
      rw [h2, hh] at kk
      simp at kk
      exact hne kk.2
theorem OwnFL.past {B B2 n2 size2 : Nat} {e2 : TypeId} {w w' : World} {v2 : Value} {cs2 : List Value} {x : FL} (h : OwnFL B w x) (k : w.ownsRow B2 e2 size2 v2 n2 cs2) (hne : (135 : TypeId) ≠ e2) (hg : w.grownBy w' v2.ownBlock) : OwnFL B w' x :=
  ⟨own_past h.1 (Blw.refl w) hg (fun i hi => own_types h.1 k hne i hi), own_past h.2.1 (Blw.refl w) hg (fun i hi => own_types h.2.1 k hne i hi), h.2.2.1, h.2.2.2⟩

def OfOut (w : World) (l : List FL) (first : Int) (e : Ending) (w' : World) : Prop :=
  ∃ (out : List WL) (a : Option Addr) (c : Nat), e = .returned (.tuple #[.slice a out.length c, .int .i64 0]) ∧ Blw w w' ∧ w'.ownsRow w.heap.size 90 6 (.slice a out.length c) out.length (wls out) ∧ (∀ x ∈ out, OwnFL w.heap.size w' x.h) ∧
    out.map WL.key = (wats (sg l) l.length l.length).map (wkey l first)
theorem sl_waters : SlT Try.prog 84 90 (.agg #[.int .i64 0, .int .i64 0, .bool false, .bool false, .slice none 0 0, .slice none 0 0]) 6 80 := ⟨Try.underlying84, by kernel_rfl, by kernel_rfl, by decide⟩
theorem cntd_zero {n : Nat} {first : Int} (h : cntd n first = 0) : n ≤ 4096 ∧ 0 ≤ first ∧ first ≤ 1048576 ∧ (0 < n → first + n ≤ 1048577) := by
  unfold cntd at h
  split at h
  · cases h
  · split at h
    · cases h
    · omega

set_option maxRecDepth 100000 in
set_option maxHeartbeats 8000000 in
theorem waterOf_ok (A : Option Addr) (l : List FL) (cap : Nat) (first : Int) (w : World) (hA : Arr w A (fls l)) (hin : ∀ x ∈ l, FL.In w x) (hok : ∀ x ∈ l, x.r.Ok) (hc : cntd l.length first = 0) :
    Calls Try.prog 76 #[.slice A l.length cap, .int .i64 first] w (OfOut w l first) := by
  obtain ⟨hlen, hf0, hf1, hfn⟩ := cntd_zero hc
  have CN := fun W => counted_any l.length first W (by omega)
  rw [hc] at CN
  have HCN := Lib.hid CN
  have HIN := Lib.hid hin
  have HOK := Lib.hid hok
  clear CN hc hin hok
  go_enter Try.func76, Try.ntmps76
  go_wp2
  go_step3
  go_wp2_with (go_at_call 126; refine Calls.mono (HCN.out _) ?_; rintro e w1 ⟨rfl, rfl⟩)
  clear HCN
  go_loopw [24] (fun vi wr => ∃ k : Nat, k ≤ l.length ∧ vi = .int .i64 k ∧ Blw w1 wr) (fun i _ => l.length - (intOf i).toNat)
  case atStart => exact ⟨0, Nat.zero_le _, rfl, Blw.refl _⟩
  case round =>
    obtain ⟨k, hk, rfl, hb⟩ := hrel
    by_cases hlt : k < l.length
    · obtain ⟨x, b, o, hgk, hm, rfl, hbs, c0, c1, c2⟩ := fl_at (hA.blw hb) hlt
      have hx := (HIN.out x hm).blw hb
      have hck := fun W (hb : Blw wr W) => ratioCheck_any x.r x.a x.c x.b x.d W (FL.In.blw hx hb)
      rw [chkF_ok (HOK.out x hm)] at hck
      have HCK := Lib.hid hck
      clear hck hgk hm hx
      go_wp2_with fail
      refine Calls.mono (HCK.out _ (by repeat (first | exact Blw.refl _ | apply Blw.ext | apply Blw.alloc | apply Blw.drewN | apply Blw.drew | refine Blw.setCell ?_ _ _ (by simp)))) ?_
      rintro e w2 ⟨rfl, x2, rfl⟩
      go_wp2_with fail
      go_roundw
      case rel => exact ⟨k + 1, by omega, by go_num, (hb.alloc _).ext x2⟩
      case measure => simp [intOf]; omega
    · go_wp2
      go_step3
      go_wp2
      have hB0 := hb
      clear hlt hk hb
      go_loopg [10, 11] l.length (fun g vo vi wx => ∃ (i : Nat) (out : List WL) (a : Option Addr) (c : Nat), i + g = l.length + 1 ∧ (1 ≤ i ∧ (i ≤ l.length ∨ i = 1)) ∧ vi = .int .i64 i ∧ vo = .slice a out.length c ∧ wx.ownsRow w1.heap.size 90 6 (.slice a out.length c) out.length (wls out) ∧ (∀ x ∈ out, OwnFL w1.heap.size wx x.h) ∧
        Hid (out.map WL.key = (wats (sg l) l.length i).map (wkey l first)) ∧ out.length ≤ i ∧ Blw w1 wx)
      case atStart => exact ⟨1, [], none, 0, by omega, ⟨Nat.le_refl _, .inr rfl⟩, rfl, rfl, World.ownsRow_nil _ _ _ _, (fun x h => by simp at h), (by show _ = _; rw [wats_one]; rfl), by simp, hB0⟩
      case round =>
        obtain ⟨i, out, a, c, hig, ⟨h1, h1'⟩, rfl, rfl, hown, hio, hkey, hol, hbx⟩ := hrel
        clear hB0
        have HIO := Lib.hid hio
        clear hio
        by_cases hlt : i < l.length
        · obtain ⟨j, rfl⟩ : ∃ j, i = j + 1 := ⟨i - 1, by omega⟩
          obtain ⟨g, rfl⟩ : ∃ g, gk = g + 1 := ⟨gk - 1, by omega⟩
          obtain ⟨x, b, o, hgx, hmx, rfl, hbs, c0, c1, c2⟩ := fl_at (k := j) (hA.blw hbx) (by omega)
          obtain ⟨y, b', o', hgy, hmy, e', -, d0, d1, d2⟩ := fl_at (k := j + 1) (hA.blw hbx) hlt
          simp only [Option.some.injEq, Addr.mk.injEq] at e'
          obtain ⟨rfl, rfl, -⟩ := e'
          obtain ⟨S, hS⟩ : ∃ S, S = sg l (j + 1) := ⟨_, rfl⟩
          have hSv : cmpF y.r x.r = S := by rw [hS]; unfold sg; rw [rg_at hgy, Nat.add_sub_cancel, rg_at hgx]
          have FR := fun W (hb : Blw wr W) => from_ok x y W (((HIN.out x hmx).blw hbx).blw hb) (((HIN.out y hmy).blw hbx).blw hb) (HOK.out x hmx) (HOK.out y hmy)
          rw [hSv] at FR
          have HFR := Lib.hid FR
          have CP := fun W (hb : Blw wr W) => waterCopied_any y.r y.a y.c y.b y.d W (FrA.blw ((HIN.out y hmy).blw hbx) hb) (HOK.out y hmy)
          have HCP := Lib.hid CP
          have HRY := Lib.hid (rg_at hgy)
          have HGY := Lib.hid hgy
          have HWY := Lib.hid ((HIN.out y hmy).wn)
          have HWZ := Lib.hid ((HIN.out y hmy).wd)
          have HS := Lib.hid hS
          clear FR CP hSv hS hgx hgy hmx hmy
          have i0 : (0 : Int) ≤ (j : Int) := by omega
          have i1 : (j : Int) < (l.length : Int) := by omega
          have i2 : (0 : Int) ≤ (j : Int) + 1 := by omega
          have i3 : (j : Int) + 1 < (l.length : Int) := by omega
          have i4 : IntKind.i64.wrap (j : Int) = (j : Int) := by rw [IntKind.wrap_i64]; omega
          have i5 : ((j : Int) + 1).toNat = j + 1 := by omega
          go_wp2_with fail
          refine wp_region_ext_lit (by kernel_rfl) (by kernel_rfl) ?_
          repeat (quiet_step ((go_at_call 128; exact Calls.ext_of (HFR.out _ (by repeat (first | exact Blw.refl _ | apply Blw.ext | apply Blw.alloc | apply Blw.drewN | apply Blw.drew | refine Blw.setCell ?_ _ _ (by simp)))))))
          refine wpQuiet_nil ?_
          rintro _ ⟨z, rfl⟩
          clear HFR c0 c1 c2 d0 d1 d2
          by_cases s0 : S = 0
          · have HK : Hid (out.map WL.key = (wats (sg l) l.length (j + 1 + 1)).map (wkey l first)) := by
              show _ = _
              rw [wats_none (wat_zero (HS.out.symm.trans s0))]; exact hkey.out
            subst s0
            have HIO2 := Lib.hid (fun x hx => (HIO.out x hx).blw (World.blw_ext wr z))
            go_wp2
            go_roundg g
            case measure => omega
            case rel => exact ⟨j + 1 + 1, out, a, c, by omega, ⟨by omega, .inl (by omega)⟩, by go_num, rfl, ownsRow_blw hown (World.blw_ext _ z), HIO2.out, HK, by omega, hbx.ext z⟩
          · have q0 : (S == 0) = false := by simpa using s0
            have hown2 := ownsRow_blw hown (World.blw_ext wr z)
            have HIO2 := Lib.hid (fun x hx => (HIO.out x hx).blw (World.blw_ext wr z))
            have hb2 := hbx.ext z
            have HCP2 := Lib.hid (fun W (hb : Blw (wr.ext z) W) => HCP.out W ((World.blw_ext wr z).trans hb))
            clear HCP HIO hown
            go_wp2_with fail
            go_loopg [10, 13] (l.length - (j + 2)) (fun g2 vo vk wy => ∃ k : Nat, vo = .slice a out.length c ∧ k + g2 = l.length ∧ j + 2 ≤ k ∧ vk = .int .i64 k ∧ Hid (nextS (sg l) l.length (j + 1 + 1) = nextS (sg l) l.length k) ∧ Blw (wr.ext z) wy)
            case atStart => exact ⟨j + 2, rfl, by omega, Nat.le_refl _, by go_num, rfl, Blw.refl _⟩
            case round =>
              obtain ⟨k, rfl, hkg, hk1, rfl, hnx, hby⟩ := hrel
              by_cases hlt2 : k < l.length
              · obtain ⟨m, rfl⟩ : ∃ m, k = m + 1 := ⟨k - 1, by omega⟩
                obtain ⟨g3, rfl⟩ : ∃ g3, gk = g3 + 1 := ⟨gk - 1, by omega⟩
                have hbw := hb2.trans hby
                obtain ⟨u, b2, o2, hgu, hmu, e2, hbs2, c0, c1, c2⟩ := fl_at (k := m) (hA.blw hbw) (by omega)
                obtain ⟨v, b3, o3, hgv, hmv, e3, -, d0, d1, d2⟩ := fl_at (k := m + 1) (hA.blw hbw) hlt2
                simp only [Option.some.injEq, Addr.mk.injEq] at e2 e3
                obtain ⟨rfl, rfl, -⟩ := e2
                obtain ⟨rfl, rfl, -⟩ := e3
                obtain ⟨S2, hS2⟩ : ∃ S2, S2 = sg l (m + 1) := ⟨_, rfl⟩
                have hSv : cmpF v.r u.r = S2 := by rw [hS2]; unfold sg; rw [rg_at hgv, Nat.add_sub_cancel, rg_at hgu]
                have FR := fun W (hb : Blw wr W) => from_ok u v W (((HIN.out u hmu).blw hbw).blw hb) (((HIN.out v hmv).blw hbw).blw hb) (HOK.out u hmu) (HOK.out v hmv)
                rw [hSv] at FR
                have HFR := Lib.hid FR
                have HS2 := Lib.hid hS2
                clear FR hSv hS2 hgu hgv hmu hmv
                have j0 : (0 : Int) ≤ (m : Int) := by omega
                have j1 : (m : Int) < (l.length : Int) := by omega
                have j2 : (0 : Int) ≤ (m : Int) + 1 := by omega
                have j3 : (m : Int) + 1 < (l.length : Int) := by omega
                have j4 : IntKind.i64.wrap (m : Int) = (m : Int) := by rw [IntKind.wrap_i64]; omega
                have j5 : ((m : Int) + 1).toNat = m + 1 := by omega
                go_wp2_with fail
                refine wp_region_ext_lit (by kernel_rfl) (by kernel_rfl) ?_
                repeat (quiet_step ((go_at_call 128; exact Calls.ext_of (HFR.out _ (by repeat (first | exact Blw.refl _ | apply Blw.ext | apply Blw.alloc | apply Blw.drewN | apply Blw.drew | refine Blw.setCell ?_ _ _ (by simp)))))))
                refine wpQuiet_nil ?_
                rintro _ ⟨z2, rfl⟩
                clear HFR c0 c1 c2 d0 d1 d2
                by_cases s2 : S2 = 0
                · have HN : Hid (nextS (sg l) l.length (j + 1 + 1) = nextS (sg l) l.length (m + 1 + 1)) := by
                    show _ = _
                    rw [hnx.out, nextS_on hlt2 (HS2.out.symm.trans s2)]
                  subst s2
                  go_wp2
                  go_roundg g3
                  case measure => omega
                  case rel => exact ⟨m + 1 + 1, rfl, by omega, by omega, by go_num, HN, hby.ext z2⟩
                · have q2 : (S2 == 0) = false := by simpa using s2
                  have HNX : Hid (nextS (sg l) l.length (j + 1 + 1) = some (m + 1)) := by
                    show _ = _
                    rw [hnx.out, nextS_at hlt2 (fun h => s2 (HS2.out.trans h))]
                  have hb5 := hb2.trans (hby.ext z2)
                  have hown5 := ownsRow_blw hown2 (hby.ext z2)
                  have HIO5 := Lib.hid (fun x hx => (HIO2.out x hx).blw (hby.ext z2))
                  by_cases s3 : S2 = S
                  · have HK : Hid (out.map WL.key = (wats (sg l) l.length (j + 1 + 1)).map (wkey l first)) := by
                      show _ = _
                      rw [wats_none (wat_same (by omega) (fun h => s0 (HS.out.trans h)) HNX.out (by rw [← HS.out, ← HS2.out]; exact s3))]; exact hkey.out
                    have q3 : (S2 != S) = false := by simpa using s3
                    clear hown2 hb2 s3
                    go_wp2_with fail
                    go_roundg g
                    case measure => omega
                    case rel => exact ⟨j + 1 + 1, out, a, c, by omega, ⟨by omega, .inl (by omega)⟩, by go_num, rfl, hown5, HIO5.out, HK, by omega, hb5⟩
                  · have q3 : (S2 != S) = true := by simpa using s3
                    have HW : Hid (wats (sg l) l.length (j + 1 + 1) = wats (sg l) l.length (j + 1) ++ [(j + 1, m, S == 1)]) := by
                      show _ = _
                      rw [wats_some (wat_turn (by omega) (fun h => s0 (HS.out.trans h)) HNX.out (by rw [← HS.out, ← HS2.out]; exact s3)), ← HS.out]; rfl
                    clear hown2 hb2
                    obtain ⟨y', b4, o4, hgy', -, e4, -, c0, c1, c2⟩ := fl_at (k := j + 1) (hA.blw hb5) hlt
                    simp only [Option.some.injEq, Addr.mk.injEq] at e4
                    obtain ⟨rfl, rfl, -⟩ := e4
                    obtain rfl : y = y' := by have := HGY.out.symm.trans hgy'; simpa using this
                    clear hgy'
                    have f1 : IntKind.i64.wrap (first + ((j : Int) + 1)) = first + ((j : Int) + 1) := by rw [IntKind.wrap_i64]; omega
                    have f2 : IntKind.i64.wrap (first + ((m : Int) + 1)) = first + ((m : Int) + 1) := by rw [IntKind.wrap_i64]; omega
                    have f3 : IntKind.i64.wrap (first + ((m : Int) + 1) - 1) = first + (m : Int) := by rw [IntKind.wrap_i64]; omega
                    go_wp2_with fail
                    refine Calls.mono (HCP2.out _ (hby.ext z2)) ?_
                    rintro e w5 ⟨p1, q1, p2, q2, rfl, hb6, oX, oY⟩
                    have oX5 := ownsRow_mono oX hb5.size
                    have oY5 := ownsRow_mono oY hb5.size
                    have hown6 := ownsRow_blw hown5 hb6
                    have HIO6 := Lib.hid (fun x hx => (HIO5.out x hx).blw hb6)
                    have hb8 := hb5.trans hb6
                    have HL := Lib.hid (cells_len WL.cells 6 (fun _ => rfl) out)
                    clear oX oY hown5 HIO5
                    go_wp2_with (at_builtin; refine wpList_app w1 _ rfl _ _ 84 rfl sl_waters (hb8.alloc _) _ out.length _ rfl (ownsRow_blw hown6 ((Blw.refl _).alloc _)) _ 1 1 [.int .i64 (first + ((j : Int) + 1)), .int .i64 (first + (m : Int)), .bool (S == 1), .bool y.r.neg, .slice p1 y.r.num.length q1, .slice p2 y.r.den.length q2] rfl (by simp) (Arr.lit _ _ _ _) (by simp) (by simp [Value.oneCell']) (by unfold maxLen; omega) (by omega) ?_; intro v7 w7 hown7 hb7 hg7 _)
                    obtain ⟨a7, c7, rfl, -, -, -, -, -⟩ := own_arr hown7
                    have HK : Hid ((out ++ [(⟨first + ((j : Int) + 1), first + (m : Int), S == 1, ⟨y.r, p1, q1, p2, q2⟩⟩ : WL)]).map WL.key = (wats (sg l) l.length (j + 1 + 1)).map (wkey l first)) := by
                      show _ = _
                      rw [HW.out, List.map_append, List.map_append, hkey.out]
                      simp [WL.key, wkey, HRY.out]
                    have HO : Hid (∀ x ∈ out ++ [(⟨first + ((j : Int) + 1), first + (m : Int), S == 1, ⟨y.r, p1, q1, p2, q2⟩⟩ : WL)], OwnFL w1.heap.size w7 x.h) := by
                      intro x hx
                      rw [List.mem_append, List.mem_singleton] at hx
                      rcases hx with hx | rfl
                      · exact OwnFL.past ((HIO6.out x hx).blw ((Blw.refl _).alloc _)) (ownsRow_blw hown6 ((Blw.refl _).alloc _)) (by decide) hg7
                      · exact OwnFL.past (OwnFL.blw ⟨oX5, oY5, HWY.out, HWZ.out⟩ ((Blw.refl _).alloc _)) (ownsRow_blw hown6 ((Blw.refl _).alloc _)) (by decide) hg7
                    have HWL : w7.ownsRow w1.heap.size 90 6 (.slice a7 (out ++ [(⟨first + ((j : Int) + 1), first + (m : Int), S == 1, ⟨y.r, p1, q1, p2, q2⟩⟩ : WL)]).length c7) (out ++ [(⟨first + ((j : Int) + 1), first + (m : Int), S == 1, ⟨y.r, p1, q1, p2, q2⟩⟩ : WL)]).length (wls (out ++ [(⟨first + ((j : Int) + 1), first + (m : Int), S == 1, ⟨y.r, p1, q1, p2, q2⟩⟩ : WL)])) := by
                      have e : wls (out ++ [(⟨first + ((j : Int) + 1), first + (m : Int), S == 1, ⟨y.r, p1, q1, p2, q2⟩⟩ : WL)]) = wls out ++ [.int .i64 (first + ((j : Int) + 1)), .int .i64 (first + (m : Int)), .bool (S == 1), .bool y.r.neg, .slice p1 y.r.num.length q1, .slice p2 y.r.den.length q2] := by
                        rw [wls, List.flatMap_append]; rfl
                      rw [e, List.length_append]
                      exact hown7
                    have HOL := Lib.hid HWL
                    clear hown7 HWL hg7
                    go_roundg g
                    case measure => omega
                    case rel => exact ⟨j + 1 + 1, _, a7, c7, by omega, ⟨by omega, .inl (by omega)⟩, by go_num, (by rw [List.length_append]; rfl), HOL.out, HO.out, HK, (by rw [List.length_append]; simp; omega), hb7⟩
              · have HK : Hid (out.map WL.key = (wats (sg l) l.length (j + 1 + 1)).map (wkey l first)) := by
                  show _ = _
                  rw [wats_none (wat_out (by omega) (fun h => s0 (HS.out.trans h)) (by rw [hnx.out, nextS_out hlt2]))]; exact hkey.out
                have hown5 := ownsRow_blw hown2 hby
                have HIO5 := Lib.hid (fun x hx => (HIO2.out x hx).blw hby)
                have hb5 := hb2.trans hby
                clear hown2 hb2
                go_wp2_with fail
                go_roundg g
                case measure => omega
                case rel => exact ⟨j + 1 + 1, out, a, c, by omega, ⟨by omega, .inl (by omega)⟩, by go_num, rfl, hown5, HIO5.out, HK, by omega, hb5⟩
        · have hlast : wats (sg l) l.length i = wats (sg l) l.length l.length := by
            rcases Nat.lt_or_ge 0 l.length with h | h
            · rw [show i = l.length by omega]
            · have h0 : l.length = 0 := by omega
              have hi1 : i = 1 := by omega
              rw [hi1, wats_one, h0]; rfl
          have HK := Lib.hid (hkey.out.trans (by rw [hlast]))
          clear hlast hkey
          go_wp2
          try rw [Exit.noGoto_ret]
          go_ret2
          exact ⟨out, a, c, rfl, hbx, hown, HIO.out, HK.out⟩
end Go.Proofs.Ytigkfdoeneemeaa
/- Fractions compared: as whole numbers, plain Lean. -/
namespace Go.Proofs.Ytigkfdoeneemeaa

def cmpI (x y : Int) : Int := if x < y then -1 else if y < x then 1 else 0
theorem cmpI_cases (x y : Int) : cmpI x y = -1 ∨ cmpI x y = 0 ∨ cmpI x y = 1 := by
  unfold cmpI; split
  · simp
  · split <;> simp
theorem cmpI_swap (x y : Int) : cmpI y x = - cmpI x y := by
  unfold cmpI
  rcases Int.lt_trichotomy x y with h | h | h
  · rw [if_neg (by omega), if_pos h, if_pos h]; rfl
  · subst h; simp
  · rw [if_pos h, if_neg (by omega), if_pos h]
theorem cmpI_neg (x y : Int) : cmpI (-x) (-y) = - cmpI x y := by
  rw [← cmpI_swap]
  unfold cmpI
  rcases Int.lt_trichotomy x y with h | h | h
  · rw [if_neg (by omega), if_pos (by omega), if_neg (by omega), if_pos h]
  · subst h; simp
  · rw [if_pos (by omega), if_pos h]
theorem cmpN_int (a b : Nat) : W.cmpN a b = cmpI a b := by
  rcases Nat.lt_trichotomy a b with h | h | h
  · rw [W.cmpN_lt h]; unfold cmpI; rw [if_pos (by omega)]
  · subst h; rw [W.cmpN_eq]; unfold cmpI; simp
  · rw [W.cmpN_gt h]; unfold cmpI; rw [if_neg (by omega), if_pos (by omega)]

/-- The sign's whole number over the line. -/
def Fr.p (r : Fr) : Int := if r.neg = true then -(W.val r.num : Int) else (W.val r.num : Int)
theorem Fr.Ok.den_pos {r : Fr} (h : r.Ok) : 0 < W.val r.den := W.val_pos h.nd (by intro e; have := h.d0; rw [e] at this; simp at this)
theorem Fr.Ok.num_pos {r : Fr} (h : r.Ok) (hn : r.neg = true) : 0 < W.val r.num := W.val_pos h.nn (by
  intro e
  have := h.ns (by rw [e]; rfl)
  rw [hn] at this; cases this)
theorem cmpF_is {r s : Fr} (hr : r.Ok) (hs : s.Ok) : cmpF r s = cmpI (r.p * (W.val s.den : Int)) (s.p * (W.val r.den : Int)) := by
  have q1 := hr.den_pos
  have q2 := hs.den_pos
  have n1 := hr.num_pos
  have n2 := hs.num_pos
  unfold cmpF Fr.p
  obtain ⟨rn, rnum, rden⟩ := r
  obtain ⟨sn, snum, sden⟩ := s
  simp only at q1 q2 n1 n2 ⊢
  generalize W.val rnum = a at *
  generalize W.val rden = b at *
  generalize W.val snum = c at *
  generalize W.val sden = d at *
  clear hr hs
  cases rn <;> cases sn
  · rw [if_neg (by simp), if_neg (by simp), if_neg (by simp), if_neg (by simp), if_neg (by simp), cmpN_int, Int.natCast_mul, Int.natCast_mul]
  · rw [if_neg (by simp), if_neg (by simp), if_pos rfl, if_neg (by simp), if_pos rfl]
    have h1 : 0 < c * b := Nat.mul_pos (n2 rfl) q1
    have e1 : -(c : Int) * (b : Int) = -((c * b : Nat) : Int) := by rw [Int.natCast_mul, Int.neg_mul]
    have e2 : (a : Int) * (d : Int) = ((a * d : Nat) : Int) := by rw [Int.natCast_mul]
    rw [e1, e2]
    unfold cmpI
    rw [if_neg (by omega), if_pos (by omega)]
  · rw [if_neg (by simp), if_pos rfl, if_pos rfl, if_neg (by simp)]
    have h1 : 0 < a * d := Nat.mul_pos (n1 rfl) q2
    have e1 : -(a : Int) * (d : Int) = -((a * d : Nat) : Int) := by rw [Int.natCast_mul, Int.neg_mul]
    have e2 : (c : Int) * (b : Int) = ((c * b : Nat) : Int) := by rw [Int.natCast_mul]
    rw [e1, e2]
    unfold cmpI
    rw [if_pos (by omega)]
  · rw [if_pos ⟨rfl, rfl⟩, if_pos rfl, if_pos rfl, cmpN_int]
    have e1 : -(a : Int) * (d : Int) = -((a * d : Nat) : Int) := by rw [Int.natCast_mul, Int.neg_mul]
    have e2 : -(c : Int) * (b : Int) = -((c * b : Nat) : Int) := by rw [Int.natCast_mul, Int.neg_mul]
    rw [e1, e2, cmpI_neg, ← cmpI_swap]
theorem cmpF_cases {r s : Fr} (hr : r.Ok) (hs : s.Ok) : cmpF r s = -1 ∨ cmpF r s = 0 ∨ cmpF r s = 1 := by rw [cmpF_is hr hs]; exact cmpI_cases _ _
theorem cmpF_swap {r s : Fr} (hr : r.Ok) (hs : s.Ok) : cmpF s r = - cmpF r s := by rw [cmpF_is hr hs, cmpF_is hs hr]; exact cmpI_swap _ _
theorem negF_p {r : Fr} (hr : r.Ok) : (negF r).p = - r.p := by
  unfold Fr.p negF
  simp only
  by_cases h0 : r.num.length = 0
  · have hn := hr.ns h0
    have : r.num = [] := List.eq_nil_of_length_eq_zero h0
    rw [hn, this]; simp [W.val]
  · have hp : decide (0 < r.num.length) = true := by simp; omega
    rw [hp, Bool.and_true]
    cases r.neg <;> simp
theorem cmpF_neg {r s : Fr} (hr : r.Ok) (hs : s.Ok) : cmpF (negF r) (negF s) = - cmpF r s := by
  rw [cmpF_is hr hs, cmpF_is (negF_ok hr) (negF_ok hs), negF_p hr, negF_p hs]
  show cmpI (-r.p * (W.val s.den : Int)) (-s.p * (W.val r.den : Int)) = _
  rw [Int.neg_mul, Int.neg_mul, cmpI_neg]
end Go.Proofs.Ytigkfdoeneemeaa
/- The walks of slackwaterref03.Order, Compare. -/
namespace Go.Proofs.Ytigkfdoeneemeaa
open Go.RowKit

def ordV (z : Bool × Nat) : Int := if z.2 = 0 then 0 else if z.1 = true then -1 else 1
theorem ordV_cmp {r s : Fr} (hr : r.Ok) (hs : s.Ok) : ordV (sgnF r.neg (W.val r.num * W.val s.den) (!s.neg) (W.val s.num * W.val r.den)) = cmpF r s := by
  have p1 := hr.den_pos
  have p2 := hs.den_pos
  have n1 := hr.num_pos
  have n2 := hs.num_pos
  have X0 : r.neg = true → 0 < W.val r.num * W.val s.den := fun h => Nat.mul_pos (n1 h) p2
  have Y0 : s.neg = true → 0 < W.val s.num * W.val r.den := fun h => Nat.mul_pos (n2 h) p1
  unfold cmpF
  generalize W.val r.num * W.val s.den = X at *
  generalize W.val s.num * W.val r.den = Y at *
  unfold sgnF ordV W.cmpN
  cases hn : r.neg <;> cases hm : s.neg
  · simp only [Bool.not_false, Bool.false_eq_true, if_false, Bool.false_and, false_and]
    by_cases h1 : X < Y
    · simp only [if_pos h1]
      rw [if_neg (by omega)]; rfl
    · simp only [if_neg h1]
      by_cases h2 : Y < X
      · rw [if_neg (by omega), if_pos h2]; rfl
      · rw [if_pos (by omega), if_neg h2]
  · have := Y0 hm
    simp only [Bool.not_true, if_true, Bool.false_eq_true, if_false, false_and]
    rw [if_neg (by omega)]
  · have := X0 hn
    simp only [Bool.not_false, if_true, Bool.false_eq_true, if_false, and_false]
    rw [if_neg (by omega)]
  · simp only [Bool.not_true, Bool.true_eq_false, if_false, if_true, Bool.true_and, and_self]
    by_cases h1 : X < Y
    · simp [if_pos h1, show ¬ (Y - X = 0) by omega, show ¬ Y < X by omega]
    · simp only [if_neg h1]
      by_cases h2 : Y < X
      · rw [if_neg (by omega), if_pos h2, if_pos (by simp; omega)]
      · rw [if_pos (by omega), if_neg h2]

set_option maxRecDepth 100000 in
set_option maxHeartbeats 4000000 in
theorem refOrder_ok (r s : Fr) (a : Option Addr) (c : Nat) (b : Option Addr) (d : Nat) (a' : Option Addr) (c' : Nat) (b' : Option Addr) (d' : Nat) (w : World) (h : FrA w r a c b d) (k : FrA w s a' c' b' d') (hr : r.Ok) (hs : s.Ok) :
    Calls Try.prog 180 #[frV r a c b d, frV s a' c' b' d'] w fun e w' => e = .returned (.int .i64 (cmpF r s)) ∧ ∃ x, w' = w.ext x := by
  have HO := ordV_cmp hr hs
  obtain ⟨S, hS⟩ : ∃ S : World → Prop, S = fun W => w.heap.size + 1 < W.heap.size ∧ Blw w W ∧ W.cell? ⟨w.heap.size, 0, none⟩ = some (.bool r.neg) ∧ W.cell? ⟨w.heap.size, 1, none⟩ = some (.slice a r.num.length c) ∧ W.cell? ⟨w.heap.size, 2, none⟩ = some (.slice b r.den.length d) ∧
      W.cell? ⟨w.heap.size + 1, 0, none⟩ = some (.bool s.neg) ∧ W.cell? ⟨w.heap.size + 1, 1, none⟩ = some (.slice a' s.num.length c') ∧ W.cell? ⟨w.heap.size + 1, 2, none⟩ = some (.slice b' s.den.length d') := ⟨_, rfl⟩
  have KS : ∀ W W' : World, S W → Blw W W' → S W' := by
    subst hS
    rintro W W' ⟨h1, h2, h3, h4, h5, h6, h7, h8⟩ hb
    exact ⟨Nat.lt_of_lt_of_le h1 hb.size, h2.trans hb, (Below.cell hb (by show w.heap.size < _; omega)).trans h3, (Below.cell hb (by show w.heap.size < _; omega)).trans h4, (Below.cell hb (by show w.heap.size < _; omega)).trans h5, (Below.cell hb h1).trans h6, (Below.cell hb h1).trans h7, (Below.cell hb h1).trans h8⟩
  have SB : ∀ W : World, S W → Blw w W := by
    subst hS
    rintro W ⟨h1, h2, -⟩; exact h2
  have HL := hr.len hs
  have L1 : (W.toW (W.val r.num * W.val s.den)).length ≤ 4096 := Nat.le_trans (times_len_le h.wn k.wd) (by have := hr.ln; have := hs.ld; omega)
  have L2 : (W.toW (W.val s.num * W.val r.den)).length ≤ 4096 := Nat.le_trans (times_len_le k.wn h.wd) (by have := hs.ln; have := hr.ld; omega)
  have T1 := Lib.hid (fun (W : World) (hb : S W) => refTimes3_any a b' r.num s.den c d' W (h.an.blw (SB W hb)) (k.ad.blw (SB W hb)) h.wn k.wd hr.nn hs.nd HL.1)
  have T2 := Lib.hid (fun (W : World) (hb : S W) => refTimes3_any a' b s.num r.den c' d W (k.an.blw (SB W hb)) (h.ad.blw (SB W hb)) k.wn h.wd hs.nn hr.nd HL.2.1)
  obtain ⟨X, hX⟩ : ∃ X, X = W.val r.num * W.val s.den := ⟨_, rfl⟩
  obtain ⟨Y, hY⟩ : ∃ Y, Y = W.val s.num * W.val r.den := ⟨_, rfl⟩
  rw [← hX] at T1 HO L1
  rw [← hY] at T2 HO L2
  have SG := Lib.hid (fun (Wd : World) (p1 : Option Addr) (q1 : Nat) (p2 : Option Addr) (q2 : Nat) (h1 : Arr Wd p1 (u32s (W.toW X))) (h2 : Arr Wd p2 (u32s (W.toW Y))) => refSigned_any r.neg (!s.neg) X Y p1 q1 p2 q2 Wd h1 h2 (Nat.le_trans L1 (by omega)) (Nat.le_trans L2 (by omega)))
  generalize cmpF r s = cv at *
  obtain ⟨rn, rnum, rden⟩ := r
  obtain ⟨sn, snum, sden⟩ := s
  simp only at T1 T2 SG HO
  obtain ⟨⟨zn, Z⟩, hz⟩ : ∃ z, z = sgnF rn X (!sn) Y := ⟨_, rfl⟩
  rw [← hz] at SG HO
  have HC := Lib.hid HO
  have HKS := Lib.hid KS
  have HSB := Lib.hid SB
  clear h k hr hs hX hY HL KS SB L1 L2 HO hz
  simp only at hS
  go_enter Try.func180, Try.ntmps180
  go_wp2_with fail
  have hS0 : S (((w.alloc (.cells #[.bool rn, .slice a rnum.length c, .slice b rden.length d] 88 (0, 0))).alloc (.cells #[.bool sn, .slice a' snum.length c', .slice b' sden.length d'] 88 (0, 0)))).drew := by
    rw [hS]
    exact ⟨by simp, (by repeat (first | exact Blw.refl _ | apply Blw.ext | apply Blw.alloc | apply Blw.drewN | apply Blw.drew | refine Blw.setCell ?_ _ _ (by simp))), by go_simp, by go_simp, by go_simp, by go_simp, by go_simp, by go_simp⟩
  subst hS
  go_region_held3 (fun W => w.heap.size + 1 < W.heap.size ∧ Blw w W ∧ W.cell? ⟨w.heap.size, 0, none⟩ = some (.bool rn) ∧ W.cell? ⟨w.heap.size, 1, none⟩ = some (.slice a rnum.length c) ∧ W.cell? ⟨w.heap.size, 2, none⟩ = some (.slice b rden.length d) ∧
      W.cell? ⟨w.heap.size + 1, 0, none⟩ = some (.bool sn) ∧ W.cell? ⟨w.heap.size + 1, 1, none⟩ = some (.slice a' snum.length c') ∧ W.cell? ⟨w.heap.size + 1, 2, none⟩ = some (.slice b' sden.length d')) (first | assumption | go_keep) (first
    | (go_at_call 195; (with_reducible refine Calls.mono (T1.out _ (by assumption)) ?_); rintro e w9 ⟨p1, q1, y1, rfl, rfl, o1, A1, -⟩; have hS1 := HKS.out _ _ (by assumption) (World.blw_ext _ y1))
    | (go_at_call 195; (with_reducible refine Calls.mono (T2.out _ (by assumption)) ?_); rintro e w9 ⟨p2, q2, y2, rfl, rfl, o2, A2, -⟩; have hS2 := HKS.out _ _ (by assumption) (World.blw_ext _ y2))
    | (go_at_call 194; (with_reducible refine Calls.mono (SG.out _ _ _ _ _ ?_ ?_) ?_); (first | exact A1 | exact A1.ext _); (first | exact A2 | exact A2.ext _); rintro e w9 ⟨p3, q3, rfl, b3, o3⟩; have hS3 := HKS.out _ _ (by assumption) b3; have hB3 := HSB.out _ hS3))
  all_goals
    clear T1 T2 SG HKS HSB hS0 hS1 hS2 hS3 o1 o2 A1 A2 o3 b3
    by_cases hZ : Z = 0
    · subst hZ
      have HV := HC.out
      simp only [ordV, if_pos] at HV
      subst HV
      clear HC
      simp only [W.toW_zero, List.length_nil]
      go_wp2
      go_ret
      exact ⟨rfl, Blw.is hB3⟩
    · have HV := HC.out
      simp only [ordV, if_neg hZ] at HV
      have hl0 : 0 < (W.toW Z).length := List.length_pos_iff.2 (W.toW_ne hZ)
      have d1 : (((W.toW Z).length : Int) == 0) = false := beq_false_of_ne (by omega)
      subst HV
      clear HC hZ
      cases zn
      all_goals
        go_wp2
        go_ret
        exact ⟨rfl, Blw.is hB3⟩

set_option maxHeartbeats 1000000 in
theorem refCompare3_bad (r s : Fr) (a : Option Addr) (c : Nat) (b : Option Addr) (d : Nat) (a' : Option Addr) (c' : Nat) (b' : Option Addr) (d' : Nat) (w : World) (h : FrA w r a c b d) (k : FrA w s a' c' b' d') (hu : ¬ chk2 r s = 0) :
    Calls Try.prog 159 #[frV r a c b d, frV s a' c' b' d'] w fun e w' => e = .returned (.tuple #[.int .i64 0, .int .i64 (chk2 r s)]) ∧ ∃ x, w' = w.ext x := by
  have K1 := fun (W : World) (hb : Blw w W) => refBoth3_any r s a c b d a' c' b' d' W (h.blw hb) (k.blw hb)
  generalize chk2 r s = u at *
  have H1 := Lib.hid K1
  have q : (u != 0) = true := by simpa using hu
  clear K1 h k
  go_enter Try.func159, Try.ntmps159
  go_wp2_with fail
  refine Calls.mono (H1.out _ (by repeat (first | exact Blw.refl _ | apply Blw.ext | apply Blw.alloc | apply Blw.drewN | apply Blw.drew | refine Blw.setCell ?_ _ _ (by simp)))) ?_
  rintro e w1 ⟨rfl, x1, rfl⟩
  go_wp2
  go_ret2
  exact ⟨rfl, Blw.is (by repeat (first | exact Blw.refl _ | apply Blw.ext | apply Blw.alloc | apply Blw.drewN | apply Blw.drew | refine Blw.setCell ?_ _ _ (by simp)))⟩
set_option maxHeartbeats 1000000 in
theorem refCompare3_ok (r s : Fr) (a : Option Addr) (c : Nat) (b : Option Addr) (d : Nat) (a' : Option Addr) (c' : Nat) (b' : Option Addr) (d' : Nat) (w : World) (h : FrA w r a c b d) (k : FrA w s a' c' b' d') (hr : r.Ok) (hs : s.Ok) :
    Calls Try.prog 159 #[frV r a c b d, frV s a' c' b' d'] w fun e w' => e = .returned (.tuple #[.int .i64 (cmpF r s), .int .i64 0]) ∧ ∃ x, w' = w.ext x := by
  have K1 := fun (W : World) (hb : Blw w W) => refBoth3_any r s a c b d a' c' b' d' W (h.blw hb) (k.blw hb)
  rw [show chk2 r s = 0 by unfold chk2; rw [chkF_ok hr, if_pos rfl, chkF_ok hs]] at K1
  have H1 := Lib.hid K1
  have H2 := Lib.hid (fun (W : World) (hb : Blw w W) => refOrder_ok r s a c b d a' c' b' d' W (h.blw hb) (k.blw hb) hr hs)
  generalize cmpF r s = cv at *
  clear K1 h k
  go_enter Try.func159, Try.ntmps159
  go_wp2_with fail
  refine Calls.mono (H1.out _ (by repeat (first | exact Blw.refl _ | apply Blw.ext | apply Blw.alloc | apply Blw.drewN | apply Blw.drew | refine Blw.setCell ?_ _ _ (by simp)))) ?_
  rintro e w1 ⟨rfl, x1, rfl⟩
  go_wp2_with fail
  refine Calls.mono (H2.out _ (by repeat (first | exact Blw.refl _ | apply Blw.ext | apply Blw.alloc | apply Blw.drewN | apply Blw.drew | refine Blw.setCell ?_ _ _ (by simp)))) ?_
  rintro e w1 ⟨rfl, x2, rfl⟩
  go_wp2
  go_ret2
  exact ⟨rfl, Blw.is (by repeat (first | exact Blw.refl _ | apply Blw.ext | apply Blw.alloc | apply Blw.drewN | apply Blw.drew | refine Blw.setCell ?_ _ _ (by simp)))⟩
end Go.Proofs.Ytigkfdoeneemeaa
/- The walk of water.wrong. -/
namespace Go.Proofs.Ytigkfdoeneemeaa
open Go.RowKit

def wrongN (x : WL) : Int := if x.tick < 0 then 2 else if 1048576 < x.last then 2 else if x.last < x.tick then 2 else chkF x.h.r
def wrongS (a x : WL) : Int :=
  if x.tick < 0 then 2 else if 1048576 < x.last then 2 else if x.last < x.tick then 2 else if x.tick ≤ a.last then 2 else if chkF x.h.r ≠ 0 then chkF x.h.r else if x.top = a.top then 2 else if cmpF x.h.r a.h.r = (if x.top then 1 else -1) then 0 else 2
abbrev wlV (x : WL) : Value := .agg #[.int .i64 x.tick, .int .i64 x.last, .bool x.top, .bool x.h.r.neg, .slice x.h.a x.h.r.num.length x.h.c, .slice x.h.b x.h.r.den.length x.h.d]

theorem dlt {a b : Int} (h : a < b) : decide (a < b) = true := by simpa using h
theorem dge {a b : Int} (h : ¬ a < b) : decide (a < b) = false := by simpa using h
theorem dle {a b : Int} (h : a ≤ b) : decide (a ≤ b) = true := by simpa using h
theorem dgt {a b : Int} (h : ¬ a ≤ b) : decide (a ≤ b) = false := by simpa using h

theorem bneI {a b : Int} (h : ¬ a = b) : (a != b) = true := by simpa using h
set_option maxRecDepth 100000 in
set_option maxHeartbeats 4000000 in
theorem wrong_none (x : WL) (w : World) (hx : FL.In w x.h) :
    Calls Try.prog 123 #[.pointer none, wlV x] w fun e w' => e = .returned (.int .i64 (wrongN x)) ∧ ∃ y, w' = w.ext y := by
  have he : wrongN x = if x.tick < 0 then 2 else if 1048576 < x.last then 2 else if x.last < x.tick then 2 else chkF x.h.r := rfl
  have CK := Lib.hid (fun (W : World) (hb : Blw w W) => ratioCheck_any x.h.r x.h.a x.h.c x.h.b x.h.d W (hx.blw hb))
  clear hx
  obtain ⟨t, la, tp, ⟨⟨rn, rnum, rden⟩, ra, rc, rb, rd⟩⟩ := x
  simp only at he CK
  generalize wrongN _ = res at *
  generalize chkF _ = u at *
  have HE := Lib.hid he
  clear he
  go_enter Try.func123, Try.ntmps123
  go_wp2_with fail
  by_cases h1 : t < 0
  · have d1 := dlt h1
    have HE1 := Lib.hid (HE.out.trans (if_pos h1))
    clear h1 HE
    go_quiet (fail)
    go_wp2
    go_ret
    exact ⟨ret_i64 HE1.out.symm, Blw.is (by repeat (first | exact Blw.refl _ | apply Blw.ext | apply Blw.alloc | apply Blw.drewN | apply Blw.drew | refine Blw.setCell ?_ _ _ (by simp)))⟩
  have d1 := dge h1
  replace HE := Lib.hid (HE.out.trans (if_neg h1))
  clear h1
  by_cases h2 : 1048576 < la
  · have d2 := dlt h2
    have HE1 := Lib.hid (HE.out.trans (if_pos h2))
    clear h2 HE
    go_quiet (fail)
    go_wp2
    go_ret
    exact ⟨ret_i64 HE1.out.symm, Blw.is (by repeat (first | exact Blw.refl _ | apply Blw.ext | apply Blw.alloc | apply Blw.drewN | apply Blw.drew | refine Blw.setCell ?_ _ _ (by simp)))⟩
  have d2 := dge h2
  replace HE := Lib.hid (HE.out.trans (if_neg h2))
  clear h2
  by_cases h3 : la < t
  · have d3 := dlt h3
    have HE1 := Lib.hid (HE.out.trans (if_pos h3))
    clear h3 HE
    go_quiet (fail)
    go_wp2
    go_ret
    exact ⟨ret_i64 HE1.out.symm, Blw.is (by repeat (first | exact Blw.refl _ | apply Blw.ext | apply Blw.alloc | apply Blw.drewN | apply Blw.drew | refine Blw.setCell ?_ _ _ (by simp)))⟩
  have d3 := dge h3
  replace HE := Lib.hid (HE.out.trans (if_neg h3))
  clear h3
  go_quiet (fail)
  go_wp2_with fail
  refine Calls.mono (CK.out _ (by repeat (first | exact Blw.refl _ | apply Blw.ext | apply Blw.alloc | apply Blw.drewN | apply Blw.drew | refine Blw.setCell ?_ _ _ (by simp)))) ?_
  rintro e w1 ⟨rfl, x1, rfl⟩
  clear CK
  by_cases hu : u = 0
  · subst hu
    go_wp2
    go_ret
    exact ⟨ret_i64 HE.out.symm, Blw.is (by repeat (first | exact Blw.refl _ | apply Blw.ext | apply Blw.alloc | apply Blw.drewN | apply Blw.drew | refine Blw.setCell ?_ _ _ (by simp)))⟩
  · have q : (u != 0) = true := by simpa using hu
    clear hu
    go_wp2
    go_ret
    exact ⟨ret_i64 HE.out.symm, Blw.is (by repeat (first | exact Blw.refl _ | apply Blw.ext | apply Blw.alloc | apply Blw.drewN | apply Blw.drew | refine Blw.setCell ?_ _ _ (by simp)))⟩
set_option maxRecDepth 100000 in
set_option maxHeartbeats 4000000 in
theorem wrong_some (y x : WL) (g o : Nat) (w : World) (hx : FL.In w x.h) (hy : FL.In w y.h) (oy : y.h.r.Ok) (hg : g < w.heap.size) (c1 : w.cell? ⟨g, o + 1, none⟩ = some (.int .i64 y.last)) (c2 : w.cell? ⟨g, o + 2, none⟩ = some (.bool y.top)) (c3 : w.cell? ⟨g, o + 3, none⟩ = some (.bool y.h.r.neg)) (c4 : w.cell? ⟨g, o + 4, none⟩ = some (.slice y.h.a y.h.r.num.length y.h.c)) (c5 : w.cell? ⟨g, o + 5, none⟩ = some (.slice y.h.b y.h.r.den.length y.h.d)) :
    Calls Try.prog 123 #[.pointer (some ⟨g, o, none⟩), wlV x] w fun e w' => e = .returned (.int .i64 (wrongS y x)) ∧ ∃ y, w' = w.ext y := by
  have he : wrongS y x = if x.tick < 0 then 2 else if 1048576 < x.last then 2 else if x.last < x.tick then 2 else if x.tick ≤ y.last then 2 else if chkF x.h.r ≠ 0 then chkF x.h.r else if x.top = y.top then 2 else if cmpF x.h.r y.h.r = (if x.top then 1 else -1) then 0 else 2 := rfl
  have FR := Lib.hid (fun (hu : chkF x.h.r = 0) (W : World) (hb : Blw w W) => from_ok y.h x.h W (hy.blw hb) (hx.blw hb) oy (ok_chkF hu))
  clear hy oy
  have CK := Lib.hid (fun (W : World) (hb : Blw w W) => ratioCheck_any x.h.r x.h.a x.h.c x.h.b x.h.d W (hx.blw hb))
  clear hx
  obtain ⟨t, la, tp, ⟨⟨rn, rnum, rden⟩, ra, rc, rb, rd⟩⟩ := x
  obtain ⟨yt, yl, yp, ⟨⟨yn, ynum, yden⟩, ya, yc, yb, yd⟩⟩ := y
  simp only at he CK FR c1 c2 c3 c4 c5
  generalize wrongS _ _ = res at *
  generalize chkF _ = u at *
  generalize cmpF _ _ = cm at *
  have HE := Lib.hid he
  clear he
  go_enter Try.func123, Try.ntmps123
  go_wp2_with fail
  by_cases h1 : t < 0
  · have d1 := dlt h1
    have HE1 := Lib.hid (HE.out.trans (if_pos h1))
    clear h1 HE
    go_quiet (fail)
    go_wp2
    go_ret
    exact ⟨ret_i64 HE1.out.symm, Blw.is (by repeat (first | exact Blw.refl _ | apply Blw.ext | apply Blw.alloc | apply Blw.drewN | apply Blw.drew | refine Blw.setCell ?_ _ _ (by simp)))⟩
  have d1 := dge h1
  replace HE := Lib.hid (HE.out.trans (if_neg h1))
  clear h1
  by_cases h2 : 1048576 < la
  · have d2 := dlt h2
    have HE1 := Lib.hid (HE.out.trans (if_pos h2))
    clear h2 HE
    go_quiet (fail)
    go_wp2
    go_ret
    exact ⟨ret_i64 HE1.out.symm, Blw.is (by repeat (first | exact Blw.refl _ | apply Blw.ext | apply Blw.alloc | apply Blw.drewN | apply Blw.drew | refine Blw.setCell ?_ _ _ (by simp)))⟩
  have d2 := dge h2
  replace HE := Lib.hid (HE.out.trans (if_neg h2))
  clear h2
  by_cases h3 : la < t
  · have d3 := dlt h3
    have HE1 := Lib.hid (HE.out.trans (if_pos h3))
    clear h3 HE
    go_quiet (fail)
    go_wp2
    go_ret
    exact ⟨ret_i64 HE1.out.symm, Blw.is (by repeat (first | exact Blw.refl _ | apply Blw.ext | apply Blw.alloc | apply Blw.drewN | apply Blw.drew | refine Blw.setCell ?_ _ _ (by simp)))⟩
  have d3 := dge h3
  replace HE := Lib.hid (HE.out.trans (if_neg h3))
  clear h3
  by_cases h4 : t ≤ yl
  · have d4 := dle h4
    have HE1 := Lib.hid (HE.out.trans (if_pos h4))
    clear h4 HE
    go_quiet (fail)
    go_wp2
    go_ret
    exact ⟨ret_i64 HE1.out.symm, Blw.is (by repeat (first | exact Blw.refl _ | apply Blw.ext | apply Blw.alloc | apply Blw.drewN | apply Blw.drew | refine Blw.setCell ?_ _ _ (by simp)))⟩
  have d4 := dgt h4
  replace HE := Lib.hid (HE.out.trans (if_neg h4))
  clear h4
  go_quiet (fail)
  go_wp2_with fail
  refine Calls.mono (CK.out _ (by repeat (first | exact Blw.refl _ | apply Blw.ext | apply Blw.alloc | apply Blw.drewN | apply Blw.drew | refine Blw.setCell ?_ _ _ (by simp)))) ?_
  rintro e W ⟨rfl, x1, hWe⟩
  have hbW : Blw (w.alloc (.cells #[.int .i64 t, .int .i64 la, .bool tp, .bool rn, .slice ra rnum.length rc, .slice rb rden.length rd] 90)) W := by rw [hWe]; exact (by repeat (first | exact Blw.refl _ | apply Blw.ext | apply Blw.alloc | apply Blw.drewN | apply Blw.drew | refine Blw.setCell ?_ _ _ (by simp)))
  clear CK hWe
  obtain ⟨hsW, b0, b1, b2, b3, b4, b5⟩ := box6 hbW
  replace hbW := ((Blw.refl w).alloc _).trans hbW
  replace c1 := (Below.cell hbW hg).trans c1
  replace c2 := (Below.cell hbW hg).trans c2
  replace c3 := (Below.cell hbW hg).trans c3
  replace c4 := (Below.cell hbW hg).trans c4
  replace c5 := (Below.cell hbW hg).trans c5
  replace hg := Nat.lt_of_lt_of_le hg hbW.size
  by_cases hu : u = 0
  · have FR1 := Lib.hid (FR.out hu)
    have HE1 := Lib.hid (HE.out.trans (if_neg (by simpa using hu)))
    subst hu
    clear FR HE
    by_cases h5 : tp = yp
    · have HE2 := Lib.hid (HE1.out.trans (if_pos h5))
      subst h5
      clear HE1 FR1
      cases tp
      all_goals
        go_wp2_with fail
        go_quiet (fail)
        go_wp2
        go_ret
        exact ⟨ret_i64 HE2.out.symm, Blw.is (hbW.trans (by repeat (first | exact Blw.refl _ | apply Blw.ext | apply Blw.alloc | apply Blw.drewN | apply Blw.drew | refine Blw.setCell ?_ _ _ (by simp))))⟩
    · have HE2 := Lib.hid (HE1.out.trans (if_neg h5))
      clear HE1
      have h6 : yp = !tp := by cases tp <;> cases yp <;> simp_all
      subst h6
      clear h5
      by_cases h7 : cm = (if tp = true then 1 else -1)
      · have HE3 := Lib.hid (HE2.out.trans (if_pos h7))
        clear HE2
        cases tp
        all_goals
          simp only [Bool.false_eq_true, if_true, if_false] at h7
          simp only [Bool.not_false, Bool.not_true] at c2
          subst h7
          go_wp2_with fail
          refine wp_region_ext_lit (by kernel_rfl) (by kernel_rfl) ?_
          repeat (quiet_step ((go_at_call 128; (with_reducible exact Calls.ext_of (FR1.out _ (hbW.trans (by repeat (first | exact Blw.refl _ | apply Blw.ext | apply Blw.alloc | apply Blw.drewN | apply Blw.drew | refine Blw.setCell ?_ _ _ (by simp)))))))))
          refine wpQuiet_nil ?_
          rintro _ ⟨z, rfl⟩
          go_wp2
          go_ret
          exact ⟨ret_i64 HE3.out.symm, Blw.is (hbW.trans (by repeat (first | exact Blw.refl _ | apply Blw.ext | apply Blw.alloc | apply Blw.drewN | apply Blw.drew | refine Blw.setCell ?_ _ _ (by simp))))⟩
      · have HE3 := Lib.hid (HE2.out.trans (if_neg h7))
        clear HE2
        cases tp
        all_goals
          simp only [Bool.false_eq_true, if_true, if_false] at h7
          simp only [Bool.not_false, Bool.not_true] at c2
          have q := bneI h7
          clear h7
          go_wp2_with fail
          refine wp_region_ext_lit (by kernel_rfl) (by kernel_rfl) ?_
          repeat (quiet_step ((go_at_call 128; (with_reducible exact Calls.ext_of (FR1.out _ (hbW.trans (by repeat (first | exact Blw.refl _ | apply Blw.ext | apply Blw.alloc | apply Blw.drewN | apply Blw.drew | refine Blw.setCell ?_ _ _ (by simp)))))))))
          refine wpQuiet_nil ?_
          rintro _ ⟨z, rfl⟩
          go_wp2
          go_ret
          exact ⟨ret_i64 HE3.out.symm, Blw.is (hbW.trans (by repeat (first | exact Blw.refl _ | apply Blw.ext | apply Blw.alloc | apply Blw.drewN | apply Blw.drew | refine Blw.setCell ?_ _ _ (by simp))))⟩
  · have q : (u != 0) = true := by simpa using hu
    have HE1 := Lib.hid (HE.out.trans (if_pos hu))
    clear hu FR HE
    go_wp2
    go_ret
    exact ⟨ret_i64 HE1.out.symm, Blw.is hbW⟩
end Go.Proofs.Ytigkfdoeneemeaa
/- The walk of water.Check. -/
namespace Go.Proofs.Ytigkfdoeneemeaa
open Go.RowKit

def chkAt (l : List WL) (i : Nat) : Int :=
  match l[i]? with
  | none => 0
  | some x => if i = 0 then wrongN x else match l[i - 1]? with
    | none => 0
    | some y => wrongS y x
/-- The first of some places at which something is wrong. -/
def firstBad (f : Nat → Int) : Nat → Nat → Option Nat
  | _, 0 => none
  | i, n + 1 => if f i = 0 then firstBad f (i + 1) n else some i
def checkW (l : List WL) : Int × Int :=
  if 4096 < l.length then (3, -1) else match firstBad (chkAt l) 0 l.length with
    | none => (0, 0)
    | some i => (chkAt l i, i)
theorem firstBad_on {f : Nat → Int} {i n : Nat} (h : f i = 0) : firstBad f i (n + 1) = firstBad f (i + 1) n := by rw [firstBad, if_pos h]
theorem firstBad_at {f : Nat → Int} {i n : Nat} (h : ¬ f i = 0) : firstBad f i (n + 1) = some i := by rw [firstBad, if_neg h]
theorem wrongN_chk {x : WL} (h : wrongN x = 0) : chkF x.h.r = 0 := by
  unfold wrongN at h
  repeat (split at h; (cases h))
  exact h
theorem wrongS_chk {y x : WL} (h : wrongS y x = 0) : chkF x.h.r = 0 := by
  unfold wrongS at h
  repeat (split at h; (cases h))
  split at h
  · rename_i h1; exact absurd h h1
  · rename_i h1; simpa using h1
theorem chkAt_chk {l : List WL} {i : Nat} {x : WL} (hx : l[i]? = some x) (h : chkAt l i = 0) : chkF x.h.r = 0 := by
  unfold chkAt at h
  rw [hx] at h
  simp only at h
  split at h
  · exact wrongN_chk h
  · rename_i h0
    obtain ⟨hi, -⟩ := List.getElem?_eq_some_iff.1 hx
    rw [List.getElem?_eq_getElem (show i - 1 < l.length by omega)] at h
    exact wrongS_chk h

/-- A block of two cells, written anew. -/
theorem pairC {w : World} {g : Nat} {v0 v1 : Value} {t : TypeId} (h : w.heap[g]? = some (.cells #[v0, v1] t (0, 0))) (u0 u1 : Value) :
    (∀ i, w.frozen? ⟨g, i, none⟩ = false) ∧ w.cell? ⟨g, 0, none⟩ = some v0 ∧ w.cell? ⟨g, 1, none⟩ = some v1 ∧ (w.setCell ⟨g, 0, none⟩ u0).cell? ⟨g, 0, none⟩ = some u0 ∧ ((w.setCell ⟨g, 0, none⟩ u0).setCell ⟨g, 1, none⟩ u1).cell? ⟨g, 1, none⟩ = some u1 :=
  ⟨fun i => frozen_of_row w g i _ _ h, (cell_of_row w g 0 _ _ _ h).trans rfl, (cell_of_row w g 1 _ _ _ h).trans rfl, (cell_of_row _ g 0 _ _ _ (at_set 0 u0 h)).trans (by simp), (cell_of_row _ g 1 _ _ _ (at_set 1 u1 (at_set 0 u0 h))).trans (by simp)⟩

set_option maxRecDepth 100000 in
set_option maxHeartbeats 4000000 in
theorem waterCheck_any (A : Option Addr) (l : List WL) (cap : Nat) (w : World) (hA : Arr w A (wls l)) (hin : ∀ x ∈ l, FL.In w x.h) (hl : l.length ≤ 9223372036854775807) :
    Calls Try.prog 71 #[.slice A l.length cap] w fun e w' => e = .returned (.agg #[.int .i64 (checkW l).1, .int .i64 (checkW l).2]) ∧ ∃ x, w' = w.ext x := by
  have hR0 : (w.alloc (.cells #[.int .i64 0, .int .i64 0] 36)).heap[w.heap.size]? = some (.cells #[.int .i64 0, .int .i64 0] 36 (0, 0)) := heap_alloc_new _ _
  by_cases h0 : 4096 < l.length
  · have d1 : decide ((4096 : Int) < (l.length : Int)) = true := by simp; omega
    have HE := Lib.hid (show checkW l = (3, -1) from if_pos h0)
    obtain ⟨hfz, e0, e1, r0, r1⟩ := pairC hR0 (.int .i64 3) (.int .i64 (-1))
    clear hR0 h0
    go_enter Try.func71, Try.ntmps71
    go_wp2
    exact bodyPost_ret (v := .agg #[.int .i64 3, .int .i64 (-1)]) (by simp [results, Try.results71, go_sem, r0, r1]) rfl ⟨by rw [HE.out], Blw.is (by repeat (first | exact Blw.refl _ | apply Blw.ext | apply Blw.alloc | apply Blw.drewN | apply Blw.drew | refine Blw.setCell ?_ _ _ (by simp)))⟩
  have d1 : decide ((4096 : Int) < (l.length : Int)) = false := by simp; omega
  have he : checkW l = match firstBad (chkAt l) 0 l.length with | none => (0, 0) | some i => (chkAt l i, i) := if_neg h0
  have HE := Lib.hid he
  have HIN := Lib.hid hin
  have hl4 : l.length ≤ 4096 := by omega
  clear he hin h0 hl
  go_enter Try.func71, Try.ntmps71
  go_wp2
  clear d1
  go_loopw [3, 12] (fun v3 vi wr => ∃ k : Nat, k ≤ l.length ∧ vi = .int .i64 k ∧ ((k = 0 ∧ v3 = .pointer none) ∨ (∃ (m : Nat) (b o : Nat), k = m + 1 ∧ A = some ⟨b, o, none⟩ ∧ v3 = .pointer (some ⟨b, o + m * 6, none⟩) ∧ Hid (chkAt l m = 0))) ∧ Hid (firstBad (chkAt l) 0 l.length = firstBad (chkAt l) k (l.length - k)) ∧ Blw w wr ∧ wr.heap[w.heap.size]? = some (.cells #[.int .i64 0, .int .i64 0] 36 (0, 0))) (fun _ i _ => l.length - (intOf i).toNat)
  case atStart => exact ⟨0, Nat.zero_le _, rfl, .inl ⟨rfl, rfl⟩, rfl, (by repeat (first | exact Blw.refl _ | apply Blw.ext | apply Blw.alloc | apply Blw.drewN | apply Blw.drew | refine Blw.setCell ?_ _ _ (by simp))), hR0⟩
  case round =>
    obtain ⟨k, hk, rfl, hah, hfb, hb, hR⟩ := hrel
    clear hR0
    by_cases hlt : k < l.length
    · obtain ⟨x, b, o, hgx, hmx, e1, hbs, c0, c1, c2, c3, c4, c5⟩ := wl_at (hA.blw hb) hlt
      have hxin := (HIN.out x hmx).blw hb
      have hlk : l.length - k = l.length - (k + 1) + 1 := by omega
      rw [hlk] at hfb
      have key : (chkAt l k = 0 → firstBad (chkAt l) 0 l.length = firstBad (chkAt l) (k + 1) (l.length - (k + 1))) ∧ (¬ chkAt l k = 0 → checkW l = (chkAt l k, (k : Int))) := by
        constructor
        · intro h; rw [hfb.out, firstBad_on h]
        · intro h; rw [HE.out, hfb.out, firstBad_at h]
      have HK := Lib.hid key
      clear key hfb hlk hmx
      have hwr : ∃ u, chkAt l k = u ∧ (∀ W : World, Blw wr W → Calls Try.prog 123 #[u3, wlV x] W fun e w' => e = .returned (.int .i64 u) ∧ ∃ y, w' = W.ext y) := by
        rcases hah with ⟨rfl, rfl⟩ | ⟨m, b', o', rfl, e2, rfl, hm⟩
        · exact ⟨wrongN x, by unfold chkAt; rw [hgx]; rfl, fun W hW => wrong_none x W (hxin.blw hW)⟩
        · obtain ⟨y, b2, o2, hgy, hmy, e3, hbs2, -, f1, f2, f3, f4, f5⟩ := wl_at (hA.blw hb) (show m < l.length by omega)
          rw [e2] at e3
          simp only [Option.some.injEq, Addr.mk.injEq] at e3
          obtain ⟨rfl, rfl, -⟩ := e3
          refine ⟨wrongS y x, ?_, fun W hW => wrong_some y x _ _ W (hxin.blw hW) (((HIN.out y hmy).blw hb).blw hW) (ok_chkF (chkAt_chk hgy hm.out)) (Nat.lt_of_lt_of_le hbs2 hW.size) ((Below.cell hW hbs2).trans f1) ((Below.cell hW hbs2).trans f2) ((Below.cell hW hbs2).trans f3) ((Below.cell hW hbs2).trans f4) ((Below.cell hW hbs2).trans f5)⟩
          unfold chkAt
          rw [hgx]
          simp only [Nat.add_one_ne_zero, if_false, Nat.add_sub_cancel]
          rw [hgy]
      obtain ⟨u, hu, hw⟩ := hwr
      subst e1
      have HW := Lib.hid hw
      have HU := Lib.hid hu
      clear hw hu hah hxin hgx
      go_wp2_with fail
      refine Calls.mono (HW.out _ (by repeat (first | exact Blw.refl _ | apply Blw.ext | apply Blw.alloc | apply Blw.drewN | apply Blw.drew | refine Blw.setCell ?_ _ _ (by simp)))) ?_
      rintro e w1 ⟨rfl, x1, rfl⟩
      clear HW
      by_cases hz : u = 0
      · have HF := Lib.hid (HK.out.1 (HU.out.trans hz))
        have HZ := Lib.hid (HU.out.trans hz)
        subst hz
        clear HK HU
        go_wp2
        go_roundw
        case rel => exact ⟨k + 1, by omega, by go_num, .inr ⟨k, _, _, rfl, rfl, rfl, HZ⟩, HF, hb.trans (by repeat (first | exact Blw.refl _ | apply Blw.ext | apply Blw.alloc | apply Blw.drewN | apply Blw.drew | refine Blw.setCell ?_ _ _ (by simp))), at_ext _ hR⟩
        case measure => simp [intOf]; omega
      · have q : (u != 0) = true := by simpa using hz
        have HF := Lib.hid (HK.out.2 (fun e => hz (HU.out.symm.trans e)))
        have HF2 := Lib.hid (HF.out.trans (by rw [HU.out]))
        obtain ⟨hfz, e0, e1, r0, r1⟩ := pairC (at_ext x1 hR) (.int .i64 u) (.int .i64 k)
        clear HK HU HF hz hR
        go_wp2
        exact bodyPost_ret (v := .agg #[.int .i64 u, .int .i64 k]) (by simp [results, Try.results71, go_sem, r0, r1]) rfl ⟨by rw [HF2.out], Blw.is (((hb.ext x1).setCell _ _ (Nat.le_refl _)).setCell _ _ (Nat.le_refl _))⟩
    · have hkl : k = l.length := by omega
      subst hkl
      have HF : Hid (checkW l = (0, 0)) := by
        show _ = _
        rw [HE.out, hfb.out, Nat.sub_self]; rfl
      obtain ⟨hfz, e0, e1, r0, r1⟩ := pairC hR (.int .i64 0) (.int .i64 0)
      clear hR hfb hah hlt
      go_wp2
      exact bodyPost_ret (v := .agg #[.int .i64 0, .int .i64 0]) (by simp [results, Try.results71, go_sem, r0, r1]) rfl ⟨by rw [HF.out], Blw.is ((hb.setCell _ _ (Nat.le_refl _)).setCell _ _ (Nat.le_refl _))⟩
end Go.Proofs.Ytigkfdoeneemeaa
/- The walks of water.farthest, Highest, Lowest. -/
namespace Go.Proofs.Ytigkfdoeneemeaa
open Go.RowKit

theorem firstBad_none {f : Nat → Int} : ∀ n i, firstBad f i n = none → ∀ j, i ≤ j → j < i + n → f j = 0 := by
  intro n
  induction n with
  | zero => intro i _ j h1 h2; omega
  | succ n ih =>
    intro i h j h1 h2
    by_cases h0 : f i = 0
    · rw [firstBad_on h0] at h
      by_cases hj : j = i
      · rw [hj]; exact h0
      · exact ih (i + 1) h j (by omega) (by omega)
    · rw [firstBad_at h0] at h; cases h
theorem checkW_ok {l : List WL} (h : checkW l = (0, 0)) : l.length ≤ 4096 ∧ (∀ i, i < l.length → chkAt l i = 0) ∧ ∀ x ∈ l, x.h.r.Ok := by
  unfold checkW at h
  split at h
  · cases h
  · rename_i h0
    have hall : ∀ i, i < l.length → chkAt l i = 0 := by
      split at h
      · rename_i hn
        intro i hi
        exact firstBad_none _ _ hn i (Nat.zero_le _) (by omega)
      · rename_i i hi
        exfalso
        have : ∀ n j, firstBad (chkAt l) j n = some i → ¬ chkAt l i = 0 := by
          intro n
          induction n with
          | zero => intro j h; simp [firstBad] at h
          | succ n ih =>
            intro j h
            by_cases hj : chkAt l j = 0
            · rw [firstBad_on hj] at h; exact ih _ h
            · rw [firstBad_at hj] at h; cases h; exact hj
        exact this _ _ hi (Prod.mk.inj h).1
    refine ⟨by omega, hall, fun x hx => ?_⟩
    obtain ⟨i, hi, rfl⟩ := List.getElem_of_mem hx
    exact ok_chkF (chkAt_chk (List.getElem?_eq_getElem hi) (hall i hi))

def rgW (l : List WL) (b : Nat) : Fr := match l[b]? with
  | none => ⟨false, [], []⟩
  | some x => x.h.r
/-- The place of the first top, or bottom, that is the farthest that way, among the first ones. -/
def farS (l : List WL) (top : Bool) (to : Int) : Nat → Option Nat
  | 0 => none
  | k + 1 => match l[k]? with
    | none => farS l top to k
    | some x => if x.top = top then (match farS l top to k with
      | none => some k
      | some b => if cmpF x.h.r (rgW l b) = to then some k else some b) else farS l top to k
theorem farS_lt {l : List WL} {top : Bool} {to : Int} : ∀ k b, farS l top to k = some b → b < k ∧ b < l.length := by
  intro k
  induction k with
  | zero => intro b h; simp [farS] at h
  | succ k ih =>
    intro b h
    unfold farS at h
    split at h
    · have := ih b h; omega
    · rename_i x hx
      have hk := (List.getElem?_eq_some_iff.1 hx).1
      split at h
      · split at h
        · cases h; omega
        · rename_i b' hb'
          split at h
          · cases h; omega
          · cases h; have := ih _ hb'; omega
      · have := ih b h; omega
def farW (l : List WL) (top : Bool) (to : Int) : Nat × Bool := if checkW l = (0, 0) then ((farS l top to l.length).getD 0, (farS l top to l.length).isSome) else (0, false)

set_option maxRecDepth 100000 in
set_option maxHeartbeats 4000000 in
theorem farthest_any (A : Option Addr) (l : List WL) (cap : Nat) (top : Bool) (to : Int) (w : World) (hA : Arr w A (wls l)) (hin : ∀ x ∈ l, FL.In w x.h) (hl : l.length ≤ 9223372036854775807) :
    Calls Try.prog 121 #[.slice A l.length cap, .bool top, .int .i64 to] w fun e w' => e = .returned (.tuple #[.int .i64 (farW l top to).1, .bool (farW l top to).2]) ∧ ∃ x, w' = w.ext x := by
  have CK := waterCheck_any A l cap w hA hin hl
  by_cases h0 : checkW l = (0, 0)
  · have HE := Lib.hid (show farW l top to = ((farS l top to l.length).getD 0, (farS l top to l.length).isSome) from if_pos h0)
    rw [h0] at CK
    obtain ⟨hl4, -, hok⟩ := checkW_ok h0
    have HOK := Lib.hid hok
    have HIN := Lib.hid hin
    have HCK := Lib.hid CK
    clear CK h0 hok hin hl
    go_enter Try.func121, Try.ntmps121
    go_wp2_with fail
    refine Calls.mono HCK.out ?_
    rintro e w1 ⟨rfl, x1, rfl⟩
    clear HCK
    go_wp2
    go_loopw [8, 9, 18] (fun v8 v9 vi wr => ∃ k : Nat, k ≤ l.length ∧ vi = .int .i64 k ∧ v8 = .int .i64 ((farS l top to k).getD 0 : Nat) ∧ v9 = .bool (farS l top to k).isSome ∧ Blw w wr) (fun _ _ i _ => l.length - (intOf i).toNat)
    case atStart => exact ⟨0, Nat.zero_le _, rfl, rfl, rfl, (by repeat (first | exact Blw.refl _ | apply Blw.ext | apply Blw.alloc | apply Blw.drewN | apply Blw.drew | refine Blw.setCell ?_ _ _ (by simp)))⟩
    case round =>
      obtain ⟨k, hk, rfl, rfl, rfl, hb⟩ := hrel
      by_cases hlt : k < l.length
      · obtain ⟨x, b, o, hgx, hmx, e1, hbs, c0, c1, c2, c3, c4, c5⟩ := wl_at (hA.blw hb) hlt
        have hxin := (HIN.out x hmx).blw hb
        have hxok := HOK.out x hmx
        have hst : farS l top to (k + 1) = if x.top = top then (match farS l top to k with | none => some k | some b => if cmpF x.h.r (rgW l b) = to then some k else some b) else farS l top to k := by
          rw [farS]; rw [hgx]
        have HB : Hid (∀ p, farS l top to k = some p → ∃ y : WL, p < l.length ∧ rgW l p = y.h.r ∧ wr.cell? ⟨b, o + p * 6 + 3, none⟩ = some (.bool y.h.r.neg) ∧ wr.cell? ⟨b, o + p * 6 + 4, none⟩ = some (.slice y.h.a y.h.r.num.length y.h.c) ∧ wr.cell? ⟨b, o + p * 6 + 5, none⟩ = some (.slice y.h.b y.h.r.den.length y.h.d) ∧
            ∀ W : World, Blw wr W → Calls Try.prog 128 #[frV y.h.r y.h.a y.h.c y.h.b y.h.d, frV x.h.r x.h.a x.h.c x.h.b x.h.d] W fun e w' => e = .returned (.int .i64 (cmpF x.h.r (rgW l p))) ∧ ∃ z, w' = W.ext z) := by
          intro p hp
          obtain ⟨-, hpl⟩ := farS_lt k p hp
          obtain ⟨y, b2, o2, hgy, hmy, e3, hbs2, -, -, -, f3, f4, f5⟩ := wl_at (hA.blw hb) hpl
          rw [e1] at e3
          simp only [Option.some.injEq, Addr.mk.injEq] at e3
          obtain ⟨rfl, rfl, -⟩ := e3
          have hr : rgW l p = y.h.r := by unfold rgW; rw [hgy]
          exact ⟨y, hpl, hr, f3, f4, f5, fun W hW => by rw [hr]; exact from_ok y.h x.h W (((HIN.out y hmy).blw hb).blw hW) (hxin.blw hW) (HOK.out y hmy) hxok⟩
        have HST := Lib.hid hst
        subst e1
        clear hst hxin hxok hgx hmx
        obtain ⟨t, la, tp, ⟨⟨rn, rnum, rden⟩, ra, rc, rb, rd⟩⟩ := x
        simp only at HST HB c0 c1 c2 c3 c4 c5
        generalize hfk : farS l top to k = fk at *
        clear hfk
        go_wp2_with fail
        refine name_world (fun W => Blw (wr.alloc (.cells #[.int .i64 t, .int .i64 la, .bool tp, .bool rn, .slice ra rnum.length rc, .slice rb rden.length rd] 90)) W) (by repeat (first | exact Blw.refl _ | apply Blw.ext | apply Blw.alloc | apply Blw.drewN | apply Blw.drew | refine Blw.setCell ?_ _ _ (by simp))) ?_
        rintro W hbW
        obtain ⟨hsW, b0, b1, b2, b3, b4, b5⟩ := box6 hbW
        replace hbW := ((Blw.refl wr).alloc _).trans hbW
        clear c0 c1 c2 c3 c4 c5
        by_cases htp : tp = top
        · have HS2 := Lib.hid (HST.out.trans (if_pos htp))
          subst htp
          clear HST
          cases fk with
          | none =>
            have HS3 := Lib.hid (show farS l tp to (k + 1) = some k from HS2.out)
            clear HS2
            have hq : ((none : Option Nat).isSome) = false := rfl
            cases tp
            all_goals
              go_quiet (fail)
              go_wp2
              go_roundw
              case rel => exact ⟨k + 1, by omega, by go_num, by rw [HS3.out]; rfl, by rw [HS3.out]; rfl, hb.trans (hbW.trans (by repeat (first | exact Blw.refl _ | apply Blw.ext | apply Blw.alloc | apply Blw.drewN | apply Blw.drew | refine Blw.setCell ?_ _ _ (by simp))))⟩
              case measure => simp [intOf]; omega
          | some p =>
            obtain ⟨y, hpl, hr, f3, f4, f5, hc⟩ := HB.out p rfl
            have HC := Lib.hid hc
            have hbsW := Nat.lt_of_lt_of_le hbs hbW.size
            replace f3 := (Below.cell hbW hbs).trans f3
            replace f4 := (Below.cell hbW hbs).trans f4
            replace f5 := (Below.cell hbW hbs).trans f5
            have HS3 := Lib.hid (show farS l tp to (k + 1) = if cmpF ⟨rn, rnum, rden⟩ (rgW l p) = to then some k else some p from HS2.out)
            clear HS2 HB hc hr
            generalize cmpF _ (rgW l p) = cm at *
            by_cases hcm : cm = to
            · have HS4 := Lib.hid (HS3.out.trans (if_pos hcm))
              subst hcm
              clear HS3
              cases tp
              all_goals
                refine wp_region_ext_lit (by kernel_rfl) (by kernel_rfl) ?_
                repeat (quiet_step ((go_at_call 128; (with_reducible exact Calls.ext_of (HC.out _ (hbW.trans (by repeat (first | exact Blw.refl _ | apply Blw.ext | apply Blw.alloc | apply Blw.drewN | apply Blw.drew | refine Blw.setCell ?_ _ _ (by simp)))))))))
                refine wpQuiet_nil ?_
                rintro _ ⟨z, rfl⟩
                go_wp2
                go_roundw
                case rel => exact ⟨k + 1, by omega, by go_num, by rw [HS4.out]; rfl, by rw [HS4.out]; rfl, hb.trans (hbW.trans (by repeat (first | exact Blw.refl _ | apply Blw.ext | apply Blw.alloc | apply Blw.drewN | apply Blw.drew | refine Blw.setCell ?_ _ _ (by simp))))⟩
                case measure => simp [intOf]; omega
            · have HS4 := Lib.hid (HS3.out.trans (if_neg hcm))
              have q : (cm == to) = false := by simpa using hcm
              clear HS3 hcm
              cases tp
              all_goals
                refine wp_region_ext_lit (by kernel_rfl) (by kernel_rfl) ?_
                repeat (quiet_step ((go_at_call 128; (with_reducible exact Calls.ext_of (HC.out _ (hbW.trans (by repeat (first | exact Blw.refl _ | apply Blw.ext | apply Blw.alloc | apply Blw.drewN | apply Blw.drew | refine Blw.setCell ?_ _ _ (by simp)))))))))
                refine wpQuiet_nil ?_
                rintro _ ⟨z, rfl⟩
                go_wp2
                go_roundw
                case rel => exact ⟨k + 1, by omega, by go_num, by rw [HS4.out]; rfl, by rw [HS4.out]; rfl, hb.trans (hbW.trans (by repeat (first | exact Blw.refl _ | apply Blw.ext | apply Blw.alloc | apply Blw.drewN | apply Blw.drew | refine Blw.setCell ?_ _ _ (by simp))))⟩
                case measure => simp [intOf]; omega
        · have HS2 := Lib.hid (HST.out.trans (if_neg htp))
          have h6 : top = !tp := by cases tp <;> cases top <;> simp_all
          subst h6
          clear HST HB htp
          cases tp
          all_goals
            go_quiet (fail)
            go_wp2
            go_roundw
            case rel => exact ⟨k + 1, by omega, by go_num, by rw [HS2.out], by rw [HS2.out], hb.trans (hbW.trans (by repeat (first | exact Blw.refl _ | apply Blw.ext | apply Blw.alloc | apply Blw.drewN | apply Blw.drew | refine Blw.setCell ?_ _ _ (by simp))))⟩
            case measure => simp [intOf]; omega
      · have hkl : k = l.length := by omega
        subst hkl
        generalize farS l top to l.length = fk at *
        go_wp2
        go_ret2
        exact ⟨by rw [HE.out]; rfl, Blw.is hb⟩
  · have HE := Lib.hid (show farW l top to = (0, false) from if_neg h0)
    have hne : (checkW l).1 ≠ 0 ∨ (checkW l).2 ≠ 0 := by
      by_cases h1 : (checkW l).1 = 0
      · refine .inr fun h2 => h0 ?_
        exact Prod.ext h1 h2
      · exact .inl h1
    generalize (checkW l).1 = u at *
    generalize (checkW l).2 = v at *
    have HCK := Lib.hid CK
    clear CK h0
    by_cases hu : u = 0
    · have hv : ¬ v = 0 := by rcases hne with h | h; exact absurd hu h; exact h
      subst hu
      have q1 : (v == 0) = false := by simpa using hv
      have q2 : (v != 0) = true := by simpa using hv
      have q3 : decide (v = 0) = false := by simpa using hv
      clear hne hv
      go_enter Try.func121, Try.ntmps121
      go_wp2_with fail
      refine Calls.mono HCK.out ?_
      rintro e w1 ⟨rfl, x1, rfl⟩
      clear HCK
      go_wp2
      go_ret2
      exact ⟨by rw [HE.out]; rfl, Blw.is (by repeat (first | exact Blw.refl _ | apply Blw.ext | apply Blw.alloc | apply Blw.drewN | apply Blw.drew | refine Blw.setCell ?_ _ _ (by simp)))⟩
    · have q1 : (u == 0) = false := by simpa using hu
      have q2 : (u != 0) = true := by simpa using hu
      have q3 : decide (u = 0) = false := by simpa using hu
      clear hne hu
      go_enter Try.func121, Try.ntmps121
      go_wp2_with fail
      refine Calls.mono HCK.out ?_
      rintro e w1 ⟨rfl, x1, rfl⟩
      clear HCK
      go_wp2
      go_ret2
      exact ⟨by rw [HE.out]; rfl, Blw.is (by repeat (first | exact Blw.refl _ | apply Blw.ext | apply Blw.alloc | apply Blw.drewN | apply Blw.drew | refine Blw.setCell ?_ _ _ (by simp)))⟩
set_option maxHeartbeats 400000 in
theorem waterHighest_any (A : Option Addr) (l : List WL) (cap : Nat) (w : World) (hA : Arr w A (wls l)) (hin : ∀ x ∈ l, FL.In w x.h) (hl : l.length ≤ 9223372036854775807) :
    Calls Try.prog 67 #[.slice A l.length cap] w fun e w' => e = .returned (.tuple #[.int .i64 (farW l true 1).1, .bool (farW l true 1).2]) ∧ ∃ x, w' = w.ext x := by
  have H := Lib.hid (farthest_any A l cap true 1 w hA hin hl)
  clear hA hin hl
  go_enter Try.func67, Try.ntmps67
  go_wp2_with fail
  refine Calls.mono H.out ?_
  rintro e w1 ⟨rfl, x1, rfl⟩
  go_wp2
  go_ret2
  exact ⟨rfl, Blw.is (by repeat (first | exact Blw.refl _ | apply Blw.ext | apply Blw.alloc | apply Blw.drewN | apply Blw.drew | refine Blw.setCell ?_ _ _ (by simp)))⟩
set_option maxHeartbeats 400000 in
theorem waterLowest_any (A : Option Addr) (l : List WL) (cap : Nat) (w : World) (hA : Arr w A (wls l)) (hin : ∀ x ∈ l, FL.In w x.h) (hl : l.length ≤ 9223372036854775807) :
    Calls Try.prog 69 #[.slice A l.length cap] w fun e w' => e = .returned (.tuple #[.int .i64 (farW l false (-1)).1, .bool (farW l false (-1)).2]) ∧ ∃ x, w' = w.ext x := by
  have H := Lib.hid (farthest_any A l cap false (-1) w hA hin hl)
  clear hA hin hl
  go_enter Try.func69, Try.ntmps69
  go_wp2_with fail
  refine Calls.mono H.out ?_
  rintro e w1 ⟨rfl, x1, rfl⟩
  go_wp2
  go_ret2
  exact ⟨rfl, Blw.is (by repeat (first | exact Blw.refl _ | apply Blw.ext | apply Blw.alloc | apply Blw.drewN | apply Blw.drew | refine Blw.setCell ?_ _ _ (by simp)))⟩
end Go.Proofs.Ytigkfdoeneemeaa
/- Walks of slackwaterref25: compare, wrong. -/
namespace Go.Proofs.Ytigkfdoeneemeaa
open Go.RowKit

set_option maxHeartbeats 1000000 in
theorem refCmp25_ok (r s : Fr) (a : Option Addr) (c : Nat) (b : Option Addr) (d : Nat) (a' : Option Addr) (c' : Nat) (b' : Option Addr) (d' : Nat) (w : World) (h : FrA w r a c b d) (k : FrA w s a' c' b' d') (hr : r.Ok) (hs : s.Ok) :
    Calls Try.prog 131 #[frV r a c b d, frV s a' c' b' d'] w fun e w' => e = .returned (.int .i64 (cmpF r s)) ∧ ∃ x, w' = w.ext x := by
  have H := Lib.hid (fun (W : World) (hW : Blw w W) => refCompare3_ok r s a c b d a' c' b' d' W (h.blw hW) (k.blw hW) hr hs)
  generalize cmpF r s = cv at *
  clear h k
  go_enter Try.func131, Try.ntmps131
  go_wp2_with fail
  refine Calls.mono (H.out _ (by repeat (first | exact Blw.refl _ | apply Blw.ext | apply Blw.alloc | apply Blw.drewN | apply Blw.drew | refine Blw.setCell ?_ _ _ (by simp)))) ?_
  rintro e w1 ⟨rfl, x1, rfl⟩
  go_wp2
  go_ret
  exact ⟨rfl, Blw.is (by repeat (first | exact Blw.refl _ | apply Blw.ext | apply Blw.alloc | apply Blw.drewN | apply Blw.drew | refine Blw.setCell ?_ _ _ (by simp)))⟩

set_option maxRecDepth 100000 in
set_option maxHeartbeats 1000000 in
theorem refWrong_first (A : Option Addr) (l : List WL) (cap : Nat) (x : WL) (w : World) (hA : Arr w A (wls l)) (hx : l[0]? = some x) (hin : FL.In w x.h) :
    Calls Try.prog 124 #[.slice A l.length cap, .int .i64 0] w fun e w' => e = .returned (.int .i64 (wrongN x)) ∧ ∃ y, w' = w.ext y := by
  have hl0 := (List.getElem?_eq_some_iff.1 hx).1
  obtain ⟨x', b, o, hgx, -, rfl, hbs, c0, c1, c2, c3, c4, c5⟩ := wl_at (k := 0) hA hl0
  rw [hx] at hgx
  cases hgx
  have he : wrongN x = if x.tick < 0 then 2 else if 1048576 < x.last then 2 else if x.last < x.tick then 2 else chkF x.h.r := rfl
  have CK := Lib.hid (fun (W : World) (hb : Blw w W) => refCheck3_any x.h.r x.h.a x.h.c x.h.b x.h.d W (FrA.blw hin hb))
  clear hin hx
  obtain ⟨t, la, tp, ⟨⟨rn, rnum, rden⟩, ra, rc, rb, rd⟩⟩ := x
  simp only [Nat.zero_mul, Nat.add_zero] at he CK c0 c1 c2 c3 c4 c5
  generalize wrongN _ = res at *
  generalize chkF _ = u at *
  have HE := Lib.hid he
  clear he
  go_enter Try.func124, Try.ntmps124
  go_wp2_with fail
  refine name_world (fun W => Blw (w.alloc (.cells #[.int .i64 t, .int .i64 la, .bool tp, .bool rn, .slice ra rnum.length rc, .slice rb rden.length rd] 90)) W) (by repeat (first | exact Blw.refl _ | apply Blw.ext | apply Blw.alloc | apply Blw.drewN | apply Blw.drew | refine Blw.setCell ?_ _ _ (by simp))) ?_
  rintro W hbW
  obtain ⟨hsW, b0, b1, b2, b3, b4, b5⟩ := box6 hbW
  replace hbW := ((Blw.refl w).alloc _).trans hbW
  clear c0 c1 c2 c3 c4 c5
  by_cases h1 : t < 0
  · have d1 := dlt h1
    have HE1 := Lib.hid (HE.out.trans (if_pos h1))
    clear h1 HE
    go_quiet (fail)
    go_wp2
    go_ret
    exact ⟨ret_i64 HE1.out.symm, Blw.is (hbW.trans (by repeat (first | exact Blw.refl _ | apply Blw.ext | apply Blw.alloc | apply Blw.drewN | apply Blw.drew | refine Blw.setCell ?_ _ _ (by simp))))⟩
  have d1 := dge h1
  replace HE := Lib.hid (HE.out.trans (if_neg h1))
  clear h1
  by_cases h2 : 1048576 < la
  · have d2 := dlt h2
    have HE1 := Lib.hid (HE.out.trans (if_pos h2))
    clear h2 HE
    go_quiet (fail)
    go_wp2
    go_ret
    exact ⟨ret_i64 HE1.out.symm, Blw.is (hbW.trans (by repeat (first | exact Blw.refl _ | apply Blw.ext | apply Blw.alloc | apply Blw.drewN | apply Blw.drew | refine Blw.setCell ?_ _ _ (by simp))))⟩
  have d2 := dge h2
  replace HE := Lib.hid (HE.out.trans (if_neg h2))
  clear h2
  by_cases h3 : la < t
  · have d3 := dlt h3
    have HE1 := Lib.hid (HE.out.trans (if_pos h3))
    clear h3 HE
    go_quiet (fail)
    go_wp2
    go_ret
    exact ⟨ret_i64 HE1.out.symm, Blw.is (hbW.trans (by repeat (first | exact Blw.refl _ | apply Blw.ext | apply Blw.alloc | apply Blw.drewN | apply Blw.drew | refine Blw.setCell ?_ _ _ (by simp))))⟩
  have d3 := dge h3
  replace HE := Lib.hid (HE.out.trans (if_neg h3))
  clear h3
  go_quiet (fail)
  go_wp2_with fail
  refine Calls.mono (CK.out _ (hbW.trans (by repeat (first | exact Blw.refl _ | apply Blw.ext | apply Blw.alloc | apply Blw.drewN | apply Blw.drew | refine Blw.setCell ?_ _ _ (by simp))))) ?_
  rintro e w1 ⟨rfl, x1, rfl⟩
  clear CK
  by_cases hu : u = 0
  · subst hu
    go_wp2
    go_ret
    exact ⟨ret_i64 HE.out.symm, Blw.is (hbW.trans (by repeat (first | exact Blw.refl _ | apply Blw.ext | apply Blw.alloc | apply Blw.drewN | apply Blw.drew | refine Blw.setCell ?_ _ _ (by simp))))⟩
  · have q : (u != 0) = true := by simpa using hu
    clear hu
    go_wp2
    go_ret
    exact ⟨ret_i64 HE.out.symm, Blw.is (hbW.trans (by repeat (first | exact Blw.refl _ | apply Blw.ext | apply Blw.alloc | apply Blw.drewN | apply Blw.drew | refine Blw.setCell ?_ _ _ (by simp))))⟩

set_option maxRecDepth 100000 in
set_option maxHeartbeats 1000000 in
theorem refWrong_next (A : Option Addr) (l : List WL) (cap k : Nat) (x y : WL) (w : World) (hA : Arr w A (wls l)) (hy : l[k]? = some y) (hx : l[k + 1]? = some x) (hin : FL.In w x.h) (hyn : FL.In w y.h) (oy : y.h.r.Ok) (hl : l.length ≤ 100000) :
    Calls Try.prog 124 #[.slice A l.length cap, .int .i64 ((k + 1 : Nat) : Int)] w fun e w' => e = .returned (.int .i64 (wrongS y x)) ∧ ∃ y, w' = w.ext y := by
  have hl0 := (List.getElem?_eq_some_iff.1 hx).1
  obtain ⟨x', b, o, hgx, -, rfl, hbs, c0, c1, c2, c3, c4, c5⟩ := wl_at (k := k + 1) hA hl0
  rw [hx] at hgx
  cases hgx
  obtain ⟨y', b', o', hgy, -, ee, -, e0, e1, e2, e3, e4, e5⟩ := wl_at (k := k) hA (by omega)
  cases ee
  rw [hy] at hgy
  cases hgy
  have he : wrongS y x = if x.tick < 0 then 2 else if 1048576 < x.last then 2 else if x.last < x.tick then 2 else if x.tick ≤ y.last then 2 else if chkF x.h.r ≠ 0 then chkF x.h.r else if x.top = y.top then 2 else if cmpF x.h.r y.h.r = (if x.top then 1 else -1) then 0 else 2 := rfl
  have CK := Lib.hid (fun (W : World) (hb : Blw w W) => refCheck3_any x.h.r x.h.a x.h.c x.h.b x.h.d W (FrA.blw hin hb))
  have FR := Lib.hid (fun (hu : chkF x.h.r = 0) (W : World) (hb : Blw w W) => refCmp25_ok x.h.r y.h.r x.h.a x.h.c x.h.b x.h.d y.h.a y.h.c y.h.b y.h.d W (FrA.blw hin hb) (FrA.blw hyn hb) (ok_chkF hu) oy)
  have FC := Lib.hid (fun (hu : chkF x.h.r = 0) => cmpF_cases (ok_chkF hu) oy)
  clear hin hx hyn hy oy
  obtain ⟨t, la, tp, ⟨⟨rn, rnum, rden⟩, ra, rc, rb, rd⟩⟩ := x
  obtain ⟨yt, yl, yp, ⟨⟨yn, ynum, yden⟩, ya, yc, yb, yd⟩⟩ := y
  simp only at he CK FR FC c0 c1 c2 c3 c4 c5 e0 e1 e2 e3 e4 e5
  generalize wrongS _ _ = res at *
  generalize chkF _ = u at *
  generalize cmpF _ _ = cm at *
  have HE := Lib.hid he
  have i1 : ((k : Int) + 1).toNat = k + 1 := by omega
  have i2 : (0 : Int) ≤ (k : Int) + 1 := by omega
  have i3 : (k : Int) + 1 < (l.length : Int) := by omega
  have i4 : (k : Int) < (l.length : Int) := by omega
  have i5 : (0 : Int) ≤ (k : Int) := by omega
  have i6 : decide ((0 : Int) < (k : Int) + 1) = true := by simp
  have i7 : ((k : Int) + 1 == 0) = false := beq_false_of_ne (by omega)
  have i8 : IntKind.i64.wrap ((k : Int) + 1 - 1) = (k : Int) := by rw [IntKind.wrap_i64]; omega
  have i9 : IntKind.i64.wrap (k : Int) = (k : Int) := by rw [IntKind.wrap_i64]; omega
  clear he
  go_enter Try.func124, Try.ntmps124
  go_wp2_with fail
  refine name_world (fun W => Blw (w.alloc (.cells #[.int .i64 t, .int .i64 la, .bool tp, .bool rn, .slice ra rnum.length rc, .slice rb rden.length rd] 90)) W) (by repeat (first | exact Blw.refl _ | apply Blw.ext | apply Blw.alloc | apply Blw.drewN | apply Blw.drew | refine Blw.setCell ?_ _ _ (by simp))) ?_
  rintro W hbW
  obtain ⟨hsW, b0, b1, b2, b3, b4, b5⟩ := box6 hbW
  replace hbW := ((Blw.refl w).alloc _).trans hbW
  replace e0 := (Below.cell hbW hbs).trans e0
  replace e1 := (Below.cell hbW hbs).trans e1
  replace e2 := (Below.cell hbW hbs).trans e2
  replace e3 := (Below.cell hbW hbs).trans e3
  replace e4 := (Below.cell hbW hbs).trans e4
  replace e5 := (Below.cell hbW hbs).trans e5
  replace hbs := Nat.lt_of_lt_of_le hbs hbW.size
  clear c0 c1 c2 c3 c4 c5
  by_cases h1 : t < 0
  · have d1 := dlt h1
    have HE1 := Lib.hid (HE.out.trans (if_pos h1))
    clear h1 HE
    go_quiet (fail)
    go_wp2
    go_ret
    exact ⟨ret_i64 HE1.out.symm, Blw.is (hbW.trans (by repeat (first | exact Blw.refl _ | apply Blw.ext | apply Blw.alloc | apply Blw.drewN | apply Blw.drew | refine Blw.setCell ?_ _ _ (by simp))))⟩
  have d1 := dge h1
  replace HE := Lib.hid (HE.out.trans (if_neg h1))
  clear h1
  by_cases h2 : 1048576 < la
  · have d2 := dlt h2
    have HE1 := Lib.hid (HE.out.trans (if_pos h2))
    clear h2 HE
    go_quiet (fail)
    go_wp2
    go_ret
    exact ⟨ret_i64 HE1.out.symm, Blw.is (hbW.trans (by repeat (first | exact Blw.refl _ | apply Blw.ext | apply Blw.alloc | apply Blw.drewN | apply Blw.drew | refine Blw.setCell ?_ _ _ (by simp))))⟩
  have d2 := dge h2
  replace HE := Lib.hid (HE.out.trans (if_neg h2))
  clear h2
  by_cases h3 : la < t
  · have d3 := dlt h3
    have HE1 := Lib.hid (HE.out.trans (if_pos h3))
    clear h3 HE
    go_quiet (fail)
    go_wp2
    go_ret
    exact ⟨ret_i64 HE1.out.symm, Blw.is (hbW.trans (by repeat (first | exact Blw.refl _ | apply Blw.ext | apply Blw.alloc | apply Blw.drewN | apply Blw.drew | refine Blw.setCell ?_ _ _ (by simp))))⟩
  have d3 := dge h3
  replace HE := Lib.hid (HE.out.trans (if_neg h3))
  clear h3
  by_cases h4 : t ≤ yl
  · have d4 := dle h4
    have HE1 := Lib.hid (HE.out.trans (if_pos h4))
    clear h4 HE
    go_quiet (fail)
    go_wp2
    go_ret
    exact ⟨ret_i64 HE1.out.symm, Blw.is (hbW.trans (by repeat (first | exact Blw.refl _ | apply Blw.ext | apply Blw.alloc | apply Blw.drewN | apply Blw.drew | refine Blw.setCell ?_ _ _ (by simp))))⟩
  have d4 := dgt h4
  replace HE := Lib.hid (HE.out.trans (if_neg h4))
  clear h4
  go_quiet (fail)
  go_wp2_with fail
  refine Calls.mono (CK.out _ (hbW.trans (by repeat (first | exact Blw.refl _ | apply Blw.ext | apply Blw.alloc | apply Blw.drewN | apply Blw.drew | refine Blw.setCell ?_ _ _ (by simp))))) ?_
  rintro e W2 ⟨rfl, x1, hWe⟩
  have hb2 : Blw W W2 := by rw [hWe]; exact (by repeat (first | exact Blw.refl _ | apply Blw.ext | apply Blw.alloc | apply Blw.drewN | apply Blw.drew | refine Blw.setCell ?_ _ _ (by simp)))
  clear CK hWe
  replace b0 := (Below.cell hb2 hsW).trans b0
  replace b2 := (Below.cell hb2 hsW).trans b2
  replace b3 := (Below.cell hb2 hsW).trans b3
  replace b4 := (Below.cell hb2 hsW).trans b4
  replace b5 := (Below.cell hb2 hsW).trans b5
  replace e0 := (Below.cell hb2 hbs).trans e0
  replace e1 := (Below.cell hb2 hbs).trans e1
  replace e2 := (Below.cell hb2 hbs).trans e2
  replace e3 := (Below.cell hb2 hbs).trans e3
  replace e4 := (Below.cell hb2 hbs).trans e4
  replace e5 := (Below.cell hb2 hbs).trans e5
  replace hbs := Nat.lt_of_lt_of_le hbs hb2.size
  replace hsW := Nat.lt_of_lt_of_le hsW hb2.size
  replace hbW := hbW.trans hb2
  clear hb2 b1
  by_cases hu : u = 0
  · have FR1 := Lib.hid (FR.out hu)
    have hcm := FC.out hu
    have HE1 := Lib.hid (HE.out.trans (if_neg (by simpa using hu)))
    subst hu
    clear FR HE FC
    go_wp2_with fail
    refine wp_region_ext_lit (by kernel_rfl) (by kernel_rfl) ?_
    repeat (quiet_step ((go_at_call 131; (with_reducible exact Calls.ext_of (FR1.out _ (hbW.trans (by repeat (first | exact Blw.refl _ | apply Blw.ext | apply Blw.alloc | apply Blw.drewN | apply Blw.drew | refine Blw.setCell ?_ _ _ (by simp)))))))))
    refine wpQuiet_nil ?_
    rintro _ ⟨z8, rfl⟩
    clear FR1
    by_cases h5 : tp = yp
    · have HE2 := Lib.hid (HE1.out.trans (if_pos h5))
      subst h5
      clear HE1 hcm
      cases tp
      all_goals
        go_wp2_with fail
        go_quiet (fail)
        go_wp2
        go_ret
        exact ⟨ret_i64 HE2.out.symm, Blw.is (hbW.trans (by repeat (first | exact Blw.refl _ | apply Blw.ext | apply Blw.alloc | apply Blw.drewN | apply Blw.drew | refine Blw.setCell ?_ _ _ (by simp))))⟩
    · have HE2 := Lib.hid (HE1.out.trans (if_neg h5))
      clear HE1
      have h6 : yp = !tp := by cases tp <;> cases yp <;> simp_all
      subst h6
      clear h5
      cases tp
      all_goals
        simp only [Bool.not_false, Bool.not_true] at e2
        have HE3 := HE2.out
        simp only [Bool.false_eq_true, if_true, if_false] at HE3
        rcases hcm with rfl | rfl | rfl
        all_goals
          have HE4 := Lib.hid HE3
          clear HE3 HE2
          go_wp2_with fail
          go_quiet (fail)
          go_wp2
          go_ret
          exact ⟨ret_i64 HE4.out.symm, Blw.is (hbW.trans (by repeat (first | exact Blw.refl _ | apply Blw.ext | apply Blw.alloc | apply Blw.drewN | apply Blw.drew | refine Blw.setCell ?_ _ _ (by simp))))⟩
  · have q : (u != 0) = true := by simpa using hu
    have HE1 := Lib.hid (HE.out.trans (if_pos hu))
    clear hu FR HE
    go_wp2
    go_ret
    exact ⟨ret_i64 HE1.out.symm, Blw.is (hbW.trans (by repeat (first | exact Blw.refl _ | apply Blw.ext | apply Blw.alloc | apply Blw.drewN | apply Blw.drew | refine Blw.setCell ?_ _ _ (by simp))))⟩
end Go.Proofs.Ytigkfdoeneemeaa
/- The walk of slackwaterref25.Check. -/
namespace Go.Proofs.Ytigkfdoeneemeaa
open Go.RowKit

set_option maxRecDepth 100000 in
set_option maxHeartbeats 2000000 in
theorem refCheck25_any (A : Option Addr) (l : List WL) (cap : Nat) (w : World) (hA : Arr w A (wls l)) (hin : ∀ x ∈ l, FL.In w x.h) (hl : l.length ≤ 100000) :
    Calls Try.prog 72 #[.slice A l.length cap] w fun e w' => e = .returned (.agg #[.int .i64 (checkW l).1, .int .i64 (checkW l).2]) ∧ ∃ x, w' = w.ext x := by
  have hR0 : (w.alloc (.cells #[.int .i64 0, .int .i64 0] 36)).heap[w.heap.size]? = some (.cells #[.int .i64 0, .int .i64 0] 36 (0, 0)) := heap_alloc_new _ _
  by_cases h0 : 4096 < l.length
  · have d1 : decide ((4096 : Int) < (l.length : Int)) = true := by simp; omega
    have HE := Lib.hid (show checkW l = (3, -1) from if_pos h0)
    obtain ⟨hfz, e0, e1, r0, r1⟩ := pairC hR0 (.int .i64 3) (.int .i64 (-1))
    clear hR0 h0
    go_enter Try.func72, Try.ntmps72
    go_wp2
    exact bodyPost_ret (v := .agg #[.int .i64 3, .int .i64 (-1)]) (by simp [results, Try.results72, go_sem, r0, r1]) rfl ⟨by rw [HE.out], Blw.is (by repeat (first | exact Blw.refl _ | apply Blw.ext | apply Blw.alloc | apply Blw.drewN | apply Blw.drew | refine Blw.setCell ?_ _ _ (by simp)))⟩
  have d1 : decide ((4096 : Int) < (l.length : Int)) = false := by simp; omega
  have he : checkW l = match firstBad (chkAt l) 0 l.length with | none => (0, 0) | some i => (chkAt l i, i) := if_neg h0
  have HE := Lib.hid he
  have HIN := Lib.hid hin
  have hl4 : l.length ≤ 4096 := by omega
  clear he hin h0 hl
  go_enter Try.func72, Try.ntmps72
  go_wp2
  clear d1
  go_loopw [3] (fun vi wr => ∃ k : Nat, k ≤ l.length ∧ vi = .int .i64 k ∧ (k = 0 ∨ Hid (chkAt l (k - 1) = 0)) ∧ Hid (firstBad (chkAt l) 0 l.length = firstBad (chkAt l) k (l.length - k)) ∧ Blw w wr ∧ wr.heap[w.heap.size]? = some (.cells #[.int .i64 0, .int .i64 0] 36 (0, 0))) (fun i _ => l.length - (intOf i).toNat)
  case atStart => exact ⟨0, Nat.zero_le _, rfl, .inl rfl, rfl, (by repeat (first | exact Blw.refl _ | apply Blw.ext | apply Blw.alloc | apply Blw.drewN | apply Blw.drew | refine Blw.setCell ?_ _ _ (by simp))), hR0⟩
  case round =>
    obtain ⟨k, hk, rfl, hah, hfb, hb, hR⟩ := hrel
    clear hR0
    by_cases hlt : k < l.length
    · obtain ⟨x, b, o, hgx, hmx, e1, hbs, c0, c1, c2, c3, c4, c5⟩ := wl_at (hA.blw hb) hlt
      have hxin := (HIN.out x hmx).blw hb
      have hlk : l.length - k = l.length - (k + 1) + 1 := by omega
      rw [hlk] at hfb
      have key : (chkAt l k = 0 → firstBad (chkAt l) 0 l.length = firstBad (chkAt l) (k + 1) (l.length - (k + 1))) ∧ (¬ chkAt l k = 0 → checkW l = (chkAt l k, (k : Int))) := by
        constructor
        · intro h; rw [hfb.out, firstBad_on h]
        · intro h; rw [HE.out, hfb.out, firstBad_at h]
      have HK := Lib.hid key
      clear key hfb hlk hmx
      have hwr : ∃ u, chkAt l k = u ∧ (∀ W : World, Blw wr W → Calls Try.prog 124 #[.slice A l.length cap, .int .i64 (k : Int)] W fun e w' => e = .returned (.int .i64 u) ∧ ∃ y, w' = W.ext y) := by
        rcases Nat.eq_zero_or_pos k with h | h
        · subst h
          exact ⟨wrongN x, by unfold chkAt; rw [hgx]; rfl, fun W hW => refWrong_first A l cap x W ((hA.blw hb).blw hW) hgx (hxin.blw hW)⟩
        · obtain ⟨m, rfl⟩ : ∃ m, k = m + 1 := ⟨k - 1, by omega⟩
          obtain ⟨y, b2, o2, hgy, hmy, -⟩ := wl_at (hA.blw hb) (show m < l.length by omega)
          have hm : chkAt l m = 0 := by
            rcases hah with h0 | h0
            · omega
            · exact h0.out
          refine ⟨wrongS y x, ?_, fun W hW => refWrong_next A l cap m x y W ((hA.blw hb).blw hW) hgy hgx (hxin.blw hW) (((HIN.out y hmy).blw hb).blw hW) (ok_chkF (chkAt_chk hgy hm)) (by omega)⟩
          unfold chkAt
          rw [hgx]
          simp only [Nat.add_one_ne_zero, if_false, Nat.add_sub_cancel]
          rw [hgy]
      obtain ⟨u, hu, hw⟩ := hwr
      have HW := Lib.hid hw
      have HU := Lib.hid hu
      clear hw hu hah hxin hgx e1 c0 c1 c2 c3 c4 c5
      go_wp2_with fail
      refine Calls.mono (HW.out _ (Blw.refl _)) ?_
      rintro e w1 ⟨rfl, x1, rfl⟩
      clear HW
      by_cases hz : u = 0
      · have HF := Lib.hid (HK.out.1 (HU.out.trans hz))
        have HZ := Lib.hid (HU.out.trans hz)
        subst hz
        clear HK HU
        go_wp2
        go_roundw
        case rel => exact ⟨k + 1, by omega, by go_num, .inr HZ, HF, hb.trans (by repeat (first | exact Blw.refl _ | apply Blw.ext | apply Blw.alloc | apply Blw.drewN | apply Blw.drew | refine Blw.setCell ?_ _ _ (by simp))), at_ext _ hR⟩
        case measure => simp [intOf]; omega
      · have q : (u != 0) = true := by simpa using hz
        have HF := Lib.hid (HK.out.2 (fun e => hz (HU.out.symm.trans e)))
        have HF2 := Lib.hid (HF.out.trans (by rw [HU.out]))
        obtain ⟨hfz, e0, e1, r0, r1⟩ := pairC (at_ext x1 hR) (.int .i64 u) (.int .i64 k)
        clear HK HU HF hz hR
        go_wp2
        exact bodyPost_ret (v := .agg #[.int .i64 u, .int .i64 k]) (by simp [results, Try.results72, go_sem, r0, r1]) rfl ⟨by rw [HF2.out], Blw.is (((hb.ext x1).setCell _ _ (Nat.le_refl _)).setCell _ _ (Nat.le_refl _))⟩
    · have hkl : k = l.length := by omega
      subst hkl
      have HF : Hid (checkW l = (0, 0)) := by
        show _ = _
        rw [HE.out, hfb.out, Nat.sub_self]; rfl
      obtain ⟨hfz, e0, e1, r0, r1⟩ := pairC hR (.int .i64 0) (.int .i64 0)
      clear hR hfb hah hlt
      go_wp2
      exact bodyPost_ret (v := .agg #[.int .i64 0, .int .i64 0]) (by simp [results, Try.results72, go_sem, r0, r1]) rfl ⟨by rw [HF.out], Blw.is ((hb.setCell _ _ (Nat.le_refl _)).setCell _ _ (Nat.le_refl _))⟩
end Go.Proofs.Ytigkfdoeneemeaa
/- The walks of slackwaterref25.extreme, Highest, Lowest. -/
namespace Go.Proofs.Ytigkfdoeneemeaa
open Go.RowKit

def bestI : Option Nat → Int
  | none => -1
  | some b => b

set_option maxRecDepth 100000 in
set_option maxHeartbeats 2000000 in
theorem refExtreme_any (A : Option Addr) (l : List WL) (cap : Nat) (top : Bool) (w : World) (hA : Arr w A (wls l)) (hin : ∀ x ∈ l, FL.In w x.h) (hl : l.length ≤ 100000) :
    Calls Try.prog 122 #[.slice A l.length cap, .bool top] w fun e w' => e = .returned (.tuple #[.int .i64 (farW l top (if top = true then 1 else -1)).1, .bool (farW l top (if top = true then 1 else -1)).2]) ∧ ∃ x, w' = w.ext x := by
  have CK := refCheck25_any A l cap w hA hin hl
  obtain ⟨to, hto⟩ : ∃ to : Int, to = if top = true then 1 else -1 := ⟨_, rfl⟩
  rw [← hto]
  by_cases h0 : checkW l = (0, 0)
  · have HE := Lib.hid (show farW l top to = ((farS l top to l.length).getD 0, (farS l top to l.length).isSome) from if_pos h0)
    rw [h0] at CK
    obtain ⟨hl4, -, hok⟩ := checkW_ok h0
    have HOK := Lib.hid hok
    have HIN := Lib.hid hin
    have HCK := Lib.hid CK
    have HTO := Lib.hid hto
    clear CK h0 hok hin hl hto
    go_enter Try.func122, Try.ntmps122
    go_wp2_with fail
    refine Calls.mono HCK.out ?_
    rintro e w1 ⟨rfl, x1, rfl⟩
    clear HCK
    go_wp2
    go_loopw [6, 7] (fun v6 vi wr => ∃ k : Nat, k ≤ l.length ∧ vi = .int .i64 k ∧ v6 = .int .i64 (bestI (farS l top to k)) ∧ Blw w wr) (fun _ i _ => l.length - (intOf i).toNat)
    case atStart => exact ⟨0, Nat.zero_le _, rfl, rfl, (by repeat (first | exact Blw.refl _ | apply Blw.ext | apply Blw.alloc | apply Blw.drewN | apply Blw.drew | refine Blw.setCell ?_ _ _ (by simp)))⟩
    case round =>
      obtain ⟨k, hk, rfl, rfl, hb⟩ := hrel
      by_cases hlt : k < l.length
      · obtain ⟨x, b, o, hgx, hmx, e1, hbs, c0, c1, c2, c3, c4, c5⟩ := wl_at (hA.blw hb) hlt
        have hxin := (HIN.out x hmx).blw hb
        have hxok := HOK.out x hmx
        have hst : farS l top to (k + 1) = if x.top = top then (match farS l top to k with | none => some k | some b => if cmpF x.h.r (rgW l b) = to then some k else some b) else farS l top to k := by
          rw [farS, hgx] <;> rfl
        have HB : Hid (∀ p, farS l top to k = some p → ∃ y : WL, p < l.length ∧ (cmpF x.h.r (rgW l p) = -1 ∨ cmpF x.h.r (rgW l p) = 0 ∨ cmpF x.h.r (rgW l p) = 1) ∧ wr.cell? ⟨b, o + p * 6 + 3, none⟩ = some (.bool y.h.r.neg) ∧ wr.cell? ⟨b, o + p * 6 + 4, none⟩ = some (.slice y.h.a y.h.r.num.length y.h.c) ∧ wr.cell? ⟨b, o + p * 6 + 5, none⟩ = some (.slice y.h.b y.h.r.den.length y.h.d) ∧
            ∀ W : World, Blw wr W → Calls Try.prog 131 #[frV x.h.r x.h.a x.h.c x.h.b x.h.d, frV y.h.r y.h.a y.h.c y.h.b y.h.d] W fun e w' => e = .returned (.int .i64 (cmpF x.h.r (rgW l p))) ∧ ∃ z, w' = W.ext z) := by
          intro p hp
          obtain ⟨-, hpl⟩ := farS_lt k p hp
          obtain ⟨y, b2, o2, hgy, hmy, e3, hbs2, -, -, -, f3, f4, f5⟩ := wl_at (hA.blw hb) hpl
          rw [e1] at e3
          simp only [Option.some.injEq, Addr.mk.injEq] at e3
          obtain ⟨rfl, rfl, -⟩ := e3
          have hr : rgW l p = y.h.r := by unfold rgW; rw [hgy]
          exact ⟨y, hpl, by rw [hr]; exact cmpF_cases hxok (HOK.out y hmy), f3, f4, f5, fun W hW => by rw [hr]; exact refCmp25_ok x.h.r y.h.r _ _ _ _ _ _ _ _ W (FrA.blw hxin hW) (FrA.blw ((HIN.out y hmy).blw hb) hW) hxok (HOK.out y hmy)⟩
        have HST := Lib.hid hst
        subst e1
        clear hst hxin hxok hgx hmx
        obtain ⟨t, la, tp, ⟨⟨rn, rnum, rden⟩, ra, rc, rb, rd⟩⟩ := x
        simp only at HST HB c0 c1 c2 c3 c4 c5
        have j1 : (k : Int) < (l.length : Int) := by omega
        have j2 : (0 : Int) ≤ (k : Int) := by omega
        by_cases htp : tp = top
        · have HS2 := Lib.hid (HST.out.trans (if_pos htp))
          subst htp
          clear HST
          generalize hfk : farS l tp to k = fk at *
          have HFK := Lib.hid hfk
          clear hfk
          cases fk with
          | none =>
            have HS3 := Lib.hid (show farS l tp to (k + 1) = some k from HS2.out)
            clear HS2 HB HFK
            simp only [bestI]
            cases tp
            all_goals
              go_wp2_with fail
              go_quiet (fail)
              go_wp2
              go_roundw
              case rel => exact ⟨k + 1, by omega, by go_num, by rw [HS3.out] <;> rfl, hb.trans (by repeat (first | exact Blw.refl _ | apply Blw.ext | apply Blw.alloc | apply Blw.drewN | apply Blw.drew | refine Blw.setCell ?_ _ _ (by simp)))⟩
              case measure => simp [intOf]; omega
          | some p =>
            obtain ⟨y, hpl, hcm, f3, f4, f5, hc⟩ := HB.out p rfl
            have HC := Lib.hid hc
            have HS3 := Lib.hid (show farS l tp to (k + 1) = if cmpF ⟨rn, rnum, rden⟩ (rgW l p) = to then some k else some p from HS2.out)
            simp only [bestI]
            have j3 : (p : Int) < (l.length : Int) := by omega
            have j4 : (0 : Int) ≤ (p : Int) := by omega
            have j5 : decide ((p : Int) < 0) = false := by simp
            have hto := HTO.out
            clear HS2 HB hc HFK
            generalize cmpF _ (rgW l p) = cm at *
            cases tp
            all_goals
              simp only [Bool.false_eq_true, if_true, if_false] at hto
              rcases hcm with rfl | rfl | rfl
              all_goals
                have HS4 := HS3.out
                rw [hto] at HS4
                first | rw [if_pos rfl] at HS4 | rw [if_neg (by decide)] at HS4
                have HS5 := Lib.hid HS4
                clear HS4 HS3 hto
                go_wp2_with fail
                refine wp_region_ext_lit (by kernel_rfl) (by kernel_rfl) ?_
                repeat (go_big_quiet_step ((go_at_call 131; (with_reducible exact Calls.ext_of (HC.out _ (by repeat (first | exact Blw.refl _ | apply Blw.ext | apply Blw.alloc | apply Blw.drewN | apply Blw.drew | refine Blw.setCell ?_ _ _ (by simp))))))))
                refine wpQuiet_nil ?_
                rintro _ ⟨z, rfl⟩
                go_wp2
                go_roundw
                case rel => exact ⟨k + 1, by omega, by go_num, by rw [HTO.out]; simp only [Bool.false_eq_true, if_true, if_false]; rw [HS5.out] <;> rfl, hb.trans (by repeat (first | exact Blw.refl _ | apply Blw.ext | apply Blw.alloc | apply Blw.drewN | apply Blw.drew | refine Blw.setCell ?_ _ _ (by simp)))⟩
                case measure => simp [intOf]; omega
        · have HS2 := Lib.hid (HST.out.trans (if_neg htp))
          have h6 : top = !tp := by cases tp <;> cases top <;> simp_all
          subst h6
          clear HST HB htp
          cases tp
          all_goals
            go_wp2
            go_roundw
            case rel => exact ⟨k + 1, by omega, by go_num, by rw [HS2.out], hb.trans (by repeat (first | exact Blw.refl _ | apply Blw.ext | apply Blw.alloc | apply Blw.drewN | apply Blw.drew | refine Blw.setCell ?_ _ _ (by simp)))⟩
            case measure => simp [intOf]; omega
      · have hkl : k = l.length := by omega
        subst hkl
        generalize farS l top to l.length = fk at *
        cases fk with
        | none =>
          simp only [bestI]
          go_wp2
          go_ret2
          exact ⟨by rw [HE.out]; rfl, Blw.is hb⟩
        | some p =>
          simp only [bestI]
          have j5 : decide ((p : Int) < 0) = false := by simp
          go_wp2
          go_ret2
          exact ⟨by rw [HE.out]; rfl, Blw.is hb⟩
  · have HE := Lib.hid (show farW l top to = (0, false) from if_neg h0)
    have hne : (checkW l).1 ≠ 0 ∨ (checkW l).2 ≠ 0 := by
      by_cases h1 : (checkW l).1 = 0
      · refine .inr fun h2 => h0 ?_
        exact Prod.ext h1 h2
      · exact .inl h1
    generalize (checkW l).1 = u at *
    generalize (checkW l).2 = v at *
    have HCK := Lib.hid CK
    clear CK h0 hto
    by_cases hu : u = 0
    · have hv : ¬ v = 0 := by rcases hne with h | h; exact absurd hu h; exact h
      subst hu
      have q1 : (v == 0) = false := by simpa using hv
      have q2 : (v != 0) = true := by simpa using hv
      have q3 : decide (v = 0) = false := by simpa using hv
      clear hne hv
      go_enter Try.func122, Try.ntmps122
      go_wp2_with fail
      refine Calls.mono HCK.out ?_
      rintro e w1 ⟨rfl, x1, rfl⟩
      clear HCK
      go_wp2
      go_ret2
      exact ⟨by rw [HE.out]; rfl, Blw.is (by repeat (first | exact Blw.refl _ | apply Blw.ext | apply Blw.alloc | apply Blw.drewN | apply Blw.drew | refine Blw.setCell ?_ _ _ (by simp)))⟩
    · have q1 : (u == 0) = false := by simpa using hu
      have q2 : (u != 0) = true := by simpa using hu
      have q3 : decide (u = 0) = false := by simpa using hu
      clear hne hu
      go_enter Try.func122, Try.ntmps122
      go_wp2_with fail
      refine Calls.mono HCK.out ?_
      rintro e w1 ⟨rfl, x1, rfl⟩
      clear HCK
      go_wp2
      go_ret2
      exact ⟨by rw [HE.out]; rfl, Blw.is (by repeat (first | exact Blw.refl _ | apply Blw.ext | apply Blw.alloc | apply Blw.drewN | apply Blw.drew | refine Blw.setCell ?_ _ _ (by simp)))⟩
set_option maxHeartbeats 400000 in
theorem ref25Highest_any (A : Option Addr) (l : List WL) (cap : Nat) (w : World) (hA : Arr w A (wls l)) (hin : ∀ x ∈ l, FL.In w x.h) (hl : l.length ≤ 100000) :
    Calls Try.prog 68 #[.slice A l.length cap] w fun e w' => e = .returned (.tuple #[.int .i64 (farW l true 1).1, .bool (farW l true 1).2]) ∧ ∃ x, w' = w.ext x := by
  have H := Lib.hid (refExtreme_any A l cap true w hA hin hl)
  simp only [Bool.false_eq_true, if_true, if_false] at H
  clear hA hin hl
  go_enter Try.func68, Try.ntmps68
  go_wp2_with fail
  refine Calls.mono H.out ?_
  rintro e w1 ⟨rfl, x1, rfl⟩
  go_wp2
  go_ret2
  exact ⟨rfl, Blw.is (by repeat (first | exact Blw.refl _ | apply Blw.ext | apply Blw.alloc | apply Blw.drewN | apply Blw.drew | refine Blw.setCell ?_ _ _ (by simp)))⟩
set_option maxHeartbeats 400000 in
theorem ref25Lowest_any (A : Option Addr) (l : List WL) (cap : Nat) (w : World) (hA : Arr w A (wls l)) (hin : ∀ x ∈ l, FL.In w x.h) (hl : l.length ≤ 100000) :
    Calls Try.prog 70 #[.slice A l.length cap] w fun e w' => e = .returned (.tuple #[.int .i64 (farW l false (-1)).1, .bool (farW l false (-1)).2]) ∧ ∃ x, w' = w.ext x := by
  have H := Lib.hid (refExtreme_any A l cap false w hA hin hl)
  simp only [Bool.false_eq_true, if_true, if_false] at H
  clear hA hin hl
  go_enter Try.func70, Try.ntmps70
  go_wp2_with fail
  refine Calls.mono H.out ?_
  rintro e w1 ⟨rfl, x1, rfl⟩
  go_wp2
  go_ret2
  exact ⟨rfl, Blw.is (by repeat (first | exact Blw.refl _ | apply Blw.ext | apply Blw.alloc | apply Blw.drewN | apply Blw.drew | refine Blw.setCell ?_ _ _ (by simp)))⟩
end Go.Proofs.Ytigkfdoeneemeaa
/- slackwaterkit's SameWords, SameRatio, walked. -/
namespace Go.Proofs.Ytigkfdoeneemeaa
open Go.RowKit

theorem ret_b {a b : Bool} (h : a = b) : Ending.returned (.bool a) = .returned (.bool b) := by rw [h]
def sameR (r s : Fr) : Bool := r.neg == s.neg && (r.num == s.num && r.den == s.den)
theorem sameR_iff {r s : Fr} : sameR r s = true ↔ r = s := by
  obtain ⟨a, b, c⟩ := r
  obtain ⟨d, e, f⟩ := s
  simp [sameR]
theorem sameR_refl (r : Fr) : sameR r r = true := sameR_iff.2 rfl

set_option maxHeartbeats 1600000 in
theorem sameWords_any (a b : Option Addr) (l m : List Nat) (c d : Nat) (w : World) (ha : Arr w a (u32s l)) (hb : Arr w b (u32s m)) (hl : l.length ≤ 1099511627776) (hm : m.length ≤ 1099511627776) :
    Calls Try.prog 116 #[.slice a l.length c, .slice b m.length d] w fun e w' => e = .returned (.bool (l == m)) ∧ ∃ x, w' = w.ext x := by
  by_cases hlm : l.length = m.length
  · have HLM := Lib.hid hlm
    have d1 : ((l.length : Int) != (m.length : Int)) = false := by simp; omega
    have d2 : ((l.length : Int) == (m.length : Int)) = true := by simp; omega
    clear hlm
    go_enter Try.func116, Try.ntmps116
    go_wp2
    clear d1 d2
    go_loopw [5] (fun i wr => ∃ k : Nat, k ≤ l.length ∧ i = .int .i64 k ∧ Blw w wr ∧ Hid (l.take k = m.take k)) (fun i _ => l.length - (intOf i).toNat)
    case atStart => exact ⟨0, Nat.zero_le _, rfl, Blw.refl _, rfl⟩
    case round =>
      obtain ⟨k, hk, rfl, hbw, htk⟩ := hrel
      have hlm := HLM.out
      by_cases hlt : k < l.length
      · obtain ⟨x, b1, o1, hd1, -, hgx, rfl, hb1, hc1⟩ := (ha.blw hbw).elem hlt
        obtain ⟨y, b2, o2, hd2, -, hgy, rfl, hb2, hc2⟩ := (hb.blw hbw).elem (show k < m.length by omega)
        have h0 : (0 : Int) ≤ (k : Int) := by omega
        have h1 : (k : Int) < (l.length : Int) := by omega
        have h2 : (k : Int) < (m.length : Int) := by omega
        have HX : Hid (l[k]? = some x) := hgx.out
        have HY : Hid (m[k]? = some y) := hgy.out
        clear hgx hgy hd1 hd2 hlm
        by_cases hxy : x = y
        · have HT : Hid (l.take (k + 1) = m.take (k + 1)) := by
            show _ = _
            rw [List.take_add_one, List.take_add_one, htk.out, HX.out, HY.out, hxy]
          subst hxy
          clear HX HY
          go_wp2_with fail
          go_quiet (fail)
          go_wp2
          go_roundw
          case rel => exact ⟨k + 1, by omega, by go_num, hbw.trans (by repeat (first | exact Blw.refl _ | apply Blw.ext | apply Blw.alloc | apply Blw.drewN | apply Blw.drew | refine Blw.setCell ?_ _ _ (by simp))), HT⟩
          case measure => simp [intOf]; omega
        · have HF : Hid ((l == m) = false) := by
            show _ = _
            simp only [beq_eq_false_iff_ne, ne_eq]
            intro e
            have := HX.out
            rw [e, HY.out] at this
            exact hxy (by injection this with this; exact this.symm)
          have q1 : ((x : Int) != (y : Int)) = true := by simp; omega
          have q2 : ((x : Int) == (y : Int)) = false := by simp; omega
          clear HX HY htk hxy
          go_wp2_with fail
          go_quiet (fail)
          go_wp2
          go_ret
          exact ⟨ret_b HF.out.symm, Blw.is (hbw.trans (by repeat (first | exact Blw.refl _ | apply Blw.ext | apply Blw.alloc | apply Blw.drewN | apply Blw.drew | refine Blw.setCell ?_ _ _ (by simp))))⟩
      · have HF : Hid ((l == m) = true) := by
          show _ = _
          have := htk.out
          rw [List.take_of_length_le (by omega), List.take_of_length_le (by omega)] at this
          simpa using this
        clear htk hlm
        go_wp2
        go_ret
        exact ⟨ret_b HF.out.symm, Blw.is hbw⟩
  · have HF : Hid ((l == m) = false) := by
      show _ = _
      simp only [beq_eq_false_iff_ne, ne_eq]
      intro e; exact hlm (by rw [e])
    have d1 : ((l.length : Int) != (m.length : Int)) = true := by simp; omega
    have d2 : ((l.length : Int) == (m.length : Int)) = false := by simp; omega
    clear hlm
    go_enter Try.func116, Try.ntmps116
    go_wp2
    go_ret
    exact ⟨ret_b HF.out.symm, Blw.is (Blw.refl _)⟩

set_option maxRecDepth 100000 in
set_option maxHeartbeats 1600000 in
theorem sameRatio_any (x y : FL) (w : World) (hx : FL.In w x) (hy : FL.In w y) (lx : x.r.num.length ≤ 1099511627776 ∧ x.r.den.length ≤ 1099511627776) (ly : y.r.num.length ≤ 1099511627776 ∧ y.r.den.length ≤ 1099511627776) :
    Calls Try.prog 91 #[frV x.r x.a x.c x.b x.d, frV y.r y.a y.c y.b y.d] w fun e w' => e = .returned (.bool (sameR x.r y.r)) ∧ ∃ z, w' = w.ext z := by
  have he : sameR x.r y.r = (x.r.neg == y.r.neg && (x.r.num == y.r.num && x.r.den == y.r.den)) := rfl
  have K1 := Lib.hid (fun (W : World) (hW : Blw w W) => sameWords_any x.a y.a x.r.num y.r.num x.c y.c W (hx.an.blw hW) (hy.an.blw hW) lx.1 ly.1)
  have K2 := Lib.hid (fun (W : World) (hW : Blw w W) => sameWords_any x.b y.b x.r.den y.r.den x.d y.d W (hx.ad.blw hW) (hy.ad.blw hW) lx.2 ly.2)
  clear hx hy lx ly
  obtain ⟨⟨xn, xu, xe⟩, xa, xc, xb, xd⟩ := x
  obtain ⟨⟨yn, yu, ye⟩, ya, yc, yb, yd⟩ := y
  simp only at he K1 K2
  generalize sameR _ _ = res at *
  generalize (xu == yu) = t1 at *
  generalize (xe == ye) = t2 at *
  have HE := Lib.hid he
  clear he
  go_enter Try.func91, Try.ntmps91
  cases xn <;> cases yn <;> cases t1 <;> cases t2
  all_goals
    go_wp2_with (go_at_call 116; (first | ((with_reducible refine (K1.out _ ?_).mono ?_); (· exact (by repeat (first | exact Blw.refl _ | apply Blw.ext | apply Blw.alloc | apply Blw.drewN | apply Blw.drew | refine Blw.setCell ?_ _ _ (by simp)))); rintro e w' ⟨rfl, z, rfl⟩) | ((with_reducible refine (K2.out _ ?_).mono ?_); (· exact (by repeat (first | exact Blw.refl _ | apply Blw.ext | apply Blw.alloc | apply Blw.drewN | apply Blw.drew | refine Blw.setCell ?_ _ _ (by simp)))); rintro e w' ⟨rfl, z, rfl⟩)))
    go_ret
    exact ⟨ret_b HE.out.symm, Blw.is (by repeat (first | exact Blw.refl _ | apply Blw.ext | apply Blw.alloc | apply Blw.drewN | apply Blw.drew | refine Blw.setCell ?_ _ _ (by simp)))⟩
end Go.Proofs.Ytigkfdoeneemeaa
