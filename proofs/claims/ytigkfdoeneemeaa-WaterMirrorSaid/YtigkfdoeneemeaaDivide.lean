/- The walk of nat.divide: the long way. -/
import Derived.Test.YtigkfdoeneemeaaDivW
import Derived.Deep.RegionWith
namespace Go.Proofs.Ytigkfdoeneemeaa
open Go.RowKit

theorem lead32_nat (x : Nat) (w : World) (h : x < 4294967296) :
    Calls Try.prog 185 #[.int .u32 x] w fun e w' => e = .returned (.int .i64 ((32 - W.bl x : Nat) : Int)) ∧ w' = w := by
  refine (lead32_any x w (by omega) (by omega)).mono ?_
  rintro e w' ⟨rfl, rfl⟩
  have := W.bl_le32 h
  refine ⟨ret_i64 ?_, rfl⟩
  rw [Int.toNat_natCast, W.bitLen_bl h]
  omega

set_option maxRecDepth 100000 in
set_option maxHeartbeats 8000000 in
theorem natDivide_long (a b : Option Addr) (l m : List Nat) (n : Nat) (c d : Nat) (w : World) (h : Arr w a (u32s l)) (k : Arr w b (u32s m)) (hc : l.length ≤ c) (hd : m.length ≤ d) (hcm : c ≤ 9223372036854775807) (hdm : d ≤ 9223372036854775807)
    (wl : W.WF l) (wm : W.WF m) (nm : W.Nrm m) (hl : l.length ≤ 8193) (hm : m.length = n + 2) (hge : W.val m ≤ W.val l) :
    Calls Try.prog 173 #[.slice a l.length c, .slice b m.length d] w (RetTwo w (W.val l / W.val m) (W.val l % W.val m)) := by
  have c1 : decide (W.cmpN (W.val l) (W.val m) < 0) = false := by rw [cmp_lt]; simpa using hge
  have hml : m.length ≤ l.length := by
    have h1 := W.val_lt wl
    rcases Nat.lt_or_ge l.length m.length with h2 | h2
    · have := W.val_lt_len wl nm h2; omega
    · exact h2
  have c2 : ((m.length : Int) == 1) = false := beq_false_of_ne (by omega)
  obtain ⟨x, b1, o1, -, -, hx, rfl, hb, hbc⟩ := k.elem (k := m.length - 1) (by omega)
  have hlast : m.getLast? = some x := by rw [List.getLast?_eq_getElem?]; exact hx.out
  obtain ⟨N1, N2, N3⟩ := W.norm_len wm nm hlast
  have hxl := wm.at hx.out
  obtain ⟨s, hs⟩ : ∃ s, s = 32 - W.bl x := ⟨_, rfl⟩
  have hx0 : x ≠ 0 := fun e => nm (by rw [hlast, e])
  have hs32 : s < 32 := by have : W.bl x ≠ 0 := (by intro e; rw [W.bl_pos hx0] at e; omega); omega
  rw [← hs] at N1 N2 N3
  have hml1 : 0 < m.length := by omega
  have i1 : ((m.length : Int) - 1) < (m.length : Int) := by omega
  have HL := Lib.hid hlast
  have HS := Lib.hid hs
  have HN1 := Lib.hid N1
  have HN2 := Lib.hid N2
  have HN3 := Lib.hid N3
  have HGE := Lib.hid hge
  have HM := Lib.hid hm
  have hm2 : 2 ≤ m.length := by omega
  clear hm
  clear hlast hs hx N1 N2 N3 hge
  go_enter Try.func173, Try.ntmps173
  go_wp2_with fail
  refine Calls.mono (natCompare_any a _ l m c d w h k hc hd hcm hdm wl wm) ?_
  rintro e w' ⟨rfl, x0, rfl⟩
  go_wp2_with fail
  refine Calls.mono (lead32_nat x _ hxl) ?_
  rintro e w' ⟨rfl, rfl⟩
  rw [← HS.out]
  go_wp2_with fail
  refine Calls.mono (natUp_any _ m d s _ (k.ext x0) (by omega) wm hs32) ?_
  rintro e w1 ⟨rfl, vs, hvB, hvL, hvW, hvV, hv1⟩
  go_wp2_with fail
  obtain ⟨gv, hgv⟩ : ∃ gv, gv = (w.ext x0).heap.size := ⟨_, rfl⟩
  have hcut := natCut_any (some ⟨gv, 0, none⟩) vs (m.length + 1) w1 (by rw [hgv]; exact hvB.arr) (by omega) (by omega) hvW
  have hvA0 := arr_pre (by rw [hgv]; exact hvB.arr : Arr w1 (some ⟨gv, 0, none⟩) (u32s vs)) (W.toW_pre hvW)
  rw [hvL, hvV, HN1.out] at hcut
  rw [hvV] at hvA0
  obtain ⟨vv, hvv⟩ : ∃ vv, vv = W.toW (W.val m * 2 ^ s) := ⟨_, rfl⟩
  have vvL := HN1.out
  have vvW := W.wf_toW (W.val m * 2 ^ s)
  have vvV := W.val_toW (W.val m * 2 ^ s)
  rw [← hvv] at vvL vvW vvV hvA0
  have VVV := Lib.hid vvV
  have VVL := Lib.hid vvL
  have hB1 : Blw w w1 := ((Blw.refl w).ext x0).trans hv1
  have hgv1 : gv < w1.heap.size := by rw [hgv]; exact hvB.lt
  have hgv0 : w.heap.size ≤ gv := by rw [hgv]; exact w.le_ext x0
  clear hvB hvL hvW hvV vvV vvL HN1
  rw [← hgv]
  clear hgv hvv
  refine Calls.mono hcut ?_
  rintro e w' ⟨rfl, rfl⟩
  clear hcut
  go_wp2_with fail
  refine Calls.mono (natUp_any a l c s _ (h.blw hB1) (by omega) wl hs32) ?_
  rintro e w2 ⟨rfl, us0, huB, huL, huW, huV, hu1⟩
  obtain ⟨gu, hgu⟩ : ∃ gu, gu = w'.heap.size := ⟨_, rfl⟩
  rw [← hgu] at huB
  have hvA := hvA0.blw hu1
  have hB2 : Blw w w2 := hB1.trans hu1
  have hgu1 : gv < gu := by omega
  have hlq : (l.length : Int) + 1 - (m.length : Int) = ((l.length + 1 - m.length : Nat) : Int) := by omega
  obtain ⟨nq, hnq⟩ : ∃ nq, nq = l.length + 1 - m.length := ⟨_, rfl⟩
  rw [← hnq] at hlq
  have HLQ := Lib.hid hlq
  have HNQ := Lib.hid hnq
  have hnq1 : nq ≤ 8194 := by omega
  clear hlq hnq
  go_wp2_with (refine wpList_words _ rfl _ _ rfl .i64 .i64 _ _ nq rfl rfl HLQ.out HLQ.out (by omega) ?_; intro w3 hqB hq1)
  obtain ⟨gq, hgq⟩ : ∃ gq, gq = w2.heap.size := ⟨_, rfl⟩
  rw [← hgq] at hqB ⊢
  have hguq : gu < gq := by rw [hgq]; exact huB.lt
  have huB3 := huB.blw hq1
  have hvA3 := hvA.blw hq1
  have hB3 : Blw w w3 := hB2.trans hq1
  have hgu0 : w.heap.size ≤ gu := by omega
  have HUL := Lib.hid huL
  have HUV := Lib.hid huV
  subst hgu
  clear hgq hvA hvA0 huB h k hb hbc hu1 hv1 hB1 hB2 hq1 c1 c2 huL huV i1 hgv1
  -- the words of the dividend from the last place on are below the divisor
  have hstart : Hid (W.val (us0.drop nq) < W.val vv) := by
    show _ < _
    have e := W.val_split us0 nq (by rw [HUL.out]; have := HNQ.out; omega)
    rw [HUV.out] at e
    have h1 := W.val_lt wl
    have h2 : W.pw l.length = W.pw nq * W.pw (m.length - 1) := by rw [← W.pw_add]; congr 1; have := HNQ.out; omega
    have h3 : (2 : Nat) ^ s ≤ 2147483648 := Nat.pow_le_pow_right (n := 2) (by decide) (show s ≤ 31 by omega)
    have h4 : W.val l * 2 ^ s < W.pw l.length * 2 ^ s := Nat.mul_lt_mul_of_pos_right h1 (Nat.two_pow_pos s)
    have h5 : W.pw nq * W.val (us0.drop nq) < W.pw nq * (W.pw (m.length - 1) * 2 ^ s) := by
      rw [← Nat.mul_assoc, ← h2]; omega
    have h6 := Nat.lt_of_mul_lt_mul_left h5
    have h7 : W.pw (m.length - 1) * 2 ^ s ≤ W.pw (m.length - 1) * 2147483648 := Nat.mul_le_mul_left _ h3
    have h8 := HN2.out
    rw [VVV.out]
    rw [Nat.mul_comm 2147483648] at h8
    exact Nat.lt_of_lt_of_le h6 (Nat.le_trans h7 h8)
  have hvv0 : Hid (2147483648 * W.pw (n + 1) ≤ W.val vv) := by
    show _ ≤ _
    rw [VVV.out]
    have := HN2.out
    rwa [HM.out] at this
  have hvvlt : Hid (W.val vv < W.pw m.length) := by
    show _ < _
    rw [VVV.out]; exact HN3.out
  go_loopw [11] (fun i wr => ∃ (k : Nat) (us qs : List Nat), k ≤ nq ∧ i = .int .i64 ((k : Int) - 1) ∧ Bk wr w'.heap.size us ∧ Bk wr gq qs ∧ Arr wr (some ⟨gv, 0, none⟩) (u32s vv) ∧ Blw w wr ∧ Hid (us.length = l.length + 1) ∧ Hid (qs.length = nq) ∧ Hid (W.WF us) ∧ Hid (W.WF qs) ∧
    Hid (us.take k = us0.take k) ∧ Hid (W.val (us.drop k) < W.val vv) ∧ Hid (W.val (qs.drop k) * W.val vv + W.val (us.drop k) = W.val (us0.drop k))) (fun i _ => (intOf i + 1).toNat)
  case atStart => exact ⟨nq, us0, _, Nat.le_refl _, rfl, huB3, hqB, hvA3, hB3, HUL, List.length_replicate, huW, W.WF.rep _, rfl, hstart, by
    show _ = _
    rw [List.drop_of_length_le (by simp), W.val, Nat.zero_mul, Nat.zero_add]⟩
  case round =>
    obtain ⟨k, us, qs, hk, rfl, hgU, hgQ, hvA, hB, hul, hql, huw, hqw, hut, hud, hqd⟩ := hrel
    by_cases h0 : 0 < k
    · obtain ⟨j, rfl⟩ : ∃ j, k = j + 1 := ⟨k - 1, by omega⟩
      have ej : (((j + 1 : Nat) : Int) - 1) = (j : Int) := by omega
      rw [ej]
      clear ej
      have hjl : j + m.length + 1 ≤ l.length + 1 := by have := HNQ.out; omega
      have i0 : (0 : Int) ≤ (j : Int) := by omega
      clear h0
      have vvl := VVL.out
      obtain ⟨A, part, R, rfl, hA, hpl, hpw, hAw, hRw, hlt, hnew⟩ := W.div_round (N := m.length) (by rw [hul.out]; exact hjl) huw.out hvvlt.out hut.out (by rw [hul.out]; exact HUL.out) hud.out hqd.out (by rw [hql.out]; omega)
      have hW := hgU.split
      have hAL : (u32s A).length = j := by rw [u32s_len]; exact hA
      have hPA : Arr wr (some ⟨w'.heap.size, j, none⟩) (u32s part) := by have := hW.arr; rwa [hAL] at this
      have hpn : part.length = n + 3 := by rw [hpl, HM.out]
      have hvn : vv.length = n + 2 := by rw [vvl, HM.out]
      have hn1 : n ≤ 1000000 := by have := HM.out; omega
      have E0 := List.getElem?_eq_getElem (l := part) (i := n + 2) (by omega)
      have E1 := List.getElem?_eq_getElem (l := part) (i := n + 1) (by omega)
      have E2 := List.getElem?_eq_getElem (l := part) (i := n) (by omega)
      have E3 := List.getElem?_eq_getElem (l := vv) (i := n + 1) (by omega)
      have E4 := List.getElem?_eq_getElem (l := vv) (i := n) (by omega)
      have hguess := natGuess_any (some ⟨w'.heap.size, j, none⟩) (some ⟨gv, 0, none⟩) part vv (l.length + 1 - j) (m.length + 1) n wr hPA hvA hpw vvW hpn hvn hn1 _ _ _ _ _ _ _ _ _ (W.gs_of hpw vvW hpn hvn hvv0.out hlt E0 E1 E2 E3 E4) rfl E0 E1 E2 E3 E4
      rw [hpl, vvl] at hguess
      have hcapj : j + m.length + 1 - j = m.length + 1 := by omega
      have hvpos : 0 < W.val vv := by have := hud.out; omega
      have hQB : W.val part / W.val vv < 4294967296 := Nat.div_lt_of_lt_mul hlt
      have hPL := W.val_lt hpw
      have HPL := Lib.hid hpl
      have HNEW := Lib.hid hnew
      have HLT := Lib.hid hlt
      have HQB := Lib.hid hQB
      have HPLT := Lib.hid hPL
      have HVP := Lib.hid hvpos
      have HVL := Lib.hid vvl
      clear E0 E1 E2 E3 E4 hnew hlt hQB hPL hvpos hpl hpn hvn
      go_wp2_with fail
      rw [hcapj]
      refine Calls.mono hguess ?_
      rintro e w4 ⟨⟨q, rfl, hq1, hq2, hq3⟩, x4, rfl⟩
      clear hguess
      have hoff := natOff_any w'.heap.size j (u32s A) (u32s R) part vv (some ⟨gv, 0, none⟩) (l.length + 1 - j) (m.length + 1) q (wr.ext x4) hAL (hW.blw (wr.blw_ext x4)) (hvA.ext x4) (fun a ha => by cases ha; exact Nat.ne_of_lt hgu1) (by rw [HPL.out]; omega) (by rw [HPL.out, HVL.out]; omega) hpw vvW hq1
      rw [HPL.out, HVL.out] at hoff
      have HQ2 := Lib.hid hq2
      have HQ3 := Lib.hid hq3
      clear hq2 hq3
      go_wp2_with fail
      refine Calls.mono hoff ?_
      rintro e w5 ⟨u5, b5, rfl, hb5, hW5, hu5w, hu5l, hu5v, hK5⟩
      clear hoff
      have hP : W.val vv < W.pw (m.length + 1) := by
        have := hvvlt.out
        rw [W.pw_succ]
        generalize W.pw m.length = p at *
        omega
      have hU : W.val part < W.pw (m.length + 1) := by have := HPLT.out; rwa [HPL.out] at this
      have h5 : W.val u5 < W.pw (m.length + 1) := by have := W.val_lt hu5w; rwa [hu5l] at this
      have hcases := W.off_is hP HVP.out hU HQ2.out HQ3.out h5 hu5v hb5
      have hQ5 := (hgQ.ext x4).keptO hK5 (Nat.ne_of_gt hguq)
      have hA5 := hK5.arr (hvA.ext x4) (fun q hq => by cases hq; exact Nat.ne_of_lt hgu1)
      have hB5 : Blw w w5 := KeptO.blw (hB.ext x4) hK5 (fun i hi => by rw [hi]; exact hgu0)
      have hgq0 : w.heap.size ≤ gq := by omega
      have hjn : j < nq := by omega
      have hqQ := HQB.out
      clear hP hU h5 hu5v hgQ hvA hB hK5 hgU hW hPA HQ2 HQ3 HPLT
      rcases hcases with ⟨rfl, hq, hv5⟩ | ⟨rfl, hq, hv5⟩
      · have HV := Lib.hid hv5
        have HQ := Lib.hid hq
        have hql1 : q < 4294967296 := by rw [hq]; exact hqQ
        clear hv5 hq hqQ
        obtain ⟨z, hz, hz1, hz2⟩ := hQ5.elem (k := j) (by rw [hql.out]; exact hjn)
        go_wp2_with fail
        go_roundw
        case rel =>
          obtain ⟨t1, t2, t3⟩ := HNEW.out u5 hu5l HV.out
          exact ⟨j, A ++ u5 ++ R, qs.set j (W.val part / W.val vv), by omega, rfl, (Bk.join hW5).far _ _ (Nat.ne_of_lt hguq), hQ5.set j (u32_of (by rw [← HQ.out])), (KeptO.arr (O := (· = gq)) ((KeptO.refl w5).setCell _ _ (.inl rfl)) hA5 (fun q hq => by cases hq; show gv ≠ gq; omega)), hB5.setCell _ _ hgq0, by
            show _ = _
            have := hul.out
            simp only [List.length_append] at this ⊢
            rw [hu5l]; rw [HPL.out] at this; exact this, by (show _ = _; rw [List.length_set]; exact hql.out), (hAw.app hu5w).app hRw, hqw.out.set _ HQB.out, t1, t2, t3⟩
        case measure => (first | (simp [intOf]; done) | (simp [intOf]; omega))
      · have HV := Lib.hid hv5
        have HQ := Lib.hid hq
        have hql1 : q - 1 < 4294967296 := by rw [hq]; generalize W.val part / W.val vv = Q at *; omega
        have hq0 : 1 ≤ q := by rw [hq]; exact Nat.succ_pos _
        clear hv5 hq hqQ
        have hback := natBack_any w'.heap.size j (u32s A) (u32s R) u5 vv (some ⟨gv, 0, none⟩) (l.length + 1 - j) (m.length + 1) w5 hAL hW5 hA5 (fun a ha => by cases ha; exact Nat.ne_of_lt hgu1) (by rw [hu5l]; omega) (by rw [hu5l, HVL.out]; omega) hu5w vvW
        rw [hu5l, HVL.out] at hback
        go_wp2_with fail
        refine Calls.mono hback ?_
        rintro e w6 ⟨u6, c6, rfl, hW6, hu6w, hu6l, hu6v, hK6⟩
        clear hback
        have hu6l' : u6.length = m.length + 1 := hu6l
        have h6 : W.val u6 < W.pw (m.length + 1) := by have := W.val_lt hu6w; rwa [hu6l'] at this
        have HV6 := Lib.hid (HV.out (W.val u6) c6 h6 hu6v)
        have hQ6 := hQ5.keptO hK6 (Nat.ne_of_gt hguq)
        have hA6 := hK6.arr hA5 (fun q hq => by cases hq; exact Nat.ne_of_lt hgu1)
        have hB6 : Blw w w6 := KeptO.blw hB5 hK6 (fun i hi => by rw [hi]; exact hgu0)
        have hqe : ((q : Int) - 1) = ((q - 1 : Nat) : Int) := by omega
        have HQE := Lib.hid hqe
        clear h6 hu6v hQ5 hA5 hB5 hK6 hW5 hqe
        obtain ⟨z, hz, hz1, hz2⟩ := hQ6.elem (k := j) (by rw [hql.out]; exact hjn)
        go_wp2_with fail
        go_roundw
        case rel =>
          obtain ⟨t1, t2, t3⟩ := HNEW.out u6 hu6l' HV6.out
          exact ⟨j, A ++ u6 ++ R, qs.set j (W.val part / W.val vv), by omega, rfl, (Bk.join hW6).far _ _ (Nat.ne_of_lt hguq), hQ6.set j (u32_of (by
            have e : q - 1 = W.val part / W.val vv := by rw [HQ.out]; rfl
            rw [← e]; omega)), (KeptO.arr (O := (· = gq)) ((KeptO.refl w6).setCell _ _ (.inl rfl)) hA6 (fun q hq => by cases hq; show gv ≠ gq; omega)), hB6.setCell _ _ hgq0, by
            show _ = _
            have := hul.out
            simp only [List.length_append] at this ⊢
            rw [hu6l']; rw [HPL.out] at this; exact this, by (show _ = _; rw [List.length_set]; exact hql.out), (hAw.app hu6w).app hRw, hqw.out.set _ HQB.out, t1, t2, t3⟩
        case measure => (first | (simp [intOf]; done) | (simp [intOf]; omega))
    · have : k = 0 := by omega
      subst this
      have e0 : (((0 : Nat) : Int) - 1) = -1 := by omega
      rw [e0]
      have hfin : W.val qs * (W.val m * 2 ^ s) + W.val us = W.val l * 2 ^ s := by
        have := hqd.out
        rw [List.drop_zero, List.drop_zero, List.drop_zero, VVV.out, HUV.out] at this
        exact this
      have hfin2 : W.val us < W.val m * 2 ^ s := by
        have := hud.out
        rw [List.drop_zero, VVV.out] at this
        exact this
      have hlow : W.val (us.take m.length) = W.val us := W.val_take_of_lt (Nat.lt_trans hfin2 HN3.out)
      obtain ⟨r1, r2⟩ := W.div_end hfin hfin2
      clear h0 e0
      have vvl := VVL.out
      obtain ⟨t, ht⟩ := W.toW_pre huw.out
      obtain ⟨p, hp⟩ : ∃ p, p = W.toW (W.val us) := ⟨_, rfl⟩
      rw [← hp] at ht
      have hpw : W.WF p := by rw [hp]; exact W.wf_toW _
      have hpv : W.val p = W.val us := by rw [hp, W.val_toW]
      have hpl : p.length ≤ m.length := by rw [hp]; exact W.len_toW_le.2 (Nat.lt_trans hfin2 HN3.out)
      have hBp : Bk wr w'.heap.size (([] : List Nat) ++ p ++ t) := by rw [List.nil_append, ht]; exact hgU
      have hWp : Wn wr w'.heap.size [] p (u32s t) := hBp.split
      have hcq : ∀ Z, Bk Z gq qs → Calls Try.prog 175 #[.slice (some ⟨gq, 0, none⟩) nq nq] Z fun e w2 => e = .returned (.slice (some ⟨gq, 0, none⟩) (W.toW (W.val l / W.val m)).length nq) ∧ w2 = Z := by
        intro Z hW
        have := natCut_any (some ⟨gq, 0, none⟩) qs nq Z hW.arr (by rw [hql.out]; omega) (by omega) hqw.out
        rw [hql.out, r1] at this; exact this
      have hcu : ∀ Z, Bk Z w'.heap.size us → Calls Try.prog 175 #[.slice (some ⟨w'.heap.size, 0, none⟩) m.length (l.length + 1)] Z fun e w2 => e = .returned (.slice (some ⟨w'.heap.size, 0, none⟩) p.length (l.length + 1)) ∧ w2 = Z := by
        intro Z hW
        have hpre : us.take m.length <+: us := List.take_prefix _ _
        have := natCut_any (some ⟨w'.heap.size, 0, none⟩) (us.take m.length) (l.length + 1) Z (arr_pre hW.arr hpre) (by simp; omega) (by omega) (huw.out.take _)
        rw [hlow, ← hp, List.length_take, hul.out, Nat.min_eq_left (by omega)] at this; exact this
      have hdn : ∀ Z, Wn Z w'.heap.size [] p (u32s t) → Calls Try.prog 190 #[.slice (some ⟨w'.heap.size, 0, none⟩) p.length (l.length + 1), .int .u64 s] Z fun e w2 => ∃ q : List Nat, e = .returned (.slice (some ⟨w'.heap.size, 0, none⟩) (W.toW (W.val l % W.val m)).length (l.length + 1)) ∧
          Wn w2 w'.heap.size [] q (u32s t) ∧ W.WF q ∧ q.length = p.length ∧ W.val q = W.val l % W.val m ∧ KeptO (· = w'.heap.size) Z w2 := by
        intro Z hW
        have := natDown_any w'.heap.size 0 [] (u32s t) p (l.length + 1) s Z rfl hW (by omega) (by omega) (by omega) hpw hs32
        rw [hpv, r2] at this; exact this
      have hwd : Wn wr.drew w'.heap.size [] p (u32s t) := hWp
      have hqd0 : Bk wr.drew gq qs := hgQ
      have hud0 : Bk wr.drew w'.heap.size us := hgU
      have hml2 : m.length ≤ l.length + 1 := by omega
      have HQL := Lib.hid r1
      have hpt : Hid (p.length + t.length = l.length + 1) := by show _ = _; rw [← hul.out, ← ht, List.length_append]
      have HCQ := Lib.hid hcq
      have HCU := Lib.hid hcu
      have HDN := Lib.hid hdn
      clear hfin hfin2 hlow r1 r2 hcq hcu hdn hp ht hpv hBp
      go_wp2_with fail
      go_region_with (first
        | (go_at_call 175; (first | (with_reducible refine Calls.mono (HCU.out _ hud0) ?_) | (with_reducible refine Calls.mono (HCQ.out _ hqd0) ?_) | (with_reducible refine Calls.mono (HCQ.out _ hqd1) ?_)); rintro e w2 ⟨rfl, rfl⟩)
        | (go_at_call 190; (with_reducible refine Calls.mono (HDN.out _ hwd) ?_); rintro e w5 ⟨q5, rfl, hW5, hw5, hl5, hv5, hK5⟩; have hqd1 := hqd0.keptO hK5 (Nat.ne_of_gt hguq)))
      all_goals
        have hBf : Blw w w5 := KeptO.blw hB.drew hK5 (fun i hi => by rw [hi]; exact hgu0)
        have o1 := own_cut (hqd1.own (B := w.heap.size) (by omega) (by rw [hql.out]; unfold maxLen; omega)) hqw.out
        rw [hql.out, HQL.out] at o1
        have o2 := own_cut (hW5.own (B := w.heap.size) hgu0 (by rw [u32s_len, hl5, hpt.out]; unfold maxLen; omega)) hw5
        rw [u32s_len, hl5, hpt.out, hv5] at o2
        clear HCQ HCU HDN hqd1 hW5 hK5
        go_wp2
        go_ret2
        exact ⟨_, _, _, _, rfl, hBf, o1, o2⟩
end Go.Proofs.Ytigkfdoeneemeaa
