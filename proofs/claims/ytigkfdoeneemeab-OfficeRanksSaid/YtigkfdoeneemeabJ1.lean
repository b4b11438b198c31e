/- Several texts, joined. -/
import Derived.Test.YtigkfdoeneemeabJ0
import Derived.Deep.RegionHeld3
import Derived.WalkMore
import Derived.Deep.LoopGhost
import Derived.WalkKit
import Derived.BigQuiet
import Derived.WalkLawsBesides
import Derived.Deep.Draws
import Derived.Deep.OwnRows
import Derived.Test.YtigkfdoeneemeabProg
import Derived.Laws.Externs
set_option linter.unusedVariables false
set_option linter.unusedSimpArgs false
/- The walk of slackwaterref01.Over: the long way. -/
namespace Go.Proofs.Ytigkfdoeneemeab
open Go.RowKit

section
variable {w : World} {g : Nat} {pre post : List Value} {l : List Nat}
theorem Wn.split {a b : List Nat} (h : Wn w g [] (a ++ l ++ b) post) : Wn w g (u32s a) l (u32s b ++ post) := by
  unfold Wn at *; rw [h]; simp
theorem Wn.join {a b : List Nat} (h : Wn w g (u32s a) l (u32s b ++ post)) : Wn w g [] (a ++ l ++ b) post := by
  unfold Wn at *; rw [h]; simp
end
theorem W.over_start {A V M nq : Nat} {us0 : List Nat} (hu : W.val us0 = A) (hl : us0.length = (W.toW A).length + 1) (hn : nq + M = (W.toW A).length + 1) (hM : 0 < M) (hV : W.pw (M - 1) ≤ V) : W.val (us0.drop nq) < V := by
  have e := W.val_split us0 nq (by omega)
  have h1 : A < W.pw (W.toW A).length := W.len_toW_le.1 (Nat.le_refl _)
  rw [show (W.toW A).length = nq + (M - 1) by omega, W.pw_add] at h1
  rw [hu] at e
  have h2 : W.pw nq * W.val (us0.drop nq) < W.pw nq * W.pw (M - 1) := by omega
  exact Nat.lt_of_lt_of_le (Nat.lt_of_mul_lt_mul_left h2) hV

set_option maxRecDepth 100000 in
set_option maxHeartbeats 8000000 in
theorem refOver_long (a b : Option Addr) (l m : List Nat) (n : Nat) (c d : Nat) (w : World) (h : Arr w a (u32s l)) (k : Arr w b (u32s m)) (hc : l.length ≤ c) (hd : m.length ≤ d) (hcm : c ≤ 9223372036854775807) (hdm : d ≤ 9223372036854775807)
    (wl : W.WF l) (wm : W.WF m) (nm : W.Nrm m) (hl : l.length ≤ 8192) (hm : m.length = n + 2) (hm8 : m.length ≤ 8190) (hge : W.val m ≤ W.val l) :
    Calls Try.prog 71 #[.slice a l.length c, .slice b m.length d] w (RetTwo w (W.val l / W.val m) (W.val l % W.val m)) := by
  have c1 : decide (W.cmpN (W.val l) (W.val m) < 0) = false := by rw [cmp_lt]; simpa using hge
  have c2 : ((m.length : Int) == 1) = false := beq_false_of_ne (by omega)
  obtain ⟨x, b1, o1, -, -, hx, rfl, hb, hbc⟩ := k.elem (k := m.length - 1) (by omega)
  have hlast : m.getLast? = some x := by rw [List.getLast?_eq_getElem?]; exact hx.out
  obtain ⟨N1, N2, N3⟩ := W.norm_len wm nm hlast
  have hxl := wm.at hx.out
  obtain ⟨s, hs⟩ : ∃ s, s = 32 - W.bl x := ⟨_, rfl⟩
  have hx0 : x ≠ 0 := fun e => nm (by rw [hlast, e])
  have hblw := W.bl_words wm hlast hx0
  have hbl32 := W.bl_le32 hxl
  have hbl1 : W.bl x ≠ 0 := by intro e; rw [W.bl_pos hx0] at e; omega
  have hs32 : s < 32 := by omega
  have hbits : (32 : Int) * (m.length : Int) - ((W.bl (W.val m) : Nat) : Int) = (s : Int) := by omega
  rw [← hs] at N1 N2 N3
  have hvm : 0 < W.val m := W.val_pos nm (by intro e; rw [e] at hm; simp at hm)
  have hcp := Lib.hid (refCompare_any a _ l m c d w h k wl wm (by omega) (by omega))
  have hbt := Lib.hid (refBits_any _ m d w k hd hdm (fun h => by cases h) wm (by omega))
  have hA : W.val m * 2 ^ s ≤ W.val l * 2 ^ s := Nat.mul_le_mul_right _ hge
  have hN0 : m.length ≤ (W.toW (W.val l * 2 ^ s)).length := by
    rw [← N1]
    exact W.len_toW_le.2 (Nat.lt_of_le_of_lt hA (W.len_toW_le.1 (Nat.le_refl _)))
  have hN1 : (W.toW (W.val l * 2 ^ s)).length ≤ 8193 := by
    refine Nat.le_trans (m := l.length + 1) (W.len_toW_le.2 ?_) (by omega)
    rw [W.pw_add]
    exact Nat.mul_lt_mul'' (W.val_lt wl) (Nat.lt_of_lt_of_le (Nat.pow_lt_pow_right (by decide) hs32) (by decide))
  have hbw : wrap64 ((32 : Int) * (m.length : Int) - ((W.bl (W.val m) : Nat) : Int)) = (s : Int) := by rw [hbits]; unfold wrap64; omega
  have HN1 := Lib.hid N1
  have HN2 := Lib.hid N2
  have HN3 := Lib.hid N3
  have HM := Lib.hid hm
  have HS : Hid (s ≤ 31) := by show s ≤ 31; omega
  have hm2 : 2 ≤ m.length := by omega
  have hp2 : Hid (W.pw (m.length - 1) ≤ W.val m * 2 ^ s) := by
    show _ ≤ _
    refine Nat.le_trans ?_ N2
    generalize W.pw (m.length - 1) = p
    omega
  have HVM : Hid (0 < W.val m * 2 ^ s) := by show 0 < _; exact Nat.mul_pos hvm (Nat.two_pow_pos s)
  clear hm hlast hs hx N1 N2 N3 hge hblw hbl32 hbl1 hbits hvm hA hxl hx0 hb hbc
  obtain ⟨A, hA⟩ : ∃ A, A = W.val l * 2 ^ s := ⟨_, rfl⟩
  obtain ⟨V, hV⟩ : ∃ V, V = W.val m * 2 ^ s := ⟨_, rfl⟩
  rw [← hA] at hN0 hN1
  rw [← hV] at HN1 HN2 HN3 hp2 HVM
  have HA := Lib.hid hA
  have HV := Lib.hid hV
  clear hA hV
  go_enter Try.func71, Try.ntmps71
  go_wp2_with fail
  refine Calls.mono hcp.out ?_
  rintro e w' ⟨rfl, rfl⟩
  go_wp2_with fail
  refine Calls.mono hbt.out ?_
  rintro e w1 ⟨rfl, x1, rfl⟩
  clear hcp hbt
  have hup1 := Lib.hid (refUp_any (some ⟨b1, o1, none⟩) m d s (w'.ext x1) (k.ext x1) wm (by omega) (by omega))
  rw [← HV.out] at hup1
  go_wp2_with fail
  rw [hbw]
  refine Calls.mono hup1.out ?_
  rintro e w2 ⟨a2, c2, x2, rfl, rfl, r1, r2, r3⟩
  have HRV := Lib.hid r2
  have hup2 := Lib.hid (refUp_any a l c s ((w'.ext x1).ext x2) ((h.ext x1).ext x2) wl (by omega) (by omega))
  rw [← HA.out] at hup2
  have hVd := W.wf_toW V
  have hVn := W.nrm_toW V
  have hVv := W.val_toW V
  have hAd := W.wf_toW A
  have hAv := W.val_toW A
  obtain ⟨dd, hdd⟩ : ∃ dd, dd = W.toW V := ⟨_, rfl⟩
  rw [← hdd] at hVd hVn hVv r1 r2 HN1 ⊢
  have HDV := Lib.hid hVv
  have HDL := Lib.hid HN1.out
  clear hup1 hbw r3 HRV hVv hdd
  have ddl : dd.length = m.length := HDL.out
  rw [ddl] at r1 ⊢
  go_wp2_with fail
  refine Calls.mono hup2.out ?_
  rintro e w2 ⟨a3, c3, x3, rfl, rfl, s1, s2, s3⟩
  clear hup2 s3
  obtain ⟨w2, hw2⟩ : ∃ w2, w2 = (w'.ext x1).ext x2 := ⟨_, rfl⟩
  have hB2 : Blw w' w2 := by rw [hw2]; exact ((Blw.refl w').ext x1).ext x2
  rw [← hw2] at s1 s2 r1 r2 ⊢
  have hB23 : Blw w2 (w2.ext x3) := World.blw_ext _ _
  have ha2 : ∀ q, a2 = some q → q.block < w2.heap.size := by
    rintro q rfl
    exact (World.ownsRow.lt r1 _ rfl).2
  obtain ⟨w3, hw3⟩ : ∃ w3, w3 = w2.ext x3 := ⟨_, rfl⟩
  rw [← hw3] at hB23 s1 ⊢
  clear r1 s2 hw3 hw2 h k
  obtain ⟨N, hN⟩ : ∃ N, N = (W.toW A).length := ⟨_, rfl⟩
  obtain ⟨us0, hus⟩ : ∃ us0, us0 = W.toW A ++ [0] := ⟨_, rfl⟩
  have hul : us0.length = N + 1 := by rw [hus, hN]; simp
  have huv : W.val us0 = A := by rw [hus, W.val_snoc, hAv, Nat.mul_zero, Nat.add_zero]
  have huw : W.WF us0 := by rw [hus]; exact hAd.app (W.WF.cons (by decide) W.WF.nil)
  have hstart : ∀ nq, nq + m.length = N + 1 → W.val (us0.drop nq) < V := fun nq hnq => W.over_start huv (by rw [hul, hN]) (by rw [hnq, hN]) (by omega) hp2.out
  rw [← hN] at hN0 hN1 s1 ⊢
  obtain ⟨nq, hnq⟩ : ∃ nq, nq + m.length = N + 1 := ⟨N + 1 - m.length, by omega⟩
  have hnq2 : (N : Int) + 1 - (m.length : Int) = (nq : Int) := by omega
  have HNQ := Lib.hid hnq
  have hnq1 : nq ≤ 8194 := by omega
  have hst := hstart nq hnq
  have HST2 := Lib.hid hst
  have hsu : u32s (W.toW A) ++ u32s [0] = u32s us0 := by rw [hus]; simp
  have HUL := Lib.hid hul
  have HUV := Lib.hid huv
  clear hnq hst hul huv hstart hAv hAd hus hN
  generalize W.toW A = ta at *
  go_wp2_with (first
    | (at_builtin; refine wpList_app w2 _ rfl _ _ 26 rfl sl_words (hB23.alloc _) _ N (u32s ta) rfl (ownsRow_blw s1 ((Blw.refl _).alloc _)) _ 1 1 (u32s [0]) rfl (by simp) (Arr.lit _ _ _ _) (by simp) (u32s_one _) (by unfold maxLen; omega) (by omega) ?_; intro v4 w4 hown4 hb4 _ _; rw [hsu] at hown4; obtain ⟨a4, c4, rfl, -, -, hc4, hc4m, -⟩ := own_arr hown4; obtain ⟨gu, post, rfl, hgu, hW4, -, hc4', -⟩ := Wn.of_own hown4 (Nat.succ_pos N); have HC4 := Lib.hid hc4'; clear hc4')
    | (refine wpList_words _ rfl _ _ rfl .i64 .i64 _ _ nq rfl rfl (by omega) (by omega) (by omega) ?_; intro w5 hqB hq1))
  have hc4x : c4 ≤ 9223372036854775807 := by unfold maxLen at hc4m; omega
  have HNQ2 := Lib.hid hnq2
  clear hown4 hnq2 s1 hsu hc4m
  have hA4 := Lib.hid (r2.blw hb4)
  have hB4 : Blw w' w4 := hB2.trans hb4
  obtain ⟨gq, hgq⟩ : ∃ gq, gq = w4.heap.size := ⟨_, rfl⟩
  rw [← hgq] at hqB ⊢
  have hguq : gu < gq := by rw [hgq]; exact hW4.lt
  have hW5 := hW4.blw hq1
  have hA5 := hA4.out.blw hq1
  have hB5 : Blw w' w5 := hB4.trans hq1
  have hgu0 : w'.heap.size ≤ gu := Nat.le_trans hB2.size hgu
  have ha2g : ∀ q, a2 = some q → q.block ≠ gu := fun q hq e => by have := ha2 q hq; omega
  have ha2q : ∀ q, a2 = some q → q.block ≠ gq := fun q hq e => by have := ha2 q hq; omega
  clear hA4 hW4 hb4 hq1 hB4 hB23 hgu hB2 r2 ha2 hgq
  clear HNQ2 ddl
  go_loopw [12] (fun i wr => ∃ (k : Nat) (us qs : List Nat), k ≤ nq ∧ i = .int .i64 ((k : Int) - 1) ∧ Wn wr gu [] us post ∧ Bk wr gq qs ∧ Arr wr a2 (u32s dd) ∧ Blw w' wr ∧ Hid (us.length = N + 1) ∧ Hid (qs.length = nq) ∧ Hid (W.WF us) ∧ Hid (W.WF qs) ∧
    Hid (us.take k = us0.take k) ∧ Hid (W.val (us.drop k) < V) ∧ Hid (W.val (qs.drop k) * V + W.val (us.drop k) = W.val (us0.drop k))) (fun i _ => (intOf i + 1).toNat)
  case atStart => exact ⟨nq, us0, _, Nat.le_refl _, rfl, hW5, hqB, hA5, hB5, HUL, List.length_replicate, huw, W.WF.rep _, rfl, HST2, by
    show _ = _
    rw [List.drop_of_length_le (by simp), W.val, Nat.zero_mul, Nat.zero_add]⟩
  case round =>
    obtain ⟨k, us, qs, hk, rfl, hgU, hgQ, hvA, hB, hul, hql, husw, hqw, hut, hud, hqd⟩ := hrel
    by_cases h0 : 0 < k
    · obtain ⟨j, rfl⟩ : ∃ j, k = j + 1 := ⟨k - 1, by omega⟩
      have ej : (((j + 1 : Nat) : Int) - 1) = (j : Int) := by omega
      rw [ej]
      clear ej
      have hjl : j + m.length + 1 ≤ N + 1 := by have := HNQ.out; omega
      have i0 : (0 : Int) ≤ (j : Int) := by omega
      clear h0
      obtain ⟨PA, part, PR, rfl, hA, hpl, hpw, hAw, hRw, hlt, hnew⟩ := W.div_round (N := m.length) (by rw [hul.out]; exact hjl) husw.out HN3.out hut.out (by rw [hul.out]; exact HUL.out) hud.out hqd.out (by rw [hql.out]; omega)
      have hW := hgU.split
      have hAL : (u32s PA).length = j := by rw [u32s_len]; exact hA
      have hdig := refDigit_any gu j (u32s PA) (u32s PR ++ post) part dd a2 (c4 - j) c2 (n + 1) wr hAL hW hvA hpw hVd hVn (by rw [hpl, HM.out]) (by rw [HDL.out, HM.out]) (by have := HM.out; omega) (by rw [HDV.out]; exact hlt)
      rw [hpl, HDL.out, HDV.out] at hdig
      have hcapj : j + m.length + 1 - j = m.length + 1 := by omega
      have hQB : W.val part / V < 4294967296 := Nat.div_lt_of_lt_mul hlt
      have HPL := Lib.hid hpl
      have HNEW := Lib.hid hnew
      have HQB := Lib.hid hQB
      have HDIG := Lib.hid hdig
      have hVp : Hid (0 < V) := HVM
      have c2' : (j : Int) + (m.length : Int) + 1 ≤ (N : Int) + 1 := by omega
      have c3' : (j : Int) + (m.length : Int) + 1 ≤ (c4 : Int) := by omega
      have c5' : (N : Int) + 1 ≤ (c4 : Int) := by omega
      clear hnew hlt hQB hpl hdig
      obtain ⟨Q, hQ⟩ : ∃ Q, Q = W.val part / V := ⟨_, rfl⟩
      rw [← hQ] at HDIG HQB HNEW
      clear hQ
      have hQl : Q < 4294967296 := HQB.out
      go_wp2_with fail
      refine Calls.mono HDIG.out ?_
      rintro e w6 ⟨rfl, u, hW6, hu6w, hu6l, hu6v, hK6⟩
      have hQ6 := hgQ.keptO hK6 (Nat.ne_of_gt hguq)
      have hA6 := hK6.arr hvA (fun q hq => ha2g q hq)
      have hB6 : Blw w' w6 := KeptO.blw hB hK6 (fun i hi => by rw [hi]; exact hgu0)
      have hgq0 : w'.heap.size ≤ gq := by omega
      have hjn : j < nq := by omega
      obtain ⟨z, hz, hz1, hz2⟩ := hQ6.elem (k := j) (by rw [hql.out]; exact hjn)
      have HV6 := Lib.hid hu6v
      have HN6 := Lib.hid HNEW
      clear hgQ hvA hB hK6 hgU hW HDIG hu6v
      go_wp2_with fail
      go_roundw
      case rel =>
        obtain ⟨t1, t2, t3⟩ := HNEW.out u hu6l HV6.out
        have hne : gu ≠ gq := Nat.ne_of_lt hguq
        exact ⟨j, PA ++ u ++ PR, qs.set j Q, by omega, rfl, (KeptO.refl w6 |>.setCell (O := (· = gq)) _ _ (.inl rfl)) |> (fun kk => hW6.join.keptO kk hne), hQ6.set j rfl, (KeptO.arr (O := (· = gq)) ((KeptO.refl w6).setCell _ _ (.inl rfl)) hA6 (fun q hq => ha2q q hq)), hB6.setCell _ _ hgq0, by
          show _ = _
          have := hul.out
          simp only [List.length_append] at this ⊢
          rw [hu6l]; rw [HPL.out] at this; exact this, by (show _ = _; rw [List.length_set]; exact hql.out), (hAw.app hu6w).app hRw, hqw.out.set _ HQB.out, t1, t2, t3⟩
      case measure => (first | (simp [intOf]; done) | (simp [intOf]; omega))
    · have : k = 0 := by omega
      subst this
      have e0 : (((0 : Nat) : Int) - 1) = -1 := by omega
      rw [e0]
      have hfin : W.val qs * (W.val m * 2 ^ s) + W.val us = W.val l * 2 ^ s := by
        have := hqd.out
        rw [List.drop_zero, List.drop_zero, List.drop_zero, HUV.out, HA.out, HV.out] at this
        exact this
      have hfin2 : W.val us < W.val m * 2 ^ s := by
        have := hud.out
        rw [List.drop_zero, HV.out] at this
        exact this
      obtain ⟨r1, r2⟩ := W.div_end hfin hfin2
      have hcq := refTrim_any (some ⟨gq, 0, none⟩) qs nq wr hgQ.arr (by rw [hql.out]; exact Nat.le_refl _) (by omega) (fun h => by cases h) hqw.out (by rw [hql.out]; omega)
      rw [hql.out, r1] at hcq
      have hcu := fun x => refTrim_any (some ⟨gu, 0, none⟩) us c4 (wr.ext x) (hgU.blw (World.blw_ext _ x)).arr (by rw [hul.out]; exact hc4) hc4x (fun h => by cases h) husw.out (by rw [hul.out]; omega)
      rw [hul.out] at hcu
      have hul1 : (W.toW (W.val us)).length ≤ N + 1 := by have := W.toW_len_le husw.out; rwa [hul.out] at this
      obtain ⟨U, hU⟩ : ∃ U, U = W.val us := ⟨_, rfl⟩
      rw [← hU] at hcu r2 hul1
      have HCQ := Lib.hid hcq
      have HCU := Lib.hid hcu
      have HR2 := Lib.hid r2
      clear h0 e0 hfin hfin2 r1 r2 hcq hcu hU
      go_wp2_with fail
      refine Calls.mono HCQ.out ?_
      rintro e w6 ⟨a6, c6, x6, rfl, rfl, s1, s2, s3⟩
      go_wp2_with fail
      refine Calls.mono (HCU.out x6) ?_
      intro e w7 h7
      obtain ⟨a7, c7, x7, rfl, rfl, t1, t2, t3, t4, t5⟩ := h7.parts
      have hdn := refDown_any a7 (W.toW U) c7 s ((wr.ext x6).ext x7) t2 t3 t4 (W.wf_toW _) (by omega) (by omega)
      rw [W.val_toW, HR2.out] at hdn
      have HDN := Lib.hid hdn
      clear HCQ HCU hdn s2 s3 t2 t5 hgU hgQ hvA
      go_wp2_with fail
      refine Calls.mono HDN.out ?_
      rintro e w8 ⟨a8, c8, x8, rfl, rfl, v1, v2, v3⟩
      clear HDN
      go_wp2
      go_ret2
      exact ⟨a6, c6, a8, c8, rfl, ((hB.ext x6).ext x7).ext x8, ownsRow_mono (ownsRow_blw (ownsRow_blw s1 (World.blw_ext _ x7)) (World.blw_ext _ x8)) hB.size, ownsRow_mono v1 (Nat.le_trans hB.size (Nat.le_trans (World.le_ext _ x6) (World.le_ext _ x7)))⟩
end Go.Proofs.Ytigkfdoeneemeab
/- Walks of slackwaterref01: Over in one law, Common. -/
namespace Go.Proofs.Ytigkfdoeneemeab
open Go.RowKit

theorem refOver_any (a b : Option Addr) (l m : List Nat) (c d : Nat) (w : World) (h : Arr w a (u32s l)) (k : Arr w b (u32s m)) (hc : l.length ≤ c) (hd : m.length ≤ d) (hcm : c ≤ 9223372036854775807) (hdm : d ≤ 9223372036854775807) (ha : a = none → c = 0)
    (wl : W.WF l) (wm : W.WF m) (nm : W.Nrm m) (hl : l.length ≤ 8192) (hm : 0 < m.length) (hm8 : m.length ≤ 8190) :
    Calls Try.prog 71 #[.slice a l.length c, .slice b m.length d] w (RetTwo w (W.val l / W.val m) (W.val l % W.val m)) := by
  by_cases h1 : W.val l < W.val m
  · exact refOver_less a b l m c d w h k hc hcm ha wl wm (by omega) (by omega) h1
  · by_cases h2 : m.length = 1
    · obtain ⟨y, rfl⟩ := List.length_eq_one_iff.1 h2
      have vy : W.val [y] = y := by simp [W.val]
      have hy0 : 0 < y := by
        have := W.val_pos nm (by simp)
        rwa [vy] at this
      have := refOver_one a b l y c d w h k wl wm.head hy0 (by omega) (by rw [vy] at h1; omega)
      rw [vy]; exact this
    · obtain ⟨n, hn⟩ : ∃ n, m.length = n + 2 := ⟨m.length - 2, by omega⟩
      exact refOver_long a b l m n c d w h k hc hd hcm hdm wl wm nm hl hn hm8 (by omega)

/-- A slice that holds the words of a number, which may be handed in. -/
def HasN (w : World) (v : Value) (n : Nat) : Prop := ∃ (a : Option Addr) (c : Nat), v = .slice a (W.toW n).length c ∧ Arr w a (u32s (W.toW n)) ∧ (W.toW n).length ≤ c ∧ c ≤ 9223372036854775807 ∧ (a = none → c = 0)
theorem HasN.num {w : World} {v : Value} {n : Nat} (h : HasN w v n) : NumV w v n := by
  obtain ⟨a, c, e, k, _⟩ := h; exact ⟨a, c, e, k⟩
theorem HasN.blw {w w' : World} {v : Value} {n : Nat} (h : HasN w v n) (k : Blw w w') : HasN w' v n := by
  obtain ⟨a, c, e, h, r⟩ := h; exact ⟨a, c, e, h.blw k, r⟩
theorem HasN.own {w : World} {B n c : Nat} {a : Option Addr} (h : w.ownsRow B 54 1 (.slice a (W.toW n).length c) (W.toW n).length (u32s (W.toW n))) : HasN w (.slice a (W.toW n).length c) n := by
  obtain ⟨a', c', e, k1, _, k3, k4, k5⟩ := own_arr h
  cases e
  exact ⟨a, c, rfl, k1, k3, k4, fun e => (k5 e).2⟩

set_option maxRecDepth 100000 in
set_option maxHeartbeats 4000000 in
theorem refCommon_any (a b : Option Addr) (l m : List Nat) (c d : Nat) (w : World) (h : Arr w a (u32s l)) (k : Arr w b (u32s m)) (hc : l.length ≤ c) (hd : m.length ≤ d) (hcm : c ≤ 9223372036854775807) (hdm : d ≤ 9223372036854775807) (ha : a = none → c = 0) (hb : b = none → d = 0)
    (wl : W.WF l) (wm : W.WF m) (nl : W.Nrm l) (nm : W.Nrm m) (hl : l.length ≤ 8190) (hm : m.length ≤ 8190) :
    Calls Try.prog 58 #[.slice a l.length c, .slice b m.length d] w (RetW w (Nat.gcd (W.val l) (W.val m))) := by
  have L1 := W.toW_val wl nl
  have L2 := W.toW_val wm nm
  have B1 := Lib.hid (W.len_toW_le.1 (by rw [L1]; exact hl))
  have B2 := Lib.hid (W.len_toW_le.1 (by rw [L2]; exact hm))
  have H1 : HasN w (.slice a l.length c) (W.val l) := by rw [← congrArg List.length L1]; exact ⟨a, c, rfl, by rw [L1]; exact h, by rw [L1]; exact hc, hcm, ha⟩
  have H2 : HasN w (.slice b m.length d) (W.val m) := by rw [← congrArg List.length L2]; exact ⟨b, d, rfl, by rw [L2]; exact k, by rw [L2]; exact hd, hdm, hb⟩
  clear L1 L2
  go_enter Try.func58, Try.ntmps58
  go_wp2_with fail
  go_loopw [0, 1] (fun x y wr => ∃ (X Y : Nat), HasN wr x X ∧ HasN wr y Y ∧ Blw w wr ∧ Hid (Nat.gcd X Y = Nat.gcd (W.val l) (W.val m)) ∧ Hid (X < W.pw 8190) ∧ Hid (Y < W.pw 8190)) (fun _ y wr => readN wr y)
  case atStart => exact ⟨W.val l, W.val m, H1, H2, Blw.refl w, rfl, B1.out, B2.out⟩
  case round =>
    obtain ⟨X, Y, hX, hY, hB, hG, hX8, hY8⟩ := hrel
    have nX := readN_is hX.num
    have nY := readN_is hY.num
    have HX := Lib.hid hX
    have HY := Lib.hid hY
    obtain ⟨p1, q1, rfl, A1, A2, A3, A4⟩ := hX
    obtain ⟨p2, q2, rfl, D1, D2, D3, D4⟩ := hY
    have lX : (W.toW X).length ≤ 8190 := W.len_toW_le.2 hX8.out
    have lY : (W.toW Y).length ≤ 8190 := W.len_toW_le.2 hY8.out
    by_cases h0 : (W.toW Y).length = 0
    · have hY0 : Y = 0 := W.toW_nil.1 (List.eq_nil_of_length_eq_zero h0)
      have hg : X = Nat.gcd (W.val l) (W.val m) := by rw [← hG.out, hY0, Nat.gcd_zero_right]
      have htr := refTrim_any p1 (W.toW X) q1 wr A1 A2 A3 A4 (W.wf_toW X) (by omega)
      rw [W.val_toW] at htr
      have HTR := Lib.hid htr
      have HG := Lib.hid hg
      clear htr hg hY0 nX nY A1 A4 D1 D4
      go_wp2_with fail
      refine Calls.mono HTR.out ?_
      rintro e w6 ⟨a6, c6, x6, rfl, rfl, s1, s2, s3⟩
      clear HTR
      go_wp2
      go_ret
      rw [← HG.out]
      exact RetOwn.of (ownsRow_mono s1 hB.size) (hB.ext x6)
    · have hY0 : 0 < Y := Nat.pos_of_ne_zero (fun e => h0 (by rw [e, W.toW_zero]; rfl))
      have hov := refOver_any p1 p2 (W.toW X) (W.toW Y) q1 q2 wr A1 D1 A2 D2 A3 D3 A4 (W.wf_toW X) (W.wf_toW Y) (W.nrm_toW Y) (by omega) (by omega) lY
      rw [W.val_toW, W.val_toW] at hov
      have HOV := Lib.hid hov
      have hlt : X % Y < Y := Nat.mod_lt _ hY0
      have HLT := Lib.hid hlt
      have HNY := Lib.hid nY
      clear hov nX nY A1 A4 D1 D4 hlt hY0
      go_wp2_with fail
      refine Calls.mono HOV.out ?_
      rintro e w3 ⟨u1, v1, u2, v2, rfl, t1, t2, t3⟩
      have hz := HasN.own t3
      have nZ := Lib.hid (readN_is hz.num)
      have HZ := Lib.hid hz
      clear HOV t2 t3 hz
      go_wp2_with fail
      go_roundw
      case rel => exact ⟨Y, X % Y, HY.out.blw t1, HZ.out, hB.trans t1, by (show _ = _; rw [gcd_step]; exact hG.out), hY8, Nat.lt_trans HLT.out hY8.out⟩
      case measure => (rw [nZ.out, HNY.out]; exact HLT.out)
end Go.Proofs.Ytigkfdoeneemeab
/- Walks of slackwaterref01: Add, Sub, Mul, Gcd (of numbers in their one form). -/
namespace Go.Proofs.Ytigkfdoeneemeab
open Go.RowKit

theorem add_len' {l m : List Nat} {N : Nat} (wl : W.WF l) (wm : W.WF m) (hl : l.length ≤ N) (hm : m.length ≤ N) : (W.toW (W.val l + W.val m)).length ≤ N + 1 := by
  refine W.len_toW_le.2 ?_
  have h1 := W.val_lt wl
  have h2 := W.val_lt wm
  have h3 : W.pw l.length ≤ W.pw N := Nat.pow_le_pow_right (by decide) hl
  have h4 : W.pw m.length ≤ W.pw N := Nat.pow_le_pow_right (by decide) hm
  rw [W.pw_succ]
  generalize W.pw N = p at *
  generalize W.pw l.length = p3 at *
  generalize W.pw m.length = p4 at *
  omega
theorem add_len {l m : List Nat} (wl : W.WF l) (wm : W.WF m) (hl : l.length ≤ 8191) (hm : m.length ≤ 8191) : (W.toW (W.val l + W.val m)).length ≤ 8192 := add_len' wl wm hl hm
theorem times_len_le {l m : List Nat} (wl : W.WF l) (wm : W.WF m) : (W.toW (W.val l * W.val m)).length ≤ l.length + m.length := by
  refine W.len_toW_le.2 ?_
  rw [W.pw_add]
  exact Nat.mul_lt_mul'' (W.val_lt wl) (W.val_lt wm)
theorem sub_len {l m : List Nat} (wl : W.WF l) (hl : l.length ≤ 8192) : (W.toW (W.val l - W.val m)).length ≤ 8192 :=
  Nat.le_trans (W.len_toW_le.2 (Nat.lt_of_le_of_lt (Nat.sub_le _ _) (W.val_lt wl))) hl
theorem mul_len {l m : List Nat} (wl : W.WF l) (wm : W.WF m) (hs : l.length + m.length ≤ 8192) : (W.toW (W.val l * W.val m)).length ≤ 8192 := by
  refine Nat.le_trans (W.len_toW_le.2 ?_) hs
  rw [W.pw_add]
  exact Nat.mul_lt_mul'' (W.val_lt wl) (W.val_lt wm)
theorem gcd_len {l m : List Nat} (wl : W.WF l) (wm : W.WF m) (hl : l.length ≤ 8192) (hm : m.length ≤ 8192) : (W.toW (Nat.gcd (W.val l) (W.val m))).length ≤ 8192 := by
  rcases Nat.eq_zero_or_pos (W.val l) with h | h
  · rw [h, Nat.gcd_zero_left]
    exact Nat.le_trans (W.toW_len_le wm) hm
  · exact Nat.le_trans (W.len_toW_le.2 (Nat.lt_of_le_of_lt (Nat.gcd_le_left _ h) (W.val_lt wl))) hl

set_option maxRecDepth 100000 in
set_option maxHeartbeats 2000000 in
theorem refAdd_ok (a b : Option Addr) (l m : List Nat) (c d : Nat) (w : World) (h : Arr w a (u32s l)) (k : Arr w b (u32s m)) (wl : W.WF l) (wm : W.WF m) (nl : W.Nrm l) (nm : W.Nrm m) (hl : l.length ≤ 8191) (hm : m.length ≤ 8191) :
    Calls Try.prog 73 #[.slice a l.length c, .slice b m.length d] w (RetOk w (W.val l + W.val m)) := by
  have H1 := Lib.hid (refBoth_any a b l m c d w h k (by omega) (by omega) nl nm)
  have H2 := Lib.hid (refPlus_any a b l m c d w h k wl wm (by omega) (by omega))
  have hL := add_len wl wm hl hm
  generalize W.val l + W.val m = n at *
  go_enter Try.func73, Try.ntmps73
  go_wp2_with fail
  refine Calls.mono H1.out ?_
  rintro e w' ⟨rfl, rfl⟩
  go_wp2_with fail
  refine Calls.mono H2.out ?_
  rintro e w2 ⟨a3, c3, x3, rfl, rfl, r1, r2, r3⟩
  go_wp2_with (go_at_call 57; refine Calls.mono (refTold_ok a3 _ c3 _ hL) ?_; rintro e w' ⟨rfl, rfl⟩)
  go_ret2
  exact ⟨a3, c3, rfl, World.blw_ext _ _, r1⟩

set_option maxRecDepth 100000 in
set_option maxHeartbeats 2000000 in
theorem refSub_ok (a b : Option Addr) (l m : List Nat) (c d : Nat) (w : World) (h : Arr w a (u32s l)) (k : Arr w b (u32s m)) (wl : W.WF l) (wm : W.WF m) (nl : W.Nrm l) (nm : W.Nrm m) (hl : l.length ≤ 8192) (hm : m.length ≤ 8192) (hle : W.val m ≤ W.val l) :
    Calls Try.prog 75 #[.slice a l.length c, .slice b m.length d] w (RetOk w (W.val l - W.val m)) := by
  have H1 := Lib.hid (refBoth_any a b l m c d w h k (by omega) (by omega) nl nm)
  have H2 := Lib.hid (refLess_any a b l m c d w h k wl wm (by omega) (by omega) hle)
  have H3 := Lib.hid (refCompare_any a b l m c d w h k wl wm (by omega) (by omega))
  have c1 : decide (W.cmpN (W.val l) (W.val m) < 0) = false := by rw [cmp_lt]; simpa using hle
  have hL := sub_len (m := m) wl hl
  clear hle
  generalize W.val l - W.val m = n at *
  go_enter Try.func75, Try.ntmps75
  go_wp2_with fail
  refine Calls.mono H1.out ?_
  rintro e w' ⟨rfl, rfl⟩
  go_wp2_with fail
  refine Calls.mono H3.out ?_
  rintro e w' ⟨rfl, rfl⟩
  go_wp2_with fail
  refine Calls.mono H2.out ?_
  rintro e w2 ⟨a3, c3, x3, rfl, rfl, r1, r2, r3⟩
  go_wp2_with (go_at_call 57; refine Calls.mono (refTold_ok a3 _ c3 _ hL) ?_; rintro e w' ⟨rfl, rfl⟩)
  go_ret2
  exact ⟨a3, c3, rfl, World.blw_ext _ _, r1⟩

set_option maxRecDepth 100000 in
set_option maxHeartbeats 2000000 in
theorem refMul_ok (a b : Option Addr) (l m : List Nat) (c d : Nat) (w : World) (h : Arr w a (u32s l)) (k : Arr w b (u32s m)) (wl : W.WF l) (wm : W.WF m) (nl : W.Nrm l) (nm : W.Nrm m) (hs : l.length + m.length ≤ 8192) :
    Calls Try.prog 76 #[.slice a l.length c, .slice b m.length d] w (RetOk w (W.val l * W.val m)) := by
  have H1 := Lib.hid (refBoth_any a b l m c d w h k (by omega) (by omega) nl nm)
  have H2 := Lib.hid (refTimes_any a b l m c d w h k wl wm (by omega))
  have hL := mul_len wl wm hs
  have i1 : decide ((8192 : Int) < (l.length : Int) + (m.length : Int) - 1) = false := by simp; omega
  have i2 : ((l.length : Int) + (m.length : Int) - 1 ≤ 8192) := by omega
  generalize W.val l * W.val m = n at *
  by_cases hl0 : 0 < l.length <;> by_cases hm0 : 0 < m.length
  all_goals
    go_enter Try.func76, Try.ntmps76
    go_wp2_with fail
    refine Calls.mono H1.out ?_
    rintro e w' ⟨rfl, rfl⟩
    go_wp2_with fail
    refine Calls.mono H2.out ?_
    rintro e w2 ⟨a3, c3, x3, rfl, rfl, r1, r2, r3⟩
    go_wp2_with (go_at_call 57; refine Calls.mono (refTold_ok a3 _ c3 _ hL) ?_; rintro e w' ⟨rfl, rfl⟩)
    go_ret2
    exact ⟨a3, c3, rfl, World.blw_ext _ _, r1⟩

set_option maxRecDepth 100000 in
set_option maxHeartbeats 2000000 in
theorem refGcd_ok (a b : Option Addr) (l m : List Nat) (c d : Nat) (w : World) (h : Arr w a (u32s l)) (k : Arr w b (u32s m)) (hc : l.length ≤ c) (hd : m.length ≤ d) (hcm : c ≤ 9223372036854775807) (hdm : d ≤ 9223372036854775807) (ha : a = none → c = 0) (hb : b = none → d = 0)
    (wl : W.WF l) (wm : W.WF m) (nl : W.Nrm l) (nm : W.Nrm m) (hl : l.length ≤ 8190) (hm : m.length ≤ 8190) :
    Calls Try.prog 42 #[.slice a l.length c, .slice b m.length d] w (RetOk w (Nat.gcd (W.val l) (W.val m))) := by
  have H1 := Lib.hid (refBoth_any a b l m c d w h k (by omega) (by omega) nl nm)
  have H2 := Lib.hid (refCommon_any a b l m c d w h k hc hd hcm hdm ha hb wl wm nl nm hl hm)
  have hL := gcd_len wl wm (show l.length ≤ 8192 by omega) (show m.length ≤ 8192 by omega)
  generalize Nat.gcd (W.val l) (W.val m) = n at *
  go_enter Try.func42, Try.ntmps42
  go_wp2_with fail
  refine Calls.mono H1.out ?_
  rintro e w' ⟨rfl, rfl⟩
  go_wp2_with fail
  refine Calls.mono H2.out ?_
  rintro e w2 ⟨a3, c3, x3, rfl, rfl, r1, r2, r3⟩
  go_wp2_with (go_at_call 57; refine Calls.mono (refTold_ok a3 _ c3 _ hL) ?_; rintro e w' ⟨rfl, rfl⟩)
  go_ret2
  exact ⟨a3, c3, rfl, World.blw_ext _ _, r1⟩
end Go.Proofs.Ytigkfdoeneemeab
/- Fractions: what ratio.Check says, walked. -/
namespace Go.Proofs.Ytigkfdoeneemeab
open Go.RowKit

/-- A fraction as it is handed about: its words, whatever they are. -/
structure Fr where
  neg : Bool
  num : List Nat
  den : List Nat
abbrev frV (r : Fr) (a : Option Addr) (c : Nat) (b : Option Addr) (d : Nat) : Value := .agg #[.bool r.neg, .slice a r.num.length c, .slice b r.den.length d]
/-- It lies behind these addresses. -/
structure FrA (w : World) (r : Fr) (a : Option Addr) (c : Nat) (b : Option Addr) (d : Nat) : Prop where
  an : Arr w a (u32s r.num)
  ad : Arr w b (u32s r.den)
  cn : r.num.length ≤ c
  cm : c ≤ 9223372036854775807
  dn : r.den.length ≤ d
  dm : d ≤ 9223372036854775807
  na : a = none → r.num.length = 0 ∧ c = 0
  nb : b = none → r.den.length = 0 ∧ d = 0
  wn : W.WF r.num
  wd : W.WF r.den
theorem FrA.blw {w w' : World} {r : Fr} {a : Option Addr} {c : Nat} {b : Option Addr} {d : Nat} (h : FrA w r a c b d) (k : Blw w w') : FrA w' r a c b d :=
  ⟨h.an.blw k, h.ad.blw k, h.cn, h.cm, h.dn, h.dm, h.na, h.nb, h.wn, h.wd⟩

def chkF (r : Fr) : Int := if 2048 < r.num.length ∨ 2048 < r.den.length then 3 else if r.num.getLast? = some 0 ∨ r.den.getLast? = some 0 ∨ r.den.length = 0 ∨ (r.num.length = 0 ∧ r.neg = true) ∨ ¬ Nat.gcd (W.val r.num) (W.val r.den) = 1 then 11 else 0

/-- A fraction that may be. -/
structure Fr.Ok (r : Fr) : Prop where
  ln : r.num.length ≤ 2048
  ld : r.den.length ≤ 2048
  nn : W.Nrm r.num
  nd : W.Nrm r.den
  d0 : 0 < r.den.length
  ns : r.num.length = 0 → r.neg = false
  g : Nat.gcd (W.val r.num) (W.val r.den) = 1
theorem chkF_ok {r : Fr} (h : r.Ok) : chkF r = 0 := by
  unfold chkF
  rw [if_neg (by have := h.ln; have := h.ld; omega), if_neg]
  rintro (k | k | k | ⟨k, k2⟩ | k)
  · exact h.nn k
  · exact h.nd k
  · have := h.d0; omega
  · rw [h.ns k] at k2; cases k2
  · exact k h.g
theorem ok_chkF {r : Fr} (h : chkF r = 0) : r.Ok := by
  unfold chkF at h
  split at h
  · cases h
  · rename_i h1
    split at h
    · cases h
    · rename_i h2
      refine ⟨by omega, by omega, fun k => h2 (.inl k), fun k => h2 (.inr (.inl k)), ?_, fun k => ?_, ?_⟩
      · rcases Nat.eq_zero_or_pos r.den.length with k | k
        · exact absurd (.inr (.inr (.inl k))) h2
        · exact k
      · cases hn : r.neg
        · rfl
        · exact absurd (.inr (.inr (.inr (.inl ⟨k, hn⟩)))) h2
      · rcases Nat.decEq (Nat.gcd (W.val r.num) (W.val r.den)) 1 with k | k
        · exact absurd (.inr (.inr (.inr (.inr k)))) h2
        · exact k
theorem chkF_cases (r : Fr) : chkF r = 0 ∨ chkF r = 3 ∨ chkF r = 11 := by
  unfold chkF
  split
  · simp
  · split <;> simp

set_option maxHeartbeats 400000 in
theorem ratioLong_any (a : Option Addr) (n c : Nat) (w : World) (hn : n ≤ 9223372036854775807) :
    Calls Try.prog 33 #[.slice a n c] w fun e w' => e = .returned (.bool (decide ((2048 : Int) < (n : Int)))) ∧ w' = w := by
  go_enter Try.func33, Try.ntmps33
  go_wp2
  go_ret
  exact ⟨rfl, rfl⟩

theorem chk_last {l : List Nat} (h : l.length ≤ 8192) (k : l.getLast? = some 0) : chk l = 11 := by
  unfold chk; rw [if_neg (by omega), if_pos k]

set_option maxRecDepth 100000 in
set_option maxHeartbeats 4000000 in
theorem ratioCheck_any (r : Fr) (a : Option Addr) (c : Nat) (b : Option Addr) (d : Nat) (w : World) (h : FrA w r a c b d) :
    Calls Try.prog 24 #[frV r a c b d] w fun e w' => e = .returned (.int .i64 (chkF r)) ∧ ∃ x, w' = w.ext x := by
  obtain ⟨neg, num, den⟩ := r
  obtain ⟨an, ad, cn, cm, dn, dm, na, nb, wn, wd⟩ := h
  simp only at an ad cn dn na nb wn wd
  by_cases hA : 2048 < num.length
  · have f1 : decide ((2048 : Int) < (num.length : Int)) = true := by simp; omega
    have HE := Lib.hid (show chkF ⟨neg, num, den⟩ = 3 from if_pos (.inl hA))
    go_enter Try.func24, Try.ntmps24
    go_wp2_with (go_at_call 33; refine (ratioLong_any _ _ _ _ (by omega)).mono ?_; rintro e w' ⟨rfl, rfl⟩)
    go_ret
    exact ⟨ret_i64 HE.out.symm, Blw.is (by repeat (first | exact Blw.refl _ | apply Blw.ext | apply Blw.alloc | apply Blw.drewN | apply Blw.drew | refine Blw.setCell ?_ _ _ (by simp)))⟩
  by_cases hB : 2048 < den.length
  · have f1 : decide ((2048 : Int) < (num.length : Int)) = false := by simp; omega
    have f2 : decide ((2048 : Int) < (den.length : Int)) = true := by simp; omega
    have HE := Lib.hid (show chkF ⟨neg, num, den⟩ = 3 from if_pos (.inr hB))
    go_enter Try.func24, Try.ntmps24
    go_wp2_with (go_at_call 33; refine (ratioLong_any _ _ _ _ (by omega)).mono ?_; rintro e w' ⟨rfl, rfl⟩)
    go_ret
    exact ⟨ret_i64 HE.out.symm, Blw.is (by repeat (first | exact Blw.refl _ | apply Blw.ext | apply Blw.alloc | apply Blw.drewN | apply Blw.drew | refine Blw.setCell ?_ _ _ (by simp)))⟩
  have hAB : ¬ (2048 < num.length ∨ 2048 < den.length) := by omega
  have f1 : decide ((2048 : Int) < (num.length : Int)) = false := by simp; omega
  have f2 : decide ((2048 : Int) < (den.length : Int)) = false := by simp; omega
  have K1 := fun (W : World) (hb : Blw w W) => natCheck_any a num c W (an.blw hb) (by omega)
  have K2 := fun (W : World) (hb : Blw w W) => natCheck_any b den d W (ad.blw hb) (by omega)
  by_cases hC : num.getLast? = some 0
  · have HE := Lib.hid (show chkF ⟨neg, num, den⟩ = 11 by unfold chkF; rw [if_neg hAB, if_pos (.inl hC)])
    rw [chk_last (by omega) hC] at K1
    have H1 := Lib.hid K1
    clear K1 K2 hC hAB an ad
    go_enter Try.func24, Try.ntmps24
    go_wp2_with (first | (go_at_call 33; refine (ratioLong_any _ _ _ _ (by omega)).mono ?_; rintro e w' ⟨rfl, rfl⟩) | (go_at_call 34; (with_reducible refine Calls.mono (H1.out _ (by repeat (first | exact Blw.refl _ | apply Blw.ext | apply Blw.alloc | apply Blw.drewN | apply Blw.drew | refine Blw.setCell ?_ _ _ (by simp)))) ?_); rintro e w' ⟨rfl, rfl⟩))
    go_ret
    exact ⟨ret_i64 HE.out.symm, Blw.is (by repeat (first | exact Blw.refl _ | apply Blw.ext | apply Blw.alloc | apply Blw.drewN | apply Blw.drew | refine Blw.setCell ?_ _ _ (by simp)))⟩
  by_cases hD : den.getLast? = some 0
  · have HE := Lib.hid (show chkF ⟨neg, num, den⟩ = 11 by unfold chkF; rw [if_neg hAB, if_pos (.inr (.inl hD))])
    rw [chk_zero (by omega) hC] at K1
    rw [chk_last (by omega) hD] at K2
    have H1 := Lib.hid K1
    have H2 := Lib.hid K2
    clear K1 K2 hC hD hAB an ad
    go_enter Try.func24, Try.ntmps24
    go_wp2_with (first | (go_at_call 33; refine (ratioLong_any _ _ _ _ (by omega)).mono ?_; rintro e w' ⟨rfl, rfl⟩) | (go_at_call 34; (first | (with_reducible refine Calls.mono (H1.out _ (by repeat (first | exact Blw.refl _ | apply Blw.ext | apply Blw.alloc | apply Blw.drewN | apply Blw.drew | refine Blw.setCell ?_ _ _ (by simp)))) ?_) | (with_reducible refine Calls.mono (H2.out _ (by repeat (first | exact Blw.refl _ | apply Blw.ext | apply Blw.alloc | apply Blw.drewN | apply Blw.drew | refine Blw.setCell ?_ _ _ (by simp)))) ?_)); rintro e w' ⟨rfl, rfl⟩))
    go_ret
    exact ⟨ret_i64 HE.out.symm, Blw.is (by repeat (first | exact Blw.refl _ | apply Blw.ext | apply Blw.alloc | apply Blw.drewN | apply Blw.drew | refine Blw.setCell ?_ _ _ (by simp)))⟩
  rw [chk_zero (by omega) hC] at K1
  rw [chk_zero (by omega) hD] at K2
  have H1 := Lib.hid K1
  have H2 := Lib.hid K2
  clear K1 K2
  by_cases hE : den.length = 0
  · have HE := Lib.hid (show chkF ⟨neg, num, den⟩ = 11 by unfold chkF; rw [if_neg hAB, if_pos (.inr (.inr (.inl hE)))])
    have q1 : ((den.length : Int) == 0) = true := by rw [hE]; rfl
    clear hE hC hD hAB an ad
    go_enter Try.func24, Try.ntmps24
    go_wp2_with (first | (go_at_call 33; refine (ratioLong_any _ _ _ _ (by omega)).mono ?_; rintro e w' ⟨rfl, rfl⟩) | (go_at_call 34; (first | (with_reducible refine Calls.mono (H1.out _ (by repeat (first | exact Blw.refl _ | apply Blw.ext | apply Blw.alloc | apply Blw.drewN | apply Blw.drew | refine Blw.setCell ?_ _ _ (by simp)))) ?_) | (with_reducible refine Calls.mono (H2.out _ (by repeat (first | exact Blw.refl _ | apply Blw.ext | apply Blw.alloc | apply Blw.drewN | apply Blw.drew | refine Blw.setCell ?_ _ _ (by simp)))) ?_)); rintro e w' ⟨rfl, rfl⟩))
    go_ret
    exact ⟨ret_i64 HE.out.symm, Blw.is (by repeat (first | exact Blw.refl _ | apply Blw.ext | apply Blw.alloc | apply Blw.drewN | apply Blw.drew | refine Blw.setCell ?_ _ _ (by simp)))⟩
  have q1 : ((den.length : Int) == 0) = false := beq_false_of_ne (by omega)
  by_cases hF : num.length = 0 ∧ neg = true
  · have HE := Lib.hid (show chkF ⟨neg, num, den⟩ = 11 by unfold chkF; rw [if_neg hAB, if_pos (.inr (.inr (.inr (.inl hF))))])
    have q2 : ((num.length : Int) == 0) = true := by rw [hF.1]; rfl
    obtain ⟨-, rfl⟩ := hF
    clear hE hC hD hAB an ad
    go_enter Try.func24, Try.ntmps24
    go_wp2_with (first | (go_at_call 33; refine (ratioLong_any _ _ _ _ (by omega)).mono ?_; rintro e w' ⟨rfl, rfl⟩) | (go_at_call 34; (first | (with_reducible refine Calls.mono (H1.out _ (by repeat (first | exact Blw.refl _ | apply Blw.ext | apply Blw.alloc | apply Blw.drewN | apply Blw.drew | refine Blw.setCell ?_ _ _ (by simp)))) ?_) | (with_reducible refine Calls.mono (H2.out _ (by repeat (first | exact Blw.refl _ | apply Blw.ext | apply Blw.alloc | apply Blw.drewN | apply Blw.drew | refine Blw.setCell ?_ _ _ (by simp)))) ?_)); rintro e w' ⟨rfl, rfl⟩))
    go_ret
    exact ⟨ret_i64 HE.out.symm, Blw.is (by repeat (first | exact Blw.refl _ | apply Blw.ext | apply Blw.alloc | apply Blw.drewN | apply Blw.drew | refine Blw.setCell ?_ _ _ (by simp)))⟩
  have GC := fun (W : World) (hb : Blw w W) => natGcd_any a b num den c d W (an.blw hb) (ad.blw hb) na nb wn wd hC hD (by omega) (by omega)
  obtain ⟨G, hG⟩ : ∃ G, Nat.gcd (W.val num) (W.val den) = G := ⟨_, rfl⟩
  rw [hG] at GC
  have HG := Lib.hid GC
  have HE := Lib.hid (show chkF ⟨neg, num, den⟩ = if G = 1 then 0 else 11 by
    unfold chkF
    rw [if_neg hAB]
    by_cases h1 : G = 1
    · rw [if_pos h1, if_neg]
      rintro (k | k | k | k | k)
      · exact hC k
      · exact hD k
      · exact hE k
      · exact hF k
      · exact k (hG.trans h1)
    · rw [if_neg h1, if_pos (.inr (.inr (.inr (.inr (fun k => h1 (hG.symm.trans k))))))])
  have hcase : (((num.length : Int) == 0) = true ∧ neg = false) ∨ ((num.length : Int) == 0) = false := by
    by_cases h0 : num.length = 0
    · left
      refine ⟨by rw [h0]; rfl, ?_⟩
      cases hn : neg
      · rfl
      · exact absurd ⟨h0, hn⟩ hF
    · right; exact beq_false_of_ne (by omega)
  clear GC hG hF hE hC hD hAB an ad
  go_enter Try.func24, Try.ntmps24
  rcases hcase with ⟨q2, rfl⟩ | q2
  all_goals
    go_wp2_with (first | (go_at_call 33; refine (ratioLong_any _ _ _ _ (by omega)).mono ?_; rintro e w' ⟨rfl, rfl⟩) | (go_at_call 34; (first | (with_reducible refine Calls.mono (H1.out _ (by repeat (first | exact Blw.refl _ | apply Blw.ext | apply Blw.alloc | apply Blw.drewN | apply Blw.drew | refine Blw.setCell ?_ _ _ (by simp)))) ?_) | (with_reducible refine Calls.mono (H2.out _ (by repeat (first | exact Blw.refl _ | apply Blw.ext | apply Blw.alloc | apply Blw.drewN | apply Blw.drew | refine Blw.setCell ?_ _ _ (by simp)))) ?_)); rintro e w' ⟨rfl, rfl⟩))
    refine Calls.mono (HG.out _ (by repeat (first | exact Blw.refl _ | apply Blw.ext | apply Blw.alloc | apply Blw.drewN | apply Blw.drew | refine Blw.setCell ?_ _ _ (by simp)))) ?_
    rintro e w2 ⟨a3, c3, rfl, hb3, o3⟩
    obtain ⟨a4, c4, he, k1, k2, k3, k4, k5⟩ := own_arr o3
    cases he
    have hb2 : Blw w w2 := ((Blw.refl w).alloc _).trans hb3
    have hcmp := natCompare_any a3 (some ⟨w2.heap.size, 0, none⟩) (W.toW G) [1] c3 1 (w2.alloc (.cells (u32s [1]).toArray 54 (0, 0))) (k1.alloc _) (own_read (own_lit w2 [1] (by decide))) k3 (by decide) k4 (by decide) (W.wf_toW G) (W.WF.cons (by decide) W.WF.nil)
    rw [W.val_toW, show W.val [1] = 1 from rfl] at hcmp
    clear o3 k5 k2
    go_wp2_with fail
    refine Calls.mono hcmp ?_
    rintro e w4 ⟨rfl, x4, rfl⟩
    clear hcmp
    by_cases hg1 : G = 1
    · have q3 : (W.cmpN G 1 != 0) = false := by rw [hg1, W.cmpN_eq]; rfl
      rw [if_pos hg1] at HE
      clear hg1
      go_wp2
      go_ret
      exact ⟨ret_i64 HE.out.symm, Blw.is ((hb2.alloc _).ext _)⟩
    · have q3 : (W.cmpN G 1 != 0) = true := by
        rcases Nat.lt_or_ge G 1 with h | h
        · rw [W.cmpN_lt h]; rfl
        · rw [W.cmpN_gt (by omega)]; rfl
      rw [if_neg hg1] at HE
      clear hg1
      go_wp2
      go_ret
      exact ⟨ret_i64 HE.out.symm, Blw.is ((hb2.alloc _).ext _)⟩
end Go.Proofs.Ytigkfdoeneemeab
/- Fractions compared, walked. -/
namespace Go.Proofs.Ytigkfdoeneemeab
open Go.RowKit

def chk2 (r s : Fr) : Int := if chkF r = 0 then chkF s else chkF r

set_option maxHeartbeats 1000000 in
theorem ratioChecks_any (r s : Fr) (a : Option Addr) (c : Nat) (b : Option Addr) (d : Nat) (a' : Option Addr) (c' : Nat) (b' : Option Addr) (d' : Nat) (w : World) (h : FrA w r a c b d) (k : FrA w s a' c' b' d') :
    Calls Try.prog 38 #[frV r a c b d, frV s a' c' b' d'] w fun e w' => e = .returned (.int .i64 (chk2 r s)) ∧ ∃ x, w' = w.ext x := by
  have K1 := fun (W : World) (hb : Blw w W) => ratioCheck_any r a c b d W (h.blw hb)
  have K2 := fun (W : World) (hb : Blw w W) => ratioCheck_any s a' c' b' d' W (k.blw hb)
  have he : chk2 r s = if chkF r = 0 then chkF s else chkF r := rfl
  generalize chkF r = u at *
  generalize chkF s = v at *
  have HE := Lib.hid he
  clear he
  have H1 := Lib.hid K1
  have H2 := Lib.hid K2
  clear K1 K2 h k
  by_cases hu : u = 0
  · subst hu
    rw [if_pos rfl] at HE
    go_enter Try.func38, Try.ntmps38
    go_wp2_with fail
    refine Calls.mono (H1.out _ (by repeat (first | exact Blw.refl _ | apply Blw.ext | apply Blw.alloc | apply Blw.drewN | apply Blw.drew | refine Blw.setCell ?_ _ _ (by simp)))) ?_
    rintro e w1 ⟨rfl, x1, rfl⟩
    go_wp2_with fail
    refine Calls.mono (H2.out _ (by repeat (first | exact Blw.refl _ | apply Blw.ext | apply Blw.alloc | apply Blw.drewN | apply Blw.drew | refine Blw.setCell ?_ _ _ (by simp)))) ?_
    rintro e w1 ⟨rfl, x2, rfl⟩
    go_wp2
    go_ret
    exact ⟨ret_i64 HE.out.symm, Blw.is (by repeat (first | exact Blw.refl _ | apply Blw.ext | apply Blw.alloc | apply Blw.drewN | apply Blw.drew | refine Blw.setCell ?_ _ _ (by simp)))⟩
  · rw [if_neg hu] at HE
    have q : (u != 0) = true := by simpa using hu
    go_enter Try.func38, Try.ntmps38
    go_wp2_with fail
    refine Calls.mono (H1.out _ (by repeat (first | exact Blw.refl _ | apply Blw.ext | apply Blw.alloc | apply Blw.drewN | apply Blw.drew | refine Blw.setCell ?_ _ _ (by simp)))) ?_
    rintro e w1 ⟨rfl, x1, rfl⟩
    go_wp2
    go_ret
    exact ⟨ret_i64 HE.out.symm, Blw.is (by repeat (first | exact Blw.refl _ | apply Blw.ext | apply Blw.alloc | apply Blw.drewN | apply Blw.drew | refine Blw.setCell ?_ _ _ (by simp)))⟩

set_option maxHeartbeats 400000 in
theorem ratioTimes_any (a b : Option Addr) (l m : List Nat) (c d : Nat) (w : World) (h : Arr w a (u32s l)) (k : Arr w b (u32s m)) (wl : W.WF l) (wm : W.WF m) (nl : W.Nrm l) (nm : W.Nrm m) (hs : l.length + m.length ≤ 8192) :
    Calls Try.prog 39 #[.slice a l.length c, .slice b m.length d] w (RetW w (W.val l * W.val m)) := by
  have hm := natMul_any a b l m c d w h k wl wm nl nm hs
  clear h k
  go_enter Try.func39, Try.ntmps39
  go_wp2_with fail
  refine Calls.mono hm ?_
  rintro e w1 ⟨a1, c1, rfl, hb, o1⟩
  clear hm
  go_wp2
  go_ret
  exact RetOwn.of o1 hb

def cmpF (r s : Fr) : Int := if r.neg = true ∧ s.neg = true then W.cmpN (W.val s.num * W.val r.den) (W.val r.num * W.val s.den) else if r.neg = true then -1 else if s.neg = true then 1 else W.cmpN (W.val r.num * W.val s.den) (W.val s.num * W.val r.den)

set_option maxHeartbeats 400000 in
theorem ratioCompare_bad (r s : Fr) (a : Option Addr) (c : Nat) (b : Option Addr) (d : Nat) (a' : Option Addr) (c' : Nat) (b' : Option Addr) (d' : Nat) (w : World) (h : FrA w r a c b d) (k : FrA w s a' c' b' d') (hu : ¬ chk2 r s = 0) :
    Calls Try.prog 27 #[frV r a c b d, frV s a' c' b' d'] w fun e w' => e = .returned (.tuple #[.int .i64 0, .int .i64 (chk2 r s)]) ∧ ∃ x, w' = w.ext x := by
  have K1 := fun (W : World) (hb : Blw w W) => ratioChecks_any r s a c b d a' c' b' d' W (h.blw hb) (k.blw hb)
  generalize chk2 r s = u at *
  have H1 := Lib.hid K1
  have q : (u != 0) = true := by simpa using hu
  clear K1 h k
  go_enter Try.func27, Try.ntmps27
  go_wp2_with fail
  refine Calls.mono (H1.out _ (by repeat (first | exact Blw.refl _ | apply Blw.ext | apply Blw.alloc | apply Blw.drewN | apply Blw.drew | refine Blw.setCell ?_ _ _ (by simp)))) ?_
  rintro e w1 ⟨rfl, x1, rfl⟩
  go_wp2
  go_ret2
  exact ⟨rfl, Blw.is (by repeat (first | exact Blw.refl _ | apply Blw.ext | apply Blw.alloc | apply Blw.drewN | apply Blw.drew | refine Blw.setCell ?_ _ _ (by simp)))⟩

theorem Fr.Ok.len {r s : Fr} (h : r.Ok) (k : s.Ok) : r.num.length + s.den.length ≤ 8192 ∧ s.num.length + r.den.length ≤ 8192 ∧ r.num.length + s.num.length ≤ 8192 ∧ r.den.length + s.den.length ≤ 8192 := by
  have := h.ln; have := h.ld; have := k.ln; have := k.ld
  omega

theorem cmp_words (X Y : Nat) (p1 : Option Addr) (q1 : Nat) (p2 : Option Addr) (q2 : Nat) (w : World) (h1 : Arr w p1 (u32s (W.toW X))) (h2 : Arr w p2 (u32s (W.toW Y))) (k1 : (W.toW X).length ≤ q1) (k2 : q1 ≤ maxLen) (j1 : (W.toW Y).length ≤ q2) (j2 : q2 ≤ maxLen) :
    Calls Try.prog 36 #[.slice p1 (W.toW X).length q1, .slice p2 (W.toW Y).length q2] w fun e w' => e = .returned (.int .i64 (W.cmpN X Y)) ∧ ∃ x, w' = w.ext x := by
  have := natCompare_any p1 p2 (W.toW X) (W.toW Y) q1 q2 w h1 h2 k1 j1 k2 j2 (W.wf_toW X) (W.wf_toW Y)
  rw [W.val_toW, W.val_toW] at this
  exact this
theorem cmp_words' (X Y : Nat) (p1 : Option Addr) (q1 : Nat) (p2 : Option Addr) (q2 : Nat) (w : World) (h1 : Arr w p1 (u32s (W.toW X))) (h2 : Arr w p2 (u32s (W.toW Y))) (k1 : (W.toW X).length ≤ q1) (k2 : q1 ≤ maxLen) (j1 : (W.toW Y).length ≤ q2) (j2 : q2 ≤ maxLen) :
    Calls Try.prog 36 #[.slice p2 (W.toW Y).length q2, .slice p1 (W.toW X).length q1] w fun e w' => e = .returned (.int .i64 (W.cmpN Y X)) ∧ ∃ x, w' = w.ext x :=
  cmp_words Y X p2 q2 p1 q1 w h2 h1 j1 j2 k1 k2

set_option maxRecDepth 100000 in
set_option maxHeartbeats 4000000 in
theorem ratioCompare_ok (r s : Fr) (a : Option Addr) (c : Nat) (b : Option Addr) (d : Nat) (a' : Option Addr) (c' : Nat) (b' : Option Addr) (d' : Nat) (w : World) (h : FrA w r a c b d) (k : FrA w s a' c' b' d') (hr : r.Ok) (hs : s.Ok) :
    Calls Try.prog 27 #[frV r a c b d, frV s a' c' b' d'] w fun e w' => e = .returned (.tuple #[.int .i64 (cmpF r s), .int .i64 0]) ∧ ∃ x, w' = w.ext x := by
  have K1 := fun (W : World) (hb : Blw w W) => ratioChecks_any r s a c b d a' c' b' d' W (h.blw hb) (k.blw hb)
  rw [show chk2 r s = 0 by unfold chk2; rw [chkF_ok hr, if_pos rfl, chkF_ok hs]] at K1
  have H1 := Lib.hid K1
  have HL := hr.len hs
  obtain ⟨S, hS⟩ : ∃ S : World → Prop, S = fun W => w.heap.size + 1 < W.heap.size ∧ Blw w W ∧ W.cell? ⟨w.heap.size, 0, none⟩ = some (.bool r.neg) ∧ W.cell? ⟨w.heap.size, 1, none⟩ = some (.slice a r.num.length c) ∧ W.cell? ⟨w.heap.size, 2, none⟩ = some (.slice b r.den.length d) ∧
      W.cell? ⟨w.heap.size + 1, 0, none⟩ = some (.bool s.neg) ∧ W.cell? ⟨w.heap.size + 1, 1, none⟩ = some (.slice a' s.num.length c') ∧ W.cell? ⟨w.heap.size + 1, 2, none⟩ = some (.slice b' s.den.length d') := ⟨_, rfl⟩
  have KS : ∀ W W' : World, S W → Blw W W' → S W' := by
    subst hS
    rintro W W' ⟨h1, h2, h3, h4, h5, h6, h7, h8⟩ hb
    exact ⟨Nat.lt_of_lt_of_le h1 hb.size, h2.trans hb, (Below.cell hb (by show w.heap.size < _; omega)).trans h3, (Below.cell hb (by show w.heap.size < _; omega)).trans h4, (Below.cell hb (by show w.heap.size < _; omega)).trans h5, (Below.cell hb h1).trans h6, (Below.cell hb h1).trans h7, (Below.cell hb h1).trans h8⟩
  have SB : ∀ W : World, S W → Blw w W := by
    subst hS
    rintro W ⟨h1, h2, -⟩; exact h2
  have T1 := Lib.hid (fun (W : World) (hb : S W) => ratioTimes_any a b' r.num s.den c d' W (h.an.blw (SB W hb)) (k.ad.blw (SB W hb)) h.wn k.wd hr.nn hs.nd HL.1)
  have T2 := Lib.hid (fun (W : World) (hb : S W) => ratioTimes_any a' b s.num r.den c' d W (k.an.blw (SB W hb)) (h.ad.blw (SB W hb)) k.wn h.wd hs.nn hr.nd HL.2.1)
  have hcm : cmpF r s = if r.neg = true ∧ s.neg = true then W.cmpN (W.val s.num * W.val r.den) (W.val r.num * W.val s.den) else if r.neg = true then -1 else if s.neg = true then 1 else W.cmpN (W.val r.num * W.val s.den) (W.val s.num * W.val r.den) := rfl
  obtain ⟨X, hX⟩ : ∃ X, X = W.val r.num * W.val s.den := ⟨_, rfl⟩
  obtain ⟨Y, hY⟩ : ∃ Y, Y = W.val s.num * W.val r.den := ⟨_, rfl⟩
  rw [← hX] at T1 hcm
  rw [← hY] at T2 hcm
  have HC := Lib.hid hcm
  obtain ⟨rn, rnum, rden⟩ := r
  obtain ⟨sn, snum, sden⟩ := s
  simp only at T1 T2 HC
  have HXY := Lib.hid (cmp_words X Y)
  have HYX := Lib.hid (cmp_words' X Y)
  have HKS := Lib.hid KS
  have HSB := Lib.hid SB
  clear K1 h k hr hs hX hY HL hcm KS SB
  simp only at hS
  go_enter Try.func27, Try.ntmps27
  go_wp2_with fail
  refine Calls.mono (H1.out _ (by repeat (first | exact Blw.refl _ | apply Blw.ext | apply Blw.alloc | apply Blw.drewN | apply Blw.drew | refine Blw.setCell ?_ _ _ (by simp)))) ?_
  rintro e w1 ⟨rfl, x1, rfl⟩
  go_wp2_with fail
  have hS0 : S (((w.alloc (.cells #[.bool rn, .slice a rnum.length c, .slice b rden.length d] 28 (0, 0))).alloc (.cells #[.bool sn, .slice a' snum.length c', .slice b' sden.length d'] 28 (0, 0))).ext x1).drew := by
    rw [hS]
    exact ⟨Nat.lt_of_lt_of_le (by simp) (World.le_ext _ x1), (by repeat (first | exact Blw.refl _ | apply Blw.ext | apply Blw.alloc | apply Blw.drewN | apply Blw.drew | refine Blw.setCell ?_ _ _ (by simp))), by go_simp, by go_simp, by go_simp, by go_simp, by go_simp, by go_simp⟩
  subst hS
  go_region_held3 (fun W => w.heap.size + 1 < W.heap.size ∧ Blw w W ∧ W.cell? ⟨w.heap.size, 0, none⟩ = some (.bool rn) ∧ W.cell? ⟨w.heap.size, 1, none⟩ = some (.slice a rnum.length c) ∧ W.cell? ⟨w.heap.size, 2, none⟩ = some (.slice b rden.length d) ∧
      W.cell? ⟨w.heap.size + 1, 0, none⟩ = some (.bool sn) ∧ W.cell? ⟨w.heap.size + 1, 1, none⟩ = some (.slice a' snum.length c') ∧ W.cell? ⟨w.heap.size + 1, 2, none⟩ = some (.slice b' sden.length d')) (first | assumption | go_keep) (first
    | (go_at_call 39; (with_reducible refine Calls.mono (T1.out _ (by assumption)) ?_); rintro e w9 ⟨p1, q1, y1, rfl, rfl, o1, -, -⟩; have hS1 := HKS.out _ _ (by assumption) (World.blw_ext _ y1))
    | (go_at_call 39; (with_reducible refine Calls.mono (T2.out _ (by assumption)) ?_); rintro e w9 ⟨p2, q2, y2, rfl, rfl, o2, -, -⟩; have hS2 := HKS.out _ _ (by assumption) (World.blw_ext _ y2)))
  all_goals
    obtain ⟨_, _, he, A1, -, k1, k2, -⟩ := own_arr o1
    cases he
    obtain ⟨_, _, he, A2, -, j1, j2, -⟩ := own_arr o2
    cases he
    clear T1 T2 HKS HSB H1 hS0 hS1 hS2 o1 o2
    cases rn <;> cases sn
    · have HV := HC.out
      rw [if_neg (by simp), if_neg (by simp), if_neg (by simp)] at HV
      go_wp2_with fail
      refine Calls.mono (HXY.out _ _ _ _ _ (by first | exact A1 | exact A1.ext _) (by first | exact A2 | exact A2.ext _) k1 k2 j1 j2) ?_
      rintro e w8 ⟨rfl, x8, rfl⟩
      go_wp2
      go_ret2
      exact ⟨by first | (rw [HV]; rfl) | rfl, Blw.is (by repeat (first | exact Blw.refl _ | apply Blw.ext | apply Blw.alloc | apply Blw.drewN | apply Blw.drew | refine Blw.setCell ?_ _ _ (by simp)))⟩
    · have HV := HC.out
      rw [if_neg (by simp), if_neg (by simp), if_pos rfl] at HV
      go_wp2
      go_ret2
      exact ⟨by first | (rw [HV]; rfl) | rfl, Blw.is (by repeat (first | exact Blw.refl _ | apply Blw.ext | apply Blw.alloc | apply Blw.drewN | apply Blw.drew | refine Blw.setCell ?_ _ _ (by simp)))⟩
    · have HV := HC.out
      rw [if_neg (by simp), if_pos rfl] at HV
      go_wp2
      go_ret2
      exact ⟨by first | (rw [HV]; rfl) | rfl, Blw.is (by repeat (first | exact Blw.refl _ | apply Blw.ext | apply Blw.alloc | apply Blw.drewN | apply Blw.drew | refine Blw.setCell ?_ _ _ (by simp)))⟩
    · have HV := HC.out
      rw [if_pos ⟨rfl, rfl⟩] at HV
      go_wp2_with fail
      refine Calls.mono (HYX.out _ _ _ _ _ (by first | exact A1 | exact A1.ext _) (by first | exact A2 | exact A2.ext _) k1 k2 j1 j2) ?_
      rintro e w8 ⟨rfl, x8, rfl⟩
      go_wp2
      go_ret2
      exact ⟨by first | (rw [HV]; rfl) | rfl, Blw.is (by repeat (first | exact Blw.refl _ | apply Blw.ext | apply Blw.alloc | apply Blw.drewN | apply Blw.drew | refine Blw.setCell ?_ _ _ (by simp)))⟩
end Go.Proofs.Ytigkfdoeneemeab
/- Walks of slackwaterref03: same, trimmed, one, times, Check, both. -/
namespace Go.Proofs.Ytigkfdoeneemeab
open Go.RowKit

theorem ret_bl {a b : Bool} (h : a = b) : Ending.returned (.bool a) = .returned (.bool b) := by rw [h]
set_option maxHeartbeats 1600000 in
theorem ref03Same_any (a b : Option Addr) (l m : List Nat) (c d : Nat) (w : World) (ha : Arr w a (u32s l)) (hb : Arr w b (u32s m)) (hl : l.length ≤ 1099511627776) (hm : m.length ≤ 1099511627776) :
    Calls Try.prog 43 #[.slice a l.length c, .slice b m.length d] w fun e w' => e = .returned (.bool (l == m)) ∧ ∃ x, w' = w.ext x := by
  by_cases hlm : l.length = m.length
  · have HLM := Lib.hid hlm
    have d1 : ((l.length : Int) != (m.length : Int)) = false := by simp; omega
    have d2 : ((l.length : Int) == (m.length : Int)) = true := by simp; omega
    clear hlm
    go_enter Try.func43, Try.ntmps43
    go_wp2
    clear d1 d2
    go_loopw [5] (fun i wr => ∃ k : Nat, k ≤ l.length ∧ i = .int .i64 k ∧ Blw w wr ∧ Hid (l.take k = m.take k)) (fun i _ => l.length - (intOf i).toNat)
    case atStart => exact ⟨0, Nat.zero_le _, rfl, Blw.refl _, rfl⟩
    case round =>
      obtain ⟨k, hk, rfl, hbw, htk⟩ := hrel
      have hlm := HLM.out
      by_cases hlt : k < l.length
      · obtain ⟨x, b1, o1, hd1, -, hgx, rfl, hb1, hc1⟩ := (ha.blw hbw).elem hlt
        obtain ⟨y, b2, o2, hd2, -, hgy, rfl, hb2, hc2⟩ := (hb.blw hbw).elem (show k < m.length by omega)
        have h0 : (0 : Int) ≤ (k : Int) := by omega
        have h1 : (k : Int) < (l.length : Int) := by omega
        have h2 : (k : Int) < (m.length : Int) := by omega
        have HX : Hid (l[k]? = some x) := hgx.out
        have HY : Hid (m[k]? = some y) := hgy.out
        clear hgx hgy hd1 hd2 hlm
        by_cases hxy : x = y
        · have HT : Hid (l.take (k + 1) = m.take (k + 1)) := by
            show _ = _
            rw [List.take_add_one, List.take_add_one, htk.out, HX.out, HY.out, hxy]
          subst hxy
          clear HX HY
          go_wp2_with fail
          go_quiet (fail)
          go_wp2
          go_roundw
          case rel => exact ⟨k + 1, by omega, by go_num, hbw.trans (by repeat (first | exact Blw.refl _ | apply Blw.ext | apply Blw.alloc | apply Blw.drewN | apply Blw.drew | refine Blw.setCell ?_ _ _ (by simp))), HT⟩
          case measure => simp [intOf]; omega
        · have HF : Hid ((l == m) = false) := by
            show _ = _
            simp only [beq_eq_false_iff_ne, ne_eq]
            intro e
            have := HX.out
            rw [e, HY.out] at this
            exact hxy (by injection this with this; exact this.symm)
          have q1 : ((x : Int) != (y : Int)) = true := by simp; omega
          have q2 : ((x : Int) == (y : Int)) = false := by simp; omega
          clear HX HY htk hxy
          go_wp2_with fail
          go_quiet (fail)
          go_wp2
          go_ret
          exact ⟨ret_bl HF.out.symm, Blw.is (hbw.trans (by repeat (first | exact Blw.refl _ | apply Blw.ext | apply Blw.alloc | apply Blw.drewN | apply Blw.drew | refine Blw.setCell ?_ _ _ (by simp))))⟩
      · have HF : Hid ((l == m) = true) := by
          show _ = _
          have := htk.out
          rw [List.take_of_length_le (by omega), List.take_of_length_le (by omega)] at this
          simpa using this
        clear htk hlm
        go_wp2
        go_ret
        exact ⟨ret_bl HF.out.symm, Blw.is hbw⟩
  · have HF : Hid ((l == m) = false) := by
      show _ = _
      simp only [beq_eq_false_iff_ne, ne_eq]
      intro e; exact hlm (by rw [e])
    have d1 : ((l.length : Int) != (m.length : Int)) = true := by simp; omega
    have d2 : ((l.length : Int) == (m.length : Int)) = false := by simp; omega
    clear hlm
    go_enter Try.func43, Try.ntmps43
    go_wp2
    go_ret
    exact ⟨ret_bl HF.out.symm, Blw.is (Blw.refl _)⟩


set_option maxHeartbeats 1000000 in
theorem refTrimmed_any (a : Option Addr) (l : List Nat) (c : Nat) (w : World) (h : Arr w a (u32s l)) (hl : l.length ≤ 9223372036854775807) :
    Calls Try.prog 41 #[.slice a l.length c] w fun e w' => e = .returned (.bool (decide (¬ l.getLast? = some 0))) ∧ w' = w := by
  by_cases h0 : l.length = 0
  · have e0 : l = [] := List.eq_nil_of_length_eq_zero h0
    subst e0
    go_enter Try.func41, Try.ntmps41
    go_wp2
    go_ret
    exact ⟨rfl, rfl⟩
  · obtain ⟨x, b, o, -, -, hx, rfl, hb, hc⟩ := h.elem (k := l.length - 1) (by omega)
    have hlast : Hid (l.getLast? = some x) := by show l.getLast? = some x; rw [List.getLast?_eq_getElem?]; exact hx.out
    have d1 : ((l.length : Int) == 0) = false := beq_false_of_ne (by omega)
    have i1 : ((l.length : Int) - 1).toNat = l.length - 1 := by omega
    have i2 : (0 : Int) ≤ (l.length : Int) - 1 := by omega
    have i3 : (1 : Int) ≤ (l.length : Int) := by omega
    clear h0 h
    by_cases hx0 : x = 0
    · have HE : Hid (decide (¬ l.getLast? = some 0) = false) := by show _ = _; rw [hlast.out, hx0]; rfl
      subst hx0
      clear hx hlast
      go_enter Try.func41, Try.ntmps41
      go_wp2
      go_ret
      exact ⟨ret_bl HE.out.symm, rfl⟩
    · have HE : Hid (decide (¬ l.getLast? = some 0) = true) := by show _ = _; rw [hlast.out]; simpa using hx0
      have d2 : ((x : Int) != 0) = true := by simp; omega
      have d3 : ((x : Int) == 0) = false := by simp; omega
      clear hx hlast hx0
      go_enter Try.func41, Try.ntmps41
      go_wp2
      go_ret
      exact ⟨ret_bl HE.out.symm, rfl⟩
set_option maxHeartbeats 1000000 in
theorem refOne_any (w : World) : Calls Try.prog 44 #[] w fun e w' => e = .returned (.slice (some ⟨w.heap.size, 0, none⟩) 1 1) ∧ w' = w.alloc (.cells (u32s [1]).toArray 54 (0, 0)) := by
  go_enter Try.func44, Try.ntmps44
  go_wp2
  go_ret
  exact ⟨rfl, rfl⟩
set_option maxHeartbeats 1000000 in
theorem refTimes3_any (a b : Option Addr) (l m : List Nat) (c d : Nat) (w : World) (h : Arr w a (u32s l)) (k : Arr w b (u32s m)) (wl : W.WF l) (wm : W.WF m) (nl : W.Nrm l) (nm : W.Nrm m) (hs : l.length + m.length ≤ 8192) :
    Calls Try.prog 60 #[.slice a l.length c, .slice b m.length d] w (RetW w (W.val l * W.val m)) := by
  have hm := refMul_ok a b l m c d w h k wl wm nl nm hs
  clear h k
  go_enter Try.func60, Try.ntmps60
  go_wp2_with fail
  refine Calls.mono hm ?_
  rintro e w1 ⟨a1, c1, rfl, hb, o1⟩
  clear hm
  go_wp2
  go_ret
  exact RetOwn.of o1 hb
end Go.Proofs.Ytigkfdoeneemeab
/- The walk of slackwaterref03.Check, both. -/
namespace Go.Proofs.Ytigkfdoeneemeab
open Go.RowKit

set_option maxRecDepth 100000 in
set_option maxHeartbeats 4000000 in
theorem refCheck3_any (r : Fr) (a : Option Addr) (c : Nat) (b : Option Addr) (d : Nat) (w : World) (h : FrA w r a c b d) :
    Calls Try.prog 31 #[frV r a c b d] w fun e w' => e = .returned (.int .i64 (chkF r)) ∧ ∃ x, w' = w.ext x := by
  obtain ⟨neg, num, den⟩ := r
  obtain ⟨an, ad, cn, cm, dn, dm, na, nb, wn, wd⟩ := h
  simp only at an ad cn dn na nb wn wd
  by_cases hA : 2048 < num.length
  · have f1 : decide ((2048 : Int) < (num.length : Int)) = true := by simp; omega
    have HE := Lib.hid (show chkF ⟨neg, num, den⟩ = 3 from if_pos (.inl hA))
    go_enter Try.func31, Try.ntmps31
    go_wp2_with fail
    go_ret
    exact ⟨ret_i64 HE.out.symm, Blw.is (by repeat (first | exact Blw.refl _ | apply Blw.ext | apply Blw.alloc | apply Blw.drewN | apply Blw.drew | refine Blw.setCell ?_ _ _ (by simp)))⟩
  by_cases hB : 2048 < den.length
  · have f1 : decide ((2048 : Int) < (num.length : Int)) = false := by simp; omega
    have f2 : decide ((2048 : Int) < (den.length : Int)) = true := by simp; omega
    have HE := Lib.hid (show chkF ⟨neg, num, den⟩ = 3 from if_pos (.inr hB))
    go_enter Try.func31, Try.ntmps31
    go_wp2_with fail
    go_ret
    exact ⟨ret_i64 HE.out.symm, Blw.is (by repeat (first | exact Blw.refl _ | apply Blw.ext | apply Blw.alloc | apply Blw.drewN | apply Blw.drew | refine Blw.setCell ?_ _ _ (by simp)))⟩
  have hAB : ¬ (2048 < num.length ∨ 2048 < den.length) := by omega
  have f1 : decide ((2048 : Int) < (num.length : Int)) = false := by simp; omega
  have f2 : decide ((2048 : Int) < (den.length : Int)) = false := by simp; omega
  have K1 := fun (W : World) (hb : Blw w W) => refTrimmed_any a num c W (an.blw hb) (by omega)
  have K2 := fun (W : World) (hb : Blw w W) => refTrimmed_any b den d W (ad.blw hb) (by omega)
  by_cases hC : num.getLast? = some 0
  · have HE := Lib.hid (show chkF ⟨neg, num, den⟩ = 11 by unfold chkF; rw [if_neg hAB, if_pos (.inl hC)])
    rw [decide_eq_false (show ¬ ¬ num.getLast? = some 0 from fun k => k hC)] at K1
    have H1 := Lib.hid K1
    clear K1 K2 hC hAB an ad
    go_enter Try.func31, Try.ntmps31
    go_wp2_with (go_at_call 41; (with_reducible refine Calls.mono (H1.out _ (by repeat (first | exact Blw.refl _ | apply Blw.ext | apply Blw.alloc | apply Blw.drewN | apply Blw.drew | refine Blw.setCell ?_ _ _ (by simp)))) ?_); rintro e w' ⟨rfl, rfl⟩)
    go_ret
    exact ⟨ret_i64 HE.out.symm, Blw.is (by repeat (first | exact Blw.refl _ | apply Blw.ext | apply Blw.alloc | apply Blw.drewN | apply Blw.drew | refine Blw.setCell ?_ _ _ (by simp)))⟩
  rw [decide_eq_true hC] at K1
  have H1 := Lib.hid K1
  clear K1
  by_cases hD : den.getLast? = some 0
  · have HE := Lib.hid (show chkF ⟨neg, num, den⟩ = 11 by unfold chkF; rw [if_neg hAB, if_pos (.inr (.inl hD))])
    rw [decide_eq_false (show ¬ ¬ den.getLast? = some 0 from fun k => k hD)] at K2
    have H2 := Lib.hid K2
    clear K2 hC hD hAB an ad
    go_enter Try.func31, Try.ntmps31
    go_wp2_with (go_at_call 41; (first | (with_reducible refine Calls.mono (H1.out _ (by repeat (first | exact Blw.refl _ | apply Blw.ext | apply Blw.alloc | apply Blw.drewN | apply Blw.drew | refine Blw.setCell ?_ _ _ (by simp)))) ?_) | (with_reducible refine Calls.mono (H2.out _ (by repeat (first | exact Blw.refl _ | apply Blw.ext | apply Blw.alloc | apply Blw.drewN | apply Blw.drew | refine Blw.setCell ?_ _ _ (by simp)))) ?_)); rintro e w' ⟨rfl, rfl⟩)
    go_ret
    exact ⟨ret_i64 HE.out.symm, Blw.is (by repeat (first | exact Blw.refl _ | apply Blw.ext | apply Blw.alloc | apply Blw.drewN | apply Blw.drew | refine Blw.setCell ?_ _ _ (by simp)))⟩
  rw [decide_eq_true hD] at K2
  have H2 := Lib.hid K2
  clear K2
  by_cases hE : den.length = 0
  · have HE := Lib.hid (show chkF ⟨neg, num, den⟩ = 11 by unfold chkF; rw [if_neg hAB, if_pos (.inr (.inr (.inl hE)))])
    have q1 : ((den.length : Int) == 0) = true := by rw [hE]; rfl
    clear hE hC hD hAB an ad
    go_enter Try.func31, Try.ntmps31
    go_wp2_with (go_at_call 41; (first | (with_reducible refine Calls.mono (H1.out _ (by repeat (first | exact Blw.refl _ | apply Blw.ext | apply Blw.alloc | apply Blw.drewN | apply Blw.drew | refine Blw.setCell ?_ _ _ (by simp)))) ?_) | (with_reducible refine Calls.mono (H2.out _ (by repeat (first | exact Blw.refl _ | apply Blw.ext | apply Blw.alloc | apply Blw.drewN | apply Blw.drew | refine Blw.setCell ?_ _ _ (by simp)))) ?_)); rintro e w' ⟨rfl, rfl⟩)
    go_ret
    exact ⟨ret_i64 HE.out.symm, Blw.is (by repeat (first | exact Blw.refl _ | apply Blw.ext | apply Blw.alloc | apply Blw.drewN | apply Blw.drew | refine Blw.setCell ?_ _ _ (by simp)))⟩
  have q1 : ((den.length : Int) == 0) = false := beq_false_of_ne (by omega)
  by_cases hF : num.length = 0 ∧ neg = true
  · have HE := Lib.hid (show chkF ⟨neg, num, den⟩ = 11 by unfold chkF; rw [if_neg hAB, if_pos (.inr (.inr (.inr (.inl hF))))])
    have q2 : ((num.length : Int) == 0) = true := by rw [hF.1]; rfl
    obtain ⟨-, rfl⟩ := hF
    clear hE hC hD hAB an ad
    go_enter Try.func31, Try.ntmps31
    go_wp2_with (go_at_call 41; (first | (with_reducible refine Calls.mono (H1.out _ (by repeat (first | exact Blw.refl _ | apply Blw.ext | apply Blw.alloc | apply Blw.drewN | apply Blw.drew | refine Blw.setCell ?_ _ _ (by simp)))) ?_) | (with_reducible refine Calls.mono (H2.out _ (by repeat (first | exact Blw.refl _ | apply Blw.ext | apply Blw.alloc | apply Blw.drewN | apply Blw.drew | refine Blw.setCell ?_ _ _ (by simp)))) ?_)); rintro e w' ⟨rfl, rfl⟩)
    go_ret
    exact ⟨ret_i64 HE.out.symm, Blw.is (by repeat (first | exact Blw.refl _ | apply Blw.ext | apply Blw.alloc | apply Blw.drewN | apply Blw.drew | refine Blw.setCell ?_ _ _ (by simp)))⟩
  have GC := fun (W : World) (hb : Blw w W) => refGcd_ok a b num den c d W (an.blw hb) (ad.blw hb) cn dn cm dm (fun e => (na e).2) (fun e => (nb e).2) wn wd hC hD (by omega) (by omega)
  obtain ⟨G, hG⟩ : ∃ G, Nat.gcd (W.val num) (W.val den) = G := ⟨_, rfl⟩
  rw [hG] at GC
  have HG := Lib.hid GC
  have HE := Lib.hid (show chkF ⟨neg, num, den⟩ = if G = 1 then 0 else 11 by
    unfold chkF
    rw [if_neg hAB]
    by_cases h1 : G = 1
    · rw [if_pos h1, if_neg]
      rintro (k | k | k | k | k)
      · exact hC k
      · exact hD k
      · exact hE k
      · exact hF k
      · exact k (hG.trans h1)
    · rw [if_neg h1, if_pos (.inr (.inr (.inr (.inr (fun k => h1 (hG.symm.trans k))))))])
  have hcase : (((num.length : Int) == 0) = true ∧ neg = false) ∨ ((num.length : Int) == 0) = false := by
    by_cases h0 : num.length = 0
    · left
      refine ⟨by rw [h0]; rfl, ?_⟩
      cases hn : neg
      · rfl
      · exact absurd ⟨h0, hn⟩ hF
    · right; exact beq_false_of_ne (by omega)
  have G8 : Hid ((W.toW G).length ≤ 2048 ∨ G = 0 ∨ True) := .inr (.inr trivial)
  clear G8
  have hgl := gcd_len wn wd (show num.length ≤ 8192 by omega) (show den.length ≤ 8192 by omega)
  rw [hG] at hgl
  have HGL := Lib.hid hgl
  clear GC hG hF hE hC hD hAB an ad hgl
  go_enter Try.func31, Try.ntmps31
  rcases hcase with ⟨q2, rfl⟩ | q2
  all_goals
    go_wp2_with (go_at_call 41; (first | (with_reducible refine Calls.mono (H1.out _ (by repeat (first | exact Blw.refl _ | apply Blw.ext | apply Blw.alloc | apply Blw.drewN | apply Blw.drew | refine Blw.setCell ?_ _ _ (by simp)))) ?_) | (with_reducible refine Calls.mono (H2.out _ (by repeat (first | exact Blw.refl _ | apply Blw.ext | apply Blw.alloc | apply Blw.drewN | apply Blw.drew | refine Blw.setCell ?_ _ _ (by simp)))) ?_)); rintro e w' ⟨rfl, rfl⟩)
    refine Calls.mono (HG.out _ (by repeat (first | exact Blw.refl _ | apply Blw.ext | apply Blw.alloc | apply Blw.drewN | apply Blw.drew | refine Blw.setCell ?_ _ _ (by simp)))) ?_
    rintro e w2 ⟨a3, c3, rfl, hb3, o3⟩
    have A3 := own_read o3
    have hb2 : Blw w w2 := ((Blw.refl w).alloc _).trans hb3
    clear o3 hb3 HG H1 H2
    go_wp2_with fail
    refine Calls.mono (refOne_any w2) ?_
    rintro e w3 ⟨rfl, rfl⟩
    have hsm : Calls Try.prog 43 #[.slice a3 (W.toW G).length c3, .slice (some ⟨w2.heap.size, 0, none⟩) 1 1] (w2.alloc (.cells (u32s [1]).toArray 54 (0, 0))) fun e w' => e = .returned (.bool (W.toW G == [1])) ∧ ∃ x, w' = (w2.alloc (.cells (u32s [1]).toArray 54 (0, 0))).ext x := ref03Same_any a3 (some ⟨w2.heap.size, 0, none⟩) (W.toW G) [1] c3 1 (w2.alloc (.cells (u32s [1]).toArray 54 (0, 0))) (A3.alloc _) (own_read (own_lit w2 [1] (by decide))) (by have := HGL.out; omega) (by decide)
    have hW1 : W.toW G = [1] ↔ G = 1 := ⟨fun e => by have := W.val_toW G; rw [e] at this; exact this.symm, fun e => by rw [e, W.toW_pos (by decide)]; simp [W.toW_zero]⟩
    have HSM := Lib.hid hsm
    clear hsm A3 HGL
    by_cases hg1 : G = 1
    · rw [if_pos hg1] at HE
      have hb : (W.toW G == [1]) = true := by rw [hW1.2 hg1]; rfl
      rw [hb] at HSM
      clear hg1 hb hW1
      go_wp2_with fail
      refine Calls.mono HSM.out ?_
      rintro e w4 ⟨rfl, x4, rfl⟩
      go_wp2
      go_ret
      exact ⟨ret_i64 HE.out.symm, Blw.is ((hb2.alloc _).ext _)⟩
    · rw [if_neg hg1] at HE
      have hb : (W.toW G == [1]) = false := by
        rw [beq_eq_false_iff_ne]
        exact fun e => hg1 (hW1.1 e)
      rw [hb] at HSM
      clear hg1 hb hW1
      go_wp2_with fail
      refine Calls.mono HSM.out ?_
      rintro e w4 ⟨rfl, x4, rfl⟩
      go_wp2
      go_ret
      exact ⟨ret_i64 HE.out.symm, Blw.is ((hb2.alloc _).ext _)⟩

set_option maxHeartbeats 1000000 in
theorem refBoth3_any (r s : Fr) (a : Option Addr) (c : Nat) (b : Option Addr) (d : Nat) (a' : Option Addr) (c' : Nat) (b' : Option Addr) (d' : Nat) (w : World) (h : FrA w r a c b d) (k : FrA w s a' c' b' d') :
    Calls Try.prog 45 #[frV r a c b d, frV s a' c' b' d'] w fun e w' => e = .returned (.int .i64 (chk2 r s)) ∧ ∃ x, w' = w.ext x := by
  have K1 := fun (W : World) (hb : Blw w W) => refCheck3_any r a c b d W (h.blw hb)
  have K2 := fun (W : World) (hb : Blw w W) => refCheck3_any s a' c' b' d' W (k.blw hb)
  have he : chk2 r s = if chkF r = 0 then chkF s else chkF r := rfl
  generalize chkF r = u at *
  generalize chkF s = v at *
  have HE := Lib.hid he
  clear he
  have H1 := Lib.hid K1
  have H2 := Lib.hid K2
  clear K1 K2 h k
  by_cases hu : u = 0
  · subst hu
    rw [if_pos rfl] at HE
    go_enter Try.func45, Try.ntmps45
    go_wp2_with fail
    refine Calls.mono (H1.out _ (by repeat (first | exact Blw.refl _ | apply Blw.ext | apply Blw.alloc | apply Blw.drewN | apply Blw.drew | refine Blw.setCell ?_ _ _ (by simp)))) ?_
    rintro e w1 ⟨rfl, x1, rfl⟩
    go_wp2_with fail
    refine Calls.mono (H2.out _ (by repeat (first | exact Blw.refl _ | apply Blw.ext | apply Blw.alloc | apply Blw.drewN | apply Blw.drew | refine Blw.setCell ?_ _ _ (by simp)))) ?_
    rintro e w1 ⟨rfl, x2, rfl⟩
    go_wp2
    go_ret
    exact ⟨ret_i64 HE.out.symm, Blw.is (by repeat (first | exact Blw.refl _ | apply Blw.ext | apply Blw.alloc | apply Blw.drewN | apply Blw.drew | refine Blw.setCell ?_ _ _ (by simp)))⟩
  · rw [if_neg hu] at HE
    have q : (u == 0) = false := by simpa using hu
    go_enter Try.func45, Try.ntmps45
    go_wp2_with fail
    refine Calls.mono (H1.out _ (by repeat (first | exact Blw.refl _ | apply Blw.ext | apply Blw.alloc | apply Blw.drewN | apply Blw.drew | refine Blw.setCell ?_ _ _ (by simp)))) ?_
    rintro e w1 ⟨rfl, x1, rfl⟩
    go_wp2
    go_ret
    exact ⟨ret_i64 HE.out.symm, Blw.is (by repeat (first | exact Blw.refl _ | apply Blw.ext | apply Blw.alloc | apply Blw.drewN | apply Blw.drew | refine Blw.setCell ?_ _ _ (by simp)))⟩
end Go.Proofs.Ytigkfdoeneemeab
/- The walk of slackwaterref03.Signed. -/
namespace Go.Proofs.Ytigkfdoeneemeab
open Go.RowKit

/-- Two whole numbers with their signs, added. -/
def sgnF (s : Bool) (X : Nat) (t : Bool) (Y : Nat) : Bool × Nat := if s = t then (s, X + Y) else if X < Y then (t, Y - X) else (s && decide (0 < X - Y), X - Y)

/-- A sign and a number of the call's own. -/
def RetSg (w : World) (z : Bool × Nat) (e : Ending) (w' : World) : Prop :=
  ∃ (a : Option Addr) (c : Nat), e = .returned (.tuple #[.bool z.1, .slice a (W.toW z.2).length c]) ∧ Blw w w' ∧ w'.ownsRow w.heap.size 54 1 (.slice a (W.toW z.2).length c) (W.toW z.2).length (u32s (W.toW z.2))

set_option maxRecDepth 100000 in
set_option maxHeartbeats 2000000 in
theorem refSigned_any (s t : Bool) (X Y : Nat) (p1 : Option Addr) (q1 : Nat) (p2 : Option Addr) (q2 : Nat) (w : World) (h : Arr w p1 (u32s (W.toW X))) (k : Arr w p2 (u32s (W.toW Y))) (hl : (W.toW X).length ≤ 8191) (hm : (W.toW Y).length ≤ 8191) :
    Calls Try.prog 59 #[.bool s, .slice p1 (W.toW X).length q1, .bool t, .slice p2 (W.toW Y).length q2] w (RetSg w (sgnF s X t Y)) := by
  have hadd := refAdd_ok p1 p2 (W.toW X) (W.toW Y) q1 q2 w h k (W.wf_toW X) (W.wf_toW Y) (W.nrm_toW X) (W.nrm_toW Y) hl hm
  have hcmp := refCompare_any p1 p2 (W.toW X) (W.toW Y) q1 q2 w h k (W.wf_toW X) (W.wf_toW Y) (by omega) (by omega)
  have hsub1 := fun (hle : W.val (W.toW Y) ≤ W.val (W.toW X)) => refSub_ok p1 p2 (W.toW X) (W.toW Y) q1 q2 w h k (W.wf_toW X) (W.wf_toW Y) (W.nrm_toW X) (W.nrm_toW Y) (by omega) (by omega) hle
  have hsub2 := fun (hle : W.val (W.toW X) ≤ W.val (W.toW Y)) => refSub_ok p2 p1 (W.toW Y) (W.toW X) q2 q1 w k h (W.wf_toW Y) (W.wf_toW X) (W.nrm_toW Y) (W.nrm_toW X) (by omega) (by omega) hle
  simp only [W.val_toW] at hadd hcmp hsub1 hsub2
  by_cases hst : s = t
  · subst hst
    have HE : Hid (sgnF s X s Y = (s, X + Y)) := by show _ = _; unfold sgnF; rw [if_pos rfl]
    have HA := Lib.hid hadd
    have d1 : (s == s) = true := by simp
    clear hadd hcmp hsub1 hsub2 h k
    go_enter Try.func59, Try.ntmps59
    go_wp2_with fail
    refine Calls.mono HA.out ?_
    rintro e w1 ⟨a1, c1, rfl, hb, o1⟩
    go_wp2
    go_ret2
    rw [HE.out]
    exact ⟨a1, c1, rfl, hb, o1⟩
  · have d1 : (s == t) = false := by simpa using hst
    by_cases hlt : X < Y
    · have HE : Hid (sgnF s X t Y = (t, Y - X)) := by show _ = _; unfold sgnF; rw [if_neg hst, if_pos hlt]
      have d2 : decide (W.cmpN X Y < 0) = true := by rw [cmp_lt]; simpa using hlt
      have HS := Lib.hid (hsub2 (by omega))
      have HC := Lib.hid hcmp
      clear hadd hcmp hsub1 hsub2 h k hst hlt
      go_enter Try.func59, Try.ntmps59
      go_wp2_with fail
      refine Calls.mono HC.out ?_
      rintro e w' ⟨rfl, rfl⟩
      go_wp2_with fail
      refine Calls.mono HS.out ?_
      rintro e w1 ⟨a1, c1, rfl, hb, o1⟩
      go_wp2
      go_ret2
      rw [HE.out]
      exact ⟨a1, c1, rfl, hb, o1⟩
    · have HE : Hid (sgnF s X t Y = (s && decide (0 < X - Y), X - Y)) := by show _ = _; unfold sgnF; rw [if_neg hst, if_neg hlt]
      have d2 : decide (W.cmpN X Y < 0) = false := by rw [cmp_lt]; simpa using hlt
      have HS := Lib.hid (hsub1 (by omega))
      have HC := Lib.hid hcmp
      have hz : decide (0 < X - Y) = decide (0 < (W.toW (X - Y)).length) := by
        by_cases h0 : X - Y = 0
        · rw [h0, W.toW_zero]; rfl
        · rw [decide_eq_true (by omega), decide_eq_true]
          exact List.length_pos_iff.2 (W.toW_ne h0)
      rw [hz] at HE
      have HL := sub_len (l := W.toW X) (m := W.toW Y) (W.wf_toW X) (by omega)
      rw [W.val_toW, W.val_toW] at HL
      generalize X - Y = Z at *
      clear hadd hcmp hsub1 hsub2 h k hst hlt hz
      cases s
      all_goals
        go_enter Try.func59, Try.ntmps59
        go_wp2_with fail
        refine Calls.mono HC.out ?_
        rintro e w' ⟨rfl, rfl⟩
        go_wp2_with fail
        refine Calls.mono HS.out ?_
        rintro e w1 ⟨a1, c1, rfl, hb, o1⟩
        go_wp2
        go_ret2
        rw [HE.out]
        exact ⟨a1, c1, rfl, hb, o1⟩
end Go.Proofs.Ytigkfdoeneemeab
/- Fractions made: lowest, size, Small, copied, turned, Neg, walked. -/
namespace Go.Proofs.Ytigkfdoeneemeab
open Go.RowKit

/-- A fraction of the call's own, and an error. -/
def RetFr (w : World) (r : Fr) (er : Int) (e : Ending) (w' : World) : Prop :=
  ∃ (a : Option Addr) (c : Nat) (b : Option Addr) (d : Nat), e = .returned (.tuple #[frV r a c b d, .int .i64 er]) ∧ Blw w w' ∧ w'.ownsRow w.heap.size 54 1 (.slice a r.num.length c) r.num.length (u32s r.num) ∧ w'.ownsRow w.heap.size 54 1 (.slice b r.den.length d) r.den.length (u32s r.den)
theorem FrA.own {w : World} {B : Nat} {r : Fr} {a : Option Addr} {c : Nat} {b : Option Addr} {d : Nat} (h : w.ownsRow B 54 1 (.slice a r.num.length c) r.num.length (u32s r.num)) (k : w.ownsRow B 54 1 (.slice b r.den.length d) r.den.length (u32s r.den)) (wn : W.WF r.num) (wd : W.WF r.den) : FrA w r a c b d := by
  obtain ⟨a', c', e, h1, h2, h3, h4, h5⟩ := own_arr h
  cases e
  obtain ⟨b', d', e, k1, k2, k3, k4, k5⟩ := own_arr k
  cases e
  exact ⟨h1, k1, h3, h4, k3, k4, h5, k5, wn, wd⟩

/-- A block of three cells, written anew. -/
theorem three {w : World} {g : Nat} {v0 v1 v2 : Value} {t : TypeId} (h : w.heap[g]? = some (.cells #[v0, v1, v2] t (0, 0))) (u0 u1 u2 : Value) :
    (∀ i, w.frozen? ⟨g, i, none⟩ = false) ∧ w.cell? ⟨g, 0, none⟩ = some v0 ∧ w.cell? ⟨g, 1, none⟩ = some v1 ∧ w.cell? ⟨g, 2, none⟩ = some v2 ∧
    (w.setCell ⟨g, 0, none⟩ u0).cell? ⟨g, 0, none⟩ = some u0 ∧ ((w.setCell ⟨g, 0, none⟩ u0).setCell ⟨g, 1, none⟩ u1).cell? ⟨g, 1, none⟩ = some u1 ∧ (((w.setCell ⟨g, 0, none⟩ u0).setCell ⟨g, 1, none⟩ u1).setCell ⟨g, 2, none⟩ u2).cell? ⟨g, 2, none⟩ = some u2 :=
  ⟨fun i => frozen_of_row w g i _ _ h, (cell_of_row w g 0 _ _ _ h).trans rfl, (cell_of_row w g 1 _ _ _ h).trans rfl, (cell_of_row w g 2 _ _ _ h).trans rfl, (cell_of_row _ g 0 _ _ _ (at_set 0 u0 h)).trans (by simp), (cell_of_row _ g 1 _ _ _ (at_set 1 u1 (at_set 0 u0 h))).trans (by simp), (cell_of_row _ g 2 _ _ _ (at_set 2 u2 (at_set 1 u1 (at_set 0 u0 h)))).trans (by simp)⟩
theorem blw_three {w w' : World} {g : Nat} (h : Blw w w') (hg : w.heap.size ≤ g) (u0 u1 u2 : Value) : Blw w (((w'.setCell ⟨g, 0, none⟩ u0).setCell ⟨g, 1, none⟩ u1).setCell ⟨g, 2, none⟩ u2) :=
  ((h.setCell _ _ hg).setCell _ _ hg).setCell _ _ hg
theorem own_three {w : World} {B g : Nat} {e : TypeId} {size n : Nat} {v : Value} {cs : List Value} (h : w.ownsRow B e size v n cs) (hg : g < B) (u0 u1 u2 : Value) : (((w.setCell ⟨g, 0, none⟩ u0).setCell ⟨g, 1, none⟩ u1).setCell ⟨g, 2, none⟩ u2).ownsRow B e size v n cs :=
  KeptO.own (O := fun k => k = g) (((KeptO.setCell (KeptO.refl (O := fun k => k = g) w) ⟨g, 0, none⟩ u0 (.inl rfl)).setCell ⟨g, 1, none⟩ u1 (.inl rfl)).setCell ⟨g, 2, none⟩ u2 (.inl rfl)) h (fun k hk e => by have := (World.ownsRow.lt h k hk).1; omega)

theorem pw_mono_any (a b : Nat) (h : a ≤ b) : W.pw a ≤ W.pw b := Nat.pow_le_pow_right (by decide) (by first | exact h | omega)
theorem u64_lt_pw {x : Nat} (h : x < 18446744073709551616) : x < W.pw 2048 :=
  Nat.lt_of_lt_of_le (show x < W.pw 2 by have : W.pw 2 = 18446744073709551616 := by decide
                                         omega) (pw_mono_any 2 2048 (by decide))

/-- n over d in its one form. -/
def smallF (n d : Int) : Fr :=
  ⟨(decide (n < 0) != decide (d < 0)) && decide (0 < (W.toW (n.natAbs / Nat.gcd n.natAbs d.natAbs)).length), W.toW (n.natAbs / Nat.gcd n.natAbs d.natAbs), W.toW (d.natAbs / Nat.gcd n.natAbs d.natAbs)⟩

theorem smallF_same {n d : Int} (h : decide (n < 0) = decide (d < 0)) : smallF n d = ⟨false, W.toW (n.natAbs / Nat.gcd n.natAbs d.natAbs), W.toW (d.natAbs / Nat.gcd n.natAbs d.natAbs)⟩ := by
  unfold smallF; rw [h]; simp
theorem smallF_diff {n d : Int} (h : decide (n < 0) = !decide (d < 0)) : smallF n d = ⟨decide (0 < (W.toW (n.natAbs / Nat.gcd n.natAbs d.natAbs)).length), W.toW (n.natAbs / Nat.gcd n.natAbs d.natAbs), W.toW (d.natAbs / Nat.gcd n.natAbs d.natAbs)⟩ := by
  unfold smallF; rw [h]; simp

end Go.Proofs.Ytigkfdoeneemeab
/- Lists of fractions, and of waters, as cells. -/
namespace Go.Proofs.Ytigkfdoeneemeab
open Go.RowKit

theorem cells_at {α : Type} (f : α → List Value) (n : Nat) (hf : ∀ x, (f x).length = n) (l : List α) (k j : Nat) (hk : k < l.length) (hj : j < n) : (l.flatMap f)[k * n + j]? = (f l[k])[j]? := by
  induction l generalizing k with
  | nil => simp at hk
  | cons a l ih =>
    rw [List.flatMap_cons]
    cases k with
    | zero =>
      rw [Nat.zero_mul, Nat.zero_add, List.getElem?_append_left (by rw [hf]; exact hj)]
      rfl
    | succ k =>
      have h := ih k (by simpa using hk)
      rw [List.getElem?_append_right (by rw [hf, Nat.succ_mul]; omega), hf, show (k + 1) * n + j - n = k * n + j by rw [Nat.succ_mul]; omega, h]
      rfl
theorem cells_len {α : Type} (f : α → List Value) (n : Nat) (hf : ∀ x, (f x).length = n) (l : List α) : (l.flatMap f).length = l.length * n := by
  induction l with
  | nil => simp
  | cons a l ih => rw [List.flatMap_cons, List.length_append, ih, hf, List.length_cons, Nat.succ_mul]; omega
/-- The cells of the element at a place. -/
theorem cells_arr {α : Type} (f : α → List Value) (n : Nat) (hf : ∀ x, (f x).length = n) (hn : 0 < n) {w : World} {A : Option Addr} {l : List α} (h : Arr w A (l.flatMap f)) {k : Nat} (hk : k < l.length) :
    ∃ (x : α) (b o : Nat), l[k]? = some x ∧ x ∈ l ∧ A = some ⟨b, o, none⟩ ∧ b < w.heap.size ∧ ∀ j, j < n → w.cell? ⟨b, o + k * n + j, none⟩ = (f x)[j]? := by
  have hl := cells_len f n hf l
  rcases h with h | ⟨b, o, e, hb, hc⟩
  · exfalso
    rw [h] at hl
    have := Nat.mul_pos (Nat.lt_of_le_of_lt (Nat.zero_le k) hk) hn
    simp at hl
    omega
  · refine ⟨l[k], b, o, List.getElem?_eq_getElem hk, List.getElem_mem hk, e, hb, fun j hj => ?_⟩
    have h2 : k * n + j < l.length * n := by
      have := Nat.mul_le_mul_right n (show k + 1 ≤ l.length from hk)
      rw [Nat.succ_mul] at this
      omega
    rw [Nat.add_assoc, hc _ (by rw [hl]; exact h2), cells_at f n hf l k j hk hj]

/-- A fraction in a list: its words and where they lie. -/
structure FL where
  r : Fr
  a : Option Addr
  c : Nat
  b : Option Addr
  d : Nat
def FL.cells (x : FL) : List Value := [.bool x.r.neg, .slice x.a x.r.num.length x.c, .slice x.b x.r.den.length x.d]
abbrev fls (l : List FL) : List Value := l.flatMap FL.cells
def FL.In (w : World) (x : FL) : Prop := FrA w x.r x.a x.c x.b x.d
theorem FL.In.blw {w w' : World} {x : FL} (h : FL.In w x) (k : Blw w w') : FL.In w' x := FrA.blw h k
theorem fl_at {w : World} {A : Option Addr} {l : List FL} (h : Arr w A (fls l)) {k : Nat} (hk : k < l.length) :
    ∃ (x : FL) (b o : Nat), l[k]? = some x ∧ x ∈ l ∧ A = some ⟨b, o, none⟩ ∧ b < w.heap.size ∧ w.cell? ⟨b, o + k * 3, none⟩ = some (.bool x.r.neg) ∧ w.cell? ⟨b, o + k * 3 + 1, none⟩ = some (.slice x.a x.r.num.length x.c) ∧ w.cell? ⟨b, o + k * 3 + 2, none⟩ = some (.slice x.b x.r.den.length x.d) := by
  obtain ⟨x, b, o, h1, h2, h3, h4, h5⟩ := cells_arr FL.cells 3 (fun _ => rfl) (by decide) h hk
  exact ⟨x, b, o, h1, h2, h3, h4, h5 0 (by decide), h5 1 (by decide), h5 2 (by decide)⟩

/-- A water in a list. -/
structure WL where
  tick : Int
  last : Int
  top : Bool
  h : FL
def WL.cells (x : WL) : List Value := [.int .i64 x.tick, .int .i64 x.last, .bool x.top, .bool x.h.r.neg, .slice x.h.a x.h.r.num.length x.h.c, .slice x.h.b x.h.r.den.length x.h.d]
abbrev wls (l : List WL) : List Value := l.flatMap WL.cells
theorem wl_at {w : World} {A : Option Addr} {l : List WL} (h : Arr w A (wls l)) {k : Nat} (hk : k < l.length) :
    ∃ (x : WL) (b o : Nat), l[k]? = some x ∧ x ∈ l ∧ A = some ⟨b, o, none⟩ ∧ b < w.heap.size ∧ w.cell? ⟨b, o + k * 6, none⟩ = some (.int .i64 x.tick) ∧ w.cell? ⟨b, o + k * 6 + 1, none⟩ = some (.int .i64 x.last) ∧ w.cell? ⟨b, o + k * 6 + 2, none⟩ = some (.bool x.top) ∧
      w.cell? ⟨b, o + k * 6 + 3, none⟩ = some (.bool x.h.r.neg) ∧ w.cell? ⟨b, o + k * 6 + 4, none⟩ = some (.slice x.h.a x.h.r.num.length x.h.c) ∧ w.cell? ⟨b, o + k * 6 + 5, none⟩ = some (.slice x.h.b x.h.r.den.length x.h.d) := by
  obtain ⟨x, b, o, h1, h2, h3, h4, h5⟩ := cells_arr WL.cells 6 (fun _ => rfl) (by decide) h hk
  exact ⟨x, b, o, h1, h2, h3, h4, h5 0 (by decide), h5 1 (by decide), h5 2 (by decide), h5 3 (by decide), h5 4 (by decide), h5 5 (by decide)⟩
def WL.key (x : WL) : Int × Int × Bool × Fr := (x.tick, x.last, x.top, x.h.r)
end Go.Proofs.Ytigkfdoeneemeab
/- The waters of a list, in plain Lean: of the signs of its steps. -/
namespace Go.Proofs.Ytigkfdoeneemeab

/-- The first step from k on that is none of 0. -/
def nextS (f : Nat → Int) (n k : Nat) : Option Nat := if k < n then (if f k = 0 then nextS f n (k + 1) else some k) else none
termination_by n - k

theorem nextS_out {f : Nat → Int} {n k : Nat} (h : ¬ k < n) : nextS f n k = none := by rw [nextS, if_neg h]
theorem nextS_on {f : Nat → Int} {n k : Nat} (h : k < n) (h0 : f k = 0) : nextS f n k = nextS f n (k + 1) := by rw [nextS, if_pos h, if_pos h0]
theorem nextS_at {f : Nat → Int} {n k : Nat} (h : k < n) (h0 : ¬ f k = 0) : nextS f n k = some k := by rw [nextS, if_pos h, if_neg h0]

/-- The water that begins at a place. -/
def wat (f : Nat → Int) (n i : Nat) : Option (Nat × Nat × Bool) :=
  if i = 0 ∨ f i = 0 then none else
  match nextS f n (i + 1) with
  | none => none
  | some k => if f k = f i then none else some (i, k - 1, f i == 1)
def wats (f : Nat → Int) (n i : Nat) : List (Nat × Nat × Bool) := (List.range i).filterMap (wat f n)

theorem wats_one (f : Nat → Int) (n : Nat) : wats f n 1 = [] := by simp [wats, wat]
theorem wats_none {f : Nat → Int} {n i : Nat} (h : wat f n i = none) : wats f n (i + 1) = wats f n i := by
  unfold wats; rw [List.range_succ, List.filterMap_append]; simp [h]
theorem wats_some {f : Nat → Int} {n i : Nat} {x : Nat × Nat × Bool} (h : wat f n i = some x) : wats f n (i + 1) = wats f n i ++ [x] := by
  unfold wats; rw [List.range_succ, List.filterMap_append]; simp [h]
theorem wat_zero {f : Nat → Int} {n i : Nat} (h : f i = 0) : wat f n i = none := by unfold wat; rw [if_pos (.inr h)]
theorem wat_next {f : Nat → Int} {n i : Nat} (hi : 0 < i) (h : ¬ f i = 0) : wat f n i = match nextS f n (i + 1) with | none => none | some k => if f k = f i then none else some (i, k - 1, f i == 1) := by
  unfold wat; rw [if_neg (by omega)]
theorem wat_out {f : Nat → Int} {n i : Nat} (hi : 0 < i) (h : ¬ f i = 0) (k : nextS f n (i + 1) = none) : wat f n i = none := by rw [wat_next hi h, k]
theorem wat_same {f : Nat → Int} {n i j : Nat} (hi : 0 < i) (h : ¬ f i = 0) (k : nextS f n (i + 1) = some j) (e : f j = f i) : wat f n i = none := by rw [wat_next hi h, k]; exact if_pos e
theorem wat_turn {f : Nat → Int} {n i j : Nat} (hi : 0 < i) (h : ¬ f i = 0) (k : nextS f n (i + 1) = some j) (e : ¬ f j = f i) : wat f n i = some (i, j - 1, f i == 1) := by rw [wat_next hi h, k]; exact if_neg e
end Go.Proofs.Ytigkfdoeneemeab
/- The waters of a list that is negated, and of one that is turned round: plain Lean. -/
namespace Go.Proofs.Ytigkfdoeneemeab

/-- Each with the one behind. -/
def cons2 {α : Type} : List α → List (α × α)
  | a :: b :: r => (a, b) :: cons2 (b :: r)
  | _ => []
theorem cons2_snoc {α : Type} (l : List α) (a b : α) : cons2 (l ++ [a, b]) = cons2 (l ++ [a]) ++ [(a, b)] := by
  induction l with
  | nil => rfl
  | cons x t ih =>
    cases t with
    | nil => rfl
    | cons y t => simp only [List.cons_append, cons2] at ih ⊢; rw [ih]
theorem cons2_reverse {α : Type} (l : List α) : cons2 l.reverse = ((cons2 l).map fun p => (p.2, p.1)).reverse := by
  induction l with
  | nil => rfl
  | cons a t ih =>
    cases t with
    | nil => rfl
    | cons b r =>
      have e : (a :: b :: r).reverse = r.reverse ++ [b, a] := by simp
      rw [e, cons2_snoc, show r.reverse ++ [b] = (b :: r).reverse by simp, ih]
      simp [cons2]
theorem cons2_map {α β : Type} (h : α → β) (l : List α) : cons2 (l.map h) = (cons2 l).map fun p => (h p.1, h p.2) := by
  induction l with
  | nil => rfl
  | cons a t ih =>
    cases t with
    | nil => rfl
    | cons b r => simp only [List.map_cons, cons2] at ih ⊢; rw [ih]
theorem cons2_mem {α : Type} (l : List α) : ∀ p ∈ cons2 l, p.1 ∈ l ∧ p.2 ∈ l := by
  induction l with
  | nil => intro p h; cases h
  | cons a t ih =>
    cases t with
    | nil => intro p h; cases h
    | cons b r =>
      intro p h
      simp only [cons2, List.mem_cons] at h
      rcases h with rfl | h
      · simp
      · have := ih p (by simpa [cons2] using h)
        exact ⟨List.mem_cons_of_mem _ this.1, List.mem_cons_of_mem _ this.2⟩

/-- The places from m on where the list goes up or down. -/
def plc (f : Nat → Int) (n m : Nat) : List Nat := (List.range' m (n - m)).filter fun i => f i != 0
def wat2 (f : Nat → Int) (p : Nat × Nat) : Option (Nat × Nat × Bool) := if f p.2 = f p.1 then none else some (p.1, p.2 - 1, f p.1 == 1)

theorem range_step {n m : Nat} (h : m < n) : List.range' m (n - m) = m :: List.range' (m + 1) (n - (m + 1)) := by
  obtain ⟨d, hd⟩ : ∃ d, n - m = d + 1 := ⟨n - m - 1, by omega⟩
  rw [hd, show n - (m + 1) = d by omega]
  rfl
theorem plc_on {f : Nat → Int} {n m : Nat} (h : m < n) (h0 : f m = 0) : plc f n m = plc f n (m + 1) := by
  unfold plc; rw [range_step h, List.filter_cons, if_neg (by simp [h0])]
theorem plc_at {f : Nat → Int} {n m : Nat} (h : m < n) (h0 : ¬ f m = 0) : plc f n m = m :: plc f n (m + 1) := by
  unfold plc; rw [range_step h, List.filter_cons, if_pos (by simp [h0])]
theorem plc_out {f : Nat → Int} {n m : Nat} (h : ¬ m < n) : plc f n m = [] := by
  unfold plc; rw [show n - m = 0 by omega]; rfl

theorem nextS_plc (f : Nat → Int) (n : Nat) : ∀ d m, n - m = d → nextS f n m = (plc f n m).head? := by
  intro d
  induction d with
  | zero => intro m h; rw [nextS_out (by omega), plc_out (by omega)]; rfl
  | succ d ih =>
    intro m h
    by_cases h0 : f m = 0
    · rw [nextS_on (by omega) h0, plc_on (by omega) h0]; exact ih (m + 1) (by omega)
    · rw [nextS_at (by omega) h0, plc_at (by omega) h0]; rfl

theorem wats_from (f : Nat → Int) (n : Nat) : ∀ d m, n - m = d → 0 < m → (List.range' m (n - m)).filterMap (wat f n) = (cons2 (plc f n m)).filterMap (wat2 f) := by
  intro d
  induction d with
  | zero => intro m h _; rw [plc_out (by omega), h]; rfl
  | succ d ih =>
    intro m h hm
    rw [range_step (by omega), List.filterMap_cons]
    by_cases h0 : f m = 0
    · rw [wat_zero h0, plc_on (by omega) h0]; exact ih (m + 1) (by omega) (by omega)
    · have hn := nextS_plc f n d (m + 1) (by omega)
      have hi := ih (m + 1) (by omega) (by omega)
      rw [plc_at (by omega) h0]
      cases hp : plc f n (m + 1) with
      | nil =>
        rw [hp] at hn hi
        rw [wat_out hm h0 hn, hi]; rfl
      | cons k r =>
        rw [hp] at hn hi
        by_cases e : f k = f m
        · rw [wat_same hm h0 hn e, hi]
          simp [cons2, wat2, e]
        · rw [wat_turn hm h0 hn e, hi]
          simp [cons2, wat2, e]

theorem wats_plc (f : Nat → Int) (n : Nat) : wats f n n = (cons2 (plc f n 1)).filterMap (wat2 f) := by
  rw [← wats_from f n (n - 1) 1 rfl (by omega)]
  unfold wats
  cases n with
  | zero => rfl
  | succ n =>
    rw [List.range_eq_range', show n + 1 - 1 = n by omega, List.range'_succ]
    rw [List.filterMap_cons]
    have : wat f (n + 1) 0 = none := by unfold wat; rw [if_pos (.inl rfl)]
    rw [this]

theorem fm_congr {α β : Type} {l : List α} {f g : α → Option β} (h : ∀ x ∈ l, f x = g x) : l.filterMap f = l.filterMap g := by
  induction l with
  | nil => rfl
  | cons a l ih =>
    rw [List.filterMap_cons, List.filterMap_cons, h a (by simp), ih (fun x hx => h x (by simp [hx]))]
/-- Negated: the same waters, tops and bottoms changed about. -/
theorem wats_neg {f g : Nat → Int} {n : Nat} (hf : ∀ i, 0 < i → i < n → f i = -1 ∨ f i = 0 ∨ f i = 1) (hg : ∀ i, 0 < i → i < n → g i = - f i) :
    wats g n n = (wats f n n).map fun p => (p.1, p.2.1, !p.2.2) := by
  have hz : plc g n 1 = plc f n 1 := by
    unfold plc
    apply List.filter_congr
    intro i hi
    simp only [List.mem_range'_1] at hi
    have := hg i (by omega) (by omega)
    rw [this, Bool.eq_iff_iff, bne_iff_ne, bne_iff_ne]
    omega
  rw [wats_plc, wats_plc, hz, List.map_filterMap]
  apply fm_congr
  intro p hp
  obtain ⟨h1, h2⟩ := cons2_mem _ p hp
  simp only [plc, List.mem_filter, List.mem_range'_1, bne_iff_ne] at h1 h2
  have a1 := hf p.1 (by omega) (by omega)
  have a2 := hf p.2 (by omega) (by omega)
  have b1 := hg p.1 (by omega) (by omega)
  have b2 := hg p.2 (by omega) (by omega)
  unfold wat2
  rw [b1, b2]
  by_cases e : f p.2 = f p.1
  · rw [if_pos e, if_pos (by omega)]; rfl
  · rw [if_neg e, if_neg (by omega)]
    simp only [Option.map_some]
    congr 2
    rcases a1 with a | a | a
    · rw [a]; rfl
    · exact absurd a h1.2
    · rw [a]; rfl

theorem range_turn (n : Nat) : ((List.range' 1 (n - 1)).map fun i => n - i).reverse = List.range' 1 (n - 1) := by
  apply List.ext_getElem
  · simp
  · intro i h1 h2
    simp at h1 h2
    simp [List.getElem_reverse]
    omega

theorem plc_round {f g : Nat → Int} {n : Nat} (hg : ∀ i, 0 < i → i < n → g i = - f (n - i)) : plc g n 1 = ((plc f n 1).map fun i => n - i).reverse := by
  unfold plc
  rw [← range_turn n, List.filter_reverse, List.filter_map]
  congr 2
  rw [range_turn n]
  apply List.filter_congr
  intro i hi
  simp only [List.mem_range'_1] at hi
  have h := hg (n - i) (by omega) (by omega)
  rw [show n - (n - i) = i by omega] at h
  show (g (n - i) != 0) = (f i != 0)
  rw [h, Bool.eq_iff_iff, bne_iff_ne, bne_iff_ne]
  omega

/-- Turned round: the same waters, turned round. -/
theorem wats_round {f g : Nat → Int} {n : Nat} (hf : ∀ i, 0 < i → i < n → f i = -1 ∨ f i = 0 ∨ f i = 1) (hg : ∀ i, 0 < i → i < n → g i = - f (n - i)) :
    wats g n n = ((wats f n n).map fun p => (n - 1 - p.2.1, n - 1 - p.1, p.2.2)).reverse := by
  rw [wats_plc, wats_plc, plc_round hg, cons2_reverse, cons2_map, List.filterMap_reverse, List.map_map, List.filterMap_map, List.map_filterMap]
  congr 1
  apply fm_congr
  intro p hp
  obtain ⟨h1, h2⟩ := cons2_mem _ p hp
  simp only [plc, List.mem_filter, List.mem_range'_1, bne_iff_ne] at h1 h2
  have a1 := hf p.1 (by omega) (by omega)
  have a2 := hf p.2 (by omega) (by omega)
  have b1 := hg (n - p.1) (by omega) (by omega)
  have b2 := hg (n - p.2) (by omega) (by omega)
  rw [show n - (n - p.1) = p.1 by omega] at b1
  rw [show n - (n - p.2) = p.2 by omega] at b2
  show wat2 g (n - p.2, n - p.1) = _
  unfold wat2
  simp only [b1, b2]
  by_cases e : f p.2 = f p.1
  · rw [if_pos e, if_pos (by omega)]; rfl
  · rw [if_neg e, if_neg (by omega)]
    simp only [Option.map_some]
    have k1 : n - 1 - (p.2 - 1) = n - p.2 := by omega
    have k2 : n - p.1 - 1 = n - 1 - p.1 := by omega
    have k3 : (-f p.2 == 1) = (f p.1 == 1) := by
      rw [Bool.eq_iff_iff, beq_iff_eq, beq_iff_eq]
      have := h1.2
      have := h2.2
      omega
    rw [k1, k2, k3]
end Go.Proofs.Ytigkfdoeneemeab
/- Fractions copied and negated, walked. -/
namespace Go.Proofs.Ytigkfdoeneemeab
open Go.RowKit

/-- A fraction of the call's own. -/
def RetFr1 (w : World) (r : Fr) (e : Ending) (w' : World) : Prop :=
  ∃ (a : Option Addr) (c : Nat) (b : Option Addr) (d : Nat), e = .returned (frV r a c b d) ∧ Blw w w' ∧ w'.ownsRow w.heap.size 54 1 (.slice a r.num.length c) r.num.length (u32s r.num) ∧ w'.ownsRow w.heap.size 54 1 (.slice b r.den.length d) r.den.length (u32s r.den)

def negF (r : Fr) : Fr := ⟨!r.neg && decide (0 < r.num.length), r.num, r.den⟩
theorem negF_ok {r : Fr} (h : r.Ok) : (negF r).Ok :=
  ⟨h.ln, h.ld, h.nn, h.nd, h.d0, (fun k => by show (!r.neg && decide (0 < r.num.length)) = false; have k : r.num.length = 0 := k; rw [k]; simp), h.g⟩

end Go.Proofs.Ytigkfdoeneemeab
/- The small functions of package water: counted, from, copied, walked. -/
namespace Go.Proofs.Ytigkfdoeneemeab
open Go.RowKit

def cntd (n : Nat) (first : Int) : Int := if 4096 < n then 3 else if first < 0 ∨ 1048576 < first ∨ (0 < n ∧ 1048576 - (n : Int) + 1 < first) then 2 else 0

end Go.Proofs.Ytigkfdoeneemeab
/- The walk of water.copied. -/
namespace Go.Proofs.Ytigkfdoeneemeab
open Go.RowKit

theorem own_past {W1 W9 w2 : World} {B n size : Nat} {e : TypeId} {v : Value} {cs : List Value} {g : Option Nat} (h : W1.ownsRow B e size v n cs) (k : Blw W1 W9) (hg : W9.grownBy w2 g) (hne : ∀ i, v.ownBlock = some i → g ≠ some i) : w2.ownsRow B e size v n cs :=
  KeptO.own (O := fun k => g = some k) (KeptO.grown (KeptO.of_blw k) hg (fun _ hk => .inl hk)) h (fun k hk e => hne k hk e)

/-- A fraction of the call's own, its two lists apart. -/
def RetFr1D (w : World) (r : Fr) (e : Ending) (w' : World) : Prop :=
  ∃ (a : Option Addr) (c : Nat) (b : Option Addr) (d : Nat), e = .returned (frV r a c b d) ∧ Blw w w' ∧ w'.ownsRow w.heap.size 54 1 (.slice a r.num.length c) r.num.length (u32s r.num) ∧ w'.ownsRow w.heap.size 54 1 (.slice b r.den.length d) r.den.length (u32s r.den) ∧
    ∀ i, (Value.slice a r.num.length c).ownBlock = some i → (Value.slice b r.den.length d).ownBlock ≠ some i

end Go.Proofs.Ytigkfdoeneemeab
/- Lists of words that lie apart. -/
namespace Go.Proofs.Ytigkfdoeneemeab
open Go.RowKit

/-- A list of words and where it lies. -/
structure OW where
  a : Option Addr
  c : Nat
  l : List Nat
abbrev OW.val (o : OW) : Value := .slice o.a o.l.length o.c
abbrev ows (os : List OW) : List Value := os.map OW.val
/-- They lie in different blocks. -/
def OW.far (x y : OW) : Prop := ∀ i, x.val.ownBlock = some i → y.val.ownBlock ≠ some i
theorem OW.far.symm {x y : OW} (h : OW.far x y) : OW.far y x := fun i h1 h2 => h i h2 h1
def FL.ows (x : FL) : List OW := [⟨x.a, x.c, x.r.num⟩, ⟨x.b, x.d, x.r.den⟩]
/-- The words of fractions lie apart. -/
def apartF (l : List FL) : Prop := (l.flatMap FL.ows).Pairwise OW.far
theorem apartF_nil : apartF [] := List.Pairwise.nil
theorem apartF_app {l m : List FL} (h : apartF l) (k : apartF m) (hf : ∀ x ∈ l, ∀ y ∈ m, ∀ a ∈ x.ows, ∀ b ∈ y.ows, OW.far a b) : apartF (l ++ m) := by
  unfold apartF at *
  rw [List.flatMap_append, List.pairwise_append]
  refine ⟨h, k, fun a ha b hb => ?_⟩
  obtain ⟨x, hx, ha⟩ := List.mem_flatMap.1 ha
  obtain ⟨y, hy, hb⟩ := List.mem_flatMap.1 hb
  exact hf x hx y hy a ha b hb
theorem apartF_one {x : FL} (h : OW.far ⟨x.a, x.c, x.r.num⟩ ⟨x.b, x.d, x.r.den⟩) : apartF [x] := by
  unfold apartF
  simp only [List.flatMap_cons, List.flatMap_nil, List.append_nil, FL.ows]
  exact List.Pairwise.cons (fun b hb => by rw [List.mem_singleton] at hb; rw [hb]; exact h) (List.Pairwise.cons (fun b hb => by cases hb) List.Pairwise.nil)
/-- A row that was there, and one made later. -/
theorem far_new {w W : World} {B : Nat} {T : TypeId} {s n s2 n2 : Nat} {T2 : TypeId} {cs cs2 : List Value} {x y : OW} (h : w.ownsRow B T s x.val n cs) (k : W.ownsRow w.heap.size T2 s2 y.val n2 cs2) : OW.far x y := fun i h1 h2 => by
  have := (World.ownsRow.lt h i h1).2
  have := (World.ownsRow.lt k i h2).1
  omega
end Go.Proofs.Ytigkfdoeneemeab
/- The walk of water.Of, of heights that may be. -/
namespace Go.Proofs.Ytigkfdoeneemeab
open Go.RowKit

def fl0 : FL := ⟨⟨false, [], []⟩, none, 0, none, 0⟩
def rg (l : List FL) (i : Nat) : Fr := (l.getD i fl0).r
/-- How a height goes from the one ahead. -/
def sg (l : List FL) (i : Nat) : Int := cmpF (rg l i) (rg l (i - 1))
def wkey (l : List FL) (first : Int) (t : Nat × Nat × Bool) : Int × Int × Bool × Fr := (first + t.1, first + t.2.1, t.2.2, rg l t.1)
theorem rg_at {l : List FL} {i : Nat} {x : FL} (h : l[i]? = some x) : rg l i = x.r := by unfold rg; rw [List.getD_eq_getElem?_getD, h]; rfl

/-- The fraction's words lie in memory of the call's own. -/
def OwnFL (B : Nat) (w : World) (x : FL) : Prop :=
  w.ownsRow B 54 1 (.slice x.a x.r.num.length x.c) x.r.num.length (u32s x.r.num) ∧ w.ownsRow B 54 1 (.slice x.b x.r.den.length x.d) x.r.den.length (u32s x.r.den) ∧ W.WF x.r.num ∧ W.WF x.r.den
theorem OwnFL.blw {B : Nat} {w w' : World} {x : FL} (h : OwnFL B w x) (k : Blw w w') : OwnFL B w' x := ⟨ownsRow_blw h.1 k, ownsRow_blw h.2.1 k, h.2.2.1, h.2.2.2⟩
theorem OwnFL.in {B : Nat} {w : World} {x : FL} (h : OwnFL B w x) : FL.In w x := FrA.own h.1 h.2.1 h.2.2.1 h.2.2.2
/-- Rows of elements of different types lie in different blocks. -/
theorem own_types {w : World} {B B2 n n2 size size2 : Nat} {e e2 : TypeId} {v v2 : Value} {cs cs2 : List Value} (h : w.ownsRow B e size v n cs) (k : w.ownsRow B2 e2 size2 v2 n2 cs2) (hne : e ≠ e2) : ∀ i, v.ownBlock = some i → v2.ownBlock ≠ some i := by
  intro i h1 h2
  rcases h.2 with ⟨rfl, _⟩ | ⟨g, c, cur, rfl, _, hh, _⟩
  · cases h1
  · rcases k.2 with ⟨rfl, _⟩ | ⟨g2, c2, cur2, rfl, _, kk, _⟩
    · cases h2
    · simp [Value.ownBlock] at h1 h2
      rw [h1] at hh
      rw [h2, hh] at kk
      simp at kk
      exact hne kk.2
theorem OwnFL.past {B B2 n2 size2 : Nat} {e2 : TypeId} {w w' : World} {v2 : Value} {cs2 : List Value} {x : FL} (h : OwnFL B w x) (k : w.ownsRow B2 e2 size2 v2 n2 cs2) (hne : (54 : TypeId) ≠ e2) (hg : w.grownBy w' v2.ownBlock) : OwnFL B w' x :=
  ⟨own_past h.1 (Blw.refl w) hg (fun i hi => own_types h.1 k hne i hi), own_past h.2.1 (Blw.refl w) hg (fun i hi => own_types h.2.1 k hne i hi), h.2.2.1, h.2.2.2⟩

def OfOut (w : World) (l : List FL) (first : Int) (e : Ending) (w' : World) : Prop :=
  ∃ (out : List WL) (a : Option Addr) (c : Nat), e = .returned (.tuple #[.slice a out.length c, .int .i64 0]) ∧ Blw w w' ∧ w'.ownsRow w.heap.size 106 6 (.slice a out.length c) out.length (wls out) ∧ (∀ x ∈ out, OwnFL w.heap.size w' x.h) ∧
    out.map WL.key = (wats (sg l) l.length l.length).map (wkey l first)
/-- .. and the heights lie apart. -/
def OfOutD (w : World) (l : List FL) (first : Int) (e : Ending) (w' : World) : Prop :=
  ∃ (out : List WL) (a : Option Addr) (c : Nat), e = .returned (.tuple #[.slice a out.length c, .int .i64 0]) ∧ Blw w w' ∧ w'.ownsRow w.heap.size 106 6 (.slice a out.length c) out.length (wls out) ∧ (∀ x ∈ out, OwnFL w.heap.size w' x.h) ∧
    out.map WL.key = (wats (sg l) l.length l.length).map (wkey l first) ∧ apartF (out.map (·.h))
theorem sl_waters : SlT Try.prog 25 106 (.agg #[.int .i64 0, .int .i64 0, .bool false, .bool false, .slice none 0 0, .slice none 0 0]) 6 80 := ⟨Try.underlying25, by kernel_rfl, by kernel_rfl, by decide⟩
theorem cntd_zero {n : Nat} {first : Int} (h : cntd n first = 0) : n ≤ 4096 ∧ 0 ≤ first ∧ first ≤ 1048576 ∧ (0 < n → first + n ≤ 1048577) := by
  unfold cntd at h
  split at h
  · cases h
  · split at h
    · cases h
    · omega

end Go.Proofs.Ytigkfdoeneemeab
/- Fractions compared: as whole numbers, plain Lean. -/
namespace Go.Proofs.Ytigkfdoeneemeab

def cmpI (x y : Int) : Int := if x < y then -1 else if y < x then 1 else 0
theorem cmpI_cases (x y : Int) : cmpI x y = -1 ∨ cmpI x y = 0 ∨ cmpI x y = 1 := by
  unfold cmpI; split
  · simp
  · split <;> simp
theorem cmpI_swap (x y : Int) : cmpI y x = - cmpI x y := by
  unfold cmpI
  rcases Int.lt_trichotomy x y with h | h | h
  · rw [if_neg (by omega), if_pos h, if_pos h]; rfl
  · subst h; simp
  · rw [if_pos h, if_neg (by omega), if_pos h]
theorem cmpI_neg (x y : Int) : cmpI (-x) (-y) = - cmpI x y := by
  rw [← cmpI_swap]
  unfold cmpI
  rcases Int.lt_trichotomy x y with h | h | h
  · rw [if_neg (by omega), if_pos (by omega), if_neg (by omega), if_pos h]
  · subst h; simp
  · rw [if_pos (by omega), if_pos h]
theorem cmpN_int (a b : Nat) : W.cmpN a b = cmpI a b := by
  rcases Nat.lt_trichotomy a b with h | h | h
  · rw [W.cmpN_lt h]; unfold cmpI; rw [if_pos (by omega)]
  · subst h; rw [W.cmpN_eq]; unfold cmpI; simp
  · rw [W.cmpN_gt h]; unfold cmpI; rw [if_neg (by omega), if_pos (by omega)]

/-- The sign's whole number over the line. -/
def Fr.p (r : Fr) : Int := if r.neg = true then -(W.val r.num : Int) else (W.val r.num : Int)
theorem Fr.Ok.den_pos {r : Fr} (h : r.Ok) : 0 < W.val r.den := W.val_pos h.nd (by intro e; have := h.d0; rw [e] at this; simp at this)
theorem Fr.Ok.num_pos {r : Fr} (h : r.Ok) (hn : r.neg = true) : 0 < W.val r.num := W.val_pos h.nn (by
  intro e
  have := h.ns (by rw [e]; rfl)
  rw [hn] at this; cases this)
theorem cmpF_is {r s : Fr} (hr : r.Ok) (hs : s.Ok) : cmpF r s = cmpI (r.p * (W.val s.den : Int)) (s.p * (W.val r.den : Int)) := by
  have q1 := hr.den_pos
  have q2 := hs.den_pos
  have n1 := hr.num_pos
  have n2 := hs.num_pos
  unfold cmpF Fr.p
  obtain ⟨rn, rnum, rden⟩ := r
  obtain ⟨sn, snum, sden⟩ := s
  simp only at q1 q2 n1 n2 ⊢
  generalize W.val rnum = a at *
  generalize W.val rden = b at *
  generalize W.val snum = c at *
  generalize W.val sden = d at *
  clear hr hs
  cases rn <;> cases sn
  · rw [if_neg (by simp), if_neg (by simp), if_neg (by simp), if_neg (by simp), if_neg (by simp), cmpN_int, Int.natCast_mul, Int.natCast_mul]
  · rw [if_neg (by simp), if_neg (by simp), if_pos rfl, if_neg (by simp), if_pos rfl]
    have h1 : 0 < c * b := Nat.mul_pos (n2 rfl) q1
    have e1 : -(c : Int) * (b : Int) = -((c * b : Nat) : Int) := by rw [Int.natCast_mul, Int.neg_mul]
    have e2 : (a : Int) * (d : Int) = ((a * d : Nat) : Int) := by rw [Int.natCast_mul]
    rw [e1, e2]
    unfold cmpI
    rw [if_neg (by omega), if_pos (by omega)]
  · rw [if_neg (by simp), if_pos rfl, if_pos rfl, if_neg (by simp)]
    have h1 : 0 < a * d := Nat.mul_pos (n1 rfl) q2
    have e1 : -(a : Int) * (d : Int) = -((a * d : Nat) : Int) := by rw [Int.natCast_mul, Int.neg_mul]
    have e2 : (c : Int) * (b : Int) = ((c * b : Nat) : Int) := by rw [Int.natCast_mul]
    rw [e1, e2]
    unfold cmpI
    rw [if_pos (by omega)]
  · rw [if_pos ⟨rfl, rfl⟩, if_pos rfl, if_pos rfl, cmpN_int]
    have e1 : -(a : Int) * (d : Int) = -((a * d : Nat) : Int) := by rw [Int.natCast_mul, Int.neg_mul]
    have e2 : -(c : Int) * (b : Int) = -((c * b : Nat) : Int) := by rw [Int.natCast_mul, Int.neg_mul]
    rw [e1, e2, cmpI_neg, ← cmpI_swap]
theorem cmpF_cases {r s : Fr} (hr : r.Ok) (hs : s.Ok) : cmpF r s = -1 ∨ cmpF r s = 0 ∨ cmpF r s = 1 := by rw [cmpF_is hr hs]; exact cmpI_cases _ _
theorem cmpF_swap {r s : Fr} (hr : r.Ok) (hs : s.Ok) : cmpF s r = - cmpF r s := by rw [cmpF_is hr hs, cmpF_is hs hr]; exact cmpI_swap _ _
theorem negF_p {r : Fr} (hr : r.Ok) : (negF r).p = - r.p := by
  unfold Fr.p negF
  simp only
  by_cases h0 : r.num.length = 0
  · have hn := hr.ns h0
    have : r.num = [] := List.eq_nil_of_length_eq_zero h0
    rw [hn, this]; simp [W.val]
  · have hp : decide (0 < r.num.length) = true := by simp; omega
    rw [hp, Bool.and_true]
    cases r.neg <;> simp
theorem cmpF_neg {r s : Fr} (hr : r.Ok) (hs : s.Ok) : cmpF (negF r) (negF s) = - cmpF r s := by
  rw [cmpF_is hr hs, cmpF_is (negF_ok hr) (negF_ok hs), negF_p hr, negF_p hs]
  show cmpI (-r.p * (W.val s.den : Int)) (-s.p * (W.val r.den : Int)) = _
  rw [Int.neg_mul, Int.neg_mul, cmpI_neg]
end Go.Proofs.Ytigkfdoeneemeab
/- The walks of slackwaterref03.Order, Compare. -/
namespace Go.Proofs.Ytigkfdoeneemeab
open Go.RowKit

def ordV (z : Bool × Nat) : Int := if z.2 = 0 then 0 else if z.1 = true then -1 else 1
theorem ordV_cmp {r s : Fr} (hr : r.Ok) (hs : s.Ok) : ordV (sgnF r.neg (W.val r.num * W.val s.den) (!s.neg) (W.val s.num * W.val r.den)) = cmpF r s := by
  have p1 := hr.den_pos
  have p2 := hs.den_pos
  have n1 := hr.num_pos
  have n2 := hs.num_pos
  have X0 : r.neg = true → 0 < W.val r.num * W.val s.den := fun h => Nat.mul_pos (n1 h) p2
  have Y0 : s.neg = true → 0 < W.val s.num * W.val r.den := fun h => Nat.mul_pos (n2 h) p1
  unfold cmpF
  generalize W.val r.num * W.val s.den = X at *
  generalize W.val s.num * W.val r.den = Y at *
  unfold sgnF ordV W.cmpN
  cases hn : r.neg <;> cases hm : s.neg
  · simp only [Bool.not_false, Bool.false_eq_true, if_false, Bool.false_and, false_and]
    by_cases h1 : X < Y
    · simp only [if_pos h1]
      rw [if_neg (by omega)]; rfl
    · simp only [if_neg h1]
      by_cases h2 : Y < X
      · rw [if_neg (by omega), if_pos h2]; rfl
      · rw [if_pos (by omega), if_neg h2]
  · have := Y0 hm
    simp only [Bool.not_true, if_true, Bool.false_eq_true, if_false, false_and]
    rw [if_neg (by omega)]
  · have := X0 hn
    simp only [Bool.not_false, if_true, Bool.false_eq_true, if_false, and_false]
    rw [if_neg (by omega)]
  · simp only [Bool.not_true, Bool.true_eq_false, if_false, if_true, Bool.true_and, and_self]
    by_cases h1 : X < Y
    · simp [if_pos h1, show ¬ (Y - X = 0) by omega, show ¬ Y < X by omega]
    · simp only [if_neg h1]
      by_cases h2 : Y < X
      · rw [if_neg (by omega), if_pos h2, if_pos (by simp; omega)]
      · rw [if_pos (by omega), if_neg h2]

set_option maxRecDepth 100000 in
set_option maxHeartbeats 4000000 in
theorem refOrder_ok (r s : Fr) (a : Option Addr) (c : Nat) (b : Option Addr) (d : Nat) (a' : Option Addr) (c' : Nat) (b' : Option Addr) (d' : Nat) (w : World) (h : FrA w r a c b d) (k : FrA w s a' c' b' d') (hr : r.Ok) (hs : s.Ok) :
    Calls Try.prog 46 #[frV r a c b d, frV s a' c' b' d'] w fun e w' => e = .returned (.int .i64 (cmpF r s)) ∧ ∃ x, w' = w.ext x := by
  have HO := ordV_cmp hr hs
  obtain ⟨S, hS⟩ : ∃ S : World → Prop, S = fun W => w.heap.size + 1 < W.heap.size ∧ Blw w W ∧ W.cell? ⟨w.heap.size, 0, none⟩ = some (.bool r.neg) ∧ W.cell? ⟨w.heap.size, 1, none⟩ = some (.slice a r.num.length c) ∧ W.cell? ⟨w.heap.size, 2, none⟩ = some (.slice b r.den.length d) ∧
      W.cell? ⟨w.heap.size + 1, 0, none⟩ = some (.bool s.neg) ∧ W.cell? ⟨w.heap.size + 1, 1, none⟩ = some (.slice a' s.num.length c') ∧ W.cell? ⟨w.heap.size + 1, 2, none⟩ = some (.slice b' s.den.length d') := ⟨_, rfl⟩
  have KS : ∀ W W' : World, S W → Blw W W' → S W' := by
    subst hS
    rintro W W' ⟨h1, h2, h3, h4, h5, h6, h7, h8⟩ hb
    exact ⟨Nat.lt_of_lt_of_le h1 hb.size, h2.trans hb, (Below.cell hb (by show w.heap.size < _; omega)).trans h3, (Below.cell hb (by show w.heap.size < _; omega)).trans h4, (Below.cell hb (by show w.heap.size < _; omega)).trans h5, (Below.cell hb h1).trans h6, (Below.cell hb h1).trans h7, (Below.cell hb h1).trans h8⟩
  have SB : ∀ W : World, S W → Blw w W := by
    subst hS
    rintro W ⟨h1, h2, -⟩; exact h2
  have HL := hr.len hs
  have L1 : (W.toW (W.val r.num * W.val s.den)).length ≤ 4096 := Nat.le_trans (times_len_le h.wn k.wd) (by have := hr.ln; have := hs.ld; omega)
  have L2 : (W.toW (W.val s.num * W.val r.den)).length ≤ 4096 := Nat.le_trans (times_len_le k.wn h.wd) (by have := hs.ln; have := hr.ld; omega)
  have T1 := Lib.hid (fun (W : World) (hb : S W) => refTimes3_any a b' r.num s.den c d' W (h.an.blw (SB W hb)) (k.ad.blw (SB W hb)) h.wn k.wd hr.nn hs.nd HL.1)
  have T2 := Lib.hid (fun (W : World) (hb : S W) => refTimes3_any a' b s.num r.den c' d W (k.an.blw (SB W hb)) (h.ad.blw (SB W hb)) k.wn h.wd hs.nn hr.nd HL.2.1)
  obtain ⟨X, hX⟩ : ∃ X, X = W.val r.num * W.val s.den := ⟨_, rfl⟩
  obtain ⟨Y, hY⟩ : ∃ Y, Y = W.val s.num * W.val r.den := ⟨_, rfl⟩
  rw [← hX] at T1 HO L1
  rw [← hY] at T2 HO L2
  have SG := Lib.hid (fun (Wd : World) (p1 : Option Addr) (q1 : Nat) (p2 : Option Addr) (q2 : Nat) (h1 : Arr Wd p1 (u32s (W.toW X))) (h2 : Arr Wd p2 (u32s (W.toW Y))) => refSigned_any r.neg (!s.neg) X Y p1 q1 p2 q2 Wd h1 h2 (Nat.le_trans L1 (by omega)) (Nat.le_trans L2 (by omega)))
  generalize cmpF r s = cv at *
  obtain ⟨rn, rnum, rden⟩ := r
  obtain ⟨sn, snum, sden⟩ := s
  simp only at T1 T2 SG HO
  obtain ⟨⟨zn, Z⟩, hz⟩ : ∃ z, z = sgnF rn X (!sn) Y := ⟨_, rfl⟩
  rw [← hz] at SG HO
  have HC := Lib.hid HO
  have HKS := Lib.hid KS
  have HSB := Lib.hid SB
  clear h k hr hs hX hY HL KS SB L1 L2 HO hz
  simp only at hS
  go_enter Try.func46, Try.ntmps46
  go_wp2_with fail
  have hS0 : S (((w.alloc (.cells #[.bool rn, .slice a rnum.length c, .slice b rden.length d] 28 (0, 0))).alloc (.cells #[.bool sn, .slice a' snum.length c', .slice b' sden.length d'] 28 (0, 0)))).drew := by
    rw [hS]
    exact ⟨by simp, (by repeat (first | exact Blw.refl _ | apply Blw.ext | apply Blw.alloc | apply Blw.drewN | apply Blw.drew | refine Blw.setCell ?_ _ _ (by simp))), by go_simp, by go_simp, by go_simp, by go_simp, by go_simp, by go_simp⟩
  subst hS
  go_region_held3 (fun W => w.heap.size + 1 < W.heap.size ∧ Blw w W ∧ W.cell? ⟨w.heap.size, 0, none⟩ = some (.bool rn) ∧ W.cell? ⟨w.heap.size, 1, none⟩ = some (.slice a rnum.length c) ∧ W.cell? ⟨w.heap.size, 2, none⟩ = some (.slice b rden.length d) ∧
      W.cell? ⟨w.heap.size + 1, 0, none⟩ = some (.bool sn) ∧ W.cell? ⟨w.heap.size + 1, 1, none⟩ = some (.slice a' snum.length c') ∧ W.cell? ⟨w.heap.size + 1, 2, none⟩ = some (.slice b' sden.length d')) (first | assumption | go_keep) (first
    | (go_at_call 60; (with_reducible refine Calls.mono (T1.out _ (by assumption)) ?_); rintro e w9 ⟨p1, q1, y1, rfl, rfl, o1, A1, -⟩; have hS1 := HKS.out _ _ (by assumption) (World.blw_ext _ y1))
    | (go_at_call 60; (with_reducible refine Calls.mono (T2.out _ (by assumption)) ?_); rintro e w9 ⟨p2, q2, y2, rfl, rfl, o2, A2, -⟩; have hS2 := HKS.out _ _ (by assumption) (World.blw_ext _ y2))
    | (go_at_call 59; (with_reducible refine Calls.mono (SG.out _ _ _ _ _ ?_ ?_) ?_); (first | exact A1 | exact A1.ext _); (first | exact A2 | exact A2.ext _); rintro e w9 ⟨p3, q3, rfl, b3, o3⟩; have hS3 := HKS.out _ _ (by assumption) b3; have hB3 := HSB.out _ hS3))
  all_goals
    clear T1 T2 SG HKS HSB hS0 hS1 hS2 hS3 o1 o2 A1 A2 o3 b3
    by_cases hZ : Z = 0
    · subst hZ
      have HV := HC.out
      simp only [ordV, if_pos] at HV
      subst HV
      clear HC
      simp only [W.toW_zero, List.length_nil]
      go_wp2
      go_ret
      exact ⟨rfl, Blw.is hB3⟩
    · have HV := HC.out
      simp only [ordV, if_neg hZ] at HV
      have hl0 : 0 < (W.toW Z).length := List.length_pos_iff.2 (W.toW_ne hZ)
      have d1 : (((W.toW Z).length : Int) == 0) = false := beq_false_of_ne (by omega)
      subst HV
      clear HC hZ
      cases zn
      all_goals
        go_wp2
        go_ret
        exact ⟨rfl, Blw.is hB3⟩

set_option maxHeartbeats 1000000 in
theorem refCompare3_bad (r s : Fr) (a : Option Addr) (c : Nat) (b : Option Addr) (d : Nat) (a' : Option Addr) (c' : Nat) (b' : Option Addr) (d' : Nat) (w : World) (h : FrA w r a c b d) (k : FrA w s a' c' b' d') (hu : ¬ chk2 r s = 0) :
    Calls Try.prog 32 #[frV r a c b d, frV s a' c' b' d'] w fun e w' => e = .returned (.tuple #[.int .i64 0, .int .i64 (chk2 r s)]) ∧ ∃ x, w' = w.ext x := by
  have K1 := fun (W : World) (hb : Blw w W) => refBoth3_any r s a c b d a' c' b' d' W (h.blw hb) (k.blw hb)
  generalize chk2 r s = u at *
  have H1 := Lib.hid K1
  have q : (u != 0) = true := by simpa using hu
  clear K1 h k
  go_enter Try.func32, Try.ntmps32
  go_wp2_with fail
  refine Calls.mono (H1.out _ (by repeat (first | exact Blw.refl _ | apply Blw.ext | apply Blw.alloc | apply Blw.drewN | apply Blw.drew | refine Blw.setCell ?_ _ _ (by simp)))) ?_
  rintro e w1 ⟨rfl, x1, rfl⟩
  go_wp2
  go_ret2
  exact ⟨rfl, Blw.is (by repeat (first | exact Blw.refl _ | apply Blw.ext | apply Blw.alloc | apply Blw.drewN | apply Blw.drew | refine Blw.setCell ?_ _ _ (by simp)))⟩
set_option maxHeartbeats 1000000 in
theorem refCompare3_ok (r s : Fr) (a : Option Addr) (c : Nat) (b : Option Addr) (d : Nat) (a' : Option Addr) (c' : Nat) (b' : Option Addr) (d' : Nat) (w : World) (h : FrA w r a c b d) (k : FrA w s a' c' b' d') (hr : r.Ok) (hs : s.Ok) :
    Calls Try.prog 32 #[frV r a c b d, frV s a' c' b' d'] w fun e w' => e = .returned (.tuple #[.int .i64 (cmpF r s), .int .i64 0]) ∧ ∃ x, w' = w.ext x := by
  have K1 := fun (W : World) (hb : Blw w W) => refBoth3_any r s a c b d a' c' b' d' W (h.blw hb) (k.blw hb)
  rw [show chk2 r s = 0 by unfold chk2; rw [chkF_ok hr, if_pos rfl, chkF_ok hs]] at K1
  have H1 := Lib.hid K1
  have H2 := Lib.hid (fun (W : World) (hb : Blw w W) => refOrder_ok r s a c b d a' c' b' d' W (h.blw hb) (k.blw hb) hr hs)
  generalize cmpF r s = cv at *
  clear K1 h k
  go_enter Try.func32, Try.ntmps32
  go_wp2_with fail
  refine Calls.mono (H1.out _ (by repeat (first | exact Blw.refl _ | apply Blw.ext | apply Blw.alloc | apply Blw.drewN | apply Blw.drew | refine Blw.setCell ?_ _ _ (by simp)))) ?_
  rintro e w1 ⟨rfl, x1, rfl⟩
  go_wp2_with fail
  refine Calls.mono (H2.out _ (by repeat (first | exact Blw.refl _ | apply Blw.ext | apply Blw.alloc | apply Blw.drewN | apply Blw.drew | refine Blw.setCell ?_ _ _ (by simp)))) ?_
  rintro e w1 ⟨rfl, x2, rfl⟩
  go_wp2
  go_ret2
  exact ⟨rfl, Blw.is (by repeat (first | exact Blw.refl _ | apply Blw.ext | apply Blw.alloc | apply Blw.drewN | apply Blw.drew | refine Blw.setCell ?_ _ _ (by simp)))⟩
end Go.Proofs.Ytigkfdoeneemeab
/- slackwaterkit's SameWords, SameRatio, walked. -/
namespace Go.Proofs.Ytigkfdoeneemeab
open Go.RowKit

theorem ret_b {a b : Bool} (h : a = b) : Ending.returned (.bool a) = .returned (.bool b) := by rw [h]
def sameR (r s : Fr) : Bool := r.neg == s.neg && (r.num == s.num && r.den == s.den)
theorem sameR_iff {r s : Fr} : sameR r s = true ↔ r = s := by
  obtain ⟨a, b, c⟩ := r
  obtain ⟨d, e, f⟩ := s
  simp [sameR]
theorem sameR_refl (r : Fr) : sameR r r = true := sameR_iff.2 rfl

set_option maxHeartbeats 1600000 in
theorem sameWords_any (a b : Option Addr) (l m : List Nat) (c d : Nat) (w : World) (ha : Arr w a (u32s l)) (hb : Arr w b (u32s m)) (hl : l.length ≤ 1099511627776) (hm : m.length ≤ 1099511627776) :
    Calls Try.prog 40 #[.slice a l.length c, .slice b m.length d] w fun e w' => e = .returned (.bool (l == m)) ∧ ∃ x, w' = w.ext x := by
  by_cases hlm : l.length = m.length
  · have HLM := Lib.hid hlm
    have d1 : ((l.length : Int) != (m.length : Int)) = false := by simp; omega
    have d2 : ((l.length : Int) == (m.length : Int)) = true := by simp; omega
    clear hlm
    go_enter Try.func40, Try.ntmps40
    go_wp2
    clear d1 d2
    go_loopw [5] (fun i wr => ∃ k : Nat, k ≤ l.length ∧ i = .int .i64 k ∧ Blw w wr ∧ Hid (l.take k = m.take k)) (fun i _ => l.length - (intOf i).toNat)
    case atStart => exact ⟨0, Nat.zero_le _, rfl, Blw.refl _, rfl⟩
    case round =>
      obtain ⟨k, hk, rfl, hbw, htk⟩ := hrel
      have hlm := HLM.out
      by_cases hlt : k < l.length
      · obtain ⟨x, b1, o1, hd1, -, hgx, rfl, hb1, hc1⟩ := (ha.blw hbw).elem hlt
        obtain ⟨y, b2, o2, hd2, -, hgy, rfl, hb2, hc2⟩ := (hb.blw hbw).elem (show k < m.length by omega)
        have h0 : (0 : Int) ≤ (k : Int) := by omega
        have h1 : (k : Int) < (l.length : Int) := by omega
        have h2 : (k : Int) < (m.length : Int) := by omega
        have HX : Hid (l[k]? = some x) := hgx.out
        have HY : Hid (m[k]? = some y) := hgy.out
        clear hgx hgy hd1 hd2 hlm
        by_cases hxy : x = y
        · have HT : Hid (l.take (k + 1) = m.take (k + 1)) := by
            show _ = _
            rw [List.take_add_one, List.take_add_one, htk.out, HX.out, HY.out, hxy]
          subst hxy
          clear HX HY
          go_wp2_with fail
          go_quiet (fail)
          go_wp2
          go_roundw
          case rel => exact ⟨k + 1, by omega, by go_num, hbw.trans (by repeat (first | exact Blw.refl _ | apply Blw.ext | apply Blw.alloc | apply Blw.drewN | apply Blw.drew | refine Blw.setCell ?_ _ _ (by simp))), HT⟩
          case measure => simp [intOf]; omega
        · have HF : Hid ((l == m) = false) := by
            show _ = _
            simp only [beq_eq_false_iff_ne, ne_eq]
            intro e
            have := HX.out
            rw [e, HY.out] at this
            exact hxy (by injection this with this; exact this.symm)
          have q1 : ((x : Int) != (y : Int)) = true := by simp; omega
          have q2 : ((x : Int) == (y : Int)) = false := by simp; omega
          clear HX HY htk hxy
          go_wp2_with fail
          go_quiet (fail)
          go_wp2
          go_ret
          exact ⟨ret_b HF.out.symm, Blw.is (hbw.trans (by repeat (first | exact Blw.refl _ | apply Blw.ext | apply Blw.alloc | apply Blw.drewN | apply Blw.drew | refine Blw.setCell ?_ _ _ (by simp))))⟩
      · have HF : Hid ((l == m) = true) := by
          show _ = _
          have := htk.out
          rw [List.take_of_length_le (by omega), List.take_of_length_le (by omega)] at this
          simpa using this
        clear htk hlm
        go_wp2
        go_ret
        exact ⟨ret_b HF.out.symm, Blw.is hbw⟩
  · have HF : Hid ((l == m) = false) := by
      show _ = _
      simp only [beq_eq_false_iff_ne, ne_eq]
      intro e; exact hlm (by rw [e])
    have d1 : ((l.length : Int) != (m.length : Int)) = true := by simp; omega
    have d2 : ((l.length : Int) == (m.length : Int)) = false := by simp; omega
    clear hlm
    go_enter Try.func40, Try.ntmps40
    go_wp2
    go_ret
    exact ⟨ret_b HF.out.symm, Blw.is (Blw.refl _)⟩

end Go.Proofs.Ytigkfdoeneemeab
/- slackwaterkit: words and fractions that are lent, walked. -/
namespace Go.Proofs.Ytigkfdoeneemeab
open Go.RowKit

/-- What stands behind words that are lent. -/
def mkW : List Nat := [2882343476, 2882343477, 2882343478]
theorem mkW_at (k : Nat) (h : k < 3) : mkW[k]? = some (2882343476 + k) ∧ u32s (mkW.take (k + 1)) = u32s (mkW.take k) ++ [.int .u32 ((2882343476 + k : Nat) : Int)] := by
  have : k = 0 ∨ k = 1 ∨ k = 2 := by omega
  rcases this with rfl | rfl | rfl <;> exact ⟨rfl, rfl⟩

set_option maxHeartbeats 400000 in
theorem copyWords_any (a : Option Addr) (l : List Nat) (cap : Nat) (w : World) (h : Arr w a (u32s l)) (hn : a = none → cap = 0) (hl : l.length ≤ 1099511627776) :
    Calls Try.prog 30 #[.slice a l.length cap] w (RetOwn w 54 1 l.length (u32s l)) := by
  have hown : (w.alloc (.cells #[] 54)).ownsRow w.heap.size 54 1 (.slice (some ⟨w.heap.size, 0, none⟩) 0 0) 0 [] := World.ownsRow_made w #[] 0 (Nat.le_refl _) (Nat.zero_le _) rfl
  go_enter Try.func30, Try.ntmps30
  go_wp2_with (at_builtin; refine wpList_app w _ rfl _ _ 26 rfl sl_words ((Blw.refl w).alloc _) _ 0 [] rfl hown a l.length cap (u32s l) rfl hn (h.alloc _) (by simp) (u32s_one _) (by unfold maxLen; omega) (by omega) ?_; intro v' w1 hown1 hb1 _ _)
  go_ret
  exact RetOwn.of (by simpa using hown1) hb1

set_option maxHeartbeats 800000 in
theorem lentWords_any (a : Option Addr) (l : List Nat) (cap : Nat) (w : World) (h : Arr w a (u32s l)) (hn : a = none → cap = 0) (hl : l.length ≤ 1099511627776) :
    Calls Try.prog 16 #[.slice a l.length cap] w (RetOwn w 54 1 (l.length + 3) (u32s (l ++ mkW))) := by
  go_enter Try.func16, Try.ntmps16
  go_wp2_with (go_at_call 30; refine (copyWords_any a l cap _ h hn hl).mono ?_; rintro e w' ⟨a1, c1, x1, rfl, rfl, hown1, -, -⟩)
  go_loopw [3, 4] (fun v i wr => ∃ k : Nat, k ≤ 3 ∧ i = .int .i64 k ∧ wr.ownsRow w.heap.size 54 1 v (l.length + k) (u32s l ++ u32s (mkW.take k)) ∧ Blw w wr) (fun _ i _ => 3 - (intOf i).toNat)
  case atStart => exact ⟨0, by omega, rfl, by simpa using hown1, (Blw.refl w).ext x1⟩
  case round =>
    obtain ⟨k, hk, rfl, hown, hb⟩ := hrel
    clear hown1
    by_cases hlt : k < 3
    · obtain ⟨hf, hf2⟩ := mkW_at k hlt
      have e1 : ((2882343476 : Int) + (k : Int)) % 4294967296 = ((2882343476 + k : Nat) : Int) := by omega
      have e2 : ((k : Int) % 4294967296) = (k : Int) := by omega
      have HF2 := Lib.hid hf2
      clear hf hf2
      go_wp2_with (at_builtin; refine wpList_app w _ rfl _ _ 26 rfl sl_words (hb.alloc _) _ (l.length + k) _ rfl (ownsRow_blw hown ((Blw.refl _).alloc _)) _ 1 1 [.int .u32 ((2882343476 + k : Nat) : Int)] rfl (by simp) (Arr.lit _ _ _ _) (by simp) (by simp [Value.oneCell']) (by unfold maxLen; omega) (by omega) ?_; intro v' w1 hown1 hb1 _ _)
      go_roundw
      case rel => exact ⟨k + 1, by omega, by go_num, by
        rw [HF2.out, ← List.append_assoc]; exact hown1, hb1⟩
      case measure => simp [intOf]; omega
    · have hk3 : k = 3 := by omega
      subst hk3
      go_wp2_with fail
      go_ret
      refine RetOwn.of ?_ hb
      have e : u32s (l ++ mkW) = u32s l ++ u32s (mkW.take 3) := List.map_append (l₁ := l) (l₂ := mkW)
      rw [e]; exact hown

set_option maxHeartbeats 400000 in
theorem keptWords_any (a b : Option Addr) (l : List Nat) (c d : Nat) (w : World) (ha : Arr w a (u32s (l ++ mkW))) (hb : Arr w b (u32s l)) (hn : b = none → d = 0) (hl : l.length ≤ 1000000000) :
    Calls Try.prog 28 #[.slice a (l.length + 3) c, .slice b l.length d] w fun e w' => e = .returned (.bool true) ∧ ∃ x, w' = w.ext x := by
  have H1 := Lib.hid (lentWords_any b l d w hb hn (by omega))
  have hlen : (l ++ mkW).length = l.length + 3 := by simp [mkW]
  have H2 := fun (W : World) (hW : Blw w W) (a3 : Option Addr) (c3 : Nat) (h3 : Arr W a3 (u32s (l ++ mkW))) => sameWords_any a a3 (l ++ mkW) (l ++ mkW) c c3 W (ha.blw hW) h3 (by omega) (by omega)
  rw [hlen] at H2
  have hbe : ((l ++ mkW) == (l ++ mkW)) = true := by simp
  rw [hbe] at H2
  have HH2 := Lib.hid H2
  clear H2 hbe
  go_enter Try.func28, Try.ntmps28
  go_wp2_with fail
  refine Calls.mono H1.out ?_
  rintro e w1 ⟨a3, c3, x3, rfl, rfl, r1, r2, r3⟩
  go_wp2_with fail
  refine Calls.mono (HH2.out _ (World.blw_ext _ _) a3 c3 r2) ?_
  rintro e w2 ⟨rfl, x2, rfl⟩
  go_wp2
  go_ret
  exact ⟨rfl, Blw.is (by repeat (first | exact Blw.refl _ | apply Blw.ext | apply Blw.alloc | apply Blw.drewN | apply Blw.drew | refine Blw.setCell ?_ _ _ (by simp)))⟩

/-- A fraction that is lent: its words have room behind them. -/
def LentFL (B : Nat) (w : World) (x : FL) : Prop :=
  w.ownsRow B 54 1 (.slice x.a (x.r.num.length + 3) x.c) (x.r.num.length + 3) (u32s (x.r.num ++ mkW)) ∧ w.ownsRow B 54 1 (.slice x.b (x.r.den.length + 3) x.d) (x.r.den.length + 3) (u32s (x.r.den ++ mkW)) ∧ W.WF x.r.num ∧ W.WF x.r.den
theorem LentFL.blw {B : Nat} {w w' : World} {x : FL} (h : LentFL B w x) (k : Blw w w') : LentFL B w' x := ⟨ownsRow_blw h.1 k, ownsRow_blw h.2.1 k, h.2.2.1, h.2.2.2⟩
theorem LentFL.mono {B B' : Nat} {w : World} {x : FL} (h : LentFL B w x) (k : B' ≤ B) : LentFL B' w x := ⟨ownsRow_mono h.1 k, ownsRow_mono h.2.1 k, h.2.2.1, h.2.2.2⟩
theorem LentFL.past {B B2 n2 size2 : Nat} {e2 : TypeId} {w w' : World} {v2 : Value} {cs2 : List Value} {x : FL} (h : LentFL B w x) (k : w.ownsRow B2 e2 size2 v2 n2 cs2) (hne : (54 : TypeId) ≠ e2) (hg : w.grownBy w' v2.ownBlock) : LentFL B w' x :=
  ⟨own_past h.1 (Blw.refl w) hg (fun i hi => own_types h.1 k hne i hi), own_past h.2.1 (Blw.refl w) hg (fun i hi => own_types h.2.1 k hne i hi), h.2.2.1, h.2.2.2⟩
theorem LentFL.arrs {B : Nat} {w : World} {x : FL} (h : LentFL B w x) : Arr w x.a (u32s (x.r.num ++ mkW)) ∧ Arr w x.b (u32s (x.r.den ++ mkW)) ∧ x.r.num.length + 3 ≤ x.c ∧ x.r.den.length + 3 ≤ x.d ∧ x.c ≤ 9223372036854775807 ∧ x.d ≤ 9223372036854775807 ∧ ¬ x.a = none ∧ ¬ x.b = none := by
  obtain ⟨h1, h2, -, -⟩ := h
  obtain ⟨_, _, e, k1, k2, k3, k4, k5⟩ := own_arr h1
  cases e
  obtain ⟨_, _, e, j1, j2, j3, j4, j5⟩ := own_arr h2
  cases e
  exact ⟨k1, j1, k3, j3, k4, j4, fun e => by have := (k5 e).1; omega, fun e => by have := (j5 e).1; omega⟩
theorem LentFL.in {B : Nat} {w : World} {x : FL} (h : LentFL B w x) : FL.In w x := by
  obtain ⟨k1, j1, k3, j3, k4, j4, n1, n2⟩ := h.arrs
  exact ⟨arr_pre k1 (List.prefix_append _ _), arr_pre j1 (List.prefix_append _ _), by omega, k4, by omega, j4, fun e => absurd e n1, fun e => absurd e n2, h.2.2.1, h.2.2.2⟩

set_option maxRecDepth 100000 in
set_option maxHeartbeats 4000000 in
theorem lentRatio_any (r : Fr) (a : Option Addr) (c : Nat) (b : Option Addr) (d : Nat) (w : World) (h : FrA w r a c b d) (ln : r.num.length ≤ 1000000) (ld : r.den.length ≤ 1000000) :
    Calls Try.prog 5 #[frV r a c b d] w fun e w' => ∃ (a2 : Option Addr) (c2 : Nat) (b2 : Option Addr) (d2 : Nat), e = .returned (frV r a2 c2 b2 d2) ∧ Blw w w' ∧ LentFL w.heap.size w' ⟨r, a2, c2, b2, d2⟩ := by
  have wn := h.wn
  have wd := h.wd
  obtain ⟨S, hS⟩ : ∃ S : World → Prop, S = fun W => w.heap.size + 1 < W.heap.size ∧ Blw w W ∧ W.cell? ⟨w.heap.size, 0, none⟩ = some (.bool r.neg) ∧ W.cell? ⟨w.heap.size, 1, none⟩ = some (.slice a r.num.length c) ∧ W.cell? ⟨w.heap.size, 2, none⟩ = some (.slice b r.den.length d) := ⟨_, rfl⟩
  have KS : ∀ W W' : World, S W → Blw W W' → S W' := by
    subst hS
    rintro W W' ⟨h1, h2, h3, h4, h5⟩ hb
    exact ⟨Nat.lt_of_lt_of_le h1 hb.size, h2.trans hb, (Below.cell hb (by show w.heap.size < _; omega)).trans h3, (Below.cell hb (by show w.heap.size < _; omega)).trans h4, (Below.cell hb (by show w.heap.size < _; omega)).trans h5⟩
  have KR : ∀ W W' : World, W.heap[w.heap.size + 1]? = some (.cells #[.bool false, .slice none 0 0, .slice none 0 0] 28 (0, 0)) → Blw W W' → W'.heap[w.heap.size + 1]? = some (.cells #[.bool false, .slice none 0 0, .slice none 0 0] 28 (0, 0)) :=
    fun W W' hF hb => (KeptO.of_blw (O := fun _ => False) hb).heap hF id
  have RR : ∀ W : World, W.heap[w.heap.size + 1]? = some (.cells #[.bool false, .slice none 0 0, .slice none 0 0] 28 (0, 0)) → (∀ i, W.frozen? ⟨w.heap.size + 1, i, none⟩ = false) ∧ W.cell? ⟨w.heap.size + 1, 0, none⟩ = some (.bool false) ∧ W.cell? ⟨w.heap.size + 1, 1, none⟩ = some (.slice none 0 0) ∧ W.cell? ⟨w.heap.size + 1, 2, none⟩ = some (.slice none 0 0) :=
    fun W hF => ⟨fun i => frozen_of_row W _ i _ _ hF, (cell_of_row W _ 0 _ _ _ hF).trans rfl, (cell_of_row W _ 1 _ _ _ hF).trans rfl, (cell_of_row W _ 2 _ _ _ hF).trans rfl⟩
  have SB : ∀ W : World, S W → Blw w W := by
    subst hS
    rintro W ⟨h1, h2, -⟩; exact h2
  have T1 := fun (W : World) (hb : S W) => lentWords_any a r.num c W (h.an.blw (SB W hb)) (fun e => (h.na e).2) (by omega)
  have T2 := fun (W : World) (hb : S W) => lentWords_any b r.den d W (h.ad.blw (SB W hb)) (fun e => (h.nb e).2) (by omega)
  have HT1 := Lib.hid T1
  have HT2 := Lib.hid T2
  have HKS := Lib.hid KS
  have HSB := Lib.hid SB
  have HKR := Lib.hid KR
  have HRR := Lib.hid RR
  obtain ⟨rn, rnum, rden⟩ := r
  simp only at hS HT1 HT2 ln ld wn wd
  clear T1 T2 KS KR RR SB h
  go_enter Try.func5, Try.ntmps5
  go_wp2_with fail
  have hS0 : S ((w.alloc (.cells #[.bool rn, .slice a rnum.length c, .slice b rden.length d] 28 (0, 0))).alloc (.cells #[.bool false, .slice none 0 0, .slice none 0 0] 28 (0, 0))).drew := by
    rw [hS]
    exact ⟨by simp, (by repeat (first | exact Blw.refl _ | apply Blw.ext | apply Blw.alloc | apply Blw.drewN | apply Blw.drew | refine Blw.setCell ?_ _ _ (by simp))), by go_simp, by go_simp, by go_simp⟩
  have hR0 : ((w.alloc (.cells #[.bool rn, .slice a rnum.length c, .slice b rden.length d] 28 (0, 0))).alloc (.cells #[.bool false, .slice none 0 0, .slice none 0 0] 28 (0, 0))).drew.heap[w.heap.size + 1]? = some (.cells #[.bool false, .slice none 0 0, .slice none 0 0] 28 (0, 0)) := by
    have := heap_alloc_new (w.alloc (.cells #[.bool rn, .slice a rnum.length c, .slice b rden.length d] 28 (0, 0))) (.cells #[.bool false, .slice none 0 0, .slice none 0 0] 28 (0, 0))
    rw [show (w.alloc (.cells #[.bool rn, .slice a rnum.length c, .slice b rden.length d] 28 (0, 0))).heap.size = w.heap.size + 1 by simp] at this
    exact this
  have hsz : w.heap.size + 2 ≤ ((w.alloc (.cells #[.bool rn, .slice a rnum.length c, .slice b rden.length d] 28 (0, 0))).alloc (.cells #[.bool false, .slice none 0 0, .slice none 0 0] 28 (0, 0))).drew.heap.size := by simp
  subst hS
  go_region_held3 (fun W => w.heap.size + 1 < W.heap.size ∧ Blw w W ∧ W.cell? ⟨w.heap.size, 0, none⟩ = some (.bool rn) ∧ W.cell? ⟨w.heap.size, 1, none⟩ = some (.slice a rnum.length c) ∧ W.cell? ⟨w.heap.size, 2, none⟩ = some (.slice b rden.length d)) (first | assumption | (refine ⟨?_, blw_three (HSB.out _ (by assumption)) (Nat.le_succ _) _ _ _, ?_, ?_, ?_⟩ <;> go_keep) | go_keep) (first
    | (go_at_call 16; (with_reducible refine Calls.mono (HT1.out _ (by assumption)) ?_); rintro e w9 ⟨p1, q1, y1, rfl, rfl, o1, -, -⟩; have hc1 := own_cap o1; have hc1i : (rnum.length : Int) ≤ (q1 : Int) := (by omega); have hS1 := HKS.out _ _ (by assumption) (World.blw_ext _ y1); have hR1 := HKR.out _ _ (by assumption) (World.blw_ext _ y1); have hRR := HRR.out _ hR1)
    | (go_at_call 16; (with_reducible refine Calls.mono (HT2.out _ (by assumption)) ?_); rintro e w9 ⟨p2, q2, y2, rfl, rfl, o2, -, -⟩; have hc2 := own_cap o2; have hc2i : (rden.length : Int) ≤ (q2 : Int) := (by omega); have hS2 := HKS.out _ _ (by assumption) (World.blw_ext _ y2); have hR2 := HKR.out _ _ (by assumption) (World.blw_ext _ y2); have hRR2 := HRR.out _ hR2))
  clear HT1 HT2 HKS HKR HRR hS0 hR0 hS1 hS2 hRR hRR2
  obtain ⟨hfz, e0, e1, e2, r0, r1, r2⟩ := three hR2 (.bool rn) (.slice p1 rnum.length q1) (.slice p2 rden.length q2)
  have oF := ownsRow_mono (ownsRow_blw o1 (World.blw_ext _ y2)) hsz
  have oS := ownsRow_mono o2 (Nat.le_trans hsz (World.le_ext _ y1))
  go_wp2_with fail
  refine bodyPost_ret (v := .agg #[.bool rn, .slice p1 rnum.length q1, .slice p2 rden.length q2]) (by simp [results, Try.results5, go_sem, r0, r1, r2]) rfl ?_
  exact ⟨p1, q1, p2, q2, rfl, blw_three (by repeat (first | exact Blw.refl _ | apply Blw.ext | apply Blw.alloc | apply Blw.drewN | apply Blw.drew | refine Blw.setCell ?_ _ _ (by simp))) (Nat.le_succ _) _ _ _, own_three oF (Nat.lt_succ_self _) _ _ _ |> (ownsRow_mono · (by omega)), own_three oS (Nat.lt_succ_self _) _ _ _ |> (ownsRow_mono · (by omega)), wn, wd⟩

set_option maxRecDepth 100000 in
set_option maxHeartbeats 4000000 in
theorem keptRatio_any (B : Nat) (x : FL) (a : Option Addr) (c : Nat) (b : Option Addr) (d : Nat) (w : World) (hx : LentFL B w x) (h : FrA w x.r a c b d) (ln : x.r.num.length ≤ 1000000) (ld : x.r.den.length ≤ 1000000) :
    Calls Try.prog 13 #[frV x.r x.a x.c x.b x.d, frV x.r a c b d] w fun e w' => e = .returned (.bool true) ∧ ∃ z, w' = w.ext z := by
  obtain ⟨k1, j1, k3, j3, -, -, -, -⟩ := hx.arrs
  have H1 := Lib.hid (fun (W : World) (hW : Blw w W) => keptWords_any x.a a x.r.num x.c c W (k1.blw hW) (h.an.blw hW) (fun e => (h.na e).2) (by omega))
  have H2 := Lib.hid (fun (W : World) (hW : Blw w W) => keptWords_any x.b b x.r.den x.d d W (j1.blw hW) (h.ad.blw hW) (fun e => (h.nb e).2) (by omega))
  clear hx h k1 j1
  obtain ⟨⟨rn, rnum, rden⟩, xa, xc, xb, xd⟩ := x
  simp only at H1 H2 k3 j3 ln ld
  have i1 : (rnum.length : Int) + 3 ≤ (xc : Int) := by omega
  have i2 : (rden.length : Int) + 3 ≤ (xd : Int) := by omega
  have i3 : IntKind.i64.wrap ((rnum.length : Int) + 3) = (rnum.length : Int) + 3 := by rw [IntKind.wrap_i64]; omega
  have i4 : IntKind.i64.wrap ((rden.length : Int) + 3) = (rden.length : Int) + 3 := by rw [IntKind.wrap_i64]; omega
  have i5 : ((rnum.length : Int) + 3).toNat = rnum.length + 3 := by omega
  have i6 : ((rden.length : Int) + 3).toNat = rden.length + 3 := by omega
  have i7 : (0 : Int) ≤ (rnum.length : Int) + 3 := by omega
  have i8 : (0 : Int) ≤ (rden.length : Int) + 3 := by omega
  cases rn
  all_goals
    go_enter Try.func13, Try.ntmps13
    go_wp2_with fail
    refine wp_region_ext_lit (by kernel_rfl) (by kernel_rfl) ?_
    repeat (quiet_step ((go_at_call 28; first | (with_reducible exact Calls.ext_of (H1.out _ (by repeat (first | exact Blw.refl _ | apply Blw.ext | apply Blw.alloc | apply Blw.drewN | apply Blw.drew | refine Blw.setCell ?_ _ _ (by simp))))) | (with_reducible exact Calls.ext_of (H2.out _ (by repeat (first | exact Blw.refl _ | apply Blw.ext | apply Blw.alloc | apply Blw.drewN | apply Blw.drew | refine Blw.setCell ?_ _ _ (by simp))))))))
    refine wpQuiet_nil ?_
    rintro _ ⟨z, rfl⟩
    go_wp2
    go_ret
    exact ⟨rfl, Blw.is (by repeat (first | exact Blw.refl _ | apply Blw.ext | apply Blw.alloc | apply Blw.drewN | apply Blw.drew | refine Blw.setCell ?_ _ _ (by simp)))⟩
end Go.Proofs.Ytigkfdoeneemeab
/- The stable sort, plain: the order that ties are broken by; blocks; two sorted lists of one set are one list. -/
namespace Go.Proofs.Ytigkfdoeneemeab
open Go
namespace Srt

/-- x stands ahead of y: it compares below, or alike and has the lesser number. -/
def lo (cv : Int → Int → Int) (x y : Int) : Prop := cv x y < 0 ∨ (cv x y = 0 ∧ x < y)

/-- A comparison that is fit to sort by, among the numbers V. -/
structure Fit (cv : Int → Int → Int) (V : Int → Prop) : Prop where
  anti : ∀ x y, V x → V y → (cv x y < 0 ↔ 0 < cv y x)
  trans : ∀ x y z, V x → V y → V z → cv x y ≤ 0 → cv y z ≤ 0 → cv x z ≤ 0
  strict : ∀ x y z, V x → V y → V z → cv x y ≤ 0 → cv y z ≤ 0 → cv x z = 0 → cv x y = 0 ∧ cv y z = 0

section
variable {cv : Int → Int → Int} {V : Int → Prop} (F : Fit cv V)
include F
theorem Fit.eq0 {x y : Int} (hx : V x) (hy : V y) : cv x y = 0 ↔ cv y x = 0 := by
  have h1 := F.anti x y hx hy
  have h2 := F.anti y x hy hx
  omega
theorem lo_trans {x y z : Int} (hx : V x) (hy : V y) (hz : V z) (h : lo cv x y) (k : lo cv y z) : lo cv x z := by
  have a : cv x y ≤ 0 := by rcases h with h | h <;> omega
  have b : cv y z ≤ 0 := by rcases k with h | h <;> omega
  have c := F.trans x y z hx hy hz a b
  by_cases e : cv x z = 0
  · obtain ⟨p, q⟩ := F.strict x y z hx hy hz a b e
    right
    rcases h with h | h
    · omega
    · rcases k with k | k
      · omega
      · exact ⟨e, by omega⟩
  · left; omega
theorem lo_asymm {x y : Int} (hx : V x) (hy : V y) (h : lo cv x y) (k : lo cv y x) : False := by
  have h1 := F.anti x y hx hy
  have h2 := F.anti y x hy hx
  rcases h with h | h <;> rcases k with k | k <;> omega
/-- Not below, and of the greater number: behind. -/
theorem lo_of_not {x y : Int} (hx : V x) (hy : V y) (h : ¬ cv x y < 0) (hlt : y < x) : lo cv y x := by
  have h1 := F.anti x y hx hy
  have h2 := F.anti y x hy hx
  by_cases e : cv y x < 0
  · exact .inl e
  · exact .inr ⟨by omega, hlt⟩
/-- Two lists of the same numbers in that order are one. -/
theorem sorted_uniq : ∀ {l m : List Int}, (∀ x ∈ l, V x) → l.Pairwise (lo cv) → m.Pairwise (lo cv) → l.Perm m → l = m := by
  intro l
  induction l with
  | nil => intro m _ _ _ h; exact h.nil_eq
  | cons x l ih =>
    intro m hv hl hm h
    cases m with
    | nil => exact absurd h.symm.nil_eq (by simp)
    | cons y m =>
      have hxy : x = y := by
        by_cases e : x = y
        · exact e
        · exfalso
          have hy : y ∈ l := by
            have := h.symm.subset (List.mem_cons_self (a := y) (l := m))
            rcases List.mem_cons.1 this with h | h
            · exact absurd h.symm e
            · exact h
          have hx : x ∈ m := by
            have := h.subset (List.mem_cons_self (a := x) (l := l))
            rcases List.mem_cons.1 this with h | h
            · exact absurd h e
            · exact h
          exact lo_asymm F (hv x List.mem_cons_self) (hv y (List.mem_cons_of_mem _ hy)) ((List.pairwise_cons.1 hl).1 y hy) ((List.pairwise_cons.1 hm).1 x hx)
      subst hxy
      rw [ih (fun z hz => hv z (List.mem_cons_of_mem _ hz)) (List.pairwise_cons.1 hl).2 (List.pairwise_cons.1 hm).2 (List.perm_cons x |>.1 h)]
end

/-- Blocks: all of one length, but the last, which may be shorter. -/
def Blk (bs : Nat) : List (List Int) → Prop
  | [] => True
  | B :: Bs => B.length ≤ bs ∧ (Bs ≠ [] → B.length = bs) ∧ Blk bs Bs
/-- Blocks, each in order, each one's numbers below the later ones'. -/
structure Bks (cv : Int → Int → Int) (Bs : List (List Int)) : Prop where
  each : ∀ B ∈ Bs, B.Pairwise (lo cv)
  cross : Bs.Pairwise (fun A B => ∀ x ∈ A, ∀ y ∈ B, x < y)
theorem Blk.cons {bs : Nat} {B : List Int} {Bs : List (List Int)} (h : Blk bs (B :: Bs)) : Blk bs Bs := h.2.2
/-- Where there is room for one more block behind a first one, the first is full. -/
theorem Blk.first {bs : Nat} {Bs : List (List Int)} (h : Blk bs Bs) (hl : bs < Bs.flatten.length) : ∃ B Cs, Bs = B :: Cs ∧ B.length = bs ∧ Cs ≠ [] := by
  cases Bs with
  | nil => simp at hl
  | cons B Bs =>
    by_cases e : Bs = []
    · subst e; simp at hl; have := h.1; omega
    · exact ⟨B, Bs, rfl, h.2.1 e, e⟩
theorem Blk.two {bs : Nat} {Bs : List (List Int)} (h : Blk bs Bs) (hl : bs < Bs.flatten.length) : ∃ B C Cs, Bs = B :: C :: Cs ∧ B.length = bs ∧ C.length ≤ bs ∧ (2 * bs ≤ Bs.flatten.length → C.length = bs) ∧ (Bs.flatten.length < 2 * bs → C.length + bs = Bs.flatten.length ∧ Cs = []) := by
  obtain ⟨B, Cs, rfl, hB, hne⟩ := h.first hl
  cases Cs with
  | nil => exact absurd rfl hne
  | cons C Cs =>
    have h2 := h.2.2
    have tail : ∀ (Bs : List (List Int)), Bs = [] → Bs.flatten.length = 0 := fun Bs e => by rw [e]; rfl
    refine ⟨B, C, Cs, rfl, hB, h2.1, fun k => ?_, fun k => ?_⟩
    · by_cases e : Cs = []
      · subst e; simp at k; have := h2.1; omega
      · exact h2.2.1 e
    · by_cases e : Cs = []
      · subst e; simp; omega
      · exfalso; have := h2.2.1 e
        simp at k; omega

/-- One list in order out of two, the numbers of the first below the second's. -/
structure Mrg (cv : Int → Int → Int) (L R M : List Int) : Prop where
  perm : M.Perm (L ++ R)
  sort : M.Pairwise (lo cv)
theorem Bks.merge {cv : Int → Int → Int} {Ds : List (List Int)} {B C M : List Int} {Cs : List (List Int)} (h : Bks cv (Ds ++ B :: C :: Cs)) (m : Mrg cv B C M) : Bks cv (Ds ++ [M] ++ Cs) := by
  have hm : ∀ x ∈ M, x ∈ B ∨ x ∈ C := fun x hx => List.mem_append.1 (m.perm.subset hx)
  refine ⟨fun A hA => ?_, ?_⟩
  · simp only [List.append_assoc, List.mem_append, List.singleton_append, List.mem_cons] at hA
    rcases hA with h1 | h1 | h1
    · exact h.each A (List.mem_append_left _ h1)
    · rw [h1]; exact m.sort
    · exact h.each A (List.mem_append_right _ (by simp [h1]))
  · have hc := h.cross
    rw [List.append_assoc, List.pairwise_append] at *
    obtain ⟨c1, c2, c3⟩ := hc
    rw [List.pairwise_cons, List.pairwise_cons] at c2
    obtain ⟨c21, c22, c23⟩ := c2
    refine ⟨c1, ?_, ?_⟩
    · rw [List.singleton_append, List.pairwise_cons]
      refine ⟨fun A hA x hx y hy => ?_, c23⟩
      rcases hm x hx with hx | hx
      · exact c21 A (List.mem_cons_of_mem _ hA) x hx y hy
      · exact c22 A hA x hx y hy
    · intro A hA A' hA' x hx y hy
      rw [List.singleton_append, List.mem_cons] at hA'
      rcases hA' with e | e
      · subst e
        rcases hm y hy with hy | hy
        · exact c3 A hA B (by simp) x hx y hy
        · exact c3 A hA C (by simp) x hx y hy
      · exact c3 A hA A' (by simp [e]) x hx y hy
theorem Blk.snoc {bs : Nat} {Ds : List (List Int)} {M : List Int} (h : ∀ D ∈ Ds, D.length = bs) (hM : M.length ≤ bs) : Blk bs (Ds ++ [M]) := by
  induction Ds with
  | nil => exact ⟨hM, fun h => absurd rfl h, trivial⟩
  | cons D Ds ih =>
    have := h D List.mem_cons_self
    exact ⟨by omega, fun _ => this, ih fun A hA => h A (List.mem_cons_of_mem _ hA)⟩
theorem Blk.full {bs : Nat} {Ds : List (List Int)} (h : ∀ D ∈ Ds, D.length = bs) : Blk bs Ds := by
  induction Ds with
  | nil => trivial
  | cons D Ds ih =>
    have := h D List.mem_cons_self
    exact ⟨by omega, fun _ => this, ih fun A hA => h A (List.mem_cons_of_mem _ hA)⟩
/-- One block that holds all. -/
theorem Blk.done {cv : Int → Int → Int} {bs : Nat} {Bs : List (List Int)} (h : Blk bs Bs) (k : Bks cv Bs) (hl : Bs.flatten.length ≤ bs) : Bs.flatten.Pairwise (lo cv) := by
  cases Bs with
  | nil => simp
  | cons B Bs =>
    by_cases e : Bs = []
    · subst e; simpa using k.each B List.mem_cons_self
    · have hB := h.2.1 e
      have : Bs.flatten = [] := List.eq_nil_of_length_eq_zero (by simp at hl; simp; omega)
      rw [List.flatten_cons, this, List.append_nil]
      exact k.each B List.mem_cons_self
theorem flat_len {bs : Nat} {Ds : List (List Int)} (h : ∀ D ∈ Ds, D.length = bs) : Ds.flatten.length = bs * Ds.length := by
  induction Ds with
  | nil => simp
  | cons D Ds ih =>
    rw [List.flatten_cons, List.length_append, h D List.mem_cons_self, ih fun A hA => h A (List.mem_cons_of_mem _ hA), List.length_cons, Nat.mul_succ, Nat.add_comm]
end Srt
end Go.Proofs.Ytigkfdoeneemeab
/- Reports as cells; office.above, the reference's higher and counts; the order of reports, plain. -/
namespace Go.Proofs.Ytigkfdoeneemeab
open Go.RowKit

/-- A report as it lies in memory. -/
structure RL where
  nm : ByteArray
  er : Int
  wa : Option Addr
  wn : Nat
  wc : Nat
  hi : FL
  hat : Int
  lw : FL
  lat : Int
  off : Nat
def FL.val (x : FL) : Value := frV x.r x.a x.c x.b x.d
def RL.cells (x : RL) : List Value := [.string x.nm, .int .i64 x.er, .slice x.wa x.wn x.wc, .bool x.hi.r.neg, .slice x.hi.a x.hi.r.num.length x.hi.c, .slice x.hi.b x.hi.r.den.length x.hi.d, .int .i64 x.hat,
  .bool x.lw.r.neg, .slice x.lw.a x.lw.r.num.length x.lw.c, .slice x.lw.b x.lw.r.den.length x.lw.d, .int .i64 x.lat, .float .f64 x.off]
abbrev rls (l : List RL) : List Value := l.flatMap RL.cells
abbrev rlV (x : RL) : Value := .agg #[.string x.nm, .int .i64 x.er, .slice x.wa x.wn x.wc, .bool x.hi.r.neg, .slice x.hi.a x.hi.r.num.length x.hi.c, .slice x.hi.b x.hi.r.den.length x.hi.d, .int .i64 x.hat,
  .bool x.lw.r.neg, .slice x.lw.a x.lw.r.num.length x.lw.c, .slice x.lw.b x.lw.r.den.length x.lw.d, .int .i64 x.lat, .float .f64 x.off]
structure RL.In (w : World) (x : RL) : Prop where
  hi : FL.In w x.hi
  lw : FL.In w x.lw
theorem RL.In.blw {w w' : World} {x : RL} (h : RL.In w x) (k : Blw w w') : RL.In w' x := ⟨h.hi.blw k, h.lw.blw k⟩
theorem rl_at {w : World} {A : Option Addr} {l : List RL} (h : Arr w A (rls l)) {k : Nat} (hk : k < l.length) :
    ∃ (x : RL) (b o : Nat), l[k]? = some x ∧ x ∈ l ∧ A = some ⟨b, o, none⟩ ∧ b < w.heap.size ∧ w.cell? ⟨b, o + k * 12, none⟩ = some (.string x.nm) ∧ w.cell? ⟨b, o + k * 12 + 1, none⟩ = some (.int .i64 x.er) ∧ w.cell? ⟨b, o + k * 12 + 2, none⟩ = some (.slice x.wa x.wn x.wc) ∧
      w.cell? ⟨b, o + k * 12 + 3, none⟩ = some (.bool x.hi.r.neg) ∧ w.cell? ⟨b, o + k * 12 + 4, none⟩ = some (.slice x.hi.a x.hi.r.num.length x.hi.c) ∧ w.cell? ⟨b, o + k * 12 + 5, none⟩ = some (.slice x.hi.b x.hi.r.den.length x.hi.d) ∧ w.cell? ⟨b, o + k * 12 + 6, none⟩ = some (.int .i64 x.hat) ∧
      w.cell? ⟨b, o + k * 12 + 7, none⟩ = some (.bool x.lw.r.neg) ∧ w.cell? ⟨b, o + k * 12 + 8, none⟩ = some (.slice x.lw.a x.lw.r.num.length x.lw.c) ∧ w.cell? ⟨b, o + k * 12 + 9, none⟩ = some (.slice x.lw.b x.lw.r.den.length x.lw.d) ∧ w.cell? ⟨b, o + k * 12 + 10, none⟩ = some (.int .i64 x.lat) ∧ w.cell? ⟨b, o + k * 12 + 11, none⟩ = some (.float .f64 x.off) := by
  obtain ⟨x, b, o, h1, h2, h3, h4, h5⟩ := cells_arr RL.cells 12 (fun _ => rfl) (by decide) h hk
  exact ⟨x, b, o, h1, h2, h3, h4, h5 0 (by decide), h5 1 (by decide), h5 2 (by decide), h5 3 (by decide), h5 4 (by decide), h5 5 (by decide), h5 6 (by decide), h5 7 (by decide), h5 8 (by decide), h5 9 (by decide), h5 10 (by decide), h5 11 (by decide)⟩
theorem box12 {w W : World} {T : TypeId} {u0 u1 u2 u3 u4 u5 u6 u7 u8 u9 u10 u11 : Value} (h : Blw (w.alloc (.cells #[u0, u1, u2, u3, u4, u5, u6, u7, u8, u9, u10, u11] T)) W) :
    w.heap.size < W.heap.size ∧ W.cell? ⟨w.heap.size, 0, none⟩ = some u0 ∧ W.cell? ⟨w.heap.size, 1, none⟩ = some u1 ∧ W.cell? ⟨w.heap.size, 2, none⟩ = some u2 ∧ W.cell? ⟨w.heap.size, 3, none⟩ = some u3 ∧ W.cell? ⟨w.heap.size, 4, none⟩ = some u4 ∧ W.cell? ⟨w.heap.size, 5, none⟩ = some u5 ∧
      W.cell? ⟨w.heap.size, 6, none⟩ = some u6 ∧ W.cell? ⟨w.heap.size, 7, none⟩ = some u7 ∧ W.cell? ⟨w.heap.size, 8, none⟩ = some u8 ∧ W.cell? ⟨w.heap.size, 9, none⟩ = some u9 ∧ W.cell? ⟨w.heap.size, 10, none⟩ = some u10 ∧ W.cell? ⟨w.heap.size, 11, none⟩ = some u11 := by
  have hl : w.heap.size < (w.alloc (.cells #[u0, u1, u2, u3, u4, u5, u6, u7, u8, u9, u10, u11] T)).heap.size := by simp
  have hh : W.heap[w.heap.size]? = some (.cells #[u0, u1, u2, u3, u4, u5, u6, u7, u8, u9, u10, u11] T (0, 0)) := (Below.block h _ hl).trans (heap_alloc_new w _)
  exact ⟨Nat.lt_of_lt_of_le hl h.size, (cell_of_row W _ 0 _ _ _ hh).trans rfl, (cell_of_row W _ 1 _ _ _ hh).trans rfl, (cell_of_row W _ 2 _ _ _ hh).trans rfl, (cell_of_row W _ 3 _ _ _ hh).trans rfl, (cell_of_row W _ 4 _ _ _ hh).trans rfl, (cell_of_row W _ 5 _ _ _ hh).trans rfl,
    (cell_of_row W _ 6 _ _ _ hh).trans rfl, (cell_of_row W _ 7 _ _ _ hh).trans rfl, (cell_of_row W _ 8 _ _ _ hh).trans rfl, (cell_of_row W _ 9 _ _ _ hh).trans rfl, (cell_of_row W _ 10 _ _ _ hh).trans rfl, (cell_of_row W _ 11 _ _ _ hh).trans rfl⟩

/-- Both Compares, for fractions that may be or may not. -/
def cmpA (r s : Fr) : Int := if chk2 r s = 0 then cmpF r s else 0
theorem chk2_ok {r s : Fr} (h : chk2 r s = 0) : r.Ok ∧ s.Ok := by
  unfold chk2 at h
  by_cases c : chkF r = 0
  · rw [if_pos c] at h; exact ⟨ok_chkF c, ok_chkF h⟩
  · rw [if_neg c] at h; exact absurd h c
theorem ok_chk2 {r s : Fr} (hr : r.Ok) (hs : s.Ok) : chk2 r s = 0 := by unfold chk2; rw [if_pos (chkF_ok hr), chkF_ok hs]
theorem cmpA_ok {r s : Fr} (hr : r.Ok) (hs : s.Ok) : cmpA r s = cmpF r s := if_pos (ok_chk2 hr hs)
theorem compareA (x y : FL) (w : World) (hx : FL.In w x) (hy : FL.In w y) :
    Calls Try.prog 27 #[frV x.r x.a x.c x.b x.d, frV y.r y.a y.c y.b y.d] w fun e w' => e = .returned (.tuple #[.int .i64 (cmpA x.r y.r), .int .i64 (chk2 x.r y.r)]) ∧ ∃ z, w' = w.ext z := by
  by_cases c : chk2 x.r y.r = 0
  · obtain ⟨h1, h2⟩ := chk2_ok c
    rw [show cmpA x.r y.r = cmpF x.r y.r from if_pos c, c]
    exact ratioCompare_ok x.r y.r _ _ _ _ _ _ _ _ w hx hy h1 h2
  · rw [show cmpA x.r y.r = 0 from if_neg c]
    exact ratioCompare_bad x.r y.r _ _ _ _ _ _ _ _ w hx hy c
theorem refCompareA (x y : FL) (w : World) (hx : FL.In w x) (hy : FL.In w y) :
    Calls Try.prog 32 #[frV x.r x.a x.c x.b x.d, frV y.r y.a y.c y.b y.d] w fun e w' => e = .returned (.tuple #[.int .i64 (cmpA x.r y.r), .int .i64 (chk2 x.r y.r)]) ∧ ∃ z, w' = w.ext z := by
  by_cases c : chk2 x.r y.r = 0
  · obtain ⟨h1, h2⟩ := chk2_ok c
    rw [show cmpA x.r y.r = cmpF x.r y.r from if_pos c, c]
    exact refCompare3_ok x.r y.r _ _ _ _ _ _ _ _ w hx hy h1 h2
  · rw [show cmpA x.r y.r = 0 from if_neg c]
    exact refCompare3_bad x.r y.r _ _ _ _ _ _ _ _ w hx hy c
theorem cmpA_b (r s : Fr) : -1 ≤ cmpA r s ∧ cmpA r s ≤ 1 := by
  unfold cmpA
  split
  · rename_i h
    obtain ⟨h1, h2⟩ := chk2_ok h
    rcases cmpF_cases h1 h2 with h | h | h <;> omega
  · omega
def abvF (r s : Fr) : Bool := decide (0 < cmpA r s)
theorem abv_eq (r s : Fr) : (chk2 r s == 0 && decide (0 < cmpA r s)) = abvF r s := by
  unfold abvF
  by_cases c : chk2 r s = 0
  · rw [c]; simp
  · rw [show cmpA r s = 0 from if_neg c]; simp

set_option maxHeartbeats 1000000 in
theorem above_any (x y : FL) (w : World) (hx : FL.In w x) (hy : FL.In w y) :
    Calls Try.prog 19 #[frV x.r x.a x.c x.b x.d, frV y.r y.a y.c y.b y.d] w fun e w' => e = .returned (.bool (abvF x.r y.r)) ∧ ∃ z, w' = w.ext z := by
  have H1 := Lib.hid (fun (W : World) (hb : Blw w W) => compareA x y W (hx.blw hb) (hy.blw hb))
  have q := abv_eq x.r y.r
  rw [← q]
  obtain ⟨b1, b2⟩ := cmpA_b x.r y.r
  generalize cmpA x.r y.r = cv at *
  generalize chk2 x.r y.r = ck at *
  clear hx hy q
  by_cases c : ck = 0
  · subst c
    go_enter Try.func19, Try.ntmps19
    go_wp2_with fail
    refine Calls.mono (H1.out _ (by repeat (first | exact Blw.refl _ | apply Blw.ext | apply Blw.alloc | apply Blw.drewN | apply Blw.drew | refine Blw.setCell ?_ _ _ (by simp)))) ?_
    rintro e w1 ⟨rfl, x1, rfl⟩
    go_wp2
    go_ret
    exact ⟨by simp, Blw.is (by repeat (first | exact Blw.refl _ | apply Blw.ext | apply Blw.alloc | apply Blw.drewN | apply Blw.drew | refine Blw.setCell ?_ _ _ (by simp)))⟩
  · have q : (ck == 0) = false := by simpa using c
    rw [q]
    go_enter Try.func19, Try.ntmps19
    go_wp2_with fail
    refine Calls.mono (H1.out _ (by repeat (first | exact Blw.refl _ | apply Blw.ext | apply Blw.alloc | apply Blw.drewN | apply Blw.drew | refine Blw.setCell ?_ _ _ (by simp)))) ?_
    rintro e w1 ⟨rfl, x1, rfl⟩
    go_wp2
    go_ret
    exact ⟨by simp, Blw.is (by repeat (first | exact Blw.refl _ | apply Blw.ext | apply Blw.alloc | apply Blw.drewN | apply Blw.drew | refine Blw.setCell ?_ _ _ (by simp)))⟩
set_option maxHeartbeats 1000000 in
theorem refHigher_any (x y : FL) (w : World) (hx : FL.In w x) (hy : FL.In w y) :
    Calls Try.prog 21 #[frV x.r x.a x.c x.b x.d, frV y.r y.a y.c y.b y.d] w fun e w' => e = .returned (.bool (abvF x.r y.r)) ∧ ∃ z, w' = w.ext z := by
  have H1 := Lib.hid (fun (W : World) (hb : Blw w W) => refCompareA x y W (hx.blw hb) (hy.blw hb))
  unfold abvF
  generalize cmpA x.r y.r = cv at *
  generalize chk2 x.r y.r = ck at *
  clear hx hy
  go_enter Try.func21, Try.ntmps21
  go_wp2_with fail
  refine Calls.mono (H1.out _ (by repeat (first | exact Blw.refl _ | apply Blw.ext | apply Blw.alloc | apply Blw.drewN | apply Blw.drew | refine Blw.setCell ?_ _ _ (by simp)))) ?_
  rintro e w1 ⟨rfl, x1, rfl⟩
  go_wp2
  go_ret
  exact ⟨by simp, Blw.is (by repeat (first | exact Blw.refl _ | apply Blw.ext | apply Blw.alloc | apply Blw.drewN | apply Blw.drew | refine Blw.setCell ?_ _ _ (by simp)))⟩
def cntF (er : Int) (r : Fr) : Bool := er == 0 && chkF r == 0
set_option maxHeartbeats 1000000 in
theorem refCounts_any (x : RL) (y : FL) (w : World) (hy : FL.In w y) :
    Calls Try.prog 20 #[rlV x, frV y.r y.a y.c y.b y.d] w fun e w' => e = .returned (.bool (cntF x.er y.r)) ∧ ∃ z, w' = w.ext z := by
  have H1 := Lib.hid (fun (W : World) (hb : Blw w W) => refCheck3_any y.r y.a y.c y.b y.d W (FL.In.blw hy hb))
  obtain ⟨nm, er, wa, wn, wc, hi, hat, lw, lat, off⟩ := x
  unfold cntF
  generalize chkF y.r = ck at *
  clear hy
  by_cases c : er = 0
  · subst c
    go_enter Try.func20, Try.ntmps20
    go_wp2_with fail
    refine Calls.mono (H1.out _ (by repeat (first | exact Blw.refl _ | apply Blw.ext | apply Blw.alloc | apply Blw.drewN | apply Blw.drew | refine Blw.setCell ?_ _ _ (by simp)))) ?_
    rintro e w1 ⟨rfl, x1, rfl⟩
    go_wp2
    go_ret
    exact ⟨by simp, Blw.is (by repeat (first | exact Blw.refl _ | apply Blw.ext | apply Blw.alloc | apply Blw.drewN | apply Blw.drew | refine Blw.setCell ?_ _ _ (by simp)))⟩
  · have q : (er == 0) = false := by simpa using c
    go_enter Try.func20, Try.ntmps20
    go_wp2
    go_ret
    exact ⟨by simp [q], Blw.is (by repeat (first | exact Blw.refl _ | apply Blw.ext | apply Blw.alloc | apply Blw.drewN | apply Blw.drew | refine Blw.setCell ?_ _ _ (by simp)))⟩
end Go.Proofs.Ytigkfdoeneemeab
/- Floats: what the model's operations on float64 give, NaN included, as functions of the operands' bits and the world; plain facts on the words. -/
namespace Go.Proofs.Ytigkfdoeneemeab.Fl
open Go Ieee

/-- The bits of a float operation's result in a world. -/
def fop (op : BinOp) (x y : Nat) (w : World) : Nat :=
  match floatBits op .f64 x y with
  | some r => r
  | none => (Question.nanBits .f64 x y).cut (w.tape w.drawn (.nanBits .f64 x y))

/-- How many draws the operation makes. -/
def fdr (op : BinOp) (x y : Nat) : Nat := match floatBits op .f64 x y with | some _ => 0 | none => 1

section
variable {P : Program} (w : World)
theorem run_fop (op : BinOp) (h : op = .add ∨ op = .sub ∨ op = .mul ∨ op = .quo) (t : TypeId) (x y : Nat) :
    (binOp op t (.float .f64 x) (.float .f64 y)).run P w = .ok (.float .f64 (fop op x y w)) (w.drewN (fdr op x y)) := by
  cases e : floatBits op .f64 x y with
  | some r =>
    rw [run_float_arith w op t .f64 x y r e]
    simp only [fop, fdr, e]; rfl
  | none =>
    simp only [fop, fdr, e]
    rcases h with rfl | rfl | rfl | rfl <;>
      (unfold floatBits at e; simp only at e; simp [binOp, Op.floatArith, e, Question.forced]; rfl)
@[go_sem] theorem run_fadd (t : TypeId) (x y : Nat) : (binOp .add t (.float .f64 x) (.float .f64 y)).run P w = .ok (.float .f64 (fop .add x y w)) (w.drewN (fdr .add x y)) := run_fop w .add (by simp) t x y
@[go_sem] theorem run_fsub (t : TypeId) (x y : Nat) : (binOp .sub t (.float .f64 x) (.float .f64 y)).run P w = .ok (.float .f64 (fop .sub x y w)) (w.drewN (fdr .sub x y)) := run_fop w .sub (by simp) t x y
@[go_sem] theorem run_fmul (t : TypeId) (x y : Nat) : (binOp .mul t (.float .f64 x) (.float .f64 y)).run P w = .ok (.float .f64 (fop .mul x y w)) (w.drewN (fdr .mul x y)) := run_fop w .mul (by simp) t x y
@[go_sem] theorem run_fquo (t : TypeId) (x y : Nat) : (binOp .quo t (.float .f64 x) (.float .f64 y)).run P w = .ok (.float .f64 (fop .quo x y w)) (w.drewN (fdr .quo x y)) := run_fop w .quo (by simp) t x y
@[go_sem] theorem run_store_float (a : Addr) (x : Nat) (m : Mode) : (store a (.float .f64 x) m).run P w = stored P w a (.float .f64 x) m := run_store P w a _ m rfl
@[go_sem] theorem run_store_complex (a : Addr) (x y : Nat) (m : Mode) : (store a (.complex .f64 x y) m).run P w = stored P w a (.complex .f64 x y) m := run_store P w a _ m rfl
@[go_sem] theorem unary_neg_float (x : Nat) : Op.unary .neg (.float .f64 x) = pure (.float .f64 (Op.negFloat .f64 x)) := rfl
end

/-- The rung of infinity of a double. -/
def infR : Nat := 9218868437227405312
def isNaN (x : Nat) : Bool := decide (infR < x % 2 ^ 63)
def isInf (x : Nat) : Bool := decide (x % 2 ^ 63 = infR)
def isFin (x : Nat) : Bool := decide (x % 2 ^ 63 < infR)
def fneg (x : Nat) : Bool := decide (x / 2 ^ 63 % 2 = 1)
/-- A finite double is 'mag * 2 ^ (place - 1074)'. -/
def mag (x : Nat) : Nat := if x % 2 ^ 63 < 2 ^ 52 then x % 2 ^ 63 else 2 ^ 52 + x % 2 ^ 52
def plc (x : Nat) : Nat := x % 2 ^ 63 / 2 ^ 52 - 1

theorem read_eq (x : Nat) : double.read x =
    if x % 2 ^ 63 < 2 ^ 52 then .number (x / 2 ^ 63 % 2 == 1) (x % 2 ^ 63) (-1074)
    else if x % 2 ^ 63 < infR then .number (x / 2 ^ 63 % 2 == 1) (2 ^ 52 + x % 2 ^ 63 % 2 ^ 52) (-1074 + ((x % 2 ^ 63 / 2 ^ 52 - 1 : Nat) : Int))
    else if x % 2 ^ 63 = infR then .infinity (x / 2 ^ 63 % 2 == 1)
    else .nan (x / 2 ^ 63 % 2 == 1) (x % 2 ^ 63 - infR) := rfl

theorem read_fin (x : Nat) (h : isFin x = true) : double.read x = .number (fneg x) (mag x) (-1074 + (plc x : Int)) := by
  have h' : x % 2 ^ 63 < infR := by simpa [isFin] using h
  rw [read_eq]
  have es : (x / 2 ^ 63 % 2 == 1) = fneg x := by unfold fneg; rw [Bool.eq_iff_iff]; simp
  rw [es]
  by_cases c : x % 2 ^ 63 < 2 ^ 52
  · rw [if_pos c]
    unfold mag plc
    rw [if_pos c]
    have : x % 2 ^ 63 / 2 ^ 52 - 1 = 0 := by omega
    rw [this]; rfl
  · rw [if_neg c, if_pos h']
    unfold mag plc
    rw [if_neg c]
    congr 2
    omega
theorem read_inf (x : Nat) (h : isInf x = true) : double.read x = .infinity (fneg x) := by
  have h' : x % 2 ^ 63 = infR := by simpa [isInf] using h
  rw [read_eq]
  have es : (x / 2 ^ 63 % 2 == 1) = fneg x := by unfold fneg; rw [Bool.eq_iff_iff]; simp
  rw [es, h', if_neg (by decide), if_neg (by decide), if_pos rfl]
theorem read_nan (x : Nat) (h : isNaN x = true) : ∃ s t, double.read x = .nan s t := by
  have h' : infR < x % 2 ^ 63 := by simpa [isNaN] using h
  rw [read_eq]
  have : ¬ x % 2 ^ 63 < 2 ^ 52 := by unfold infR at h'; omega
  rw [if_neg this, if_neg (by omega), if_neg (by omega)]
  exact ⟨_, _, rfl⟩
theorem tri (x : Nat) : isFin x = true ∨ isInf x = true ∨ isNaN x = true := by
  simp only [isFin, isInf, isNaN, decide_eq_true_eq]; omega
theorem fin_not (x : Nat) : isFin x = !(isInf x || isNaN x) := by
  rw [Bool.eq_iff_iff]; simp only [isFin, isInf, isNaN]; simp; omega

theorem cut_nan (x y t : Nat) : isNaN ((Question.nanBits .f64 x y).cut t) = true := by
  unfold Question.cut isNaN infR
  simp only [decide_eq_true_eq]
  have h1 : t / 2 % (2 ^ 52 - 1) < 2 ^ 52 - 1 := Nat.mod_lt _ (by decide)
  generalize t / 2 % (2 ^ 52 - 1) = k at *
  rcases (by omega : t % 2 = 0 ∨ t % 2 = 1) with e | e <;> rw [e] <;> omega
theorem cut_lt (x y t : Nat) : (Question.nanBits .f64 x y).cut t < 2 ^ 64 := by
  unfold Question.cut
  simp only
  have h1 : t / 2 % (2 ^ 52 - 1) < 2 ^ 52 - 1 := Nat.mod_lt _ (by decide)
  generalize t / 2 % (2 ^ 52 - 1) = k at *
  rcases (by omega : t % 2 = 0 ∨ t % 2 = 1) with e | e <;> rw [e] <;> omega

theorem fop_some {op : BinOp} {x y r : Nat} (h : floatBits op .f64 x y = some r) (w : World) : fop op x y w = r := by simp [fop, h]
theorem fop_none {op : BinOp} {x y : Nat} (h : floatBits op .f64 x y = none) (w : World) : isNaN (fop op x y w) = true := by
  simp only [fop, h]; exact cut_nan _ _ _
theorem fop_lt (op : BinOp) (x y : Nat) (w : World) : fop op x y w < 2 ^ 64 := by
  cases h : floatBits op .f64 x y with
  | some r => rw [fop_some h]; have := floatBits_wf h; simpa [Lit.wf] using this
  | none => simp only [fop, h]; exact cut_lt _ _ _

/-- Two words are the same, or both NaN: what a deterministic program may be sure of. -/
def same (x y : Nat) : Prop := x = y ∨ (isNaN x = true ∧ isNaN y = true)
theorem same.refl (x : Nat) : same x x := .inl rfl
theorem same.symm {x y : Nat} (h : same x y) : same y x := by
  rcases h with rfl | ⟨a, b⟩
  · exact .inl rfl
  · exact .inr ⟨b, a⟩
theorem same.trans {x y z : Nat} (h : same x y) (k : same y z) : same x z := by
  rcases h with rfl | ⟨a, b⟩
  · exact k
  · rcases k with rfl | ⟨c, d⟩
    · exact .inr ⟨a, b⟩
    · exact .inr ⟨a, d⟩

abbrev ord (x y : Nat) : Option Ordering := double.order x y
theorem ord_nan_left {x : Nat} (h : isNaN x = true) (y : Nat) : ord x y = none := by
  obtain ⟨s, t, e⟩ := read_nan x h
  simp [ord, Format.order, e, Datum.order]
theorem ord_nan_right {y : Nat} (h : isNaN y = true) (x : Nat) : ord x y = none := by
  obtain ⟨s, t, e⟩ := read_nan y h
  simp only [ord, Format.order, e]
  cases double.read x <;> rfl
theorem ord_self {x : Nat} (h : isNaN x = false) : ord x x = some .eq := by
  rcases tri x with f | i | n
  · simp [ord, Format.order, read_fin x f, Datum.order]
  · simp [ord, Format.order, read_inf x i, Datum.order]
  · simp [n] at h
theorem ord_self_eq (x : Nat) : (ord x x == some .eq) = !isNaN x := by
  cases h : isNaN x
  · rw [ord_self h]; rfl
  · rw [ord_nan_left h]; rfl
theorem ord_self_ne (x : Nat) : (ord x x != some .eq) = isNaN x := by
  cases h : isNaN x
  · rw [ord_self h]; rfl
  · rw [ord_nan_left h]; rfl
theorem same.ord {x y u v : Nat} (h : same x y) (k : same u v) : ord x u = ord y v := by
  rcases h with rfl | ⟨a, b⟩
  · rcases k with rfl | ⟨c, d⟩
    · rfl
    · rw [ord_nan_right c, ord_nan_right d]
  · rw [ord_nan_left a, ord_nan_left b]

theorem bits_nan {op : BinOp} (h : op = .add ∨ op = .sub ∨ op = .mul ∨ op = .quo) (x y : Nat) (n : isNaN x = true ∨ isNaN y = true) : floatBits op .f64 x y = none := by
  rcases n with n | n
  · obtain ⟨s, t, e⟩ := read_nan _ n
    rcases h with rfl | rfl | rfl | rfl <;> simp [floatBits, FloatKind.format, Format.add, Format.sub, Format.mul, Format.div, e, Datum.sum, Datum.product, Datum.quotient]
  · obtain ⟨s, t, e⟩ := read_nan _ n
    rcases h with rfl | rfl | rfl | rfl <;> simp only [floatBits, FloatKind.format, Format.add, Format.sub, Format.mul, Format.div, e] <;> cases double.read x <;> simp [Datum.sum, Datum.product, Datum.quotient, Datum.opposite]
theorem same.fop {op : BinOp} (h : op = .add ∨ op = .sub ∨ op = .mul ∨ op = .quo) {x y u v : Nat} (hx : same x u) (hy : same y v) (w w' : World) : same (fop op x y w) (fop op u v w') := by
  rcases hx with rfl | ⟨a, b⟩
  · rcases hy with rfl | ⟨c, d⟩
    · cases e : floatBits op .f64 x y with
      | some r => rw [fop_some e, fop_some e]; exact .inl rfl
      | none => exact .inr ⟨fop_none e w, fop_none e w'⟩
    · exact .inr ⟨fop_none (bits_nan h _ _ (.inr c)) w, fop_none (bits_nan h _ _ (.inr d)) w'⟩
  · exact .inr ⟨fop_none (bits_nan h _ _ (.inl a)) w, fop_none (bits_nan h _ _ (.inl b)) w'⟩
theorem same_add {x y u v : Nat} (hx : same x u) (hy : same y v) (w w' : World) : same (Fl.fop .add x y w) (Fl.fop .add u v w') := same.fop (by simp) hx hy w w'
theorem same_sub {x y u v : Nat} (hx : same x u) (hy : same y v) (w w' : World) : same (Fl.fop .sub x y w) (Fl.fop .sub u v w') := same.fop (by simp) hx hy w w'
theorem same_mul {x y u v : Nat} (hx : same x u) (hy : same y v) (w w' : World) : same (Fl.fop .mul x y w) (Fl.fop .mul u v w') := same.fop (by simp) hx hy w w'
theorem same_quo {x y u v : Nat} (hx : same x u) (hy : same y v) (w w' : World) : same (Fl.fop .quo x y w) (Fl.fop .quo u v w') := same.fop (by simp) hx hy w w'

end Go.Proofs.Ytigkfdoeneemeab.Fl
/- office.Best and Deepest, and the reference's. -/
namespace Go.Proofs.Ytigkfdoeneemeab
open Go.RowKit

/-- What counts of a report. -/
structure KF where
  er : Int
  hi : Fr
  lw : Fr
def RL.key (x : RL) : KF := ⟨x.er, x.hi.r, x.lw.r⟩
def cntK (K : List KF) (s : KF → Fr) (k : Nat) : Bool := match K[k]? with | some x => cntF x.er (s x) | none => false
/-- Is the report at i ahead of that at j? -/
def hiK (K : List KF) (s : KF → Fr) (rev : Bool) (i j : Nat) : Bool := match K[i]?, K[j]? with | some x, some y => if rev then abvF (s y) (s x) else abvF (s x) (s y) | _, _ => false
def bst (K : List KF) (s : KF → Fr) (rev : Bool) : Nat → Option Nat
  | 0 => none
  | k + 1 => if cntK K s k = true then (match bst K s rev k with | none => some k | some b => if hiK K s rev k b = true then some k else some b) else bst K s rev k
theorem bst_lt (K : List KF) (s : KF → Fr) (rev : Bool) : ∀ (k p : Nat), bst K s rev k = some p → p < k ∧ p < K.length := by
  intro k
  induction k with
  | zero => intro p h; cases h
  | succ k ih =>
    intro p h
    rw [bst] at h
    by_cases c : cntK K s k = true
    · rw [if_pos c] at h
      have hk : k < K.length := by
        unfold cntK at c
        cases e : K[k]? with
        | none => rw [e] at c; cases c
        | some x => exact (List.getElem?_eq_some_iff.1 e).1
      cases hb : bst K s rev k with
      | none => rw [hb] at h; simp at h; omega
      | some b =>
        rw [hb] at h
        have := ih b hb
        simp only at h
        split at h <;> (simp at h; omega)
    · rw [if_neg c] at h
      have := ih p h
      omega
def optI (o : Option Nat) : Int := match o with | none => -1 | some k => (k : Int)
theorem keys_at {l : List RL} {k : Nat} {x : RL} (h : l[k]? = some x) : (l.map RL.key)[k]? = some x.key := by rw [List.getElem?_map, h]; rfl

set_option maxHeartbeats 1000000 in
theorem toldfirstHi (x : RL) (w : World) : Calls Try.prog 18 #[rlV x] w fun e w' => e = .returned (frV x.hi.r x.hi.a x.hi.c x.hi.b x.hi.d) ∧ ∃ z, w' = w.ext z := by
  obtain ⟨nm, er, wa, wn, wc, ⟨⟨hn, hnum, hden⟩, ha, hc, hb, hd⟩, hat, ⟨⟨ln, lnum, lden⟩, la, lc, lb, ld⟩, lat, off⟩ := x
  go_enter Try.func18, Try.ntmps18
  go_wp2
  exact bodyPost_ret (v := .agg #[.bool hn, .slice ha hnum.length hc, .slice hb hden.length hd]) (by simp [results, Try.results18, go_sem]) rfl ⟨rfl, Blw.is (by repeat (first | exact Blw.refl _ | apply Blw.ext | apply Blw.alloc | apply Blw.drewN | apply Blw.drew | refine Blw.setCell ?_ _ _ (by simp)))⟩
set_option maxHeartbeats 1000000 in
theorem toldfirstLw (x : RL) (w : World) : Calls Try.prog 22 #[rlV x] w fun e w' => e = .returned (frV x.lw.r x.lw.a x.lw.c x.lw.b x.lw.d) ∧ ∃ z, w' = w.ext z := by
  obtain ⟨nm, er, wa, wn, wc, ⟨⟨hn, hnum, hden⟩, ha, hc, hb, hd⟩, hat, ⟨⟨ln, lnum, lden⟩, la, lc, lb, ld⟩, lat, off⟩ := x
  go_enter Try.func22, Try.ntmps22
  go_wp2
  exact bodyPost_ret (v := .agg #[.bool ln, .slice la lnum.length lc, .slice lb lden.length ld]) (by simp [results, Try.results22, go_sem]) rfl ⟨rfl, Blw.is (by repeat (first | exact Blw.refl _ | apply Blw.ext | apply Blw.alloc | apply Blw.drewN | apply Blw.drew | refine Blw.setCell ?_ _ _ (by simp)))⟩
set_option maxHeartbeats 1000000 in
theorem deep2_any (x y : FL) (w : World) (hx : FL.In w x) (hy : FL.In w y) :
    Calls Try.prog 23 #[frV x.r x.a x.c x.b x.d, frV y.r y.a y.c y.b y.d] w fun e w' => e = .returned (.bool (abvF y.r x.r)) ∧ ∃ z, w' = w.ext z := by
  have H1 := Lib.hid (fun (W : World) (hb : Blw w W) => above_any y x W (hy.blw hb) (hx.blw hb))
  generalize abvF y.r x.r = cv at *
  clear hx hy
  go_enter Try.func23, Try.ntmps23
  go_wp2_with fail
  refine Calls.mono (H1.out _ (by repeat (first | exact Blw.refl _ | apply Blw.ext | apply Blw.alloc | apply Blw.drewN | apply Blw.drew | refine Blw.setCell ?_ _ _ (by simp)))) ?_
  rintro e w1 ⟨rfl, x1, rfl⟩
  go_wp2
  go_ret
  exact ⟨rfl, Blw.is (by repeat (first | exact Blw.refl _ | apply Blw.ext | apply Blw.alloc | apply Blw.drewN | apply Blw.drew | refine Blw.setCell ?_ _ _ (by simp)))⟩
theorem aheadfirstHi (x y : FL) (w : World) (hx : FL.In w x) (hy : FL.In w y) :
    Calls Try.prog 19 #[frV x.r x.a x.c x.b x.d, frV y.r y.a y.c y.b y.d] w fun e w' => e = .returned (.bool (if false then abvF y.r x.r else abvF x.r y.r)) ∧ ∃ z, w' = w.ext z := above_any x y w hx hy
theorem aheadfirstLw (x y : FL) (w : World) (hx : FL.In w x) (hy : FL.In w y) :
    Calls Try.prog 23 #[frV x.r x.a x.c x.b x.d, frV y.r y.a y.c y.b y.d] w fun e w' => e = .returned (.bool (if true then abvF y.r x.r else abvF x.r y.r)) ∧ ∃ z, w' = w.ext z := deep2_any x y w hx hy
abbrev fnV (f : Nat) : Value := .func (.func f) #[] #[]

set_option maxRecDepth 100000 in
set_option maxHeartbeats 4000000 in
theorem firstHi (A : Option Addr) (l : List RL) (cap : Nat) (w : World) (hA : Arr w A (rls l)) (hin : ∀ x ∈ l, RL.In w x) (hl : l.length ≤ 100000) :
    Calls Try.prog 17 #[.slice A l.length cap, fnV 18, fnV 19] w fun e w' => e = .returned (.tuple #[.int .i64 ((bst (l.map RL.key) KF.hi false l.length).getD 0 : Nat), .bool (bst (l.map RL.key) KF.hi false l.length).isSome]) ∧ ∃ x, w' = w.ext x := by
  have HIN := Lib.hid hin
  clear hin
  go_enter Try.func17, Try.ntmps17
  go_wp2
  go_loopw [8, 9, 10, 13] (fun v8 _ _ vi wr => ∃ k : Nat, k ≤ l.length ∧ vi = .int .i64 k ∧ v8 = .int .i64 (optI (bst (l.map RL.key) KF.hi false k)) ∧ Blw w wr) (fun _ _ _ i _ => l.length - (intOf i).toNat)
  case atStart => exact ⟨0, Nat.zero_le _, rfl, rfl, (by repeat (first | exact Blw.refl _ | apply Blw.ext | apply Blw.alloc | apply Blw.drewN | apply Blw.drew | refine Blw.setCell ?_ _ _ (by simp)))⟩
  case round =>
    obtain ⟨k, hk, rfl, rfl, hb⟩ := hrel
    by_cases hlt : k < l.length
    · obtain ⟨x, b, o, hgx, hmx, e1, hbs, c0, c1, c2, c3, c4, c5, c6, c7, c8, c9, c10, c11⟩ := rl_at (hA.blw hb) hlt
      have hxin := (HIN.out x hmx).blw hb
      have hst : bst (l.map RL.key) KF.hi false (k + 1) = if cntF x.er x.hi.r = true then (match bst (l.map RL.key) KF.hi false k with | none => some k | some b => if hiK (l.map RL.key) KF.hi false k b = true then some k else some b) else bst (l.map RL.key) KF.hi false k := by
        rw [bst]; unfold cntK; rw [keys_at hgx]; rfl
      have CK := Lib.hid (fun (W : World) (hW : Blw wr W) => ratioCheck_any x.hi.r x.hi.a x.hi.c x.hi.b x.hi.d W ((hxin.hi).blw hW))
      have TX := Lib.hid (fun (W : World) => toldfirstHi x W)
      have HB : Hid (∀ p, bst (l.map RL.key) KF.hi false k = some p → ∃ y : RL, p < l.length ∧ (∀ j, j < 12 → wr.cell? ⟨b, o + p * 12 + j, none⟩ = y.cells[j]?) ∧
          ∀ W : World, Blw wr W → Calls Try.prog 19 #[frV x.hi.r x.hi.a x.hi.c x.hi.b x.hi.d, frV y.hi.r y.hi.a y.hi.c y.hi.b y.hi.d] W fun e w' => e = .returned (.bool (hiK (l.map RL.key) KF.hi false k p)) ∧ ∃ z, w' = W.ext z) := by
        intro p hp
        obtain ⟨hpk, hpl⟩ := bst_lt _ _ _ k p hp
        rw [List.length_map] at hpl
        obtain ⟨y, b2, o2, hgy, hmy, e3, hbs2, hcs⟩ := cells_arr RL.cells 12 (fun _ => rfl) (by decide) (hA.blw hb) hpl
        rw [e1] at e3
        simp only [Option.some.injEq, Addr.mk.injEq] at e3
        obtain ⟨rfl, rfl, -⟩ := e3
        refine ⟨y, hpl, hcs, fun W hW => ?_⟩
        have hh : hiK (l.map RL.key) KF.hi false k p = if false then abvF y.hi.r x.hi.r else abvF x.hi.r y.hi.r := by
          unfold hiK; rw [keys_at hgx, keys_at hgy]; rfl
        rw [hh]
        exact aheadfirstHi x.hi y.hi W ((hxin.hi).blw hW) ((((HIN.out y hmy).blw hb).hi).blw hW)
      have HST := Lib.hid hst
      subst e1
      clear hst hxin hgx hmx
      obtain ⟨nm, er, wa, wn, wc, ⟨⟨hn, hnum, hden⟩, ha, hc, hb', hd⟩, hat, ⟨⟨ln, lnum, lden⟩, la, lc, lb, ld⟩, lat, off⟩ := x
      simp only at HST HB CK TX c0 c1 c2 c3 c4 c5 c6 c7 c8 c9 c10 c11
      generalize hfk : bst (l.map RL.key) KF.hi false k = fk at *
      clear hfk
      by_cases her : er = 0
      · subst her
        go_wp2_with fail
        refine Calls.mono (TX.out _) ?_
        rintro e w1 ⟨rfl, x1, rfl⟩
        go_wp2_with fail
        refine Calls.mono (CK.out _ (by repeat (first | exact Blw.refl _ | apply Blw.ext | apply Blw.alloc | apply Blw.drewN | apply Blw.drew | refine Blw.setCell ?_ _ _ (by simp)))) ?_
        rintro e w2 ⟨rfl, x2, rfl⟩
        have hcc : cntF 0 ⟨hn, hnum, hden⟩ = (chkF ⟨hn, hnum, hden⟩ == 0) := by unfold cntF; simp
        have HST2 := Lib.hid (hcc ▸ HST.out)
        clear HST CK hcc
        generalize chkF _ = ck at *
        by_cases hck : ck = 0
        · subst hck
          cases fk with
          | none =>
            have HS3 : Hid (bst (l.map RL.key) KF.hi false (k + 1) = some k) := HST2.out
            have q8 : optI none = -1 := rfl
            clear HST2 HB
            go_wp2
            refine wp_region_ext_lit (by kernel_rfl) (by kernel_rfl) ?_
            repeat (go_big_quiet_step (fail))
            refine wpQuiet_nil ?_
            rintro _ ⟨z, rfl⟩
            go_wp2
            go_roundw
            case rel => exact ⟨k + 1, hlt, by go_num, by rw [HS3.out]; rfl, hb.trans (by repeat (first | exact Blw.refl _ | apply Blw.ext | apply Blw.alloc | apply Blw.drewN | apply Blw.drew | refine Blw.setCell ?_ _ _ (by simp)))⟩
            case measure => simp [intOf]; omega
          | some p =>
            have HS3 : Hid (bst (l.map RL.key) KF.hi false (k + 1) = if hiK (l.map RL.key) KF.hi false k p = true then some k else some p) := HST2.out
            obtain ⟨y, hpl, hcs, hcl⟩ := HB.out p rfl
            have HC := Lib.hid hcl
            have TY := Lib.hid (fun (W : World) => toldfirstHi y W)
            obtain ⟨ynm, yer, ywa, ywn, ywc, ⟨⟨yhn, yhnum, yhden⟩, yha, yhc, yhb, yhd⟩, yhat, ⟨⟨yln, ylnum, ylden⟩, yla, ylc, ylb, yld⟩, ylat, yoff⟩ := y
            have g0 := (hcs 0 (by decide)).trans rfl
            have g1 := (hcs 1 (by decide)).trans rfl
            have g2 := (hcs 2 (by decide)).trans rfl
            have g3 := (hcs 3 (by decide)).trans rfl
            have g4 := (hcs 4 (by decide)).trans rfl
            have g5 := (hcs 5 (by decide)).trans rfl
            have g6 := (hcs 6 (by decide)).trans rfl
            have g7 := (hcs 7 (by decide)).trans rfl
            have g8 := (hcs 8 (by decide)).trans rfl
            have g9 := (hcs 9 (by decide)).trans rfl
            have g10 := (hcs 10 (by decide)).trans rfl
            have g11 := (hcs 11 (by decide)).trans rfl
            simp only [RL.cells, List.getElem?_cons_zero, List.getElem?_cons_succ, Nat.add_zero] at g0 g1 g2 g3 g4 g5 g6 g7 g8 g9 g10 g11
            simp only at HC TY
            have q8 : optI (some p) = (p : Int) := rfl
            have q9 : decide ((p : Int) < 0) = false := by simp
            clear HST2 HB hcs hcl
            generalize hiK (l.map RL.key) KF.hi false k p = hv at *
            go_wp2
            refine name_world (fun W => Blw (wr.alloc (.cells #[.string nm, .int .i64 0, .slice wa wn wc, .bool hn, .slice ha hnum.length hc, .slice hb' hden.length hd, .int .i64 hat, .bool ln, .slice la lnum.length lc, .slice lb lden.length ld, .int .i64 lat, .float .f64 off] 31)) W) (by repeat (first | exact Blw.refl _ | apply Blw.ext | apply Blw.alloc | apply Blw.drewN | apply Blw.drew | refine Blw.setCell ?_ _ _ (by simp))) ?_
            rintro W hbW
            obtain ⟨hsW, b0, b1, b2, b3, b4, b5, b6, b7, b8, b9, b10, b11⟩ := box12 hbW
            replace hbW := ((Blw.refl wr).alloc _).trans hbW
            have hbsW := Nat.lt_of_lt_of_le hbs hbW.size
            replace g0 := (Below.cell hbW hbs).trans g0
            replace g1 := (Below.cell hbW hbs).trans g1
            replace g2 := (Below.cell hbW hbs).trans g2
            replace g3 := (Below.cell hbW hbs).trans g3
            replace g4 := (Below.cell hbW hbs).trans g4
            replace g5 := (Below.cell hbW hbs).trans g5
            replace g6 := (Below.cell hbW hbs).trans g6
            replace g7 := (Below.cell hbW hbs).trans g7
            replace g8 := (Below.cell hbW hbs).trans g8
            replace g9 := (Below.cell hbW hbs).trans g9
            replace g10 := (Below.cell hbW hbs).trans g10
            replace g11 := (Below.cell hbW hbs).trans g11
            refine wp_region_ext_lit (by kernel_rfl) (by kernel_rfl) ?_
            repeat (go_big_quiet_step (first | (go_at_call 18; first | (with_reducible exact Calls.ext_of (TX.out _)) | (with_reducible exact Calls.ext_of (TY.out _))) | (go_at_call 19; exact Calls.ext_of (HC.out _ (hbW.trans (by repeat (first | exact Blw.refl _ | apply Blw.ext | apply Blw.alloc | apply Blw.drewN | apply Blw.drew | refine Blw.setCell ?_ _ _ (by simp))))))))
            refine wpQuiet_nil ?_
            rintro _ ⟨z, rfl⟩
            cases hv
            · have HS4 : Hid (bst (l.map RL.key) KF.hi false (k + 1) = some p) := HS3.out
              go_wp2
              go_roundw
              case rel => exact ⟨k + 1, hlt, by go_num, by rw [HS4.out]; rfl, hb.trans (hbW.trans (by repeat (first | exact Blw.refl _ | apply Blw.ext | apply Blw.alloc | apply Blw.drewN | apply Blw.drew | refine Blw.setCell ?_ _ _ (by simp))))⟩
              case measure => simp [intOf]; omega
            · have HS4 : Hid (bst (l.map RL.key) KF.hi false (k + 1) = some k) := HS3.out
              go_wp2
              go_roundw
              case rel => exact ⟨k + 1, hlt, by go_num, by rw [HS4.out]; rfl, hb.trans (hbW.trans (by repeat (first | exact Blw.refl _ | apply Blw.ext | apply Blw.alloc | apply Blw.drewN | apply Blw.drew | refine Blw.setCell ?_ _ _ (by simp))))⟩
              case measure => simp [intOf]; omega
        · have HS3 : Hid (bst (l.map RL.key) KF.hi false (k + 1) = fk) := by
            have := HST2.out
            rwa [if_neg (by simpa using hck)] at this
          have q : (ck != 0) = true := by simpa using hck
          clear HST2 HB hck
          go_wp2
          go_roundw
          case rel => exact ⟨k + 1, hlt, by go_num, by rw [HS3.out], hb.trans (by repeat (first | exact Blw.refl _ | apply Blw.ext | apply Blw.alloc | apply Blw.drewN | apply Blw.drew | refine Blw.setCell ?_ _ _ (by simp)))⟩
          case measure => simp [intOf]; omega
      · have HS3 : Hid (bst (l.map RL.key) KF.hi false (k + 1) = fk) := by
          have := HST.out
          rwa [if_neg (by unfold cntF; simp [her])] at this
        have q : (er != 0) = true := by simpa using her
        clear HST HB her
        go_wp2
        go_roundw
        case rel => exact ⟨k + 1, hlt, by go_num, by rw [HS3.out], hb.trans (by repeat (first | exact Blw.refl _ | apply Blw.ext | apply Blw.alloc | apply Blw.drewN | apply Blw.drew | refine Blw.setCell ?_ _ _ (by simp)))⟩
        case measure => simp [intOf]; omega
    · have hkl : k = l.length := by omega
      subst hkl
      cases hfk : bst (l.map RL.key) KF.hi false l.length with
      | none =>
        have q8 : optI none = -1 := rfl
        go_wp2
        go_ret2
        exact ⟨by rw [hfk]; rfl, Blw.is hb⟩
      | some p =>
        have q8 : optI (some p) = (p : Int) := rfl
        go_wp2
        go_ret2
        exact ⟨by rw [hfk]; rfl, Blw.is hb⟩
set_option maxRecDepth 100000 in
set_option maxHeartbeats 4000000 in
theorem firstLw (A : Option Addr) (l : List RL) (cap : Nat) (w : World) (hA : Arr w A (rls l)) (hin : ∀ x ∈ l, RL.In w x) (hl : l.length ≤ 100000) :
    Calls Try.prog 17 #[.slice A l.length cap, fnV 22, fnV 23] w fun e w' => e = .returned (.tuple #[.int .i64 ((bst (l.map RL.key) KF.lw true l.length).getD 0 : Nat), .bool (bst (l.map RL.key) KF.lw true l.length).isSome]) ∧ ∃ x, w' = w.ext x := by
  have HIN := Lib.hid hin
  clear hin
  go_enter Try.func17, Try.ntmps17
  go_wp2
  go_loopw [8, 9, 10, 13] (fun v8 _ _ vi wr => ∃ k : Nat, k ≤ l.length ∧ vi = .int .i64 k ∧ v8 = .int .i64 (optI (bst (l.map RL.key) KF.lw true k)) ∧ Blw w wr) (fun _ _ _ i _ => l.length - (intOf i).toNat)
  case atStart => exact ⟨0, Nat.zero_le _, rfl, rfl, (by repeat (first | exact Blw.refl _ | apply Blw.ext | apply Blw.alloc | apply Blw.drewN | apply Blw.drew | refine Blw.setCell ?_ _ _ (by simp)))⟩
  case round =>
    obtain ⟨k, hk, rfl, rfl, hb⟩ := hrel
    by_cases hlt : k < l.length
    · obtain ⟨x, b, o, hgx, hmx, e1, hbs, c0, c1, c2, c3, c4, c5, c6, c7, c8, c9, c10, c11⟩ := rl_at (hA.blw hb) hlt
      have hxin := (HIN.out x hmx).blw hb
      have hst : bst (l.map RL.key) KF.lw true (k + 1) = if cntF x.er x.lw.r = true then (match bst (l.map RL.key) KF.lw true k with | none => some k | some b => if hiK (l.map RL.key) KF.lw true k b = true then some k else some b) else bst (l.map RL.key) KF.lw true k := by
        rw [bst]; unfold cntK; rw [keys_at hgx]; rfl
      have CK := Lib.hid (fun (W : World) (hW : Blw wr W) => ratioCheck_any x.lw.r x.lw.a x.lw.c x.lw.b x.lw.d W ((hxin.lw).blw hW))
      have TX := Lib.hid (fun (W : World) => toldfirstLw x W)
      have HB : Hid (∀ p, bst (l.map RL.key) KF.lw true k = some p → ∃ y : RL, p < l.length ∧ (∀ j, j < 12 → wr.cell? ⟨b, o + p * 12 + j, none⟩ = y.cells[j]?) ∧
          ∀ W : World, Blw wr W → Calls Try.prog 23 #[frV x.lw.r x.lw.a x.lw.c x.lw.b x.lw.d, frV y.lw.r y.lw.a y.lw.c y.lw.b y.lw.d] W fun e w' => e = .returned (.bool (hiK (l.map RL.key) KF.lw true k p)) ∧ ∃ z, w' = W.ext z) := by
        intro p hp
        obtain ⟨hpk, hpl⟩ := bst_lt _ _ _ k p hp
        rw [List.length_map] at hpl
        obtain ⟨y, b2, o2, hgy, hmy, e3, hbs2, hcs⟩ := cells_arr RL.cells 12 (fun _ => rfl) (by decide) (hA.blw hb) hpl
        rw [e1] at e3
        simp only [Option.some.injEq, Addr.mk.injEq] at e3
        obtain ⟨rfl, rfl, -⟩ := e3
        refine ⟨y, hpl, hcs, fun W hW => ?_⟩
        have hh : hiK (l.map RL.key) KF.lw true k p = if true then abvF y.lw.r x.lw.r else abvF x.lw.r y.lw.r := by
          unfold hiK; rw [keys_at hgx, keys_at hgy]; rfl
        rw [hh]
        exact aheadfirstLw x.lw y.lw W ((hxin.lw).blw hW) ((((HIN.out y hmy).blw hb).lw).blw hW)
      have HST := Lib.hid hst
      subst e1
      clear hst hxin hgx hmx
      obtain ⟨nm, er, wa, wn, wc, ⟨⟨hn, hnum, hden⟩, ha, hc, hb', hd⟩, hat, ⟨⟨ln, lnum, lden⟩, la, lc, lb, ld⟩, lat, off⟩ := x
      simp only at HST HB CK TX c0 c1 c2 c3 c4 c5 c6 c7 c8 c9 c10 c11
      generalize hfk : bst (l.map RL.key) KF.lw true k = fk at *
      clear hfk
      by_cases her : er = 0
      · subst her
        go_wp2_with fail
        refine Calls.mono (TX.out _) ?_
        rintro e w1 ⟨rfl, x1, rfl⟩
        go_wp2_with fail
        refine Calls.mono (CK.out _ (by repeat (first | exact Blw.refl _ | apply Blw.ext | apply Blw.alloc | apply Blw.drewN | apply Blw.drew | refine Blw.setCell ?_ _ _ (by simp)))) ?_
        rintro e w2 ⟨rfl, x2, rfl⟩
        have hcc : cntF 0 ⟨ln, lnum, lden⟩ = (chkF ⟨ln, lnum, lden⟩ == 0) := by unfold cntF; simp
        have HST2 := Lib.hid (hcc ▸ HST.out)
        clear HST CK hcc
        generalize chkF _ = ck at *
        by_cases hck : ck = 0
        · subst hck
          cases fk with
          | none =>
            have HS3 : Hid (bst (l.map RL.key) KF.lw true (k + 1) = some k) := HST2.out
            have q8 : optI none = -1 := rfl
            clear HST2 HB
            go_wp2
            refine wp_region_ext_lit (by kernel_rfl) (by kernel_rfl) ?_
            repeat (go_big_quiet_step (fail))
            refine wpQuiet_nil ?_
            rintro _ ⟨z, rfl⟩
            go_wp2
            go_roundw
            case rel => exact ⟨k + 1, hlt, by go_num, by rw [HS3.out]; rfl, hb.trans (by repeat (first | exact Blw.refl _ | apply Blw.ext | apply Blw.alloc | apply Blw.drewN | apply Blw.drew | refine Blw.setCell ?_ _ _ (by simp)))⟩
            case measure => simp [intOf]; omega
          | some p =>
            have HS3 : Hid (bst (l.map RL.key) KF.lw true (k + 1) = if hiK (l.map RL.key) KF.lw true k p = true then some k else some p) := HST2.out
            obtain ⟨y, hpl, hcs, hcl⟩ := HB.out p rfl
            have HC := Lib.hid hcl
            have TY := Lib.hid (fun (W : World) => toldfirstLw y W)
            obtain ⟨ynm, yer, ywa, ywn, ywc, ⟨⟨yhn, yhnum, yhden⟩, yha, yhc, yhb, yhd⟩, yhat, ⟨⟨yln, ylnum, ylden⟩, yla, ylc, ylb, yld⟩, ylat, yoff⟩ := y
            have g0 := (hcs 0 (by decide)).trans rfl
            have g1 := (hcs 1 (by decide)).trans rfl
            have g2 := (hcs 2 (by decide)).trans rfl
            have g3 := (hcs 3 (by decide)).trans rfl
            have g4 := (hcs 4 (by decide)).trans rfl
            have g5 := (hcs 5 (by decide)).trans rfl
            have g6 := (hcs 6 (by decide)).trans rfl
            have g7 := (hcs 7 (by decide)).trans rfl
            have g8 := (hcs 8 (by decide)).trans rfl
            have g9 := (hcs 9 (by decide)).trans rfl
            have g10 := (hcs 10 (by decide)).trans rfl
            have g11 := (hcs 11 (by decide)).trans rfl
            simp only [RL.cells, List.getElem?_cons_zero, List.getElem?_cons_succ, Nat.add_zero] at g0 g1 g2 g3 g4 g5 g6 g7 g8 g9 g10 g11
            simp only at HC TY
            have q8 : optI (some p) = (p : Int) := rfl
            have q9 : decide ((p : Int) < 0) = false := by simp
            clear HST2 HB hcs hcl
            generalize hiK (l.map RL.key) KF.lw true k p = hv at *
            go_wp2
            refine name_world (fun W => Blw (wr.alloc (.cells #[.string nm, .int .i64 0, .slice wa wn wc, .bool hn, .slice ha hnum.length hc, .slice hb' hden.length hd, .int .i64 hat, .bool ln, .slice la lnum.length lc, .slice lb lden.length ld, .int .i64 lat, .float .f64 off] 31)) W) (by repeat (first | exact Blw.refl _ | apply Blw.ext | apply Blw.alloc | apply Blw.drewN | apply Blw.drew | refine Blw.setCell ?_ _ _ (by simp))) ?_
            rintro W hbW
            obtain ⟨hsW, b0, b1, b2, b3, b4, b5, b6, b7, b8, b9, b10, b11⟩ := box12 hbW
            replace hbW := ((Blw.refl wr).alloc _).trans hbW
            have hbsW := Nat.lt_of_lt_of_le hbs hbW.size
            replace g0 := (Below.cell hbW hbs).trans g0
            replace g1 := (Below.cell hbW hbs).trans g1
            replace g2 := (Below.cell hbW hbs).trans g2
            replace g3 := (Below.cell hbW hbs).trans g3
            replace g4 := (Below.cell hbW hbs).trans g4
            replace g5 := (Below.cell hbW hbs).trans g5
            replace g6 := (Below.cell hbW hbs).trans g6
            replace g7 := (Below.cell hbW hbs).trans g7
            replace g8 := (Below.cell hbW hbs).trans g8
            replace g9 := (Below.cell hbW hbs).trans g9
            replace g10 := (Below.cell hbW hbs).trans g10
            replace g11 := (Below.cell hbW hbs).trans g11
            refine wp_region_ext_lit (by kernel_rfl) (by kernel_rfl) ?_
            repeat (go_big_quiet_step (first | (go_at_call 22; first | (with_reducible exact Calls.ext_of (TX.out _)) | (with_reducible exact Calls.ext_of (TY.out _))) | (go_at_call 23; exact Calls.ext_of (HC.out _ (hbW.trans (by repeat (first | exact Blw.refl _ | apply Blw.ext | apply Blw.alloc | apply Blw.drewN | apply Blw.drew | refine Blw.setCell ?_ _ _ (by simp))))))))
            refine wpQuiet_nil ?_
            rintro _ ⟨z, rfl⟩
            cases hv
            · have HS4 : Hid (bst (l.map RL.key) KF.lw true (k + 1) = some p) := HS3.out
              go_wp2
              go_roundw
              case rel => exact ⟨k + 1, hlt, by go_num, by rw [HS4.out]; rfl, hb.trans (hbW.trans (by repeat (first | exact Blw.refl _ | apply Blw.ext | apply Blw.alloc | apply Blw.drewN | apply Blw.drew | refine Blw.setCell ?_ _ _ (by simp))))⟩
              case measure => simp [intOf]; omega
            · have HS4 : Hid (bst (l.map RL.key) KF.lw true (k + 1) = some k) := HS3.out
              go_wp2
              go_roundw
              case rel => exact ⟨k + 1, hlt, by go_num, by rw [HS4.out]; rfl, hb.trans (hbW.trans (by repeat (first | exact Blw.refl _ | apply Blw.ext | apply Blw.alloc | apply Blw.drewN | apply Blw.drew | refine Blw.setCell ?_ _ _ (by simp))))⟩
              case measure => simp [intOf]; omega
        · have HS3 : Hid (bst (l.map RL.key) KF.lw true (k + 1) = fk) := by
            have := HST2.out
            rwa [if_neg (by simpa using hck)] at this
          have q : (ck != 0) = true := by simpa using hck
          clear HST2 HB hck
          go_wp2
          go_roundw
          case rel => exact ⟨k + 1, hlt, by go_num, by rw [HS3.out], hb.trans (by repeat (first | exact Blw.refl _ | apply Blw.ext | apply Blw.alloc | apply Blw.drewN | apply Blw.drew | refine Blw.setCell ?_ _ _ (by simp)))⟩
          case measure => simp [intOf]; omega
      · have HS3 : Hid (bst (l.map RL.key) KF.lw true (k + 1) = fk) := by
          have := HST.out
          rwa [if_neg (by unfold cntF; simp [her])] at this
        have q : (er != 0) = true := by simpa using her
        clear HST HB her
        go_wp2
        go_roundw
        case rel => exact ⟨k + 1, hlt, by go_num, by rw [HS3.out], hb.trans (by repeat (first | exact Blw.refl _ | apply Blw.ext | apply Blw.alloc | apply Blw.drewN | apply Blw.drew | refine Blw.setCell ?_ _ _ (by simp)))⟩
        case measure => simp [intOf]; omega
    · have hkl : k = l.length := by omega
      subst hkl
      cases hfk : bst (l.map RL.key) KF.lw true l.length with
      | none =>
        have q8 : optI none = -1 := rfl
        go_wp2
        go_ret2
        exact ⟨by rw [hfk]; rfl, Blw.is hb⟩
      | some p =>
        have q8 : optI (some p) = (p : Int) := rfl
        go_wp2
        go_ret2
        exact ⟨by rw [hfk]; rfl, Blw.is hb⟩
set_option maxHeartbeats 1000000 in
theorem bestHi (A : Option Addr) (l : List RL) (cap : Nat) (w : World) (hA : Arr w A (rls l)) (hin : ∀ x ∈ l, RL.In w x) (hl : l.length ≤ 100000) :
    Calls Try.prog 6 #[.slice A l.length cap] w fun e w' => e = .returned (.tuple #[.int .i64 ((bst (l.map RL.key) KF.hi false l.length).getD 0 : Nat), .bool (bst (l.map RL.key) KF.hi false l.length).isSome]) ∧ ∃ x, w' = w.ext x := by
  have H1 := Lib.hid (firstHi A l cap w hA hin hl)
  clear hA hin
  generalize bst (l.map RL.key) KF.hi false l.length = o at *
  go_enter Try.func6, Try.ntmps6
  go_wp2_with fail
  refine Calls.mono H1.out ?_
  rintro e w1 ⟨rfl, x1, rfl⟩
  go_wp2
  go_ret2
  exact ⟨rfl, Blw.is (by repeat (first | exact Blw.refl _ | apply Blw.ext | apply Blw.alloc | apply Blw.drewN | apply Blw.drew | refine Blw.setCell ?_ _ _ (by simp)))⟩
set_option maxHeartbeats 1000000 in
theorem bestLw (A : Option Addr) (l : List RL) (cap : Nat) (w : World) (hA : Arr w A (rls l)) (hin : ∀ x ∈ l, RL.In w x) (hl : l.length ≤ 100000) :
    Calls Try.prog 8 #[.slice A l.length cap] w fun e w' => e = .returned (.tuple #[.int .i64 ((bst (l.map RL.key) KF.lw true l.length).getD 0 : Nat), .bool (bst (l.map RL.key) KF.lw true l.length).isSome]) ∧ ∃ x, w' = w.ext x := by
  have H1 := Lib.hid (firstLw A l cap w hA hin hl)
  clear hA hin
  generalize bst (l.map RL.key) KF.lw true l.length = o at *
  go_enter Try.func8, Try.ntmps8
  go_wp2_with fail
  refine Calls.mono H1.out ?_
  rintro e w1 ⟨rfl, x1, rfl⟩
  go_wp2
  go_ret2
  exact ⟨rfl, Blw.is (by repeat (first | exact Blw.refl _ | apply Blw.ext | apply Blw.alloc | apply Blw.drewN | apply Blw.drew | refine Blw.setCell ?_ _ _ (by simp)))⟩
end Go.Proofs.Ytigkfdoeneemeab
/- The reference's Best and Deepest. -/
namespace Go.Proofs.Ytigkfdoeneemeab
open Go.RowKit

set_option maxRecDepth 100000 in
set_option maxHeartbeats 4000000 in
theorem refBest (A : Option Addr) (l : List RL) (cap : Nat) (w : World) (hA : Arr w A (rls l)) (hin : ∀ x ∈ l, RL.In w x) (hl : l.length ≤ 100000) :
    Calls Try.prog 7 #[.slice A l.length cap] w fun e w' => e = .returned (.tuple #[.int .i64 ((bst (l.map RL.key) KF.hi false l.length).getD 0 : Nat), .bool (bst (l.map RL.key) KF.hi false l.length).isSome]) ∧ ∃ x, w' = w.ext x := by
  have HIN := Lib.hid hin
  clear hin
  go_enter Try.func7, Try.ntmps7
  go_wp2
  go_loopw [4, 5] (fun v8 vi wr => ∃ k : Nat, k ≤ l.length ∧ vi = .int .i64 k ∧ v8 = .int .i64 (optI (bst (l.map RL.key) KF.hi false k)) ∧ Blw w wr) (fun _ i _ => l.length - (intOf i).toNat)
  case atStart => exact ⟨0, Nat.zero_le _, rfl, rfl, (by repeat (first | exact Blw.refl _ | apply Blw.ext | apply Blw.alloc | apply Blw.drewN | apply Blw.drew | refine Blw.setCell ?_ _ _ (by simp)))⟩
  case round =>
    obtain ⟨k, hk, rfl, rfl, hb⟩ := hrel
    by_cases hlt : k < l.length
    · obtain ⟨x, b, o, hgx, hmx, e1, hbs, c0, c1, c2, c3, c4, c5, c6, c7, c8, c9, c10, c11⟩ := rl_at (hA.blw hb) hlt
      have hxin := (HIN.out x hmx).blw hb
      have hst : bst (l.map RL.key) KF.hi false (k + 1) = if cntF x.er x.hi.r = true then (match bst (l.map RL.key) KF.hi false k with | none => some k | some b => if hiK (l.map RL.key) KF.hi false k b = true then some k else some b) else bst (l.map RL.key) KF.hi false k := by
        rw [bst]; unfold cntK; rw [keys_at hgx]; rfl
      have CK := Lib.hid (fun (W : World) (hW : Blw wr W) => refCounts_any x x.hi W ((hxin.hi).blw hW))
      have HB : Hid (∀ p, bst (l.map RL.key) KF.hi false k = some p → ∃ y : RL, p < l.length ∧ (∀ j, j < 12 → wr.cell? ⟨b, o + p * 12 + j, none⟩ = y.cells[j]?) ∧
          (∀ W : World, Blw wr W → Calls Try.prog 21 #[frV x.hi.r x.hi.a x.hi.c x.hi.b x.hi.d, frV y.hi.r y.hi.a y.hi.c y.hi.b y.hi.d] W fun e w' => e = .returned (.bool (abvF x.hi.r y.hi.r)) ∧ ∃ z, w' = W.ext z) ∧
          (∀ W : World, Blw wr W → Calls Try.prog 21 #[frV y.hi.r y.hi.a y.hi.c y.hi.b y.hi.d, frV x.hi.r x.hi.a x.hi.c x.hi.b x.hi.d] W fun e w' => e = .returned (.bool (abvF y.hi.r x.hi.r)) ∧ ∃ z, w' = W.ext z) ∧
          hiK (l.map RL.key) KF.hi false k p = if false then abvF y.hi.r x.hi.r else abvF x.hi.r y.hi.r) := by
        intro p hp
        obtain ⟨hpk, hpl⟩ := bst_lt _ _ _ k p hp
        rw [List.length_map] at hpl
        obtain ⟨y, b2, o2, hgy, hmy, e3, hbs2, hcs⟩ := cells_arr RL.cells 12 (fun _ => rfl) (by decide) (hA.blw hb) hpl
        rw [e1] at e3
        simp only [Option.some.injEq, Addr.mk.injEq] at e3
        obtain ⟨rfl, rfl, -⟩ := e3
        refine ⟨y, hpl, hcs, fun W hW => refHigher_any x.hi y.hi W ((hxin.hi).blw hW) ((((HIN.out y hmy).blw hb).hi).blw hW), fun W hW => refHigher_any y.hi x.hi W ((((HIN.out y hmy).blw hb).hi).blw hW) ((hxin.hi).blw hW), ?_⟩
        unfold hiK; rw [keys_at hgx, keys_at hgy]; rfl
      have HST := Lib.hid hst
      subst e1
      clear hst hxin hgx hmx
      obtain ⟨nm, er, wa, wn, wc, ⟨⟨hn, hnum, hden⟩, ha, hc, hb', hd⟩, hat, ⟨⟨ln, lnum, lden⟩, la, lc, lb, ld⟩, lat, off⟩ := x
      simp only at HST HB CK c0 c1 c2 c3 c4 c5 c6 c7 c8 c9 c10 c11
      generalize hfk : bst (l.map RL.key) KF.hi false k = fk at *
      clear hfk
      generalize cntF er ⟨hn, hnum, hden⟩ = ct at *
      cases ct with
      | false =>
        have HS3 : Hid (bst (l.map RL.key) KF.hi false (k + 1) = fk) := HST.out
        clear HST HB
        go_wp2
        refine wp_region_ext_lit (by kernel_rfl) (by kernel_rfl) ?_
        repeat (go_big_quiet_step ((go_at_call 20; exact Calls.ext_of (CK.out _ (by repeat (first | exact Blw.refl _ | apply Blw.ext | apply Blw.alloc | apply Blw.drewN | apply Blw.drew | refine Blw.setCell ?_ _ _ (by simp)))))))
        refine wpQuiet_nil ?_
        rintro _ ⟨z, rfl⟩
        go_wp2
        go_roundw
        case rel => exact ⟨k + 1, hlt, by go_num, by rw [HS3.out], hb.trans (by repeat (first | exact Blw.refl _ | apply Blw.ext | apply Blw.alloc | apply Blw.drewN | apply Blw.drew | refine Blw.setCell ?_ _ _ (by simp)))⟩
        case measure => simp [intOf]; omega
      | true =>
        cases fk with
        | none =>
          have HS3 : Hid (bst (l.map RL.key) KF.hi false (k + 1) = some k) := HST.out
          have q8 : optI none = -1 := rfl
          clear HST HB
          go_wp2
          refine wp_region_ext_lit (by kernel_rfl) (by kernel_rfl) ?_
          repeat (go_big_quiet_step ((go_at_call 20; exact Calls.ext_of (CK.out _ (by repeat (first | exact Blw.refl _ | apply Blw.ext | apply Blw.alloc | apply Blw.drewN | apply Blw.drew | refine Blw.setCell ?_ _ _ (by simp)))))))
          refine wpQuiet_nil ?_
          rintro _ ⟨z, rfl⟩
          go_wp2
          go_roundw
          case rel => exact ⟨k + 1, hlt, by go_num, by rw [HS3.out]; rfl, hb.trans (by repeat (first | exact Blw.refl _ | apply Blw.ext | apply Blw.alloc | apply Blw.drewN | apply Blw.drew | refine Blw.setCell ?_ _ _ (by simp)))⟩
          case measure => simp [intOf]; omega
        | some p =>
          have HS3 : Hid (bst (l.map RL.key) KF.hi false (k + 1) = if hiK (l.map RL.key) KF.hi false k p = true then some k else some p) := HST.out
          obtain ⟨y, hpl, hcs, h1, h2, h3⟩ := HB.out p rfl
          rw [h3] at HS3
          have H1 := Lib.hid h1
          have H2 := Lib.hid h2
          obtain ⟨ynm, yer, ywa, ywn, ywc, ⟨⟨yhn, yhnum, yhden⟩, yha, yhc, yhb, yhd⟩, yhat, ⟨⟨yln, ylnum, ylden⟩, yla, ylc, ylb, yld⟩, ylat, yoff⟩ := y
          have g3 := (hcs 3 (by decide)).trans rfl
          have g4 := (hcs 4 (by decide)).trans rfl
          have g5 := (hcs 5 (by decide)).trans rfl
          have g7 := (hcs 7 (by decide)).trans rfl
          have g8 := (hcs 8 (by decide)).trans rfl
          have g9 := (hcs 9 (by decide)).trans rfl
          simp only [RL.cells, List.getElem?_cons_zero, List.getElem?_cons_succ] at g3 g4 g5 g7 g8 g9
          simp only at H1 H2 HS3
          have q8 : optI (some p) = (p : Int) := rfl
          have q9 : decide ((p : Int) < 0) = false := by simp
          clear HST HB hcs h1 h2 h3
          obtain ⟨b1, hb1⟩ : ∃ b1, abvF ⟨hn, hnum, hden⟩ ⟨yhn, yhnum, yhden⟩ = b1 := ⟨_, rfl⟩
          obtain ⟨b2, hb2⟩ : ∃ b2, abvF ⟨yhn, yhnum, yhden⟩ ⟨hn, hnum, hden⟩ = b2 := ⟨_, rfl⟩
          rw [hb1, hb2] at HS3
          rw [hb1] at H1
          rw [hb2] at H2
          clear hb1 hb2
          cases b1 <;> cases b2
          all_goals
            go_wp2
            refine wp_region_ext_lit (by kernel_rfl) (by kernel_rfl) ?_
            repeat (go_big_quiet_step (first | (go_at_call 20; exact Calls.ext_of (CK.out _ (by repeat (first | exact Blw.refl _ | apply Blw.ext | apply Blw.alloc | apply Blw.drewN | apply Blw.drew | refine Blw.setCell ?_ _ _ (by simp))))) | (go_at_call 21; first | (with_reducible exact Calls.ext_of (H1.out _ (by repeat (first | exact Blw.refl _ | apply Blw.ext | apply Blw.alloc | apply Blw.drewN | apply Blw.drew | refine Blw.setCell ?_ _ _ (by simp))))) | (with_reducible exact Calls.ext_of (H2.out _ (by repeat (first | exact Blw.refl _ | apply Blw.ext | apply Blw.alloc | apply Blw.drewN | apply Blw.drew | refine Blw.setCell ?_ _ _ (by simp))))))))
            refine wpQuiet_nil ?_
            rintro _ ⟨z, rfl⟩
            go_wp2
            go_roundw
            case rel => exact ⟨k + 1, hlt, by go_num, by rw [HS3.out]; rfl, hb.trans (by repeat (first | exact Blw.refl _ | apply Blw.ext | apply Blw.alloc | apply Blw.drewN | apply Blw.drew | refine Blw.setCell ?_ _ _ (by simp)))⟩
            case measure => simp [intOf]; omega
    · have hkl : k = l.length := by omega
      subst hkl
      cases hfk : bst (l.map RL.key) KF.hi false l.length with
      | none =>
        have q8 : optI none = -1 := rfl
        go_wp2
        go_ret2
        exact ⟨by rw [hfk]; rfl, Blw.is hb⟩
      | some p =>
        have q8 : optI (some p) = (p : Int) := rfl
        go_wp2
        go_ret2
        exact ⟨by rw [hfk]; rfl, Blw.is hb⟩
set_option maxRecDepth 100000 in
set_option maxHeartbeats 4000000 in
theorem refDeepest (A : Option Addr) (l : List RL) (cap : Nat) (w : World) (hA : Arr w A (rls l)) (hin : ∀ x ∈ l, RL.In w x) (hl : l.length ≤ 100000) :
    Calls Try.prog 9 #[.slice A l.length cap] w fun e w' => e = .returned (.tuple #[.int .i64 ((bst (l.map RL.key) KF.lw true l.length).getD 0 : Nat), .bool (bst (l.map RL.key) KF.lw true l.length).isSome]) ∧ ∃ x, w' = w.ext x := by
  have HIN := Lib.hid hin
  clear hin
  go_enter Try.func9, Try.ntmps9
  go_wp2
  go_loopw [4, 5] (fun v8 vi wr => ∃ k : Nat, k ≤ l.length ∧ vi = .int .i64 k ∧ v8 = .int .i64 (optI (bst (l.map RL.key) KF.lw true k)) ∧ Blw w wr) (fun _ i _ => l.length - (intOf i).toNat)
  case atStart => exact ⟨0, Nat.zero_le _, rfl, rfl, (by repeat (first | exact Blw.refl _ | apply Blw.ext | apply Blw.alloc | apply Blw.drewN | apply Blw.drew | refine Blw.setCell ?_ _ _ (by simp)))⟩
  case round =>
    obtain ⟨k, hk, rfl, rfl, hb⟩ := hrel
    by_cases hlt : k < l.length
    · obtain ⟨x, b, o, hgx, hmx, e1, hbs, c0, c1, c2, c3, c4, c5, c6, c7, c8, c9, c10, c11⟩ := rl_at (hA.blw hb) hlt
      have hxin := (HIN.out x hmx).blw hb
      have hst : bst (l.map RL.key) KF.lw true (k + 1) = if cntF x.er x.lw.r = true then (match bst (l.map RL.key) KF.lw true k with | none => some k | some b => if hiK (l.map RL.key) KF.lw true k b = true then some k else some b) else bst (l.map RL.key) KF.lw true k := by
        rw [bst]; unfold cntK; rw [keys_at hgx]; rfl
      have CK := Lib.hid (fun (W : World) (hW : Blw wr W) => refCounts_any x x.lw W ((hxin.lw).blw hW))
      have HB : Hid (∀ p, bst (l.map RL.key) KF.lw true k = some p → ∃ y : RL, p < l.length ∧ (∀ j, j < 12 → wr.cell? ⟨b, o + p * 12 + j, none⟩ = y.cells[j]?) ∧
          (∀ W : World, Blw wr W → Calls Try.prog 21 #[frV x.lw.r x.lw.a x.lw.c x.lw.b x.lw.d, frV y.lw.r y.lw.a y.lw.c y.lw.b y.lw.d] W fun e w' => e = .returned (.bool (abvF x.lw.r y.lw.r)) ∧ ∃ z, w' = W.ext z) ∧
          (∀ W : World, Blw wr W → Calls Try.prog 21 #[frV y.lw.r y.lw.a y.lw.c y.lw.b y.lw.d, frV x.lw.r x.lw.a x.lw.c x.lw.b x.lw.d] W fun e w' => e = .returned (.bool (abvF y.lw.r x.lw.r)) ∧ ∃ z, w' = W.ext z) ∧
          hiK (l.map RL.key) KF.lw true k p = if true then abvF y.lw.r x.lw.r else abvF x.lw.r y.lw.r) := by
        intro p hp
        obtain ⟨hpk, hpl⟩ := bst_lt _ _ _ k p hp
        rw [List.length_map] at hpl
        obtain ⟨y, b2, o2, hgy, hmy, e3, hbs2, hcs⟩ := cells_arr RL.cells 12 (fun _ => rfl) (by decide) (hA.blw hb) hpl
        rw [e1] at e3
        simp only [Option.some.injEq, Addr.mk.injEq] at e3
        obtain ⟨rfl, rfl, -⟩ := e3
        refine ⟨y, hpl, hcs, fun W hW => refHigher_any x.lw y.lw W ((hxin.lw).blw hW) ((((HIN.out y hmy).blw hb).lw).blw hW), fun W hW => refHigher_any y.lw x.lw W ((((HIN.out y hmy).blw hb).lw).blw hW) ((hxin.lw).blw hW), ?_⟩
        unfold hiK; rw [keys_at hgx, keys_at hgy]; rfl
      have HST := Lib.hid hst
      subst e1
      clear hst hxin hgx hmx
      obtain ⟨nm, er, wa, wn, wc, ⟨⟨hn, hnum, hden⟩, ha, hc, hb', hd⟩, hat, ⟨⟨ln, lnum, lden⟩, la, lc, lb, ld⟩, lat, off⟩ := x
      simp only at HST HB CK c0 c1 c2 c3 c4 c5 c6 c7 c8 c9 c10 c11
      generalize hfk : bst (l.map RL.key) KF.lw true k = fk at *
      clear hfk
      generalize cntF er ⟨ln, lnum, lden⟩ = ct at *
      cases ct with
      | false =>
        have HS3 : Hid (bst (l.map RL.key) KF.lw true (k + 1) = fk) := HST.out
        clear HST HB
        go_wp2
        refine wp_region_ext_lit (by kernel_rfl) (by kernel_rfl) ?_
        repeat (go_big_quiet_step ((go_at_call 20; exact Calls.ext_of (CK.out _ (by repeat (first | exact Blw.refl _ | apply Blw.ext | apply Blw.alloc | apply Blw.drewN | apply Blw.drew | refine Blw.setCell ?_ _ _ (by simp)))))))
        refine wpQuiet_nil ?_
        rintro _ ⟨z, rfl⟩
        go_wp2
        go_roundw
        case rel => exact ⟨k + 1, hlt, by go_num, by rw [HS3.out], hb.trans (by repeat (first | exact Blw.refl _ | apply Blw.ext | apply Blw.alloc | apply Blw.drewN | apply Blw.drew | refine Blw.setCell ?_ _ _ (by simp)))⟩
        case measure => simp [intOf]; omega
      | true =>
        cases fk with
        | none =>
          have HS3 : Hid (bst (l.map RL.key) KF.lw true (k + 1) = some k) := HST.out
          have q8 : optI none = -1 := rfl
          clear HST HB
          go_wp2
          refine wp_region_ext_lit (by kernel_rfl) (by kernel_rfl) ?_
          repeat (go_big_quiet_step ((go_at_call 20; exact Calls.ext_of (CK.out _ (by repeat (first | exact Blw.refl _ | apply Blw.ext | apply Blw.alloc | apply Blw.drewN | apply Blw.drew | refine Blw.setCell ?_ _ _ (by simp)))))))
          refine wpQuiet_nil ?_
          rintro _ ⟨z, rfl⟩
          go_wp2
          go_roundw
          case rel => exact ⟨k + 1, hlt, by go_num, by rw [HS3.out]; rfl, hb.trans (by repeat (first | exact Blw.refl _ | apply Blw.ext | apply Blw.alloc | apply Blw.drewN | apply Blw.drew | refine Blw.setCell ?_ _ _ (by simp)))⟩
          case measure => simp [intOf]; omega
        | some p =>
          have HS3 : Hid (bst (l.map RL.key) KF.lw true (k + 1) = if hiK (l.map RL.key) KF.lw true k p = true then some k else some p) := HST.out
          obtain ⟨y, hpl, hcs, h1, h2, h3⟩ := HB.out p rfl
          rw [h3] at HS3
          have H1 := Lib.hid h1
          have H2 := Lib.hid h2
          obtain ⟨ynm, yer, ywa, ywn, ywc, ⟨⟨yhn, yhnum, yhden⟩, yha, yhc, yhb, yhd⟩, yhat, ⟨⟨yln, ylnum, ylden⟩, yla, ylc, ylb, yld⟩, ylat, yoff⟩ := y
          have g3 := (hcs 3 (by decide)).trans rfl
          have g4 := (hcs 4 (by decide)).trans rfl
          have g5 := (hcs 5 (by decide)).trans rfl
          have g7 := (hcs 7 (by decide)).trans rfl
          have g8 := (hcs 8 (by decide)).trans rfl
          have g9 := (hcs 9 (by decide)).trans rfl
          simp only [RL.cells, List.getElem?_cons_zero, List.getElem?_cons_succ] at g3 g4 g5 g7 g8 g9
          simp only at H1 H2 HS3
          have q8 : optI (some p) = (p : Int) := rfl
          have q9 : decide ((p : Int) < 0) = false := by simp
          clear HST HB hcs h1 h2 h3
          obtain ⟨b1, hb1⟩ : ∃ b1, abvF ⟨ln, lnum, lden⟩ ⟨yln, ylnum, ylden⟩ = b1 := ⟨_, rfl⟩
          obtain ⟨b2, hb2⟩ : ∃ b2, abvF ⟨yln, ylnum, ylden⟩ ⟨ln, lnum, lden⟩ = b2 := ⟨_, rfl⟩
          rw [hb1, hb2] at HS3
          rw [hb1] at H1
          rw [hb2] at H2
          clear hb1 hb2
          cases b1 <;> cases b2
          all_goals
            go_wp2
            refine wp_region_ext_lit (by kernel_rfl) (by kernel_rfl) ?_
            repeat (go_big_quiet_step (first | (go_at_call 20; exact Calls.ext_of (CK.out _ (by repeat (first | exact Blw.refl _ | apply Blw.ext | apply Blw.alloc | apply Blw.drewN | apply Blw.drew | refine Blw.setCell ?_ _ _ (by simp))))) | (go_at_call 21; first | (with_reducible exact Calls.ext_of (H1.out _ (by repeat (first | exact Blw.refl _ | apply Blw.ext | apply Blw.alloc | apply Blw.drewN | apply Blw.drew | refine Blw.setCell ?_ _ _ (by simp))))) | (with_reducible exact Calls.ext_of (H2.out _ (by repeat (first | exact Blw.refl _ | apply Blw.ext | apply Blw.alloc | apply Blw.drewN | apply Blw.drew | refine Blw.setCell ?_ _ _ (by simp))))))))
            refine wpQuiet_nil ?_
            rintro _ ⟨z, rfl⟩
            go_wp2
            go_roundw
            case rel => exact ⟨k + 1, hlt, by go_num, by rw [HS3.out]; rfl, hb.trans (by repeat (first | exact Blw.refl _ | apply Blw.ext | apply Blw.alloc | apply Blw.drewN | apply Blw.drew | refine Blw.setCell ?_ _ _ (by simp)))⟩
            case measure => simp [intOf]; omega
    · have hkl : k = l.length := by omega
      subst hkl
      cases hfk : bst (l.map RL.key) KF.lw true l.length with
      | none =>
        have q8 : optI none = -1 := rfl
        go_wp2
        go_ret2
        exact ⟨by rw [hfk]; rfl, Blw.is hb⟩
      | some p =>
        have q8 : optI (some p) = (p : Int) := rfl
        go_wp2
        go_ret2
        exact ⟨by rw [hfk]; rfl, Blw.is hb⟩
end Go.Proofs.Ytigkfdoeneemeab
/- Blocks of values of one cell each that a call makes and writes: any elements. -/
namespace Go
open Go.RowKit

/-- A block that holds these values. -/
def Rw (w : World) (g : Nat) (T : TypeId) (cs : List Value) : Prop := w.heap[g]? = some (.cells cs.toArray T (0, 0))
section
variable {w : World} {g : Nat} {T : TypeId} {cs : List Value}
theorem Rw.lt (h : Rw w g T cs) : g < w.heap.size := (Array.getElem?_eq_some_iff.1 h).1
theorem Rw.frozen (h : Rw w g T cs) (i : Nat) : w.frozen? ⟨g, i, none⟩ = false := frozen_of_row w g i _ _ h
theorem Rw.cell (h : Rw w g T cs) {k : Nat} {v : Value} (hx : cs[k]? = some v) : w.cell? ⟨g, k, none⟩ = some v := by
  unfold Rw at h
  simp [World.cell?, h, hx]
theorem Rw.blw (h : Rw w g T cs) {w' : World} (k : Blw w w') : Rw w' g T cs := by
  unfold Rw; rw [Below.block k g h.lt]; exact h
theorem Rw.set (h : Rw w g T cs) (i : Nat) (v : Value) : Rw (w.setCell ⟨g, i, none⟩ v) g T (cs.set i v) := by
  have := at_set i v h
  unfold Rw
  rw [this]
  congr 2
  apply Array.ext'
  simp
theorem Rw.keptO (h : Rw w g T cs) {O : Nat → Prop} {w' : World} (k : KeptO O w w') (ho : ¬ O g) : Rw w' g T cs := k.heap h ho
theorem Rw.arr (h : Rw w g T cs) : Arr w (some ⟨g, 0, none⟩) cs := .inr ⟨g, 0, rfl, h.lt, fun i hi => by
  rw [Nat.zero_add, h.cell (List.getElem?_eq_getElem hi), List.getElem?_eq_getElem hi]⟩
theorem Rw.own (h : Rw w g T cs) {B n : Nat} (hB : B ≤ g) (hn : n ≤ cs.length) (hl : cs.length ≤ maxLen) : w.ownsRow B T 1 (.slice (some ⟨g, 0, none⟩) n cs.length) n (cs.take n) :=
  ⟨by simp; omega, .inr ⟨g, cs.length, _, rfl, hB, h, hn, hl, by simp, by simp⟩⟩
theorem Rw.of_own {B n : Nat} {v : Value} (h : w.ownsRow B T 1 v n cs) (hn : 0 < n) : ∃ g rest, v = .slice (some ⟨g, 0, none⟩) n (n + rest.length) ∧ B ≤ g ∧ Rw w g T (cs ++ rest) ∧ cs.length = n ∧ n + rest.length ≤ maxLen := by
  obtain ⟨h1, h2⟩ := h
  rcases h2 with ⟨h3, h4⟩ | ⟨g, cap, cur, hv, hg, hh, hn2, hm, hs, ht⟩
  · omega
  · rw [Nat.mul_one] at h1 hs ht
    have hlr : (cur.toList.drop n).length = cap - n := by simp; omega
    refine ⟨g, cur.toList.drop n, ?_, hg, ?_, h1, ?_⟩
    · rw [hlr, Nat.add_sub_cancel' hn2]; exact hv
    · unfold Rw
      rw [hh]
      congr 2
      apply Array.ext'
      rw [← ht, List.take_append_drop]
    · rw [hlr, Nat.add_sub_cancel' hn2]; exact hm
theorem Rw.of_own_any {B n c : Nat} {a : Addr} (h : w.ownsRow B T 1 (.slice (some a) n c) n cs) : ∃ g rest, a = ⟨g, 0, none⟩ ∧ c = n + rest.length ∧ B ≤ g ∧ Rw w g T (cs ++ rest) ∧ cs.length = n ∧ c ≤ maxLen := by
  obtain ⟨h1, h2⟩ := h
  rcases h2 with ⟨h3, h4⟩ | ⟨g, cap, cur, hv, hg, hh, hn2, hm, hs, ht⟩
  · cases h3
  · cases hv
    rw [Nat.mul_one] at h1 hs ht
    have hlr : (cur.toList.drop n).length = c - n := by simp; omega
    refine ⟨g, cur.toList.drop n, rfl, by omega, hg, ?_, h1, hm⟩
    unfold Rw
    rw [hh]
    congr 2
    apply Array.ext'
    rw [← ht, List.take_append_drop]
end
theorem Rw.set_own {w : World} {g : Nat} {T : TypeId} {cs rest : List Value} {B n c k : Nat} (v : Value) (h : Rw w g T (cs ++ rest)) (hB : B ≤ g) (hn : cs.length = n) (hc : c = n + rest.length) (hm : n + rest.length ≤ maxLen) (hk : k < n) : (w.setCell ⟨g, k, none⟩ v).ownsRow B T 1 (.slice (some ⟨g, 0, none⟩) n c) n (cs.set k v) := by
  have h2 := h.set k v
  rw [List.set_append_left _ _ (by omega)] at h2
  have h3 := h2.own (B := B) (n := n) hB (by simp; omega) (by simp; omega)
  rw [List.take_append_of_le_length (by simp; omega), List.take_of_length_le (by simp; omega)] at h3
  have e : (cs.set k v ++ rest).length = c := by simp; omega
  rw [e] at h3
  exact h3
theorem fill_at {ws : List Value} {n k : Nat} {z : Value} (h : ws.length = k) (hk : k < n) : (ws ++ List.replicate (n - k) z)[k]? = some z := by
  rw [List.getElem?_append_right (by omega), h, Nat.sub_self, List.getElem?_replicate, if_pos (by omega)]
theorem fill_set {ws : List Value} {n k : Nat} {z : Value} (v : Value) (h : ws.length = k) (hk : k < n) : (ws ++ List.replicate (n - k) z).set k v = (ws ++ [v]) ++ List.replicate (n - (k + 1)) z := by
  rw [List.set_append_right _ _ (by omega), h, Nat.sub_self, show n - k = n - (k + 1) + 1 by omega, List.replicate_succ, List.set_cons_zero]
  simp
/-- Rows of different elements lie in different blocks. -/
theorem Rw.ne_own {w : World} {g B n size : Nat} {T e : TypeId} {cs xs : List Value} {v : Value} (h : Rw w g T cs) (k : w.ownsRow B e size v n xs) (hne : T ≠ e) : ∀ i, v.ownBlock = some i → i ≠ g := by
  intro i h1 e2
  subst e2
  rcases k.2 with ⟨rfl, _⟩ | ⟨g2, c2, cur2, rfl, _, kk, _⟩
  · cases h1
  · simp [Value.ownBlock] at h1
    unfold Rw at h
    rw [h1, h] at kk
    simp at kk
    exact hne kk.2
theorem made_row (z : Value) (n : Nat) : madeCells #[z] n = (List.replicate n z).toArray := by
  apply Array.ext'
  simp only [madeCells, Array.toList_map, Array.toList_range]
  apply List.ext_getElem
  · simp
  · intro i h1 h2
    simp [Nat.mod_one]
/-- 'make([]T, n)', T of one cell. -/
theorem wpList_rows {P : Program} (w : World) {ops : Array Oper} {rest : List Oper} {o : Oper} {a : Act} {Q : Exit → Act → World → Prop}
    (hg : o.guard = none) (l c : Operand) (t : TypeId) (hop : o.op = Op.makeSlice t l c) {e : TypeId} {z : Value} {bytes : Nat} (hT : SlT P t e z 1 bytes) (hz : z.cells = #[z])
    (kl kc : IntKind) (L C : Int) (n : Nat) (hl : a.eval l = .int kl L) (hc : a.eval c = .int kc C) (hL : L = (n : Int)) (hC : C = (n : Int)) (h63 : n ≤ 1099511627776) (hb : bytes ≤ 200)
    (hK : ∀ w', Rw w' w.heap.size e (List.replicate n z) → Blw w w' → wpList P ops Q rest (a.put o.dst (.slice (some ⟨w.heap.size, 0, none⟩) n n)) w') :
    wpList P ops Q (o :: rest) a w := by
  subst hL hC
  obtain ⟨i, hi, hz0, hz1, hz2⟩ := info_parts hT.info
  refine wpList_make_row w hg l c t hop e i z hT.under hi hz0 hz1 hz kl kc n hl hc (by rw [hz2]; exact Nat.le_trans (Nat.mul_le_mul hb h63) (by decide)) (by omega) ?_
  rw [made_row]
  exact hK _ (heap_alloc_new w _) ((Blw.refl w).alloc _)
end Go
/- The bodyless functions of package math that the program calls: what each call runs to. -/
namespace Go.Proofs.Ytigkfdoeneemeab
open Go.RowKit

end Go.Proofs.Ytigkfdoeneemeab
/- Doubles as numbers: a finite double is a whole number of units 2^-1074; the order of floats is the order of these numbers; among sizes it is the order of the words. -/
namespace Go.Proofs.Ytigkfdoeneemeab.Fl
open Go Ieee

/-- The size of a finite double in units of 2^-1074. -/
def V (x : Nat) : Nat := mag x * 2 ^ plc x
def Sv (x : Nat) : Int := if fneg x then -(V x : Int) else (V x : Int)

theorem V_mod (x : Nat) : V (x % 2 ^ 63) = V x := by
  unfold V mag plc
  have e1 : x % 2 ^ 63 % 2 ^ 63 = x % 2 ^ 63 := Nat.mod_mod _ _
  have e2 : x % 2 ^ 63 % 2 ^ 52 = x % 2 ^ 52 := by omega
  rw [e1, e2]

theorem V_small {r : Nat} (h : r < 2 ^ 52) : V r = r := by
  unfold V mag plc
  have e1 : r % 2 ^ 63 = r := by omega
  rw [e1, if_pos h]
  have : r / 2 ^ 52 - 1 = 0 := by omega
  rw [this]; simp
theorem V_big {r : Nat} (h : 2 ^ 52 ≤ r) (h2 : r < 2 ^ 63) : V r = (2 ^ 52 + r % 2 ^ 52) * 2 ^ (r / 2 ^ 52 - 1) := by
  unfold V mag plc
  have e1 : r % 2 ^ 63 = r := by omega
  rw [e1, if_neg (by omega)]

theorem V_step {r : Nat} (h : r + 1 < 2 ^ 63) : V r < V (r + 1) := by
  by_cases a : r + 1 < 2 ^ 52
  · rw [V_small a, V_small (by omega)]; omega
  · by_cases b : r < 2 ^ 52
    · have hr : r = 2 ^ 52 - 1 := by omega
      rw [V_small b, V_big (by omega) h, hr]; decide
    · rw [V_big (by omega) (by omega), V_big (by omega) h]
      by_cases c : (r + 1) % 2 ^ 52 = 0
      · have e1 : r % 2 ^ 52 = 2 ^ 52 - 1 := by omega
        have e2 : (r + 1) / 2 ^ 52 - 1 = (r / 2 ^ 52 - 1) + 1 := by omega
        rw [e1, e2, c, show 2 ^ (r / 2 ^ 52 - 1 + 1) = 2 ^ (r / 2 ^ 52 - 1) * 2 from Nat.pow_succ ..]
        have : 0 < 2 ^ (r / 2 ^ 52 - 1) := Nat.two_pow_pos _
        generalize 2 ^ (r / 2 ^ 52 - 1) = k at *
        omega
      · have e1 : (r + 1) % 2 ^ 52 = r % 2 ^ 52 + 1 := by omega
        have e2 : (r + 1) / 2 ^ 52 = r / 2 ^ 52 := by omega
        rw [e1, e2]
        exact Nat.mul_lt_mul_of_pos_right (by omega) (Nat.two_pow_pos _)
theorem V_lt {r s : Nat} (h : r < s) (hs : s < 2 ^ 63) : V r < V s := by
  induction s with
  | zero => omega
  | succ s ih =>
    by_cases e : r = s
    · subst e; exact V_step hs
    · exact Nat.lt_trans (ih (by omega) (by omega)) (V_step hs)
theorem V_le {r s : Nat} (h : r ≤ s) (hs : s < 2 ^ 63) : V r ≤ V s := by
  by_cases e : r = s
  · subst e; exact Nat.le_refl _
  · exact Nat.le_of_lt (V_lt (by omega) hs)
theorem V_inj {r s : Nat} (hr : r < 2 ^ 63) (hs : s < 2 ^ 63) (h : V r = V s) : r = s := by
  by_cases a : r < s
  · have := V_lt a hs; omega
  · by_cases b : s < r
    · have := V_lt b hr; omega
    · omega
theorem V_zero : V 0 = 0 := by decide
theorem V_pos {r : Nat} (h : 0 < r) (hs : r < 2 ^ 63) : 0 < V r := by have := V_lt h hs; rw [V_zero] at this; exact this

theorem cmp_eq {a b c d : Int} (h1 : a < b ↔ c < d) (h2 : a = b ↔ c = d) : compare a b = compare c d := by
  simp only [compare, compareOfLessAndEq]
  by_cases x : a < b
  · rw [if_pos x, if_pos (h1.1 x)]
  · rw [if_neg x, if_neg (fun y => x (h1.2 y))]
    by_cases z : a = b
    · rw [if_pos z, if_pos (h2.1 z)]
    · rw [if_neg z, if_neg (fun y => z (h2.2 y))]
theorem cmp_scale {a b k : Int} (hk : 0 < k) : compare (a * k) (b * k) = compare a b :=
  cmp_eq ⟨fun h => Int.lt_of_mul_lt_mul_right h (Int.le_of_lt hk), fun h => Int.mul_lt_mul_of_pos_right h hk⟩
    ⟨fun h => Int.eq_of_mul_eq_mul_right (Int.ne_of_gt hk) h, fun h => by rw [h]⟩

theorem signed_scale (s : Bool) (m k : Nat) (j : Nat) : signed s m k * ((2 ^ j : Nat) : Int) = signed s m (k + j) := by
  unfold signed
  have e : ((m <<< k : Nat) : Int) * ((2 ^ j : Nat) : Int) = ((m <<< (k + j) : Nat) : Int) := by
    rw [Nat.shiftLeft_eq, Nat.shiftLeft_eq, Nat.pow_add, ← Nat.mul_assoc]; rfl
  split
  · rw [Int.neg_mul, e]
  · rw [e]
theorem signed_Sv (x : Nat) : signed (fneg x) (mag x) (plc x) = Sv x := by
  unfold signed Sv V
  rw [Nat.shiftLeft_eq]

theorem ord_fin {x y : Nat} (hx : isFin x = true) (hy : isFin y = true) : ord x y = some (compare (Sv x) (Sv y)) := by
  simp only [ord, Format.order, read_fin x hx, read_fin y hy, Datum.order]
  have e1 : (-1074 + (plc x : Int) - min (-1074 + (plc x : Int)) (-1074 + (plc y : Int))).toNat = plc x - min (plc x) (plc y) := by omega
  have e2 : (-1074 + (plc y : Int) - min (-1074 + (plc x : Int)) (-1074 + (plc y : Int))).toNat = plc y - min (plc x) (plc y) := by omega
  rw [e1, e2]
  congr 1
  have hk : (0 : Int) < ((2 ^ min (plc x) (plc y) : Nat) : Int) := by have := Nat.two_pow_pos (min (plc x) (plc y)); omega
  rw [← cmp_scale hk, signed_scale, signed_scale]
  have f1 : plc x - min (plc x) (plc y) + min (plc x) (plc y) = plc x := by omega
  have f2 : plc y - min (plc x) (plc y) + min (plc x) (plc y) = plc y := by omega
  rw [f1, f2, signed_Sv, signed_Sv]

theorem fneg_small {x : Nat} (h : x < 2 ^ 63) : fneg x = false := by unfold fneg; simp; omega
theorem Sv_small {x : Nat} (h : x < 2 ^ 63) : Sv x = (V x : Int) := by unfold Sv; rw [fneg_small h]; rfl
/-- Among sizes the order is that of the words. -/
theorem ord_pos {x y : Nat} (hx : x < infR) (hy : y < infR) : ord x y = some (compare x y) := by
  have lx : x < 2 ^ 63 := by unfold infR at hx; omega
  have ly : y < 2 ^ 63 := by unfold infR at hy; omega
  rw [ord_fin (by simp [isFin]; omega) (by simp [isFin]; omega), Sv_small lx, Sv_small ly]
  congr 1
  simp only [compare, compareOfLessAndEq]
  by_cases a : x < y
  · rw [if_pos (by have := V_lt a ly; omega), if_pos a]
  · by_cases b : x = y
    · subst b; simp
    · have := V_lt (show y < x by omega) lx
      rw [if_neg (by omega), if_neg (by omega), if_neg a, if_neg b]
/-- math.IsInf's test. -/
theorem ord_max {x : Nat} (h : x < 2 ^ 63) : (ord x 9218868437227405311 == some .gt) = isInf x := by
  have e : x % 2 ^ 63 = x := by omega
  rcases tri x with f | i | n
  · have hx : x < infR := by simpa [isFin, e] using f
    rw [ord_pos hx (by decide)]
    have : isInf x = false := by simp [isInf, e]; omega
    rw [this]
    simp only [compare, compareOfLessAndEq]
    unfold infR at hx
    by_cases a : x < 9218868437227405311
    · rw [if_pos a]; rfl
    · rw [if_neg a, if_pos (by omega)]; rfl
  · rw [i]
    have : ord x 9218868437227405311 = some .gt := by
      simp only [ord, Format.order, read_inf x i, fneg_small h, read_fin 9218868437227405311 (by decide), Datum.order]; rfl
    rw [this]; rfl
  · rw [ord_nan_left n]
    have : isInf x = false := by simp only [isNaN, decide_eq_true_eq] at n; simp [isInf]; omega
    rw [this]; rfl

theorem isInf_mod (x : Nat) : isInf (x % 2 ^ 63) = isInf x := by unfold isInf; rw [Nat.mod_mod]
theorem isNaN_mod (x : Nat) : isNaN (x % 2 ^ 63) = isNaN x := by unfold isNaN; rw [Nat.mod_mod]
theorem isFin_mod (x : Nat) : isFin (x % 2 ^ 63) = isFin x := by unfold isFin; rw [Nat.mod_mod]

/-- x - x is 0 of just the finite ones. -/
theorem sub_self_fin {x : Nat} (h : isFin x = true) (w : World) : fop .sub x x w = 0 := by
  refine fop_some ?_ w
  simp only [floatBits, FloatKind.format, Format.sub, read_fin x h, Datum.opposite, Datum.sum, Option.map_some, Option.some.injEq]
  have e : (-1074 + (plc x : Int) - min (-1074 + (plc x : Int)) (-1074 + (plc x : Int))).toNat = 0 := by omega
  rw [e]
  have t : signed (fneg x) (mag x) 0 + signed (!fneg x) (mag x) 0 = 0 := by unfold signed; cases fneg x <;> simp <;> omega
  rw [t]
  simp [Format.write, Format.nearest, Format.word]
theorem sub_self_not {x : Nat} (h : isFin x = false) (w : World) : isNaN (fop .sub x x w) = true := by
  refine fop_none ?_ w
  rcases tri x with f | i | n
  · simp [f] at h
  · simp [floatBits, FloatKind.format, Format.sub, read_inf x i, Datum.opposite, Datum.sum]
  · exact bits_nan (by simp) x x (.inl n)
theorem sub_self_ord (x : Nat) (w : World) : (ord (fop .sub x x w) 0 == some .eq) = isFin x := by
  cases h : isFin x
  · rw [ord_nan_left (sub_self_not h w)]; rfl
  · rw [sub_self_fin h w]; decide

theorem bits_abs (x : Nat) (hx : x < 2 ^ 64) : (bits .andNot .u64 (x : Int) 9223372036854775808).toNat = x % 2 ^ 63 := by
  unfold bits
  have hb : ~~~(BitVec.ofInt 64 9223372036854775808) = BitVec.ofNat 64 (2 ^ 63 - 1) := by decide
  have ha : (BitVec.ofInt 64 (x : Int)).toNat = x := by
    rw [BitVec.ofInt_natCast, BitVec.toNat_ofNat]; omega
  show (IntKind.u64.wrap ((BitVec.ofInt 64 (x : Int) &&& ~~~(BitVec.ofInt 64 9223372036854775808)).toNat : Int)).toNat = _
  rw [hb, BitVec.toNat_and, ha]
  have hc : (BitVec.ofNat 64 (2 ^ 63 - 1)).toNat = 2 ^ 63 - 1 := by decide
  rw [hc, Nat.and_two_pow_sub_one_eq_mod]
  have hw : IntKind.u64.wrap ((x % 2 ^ 63 : Nat) : Int) = ((x % 2 ^ 63 : Nat) : Int) := by
    simp only [IntKind.wrap, IntKind.bits, IntKind.signed]
    simp; omega
  rw [hw]; rfl
theorem bits_fin (x : Nat) : (bits .and .u64 ((x : Int) / 4503599627370496) 2047 != 2047) = isFin x := by
  have h1 : (bits .and .u64 ((x : Int) / 4503599627370496) 2047) = ((x / 2 ^ 52 % 2048 : Nat) : Int) := by
    unfold bits
    have ha : (BitVec.ofInt 64 ((x : Int) / 4503599627370496)).toNat = x / 2 ^ 52 % 2 ^ 64 := by
      have : ((x : Int) / 4503599627370496) = ((x / 2 ^ 52 : Nat) : Int) := by omega
      rw [this, BitVec.ofInt_natCast, BitVec.toNat_ofNat]
    show IntKind.u64.wrap ((BitVec.ofInt 64 ((x : Int) / 4503599627370496) &&& BitVec.ofInt 64 2047).toNat : Int) = _
    have hc : (BitVec.ofInt 64 2047).toNat = 2 ^ 11 - 1 := by decide
    rw [BitVec.toNat_and, ha, hc, Nat.and_two_pow_sub_one_eq_mod]
    simp only [IntKind.wrap, IntKind.bits, IntKind.signed]
    simp; omega
  rw [h1]
  unfold isFin infR
  rw [Bool.eq_iff_iff]
  simp
  omega
end Go.Proofs.Ytigkfdoeneemeab.Fl
/- Walks of the small functions on one float: which are finite, sizes. -/
namespace Go.Proofs.Ytigkfdoeneemeab
open Go.RowKit

theorem ret_bool {a b : Bool} (h : a = b) : Ending.returned (.bool a) = .returned (.bool b) := by rw [h]
theorem ret_float {a b : Nat} (h : a = b) : Ending.returned (.float .f64 a) = .returned (.float .f64 b) := by rw [h]

end Go.Proofs.Ytigkfdoeneemeab
/- The small functions of the law of waters: small, whole, sign, walked. -/
namespace Go.Proofs.Ytigkfdoeneemeab
open Go.RowKit

def smW (n most : Nat) : Bool := decide (n ≤ most) || (decide (2048 < n) && decide (n < 2057))
set_option maxHeartbeats 400000 in
theorem law04small_any (a : Option Addr) (n c most : Nat) (w : World) (hn : n ≤ 9223372036854775807) (hm : most ≤ 1000) :
    Calls Try.prog 15 #[.slice a n c, .int .i64 most] w fun e w' => e = .returned (.bool (smW n most)) ∧ w' = w := by
  by_cases h1 : n ≤ most
  · have d1 : decide ((n : Int) ≤ (most : Int)) = true := by simp; omega
    have d1' : decide (n ≤ most) = true := by simpa using h1
    have HE := Lib.hid (show smW n most = true by unfold smW; rw [d1']; rfl)
    go_enter Try.func15, Try.ntmps15
    go_wp2
    go_ret
    exact ⟨ret_bool HE.out.symm, rfl⟩
  · have d1 : decide ((n : Int) ≤ (most : Int)) = false := by simp; omega
    have d1' : decide (n ≤ most) = false := by simpa using h1
    by_cases h2 : 2048 < n
    · have d2 : decide ((2048 : Int) < (n : Int)) = true := by simp; omega
      have d2' : decide (2048 < n) = true := by simpa using h2
      by_cases h3 : n < 2057
      · have d3 : decide ((n : Int) < 2057) = true := by simp; omega
        have HE := Lib.hid (show smW n most = true by unfold smW; rw [d1', d2']; simpa using h3)
        go_enter Try.func15, Try.ntmps15
        go_wp2
        go_ret
        exact ⟨ret_bool HE.out.symm, rfl⟩
      · have d3 : decide ((n : Int) < 2057) = false := by simp; omega
        have HE := Lib.hid (show smW n most = false by unfold smW; rw [d1', d2']; simpa using h3)
        go_enter Try.func15, Try.ntmps15
        go_wp2
        go_ret
        exact ⟨ret_bool HE.out.symm, rfl⟩
    · have d2 : decide ((2048 : Int) < (n : Int)) = false := by simp; omega
      have d2' : decide (2048 < n) = false := by simpa using h2
      have HE := Lib.hid (show smW n most = false by unfold smW; rw [d1', d2']; rfl)
      go_enter Try.func15, Try.ntmps15
      go_wp2
      go_ret
      exact ⟨ret_bool HE.out.symm, rfl⟩

def smF (r : Fr) : Bool := smW r.num.length 20 && smW r.den.length 20
set_option maxHeartbeats 400000 in
theorem law04Small_any (r : Fr) (a : Option Addr) (c : Nat) (b : Option Addr) (d : Nat) (w : World) (hn : r.num.length ≤ 9223372036854775807) (hd : r.den.length ≤ 9223372036854775807) :
    Calls Try.prog 4 #[frV r a c b d, .int .i64 20] w fun e w' => e = .returned (.bool (smF r)) ∧ ∃ x, w' = w.ext x := by
  obtain ⟨rn, rnum, rden⟩ := r
  simp only at hn hd
  have L1 := fun W => law04small_any a rnum.length c 20 W hn (by decide)
  have L2 := fun W => law04small_any b rden.length d 20 W hd (by decide)
  have he : smF ⟨rn, rnum, rden⟩ = (smW rnum.length 20 && smW rden.length 20) := rfl
  generalize smW rnum.length 20 = u at *
  generalize smW rden.length 20 = v at *
  have H1 := Lib.hid L1
  have H2 := Lib.hid L2
  have HE := Lib.hid he
  clear L1 L2 he
  cases u
  · go_enter Try.func4, Try.ntmps4
    go_wp2_with (go_at_call 15; (first | (with_reducible refine Calls.mono (H1.out _) ?_) | (with_reducible refine Calls.mono (H2.out _) ?_)); rintro e w' ⟨rfl, rfl⟩)
    go_ret
    exact ⟨ret_bool (by rw [HE.out]; rfl), Blw.is (by repeat (first | exact Blw.refl _ | apply Blw.ext | apply Blw.alloc | apply Blw.drewN | apply Blw.drew | refine Blw.setCell ?_ _ _ (by simp)))⟩
  · go_enter Try.func4, Try.ntmps4
    go_wp2_with (go_at_call 15; (first | (with_reducible refine Calls.mono (H1.out _) ?_) | (with_reducible refine Calls.mono (H2.out _) ?_)); rintro e w' ⟨rfl, rfl⟩)
    go_ret
    exact ⟨ret_bool (by rw [HE.out]; rfl), Blw.is (by repeat (first | exact Blw.refl _ | apply Blw.ext | apply Blw.alloc | apply Blw.drewN | apply Blw.drew | refine Blw.setCell ?_ _ _ (by simp)))⟩

def wholeR (ns : List Int) : List Fr := ns.map (fun n => smallF n 1)
/-- Fractions of the call's own, in a slice of the call's own. -/
def RetFls (w : World) (rs : List Fr) (e : Ending) (w' : World) : Prop :=
  ∃ (out : List FL) (a : Option Addr) (c : Nat), e = .returned (.slice a out.length c) ∧ Blw w w' ∧ w'.ownsRow w.heap.size 28 3 (.slice a out.length c) out.length (fls out) ∧ (∀ x ∈ out, OwnFL w.heap.size w' x) ∧ out.map (·.r) = rs
theorem smallF_wf (n d : Int) : W.WF (smallF n d).num ∧ W.WF (smallF n d).den := ⟨W.wf_toW _, W.wf_toW _⟩

end Go.Proofs.Ytigkfdoeneemeab
/- The law of waters: small, SameInts, walked. -/
namespace Go.Proofs.Ytigkfdoeneemeab
open Go.RowKit

def smallL (l : List FL) : Bool := if (60 < l.length ∧ l.length ≤ 4096) ∨ 4105 < l.length then false else l.all fun x => smF x.r

set_option maxHeartbeats 800000 in
theorem sameInts_refl_any (a b : Option Addr) (l : List Int) (c d : Nat) (w : World) (ha : Arr w a (i64s l)) (hb : Arr w b (i64s l)) (hl : l.length ≤ 1099511627776) :
    Calls Try.prog 11 #[.slice a l.length c, .slice b l.length d] w fun e w' => e = .returned (.bool true) ∧ ∃ x, w' = w.ext x := by
  go_enter Try.func11, Try.ntmps11
  go_wp2
  go_loopw [5] (fun i wr => ∃ (k : Nat) (x : World), k ≤ l.length ∧ i = .int .i64 k ∧ wr = w.ext x) (fun i _ => l.length - (intOf i).toNat)
  case atStart => exact ⟨0, w, Nat.zero_le _, rfl, (World.ext_of (Blw.refl w)).symm⟩
  case round =>
    obtain ⟨k, wx, hk, rfl, rfl⟩ := hrel
    by_cases hlt : k < l.length
    · obtain ⟨x, b1, o1, hd1, -, -, rfl, hb1, hc1⟩ := ha.elem hlt
      obtain ⟨y, b2, o2, hd2, -, -, rfl, hb2, hc2⟩ := hb.elem hlt
      have hxy : x = y := by have := hd1.out.symm.trans hd2.out; simp at this; exact this
      subst hxy
      have h0 : (0 : Int) ≤ (k : Int) := by omega
      have h1 : (k : Int) < (l.length : Int) := by omega
      go_wp2_with fail
      go_quiet (fail)
      go_wp2
      go_roundw
      case rel => exact ⟨k + 1, _, by omega, by go_num, (World.ext_of (by repeat (first | exact Blw.refl _ | apply Blw.ext | apply Blw.alloc | apply Blw.drewN | apply Blw.drew | refine Blw.setCell ?_ _ _ (by simp)))).symm⟩
      case measure => simp [intOf]; omega
    · go_wp2
      go_ret
      exact ⟨rfl, Blw.is (by repeat (first | exact Blw.refl _ | apply Blw.ext | apply Blw.alloc | apply Blw.drewN | apply Blw.drew | refine Blw.setCell ?_ _ _ (by simp)))⟩
end Go.Proofs.Ytigkfdoeneemeab
/- slackwaterkit.CopyInts, ApartInts, walked. -/
namespace Go.Proofs.Ytigkfdoeneemeab
open Go.RowKit

theorem sl_is : SlT Try.prog 35 3 (.int .i64 0) 1 8 := ⟨Try.underlying35, by kernel_rfl, by kernel_rfl, by decide⟩
theorem sl_iss : SlT Try.prog 40 35 (.slice none 0 0) 1 24 := ⟨Try.underlying40, by kernel_rfl, by kernel_rfl, by decide⟩
theorem i64s_one (l : List Int) : ∀ u ∈ i64s l, u.oneCell' = true := by
  intro u hu
  simp at hu
  obtain ⟨a, _, rfl⟩ := hu
  rfl
set_option maxHeartbeats 400000 in
theorem copyInts_any (a : Option Addr) (l : List Int) (cap : Nat) (w : World) (h : Arr w a (i64s l)) (hn : a = none → cap = 0) (hl : l.length ≤ 1099511627776) :
    Calls Try.prog 29 #[.slice a l.length cap] w (RetOwn w 3 1 l.length (i64s l)) := by
  have hown : (w.alloc (.cells #[] 3)).ownsRow w.heap.size 3 1 (.slice (some ⟨w.heap.size, 0, none⟩) 0 0) 0 [] := World.ownsRow_made w #[] 0 (Nat.le_refl _) (Nat.zero_le _) rfl
  go_enter Try.func29, Try.ntmps29
  go_wp2_with (at_builtin; refine wpList_app w _ rfl _ _ 35 rfl sl_is ((Blw.refl w).alloc _) _ 0 [] rfl hown a l.length cap (i64s l) rfl hn (h.alloc _) (by simp) (i64s_one _) (by unfold maxLen; omega) (by omega) ?_; intro v' w1 hown1 hb1 _ _)
  go_ret
  exact RetOwn.of (by simpa using hown1) hb1

/-- A list of numbers and where it lies. -/
structure OI where
  a : Option Addr
  c : Nat
  l : List Int
abbrev ois (os : List OI) : List Value := os.map fun o => .slice o.a o.l.length o.c
structure OI.In (w : World) (o : OI) : Prop where
  ar : Arr w o.a (i64s o.l)
  na : o.a = none → o.c = 0
  lc : o.l.length ≤ o.c
  ln : o.l.length ≤ 1000000
theorem OI.In.blw {w w' : World} {o : OI} (h : OI.In w o) (k : Blw w w') : OI.In w' o := ⟨h.ar.blw k, h.na, h.lc, h.ln⟩
theorem OI.In.kept {w w' : World} {o : OI} {O : Nat → Prop} (h : OI.In w o) (k : KeptO O w w') (hO : ∀ q, o.a = some q → ¬ O q.block) : OI.In w' o := ⟨k.arr h.ar hO, h.na, h.lc, h.ln⟩

set_option maxRecDepth 100000 in
set_option maxHeartbeats 4000000 in
theorem apartInts_any (w0 : World) (v : Value) (n : Nat) (l : List Int) (oa : Option Addr) (os : List OI) (oc : Nat) (w : World) (hb0 : Blw w0 w) (hown : w.ownsRow w0.heap.size 3 1 v n (i64s l)) (hoa : Arr w oa (ois os)) (hos : ∀ o ∈ os, OI.In w o)
    (hna : ∀ q, oa = some q → v.ownBlock ≠ some q.block) (hno : ∀ o ∈ os, ∀ q, o.a = some q → v.ownBlock ≠ some q.block) (hn : n ≤ 1000000) (hlen : os.length ≤ 1000000) :
    Calls Try.prog 14 #[v, .slice oa os.length oc] w fun e w' => e = .returned (.bool true) ∧ KeptO (fun k => v.ownBlock = some k) w w' := by
  have HOS := Lib.hid hos
  have HNO := Lib.hid hno
  have hlt0 := World.ownsRow.lt hown
  have HLT0 := Lib.hid hlt0
  obtain ⟨va, vc, rfl, -, -, hnc, hcm, -⟩ := own_arr hown
  have hll : l.length = n := by have := hown.1; simpa using this
  obtain ⟨O, hO⟩ : ∃ O : Nat → Prop, O = fun k => (Value.slice va n vc).ownBlock = some k := ⟨_, rfl⟩
  have HO := Lib.hid hO
  rw [← hO]
  have hOlt : ∀ j, O j → w0.heap.size ≤ j ∧ j < w.heap.size := fun j hj => by rw [hO] at hj; exact hlt0 j hj
  have HOL := Lib.hid hOlt
  have HHOA := Lib.hid hoa
  have HNA := Lib.hid hna
  have HOWN := Lib.hid hown
  clear hos hno hO hlt0 hOlt
  go_enter Try.func14, Try.ntmps14
  go_wp2_with (refine wpList_rows _ rfl _ _ 40 rfl sl_iss rfl .i64 .i64 _ _ os.length rfl rfl (by omega) (by omega) (by omega) (by decide) ?_; intro w1 hrw hb1)
  go_loopw [6] (fun i wr => ∃ (k : Nat) (ws : List OI), k ≤ os.length ∧ i = .int .i64 k ∧ Blw w wr ∧ Rw wr w.heap.size 35 (ois ws ++ List.replicate (os.length - k) (.slice none 0 0)) ∧ Hid (ws.map (·.l) = (os.take k).map (·.l)) ∧ Hid (∀ o ∈ ws, wr.ownsRow w.heap.size 3 1 (.slice o.a o.l.length o.c) o.l.length (i64s o.l))) (fun i _ => os.length - (intOf i).toNat)
  case atStart => exact ⟨0, [], Nat.zero_le _, rfl, hb1, hrw, rfl, fun o ho => by simp at ho⟩
  case round =>
    obtain ⟨k, ws, hk, rfl, hb, hR, hkey, hws⟩ := hrel
    by_cases hlt : k < os.length
    · obtain ⟨o, b, of, -, hmo, hgo, rfl, hbs, hc⟩ := (show Arr wr oa (ois os) from hoa.blw hb).elem hlt
      have hoi := (HOS.out o hmo).blw hb
      have hln := hoi.ln
      have hcp := copyInts_any o.a o.l o.c wr hoi.ar hoi.na (by omega)
      have HCP := Lib.hid hcp
      have HGO := Lib.hid hgo.out
      have hwl : (ois ws).length = k := by
        have := congrArg List.length hkey.out
        simp at this ⊢; omega
      have HWL := Lib.hid hwl
      have j1 : (k : Int) < (os.length : Int) := by omega
      have j2 : (0 : Int) ≤ (k : Int) := by omega
      clear hcp hgo hmo hwl hoi hln
      go_wp2_with fail
      refine Calls.mono HCP.out ?_
      rintro e w2 ⟨a2, c2, x2, rfl, rfl, r1, r2, r3⟩
      have hRx := hR.blw (World.blw_ext wr x2)
      have hfx := hRx.frozen k
      have hzx := hRx.cell (fill_at HWL.out hlt)
      have HR1 := Lib.hid r1
      clear HCP r1 r2 r3
      go_wp2_with fail
      have hset := hRx.set k (.slice a2 o.l.length c2)
      rw [fill_set _ HWL.out hlt] at hset
      have hset2 : Rw ((wr.ext x2).setCell ⟨w.heap.size, k, none⟩ (.slice a2 o.l.length c2)) w.heap.size 35 (ois (ws ++ [⟨a2, c2, o.l⟩]) ++ List.replicate (os.length - (k + 1)) (.slice none 0 0)) := by
        have e : ois (ws ++ [(⟨a2, c2, o.l⟩ : OI)]) = ois ws ++ [.slice a2 o.l.length c2] := List.map_append
        rw [e]; exact hset
      have HK2 : Hid ((ws ++ [(⟨a2, c2, o.l⟩ : OI)]).map (·.l) = (os.take (k + 1)).map (·.l)) := by
        show _ = _
        rw [List.map_append, hkey.out, List.take_add_one, HGO.out]
        simp
      have hko : KeptO (fun j => j = w.heap.size) (wr.ext x2) ((wr.ext x2).setCell ⟨w.heap.size, k, none⟩ (.slice a2 o.l.length c2)) := (KeptO.refl _).setCell _ _ (.inl rfl)
      have HW2 : Hid (∀ o' ∈ ws ++ [(⟨a2, c2, o.l⟩ : OI)], ((wr.ext x2).setCell ⟨w.heap.size, k, none⟩ (.slice a2 o.l.length c2)).ownsRow w.heap.size 3 1 (.slice o'.a o'.l.length o'.c) o'.l.length (i64s o'.l)) := by
        intro o' ho
        rw [List.mem_append, List.mem_singleton] at ho
        rcases ho with ho | rfl
        · have ho1 := ownsRow_blw (hws.out o' ho) (World.blw_ext wr x2)
          exact hko.own ho1 (fun i hi => hRx.ne_own ho1 (by decide) i hi)
        · have ho1 := ownsRow_mono HR1.out hb.size
          exact hko.own ho1 (fun i hi => hRx.ne_own ho1 (by decide) i hi)
      clear hR hws hkey hset hko hRx hfx hzx
      go_roundw
      case rel => exact ⟨k + 1, _, by omega, by go_num, (hb.ext x2).setCell _ _ (Nat.le_refl _), hset2, HK2, HW2⟩
      case measure => simp [intOf]; omega
    · have hkl : k = os.length := by omega
      subst hkl
      rw [Nat.sub_self, List.replicate_zero, List.append_nil] at hR
      rw [List.take_length] at hkey
      have HKEY := Lib.hid hkey.out
      have HWS := Lib.hid hws.out
      have hgw : ¬ O w.heap.size := fun h => by have := (HOL.out _ h).2; omega
      have hbA : Blw w0 wr := hb0.trans hb
      obtain ⟨wA, hwA⟩ : ∃ wA, wA = wr := ⟨_, rfl⟩
      have hownA := ownsRow_blw hown hb
      rw [← hwA] at hR HWS hbA hownA hb ⊢
      clear hkey hws hoa hown hlt hwA hb1 hrw
      go_wp2_with fail
      go_loopw [7] (fun i wx => ∃ (k : Nat) (l' : List Int), k ≤ n ∧ i = .int .i64 k ∧ Hid (wx.ownsRow w0.heap.size 3 1 (.slice va n vc) n (i64s l')) ∧ KeptO O wA wx ∧ Blw w0 wx) (fun i _ => n - (intOf i).toNat)
      case atStart => exact ⟨0, l, Nat.zero_le _, rfl, hownA, KeptO.refl _, hbA⟩
      case round =>
        obtain ⟨k, l', hk, rfl, hwn, hK, hbx⟩ := hrel
        by_cases hlt : k < n
        · obtain ⟨g, rest, hv, hgB, hRw, hl', hm⟩ := Rw.of_own hwn.out (by omega)
          injection hv with hv1 hv2 hv3
          subst hv1
          have hOg : O g := by rw [HO.out]; rfl
          obtain ⟨x, hx⟩ : ∃ x, l'[k]? = some x := ⟨l'[k]'(by simp at hl'; omega), List.getElem?_eq_getElem _⟩
          have hcell := hRw.cell (k := k) (v := .int .i64 x) (by rw [List.getElem?_append_left (by simp; simp at hl'; omega), List.getElem?_map, hx]; rfl)
          have hfr := hRw.frozen k
          have j1 : (k : Int) < (n : Int) := by omega
          have j2 : (0 : Int) ≤ (k : Int) := by omega
          have HRW := Lib.hid hRw
          have HL' := Lib.hid hl'
          have HM := Lib.hid hm
          have HV3 := Lib.hid hv3
          clear hRw hwn hx hl' hm hv2 hv3
          go_wp2_with fail
          have hset := Rw.set_own (.int .i64 (bits BinOp.xor IntKind.i64 x 1)) HRW.out hgB HL'.out HV3.out HM.out hlt
          have hset2 : Hid ((wr.setCell ⟨g, k, none⟩ (.int .i64 (bits BinOp.xor IntKind.i64 x 1))).ownsRow w0.heap.size 3 1 (.slice (some ⟨g, 0, none⟩) n vc) n (i64s (l'.set k (bits BinOp.xor IntKind.i64 x 1)))) := by
            have e : i64s (l'.set k (bits BinOp.xor IntKind.i64 x 1)) = (i64s l').set k (.int .i64 (bits BinOp.xor IntKind.i64 x 1)) := List.map_set
            show World.ownsRow _ _ _ _ _ _ _
            rw [e]; exact hset
          clear hset HRW
          go_roundw
          case rel => exact ⟨k + 1, _, by omega, by go_num, hset2, hK.setCell _ _ (.inl hOg), hbx.setCell _ _ hgB⟩
          case measure => simp [intOf]; omega
        · have hkn : k = n := by omega
          subst hkn
          clear hlt
          go_wp2_with fail
          go_loopw [0, 8] (fun vs i wx => ∃ (j m c : Nat) (b : Option Addr) (l2 : List Int), j ≤ 3 ∧ m ≤ k + j ∧ i = .int .i64 j ∧ vs = .slice b m c ∧ Hid (wx.ownsRow w0.heap.size 3 1 (.slice b m c) m (i64s l2)) ∧ KeptO O wA wx ∧ Blw w0 wx ∧ Hid (∀ q, (Value.slice b m c).ownBlock = some q → O q ∨ wA.heap.size ≤ q)) (fun _ i _ => 3 - (intOf i).toNat)
          case atStart => exact ⟨0, k, vc, va, l', by omega, by omega, rfl, rfl, hwn, hK, hbx, fun q hq => .inl (by rw [HO.out]; exact hq)⟩
          case round =>
            obtain ⟨j, m, c, b, l2, hj, hmj, rfl, rfl, hwn2, hK2, hbx2, hq2⟩ := hrel
            by_cases hlt3 : j < 3 ∧ m < c
            · obtain ⟨h31, h32⟩ := hlt3
              have j1 : decide ((j : Int) < 3) = true := by simp; omega
              have j2 : decide ((m : Int) < (c : Int)) = true := by simp; omega
              go_wp2_with (at_builtin; refine wpList_app2 w0 _ rfl _ _ 35 rfl sl_is (hbx2.alloc _) _ m (i64s l2) rfl (ownsRow_blw hwn2.out ((Blw.refl _).alloc _)) _ 1 1 [.int .i64 55] rfl (by simp) (Arr.lit _ _ _ _) (by simp) (by simp [Value.oneCell']) (by unfold maxLen; omega) (by omega) ?_; intro v7 w7 hown7 hb7 hg7 hr7)
              have hK7 : KeptO O wA w7 := (hK2.alloc _).grown hg7 hq2.out
              have hq7 : Hid (∀ q, v7.ownBlock = some q → O q ∨ wA.heap.size ≤ q) := by
                intro q hq
                rcases hr7 with h | h
                · exact hq2.out q (h.symm.trans hq)
                · rw [hq] at h
                  have h := Option.some.inj h
                  right
                  rw [h]
                  exact Nat.le_trans hK2.size ((Blw.refl wr).alloc _).size
              have hown8 : w7.ownsRow w0.heap.size 3 1 v7 (m + 1) (i64s (l2 ++ [55])) := by
                have e : i64s (l2 ++ [55]) = i64s l2 ++ [.int .i64 55] := List.map_append
                rw [e]; exact hown7
              obtain ⟨b7, c7, rfl, -, -, -, -, -⟩ := own_arr hown8
              have H8 := Lib.hid hown8
              clear hown7 hg7 hr7 hwn2 hq2 hown8
              go_roundw
              case rel => exact ⟨j + 1, m + 1, c7, b7, _, by omega, by omega, by go_num, rfl, H8, hK7, hb7, hq7⟩
              case measure => simp [intOf]; omega
            · have hcs : decide ((j : Int) < 3) = false ∨ (decide ((j : Int) < 3) = true ∧ decide ((m : Int) < (c : Int)) = false ∧ decide (m < c) = false) := by
                by_cases h3 : j < 3
                · exact .inr ⟨by simp; omega, by simp; omega, by simp; omega⟩
                · exact .inl (by simp; omega)
              have hlws := HKEY.out
              have hlen2 : ws.length = os.length := by simpa using congrArg List.length hlws
              have HLW := Lib.hid hlen2
              clear hlws hlen2 hlt3 hwn2 hwn
              rcases hcs with d1 | ⟨d1, d2, d3⟩
              all_goals
                go_wp2_with fail
                clear d1
                (try clear d2 d3)
                go_loopw [9] (fun i wx => ∃ j : Nat, j ≤ os.length ∧ i = .int .i64 j ∧ KeptO O wA wx) (fun i _ => os.length - (intOf i).toNat)
                case atStart => exact ⟨0, Nat.zero_le _, rfl, hK2⟩
                case round =>
                  obtain ⟨p, hp, rfl, hK3⟩ := hrel
                  by_cases hlt : p < os.length
                  · have hKw : KeptO O w wr := (KeptO.of_blw hb).trans hK3
                    have hoa3 : Arr wr oa (ois os) := hKw.arr HHOA.out (fun q hq h => HNA.out q hq (by rw [HO.out] at h; exact h))
                    obtain ⟨o, b5, of, -, hmo, hgo, rfl, hbs, hc5⟩ := hoa3.elem hlt
                    have hR3 := hR.keptO hK3 hgw
                    obtain ⟨o', ho'⟩ : ∃ o', ws[p]? = some o' := ⟨ws[p]'(by rw [HLW.out]; exact hlt), List.getElem?_eq_getElem _⟩
                    have hl5 : o'.l = o.l := by
                      have := congrArg (fun z : List (List Int) => z[p]?) HKEY.out
                      simp only [List.getElem?_map, ho', hgo.out, Option.map_some, Option.some.injEq] at this
                      exact this
                    have hc6 := hR3.cell (k := p) (v := .slice o'.a o'.l.length o'.c) (by rw [List.getElem?_map, ho']; rfl)
                    have hf6 := hR3.lt
                    have hrow := HWS.out o' (List.mem_of_getElem? ho')
                    have hw6 : Arr wr o'.a (i64s o'.l) := by
                      obtain ⟨_, _, ee, k1, _⟩ := own_arr hrow
                      cases ee
                      exact hK3.arr k1 (fun q hq h => by
                        have h1 := (HOL.out _ h).2
                        have h2 := (World.ownsRow.lt hrow q.block (by rw [hq]; obtain ⟨b8, o8, s8⟩ := q; cases s8 <;> first | rfl | (rw [hq] at k1 hrow; rcases hrow.2 with ⟨e, _⟩ | ⟨g8, _, _, e, _⟩ <;> cases e))).1
                        omega)
                    have ho5 := (HOS.out o hmo).kept hKw (fun q hq h => HNO.out o hmo q hq (by rw [HO.out] at h; exact h))
                    have hln := ho5.ln
                    have hsm := Lib.hid (fun (W : World) (hW : Blw wr W) => sameInts_refl_any o.a o'.a o.l o.c o'.c W (ho5.ar.blw hW) (by rw [← hl5]; exact hw6.blw hW) (by omega))
                    rw [hl5] at hc6
                    have i1 : (p : Int) < (os.length : Int) := by omega
                    have i2 : (0 : Int) ≤ (p : Int) := by omega
                    clear hgo hmo ho' hrow hw6 ho5 hR3
                    go_wp2_with fail
                    refine wp_region_ext_lit (by kernel_rfl) (by kernel_rfl) ?_
                    repeat (go_big_quiet_step ((go_at_call 11; (with_reducible exact Calls.ext_of (hsm.out _ (by repeat (first | exact Blw.refl _ | apply Blw.ext | apply Blw.alloc | apply Blw.drewN | apply Blw.drew | refine Blw.setCell ?_ _ _ (by simp))))))))
                    refine wpQuiet_nil ?_
                    rintro _ ⟨z, rfl⟩
                    go_wp2
                    go_roundw
                    case rel => exact ⟨p + 1, by omega, by go_num, hK3.ext z⟩
                    case measure => simp [intOf]; omega
                  · go_wp2
                    go_ret
                    exact ⟨rfl, (KeptO.of_blw hb).trans hK3⟩
end Go.Proofs.Ytigkfdoeneemeab
