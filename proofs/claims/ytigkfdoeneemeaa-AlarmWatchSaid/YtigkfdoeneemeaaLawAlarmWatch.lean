/- The walk of the law AlarmWatch. -/
import Derived.Test.YtigkfdoeneemeaaRefAllB
import Derived.Test.YtigkfdoeneemeaaAll29
namespace Go.Proofs.Ytigkfdoeneemeaa
open Go.RowKit

set_option maxRecDepth 100000 in
set_option maxHeartbeats 8000000 in
theorem alarmWatch_walk (level ease : Nat) (a : Option Addr) (l : List (Int × Nat)) (cap : Nat) (w : World) (hx : level < 2 ^ 64) (hy : ease < 2 ^ 64) (h : Arr w a (smps l)) (hl : ∀ p ∈ l, p.2 < 2 ^ 64) (hn : a = none → cap = 0) :
    Calls Try.prog 7 #[.float .f64 level, .float .f64 ease, .slice a l.length cap] w fun e w' => e = .returned (.bool true) ∧ ∃ x, w' = w.ext x := by
  have HN := Lib.hid hn
  clear hn
  go_enter Try.func7, Try.ntmps7
  go_wp2_with fail
  refine Calls.mono (lives_any _) ?_
  rintro e w' ⟨rfl, x0, rfl⟩
  by_cases hbig : 120 < l.length
  · go_wp2
    go_ret
    exact ⟨rfl, Blw.is (by repeat (first | exact Blw.refl _ | apply Blw.ext | apply Blw.alloc | apply Blw.drewN | apply Blw.drew | refine Blw.setCell ?_ _ _ (by simp)))⟩
  go_wp2_with fail
  refine Calls.mono (lentSamples_any a l cap _ (h.ext x0) HN.out (by omega)) ?_
  rintro e w' ⟨a1, c1, x1, rfl, rfl, own1, ha1, hn1⟩
  have hcap := own_cap own1
  have hp : Arr ((w.ext x0).ext x1) a1 (smps l) := ha1.pre (by rw [smps_app]; exact List.prefix_append _ _)
  obtain ⟨b1, o1, rfl, -, -⟩ := ha1.at (i := l.length * 2) (by rw [smps_len]; simp [spS])
  have hb0 : Blw w ((w.ext x0).ext x1) := (by repeat (first | exact Blw.refl _ | apply Blw.ext | apply Blw.alloc | apply Blw.drewN | apply Blw.drew | refine Blw.setCell ?_ _ _ (by simp)))
  generalize (w.ext x0).ext x1 = w1 at *
  clear own1 hn1
  go_wp2_with fail
  refine Calls.mono (all_any level ease _ l c1 w1 hx hy hp hl (by omega)) ?_
  rintro e w2 ⟨ax, cx, rfl, hb2, ox⟩
  go_wp2_with fail
  refine Calls.mono (refAll_any level ease a l cap _ (h.blw ((hb0.trans hb2).alloc _)) (by omega)) ?_
  rintro e w3 ⟨ay, cy, rfl, hb3, oy⟩
  obtain ⟨⟨v1, v2, v3⟩, hv⟩ := ex_hid (allV level ease l)
  have hv1 := allV_len level ease l
  rw [hv.out] at ox oy hb3 hv1 ⊢
  simp only at ox oy hb3 hv1 ⊢
  obtain ⟨ax', cx', ex, harx, -, -, -, -⟩ := own_arr ox
  cases ex
  obtain ⟨ay', cy', ey, hary, -, -, -, -⟩ := own_arr oy
  cases ey
  have harx3 : Arr w3 ax (alCells v1) := harx.blw (((Blw.refl w2).alloc _).trans hb3)
  have hbw3 : Blw w1 w3 := (hb2.alloc _).trans hb3
  have hbx : w2.heap.size < w3.heap.size := Nat.lt_of_lt_of_le (by simp) hb3.size
  have q0 : w3.cell? ⟨w2.heap.size, 0, none⟩ = some (.int .i64 v2) := (Below.cell hb3 (by simp)).trans (by go_simp)
  have q1 : w3.cell? ⟨w2.heap.size, 1, none⟩ = some (.int .i64 v3) := (Below.cell hb3 (by simp)).trans (by go_simp)
  have hb03 := hb0.trans hbw3
  have ha3 := ha1.blw hbw3
  clear ox oy hb2 hb3 harx hv hbw3 ha1 hp
  go_wp2_with fail
  refine Calls.mono (sameAlarms_any ax ay v1 cx cy _ (harx3.blw (by repeat (first | exact Blw.refl _ | apply Blw.ext | apply Blw.alloc | apply Blw.drewN | apply Blw.drew | refine Blw.setCell ?_ _ _ (by simp)))) (hary.blw (by repeat (first | exact Blw.refl _ | apply Blw.ext | apply Blw.alloc | apply Blw.drewN | apply Blw.drew | refine Blw.setCell ?_ _ _ (by simp)))) (by omega)) ?_
  rintro e w4 ⟨rfl, x4, rfl⟩
  go_wp2_with fail
  refine Calls.mono (keptSamples_any _ a l c1 cap _ (ha3.blw (by repeat (first | exact Blw.refl _ | apply Blw.ext | apply Blw.alloc | apply Blw.drewN | apply Blw.drew | refine Blw.setCell ?_ _ _ (by simp)))) ((h.blw hb03).blw (by repeat (first | exact Blw.refl _ | apply Blw.ext | apply Blw.alloc | apply Blw.drewN | apply Blw.drew | refine Blw.setCell ?_ _ _ (by simp)))) HN.out (by omega)) ?_
  rintro e w4 ⟨rfl, x5, hx5⟩
  have hb4 : Blw w w4 := by rw [hx5]; exact hb03.trans (by repeat (first | exact Blw.refl _ | apply Blw.ext | apply Blw.alloc | apply Blw.drewN | apply Blw.drew | refine Blw.setCell ?_ _ _ (by simp)))
  have hb34 : Blw w3 w4 := by rw [hx5]; exact (by repeat (first | exact Blw.refl _ | apply Blw.ext | apply Blw.alloc | apply Blw.drewN | apply Blw.drew | refine Blw.setCell ?_ _ _ (by simp)))
  clear hx5 q0 q1 hary harx3 ha3 hb03 hbx hv1 hb0 hb34
  go_wp2_with fail
  cases hf : (Fl.isFin level && Fl.isFin ease)
  · refine Calls.mono (new_bad level ease _ hx hy hf) ?_
    rintro e w' ⟨rfl, rfl⟩
    go_wp2_with fail
    refine Calls.mono (refNew_bad level ease _ hf) ?_
    rintro e w' ⟨rfl, z, rfl⟩
    clear hf
    go_wp2
    go_ret
    exact ⟨rfl, Blw.is (hb4.trans (by repeat (first | exact Blw.refl _ | apply Blw.ext | apply Blw.alloc | apply Blw.drewN | apply Blw.drew | refine Blw.setCell ?_ _ _ (by simp))))⟩
  have fx : Fl.isFin level = true := by cases hq : Fl.isFin level <;> simp_all
  have fy : Fl.isFin ease = true := by cases hq : Fl.isFin ease <;> simp_all
  clear hf
  cases hg : (FloatKind.f64.format.order ease level == some .gt)
  case true =>
    refine Calls.mono (new_arg level ease _ hx hy fx fy hg) ?_
    rintro e w' ⟨rfl, rfl⟩
    go_wp2_with fail
    refine Calls.mono (refNew_arg level ease _ fx fy hg) ?_
    rintro e w' ⟨rfl, z, rfl⟩
    clear fx fy hg
    go_wp2
    go_ret
    exact ⟨rfl, Blw.is (hb4.trans (by repeat (first | exact Blw.refl _ | apply Blw.ext | apply Blw.alloc | apply Blw.drewN | apply Blw.drew | refine Blw.setCell ?_ _ _ (by simp))))⟩
  refine Calls.mono (new_ok level ease _ hx hy fx fy hg) ?_
  rintro e w5 ⟨rfl, hw5⟩
  obtain ⟨g, hgg⟩ := ex_hid w4.heap.size
  rw [hgg.out]
  have hb5 : Blw w4 w5 := by rw [hw5]; exact (by repeat (first | exact Blw.refl _ | apply Blw.ext | apply Blw.alloc | apply Blw.drewN | apply Blw.drew | refine Blw.setCell ?_ _ _ (by simp)))
  have hW5 : WAt w5 g (newS level ease) (.slice none 0 0) := by rw [hw5, ← hgg.out]; exact heap_alloc_new _ _
  have hg1 : w.heap.size ≤ g := by rw [← hgg.out]; exact hb4.size
  clear hw5 hgg
  go_wp2_with fail
  refine Calls.mono (refNew_ok level ease _ fx fy hg w.heap.size) ?_
  clear fx fy hg
  rintro e w6 ⟨rfl, hb6, hR6⟩
  obtain ⟨g2, hgg⟩ := ex_hid w5.heap.size
  rw [hgg.out] at hR6 ⊢
  have hgw : g < w5.heap.size := (Array.getElem?_eq_some_iff.1 hW5).1
  have hT6 : Two w6 w.heap.size g (newS level ease) none 0 g2 (newS level ease) [] none 0 none 0 :=
    ⟨⟨(KeptO.of_blw (O := fun _ => False) hb6).heap hW5 id, World.ownsRow_nil _ _ _ _, fun q h => by (cases h)⟩, hR6, by
      rintro i (rfl | ⟨q, h, _⟩) (h2 | ⟨q, h2, _⟩ | ⟨q, h2, _⟩)
      · have := hgg.out; omega
      all_goals cases h2
      all_goals cases h⟩
  have hg2 : w.heap.size ≤ g2 := by rw [← hgg.out]; exact (hb4.trans hb5).size
  have hbw6 : Blw w w6 := (hb4.trans hb5).trans hb6
  clear hW5 hR6 hgg hgw hb4 hb5 hb6
  go_wp2_with fail
  go_loopw [16] (fun vi wr => ∃ (k : Nat) (s : WS) (a' : Option Addr) (cap' : Nat) (lr : List (Int × Nat)) (b : Option Addr) (capb : Nat) (c : Option Addr) (capc : Nat), k ≤ l.length ∧ vi = .int .i64 k ∧ PInv s ∧ lr.length ≤ k ∧ Two wr w.heap.size g s a' cap' g2 s lr b capb c capc ∧ Blw w wr) (fun i _ => l.length - (intOf i).toNat)
  case atStart => exact ⟨0, newS level ease, none, 0, [], none, 0, none, 0, Nat.zero_le _, rfl, PInv.new _ _, Nat.le_refl _, hT6, hbw6⟩
  case round =>
    obtain ⟨k, s, a', cap', lr, b, capb, c, capc, hk, rfl, hinv, hlr, hT, hb⟩ := hrel
    clear hT6 hbw6
    by_cases hlt : k < l.length
    · obtain ⟨t, x, bb, o, hgk, hm, rfl, hbs, c0, c1⟩ := smp_at (h.blw hb) hlt
      have hx2 := hl _ hm
      have hbl : bb < w.heap.size := by
        obtain ⟨_, _, _, _, _, _, e, e2, _⟩ := smp_at h hlt
        cases e; exact e2
      clear hgk hm
      go_wp2_with fail
      refine Calls.mono (feed_any g s a' cap' t x wr hT.p.at_ hx2 hinv.hb w.heap.size hb.size hT.p.own hT.p.ne) ?_
      obtain ⟨⟨s2, ch, er⟩, hp⟩ := ex_hid (feedS s t x)
      have inv2 := hinv.feed t x
      rw [hp.out] at inv2 ⊢
      rintro e w2 h2
      obtain ⟨rfl, a2, cap2, hT2, K2⟩ := hT.fed h2
      have hb2 : Blw w w2 := K2.blw hb (fun i hi => hT.p.ge hg1 hi)
      have d0 : w2.cell? ⟨bb, o + k * 2, none⟩ = some (.int .i64 t) := by
        rw [Below.cell hb2 hbl, ← Below.cell hb hbl]; exact c0
      have d1 : w2.cell? ⟨bb, o + k * 2 + 1, none⟩ = some (.float .f64 x) := by
        rw [Below.cell hb2 hbl, ← Below.cell hb hbl]; exact c1
      clear h2 K2 hT hb hbs c0 c1
      go_wp2_with fail
      refine Calls.mono (rfeed_any w.heap.size g2 s lr b capb c capc t x w2 hT2.r hb2.size (by omega)) ?_
      rw [hp.out]
      rintro e w3 h3
      obtain ⟨rfl, l', b', capb', c', capc', hT3, hl3, K3⟩ := hT2.rfed h3
      have hb3 : Blw w w3 := K3.blw hb2 (fun i hi => hT2.r.ge hg2 hi)
      clear h3 K3 hT2 hb2 d0 d1 hp

      go_wp2_with (first | (go_at_call 26; refine Calls.mono (up_any g s2 _ _ hT3.p.at_) ?_; rintro e w' ⟨rfl, h9⟩; subst h9) | (go_at_call 37; refine Calls.mono (refUp_any g2 s2 _ _ _ hT3.r.at_) ?_; rintro e w' ⟨rfl, h9⟩; subst h9))
      go_roundw
      case rel => exact ⟨k + 1, s2, a2, cap2, l', b', capb', c', capc', by omega, by go_num, inv2, by omega, hT3, hb3⟩
      case measure => simp [intOf]; omega
    · obtain ⟨a3, c3, he, har, -, -, -, hn3⟩ := own_arr hT.p.own
      injection he with e1 e2 e3
      subst e1 e3
      obtain ⟨d3, f3, he, hcr, -, -, -, hm3⟩ := own_arr hT.r.o2
      injection he with e4 e5 e6
      subst e4 e6
      have hlen3 : s.al.length ≤ 4096 := hinv.len
      have HN3 := Lib.hid hn3
      have HM3 := Lib.hid (fun h => (hm3 h).2)
      clear hn3 hm3 e2 e5 hinv hlr
      go_wp2_with fail
      refine Calls.mono (alarms_any g s a' cap' _ hT.p.at_ har HN3.out (by omega)) ?_
      rintro e w7 ⟨p1, q1, y1, rfl, rfl, op1, ap1, -⟩
      have hT7 := hT.blw (wr.blw_ext y1)
      have har7 := har.ext y1
      have hcr7 := hcr.ext y1
      have hb7 := hb.ext y1
      have hsz0 : w.heap.size ≤ wr.heap.size := hb.size
      have hgl : ∀ gg, p1 = some ⟨gg, 0, none⟩ → gg < (wr.ext y1).heap.size := fun gg e => (World.ownsRow.lt op1 gg (by subst e; rfl)).2
      have hqc := own_cap op1
      have hOge := Lib.hid (fun (q : Addr) (e : p1 = some q) => World.ownsRow.lt op1 q.block (by subst e; rfl))
      have hPlt := Lib.hid (fun i (hi : PO g a' i) => hT.p.lt hi)
      have hRlt := Lib.hid (fun i (hi : RO g2 b c i) => hT.r.lt hi)
      generalize wr.ext y1 = w7 at *
      go_wp2_with fail
      refine Calls.mono (alarms_any g s a' cap' _ hT7.p.at_ har7 HN3.out (by omega)) ?_
      rintro e w8 ⟨p2, q2, y2, rfl, rfl, op2, ap2, -⟩
      have hT8 := hT7.blw (w7.blw_ext y2)
      have hcr8 := hcr7.ext y2
      have hb8 := hb7.ext y2
      have ap18 := ap1.ext y2
      have op18 := ownsRow_blw op1 (w7.blw_ext y2)
      generalize hw8 : w7.ext y2 = w8 at *
      clear hw8 ap1 op1 hcr har hT hb
      go_wp2_with fail
      refine Calls.mono (refAlarms_any g2 s _ c capc _ hT8.r.at_ hcr8 HM3.out (by omega)) ?_
      rintro e w9 ⟨p3, q3, y3, rfl, rfl, -, ap3, -⟩
      go_wp2_with fail
      refine Calls.mono (sameAlarms_any p1 p3 s.al q1 q3 _ (ap18.ext y3) ap3 (by omega)) ?_
      rintro e w10 ⟨rfl, y4, hw10⟩
      have hb10 : Blw w8 w10 := by rw [hw10]; exact (by repeat (first | exact Blw.refl _ | apply Blw.ext | apply Blw.alloc | apply Blw.drewN | apply Blw.drew | refine Blw.setCell ?_ _ _ (by simp)))
      have hT10 := hT8.blw hb10
      have op1 := ownsRow_blw op18 hb10
      have op2 := ownsRow_blw op2 hb10
      have hbw := hb8.trans hb10
      clear hw10 hb10 ap3 ap2 ap18 op18 hcr8 hcr7 har7 hb8 hb7 hT8
      have hrow : s.al.length = 0 ∨ ∃ (gg : Nat) (cur : Array Value), p1 = some ⟨gg, 0, none⟩ ∧ wr.heap.size ≤ gg ∧ gg < w7.heap.size ∧ w10.heap[gg]? = some (.cells cur 68 (0, 0)) ∧ s.al.length * 2 ≤ cur.size := by
        rcases op1.2 with ⟨-, h0⟩ | ⟨gg, cp, cur, hv, hB, hh, hnc, hmx, hsz, htk⟩
        · exact .inl h0
        · injection hv with e1 e2 e3
          exact .inr ⟨gg, cur, e1, hB, hgl gg e1, hh, by rw [hsz, ← e3]; have := hqc; omega⟩
      clear op1 hgl hqc
      go_wp2_with fail
      go_loopw [23] (fun vi wq => ∃ i : Nat, i ≤ s.al.length ∧ vi = .int .i64 i ∧ (s.al.length = 0 ∨ ∃ (gg : Nat) (cur : Array Value), p1 = some ⟨gg, 0, none⟩ ∧ wr.heap.size ≤ gg ∧ gg < w7.heap.size ∧ wq.heap[gg]? = some (.cells cur 68 (0, 0)) ∧ s.al.length * 2 ≤ cur.size) ∧
        KeptO (fun i => ∃ q, p1 = some q ∧ i = q.block) w10 wq) (fun i _ => s.al.length - (intOf i).toNat)
      case atStart => exact ⟨0, Nat.zero_le _, rfl, hrow, KeptO.refl _⟩
      case round =>
        obtain ⟨i, hi, rfl, hrow, hK⟩ := hrel
        by_cases hlt2 : i < s.al.length
        · rcases hrow with h0 | ⟨gg, cur, rfl, hg0, hg7, hh, hsz⟩
          · omega
          have e0 : cur[i * 2]? = some cur[i * 2] := Array.getElem?_eq_getElem (by omega)
          have e1 : cur[i * 2 + 1]? = some cur[i * 2 + 1] := Array.getElem?_eq_getElem (by omega)
          have c0 : wr.cell? ⟨gg, i * 2, none⟩ = some cur[i * 2] := by rw [← e0]; exact cell_of_row wr gg (i * 2) _ _ _ hh
          have c1 : (wr.setCell ⟨gg, i * 2, none⟩ (.int .i64 (-1))).cell? ⟨gg, i * 2 + 1, none⟩ = some cur[i * 2 + 1] := by
            rw [World.cell?_setCell_other _ _ _ _ (by intro h; injection h with _ h _; omega), ← e1]; exact cell_of_row wr gg (i * 2 + 1) _ _ _ hh
          have f0 : ∀ j, wr.frozen? ⟨gg, j, none⟩ = false := fun j => frozen_of_row wr gg j _ _ hh
          have f1 : ∀ j, (wr.setCell ⟨gg, i * 2, none⟩ (.int .i64 (-1))).frozen? ⟨gg, j, none⟩ = false := fun j => frozen_of_row _ gg j _ _ (at_set (i * 2) _ hh)
          clear e0 e1
          go_wp2_with fail
          go_roundw
          case rel => exact ⟨i + 1, by omega, by go_num, .inr ⟨gg, _, rfl, hg0, hg7, at_set (i * 2 + 1) _ (at_set (i * 2) _ hh), by simpa using hsz⟩, (hK.setCell ⟨gg, i * 2, none⟩ _ (.inl ⟨⟨gg, 0, none⟩, rfl, rfl⟩)).setCell ⟨gg, i * 2 + 1, none⟩ _ (.inl ⟨⟨gg, 0, none⟩, rfl, rfl⟩)⟩
          case measure => simp [intOf]; omega
        · have hTq : Two wr w.heap.size g s a' cap' g2 s lr b capb c capc := ⟨hT10.p.kept hK (by
            rintro j hj ⟨q, e, rfl⟩
            have := hPlt.out _ hj
            have := (hOge.out q e).1
            omega), hT10.r.kept hK (by
            rintro j hj ⟨q, e, rfl⟩
            have := hRlt.out _ hj
            have := (hOge.out q e).1
            omega), hT10.d⟩
          have op2q := hK.own op2 (by
            rintro j hj ⟨q, e, rfl⟩
            have := (World.ownsRow.lt op2 _ hj).1
            have := (hOge.out q e).2
            omega)
          have hbq : Blw w wr := hK.blw hbw (by
            rintro j ⟨q, e, rfl⟩
            have := (hOge.out q e).1
            have := hsz0
            omega)
          obtain ⟨d4, f4, he, apq, -, -, -, -⟩ := own_arr op2q
          cases he
          obtain ⟨d4, f4, he, har, -, -, -, -⟩ := own_arr hTq.p.own
          cases he
          obtain ⟨d4, f4, he, hcr, -, -, -, -⟩ := own_arr hTq.r.o2
          cases he
          clear hrow
          go_wp2_with fail
          refine Calls.mono (refAlarms_any g2 s _ c capc _ hTq.r.at_ hcr HM3.out (by omega)) ?_
          rintro e w11 ⟨p4, q4, y5, rfl, rfl, -, ap4, -⟩
          go_wp2_with fail
          refine Calls.mono (sameAlarms_any p2 p4 s.al q2 q4 _ (apq.ext y5) ap4 (by omega)) ?_
          rintro e w12 ⟨rfl, y6, hw12⟩
          have hb12 : Blw wr w12 := by rw [hw12]; exact (by repeat (first | exact Blw.refl _ | apply Blw.ext | apply Blw.alloc | apply Blw.drewN | apply Blw.drew | refine Blw.setCell ?_ _ _ (by simp)))
          have hT12 := hTq.blw hb12
          clear hw12 ap4
          go_wp2_with fail
          refine Calls.mono (alarms_any g s a' cap' _ hT12.p.at_ (har.blw hb12) HN3.out (by omega)) ?_
          rintro e w13 ⟨p5, q5, y7, rfl, rfl, -, ap5, -⟩
          go_wp2_with fail
          refine Calls.mono (sameAlarms_any p5 p2 s.al q5 q2 _ ap5 ((apq.blw hb12).ext y7) (by omega)) ?_
          rintro e w14 ⟨rfl, y8, rfl⟩
          go_wp2
          go_ret
          exact ⟨by simp, Blw.is (((hbq.trans hb12).ext y7).ext y8)⟩
end Go.Proofs.Ytigkfdoeneemeaa
