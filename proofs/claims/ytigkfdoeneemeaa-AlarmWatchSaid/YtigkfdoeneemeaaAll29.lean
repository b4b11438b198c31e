/- The walk of the program's All. -/
import Derived.Test.YtigkfdoeneemeaaRel29b
import Derived.Test.YtigkfdoeneemeaaLives
import Derived.Test.YtigkfdoeneemeaaSmp
namespace Go.Proofs.Ytigkfdoeneemeaa
open Go.RowKit

set_option maxRecDepth 100000 in
set_option maxHeartbeats 4000000 in
theorem all_any (level ease : Nat) (a : Option Addr) (l : List (Int × Nat)) (cap : Nat) (w : World) (hx : level < 2 ^ 64) (hy : ease < 2 ^ 64) (h : Arr w a (smps l)) (hl : ∀ p ∈ l, p.2 < 2 ^ 64) (hlen : l.length ≤ 100000) :
    Calls Try.prog 31 #[.slice a l.length cap, .float .f64 level, .float .f64 ease] w (AllOut w (allV level ease l)) := by
  go_enter Try.func31, Try.ntmps31
  go_wp2_with fail
  cases hf : (Fl.isFin level && Fl.isFin ease)
  · refine Calls.mono (new_bad level ease _ hx hy hf) ?_
    rintro e w' ⟨rfl, rfl⟩
    have HV := Lib.hid (allV_bad (l := l) hf)
    clear hf
    go_wp2
    exact bodyPost_ret (v := .tuple #[.slice none 0 0, .agg #[.int .i64 8, .int .i64 (-1)]]) (by simp [results, Try.results31, go_sem]) rfl (by rw [HV.out]; exact ⟨none, 0, rfl, (by repeat (first | exact Blw.refl _ | apply Blw.ext | apply Blw.alloc | apply Blw.drewN | apply Blw.drew | refine Blw.setCell ?_ _ _ (by simp))), World.ownsRow_nil _ _ _ _⟩)
  have fx : Fl.isFin level = true := by cases hq : Fl.isFin level <;> simp_all
  have fy : Fl.isFin ease = true := by cases hq : Fl.isFin ease <;> simp_all
  clear hf
  cases hg : (FloatKind.f64.format.order ease level == some .gt)
  case true =>
    refine Calls.mono (new_arg level ease _ hx hy fx fy hg) ?_
    rintro e w' ⟨rfl, rfl⟩
    have HV := Lib.hid (allV_arg (l := l) fx fy hg)
    clear fx fy hg
    go_wp2
    exact bodyPost_ret (v := .tuple #[.slice none 0 0, .agg #[.int .i64 2, .int .i64 (-1)]]) (by simp [results, Try.results31, go_sem]) rfl (by rw [HV.out]; exact ⟨none, 0, rfl, (by repeat (first | exact Blw.refl _ | apply Blw.ext | apply Blw.alloc | apply Blw.drewN | apply Blw.drew | refine Blw.setCell ?_ _ _ (by simp))), World.ownsRow_nil _ _ _ _⟩)
  refine Calls.mono (new_ok level ease _ hx hy fx fy hg) ?_
  obtain ⟨R, hR⟩ := ex_hid (runS l (newS level ease) 0)
  obtain ⟨s0, er0, at0⟩ := R
  have HV := Lib.hid (allV_run fx fy hg hR.out)
  clear fx fy hg
  rintro e w1 ⟨rfl, hw1⟩
  have hb1 : Blw w w1 := by rw [hw1]; exact (by repeat (first | exact Blw.refl _ | apply Blw.ext | apply Blw.alloc | apply Blw.drewN | apply Blw.drew | refine Blw.setCell ?_ _ _ (by simp)))
  obtain ⟨g, hgg⟩ := ex_hid (w.alloc (Obj.cells #[Value.int IntKind.i64 0, Value.int IntKind.i64 0] 36)).heap.size
  rw [hgg.out]
  have hW1 : WAt w1 g (newS level ease) (.slice none 0 0) := by rw [hw1, ← hgg.out]; exact heap_alloc_new _ _
  have hg1 : w.heap.size < g := by rw [← hgg.out]; simp
  have hfb : w1.heap[w.heap.size]? = some (.cells #[.int .i64 0, .int .i64 0] 36 (0, 0)) := by rw [hw1]; exact at_alloc _ (heap_alloc_new _ _)
  have hs1 : w.heap.size < w1.heap.size := (Array.getElem?_eq_some_iff.1 hfb).1
  clear hw1 hgg
  go_wp2_with fail
  go_loopw [26] (fun vi wr => ∃ (k : Nat) (s : WS) (a' : Option Addr) (cap' : Nat), k ≤ l.length ∧ vi = .int .i64 k ∧ Hid ((s0, er0, at0) = runS (l.drop k) s k) ∧ PInv s ∧
    WAt wr g s (.slice a' s.al.length cap') ∧ wr.ownsRow (w.heap.size + 1) 68 2 (.slice a' s.al.length cap') s.al.length (alCells s.al) ∧ (∀ q, a' = some q → q.block ≠ g) ∧ Blw w wr ∧ wr.heap[w.heap.size]? = some (.cells #[.int .i64 0, .int .i64 0] 36 (0, 0))) (fun i _ => l.length - (intOf i).toNat)
  case atStart => exact ⟨0, newS level ease, none, 0, Nat.zero_le _, rfl, (by show _ = _; rw [List.drop_zero]; exact hR.out.symm), PInv.new _ _, hW1, World.ownsRow_nil _ _ _ _, (fun q h => by cases h), hb1, hfb⟩
  case round =>
    obtain ⟨k, s, a', cap', hk, rfl, hrun, hinv, hW, hown, hne, hb, hF⟩ := hrel
    clear hW1 hb1 hfb hs1 hR
    have fs : w.heap.size < wr.heap.size := (Array.getElem?_eq_some_iff.1 hF).1
    have gs : g < wr.heap.size := (Array.getElem?_eq_some_iff.1 hW).1
    by_cases hlt : k < l.length
    · obtain ⟨t, x, b, o, hgk, hm, rfl, hbs, c0, c1⟩ := smp_at (h.blw hb) hlt
      have HGK := Lib.hid hgk; clear hgk
      have hx2 := hl _ hm
      go_wp2_with fail
      refine Calls.mono (feed_any g s a' cap' t x _ (by repeat (first | exact hW | apply at_set | apply at_ext | apply at_alloc | apply at_drewN | apply at_drew | (refine at_far _ ?_ ?_; (· omega)))) hx2 hinv.hb (w.heap.size + 1) (by simp; omega) (ownsRow_blw hown (by repeat (first | exact Blw.refl _ | apply Blw.ext | apply Blw.alloc | apply Blw.drewN | apply Blw.drew | refine Blw.setCell ?_ _ _ (by simp)))) hne) ?_
      obtain ⟨⟨s2, c, er⟩, hp⟩ := ex_hid (feedS s t x)
      have inv2 := hinv.feed t x
      rw [hp.out] at inv2 ⊢
      rintro e w2 h2
      obtain ⟨rfl, a2, cap2, hW2, own2, ne2, -, K2⟩ := h2.at
      have hb2 : Blw w w2 := K2.blw (hb.alloc _) (by
        rintro i (rfl | ⟨q, h, rfl⟩)
        · omega
        · have := (World.ownsRow.lt hown q.block (by subst h; rfl)).1; omega)
      have hF2 : w2.heap[w.heap.size]? = some (.cells #[.int .i64 0, .int .i64 0] 36 (0, 0)) := K2.heap (by repeat (first | exact hF | apply at_ext | apply at_alloc | apply at_drewN | apply at_drew | (refine at_far _ ?_ ?_; (· omega)))) (by
        rintro (e | ⟨q, h, e⟩)
        · omega
        · have := (World.ownsRow.lt hown q.block (by subst h; rfl)).1; omega)
      clear h2 K2 hown hne hW hb c0 c1 hbs gs hF fs
      by_cases her : er = 0
      · subst her
        have hr2 := Lib.hid (runS_on HGK.out hrun.out hp.out)
        clear hrun hp
        go_wp2_with fail
        go_roundw
        case rel => exact ⟨k + 1, s2, a2, cap2, by omega, by go_num, hr2, inv2, hW2, own2, ne2, hb2, hF2⟩
        case measure => simp [intOf]; omega
      · have hr2 := runS_err HGK.out hrun.out hp.out her
        obtain ⟨rfl, rfl, rfl⟩ : s0 = s ∧ er0 = er ∧ at0 = (k : Int) := by simpa using hr2
        rw [if_neg her] at HV
        have her2 : (er0 != 0) = true := by simpa using her
        have f0 : w2.frozen? ⟨w.heap.size, 0, none⟩ = false := frozen_of_row w2 _ 0 _ _ hF2
        have f1 : w2.frozen? ⟨w.heap.size, 1, none⟩ = false := frozen_of_row w2 _ 1 _ _ hF2
        have d0 : w2.cell? ⟨w.heap.size, 0, none⟩ = some (.int .i64 0) := cell_of_row w2 w.heap.size 0 _ _ _ hF2
        have d1 : w2.cell? ⟨w.heap.size, 1, none⟩ = some (.int .i64 0) := cell_of_row w2 w.heap.size 1 _ _ _ hF2
        have q0 : (w2.setCell ⟨w.heap.size, 0, none⟩ (.int .i64 er0)).cell? ⟨w.heap.size, 0, none⟩ = some (.int .i64 er0) := World.cell?_setCell_same w2 _ _ d0
        have q1 : ((w2.setCell ⟨w.heap.size, 0, none⟩ (.int .i64 er0)).setCell ⟨w.heap.size, 1, none⟩ (.int .i64 k)).cell? ⟨w.heap.size, 1, none⟩ = some (.int .i64 k) := World.cell?_setCell_same (w2.setCell ⟨w.heap.size, 0, none⟩ (.int .i64 er0)) _ _ ((World.cell?_setCell_other _ _ _ _ (by intro h; cases h)).trans d1)
        clear hr2 hp hrun her
        go_wp2_with fail
        exact bodyPost_ret (v := .tuple #[.slice none 0 0, .agg #[.int .i64 er0, .int .i64 k]]) (by simp [results, Try.results31, go_sem, q0, q1]) rfl (by rw [HV.out]; exact ⟨none, 0, rfl, by (repeat (first | exact hb2 | (refine Blw.setCell ?_ _ _ (Nat.le_refl _)))), World.ownsRow_nil _ _ _ _⟩)
    · have hr2 := runS_end (by omega) hrun.out
      obtain ⟨rfl, rfl, rfl⟩ : s0 = s ∧ er0 = 0 ∧ at0 = 0 := by simpa using hr2
      rw [if_pos rfl] at HV
      obtain ⟨a3, c3, he, har, -, -, -, hn3⟩ := own_arr hown
      injection he with e1 e2 e3
      subst e1 e3
      have hlen3 : s0.al.length ≤ 1048576 := by have := hinv.len; omega
      have HN := Lib.hid hn3
      clear hr2 hrun hn3 e2
      go_wp2_with fail
      refine Calls.mono (alarms_any g s0 a' cap' _ hW har HN.out hlen3) ?_
      rintro e w' ⟨a1, c1, x, rfl, rfl, ho, -, -⟩
      have hF2 : (wr.ext x).heap[w.heap.size]? = some (.cells #[.int .i64 0, .int .i64 0] 36 (0, 0)) := at_ext x hF
      have f0 : (wr.ext x).frozen? ⟨w.heap.size, 0, none⟩ = false := frozen_of_row _ _ 0 _ _ hF2
      have f1 : (wr.ext x).frozen? ⟨w.heap.size, 1, none⟩ = false := frozen_of_row _ _ 1 _ _ hF2
      have d0 : (wr.ext x).cell? ⟨w.heap.size, 0, none⟩ = some (.int .i64 0) := cell_of_row _ w.heap.size 0 _ _ _ hF2
      have d1 : (wr.ext x).cell? ⟨w.heap.size, 1, none⟩ = some (.int .i64 0) := cell_of_row _ w.heap.size 1 _ _ _ hF2
      have q0 : ((wr.ext x).setCell ⟨w.heap.size, 0, none⟩ (.int .i64 0)).cell? ⟨w.heap.size, 0, none⟩ = some (.int .i64 0) := World.cell?_setCell_same _ _ _ d0
      have q1 : (((wr.ext x).setCell ⟨w.heap.size, 0, none⟩ (.int .i64 0)).setCell ⟨w.heap.size, 1, none⟩ (.int .i64 0)).cell? ⟨w.heap.size, 1, none⟩ = some (.int .i64 0) := World.cell?_setCell_same ((wr.ext x).setCell ⟨w.heap.size, 0, none⟩ (.int .i64 0)) _ _ ((World.cell?_setCell_other _ _ _ _ (by intro h; cases h)).trans d1)
      have hb2 := hb.ext x
      generalize hW9 : wr.ext x = w9 at *
      go_wp2_with fail
      refine bodyPost_ret (v := .tuple #[.slice a1 s0.al.length c1, .agg #[.int .i64 0, .int .i64 0]]) (by simp [results, Try.results31, go_sem, q0, q1]) rfl ?_
      rw [HV.out]
      refine ⟨a1, c1, rfl, by (repeat (first | exact hb2 | (refine Blw.setCell ?_ _ _ (Nat.le_refl _)))), ?_⟩
      refine KeptO.own (O := fun k => k = w.heap.size) (by repeat (first | exact KeptO.refl _ | refine KeptO.setCell ?_ _ _ (.inl rfl))) (ownsRow_mono ho (by omega)) ?_
      intro k hk e
      have := (World.ownsRow.lt ho k hk).1
      omega
end Go.Proofs.Ytigkfdoeneemeaa
