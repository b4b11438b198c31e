/- The walk of the reference's All. -/
import Derived.Test.YtigkfdoeneemeaaTwo29
namespace Go.Proofs.Ytigkfdoeneemeaa
open Go.RowKit

set_option maxRecDepth 100000 in
set_option maxHeartbeats 4000000 in
theorem refAll_any (level ease : Nat) (a : Option Addr) (l : List (Int × Nat)) (cap : Nat) (w : World) (h : Arr w a (smps l)) (hlen : l.length ≤ 50000) :
    Calls Try.prog 32 #[.slice a l.length cap, .float .f64 level, .float .f64 ease] w (AllOut w (allV level ease l)) := by
  go_enter Try.func32, Try.ntmps32
  go_wp2_with fail
  have hF0 : (w.alloc (Obj.cells #[Value.int IntKind.i64 0, Value.int IntKind.i64 0] 36)).heap[w.heap.size]? = some (.cells #[.int .i64 0, .int .i64 0] 36 (0, 0)) := heap_alloc_new _ _
  have fin : ∀ (w2 : World) (er at0 : Int), w2.heap[w.heap.size]? = some (.cells #[.int .i64 0, .int .i64 0] 36 (0, 0)) →
      w2.frozen? ⟨w.heap.size, 0, none⟩ = false ∧ w2.frozen? ⟨w.heap.size, 1, none⟩ = false ∧ w2.cell? ⟨w.heap.size, 0, none⟩ = some (.int .i64 0) ∧ w2.cell? ⟨w.heap.size, 1, none⟩ = some (.int .i64 0) ∧
      (w2.setCell ⟨w.heap.size, 0, none⟩ (.int .i64 er)).cell? ⟨w.heap.size, 0, none⟩ = some (.int .i64 er) ∧ ((w2.setCell ⟨w.heap.size, 0, none⟩ (.int .i64 er)).setCell ⟨w.heap.size, 1, none⟩ (.int .i64 at0)).cell? ⟨w.heap.size, 1, none⟩ = some (.int .i64 at0) := by
    intro w2 er at0 hF
    have d0 : w2.cell? ⟨w.heap.size, 0, none⟩ = some (.int .i64 0) := cell_of_row w2 w.heap.size 0 _ _ _ hF
    have d1 : w2.cell? ⟨w.heap.size, 1, none⟩ = some (.int .i64 0) := cell_of_row w2 w.heap.size 1 _ _ _ hF
    exact ⟨frozen_of_row w2 _ 0 _ _ hF, frozen_of_row w2 _ 1 _ _ hF, d0, d1, World.cell?_setCell_same w2 _ _ d0, World.cell?_setCell_same (w2.setCell ⟨w.heap.size, 0, none⟩ (.int .i64 er)) _ _ ((World.cell?_setCell_other _ _ _ _ (by intro h; cases h)).trans d1)⟩
  have FIN := Lib.hid fin
  clear fin
  cases hf : (Fl.isFin level && Fl.isFin ease)
  · refine Calls.mono (refNew_bad level ease _ hf) ?_
    rintro e w' ⟨rfl, z, rfl⟩
    have HV := Lib.hid (allV_bad (l := l) hf)
    obtain ⟨f0, f1, d0, d1, q0, q1⟩ := FIN.out _ 8 (-1) (at_ext z hF0)
    clear hf
    go_wp2
    exact bodyPost_ret (v := .tuple #[.slice none 0 0, .agg #[.int .i64 8, .int .i64 (-1)]]) (by simp [results, Try.results32, go_sem, q0, q1]) rfl (by rw [HV.out]; exact ⟨none, 0, rfl, by (repeat (first | exact (((Blw.refl w).alloc _).ext z) | (refine Blw.setCell ?_ _ _ (Nat.le_refl _)))), World.ownsRow_nil _ _ _ _⟩)
  have fx : Fl.isFin level = true := by cases hq : Fl.isFin level <;> simp_all
  have fy : Fl.isFin ease = true := by cases hq : Fl.isFin ease <;> simp_all
  clear hf
  cases hg : (FloatKind.f64.format.order ease level == some .gt)
  case true =>
    refine Calls.mono (refNew_arg level ease _ fx fy hg) ?_
    rintro e w' ⟨rfl, z, rfl⟩
    have HV := Lib.hid (allV_arg (l := l) fx fy hg)
    obtain ⟨f0, f1, d0, d1, q0, q1⟩ := FIN.out _ 2 (-1) (at_ext z hF0)
    clear fx fy hg
    go_wp2
    exact bodyPost_ret (v := .tuple #[.slice none 0 0, .agg #[.int .i64 2, .int .i64 (-1)]]) (by simp [results, Try.results32, go_sem, q0, q1]) rfl (by rw [HV.out]; exact ⟨none, 0, rfl, by (repeat (first | exact (((Blw.refl w).alloc _).ext z) | (refine Blw.setCell ?_ _ _ (Nat.le_refl _)))), World.ownsRow_nil _ _ _ _⟩)
  refine Calls.mono (refNew_ok level ease _ fx fy hg (w.heap.size + 1)) ?_
  obtain ⟨R, hR⟩ := ex_hid (runS l (newS level ease) 0)
  obtain ⟨s0, er0, at0⟩ := R
  have HV := Lib.hid (allV_run fx fy hg hR.out)
  clear fx fy hg
  rintro e w1 ⟨rfl, hbb, hst⟩
  have hb1 : Blw w w1 := ((Blw.refl w).alloc _).trans hbb
  have hfb : w1.heap[w.heap.size]? = some (.cells #[.int .i64 0, .int .i64 0] 36 (0, 0)) := (KeptO.of_blw (O := fun _ => False) hbb).heap hF0 id
  obtain ⟨g, hgg⟩ := ex_hid (w.alloc (Obj.cells #[Value.int IntKind.i64 0, Value.int IntKind.i64 0] 36)).heap.size
  rw [hgg.out] at hst ⊢
  have hg1 : w.heap.size + 1 ≤ g := by rw [← hgg.out]; simp
  clear hbb hgg hF0
  go_wp2_with fail
  go_loopw [10] (fun vi wr => ∃ (k : Nat) (s : WS) (lr : List (Int × Nat)) (b : Option Addr) (capb : Nat) (c : Option Addr) (capc : Nat), k ≤ l.length ∧ vi = .int .i64 k ∧ Hid ((s0, er0, at0) = runS (l.drop k) s k) ∧ PInv s ∧ lr.length ≤ k ∧
    RSt wr (w.heap.size + 1) g s lr b capb c capc ∧ Blw w wr ∧ wr.heap[w.heap.size]? = some (.cells #[.int .i64 0, .int .i64 0] 36 (0, 0))) (fun i _ => l.length - (intOf i).toNat)
  case atStart => exact ⟨0, newS level ease, [], none, 0, none, 0, Nat.zero_le _, rfl, (by show _ = _; rw [List.drop_zero]; exact hR.out.symm), PInv.new _ _, Nat.le_refl _, hst, hb1, hfb⟩
  case round =>
    obtain ⟨k, s, lr, b, capb, c, capc, hk, rfl, hrun, hinv, hlr, hS, hb, hF⟩ := hrel
    clear hst hb1 hfb hR
    have fs : w.heap.size < wr.heap.size := (Array.getElem?_eq_some_iff.1 hF).1
    by_cases hlt : k < l.length
    · obtain ⟨t, x, bb, o, hgk, hm, rfl, hbs, c0, c1⟩ := smp_at (h.blw hb) hlt
      have HGK := Lib.hid hgk; clear hgk
      go_wp2_with fail
      refine Calls.mono (rfeed_any (w.heap.size + 1) g s lr b capb c capc t x wr hS (by omega) (by omega)) ?_
      obtain ⟨⟨s2, ch, er⟩, hp⟩ := ex_hid (feedS s t x)
      have inv2 := hinv.feed t x
      rw [hp.out] at inv2 ⊢
      rintro e w2 ⟨he, l', b', capb', c', capc', hS2, hl2, -, K2⟩
      have he : e = .returned (.tuple #[.int .u8 ch, .int .i64 er]) := he
      subst he
      have hb2 : Blw w w2 := K2.blw hb (fun i hi => by have := hS.ge hg1 hi; omega)
      have hF2 : w2.heap[w.heap.size]? = some (.cells #[.int .i64 0, .int .i64 0] 36 (0, 0)) := K2.heap hF (fun hi => by have := hS.ge hg1 hi; omega)
      clear K2 hS hb c0 c1 hbs hF fs
      by_cases her : er = 0
      · subst her
        have hr2 := Lib.hid (runS_on HGK.out hrun.out hp.out)
        clear hrun hp
        go_wp2_with fail
        go_roundw
        case rel => exact ⟨k + 1, s2, l', b', capb', c', capc', by omega, by go_num, hr2, inv2, by omega, hS2, hb2, hF2⟩
        case measure => simp [intOf]; omega
      · have hr2 := runS_err HGK.out hrun.out hp.out her
        obtain ⟨rfl, rfl, rfl⟩ : s0 = s ∧ er0 = er ∧ at0 = (k : Int) := by simpa using hr2
        rw [if_neg her] at HV
        have her2 : (er0 != 0) = true := by simpa using her
        obtain ⟨f0, f1, d0, d1, q0, q1⟩ := FIN.out _ er0 k hF2
        clear hr2 hp hrun her
        go_wp2_with fail
        exact bodyPost_ret (v := .tuple #[.slice none 0 0, .agg #[.int .i64 er0, .int .i64 k]]) (by simp [results, Try.results32, go_sem, q0, q1]) rfl (by rw [HV.out]; exact ⟨none, 0, rfl, by (repeat (first | exact hb2 | (refine Blw.setCell ?_ _ _ (Nat.le_refl _)))), World.ownsRow_nil _ _ _ _⟩)
    · have hr2 := runS_end (by omega) hrun.out
      obtain ⟨rfl, rfl, rfl⟩ : s0 = s ∧ er0 = 0 ∧ at0 = 0 := by simpa using hr2
      rw [if_pos rfl] at HV
      obtain ⟨a3, c3, he, har, -, -, -, hn3⟩ := own_arr hS.o2
      injection he with e1 e2 e3
      subst e1 e3
      have hlen3 : s0.al.length ≤ 1048576 := by have := hinv.len; omega
      have HN := Lib.hid (fun h => (hn3 h).2)
      clear hr2 hrun hn3 e2
      go_wp2_with fail
      refine Calls.mono (refAlarms_any g s0 _ c capc _ hS.at_ har HN.out hlen3) ?_
      rintro e w' ⟨a1, c1, x, rfl, rfl, ho, -, -⟩
      have hF2 : (wr.ext x).heap[w.heap.size]? = some (.cells #[.int .i64 0, .int .i64 0] 36 (0, 0)) := at_ext x hF
      obtain ⟨f0, f1, d0, d1, q0, q1⟩ := FIN.out _ 0 0 hF2
      have hb2 := hb.ext x
      generalize hW9 : wr.ext x = w9 at *
      go_wp2_with fail
      refine bodyPost_ret (v := .tuple #[.slice a1 s0.al.length c1, .agg #[.int .i64 0, .int .i64 0]]) (by simp [results, Try.results32, go_sem, q0, q1]) rfl ?_
      rw [HV.out]
      refine ⟨a1, c1, rfl, by (repeat (first | exact hb2 | (refine Blw.setCell ?_ _ _ (Nat.le_refl _)))), ?_⟩
      refine KeptO.own (O := fun k => k = w.heap.size) (by repeat (first | exact KeptO.refl _ | refine KeptO.setCell ?_ _ _ (.inl rfl))) (ownsRow_mono ho (by omega)) ?_
      intro k hk e
      have := (World.ownsRow.lt ho k hk).1
      omega
end Go.Proofs.Ytigkfdoeneemeaa
