/- The walk of the reference's Watch.Feed, where it takes the sample. -/
import Derived.Test.YtigkfdoeneemeaaRef29b
namespace Go.Proofs.Ytigkfdoeneemeaa
open Go.RowKit

set_option maxRecDepth 100000 in
set_option maxHeartbeats 8000000 in
theorem rfeed_long (B g : Nat) (s : WS) (l : List (Int × Nat)) (a : Option Addr) (cap : Nat) (a2 : Option Addr) (cap2 : Nat) (t : Int) (x : Nat) (w : World) (h : RSt w B g s l a cap a2 cap2) (hl : l.length ≤ 100000) (h0 : 0 ≤ t) (h1 : t ≤ 1048576) (h2 : s.told = true → s.last < t) (hal : 4096 ≤ s.al.length) :
    Calls Try.prog 36 #[.pointer (some ⟨g, 0, none⟩), .agg #[.int .i64 t, .float .f64 x]] w fun e w' => e = .returned (feedV 0 3) ∧ ∃ x, w' = w.ext x := by
  obtain ⟨hg, c0, c1, c2, c3, c4, c5⟩ := h.at_.cells
  obtain ⟨a', c', ea, har, -, -, -, -⟩ := own_arr h.o1
  cases ea
  have rel := h.rel
  clear h
  have d1 : decide (t < 0) = false := by simp; omega
  have d2 : decide (1048576 < t) = false := by simp; omega
  go_enter Try.func36, Try.ntmps36
  go_wp2_with (go_at_call 105; refine (refNone_any g _ (by go_simp) (by go_simp)).mono ?_; rintro e w' ⟨rfl, rfl⟩)
  by_cases hne : l = []
  · subst hne
    clear rel h2
    go_quiet (fail)
    go_wp2
    go_ret2
    exact ⟨rfl, Blw.is (by repeat (first | exact Blw.refl _ | apply Blw.ext | apply Blw.alloc | apply Blw.drewN | apply Blw.drew | refine Blw.setCell ?_ _ _ (by simp)))⟩
  · have hpos := List.length_pos_iff.2 hne
    have h3 : s.told = true := by rw [rel.told]; simp [hne]
    obtain ⟨t9, x9, b, o, hgk, hm, rfl, hbs, e0, e1⟩ := smp_at har (k := l.length - 1) (by omega)
    have hlast : s.last = t9 := by
      have := rel.last (t9, x9) (by rw [List.getLast?_eq_getElem?]; exact hgk)
      exact this
    have p1 : decide (0 < l.length) = true := by simp; omega
    have p2 : decide (t ≤ t9) = false := by have := h2 h3; rw [← hlast]; simp; omega
    have p3 : ((l.length - 1 : Nat) : Int) = (l.length : Int) - 1 := by omega
    have p4 : (0 : Int) ≤ (l.length : Int) - 1 := by omega
    have p5 : (l.length : Int) - 1 < (l.length : Int) := by omega
    have p6 : IntKind.i64.wrap ((l.length : Int) - 1) = (l.length : Int) - 1 := by rw [IntKind.wrap_i64]; omega
    have p7 : ((l.length : Int) - 1).toNat = l.length - 1 := by omega
    clear rel hne hpos hgk hm hlast h2 h3
    go_quiet (fail)
    go_wp2
    go_ret2
    exact ⟨rfl, Blw.is (by repeat (first | exact Blw.refl _ | apply Blw.ext | apply Blw.alloc | apply Blw.drewN | apply Blw.drew | refine Blw.setCell ?_ _ _ (by simp)))⟩

theorem RSt.mid {w W : World} {B g : Nat} {s : WS} {l : List (Int × Nat)} {a : Option Addr} {cap : Nat} {a2 : Option Addr} {cap2 : Nat} {t : Int} {x : Nat} (h : RSt w B g s l a cap a2 cap2) (hb : Blw w W) (lt : w.heap.size < W.heap.size) (c0 : W.cell? ⟨w.heap.size, 0, none⟩ = some (.int .i64 t)) (c1 : W.cell? ⟨w.heap.size, 1, none⟩ = some (.float .f64 x)) :
    RMid w W B g s l a cap a2 cap2 a t x :=
  have ho : KeptO (fun _ => False) w W := KeptO.of_blw hb
  ⟨ho.heap h.at_ id, ownsRow_blw h.o1 hb, ownsRow_blw h.o2 hb, h.n1, h.n2, h.n12, ho.mono (fun _ _ h => h.elim), .inl rfl, (fun q hq => by have := (World.ownsRow.lt h.o1 q.block (by rw [hq]; rfl)).2; omega), (fun q hq => (World.ownsRow.lt h.o2 q.block (by rw [hq]; rfl)).2), (Array.getElem?_eq_some_iff.1 h.at_).1, lt, c0, c1⟩

/-- What the walk reads of it. -/
theorem RMid.reads {w W : World} {B g : Nat} {s : WS} {l : List (Int × Nat)} {a : Option Addr} {cap : Nat} {a2 : Option Addr} {cap2 : Nat} {a0 : Option Addr} {t : Int} {x : Nat} (m : RMid w W B g s l a cap a2 cap2 a0 t x) :
    g < W.heap.size ∧ (∀ i, W.frozen? ⟨g, i, none⟩ = false) ∧ Arr W a (smps l) ∧ Arr W a2 (alCells s.al) ∧ some g ≠ (Value.slice a l.length cap).ownBlock ∧ some g ≠ (Value.slice a2 s.al.length cap2).ownBlock ∧ some w.heap.size ≠ (Value.slice a l.length cap).ownBlock := by
  obtain ⟨a', c', ea, har, -, -, -, -⟩ := own_arr m.o1
  cases ea
  obtain ⟨a', c', ea, har2, -, -, -, -⟩ := own_arr m.o2
  cases ea
  exact ⟨(Array.getElem?_eq_some_iff.1 m.at_).1, fun i => frozen_of_row W g i _ _ m.at_, har, har2, (fun e => by obtain ⟨q, h1, h2⟩ := own_block e.symm; exact m.n1 q h1 h2), (fun e => by obtain ⟨q, h1, h2⟩ := own_block e.symm; exact m.n2 q h1 h2), (fun e => by obtain ⟨q, h1, h2⟩ := own_block e.symm; exact m.b1 q h1 h2)⟩

theorem done0 (s : WS) (t : Int) (x : Nat) : (doneS (takeS s t) t x 0).level = s.level ∧ (doneS (takeS s t) t x 0).ease = s.ease ∧ (doneS (takeS s t) t x 0).up = s.up ∧ (doneS (takeS s t) t x 0).al = s.al := ⟨rfl, rfl, rfl, rfl⟩
theorem done1 (s : WS) (t : Int) (x : Nat) : (doneS (takeS s t) t x 1).level = ({ s with up := true } : WS).level ∧ (doneS (takeS s t) t x 1).ease = ({ s with up := true } : WS).ease ∧ (doneS (takeS s t) t x 1).up = ({ s with up := true } : WS).up ∧ (doneS (takeS s t) t x 1).al = ({ s with up := true } : WS).al ++ [(t, 1)] := ⟨rfl, rfl, rfl, rfl⟩
theorem done2 (s : WS) (t : Int) (x : Nat) : (doneS (takeS s t) t x 2).level = ({ s with up := false } : WS).level ∧ (doneS (takeS s t) t x 2).ease = ({ s with up := false } : WS).ease ∧ (doneS (takeS s t) t x 2).up = ({ s with up := false } : WS).up ∧ (doneS (takeS s t) t x 2).al = ({ s with up := false } : WS).al ++ [(t, 2)] := ⟨rfl, rfl, rfl, rfl⟩
theorem done3 (s : WS) (t : Int) (x : Nat) : (doneS (takeS s t) t x 3).level = s.level ∧ (doneS (takeS s t) t x 3).ease = s.ease ∧ (doneS (takeS s t) t x 3).up = s.up ∧ (doneS (takeS s t) t x 3).al = s.al ++ [(t, 3)] := ⟨rfl, rfl, rfl, rfl⟩

section
variable {w W W' w1 : World} {B g gg : Nat} {s : WS} {l : List (Int × Nat)} {a : Option Addr} {cap cap' : Nat} {a2 : Option Addr} {cap2 : Nat} {a0 : Option Addr} {t : Int} {x : Nat} {o : Obj}
theorem RMid.fin0 (m : RMid w W B g s (l ++ [(t, x)]) a cap a2 cap2 a0 t x) (k : Blw W W') (hst : Rel (doneS (takeS s t) t x 0) (l ++ [(t, x)])) : RFeed w B g l a0 a2 (doneS (takeS s t) t x 0, 0, 0) (.returned (feedV 0 0)) W' :=
  RMid.end (m.blw k) (done0 s t x) hst (by simp) 0 0
theorem RMid.fin1 (m : RMid w W B g { s with up := true } (l ++ [(t, x)]) a cap a2 cap2 a0 t x) (hown1 : w1.ownsRow B 68 2 (.slice (some ⟨gg, 0, none⟩) (s.al.length + 1) cap') (s.al.length + 1) (alCells s.al ++ [.int .i64 t, .int .u8 1]))
    (hgrow : (W.alloc o).drew.grownBy w1 (Value.slice a2 s.al.length cap2).ownBlock) (hat : (Value.slice a2 s.al.length cap2).ownBlock = some gg ∨ gg = W.heap.size + 1) (hst : Rel (doneS (takeS s t) t x 1) (l ++ [(t, x)])) :
    RFeed w B g l a0 a2 (doneS (takeS s t) t x 1, 1, 0) (.returned (feedV 1 0)) (w1.setCell ⟨g, 3, none⟩ (.slice (some ⟨gg, 0, none⟩) (s.al.length + 1) cap')) :=
  RMid.app2 m hown1 hgrow hat (done1 s t x) hst (by simp) 0
theorem RMid.fin2 (m : RMid w W B g { s with up := false } (l ++ [(t, x)]) a cap a2 cap2 a0 t x) (hown1 : w1.ownsRow B 68 2 (.slice (some ⟨gg, 0, none⟩) (s.al.length + 1) cap') (s.al.length + 1) (alCells s.al ++ [.int .i64 t, .int .u8 2]))
    (hgrow : (W.alloc o).drew.grownBy w1 (Value.slice a2 s.al.length cap2).ownBlock) (hat : (Value.slice a2 s.al.length cap2).ownBlock = some gg ∨ gg = W.heap.size + 1) (hst : Rel (doneS (takeS s t) t x 2) (l ++ [(t, x)])) :
    RFeed w B g l a0 a2 (doneS (takeS s t) t x 2, 2, 0) (.returned (feedV 2 0)) (w1.setCell ⟨g, 3, none⟩ (.slice (some ⟨gg, 0, none⟩) (s.al.length + 1) cap')) :=
  RMid.app2 m hown1 hgrow hat (done2 s t x) hst (by simp) 0
theorem RMid.fin3 (m : RMid w W B g s (l ++ [(t, x)]) a cap a2 cap2 a0 t x) (hown1 : w1.ownsRow B 68 2 (.slice (some ⟨gg, 0, none⟩) (s.al.length + 1) cap') (s.al.length + 1) (alCells s.al ++ [.int .i64 t, .int .u8 3]))
    (hgrow : (W.alloc o).drew.grownBy w1 (Value.slice a2 s.al.length cap2).ownBlock) (hat : (Value.slice a2 s.al.length cap2).ownBlock = some gg ∨ gg = W.heap.size + 1) (hst : Rel (doneS (takeS s t) t x 3) (l ++ [(t, x)])) :
    RFeed w B g l a0 a2 (doneS (takeS s t) t x 3, 3, 0) (.returned (feedV 3 0)) (w1.setCell ⟨g, 3, none⟩ (.slice (some ⟨gg, 0, none⟩) (s.al.length + 1) cap')) :=
  RMid.app2 m hown1 hgrow hat (done3 s t x) hst (by simp) 0
end

set_option maxRecDepth 100000 in
set_option maxHeartbeats 8000000 in
theorem rfeed_main (B g : Nat) (s : WS) (l : List (Int × Nat)) (a : Option Addr) (cap : Nat) (a2 : Option Addr) (cap2 : Nat) (t : Int) (x : Nat) (w : World) (h : RSt w B g s l a cap a2 cap2) (hB : B ≤ w.heap.size) (hl : l.length ≤ 100000) (h0 : 0 ≤ t) (h1 : t ≤ 1048576) (h2 : s.told = true → s.last < t) (hal : s.al.length < 4096) (b : s.told = true → 0 ≤ s.heard ∧ s.heard ≤ 1048576) :
    Calls Try.prog 36 #[.pointer (some ⟨g, 0, none⟩), .agg #[.int .i64 t, .float .f64 x]] w (RFeed w B g l a a2 (doneS (takeS s t) t x (callS (takeS s t) t x), callS (takeS s t) t x, 0)) := by
  have H := Lib.hid h
  obtain ⟨hg, c0, c1, c2, c3, c4, c5⟩ := h.at_.cells
  obtain ⟨a', c', ea, har, -, -, -, -⟩ := own_arr h.o1
  cases ea
  obtain ⟨i0, hi0, hz0, hz1, hz2⟩ := info_parts sl_samples.info
  obtain ⟨i1, hi1, hy0, hy1, hy2⟩ := info_parts sl_alarms.info
  have rel := h.rel
  have hnt : l ≠ [] → s.last < t := fun hne => h2 (by rw [rel.told]; simp [hne])
  have hstep := Lib.hid (rel.step (h := x) h0 h1 hnt)
  have hsin := Lib.hid (rel.since t x)
  have hhu := Lib.hid (rel.hush t x)
  have hhb : 0 ≤ (takeS s t).heard ∧ (takeS s t).heard ≤ 1048576 := by
    show 0 ≤ (if s.told then s.heard else t) ∧ (if s.told then s.heard else t) ≤ 1048576
    cases ht : s.told
    · exact ⟨h0, h1⟩
    · exact b ht
  have hc := callS_cases (takeS s t) t x
  clear h b hnt
  have d1 : decide (t < 0) = false := by simp; omega
  have d2 : decide (1048576 < t) = false := by simp; omega
  go_enter Try.func36, Try.ntmps36
  go_wp2_with (go_at_call 105; refine (refNone_any g _ (by go_simp) (by go_simp)).mono ?_; rintro e w' ⟨rfl, rfl⟩)
  have hfirst : l = [] ∨ ∃ (t9 : Int) (x9 : Nat) (b o : Nat), 0 < l.length ∧ a = some ⟨b, o, none⟩ ∧ b < w.heap.size ∧ w.cell? ⟨b, o + (l.length - 1) * 2, none⟩ = some (.int .i64 t9) ∧ decide (t ≤ t9) = false := by
    by_cases hne : l = []
    · exact .inl hne
    · have hpos := List.length_pos_iff.2 hne
      have h3 : s.told = true := by rw [rel.told]; simp [hne]
      obtain ⟨t9, x9, b, o, hgk, hm, ha, hbs, e0, e1⟩ := smp_at har (k := l.length - 1) (by omega)
      have hlast : s.last = t9 := by
        have := rel.last (t9, x9) (by rw [List.getLast?_eq_getElem?]; exact hgk)
        exact this
      exact .inr ⟨t9, x9, b, o, hpos, ha, hbs, e0, by have := h2 h3; rw [← hlast]; simp; omega⟩
  clear rel h2 har
  have cont : decide (0 < l.length) = false ∨ (decide (0 < l.length) = true ∧ ∃ (t9 : Int) (b o : Nat), a = some ⟨b, o, none⟩ ∧ b < w.heap.size ∧ w.cell? ⟨b, o + (l.length - 1) * 2, none⟩ = some (.int .i64 t9) ∧ decide (t ≤ t9) = false ∧ (0 : Int) ≤ (l.length : Int) - 1 ∧ (l.length : Int) - 1 < (l.length : Int) ∧ IntKind.i64.wrap ((l.length : Int) - 1) = (l.length : Int) - 1 ∧ ((l.length : Int) - 1).toNat = l.length - 1) := by
    rcases hfirst with hne | ⟨t9, x9, b, o, hpos, ha, hbs, e0, p2⟩
    · exact .inl (by rw [hne]; rfl)
    · exact .inr ⟨by simp; omega, t9, b, o, ha, hbs, e0, p2, by omega, by omega, by rw [IntKind.wrap_i64]; omega, by omega⟩
  clear hfirst
  rcases cont with p1 | ⟨p1, t9, b, o, rfl, hbs, e0, p2, p4, p5, p6, p7⟩
  all_goals
    go_quiet (fail)
    go_wp2_with fail
    refine gen_world (fun W => ∃ A, Hid (A = _) ∧ RMid w W B g s l A cap a2 cap2 A t x) ⟨_, rfl, H.out.mid (by repeat (first | exact Blw.refl _ | apply Blw.ext | apply Blw.alloc | apply Blw.drewN | apply Blw.drew | refine Blw.setCell ?_ _ _ (by simp))) (by simp) (by go_simp) (by go_simp)⟩ ?_
    rintro W ⟨A, HA, m⟩
    clear p1
    try clear p2 p4 p5 p6 p7 e0 hbs
    clear c0 c1 c2 c3 c4 c5 hg
    obtain ⟨-, c0, c1, c2, c3, c4, c5⟩ := m.at_.cells
    obtain ⟨gW, fW, har, har2, hne1, hne2, hbx⟩ := m.reads
    have bl := m.lt
    have b0 := m.c0
    have b1 := m.c1
    go_region_law (first | (refine step_append_lies _ (by rfl) _ _ _ (by rfl) B 43 i0 _ 2 16 Try.underlying55 hi0 hz0 hz1 hz2 rfl (by omega) (.slice A l.length cap) l.length (smps l) (by rfl) ((m.o1.alloc _).drew) ⟨W.heap.size, 0, none⟩ 1 1 [.int .i64 t, .float .f64 x] (by rfl) (by rfl) (World.news_of_block (cs := #[.int .i64 t, .float .f64 x]) (t := 43) (fr := (0, 0)) (heap_alloc_new W _)) (by simp [Value.oneCell']) (by omega) (by unfold maxLen; omega) (by omega) (by simp; omega) (W.heap.size + 1) (by simp) ?_; intro gg cap3 w1 hown1 hgrow hat hlt; have e8 : w1.cell? ⟨g, 2, none⟩ = some (.slice A l.length cap) := (hgrow.cell_far _ (by simp; omega) hne1).trans (by go_simp); have e9 : w1.frozen? ⟨g, 2, none⟩ = false := (hgrow.frozen_far _ (by simp; omega) hne1).trans (by go_simp)))
    all_goals
      have m1 := m.app1 hown1 hgrow hat
      clear hown1 hgrow hat hlt e8 e9 m c0 c1 c2 c3 c4 c5 gW fW har har2 hne1 hne2 hbx bl b0 b1
      generalize hW2 : w1.setCell ⟨g, 2, none⟩ (.slice (some ⟨gg, 0, none⟩) (l.length + 1) cap3) = W2 at m1 ⊢
      clear hW2
      have m := m1
      clear m1


      obtain ⟨-, c0, c1, c2, c3, c4, c5⟩ := m.at_.cells
      obtain ⟨gW, fW, har, har2, hne1, hne2, hbx⟩ := m.reads
      have bl := m.lt
      have b0 := m.c0
      have b1 := m.c1
      go_wp2_with fail
      refine Calls.mono (refCall_any g (takeS s t) (l ++ [(t, x)]) (some ⟨gg, 0, none⟩) cap3 a2 cap2 t x W2 gW c0 c1 c2 c3 c4 har har2 (by simp) (by simp; omega) (by show s.al.length ≤ _; omega) (by omega) (by omega) hsin.out hhu.out) ?_
      rintro e w' ⟨rfl, x8, rfl⟩
      generalize hcc : callS (takeS s t) t x = c at *
      have HC := Lib.hid hcc; clear hcc
      have hc4 : c = 0 ∨ c = 1 ∨ c = 2 ∨ c = 3 := by omega
      rcases hc4 with rfl | rfl | rfl | rfl
      · go_wp2
        go_ret2
        have hst := hstep.out
        have := HA.out
        subst this
        exact RMid.fin0 m (by repeat (first | exact Blw.refl _ | apply Blw.ext | apply Blw.alloc | apply Blw.drewN | apply Blw.drew | refine Blw.setCell ?_ _ _ (by simp))) hst
      · go_wp2_with fail
        refine gen_world (fun W => RMid w W B g { s with up := true } (l ++ [(t, x)]) (some ⟨gg, 0, none⟩) cap3 a2 cap2 A t x) (RMid.up (m.blw (by repeat (first | exact Blw.refl _ | apply Blw.ext | apply Blw.alloc | apply Blw.drewN | apply Blw.drew | refine Blw.setCell ?_ _ _ (by simp)))) true) ?_
        rintro W m
        clear hne1 hne2 bl b0 b1 gW fW har har2 c0 c1 c2 c3 c4 c5 hbx
        obtain ⟨-, c0, c1, c2, c3, c4, c5⟩ := m.at_.cells
        obtain ⟨gW, fW, har, har2, hne1, hne2, hbx⟩ := m.reads
        have bl := m.lt
        have b0 := m.c0
        have b1 := m.c1
        try simp only at c3 har2 hne2 m
        go_region_law (first | (refine step_append_lies _ (by rfl) _ _ _ (by rfl) B 68 i1 _ 2 16 Try.underlying45 hi1 hy0 hy1 hy2 rfl (by omega) (.slice a2 s.al.length cap2) s.al.length (alCells s.al) (by rfl) ((m.o2.alloc _).drew) ⟨W.heap.size, 0, none⟩ 1 1 [.int .i64 t, .int .u8 1] (by rfl) (by rfl) (World.news_of_block (cs := #[.int .i64 t, .int .u8 1]) (t := 68) (fr := (0, 0)) (heap_alloc_new W _)) (by simp [Value.oneCell']) (by omega) (by unfold maxLen; omega) (by omega) (by simp; omega) (W.heap.size + 1) (by simp) ?_; intro gg cap3 w1 hown1 hgrow hat hlt; have e8 : w1.cell? ⟨g, 3, none⟩ = some (.slice a2 s.al.length cap2) := (hgrow.cell_far _ (by simp; omega) hne2).trans (by go_simp); have e9 : w1.frozen? ⟨g, 3, none⟩ = false := (hgrow.frozen_far _ (by simp; omega) hne2).trans (by go_simp)))
        all_goals
          go_wp2
          go_ret2
          have hst := hstep.out
          have := HA.out
          subst this
          exact RMid.fin1 m hown1 hgrow hat hst
      · go_wp2_with fail
        refine gen_world (fun W => RMid w W B g { s with up := false } (l ++ [(t, x)]) (some ⟨gg, 0, none⟩) cap3 a2 cap2 A t x) (RMid.up (m.blw (by repeat (first | exact Blw.refl _ | apply Blw.ext | apply Blw.alloc | apply Blw.drewN | apply Blw.drew | refine Blw.setCell ?_ _ _ (by simp)))) false) ?_
        rintro W m
        clear hne1 hne2 bl b0 b1 gW fW har har2 c0 c1 c2 c3 c4 c5 hbx
        obtain ⟨-, c0, c1, c2, c3, c4, c5⟩ := m.at_.cells
        obtain ⟨gW, fW, har, har2, hne1, hne2, hbx⟩ := m.reads
        have bl := m.lt
        have b0 := m.c0
        have b1 := m.c1
        try simp only at c3 har2 hne2 m
        go_region_law (first | (refine step_append_lies _ (by rfl) _ _ _ (by rfl) B 68 i1 _ 2 16 Try.underlying45 hi1 hy0 hy1 hy2 rfl (by omega) (.slice a2 s.al.length cap2) s.al.length (alCells s.al) (by rfl) ((m.o2.alloc _).drew) ⟨W.heap.size, 0, none⟩ 1 1 [.int .i64 t, .int .u8 2] (by rfl) (by rfl) (World.news_of_block (cs := #[.int .i64 t, .int .u8 2]) (t := 68) (fr := (0, 0)) (heap_alloc_new W _)) (by simp [Value.oneCell']) (by omega) (by unfold maxLen; omega) (by omega) (by simp; omega) (W.heap.size + 1) (by simp) ?_; intro gg cap3 w1 hown1 hgrow hat hlt; have e8 : w1.cell? ⟨g, 3, none⟩ = some (.slice a2 s.al.length cap2) := (hgrow.cell_far _ (by simp; omega) hne2).trans (by go_simp); have e9 : w1.frozen? ⟨g, 3, none⟩ = false := (hgrow.frozen_far _ (by simp; omega) hne2).trans (by go_simp)))
        all_goals
          go_wp2
          go_ret2
          have hst := hstep.out
          have := HA.out
          subst this
          exact RMid.fin2 m hown1 hgrow hat hst
      · go_wp2_with fail
        refine gen_world (fun W => RMid w W B g s (l ++ [(t, x)]) (some ⟨gg, 0, none⟩) cap3 a2 cap2 A t x) (m.blw (by repeat (first | exact Blw.refl _ | apply Blw.ext | apply Blw.alloc | apply Blw.drewN | apply Blw.drew | refine Blw.setCell ?_ _ _ (by simp)))) ?_
        rintro W m
        clear hne1 hne2 bl b0 b1 gW fW har har2 c0 c1 c2 c3 c4 c5 hbx
        obtain ⟨-, c0, c1, c2, c3, c4, c5⟩ := m.at_.cells
        obtain ⟨gW, fW, har, har2, hne1, hne2, hbx⟩ := m.reads
        have bl := m.lt
        have b0 := m.c0
        have b1 := m.c1
        try simp only at c3 har2 hne2 m
        go_region_law (first | (refine step_append_lies _ (by rfl) _ _ _ (by rfl) B 68 i1 _ 2 16 Try.underlying45 hi1 hy0 hy1 hy2 rfl (by omega) (.slice a2 s.al.length cap2) s.al.length (alCells s.al) (by rfl) ((m.o2.alloc _).drew) ⟨W.heap.size, 0, none⟩ 1 1 [.int .i64 t, .int .u8 3] (by rfl) (by rfl) (World.news_of_block (cs := #[.int .i64 t, .int .u8 3]) (t := 68) (fr := (0, 0)) (heap_alloc_new W _)) (by simp [Value.oneCell']) (by omega) (by unfold maxLen; omega) (by omega) (by simp; omega) (W.heap.size + 1) (by simp) ?_; intro gg cap3 w1 hown1 hgrow hat hlt; have e8 : w1.cell? ⟨g, 3, none⟩ = some (.slice a2 s.al.length cap2) := (hgrow.cell_far _ (by simp; omega) hne2).trans (by go_simp); have e9 : w1.frozen? ⟨g, 3, none⟩ = false := (hgrow.frozen_far _ (by simp; omega) hne2).trans (by go_simp)))
        all_goals
          go_wp2
          go_ret2
          have hst := hstep.out
          have := HA.out
          subst this
          exact RMid.fin3 m hown1 hgrow hat hst
end Go.Proofs.Ytigkfdoeneemeaa
