/- The walk of the reference's New, Alarms, All. -/
import Derived.Test.YtigkfdoeneemeaaRef29c
import Derived.Test.YtigkfdoeneemeaaRel29b
namespace Go.Proofs.Ytigkfdoeneemeaa
open Go.RowKit

theorem rfeed_any (B g : Nat) (s : WS) (l : List (Int × Nat)) (a : Option Addr) (cap : Nat) (a2 : Option Addr) (cap2 : Nat) (t : Int) (x : Nat) (w : World) (h : RSt w B g s l a cap a2 cap2) (hB : B ≤ w.heap.size) (hl : l.length ≤ 100000) :
    Calls Try.prog 36 #[.pointer (some ⟨g, 0, none⟩), .agg #[.int .i64 t, .float .f64 x]] w (RFeed w B g l a a2 (feedS s t x)) := by
  by_cases h1 : t < 0 ∨ 1048576 < t ∨ (s.told = true ∧ t ≤ s.last)
  · rw [show feedS s t x = (s, 0, 2) by unfold feedS; rw [if_pos h1]]
    exact (rfeed_arg B g s l a cap a2 cap2 t x w h hl h1).mono fun e W ⟨he, y, hy⟩ => RFeed.err he (by rw [hy]; exact w.blw_ext y) h
  · by_cases h2 : 4096 ≤ s.al.length
    · rw [show feedS s t x = (s, 0, 3) by unfold feedS; rw [if_neg h1, if_pos h2]]
      exact (rfeed_long B g s l a cap a2 cap2 t x w h hl (by omega) (by omega) (fun ht => by have : ¬ t ≤ s.last := fun k => h1 (.inr (.inr ⟨ht, k⟩)); omega) h2).mono fun e W ⟨he, y, hy⟩ => RFeed.err he (by rw [hy]; exact w.blw_ext y) h
    · rw [show feedS s t x = (doneS (takeS s t) t x (callS (takeS s t) t x), callS (takeS s t) t x, 0) by unfold feedS; rw [if_neg h1, if_neg h2]]
      exact rfeed_main B g s l a cap a2 cap2 t x w h hB hl (by omega) (by omega) (fun ht => by have : ¬ t ≤ s.last := fun k => h1 (.inr (.inr ⟨ht, k⟩)); omega) (by omega) h.rel.hb

set_option maxHeartbeats 1000000 in
theorem refNew_bad (x y : Nat) (w : World) (f : (Fl.isFin x && Fl.isFin y) = false) :
    Calls Try.prog 35 #[.float .f64 x, .float .f64 y] w fun e w' => e = .returned (.tuple #[.pointer none, .int .i64 8]) ∧ ∃ z, w' = w.ext z := by
  have F1 := fun w => ref29Finite_any x w
  have F2 := fun w => ref29Finite_any y w
  cases fx : Fl.isFin x
  all_goals
    have f' := f
    rw [fx] at F1 f'
    try (have fy : Fl.isFin y = false := by simpa using f'); rw [fy] at F2
    have G1 := Lib.hid F1; have G2 := Lib.hid F2; clear F1 F2 f f' fx
    try clear fy
    go_enter Try.func35, Try.ntmps35
    go_wp2_with (first | (go_at_call 104; (with_reducible refine (G1.out _).mono ?_); rintro e w' ⟨rfl, n, rfl⟩) | (go_at_call 104; (with_reducible refine (G2.out _).mono ?_); rintro e w' ⟨rfl, n, rfl⟩))
    go_ret2
    exact ⟨rfl, Blw.is (by repeat (first | exact Blw.refl _ | apply Blw.ext | apply Blw.alloc | apply Blw.drewN | apply Blw.drew | refine Blw.setCell ?_ _ _ (by simp)))⟩
set_option maxHeartbeats 1000000 in
theorem refNew_arg (x y : Nat) (w : World) (fx : Fl.isFin x = true) (fy : Fl.isFin y = true) (hg : (FloatKind.f64.format.order y x == some .gt) = true) :
    Calls Try.prog 35 #[.float .f64 x, .float .f64 y] w fun e w' => e = .returned (.tuple #[.pointer none, .int .i64 2]) ∧ ∃ z, w' = w.ext z := by
  have F1 := fun w => ref29Finite_any x w
  have F2 := fun w => ref29Finite_any y w
  rw [fx] at F1; rw [fy] at F2
  have G1 := Lib.hid F1; have G2 := Lib.hid F2; clear F1 F2
  go_enter Try.func35, Try.ntmps35
  go_wp2_with (first | (go_at_call 104; (with_reducible refine (G1.out _).mono ?_); rintro e w' ⟨rfl, n, rfl⟩) | (go_at_call 104; (with_reducible refine (G2.out _).mono ?_); rintro e w' ⟨rfl, n, rfl⟩))
  go_ret2
  exact ⟨rfl, Blw.is (by repeat (first | exact Blw.refl _ | apply Blw.ext | apply Blw.alloc | apply Blw.drewN | apply Blw.drew | refine Blw.setCell ?_ _ _ (by simp)))⟩
set_option maxHeartbeats 1000000 in
theorem refNew_ok (x y : Nat) (w : World) (fx : Fl.isFin x = true) (fy : Fl.isFin y = true) (hg : (FloatKind.f64.format.order y x == some .gt) = false) (B : Nat) :
    Calls Try.prog 35 #[.float .f64 x, .float .f64 y] w fun e w' => e = .returned (.tuple #[.pointer (some ⟨w.heap.size, 0, none⟩), .int .i64 0]) ∧ Blw w w' ∧ RSt w' B w.heap.size (newS x y) [] none 0 none 0 := by
  have F1 := fun w => ref29Finite_any x w
  have F2 := fun w => ref29Finite_any y w
  rw [fx] at F1; rw [fy] at F2
  have G1 := Lib.hid F1; have G2 := Lib.hid F2; clear F1 F2
  go_enter Try.func35, Try.ntmps35
  go_wp2_with (first | (go_at_call 104; (with_reducible refine (G1.out _).mono ?_); rintro e w' ⟨rfl, n, rfl⟩) | (go_at_call 104; (with_reducible refine (G2.out _).mono ?_); rintro e w' ⟨rfl, n, rfl⟩))
  go_ret2
  refine ⟨rfl, (by repeat (first | exact Blw.refl _ | apply Blw.ext | apply Blw.alloc | apply Blw.drewN | apply Blw.drew | refine Blw.setCell ?_ _ _ (by simp))), ⟨?_, World.ownsRow_nil _ _ _ _, World.ownsRow_nil _ _ _ _, fun q h => by (cases h), fun q h => by (cases h), fun q r h => by (cases h), Rel.new x y⟩⟩
  exact SAt.mk (heap_alloc_new _ _) rfl

set_option maxHeartbeats 400000 in
theorem refAlarms_any (g : Nat) (s : WS) (v1 : Value) (a2 : Option Addr) (cap2 : Nat) (w : World) (hw : SAt w g s v1 (.slice a2 s.al.length cap2)) (h : Arr w a2 (alCells s.al)) (hn : a2 = none → cap2 = 0) (hlen : s.al.length ≤ 1048576) :
    Calls Try.prog 38 #[.pointer (some ⟨g, 0, none⟩)] w (RetOwn w 68 2 s.al.length (alCells s.al)) := by
  obtain ⟨hg, c0, c1, c2, c3, c4, c5⟩ := hw.cells
  clear hw
  have HN := Lib.hid hn; clear hn
  have HL := Lib.hid (alCells_len s.al)
  go_enter Try.func38, Try.ntmps38
  go_wp2_with (first | (go_at_call 105; refine (refNone_any g _ hg c5).mono ?_; rintro e w' ⟨rfl, rfl⟩) | (at_builtin; refine wpList_app _ _ rfl _ _ 45 rfl sl_alarms (Blw.refl _) (.slice none 0 0) 0 [] rfl (World.ownsRow_nil _ _ 68 2) a2 s.al.length cap2 (alCells s.al) rfl HN.out h HL.out (alCells_one _) (by unfold maxLen; omega) (by omega) ?_; intro v' w1 hown1 hb1 _ _))
  go_ret
  exact RetOwn.of (by simpa using hown1) hb1
end Go.Proofs.Ytigkfdoeneemeaa
