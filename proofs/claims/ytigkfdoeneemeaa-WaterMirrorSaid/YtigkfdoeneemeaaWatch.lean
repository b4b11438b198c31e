/- The program's watch: what a sample does to it, walked. -/
import Derived.Test.YtigkfdoeneemeaaFin
import Derived.Test.YtigkfdoeneemeaaVals
import Derived.BigRegion
import Derived.Deep.AppendLies
import Derived.Deep.RegionLaw
namespace Go.Proofs.Ytigkfdoeneemeaa
open Go.RowKit

/-- What a watch holds. -/
structure WS where
  level : Nat
  ease : Nat
  up : Bool
  told : Bool
  last : Int
  heard : Int
  silent : Bool
  al : List (Int × Int)

def wCells (s : WS) (v : Value) : Array Value := #[.bool true, .float .f64 s.level, .float .f64 s.ease, .bool s.up, .bool s.told, .int .i64 s.last, .int .i64 s.heard, .bool s.silent, v]
abbrev gtB (x y : Nat) : Bool := FloatKind.f64.format.order x y == some .gt
abbrev ltB (x y : Nat) : Bool := FloatKind.f64.format.order x y == some .lt
/-- What a sample comes to. -/
def callS (s : WS) (t : Int) (h : Nat) : Int :=
  if Fl.isFin h then (if gtB h s.level && !s.up then 1 else if ltB h s.ease && s.up then 2 else 0)
  else (if decide (6 ≤ t - s.heard) && !s.silent then 3 else 0)

/-- The watch lies in block g. -/
def WAt (w : World) (g : Nat) (s : WS) (v : Value) : Prop := w.heap[g]? = some (.cells (wCells s v) 47 (0, 0))
theorem WAt.cells {w : World} {g : Nat} {s : WS} {v : Value} (h : WAt w g s v) : g < w.heap.size ∧ (w.cell? ⟨g, 0, none⟩ = some (.bool true) ∧ w.cell? ⟨g, 1, none⟩ = some (.float .f64 s.level) ∧ w.cell? ⟨g, 2, none⟩ = some (.float .f64 s.ease) ∧ w.cell? ⟨g, 3, none⟩ = some (.bool s.up) ∧
    w.cell? ⟨g, 4, none⟩ = some (.bool s.told) ∧ w.cell? ⟨g, 5, none⟩ = some (.int .i64 s.last) ∧ w.cell? ⟨g, 6, none⟩ = some (.int .i64 s.heard) ∧ w.cell? ⟨g, 7, none⟩ = some (.bool s.silent) ∧ w.cell? ⟨g, 8, none⟩ = some v) :=
  ⟨(Array.getElem?_eq_some_iff.1 h).1, cell_of_row w g 0 _ _ _ h, cell_of_row w g 1 _ _ _ h, cell_of_row w g 2 _ _ _ h, cell_of_row w g 3 _ _ _ h, cell_of_row w g 4 _ _ _ h, cell_of_row w g 5 _ _ _ h, cell_of_row w g 6 _ _ _ h, cell_of_row w g 7 _ _ _ h, cell_of_row w g 8 _ _ _ h⟩

set_option maxHeartbeats 400000 in
theorem watchIs_any (g : Nat) (w : World) (h : w.cell? ⟨g, 0, none⟩ = some (.bool true)) :
    Calls Try.prog 98 #[.pointer (some ⟨g, 0, none⟩)] w fun e w' => e = .returned (.bool true) ∧ w' = w := by
  go_enter Try.func98, Try.ntmps98
  go_wp2
  go_ret
  exact ⟨rfl, rfl⟩

theorem ret_u8 {a b : Int} (h : a = b) : Ending.returned (.int .u8 a) = .returned (.int .u8 b) := by rw [h]
set_option maxHeartbeats 4000000 in
theorem watchCall_any (g : Nat) (s : WS) (t : Int) (h : Nat) (w : World) (hh : h < 2 ^ 64) (h0 : -4611686018427387904 ≤ t - s.heard) (h1 : t - s.heard ≤ 4611686018427387904)
    (hg : g < w.heap.size) (c1 : w.cell? ⟨g, 1, none⟩ = some (.float .f64 s.level)) (c2 : w.cell? ⟨g, 2, none⟩ = some (.float .f64 s.ease)) (c3 : w.cell? ⟨g, 3, none⟩ = some (.bool s.up)) (c6 : w.cell? ⟨g, 6, none⟩ = some (.int .i64 s.heard)) (c7 : w.cell? ⟨g, 7, none⟩ = some (.bool s.silent)) :
    Calls Try.prog 99 #[.pointer (some ⟨g, 0, none⟩), .agg #[.int .i64 t, .float .f64 h]] w fun e w' => e = .returned (.int .u8 (callS s t h)) ∧ ∃ x, w' = w.ext x := by
  obtain ⟨level, ease, up, told, last, heard, silent, al⟩ := s
  simp only at h0 h1 c1 c2 c3 c6 c7
  go_enter Try.func99, Try.ntmps99
  go_wp2_with (go_at_call 100; refine (alarmFinite_any _ _ hh).mono ?_; rintro e w' ⟨rfl, rfl⟩)
  cases hf : Fl.isFin h
  · cases hd : decide (6 ≤ t - heard)
    · iterate 3 (go_wp2; go_quiet (fail))
      go_wp2
      go_ret
      exact ⟨ret_u8 (by simp only [callS, hf, hd]; rfl), Blw.is (by repeat (first | exact Blw.refl _ | apply Blw.ext | apply Blw.alloc | apply Blw.drewN | apply Blw.drew | refine Blw.setCell ?_ _ _ (by simp)))⟩
    · cases silent
      all_goals
        iterate 3 (go_wp2; go_quiet (fail))
        go_wp2
        go_ret
        exact ⟨ret_u8 (by simp only [callS, hf, hd]; rfl), Blw.is (by repeat (first | exact Blw.refl _ | apply Blw.ext | apply Blw.alloc | apply Blw.drewN | apply Blw.drew | refine Blw.setCell ?_ _ _ (by simp)))⟩
  · cases hgt : gtB h level <;> cases up <;> cases hlt : ltB h ease
    all_goals
      first
      | (iterate 3 (go_wp2; go_quiet (fail))
         go_wp2
         go_ret
         exact ⟨ret_u8 (by simp only [callS, hf, hgt, hlt]; rfl), Blw.is (by repeat (first | exact Blw.refl _ | apply Blw.ext | apply Blw.alloc | apply Blw.drewN | apply Blw.drew | refine Blw.setCell ?_ _ _ (by simp)))⟩)
      | (iterate 2 (go_wp2; go_quiet (fail))
         go_wp2
         go_ret
         exact ⟨ret_u8 (by simp only [callS, hf, hgt, hlt]; rfl), Blw.is (by repeat (first | exact Blw.refl _ | apply Blw.ext | apply Blw.alloc | apply Blw.drewN | apply Blw.drew | refine Blw.setCell ?_ _ _ (by simp)))⟩)
      | (go_wp2; go_quiet (fail)
         go_wp2
         go_ret
         exact ⟨ret_u8 (by simp only [callS, hf, hgt, hlt]; rfl), Blw.is (by repeat (first | exact Blw.refl _ | apply Blw.ext | apply Blw.alloc | apply Blw.drewN | apply Blw.drew | refine Blw.setCell ?_ _ _ (by simp)))⟩)
end Go.Proofs.Ytigkfdoeneemeaa
