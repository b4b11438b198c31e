/- The reference's watch: what it reckons from all that it was told, walked. -/
import Derived.Test.YtigkfdoeneemeaaRel29
import Derived.Test.YtigkfdoeneemeaaSmp
namespace Go.Proofs.Ytigkfdoeneemeaa
open Go.RowKit

/-- The reference's watch lies in block g. -/
def SAt (w : World) (g : Nat) (s : WS) (v1 v2 : Value) : Prop := w.heap[g]? = some (.cells #[.float .f64 s.level, .float .f64 s.ease, v1, v2, .bool s.up, .bool true] 126 (0, 0))
theorem SAt.cells {w : World} {g : Nat} {s : WS} {v1 v2 : Value} (h : SAt w g s v1 v2) : g < w.heap.size ∧ (w.cell? ⟨g, 0, none⟩ = some (.float .f64 s.level) ∧ w.cell? ⟨g, 1, none⟩ = some (.float .f64 s.ease) ∧ w.cell? ⟨g, 2, none⟩ = some v1 ∧ w.cell? ⟨g, 3, none⟩ = some v2 ∧
    w.cell? ⟨g, 4, none⟩ = some (.bool s.up) ∧ w.cell? ⟨g, 5, none⟩ = some (.bool true)) :=
  ⟨(Array.getElem?_eq_some_iff.1 h).1, cell_of_row w g 0 _ _ _ h, cell_of_row w g 1 _ _ _ h, cell_of_row w g 2 _ _ _ h, cell_of_row w g 3 _ _ _ h, cell_of_row w g 4 _ _ _ h, cell_of_row w g 5 _ _ _ h⟩
theorem SAt.mk {w : World} {g : Nat} {s : WS} {v1 v2 : Value} {cs : Array Value} (h : w.heap[g]? = some (.cells cs 126 (0, 0))) (e : cs = #[.float .f64 s.level, .float .f64 s.ease, v1, v2, .bool s.up, .bool true]) : SAt w g s v1 v2 := by
  unfold SAt; rw [h, e]

/-- The element at a place, of a list of alarms. -/
theorem al_at {w : World} {a : Option Addr} {l : List (Int × Int)} (h : Arr w a (alCells l)) {k : Nat} (hk : k < l.length) :
    ∃ (t c : Int) (b o : Nat), l[k]? = some (t, c) ∧ (t, c) ∈ l ∧ a = some ⟨b, o, none⟩ ∧ b < w.heap.size ∧ w.cell? ⟨b, o + k * 2, none⟩ = some (.int .i64 t) ∧ w.cell? ⟨b, o + k * 2 + 1, none⟩ = some (.int .u8 c) := by
  have hget : ∀ (l : List (Int × Int)) (k : Nat) (h : k < l.length), (alCells l)[k * 2]? = some (.int .i64 l[k].1) ∧ (alCells l)[k * 2 + 1]? = some (.int .u8 l[k].2) := by
    intro l; induction l with
    | nil => intro k h; simp at h
    | cons a l ih =>
      intro k h
      cases k with
      | zero => exact ⟨rfl, rfl⟩
      | succ k =>
        obtain ⟨h1, h2⟩ := ih k (by simpa using h)
        have e : ∀ j, (alCells (a :: l))[(k + 1) * 2 + j]? = (alCells l)[k * 2 + j]? := fun j => by
          show (([Value.int .i64 a.1, Value.int .u8 a.2] ++ alCells l))[(k + 1) * 2 + j]? = _
          rw [List.getElem?_append_right (by simp; omega)]
          congr 1
          simp; omega
        exact ⟨by have := e 0; simp only [Nat.add_zero] at this; rw [this]; exact h1, by rw [e 1]; exact h2⟩
  rcases h with h | ⟨b, o, e, hb, hc⟩
  · have := alCells_len l; rw [h] at this; simp at this; omega
  · have hl := alCells_len l
    obtain ⟨h1, h2⟩ := hget l k hk
    refine ⟨l[k].1, l[k].2, b, o, by rw [List.getElem?_eq_getElem hk], List.getElem_mem hk, e, hb, ?_, ?_⟩
    · rw [hc _ (by omega), h1]
    · rw [Nat.add_assoc, hc _ (by omega), h2]

theorem take_snoc {α : Type} {l : List α} {k : Nat} {x : α} (h : l[k]? = some x) : l.take (k + 1) = l.take k ++ [x] := by
  rw [List.take_add_one, h]; rfl
theorem ret_i {a b : Int} (h : a = b) : Ending.returned (.int .i64 a) = .returned (.int .i64 b) := by rw [h]

set_option maxHeartbeats 1000000 in
theorem since_any (g : Nat) (l : List (Int × Nat)) (a : Option Addr) (cap : Nat) (w : World) (hg : g < w.heap.size) (c2 : w.cell? ⟨g, 2, none⟩ = some (.slice a l.length cap)) (h : Arr w a (smps l)) (hne : l ≠ []) (hl : l.length ≤ 1000000) :
    Calls Try.prog 144 #[.pointer (some ⟨g, 0, none⟩)] w fun e w' => e = .returned (.int .i64 (sinceR l)) ∧ ∃ x, w' = w.ext x := by
  have hpos := List.length_pos_iff.2 hne
  go_enter Try.func144, Try.ntmps144
  go_wp2_with fail
  go_loopw [3] (fun i wr => ∃ (k n : Nat), k ≤ l.length ∧ i = .int .i64 ((k : Int) - 1) ∧ wr = w.drewN n ∧ Hid (sinceO l = sinceO (l.take k))) (fun i _ => (intOf i + 1).toNat)
  case atStart => exact ⟨l.length, 0, Nat.le_refl _, rfl, rfl, by show _ = _; rw [List.take_length]⟩
  case round =>
    obtain ⟨k, n, hk, rfl, rfl, hs⟩ := hrel
    cases k with
    | zero =>
      obtain ⟨t, x, b, o, hgk, hm, rfl, hbs, e0, e1⟩ := smp_at h hpos
      have hh : sinceR l = t := by
        unfold sinceR; rw [hs.out, List.take_zero]
        cases l with
        | nil => simp at hgk
        | cons p l => simp at hgk; simp [sinceO, hgk]
      simp only [Nat.zero_mul, Nat.add_zero] at e0 e1
      have HH := Lib.hid hh
      clear hh hgk
      go_wp2_with fail
      go_ret
      exact ⟨ret_i HH.out.symm, Blw.is (by repeat (first | exact Blw.refl _ | apply Blw.ext | apply Blw.alloc | apply Blw.drewN | apply Blw.drew | refine Blw.setCell ?_ _ _ (by simp)))⟩
    | succ j =>
      obtain ⟨t, x, b, o, hgk, hm, rfl, hbs, e0, e1⟩ := smp_at h (k := j) hk
      have e5 : (((j + 1 : Nat) : Int) - 1) = (j : Int) := by omega
      have hst := take_snoc hgk
      have hso := sinceO_snoc (l.take j) (t, x)
      rw [← hst, ← hs.out] at hso
      have HSO := Lib.hid hso
      clear hst hso hgk
      rw [e5]
      cases hf : Fl.isFin x
      · go_wp2_with (go_at_call 104; refine (ref29Finite_any _ _).mono ?_; rintro e w' ⟨rfl, n2, rfl⟩)
        go_roundw
        case rel => exact ⟨j, _, by omega, rfl, rfl, by show _ = _; rw [HSO.out, hf]; simp⟩
        case measure => simp [intOf]
      · go_wp2_with (go_at_call 104; refine (ref29Finite_any _ _).mono ?_; rintro e w' ⟨rfl, n2, rfl⟩)
        go_ret
        exact ⟨ret_i (by unfold sinceR; rw [HSO.out, hf]; rfl), Blw.is (by repeat (first | exact Blw.refl _ | apply Blw.ext | apply Blw.alloc | apply Blw.drewN | apply Blw.drew | refine Blw.setCell ?_ _ _ (by simp)))⟩

set_option maxHeartbeats 1000000 in
theorem hushed_any (g : Nat) (l : List (Int × Nat)) (a : Option Addr) (cap : Nat) (al : List (Int × Int)) (a2 : Option Addr) (cap2 : Nat) (w : World) (hg : g < w.heap.size) (c2 : w.cell? ⟨g, 2, none⟩ = some (.slice a l.length cap)) (c3 : w.cell? ⟨g, 3, none⟩ = some (.slice a2 al.length cap2))
    (h : Arr w a (smps l)) (h2 : Arr w a2 (alCells al)) (hl : l.length ≤ 1000000) (hl2 : al.length ≤ 1000000) :
    Calls Try.prog 145 #[.pointer (some ⟨g, 0, none⟩)] w fun e w' => e = .returned (.bool (hushR l al)) ∧ ∃ x, w' = w.ext x := by
  go_enter Try.func145, Try.ntmps145
  go_wp2_with fail
  go_loopw [3, 4] (fun v i wr => ∃ (k n : Nat), k ≤ l.length ∧ i = .int .i64 k ∧ wr = w.drewN n ∧ v = .int .i64 (lastF (l.take k))) (fun _ i _ => l.length - (intOf i).toNat)
  case atStart => exact ⟨0, 0, Nat.zero_le _, rfl, rfl, rfl⟩
  case round =>
    obtain ⟨k, n, hk, rfl, rfl, rfl⟩ := hrel
    by_cases hlt : k < l.length
    · obtain ⟨t, x, b, o, hgk, hm, rfl, hbs, e0, e1⟩ := smp_at h hlt
      have hso := sinceO_snoc (l.take k) (t, x)
      rw [← take_snoc hgk] at hso
      have HSO := Lib.hid hso
      clear hso hgk
      cases hf : Fl.isFin x
      all_goals
        go_wp2_with (go_at_call 104; refine (ref29Finite_any _ _).mono ?_; rintro e w' ⟨rfl, n2, rfl⟩)
        go_roundw
        case rel => exact ⟨k + 1, _, by omega, by go_num, rfl, by unfold lastF; rw [HSO.out, hf]; rfl⟩
        case measure => simp [intOf]; omega
    · have hkl : k = l.length := by omega
      subst hkl
      rw [List.take_length]
      go_wp2_with fail
      go_loopw [5] (fun i wr => ∃ (k m : Nat), k ≤ al.length ∧ i = .int .i64 k ∧ wr = w.drewN m ∧ Hid (hushR l al = (al.drop k).any fun p => p.2 == 3 && decide (lastF l < p.1))) (fun i _ => al.length - (intOf i).toNat)
      case atStart => exact ⟨0, _, Nat.zero_le _, rfl, rfl, rfl⟩
      case round =>
        obtain ⟨k, m, hk, rfl, rfl, hh⟩ := hrel
        by_cases hlt2 : k < al.length
        · obtain ⟨t, c, b, o, hgk, hm, rfl, hbs, e0, e1⟩ := al_at h2 hlt2
          have hd := List.drop_eq_getElem_cons hlt2
          have hge : al[k] = (t, c) := by rw [List.getElem?_eq_getElem hlt2] at hgk; exact Option.some.inj hgk
          rw [hge] at hd
          have hh2 := hh.out
          rw [hd, List.any_cons] at hh2
          clear hd hge hgk hh
          cases hc : (c == 3)
          · rw [hc, Bool.false_and, Bool.false_or] at hh2
            have HH := Lib.hid hh2
            clear hh2
            go_wp2_with fail
            go_roundw
            case rel => exact ⟨k + 1, _, by omega, by go_num, rfl, HH⟩
            case measure => simp [intOf]; omega
          · cases hd : decide (lastF l < t)
            · rw [hc, hd, Bool.true_and, Bool.false_or] at hh2
              have HH := Lib.hid hh2
              clear hh2
              go_wp2_with fail
              go_roundw
              case rel => exact ⟨k + 1, _, by omega, by go_num, rfl, HH⟩
              case measure => simp [intOf]; omega
            · rw [hc, hd, Bool.true_and, Bool.true_or] at hh2
              have HH := Lib.hid hh2
              clear hh2
              go_wp2_with fail
              go_ret
              exact ⟨ret_bool HH.out.symm, Blw.is (by repeat (first | exact Blw.refl _ | apply Blw.ext | apply Blw.alloc | apply Blw.drewN | apply Blw.drew | refine Blw.setCell ?_ _ _ (by simp)))⟩
        · have hkl : k = al.length := by omega
          subst hkl
          have hh2 := hh.out
          rw [List.drop_length] at hh2
          have HH := Lib.hid hh2
          clear hh2 hh
          go_wp2_with fail
          go_ret
          exact ⟨ret_bool HH.out.symm, Blw.is (by repeat (first | exact Blw.refl _ | apply Blw.ext | apply Blw.alloc | apply Blw.drewN | apply Blw.drew | refine Blw.setCell ?_ _ _ (by simp)))⟩

set_option maxHeartbeats 400000 in
theorem refNone_any (g : Nat) (w : World) (hg : g < w.heap.size) (h : w.cell? ⟨g, 5, none⟩ = some (.bool true)) :
    Calls Try.prog 105 #[.pointer (some ⟨g, 0, none⟩)] w fun e w' => e = .returned (.bool false) ∧ w' = w := by
  go_enter Try.func105, Try.ntmps105
  go_wp2
  go_ret
  exact ⟨rfl, rfl⟩

set_option maxHeartbeats 400000 in
theorem refUp_any (g : Nat) (s : WS) (v1 v2 : Value) (w : World) (hw : SAt w g s v1 v2) :
    Calls Try.prog 37 #[.pointer (some ⟨g, 0, none⟩)] w fun e w' => e = .returned (.bool s.up) ∧ w' = w := by
  obtain ⟨hg, c0, c1, c2, c3, c4, c5⟩ := hw.cells
  clear hw
  go_enter Try.func37, Try.ntmps37
  go_wp2_with (go_at_call 105; refine (refNone_any _ _ hg c5).mono ?_; rintro e w' ⟨rfl, rfl⟩)
  go_ret
  exact ⟨rfl, rfl⟩

theorem since_b {g : Nat} {l : List (Int × Nat)} {a : Option Addr} {cap : Nat} {w W : World} (hb : Blw w W) (hg : g < w.heap.size) (c2 : w.cell? ⟨g, 2, none⟩ = some (.slice a l.length cap)) (h : Arr w a (smps l)) (hne : l ≠ []) (hl : l.length ≤ 1000000) {x : Int} (hs : sinceR l = x) :
    Calls Try.prog 144 #[.pointer (some ⟨g, 0, none⟩)] W fun e w' => e = .returned (.int .i64 x) ∧ ∃ x, w' = W.ext x := by
  subst hs
  exact since_any g l a cap W (Nat.lt_of_lt_of_le hg hb.size) ((Below.cell hb hg).trans c2) (h.blw hb) hne hl
theorem hushed_b {g : Nat} {l : List (Int × Nat)} {a : Option Addr} {cap : Nat} {al : List (Int × Int)} {a2 : Option Addr} {cap2 : Nat} {w W : World} (hb : Blw w W) (hg : g < w.heap.size) (c2 : w.cell? ⟨g, 2, none⟩ = some (.slice a l.length cap)) (c3 : w.cell? ⟨g, 3, none⟩ = some (.slice a2 al.length cap2))
    (h : Arr w a (smps l)) (h2 : Arr w a2 (alCells al)) (hl : l.length ≤ 1000000) (hl2 : al.length ≤ 1000000) {x : Bool} (hs : hushR l al = x) :
    Calls Try.prog 145 #[.pointer (some ⟨g, 0, none⟩)] W fun e w' => e = .returned (.bool x) ∧ ∃ x, w' = W.ext x := by
  subst hs
  exact hushed_any g l a cap al a2 cap2 W (Nat.lt_of_lt_of_le hg hb.size) ((Below.cell hb hg).trans c2) ((Below.cell hb hg).trans c3) (h.blw hb) (h2.blw hb) hl hl2

set_option maxHeartbeats 4000000 in
theorem refCall_any (g : Nat) (s : WS) (l : List (Int × Nat)) (a : Option Addr) (cap : Nat) (a2 : Option Addr) (cap2 : Nat) (t : Int) (x : Nat) (w : World) (hg : g < w.heap.size) (c0 : w.cell? ⟨g, 0, none⟩ = some (.float .f64 s.level)) (c1 : w.cell? ⟨g, 1, none⟩ = some (.float .f64 s.ease))
    (c2 : w.cell? ⟨g, 2, none⟩ = some (.slice a l.length cap)) (c3 : w.cell? ⟨g, 3, none⟩ = some (.slice a2 s.al.length cap2)) (c4 : w.cell? ⟨g, 4, none⟩ = some (.bool s.up)) (h : Arr w a (smps l)) (h2 : Arr w a2 (alCells s.al)) (hne : l ≠ []) (hl : l.length ≤ 1000000) (hl2 : s.al.length ≤ 1000000)
    (h0 : -4611686018427387904 ≤ t - s.heard) (h1 : t - s.heard ≤ 4611686018427387904) (hs : Fl.isFin x = false → sinceR l = s.heard) (hh : Fl.isFin x = false → hushR l s.al = s.silent) :
    Calls Try.prog 106 #[.pointer (some ⟨g, 0, none⟩), .agg #[.int .i64 t, .float .f64 x]] w fun e w' => e = .returned (.int .u8 (callS s t x)) ∧ ∃ x, w' = w.ext x := by
  obtain ⟨level, ease, up, told, last, heard, silent, al⟩ := s
  simp only at h0 h1 c0 c1 c3 c4 hs hh h2 hl2
  go_enter Try.func106, Try.ntmps106
  cases hf : Fl.isFin x
  · have hs := hs hf
    have hh := hh hf
    have hwr : IntKind.i64.wrap (t - heard) = t - heard := by rw [IntKind.wrap_i64]; omega
    cases hd : decide (6 ≤ t - heard) <;> cases hsl : silent
    all_goals
      rw [hsl] at hh
      have HS := Lib.hid hs; have HH := Lib.hid hh
      clear hs hh
      go_wp2_with (go_at_call 104; refine (ref29Finite_any _ _).mono ?_; rintro e w' ⟨rfl, n2, rfl⟩)
      refine wp_region_ext_lit (by kernel_rfl) (by kernel_rfl) ?_
      repeat (quiet_step (first | (go_at_call 144; exact Calls.ext_of (since_b (by repeat (first | exact Blw.refl _ | apply Blw.ext | apply Blw.alloc | apply Blw.drewN | apply Blw.drew | refine Blw.setCell ?_ _ _ (by simp))) hg c2 h hne hl HS.out)) | (go_at_call 145; exact Calls.ext_of (hushed_b (by repeat (first | exact Blw.refl _ | apply Blw.ext | apply Blw.alloc | apply Blw.drewN | apply Blw.drew | refine Blw.setCell ?_ _ _ (by simp))) hg c2 c3 h h2 hl hl2 HH.out))))
      refine wpQuiet_nil ?_
      rintro _ ⟨x9, rfl⟩
      go_wp2
      go_ret
      exact ⟨ret_u8 (by simp [callS, hf, hd, hsl]), Blw.is (by repeat (first | exact Blw.refl _ | apply Blw.ext | apply Blw.alloc | apply Blw.drewN | apply Blw.drew | refine Blw.setCell ?_ _ _ (by simp)))⟩
  · clear hs hh
    go_wp2_with (go_at_call 104; refine (ref29Finite_any _ _).mono ?_; rintro e w' ⟨rfl, n2, rfl⟩)
    cases hgt : gtB x level <;> cases up <;> cases hlt : ltB x ease
    all_goals
      first
      | (iterate 3 (go_wp2; go_quiet (fail))
         go_wp2
         go_ret
         exact ⟨ret_u8 (by simp only [callS, hf, hgt, hlt]; rfl), Blw.is (by repeat (first | exact Blw.refl _ | apply Blw.ext | apply Blw.alloc | apply Blw.drewN | apply Blw.drew | refine Blw.setCell ?_ _ _ (by simp)))⟩)
      | (iterate 2 (go_wp2; go_quiet (fail))
         go_wp2
         go_ret
         exact ⟨ret_u8 (by simp only [callS, hf, hgt, hlt]; rfl), Blw.is (by repeat (first | exact Blw.refl _ | apply Blw.ext | apply Blw.alloc | apply Blw.drewN | apply Blw.drew | refine Blw.setCell ?_ _ _ (by simp)))⟩)
      | (go_wp2; go_quiet (fail)
         go_wp2
         go_ret
         exact ⟨ret_u8 (by simp only [callS, hf, hgt, hlt]; rfl), Blw.is (by repeat (first | exact Blw.refl _ | apply Blw.ext | apply Blw.alloc | apply Blw.drewN | apply Blw.drew | refine Blw.setCell ?_ _ _ (by simp)))⟩)
end Go.Proofs.Ytigkfdoeneemeaa
