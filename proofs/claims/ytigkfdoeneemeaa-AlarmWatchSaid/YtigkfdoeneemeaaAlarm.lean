/- The program's alarms: New, Feed as one function of the watch's state, Up, Alarms, and the law's examples. -/
import Derived.Test.YtigkfdoeneemeaaFeed
import Derived.Test.YtigkfdoeneemeaaTypes
namespace Go.Proofs.Ytigkfdoeneemeaa
open Go.RowKit

/-- What Feed hands back, an error or none. -/
def FeedOut (w : World) (B g : Nat) (a : Option Addr) (p : WS × Int × Int) (e : Ending) (w' : World) : Prop :=
  e = .returned (feedV p.2.1 p.2.2) ∧ ∃ (a' : Option Addr) (cap' : Nat), WAt w' g p.1 (.slice a' p.1.al.length cap') ∧ w'.ownsRow B 68 2 (.slice a' p.1.al.length cap') p.1.al.length (alCells p.1.al) ∧
    (∀ q, a' = some q → q.block ≠ g) ∧ (a' = a ∨ ∃ q, a' = some q ∧ w.heap.size ≤ q.block) ∧ KeptO (fun k => k = g ∨ ∃ q, a = some q ∧ k = q.block) w w'

theorem FeedOut.err {w W : World} {B g cap : Nat} {a : Option Addr} {s : WS} {c er : Int} {e : Ending} (he : e = .returned (feedV c er)) (hb : Blw w W) (hW : WAt w g s (.slice a s.al.length cap)) (hown : w.ownsRow B 68 2 (.slice a s.al.length cap) s.al.length (alCells s.al)) (hne : ∀ q, a = some q → q.block ≠ g) :
    FeedOut w B g a (s, c, er) e W := by
  obtain ⟨x, rfl⟩ := hb.is
  exact ⟨he, a, cap, at_ext x hW, ownsRow_blw hown (w.blw_ext x), hne, .inl rfl, KeptO.of_blw (w.blw_ext x)⟩

theorem feed_any (g : Nat) (s : WS) (a : Option Addr) (cap : Nat) (t : Int) (h : Nat) (w : World) (hw : WAt w g s (.slice a s.al.length cap)) (hh : h < 2 ^ 64) (hi : s.told = true → 0 ≤ s.heard ∧ s.heard ≤ 1048576)
    (B : Nat) (hB : B ≤ w.heap.size) (hown : w.ownsRow B 68 2 (.slice a s.al.length cap) s.al.length (alCells s.al)) (hne : ∀ q, a = some q → q.block ≠ g) :
    Calls Try.prog 25 #[.pointer (some ⟨g, 0, none⟩), .agg #[.int .i64 t, .float .f64 h]] w (FeedOut w B g a (feedS s t h)) := by
  by_cases h1 : t < 0 ∨ 1048576 < t ∨ (s.told = true ∧ t ≤ s.last)
  · rw [show feedS s t h = (s, 0, 2) by unfold feedS; rw [if_pos h1]]
    exact (feed_arg g s _ t h w hw h1).mono fun e W ⟨he, x, hx⟩ => FeedOut.err he (by rw [hx]; exact w.blw_ext x) hw hown hne
  · by_cases h2 : 4096 ≤ s.al.length
    · rw [show feedS s t h = (s, 0, 3) by unfold feedS; rw [if_neg h1, if_pos h2]]
      exact (feed_long g s a cap t h w hw (by omega) (by omega) (fun ht => by have : ¬ t ≤ s.last := fun k => h1 (.inr (.inr ⟨ht, k⟩)); omega) h2).mono fun e W ⟨he, x, hx⟩ => FeedOut.err he (by rw [hx]; exact w.blw_ext x) hw hown hne
    · rw [show feedS s t h = (doneS (takeS s t) t h (callS (takeS s t) t h), callS (takeS s t) t h, 0) by unfold feedS; rw [if_neg h1, if_neg h2]]
      obtain ⟨level, ease, up, told, last, heard, silent, al⟩ := s
      cases told
      · exact feed_main_false g level ease up last heard silent al a cap t h w hw (by omega) (by omega) (by simp only at h2; omega) hh B hB hown hne
      · obtain ⟨b0, b1⟩ := hi rfl
        have ht : last < t := by have : ¬ t ≤ last := fun k => h1 (.inr (.inr ⟨rfl, k⟩)); omega
        exact feed_main_true g level ease up last heard silent al a cap t h w hw (by omega) (by omega) ht (by simp only at h2; omega) b0 b1 hh B hB hown hne

def newS (level ease : Nat) : WS := ⟨level, ease, false, false, 0, 0, false, []⟩
set_option maxHeartbeats 1000000 in
theorem new_ok (x y : Nat) (w : World) (hx : x < 2 ^ 64) (hy : y < 2 ^ 64) (fx : Fl.isFin x = true) (fy : Fl.isFin y = true) (hg : (FloatKind.f64.format.order y x == some .gt) = false) :
    Calls Try.prog 29 #[.float .f64 x, .float .f64 y] w fun e w' => e = .returned (.tuple #[.pointer (some ⟨w.heap.size, 0, none⟩), .int .i64 0]) ∧ w' = w.alloc (.cells (wCells (newS x y) (.slice none 0 0)) 47 (0, 0)) := by
  have F1 := fun w => alarmFinite_any x w hx
  have F2 := fun w => alarmFinite_any y w hy
  rw [fx] at F1; rw [fy] at F2
  have G1 := Lib.hid F1; have G2 := Lib.hid F2; clear F1 F2
  go_enter Try.func29, Try.ntmps29
  go_wp2_with (first | (go_at_call 100; (with_reducible refine (G1.out _).mono ?_); rintro e w' ⟨rfl, rfl⟩) | (go_at_call 100; (with_reducible refine (G2.out _).mono ?_); rintro e w' ⟨rfl, rfl⟩))
  go_ret2
  exact ⟨rfl, rfl⟩
set_option maxHeartbeats 1000000 in
theorem new_bad (x y : Nat) (w : World) (hx : x < 2 ^ 64) (hy : y < 2 ^ 64) (f : (Fl.isFin x && Fl.isFin y) = false) :
    Calls Try.prog 29 #[.float .f64 x, .float .f64 y] w fun e w' => e = .returned (.tuple #[.pointer none, .int .i64 8]) ∧ w' = w := by
  have F1 := fun w => alarmFinite_any x w hx
  have F2 := fun w => alarmFinite_any y w hy
  cases fx : Fl.isFin x
  all_goals
    have f' := f
    rw [fx] at F1 f'
    try (have fy : Fl.isFin y = false := by simpa using f'); rw [fy] at F2
    have G1 := Lib.hid F1; have G2 := Lib.hid F2; clear F1 F2 f f' fx
    try clear fy
    go_enter Try.func29, Try.ntmps29
    go_wp2_with (first | (go_at_call 100; (with_reducible refine (G1.out _).mono ?_); rintro e w' ⟨rfl, rfl⟩) | (go_at_call 100; (with_reducible refine (G2.out _).mono ?_); rintro e w' ⟨rfl, rfl⟩))
    go_ret2
    exact ⟨rfl, rfl⟩
set_option maxHeartbeats 1000000 in
theorem new_arg (x y : Nat) (w : World) (hx : x < 2 ^ 64) (hy : y < 2 ^ 64) (fx : Fl.isFin x = true) (fy : Fl.isFin y = true) (hg : (FloatKind.f64.format.order y x == some .gt) = true) :
    Calls Try.prog 29 #[.float .f64 x, .float .f64 y] w fun e w' => e = .returned (.tuple #[.pointer none, .int .i64 2]) ∧ w' = w := by
  have F1 := fun w => alarmFinite_any x w hx
  have F2 := fun w => alarmFinite_any y w hy
  rw [fx] at F1; rw [fy] at F2
  have G1 := Lib.hid F1; have G2 := Lib.hid F2; clear F1 F2
  go_enter Try.func29, Try.ntmps29
  go_wp2_with (first | (go_at_call 100; (with_reducible refine (G1.out _).mono ?_); rintro e w' ⟨rfl, rfl⟩) | (go_at_call 100; (with_reducible refine (G2.out _).mono ?_); rintro e w' ⟨rfl, rfl⟩))
  go_ret2
  exact ⟨rfl, rfl⟩

set_option maxHeartbeats 400000 in
theorem up_any (g : Nat) (s : WS) (v : Value) (w : World) (hw : WAt w g s v) :
    Calls Try.prog 26 #[.pointer (some ⟨g, 0, none⟩)] w fun e w' => e = .returned (.bool s.up) ∧ w' = w := by
  obtain ⟨hg, c0, c1, c2, c3, c4, c5, c6, c7, c8⟩ := hw.cells
  clear hw
  go_enter Try.func26, Try.ntmps26
  go_wp2_with (go_at_call 98; refine (watchIs_any _ _ c0).mono ?_; rintro e w' ⟨rfl, rfl⟩)
  go_ret
  exact ⟨rfl, rfl⟩

set_option maxHeartbeats 400000 in
theorem cloneAlarms_any (a : Option Addr) (n cap : Nat) (cs : List Value) (w : World) (h : Arr w a cs) (hl : cs.length = n * 2) (hn : a = none → n = 0 ∧ cap = 0) (h1 : ∀ u ∈ cs, u.oneCell' = true) (hlen : n ≤ 1048576) :
    Calls Try.prog 101 #[.slice a n cap] w (RetOwn w 68 2 n cs) := by
  cases a with
  | none =>
    obtain ⟨rfl, rfl⟩ := hn rfl
    have : cs = [] := List.eq_nil_of_length_eq_zero (by omega)
    subst this
    clear h h1 hl hlen hn
    go_enter Try.func101, Try.ntmps101
    go_wp2
    go_ret
    exact RetOwn.of (World.ownsRow_nil _ _ _ _) (Blw.refl w)
  | some q =>
    have hown : (w.alloc (.cells #[] 68)).ownsRow w.heap.size 68 2 (.slice (some ⟨w.heap.size, 0, none⟩) 0 0) 0 [] := World.ownsRow_made w #[] 0 (Nat.le_refl _) (Nat.zero_le _) rfl
    have H1 := Lib.hid h1; have HL := Lib.hid hl; clear h1 hn hl
    go_enter Try.func101, Try.ntmps101
    go_wp2_with (at_builtin; refine wpList_app w _ rfl _ _ 45 rfl sl_alarms ((Blw.refl w).alloc _) _ 0 [] rfl hown (some q) n cap cs rfl (fun h => by cases h) (h.alloc _) HL.out H1.out (by unfold maxLen; omega) (by omega) ?_; intro v' w1 hown1 hb1 _ _)
    go_ret
    exact RetOwn.of (by simpa using hown1) hb1
end Go.Proofs.Ytigkfdoeneemeaa
