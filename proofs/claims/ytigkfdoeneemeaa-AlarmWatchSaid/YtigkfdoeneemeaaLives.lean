/- The law's examples of a watch: they come out as the chapter says. -/
import Derived.Test.YtigkfdoeneemeaaAlarm
namespace Go.Proofs.Ytigkfdoeneemeaa
open Go.RowKit

set_option maxHeartbeats 400000 in
theorem alarms_any (g : Nat) (s : WS) (a : Option Addr) (cap : Nat) (w : World) (hw : WAt w g s (.slice a s.al.length cap)) (h : Arr w a (alCells s.al)) (hn : a = none → s.al.length = 0 ∧ cap = 0) (hlen : s.al.length ≤ 1048576) :
    Calls Try.prog 27 #[.pointer (some ⟨g, 0, none⟩)] w (RetOwn w 68 2 s.al.length (alCells s.al)) := by
  obtain ⟨hg, c0, c1, c2, c3, c4, c5, c6, c7, c8⟩ := hw.cells
  clear hw
  have HN := Lib.hid hn; clear hn
  go_enter Try.func27, Try.ntmps27
  go_wp2_with (first | (go_at_call 98; refine (watchIs_any _ _ c0).mono ?_; rintro e w' ⟨rfl, rfl⟩) | (go_at_call 101; refine (cloneAlarms_any a s.al.length cap (alCells s.al) _ h (alCells_len _) HN.out (alCells_one _) hlen).mono ?_; rintro e w' ⟨a1, c1, x, rfl, rfl, hown, ha, hn1⟩))
  go_ret
  exact ⟨a1, c1, x, rfl, rfl, hown, ha, hn1⟩

theorem feed_one : feedS (newS 4611686018427387904 4607182418800017408) 0 4611686018427387904 = (⟨4611686018427387904, 4607182418800017408, false, true, 0, 0, false, []⟩, 0, 0) := by kernel_rfl
theorem feed_two : feedS ⟨4611686018427387904, 4607182418800017408, false, true, 0, 0, false, []⟩ 1 4612811918334230528 = (⟨4611686018427387904, 4607182418800017408, true, true, 1, 1, false, [(1, 1)]⟩, 1, 0) := by kernel_rfl
theorem FeedOut.at {w w' : World} {B g : Nat} {a : Option Addr} {s : WS} {c er : Int} {e : Ending} (h : FeedOut w B g a (s, c, er) e w') : e = .returned (.tuple #[.int .u8 c, .int .i64 er]) ∧ ∃ (a' : Option Addr) (cap' : Nat), WAt w' g s (.slice a' s.al.length cap') ∧ w'.ownsRow B 68 2 (.slice a' s.al.length cap') s.al.length (alCells s.al) ∧
    (∀ q, a' = some q → q.block ≠ g) ∧ (a' = a ∨ ∃ q, a' = some q ∧ w.heap.size ≤ q.block) ∧ KeptO (fun k => k = g ∨ ∃ q, a = some q ∧ k = q.block) w w' := h

set_option maxRecDepth 100000 in
set_option maxHeartbeats 1000000 in
theorem lives_any (w : World) : Calls Try.prog 28 #[] w fun e w' => e = .returned (.bool true) ∧ ∃ x, w' = w.ext x := by
  go_enter Try.func28, Try.ntmps28
  go_wp2_with fail
  refine Calls.mono (new_ok 4611686018427387904 4607182418800017408 w (by decide) (by decide) (by kernel_rfl) (by kernel_rfl) (by kernel_rfl)) ?_
  rintro e w0 ⟨rfl, hw0⟩
  have hW0 : WAt w0 w.heap.size (newS 4611686018427387904 4607182418800017408) (.slice none 0 0) := by rw [hw0]; exact heap_alloc_new w _
  have hb0 : Blw w w0 := by rw [hw0]; exact (Blw.refl w).alloc _
  have hs0 : w.heap.size < w0.heap.size := (Array.getElem?_eq_some_iff.1 hW0).1
  clear hw0
  go_wp2_with fail
  refine Calls.mono (feed_any w.heap.size (newS 4611686018427387904 4607182418800017408) none 0 0 4611686018427387904 w0 hW0 (by decide) (by intro h; cases h) w.heap.size (Nat.le_of_lt hs0) (World.ownsRow_nil _ _ _ _) (by intro q h; cases h)) ?_
  rw [feed_one]
  rintro e w1 h1
  obtain ⟨rfl, a1, cap1, hW1, own1, ne1, new1, K1⟩ := h1.at
  clear h1
  have hb1 : Blw w w1 := K1.blw hb0 (by rintro i (rfl | ⟨q, h, _⟩); exact Nat.le_refl _; cases h)
  have hs1 : w.heap.size < w1.heap.size := Nat.lt_of_lt_of_le hs0 K1.size
  clear new1 K1
  go_wp2_with fail
  refine Calls.mono (feed_any w.heap.size _ a1 cap1 1 4612811918334230528 w1 hW1 (by decide) (by intro _; simp) w.heap.size (Nat.le_of_lt hs1) own1 ne1) ?_
  rw [feed_two]
  rintro e w2 h2
  obtain ⟨rfl, a2, cap2, hW2, own2, ne2, new2, K2⟩ := h2.at
  clear h2
  have hb2 : Blw w w2 := K2.blw hb1 (by
    rintro i (rfl | ⟨q, h, rfl⟩)
    · exact Nat.le_refl _
    · exact (World.ownsRow.lt own1 q.block (by subst h; rfl)).1)
  go_wp2_with (go_at_call 26; refine Calls.mono (up_any _ _ _ _ hW2) ?_; rintro e w' ⟨rfl, rfl⟩)
  go_ret
  exact ⟨by simp, hb2.is⟩
end Go.Proofs.Ytigkfdoeneemeaa
