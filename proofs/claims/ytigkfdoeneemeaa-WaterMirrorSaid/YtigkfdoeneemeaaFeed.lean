/- The walk of Watch.Feed. -/
import Derived.Test.YtigkfdoeneemeaaWatch
import Derived.Test.YtigkfdoeneemeaaKeptO
import Derived.Lib.Hide
namespace Go.Proofs.Ytigkfdoeneemeaa
open Go.RowKit

/-- The world under a name of its own, with what is known of it. -/
theorem gen_world {P : Program} {c : Code} {Q : Exit → Act → World → Prop} {a : Act} {w : World} (S : World → Prop) (h : S w) (k : ∀ W, S W → Code.wp P c Q a W) : Code.wp P c Q a w := k w h
def alCells (l : List (Int × Int)) : List Value := l.flatMap fun p => [.int .i64 p.1, .int .u8 p.2]
theorem alCells_len (l : List (Int × Int)) : (alCells l).length = l.length * 2 := by
  induction l with
  | nil => rfl
  | cons a l ih => simp [alCells] at ih ⊢; omega
theorem alCells_snoc (l : List (Int × Int)) (t c : Int) : alCells (l ++ [(t, c)]) = alCells l ++ [.int .i64 t, .int .u8 c] := by simp [alCells]
theorem alCells_one (l : List (Int × Int)) : ∀ u ∈ alCells l, u.oneCell' = true := by
  intro u hu
  simp [alCells] at hu
  obtain ⟨a, b, _, h | h⟩ := hu <;> rw [h] <;> rfl

/-- The state behind a sample that is taken. -/
def takeS (s : WS) (t : Int) : WS := { s with told := true, heard := if s.told then s.heard else t, last := t }
def doneS (s : WS) (t : Int) (h : Nat) (c : Int) : WS :=
  { s with up := if c = 1 then true else if c = 2 then false else s.up,
           heard := if Fl.isFin h then t else s.heard,
           silent := if Fl.isFin h then false else if c = 3 then true else s.silent,
           al := if c = 0 then s.al else s.al ++ [(t, c)] }
def feedS (s : WS) (t : Int) (h : Nat) : WS × Int × Int :=
  if t < 0 ∨ 1048576 < t ∨ (s.told = true ∧ t ≤ s.last) then (s, 0, 2)
  else if 4096 ≤ s.al.length then (s, 0, 3)
  else (doneS (takeS s t) t h (callS (takeS s t) t h), callS (takeS s t) t h, 0)

def feedV (c e : Int) : Value := .tuple #[.int .u8 c, .int .i64 e]

set_option maxHeartbeats 1000000 in
theorem feed_arg (g : Nat) (s : WS) (v : Value) (t : Int) (h : Nat) (w : World) (hw : WAt w g s v) (hb : t < 0 ∨ 1048576 < t ∨ (s.told = true ∧ t ≤ s.last)) :
    Calls Try.prog 25 #[.pointer (some ⟨g, 0, none⟩), .agg #[.int .i64 t, .float .f64 h]] w fun e w' => e = .returned (feedV 0 2) ∧ ∃ x, w' = w.ext x := by
  obtain ⟨hg, c0, c1, c2, c3, c4, c5, c6, c7, c8⟩ := hw.cells
  obtain ⟨level, ease, up, told, last, heard, silent, al⟩ := s
  simp only at hb c1 c2 c3 c4 c5 c6 c7
  clear hw
  go_enter Try.func25, Try.ntmps25
  go_wp2_with (go_at_call 98; refine (watchIs_any _ _ (by go_simp)).mono ?_; rintro e w' ⟨rfl, rfl⟩)
  have key : decide (t < 0) = true ∨ (decide (t < 0) = false ∧ decide (1048576 < t) = true) ∨ (decide (t < 0) = false ∧ decide (1048576 < t) = false ∧ told = true ∧ decide (t ≤ last) = true) := by
    rcases hb with h | h | ⟨h, k⟩
    · simp [h]
    · by_cases h2 : t < 0
      · simp [h2]
      · simp [h, h2]
    · by_cases h2 : t < 0
      · simp [h2]
      · by_cases h3 : 1048576 < t <;> simp [h, k, h2, h3]
  clear hb
  rcases key with h1 | ⟨h1, h2⟩ | ⟨h1, h2, rfl, h3⟩
  all_goals
    go_quiet (fail)
    go_wp2
    go_ret2
    exact ⟨rfl, Blw.is (by repeat (first | exact Blw.refl _ | apply Blw.ext | apply Blw.alloc | apply Blw.drewN | apply Blw.drew | refine Blw.setCell ?_ _ _ (by simp)))⟩

theorem sl_alarms : SlT Try.prog 45 68 (.agg #[.int .i64 0, .int .u8 0]) 2 16 := ⟨Try.underlying45, by kernel_rfl, by kernel_rfl, by decide⟩

set_option maxRecDepth 100000 in
set_option maxHeartbeats 1000000 in
theorem feed_long (g : Nat) (s : WS) (a : Option Addr) (cap : Nat) (t : Int) (h : Nat) (w : World) (hw : WAt w g s (.slice a s.al.length cap)) (h0 : 0 ≤ t) (h1 : t ≤ 1048576) (ht : s.told = true → s.last < t) (hl : 4096 ≤ s.al.length) :
    Calls Try.prog 25 #[.pointer (some ⟨g, 0, none⟩), .agg #[.int .i64 t, .float .f64 h]] w fun e w' => e = .returned (feedV 0 3) ∧ ∃ x, w' = w.ext x := by
  obtain ⟨hg, c0, c1, c2, c3, c4, c5, c6, c7, c8⟩ := hw.cells
  obtain ⟨level, ease, up, told, last, heard, silent, al⟩ := s
  simp only at ht hl c1 c2 c3 c4 c5 c6 c7 c8
  clear hw
  have d1 : decide (t < 0) = false := by simp; omega
  have d2 : decide (1048576 < t) = false := by simp; omega
  go_enter Try.func25, Try.ntmps25
  go_wp2_with (go_at_call 98; refine (watchIs_any _ _ (by go_simp)).mono ?_; rintro e w' ⟨rfl, rfl⟩)
  cases told
  · clear ht
    go_quiet (fail)
    go_wp2
    go_ret2
    exact ⟨rfl, Blw.is (by repeat (first | exact Blw.refl _ | apply Blw.ext | apply Blw.alloc | apply Blw.drewN | apply Blw.drew | refine Blw.setCell ?_ _ _ (by simp)))⟩
  · have d3 : decide (t ≤ last) = false := by have := ht rfl; simp; omega
    clear ht
    go_quiet (fail)
    go_wp2
    go_ret2
    exact ⟨rfl, Blw.is (by repeat (first | exact Blw.refl _ | apply Blw.ext | apply Blw.alloc | apply Blw.drewN | apply Blw.drew | refine Blw.setCell ?_ _ _ (by simp)))⟩

theorem callS_cases (s : WS) (t : Int) (h : Nat) : (Fl.isFin h = true ∧ (callS s t h = 0 ∨ callS s t h = 1 ∨ callS s t h = 2)) ∨ (Fl.isFin h = false ∧ (callS s t h = 0 ∨ callS s t h = 3)) := by
  unfold callS
  cases Fl.isFin h
  · right; refine ⟨rfl, ?_⟩; simp only [Bool.false_eq_true, if_false]; split <;> simp
  · left; refine ⟨rfl, ?_⟩; simp only [if_true]; split
    · simp
    · split <;> simp

/-- What Feed hands back, of a watch in block g whose alarms lie in the row of a. -/
def FeedPost (w : World) (B g : Nat) (a : Option Addr) (s' : WS) (c : Int) (e : Ending) (w' : World) : Prop :=
  e = .returned (feedV c 0) ∧ ∃ (a' : Option Addr) (cap' : Nat), WAt w' g s' (.slice a' s'.al.length cap') ∧ w'.ownsRow B 68 2 (.slice a' s'.al.length cap') s'.al.length (alCells s'.al) ∧
    (∀ q, a' = some q → q.block ≠ g) ∧ (a' = a ∨ ∃ q, a' = some q ∧ w.heap.size ≤ q.block) ∧ KeptO (fun k => k = g ∨ ∃ q, a = some q ∧ k = q.block) w w'
theorem own_block {a : Option Addr} {n c k : Nat} (h : (Value.slice a n c).ownBlock = some k) : ∃ q, a = some q ∧ q.block = k := by
  cases a with
  | none => cases h
  | some q => exact ⟨q, rfl, by simpa [Value.ownBlock] using h⟩
theorem WAt.mk {w : World} {g : Nat} {s : WS} {v : Value} {cs : Array Value} (h : w.heap[g]? = some (.cells cs 47 (0, 0))) (e : cs = wCells s v) : WAt w g s v := by
  unfold WAt; rw [h, e]

theorem FeedPost.app {w W w1 : World} {B g gg n cap cap2 : Nat} {a : Option Addr} {s3 s' : WS} {t c : Int} {o : Obj} (hn : n = s3.al.length) (hW : WAt W g s3 (.slice a n cap)) (hK : KeptO (fun k => k = g) w W) (ownW : W.ownsRow B 68 2 (.slice a n cap) n (alCells s3.al))
    (hown1 : w1.ownsRow B 68 2 (.slice (some ⟨gg, 0, none⟩) (n + 1) cap2) (n + 1) (alCells s3.al ++ [.int .i64 t, .int .u8 c])) (hgrow : (W.alloc o).drew.grownBy w1 (Value.slice a n cap).ownBlock)
    (hat : (Value.slice a n cap).ownBlock = some gg ∨ gg = W.heap.size + 1) (hne : ∀ q, a = some q → q.block ≠ g) (hs : s' = { s3 with al := s3.al ++ [(t, c)] }) :
    FeedPost w B g a s' c (.returned (feedV c 0)) (w1.setCell ⟨g, 8, none⟩ (.slice (some ⟨gg, 0, none⟩) (n + 1) cap2)) := by
  subst hs hn
  have hg : g < W.heap.size := (Array.getElem?_eq_some_iff.1 hW).1
  have hne2 : some g ≠ (Value.slice a s3.al.length cap).ownBlock := fun e => by obtain ⟨q, h1, h2⟩ := own_block e.symm; exact hne q h1 h2
  have hgg : gg ≠ g := by
    rcases hat with h | h
    · intro e; rw [e] at h; exact hne2 h.symm
    · omega
  have hl : (s3.al ++ [(t, c)]).length = s3.al.length + 1 := by simp
  refine ⟨rfl, some ⟨gg, 0, none⟩, cap2, ?_, ?_, ?_, ?_, ?_⟩
  · refine WAt.mk (at_set 8 _ (at_grown hgrow hne2 (at_drew (at_alloc o hW)))) ?_
    simp only [hl]; rfl
  · simp only [hl, alCells_snoc]
    exact ((KeptO.refl (O := fun k => k = g) w1).setCell _ _ (.inl rfl)).own hown1 (fun k hk e => by obtain ⟨q, h1, h2⟩ := own_block hk; cases h1; exact hgg (h2.trans e))
  · rintro q hq; cases hq; exact hgg
  · rcases hat with h | h
    · left
      obtain ⟨q, h1, h2⟩ := own_block h
      rcases ownW.2 with ⟨h3, _⟩ | ⟨g3, c3, _, h3, _⟩
      · injection h3 with h3 _ _; rw [h1] at h3; cases h3
      · injection h3 with h3 _ _; rw [h3] at h1; cases h1; simp at h2; rw [h3, h2]
    · right; exact ⟨_, rfl, by have := hK.size; simp; omega⟩
  · refine KeptO.setCell ?_ _ _ (.inl (.inl rfl))
    refine KeptO.grown (((hK.mono (fun i _ h => .inl h)).alloc o).drew) hgrow ?_
    intro k hk
    obtain ⟨q, h1, h2⟩ := own_block hk
    exact .inl (.inr ⟨q, h1, h2.symm⟩)

theorem FeedPost.quiet {w W : World} {B g cap : Nat} {a : Option Addr} {s' : WS} (hW : WAt W g s' (.slice a s'.al.length cap)) (hK : KeptO (fun k => k = g) w W) (ownW : W.ownsRow B 68 2 (.slice a s'.al.length cap) s'.al.length (alCells s'.al)) (hne : ∀ q, a = some q → q.block ≠ g) :
    FeedPost w B g a s' 0 (.returned (feedV 0 0)) W :=
  ⟨rfl, a, cap, hW, ownW, hne, .inl rfl, hK.mono (fun _ _ h => .inl h)⟩

set_option maxRecDepth 100000 in
set_option maxHeartbeats 8000000 in
theorem feed_main_false (g : Nat) (level ease : Nat) (up : Bool) (last heard : Int) (silent : Bool) (al : List (Int × Int)) (a : Option Addr) (cap : Nat) (t : Int) (h : Nat) (w : World) (hw : WAt w g ⟨level, ease, up, false, last, heard, silent, al⟩ (.slice a al.length cap)) (h0 : 0 ≤ t) (h1 : t ≤ 1048576) (hl : al.length < 4096)
    (hh : h < 2 ^ 64) (B : Nat) (hB : B ≤ w.heap.size) (hown : w.ownsRow B 68 2 (.slice a al.length cap) al.length (alCells al)) (hne : ∀ q, a = some q → q.block ≠ g) :
    Calls Try.prog 25 #[.pointer (some ⟨g, 0, none⟩), .agg #[.int .i64 t, .float .f64 h]] w (FeedPost w B g a (doneS (takeS ⟨level, ease, up, false, last, heard, silent, al⟩ t) t h (callS (takeS ⟨level, ease, up, false, last, heard, silent, al⟩ t) t h)) (callS (takeS ⟨level, ease, up, false, last, heard, silent, al⟩ t) t h)) := by
  have HW := Lib.hid hw
  obtain ⟨i0, hi0, hz0, hz1, hz2⟩ := info_parts sl_alarms.info
  obtain ⟨hg, c0, c1, c2, c3, c4, c5, c6, c7, c8⟩ := hw.cells
  simp only at c1 c2 c3 c4 c5 c6 c7 c8
  have f4 : ∀ i, w.frozen? ⟨g, i, none⟩ = false := fun i => frozen_of_row w g i _ _ hw
  clear hw
  have d1 : decide (t < 0) = false := by simp; omega
  have d2 : decide (1048576 < t) = false := by simp; omega
  go_enter Try.func25, Try.ntmps25
  go_wp2_with (go_at_call 98; refine (watchIs_any _ _ (by go_simp)).mono ?_; rintro e w' ⟨rfl, rfl⟩)
  go_quiet (fail)
  go_wp2_with fail
  go_region
  go_wp2_with fail
  refine Calls.mono (watchCall_any g ⟨level, ease, up, true, t, t, silent, al⟩ t h _ hh (by simp only; omega) (by simp only; omega) (by go_simp) (by go_simp) (by go_simp) (by go_simp) (by go_simp) (by go_simp)) ?_
  rintro e w' ⟨rfl, x, rfl⟩
  have hc := callS_cases ⟨level, ease, up, true, t, t, silent, al⟩ t h
  generalize hcc : callS ⟨level, ease, up, true, t, t, silent, al⟩ t h = c at *
  have HC := Lib.hid hcc; clear hcc
  rcases hc with ⟨hf, rfl | rfl | rfl⟩ | ⟨hf, rfl | rfl⟩
  · go_wp2_with (go_at_call 100; refine (alarmFinite_any _ _ hh).mono ?_; rintro e w' ⟨rfl, rfl⟩)
    go_ret2
    have e1 : callS (takeS ⟨level, ease, up, false, last, heard, silent, al⟩ t) t h = 0 := HC.out
    rw [e1]
    have e2 : doneS (takeS ⟨level, ease, up, false, last, heard, silent, al⟩ t) t h 0 = ⟨level, ease, up, true, t, t, false, al⟩ := by simp [doneS, takeS, hf]
    rw [e2]
    exact FeedPost.quiet (s' := ⟨level, ease, up, true, t, t, false, al⟩) (WAt.mk (by repeat (first | exact HW.out | apply at_set | apply at_ext | apply at_alloc | apply at_drewN | apply at_drew)) (by simp [wCells])) (by repeat (first | exact KeptO.refl _ | apply KeptO.ext | apply KeptO.alloc | apply KeptO.drewN | apply KeptO.drew | refine KeptO.setCell ?_ _ _ (.inl rfl))) (KeptO.own (O := fun k => k = g) (by repeat (first | exact KeptO.refl _ | apply KeptO.ext | apply KeptO.alloc | apply KeptO.drewN | apply KeptO.drew | refine KeptO.setCell ?_ _ _ (.inl rfl))) hown (fun k hk e => by obtain ⟨q, h1, h2⟩ := own_block hk; exact hne q h1 (h2.trans e))) hne
  · go_wp2_with (go_at_call 100; refine (alarmFinite_any _ _ hh).mono ?_; rintro e w' ⟨rfl, rfl⟩)
    refine gen_world (fun W => WAt W g ⟨level, ease, true, true, t, t, false, al⟩ (.slice a al.length cap) ∧ KeptO (fun k => k = g) w W ∧ W.cell? ⟨w.heap.size, 0, none⟩ = some (.int .i64 t) ∧ w.heap.size < W.heap.size) ⟨WAt.mk (by repeat (first | exact HW.out | apply at_set | apply at_ext | apply at_alloc | apply at_drewN | apply at_drew)) (by simp [wCells]), (by repeat (first | exact KeptO.refl _ | apply KeptO.ext | apply KeptO.alloc | apply KeptO.drewN | apply KeptO.drew | refine KeptO.setCell ?_ _ _ (.inl rfl))), (by go_simp), (by simp)⟩ ?_
    rintro W ⟨hW, hK, cb, hbs⟩
    have ownW := hK.own hown (fun k hk e => by obtain ⟨q, h1, h2⟩ := own_block hk; exact hne q h1 (h2.trans e))
    obtain ⟨hgW, d0, d1, d2, d3, d4, d5, d6, d7, d8⟩ := hW.cells
    have hne2 : some g ≠ (Value.slice a al.length cap).ownBlock := fun e => by obtain ⟨q, h1, h2⟩ := own_block e.symm; exact hne q h1 h2
    have fW : ∀ i, W.frozen? ⟨g, i, none⟩ = false := fun i => frozen_of_row W g i _ _ hW
    go_region_law (first | (refine step_append_lies _ (by rfl) _ _ _ (by rfl) B 68 i0 _ 2 16 Try.underlying45 hi0 hz0 hz1 hz2 rfl (by omega) (.slice a al.length cap) al.length (alCells al) (by rfl) ((ownW.alloc _).drew) ⟨W.heap.size, 0, none⟩ 1 1 [.int .i64 t, .int .u8 1] (by rfl) (by rfl) (World.news_of_block (cs := #[.int .i64 t, .int .u8 1]) (t := 68) (fr := (0, 0)) (heap_alloc_new W _)) (by simp [Value.oneCell']) (by omega) (by unfold maxLen; omega) (by omega) (by simp; omega) (W.heap.size + 1) (by simp) ?_; intro gg cap2 w1 hown1 hgrow hat hlt; have e8 : w1.cell? ⟨g, 8, none⟩ = some (.slice a al.length cap) := (hgrow.cell_far _ (by simp; omega) hne2).trans (by go_simp); have e9 : w1.frozen? ⟨g, 8, none⟩ = false := (hgrow.frozen_far _ (by simp; omega) hne2).trans (by go_simp)))
    all_goals
      go_wp2
      go_ret2
      have e1 : callS (takeS ⟨level, ease, up, false, last, heard, silent, al⟩ t) t h = 1 := HC.out
      rw [e1]
      exact FeedPost.app rfl hW hK ownW hown1 hgrow hat hne (by simp [doneS, takeS, hf])
  · go_wp2_with (go_at_call 100; refine (alarmFinite_any _ _ hh).mono ?_; rintro e w' ⟨rfl, rfl⟩)
    refine gen_world (fun W => WAt W g ⟨level, ease, false, true, t, t, false, al⟩ (.slice a al.length cap) ∧ KeptO (fun k => k = g) w W ∧ W.cell? ⟨w.heap.size, 0, none⟩ = some (.int .i64 t) ∧ w.heap.size < W.heap.size) ⟨WAt.mk (by repeat (first | exact HW.out | apply at_set | apply at_ext | apply at_alloc | apply at_drewN | apply at_drew)) (by simp [wCells]), (by repeat (first | exact KeptO.refl _ | apply KeptO.ext | apply KeptO.alloc | apply KeptO.drewN | apply KeptO.drew | refine KeptO.setCell ?_ _ _ (.inl rfl))), (by go_simp), (by simp)⟩ ?_
    rintro W ⟨hW, hK, cb, hbs⟩
    have ownW := hK.own hown (fun k hk e => by obtain ⟨q, h1, h2⟩ := own_block hk; exact hne q h1 (h2.trans e))
    obtain ⟨hgW, d0, d1, d2, d3, d4, d5, d6, d7, d8⟩ := hW.cells
    have hne2 : some g ≠ (Value.slice a al.length cap).ownBlock := fun e => by obtain ⟨q, h1, h2⟩ := own_block e.symm; exact hne q h1 h2
    have fW : ∀ i, W.frozen? ⟨g, i, none⟩ = false := fun i => frozen_of_row W g i _ _ hW
    go_region_law (first | (refine step_append_lies _ (by rfl) _ _ _ (by rfl) B 68 i0 _ 2 16 Try.underlying45 hi0 hz0 hz1 hz2 rfl (by omega) (.slice a al.length cap) al.length (alCells al) (by rfl) ((ownW.alloc _).drew) ⟨W.heap.size, 0, none⟩ 1 1 [.int .i64 t, .int .u8 2] (by rfl) (by rfl) (World.news_of_block (cs := #[.int .i64 t, .int .u8 2]) (t := 68) (fr := (0, 0)) (heap_alloc_new W _)) (by simp [Value.oneCell']) (by omega) (by unfold maxLen; omega) (by omega) (by simp; omega) (W.heap.size + 1) (by simp) ?_; intro gg cap2 w1 hown1 hgrow hat hlt; have e8 : w1.cell? ⟨g, 8, none⟩ = some (.slice a al.length cap) := (hgrow.cell_far _ (by simp; omega) hne2).trans (by go_simp); have e9 : w1.frozen? ⟨g, 8, none⟩ = false := (hgrow.frozen_far _ (by simp; omega) hne2).trans (by go_simp)))
    all_goals
      go_wp2
      go_ret2
      have e1 : callS (takeS ⟨level, ease, up, false, last, heard, silent, al⟩ t) t h = 2 := HC.out
      rw [e1]
      exact FeedPost.app rfl hW hK ownW hown1 hgrow hat hne (by simp [doneS, takeS, hf])
  · go_wp2_with (go_at_call 100; refine (alarmFinite_any _ _ hh).mono ?_; rintro e w' ⟨rfl, rfl⟩)
    go_ret2
    have e1 : callS (takeS ⟨level, ease, up, false, last, heard, silent, al⟩ t) t h = 0 := HC.out
    rw [e1]
    have e2 : doneS (takeS ⟨level, ease, up, false, last, heard, silent, al⟩ t) t h 0 = ⟨level, ease, up, true, t, t, silent, al⟩ := by simp [doneS, takeS, hf]
    rw [e2]
    exact FeedPost.quiet (s' := ⟨level, ease, up, true, t, t, silent, al⟩) (WAt.mk (by repeat (first | exact HW.out | apply at_set | apply at_ext | apply at_alloc | apply at_drewN | apply at_drew)) (by simp [wCells])) (by repeat (first | exact KeptO.refl _ | apply KeptO.ext | apply KeptO.alloc | apply KeptO.drewN | apply KeptO.drew | refine KeptO.setCell ?_ _ _ (.inl rfl))) (KeptO.own (O := fun k => k = g) (by repeat (first | exact KeptO.refl _ | apply KeptO.ext | apply KeptO.alloc | apply KeptO.drewN | apply KeptO.drew | refine KeptO.setCell ?_ _ _ (.inl rfl))) hown (fun k hk e => by obtain ⟨q, h1, h2⟩ := own_block hk; exact hne q h1 (h2.trans e))) hne
  · go_wp2_with (go_at_call 100; refine (alarmFinite_any _ _ hh).mono ?_; rintro e w' ⟨rfl, rfl⟩)
    refine gen_world (fun W => WAt W g ⟨level, ease, up, true, t, t, true, al⟩ (.slice a al.length cap) ∧ KeptO (fun k => k = g) w W ∧ W.cell? ⟨w.heap.size, 0, none⟩ = some (.int .i64 t) ∧ w.heap.size < W.heap.size) ⟨WAt.mk (by repeat (first | exact HW.out | apply at_set | apply at_ext | apply at_alloc | apply at_drewN | apply at_drew)) (by simp [wCells]), (by repeat (first | exact KeptO.refl _ | apply KeptO.ext | apply KeptO.alloc | apply KeptO.drewN | apply KeptO.drew | refine KeptO.setCell ?_ _ _ (.inl rfl))), (by go_simp), (by simp)⟩ ?_
    rintro W ⟨hW, hK, cb, hbs⟩
    have ownW := hK.own hown (fun k hk e => by obtain ⟨q, h1, h2⟩ := own_block hk; exact hne q h1 (h2.trans e))
    obtain ⟨hgW, d0, d1, d2, d3, d4, d5, d6, d7, d8⟩ := hW.cells
    have hne2 : some g ≠ (Value.slice a al.length cap).ownBlock := fun e => by obtain ⟨q, h1, h2⟩ := own_block e.symm; exact hne q h1 h2
    have fW : ∀ i, W.frozen? ⟨g, i, none⟩ = false := fun i => frozen_of_row W g i _ _ hW
    go_region_law (first | (refine step_append_lies _ (by rfl) _ _ _ (by rfl) B 68 i0 _ 2 16 Try.underlying45 hi0 hz0 hz1 hz2 rfl (by omega) (.slice a al.length cap) al.length (alCells al) (by rfl) ((ownW.alloc _).drew) ⟨W.heap.size, 0, none⟩ 1 1 [.int .i64 t, .int .u8 3] (by rfl) (by rfl) (World.news_of_block (cs := #[.int .i64 t, .int .u8 3]) (t := 68) (fr := (0, 0)) (heap_alloc_new W _)) (by simp [Value.oneCell']) (by omega) (by unfold maxLen; omega) (by omega) (by simp; omega) (W.heap.size + 1) (by simp) ?_; intro gg cap2 w1 hown1 hgrow hat hlt; have e8 : w1.cell? ⟨g, 8, none⟩ = some (.slice a al.length cap) := (hgrow.cell_far _ (by simp; omega) hne2).trans (by go_simp); have e9 : w1.frozen? ⟨g, 8, none⟩ = false := (hgrow.frozen_far _ (by simp; omega) hne2).trans (by go_simp)))
    all_goals
      go_wp2
      go_ret2
      have e1 : callS (takeS ⟨level, ease, up, false, last, heard, silent, al⟩ t) t h = 3 := HC.out
      rw [e1]
      exact FeedPost.app rfl hW hK ownW hown1 hgrow hat hne (by simp [doneS, takeS, hf])
set_option maxRecDepth 100000 in
set_option maxHeartbeats 8000000 in
theorem feed_main_true (g : Nat) (level ease : Nat) (up : Bool) (last heard : Int) (silent : Bool) (al : List (Int × Int)) (a : Option Addr) (cap : Nat) (t : Int) (h : Nat) (w : World) (hw : WAt w g ⟨level, ease, up, true, last, heard, silent, al⟩ (.slice a al.length cap)) (h0 : 0 ≤ t) (h1 : t ≤ 1048576) (ht : last < t) (hl : al.length < 4096)
    (b0 : 0 ≤ heard) (b1 : heard ≤ 1048576) (hh : h < 2 ^ 64) (B : Nat) (hB : B ≤ w.heap.size) (hown : w.ownsRow B 68 2 (.slice a al.length cap) al.length (alCells al)) (hne : ∀ q, a = some q → q.block ≠ g) :
    Calls Try.prog 25 #[.pointer (some ⟨g, 0, none⟩), .agg #[.int .i64 t, .float .f64 h]] w (FeedPost w B g a (doneS (takeS ⟨level, ease, up, true, last, heard, silent, al⟩ t) t h (callS (takeS ⟨level, ease, up, true, last, heard, silent, al⟩ t) t h)) (callS (takeS ⟨level, ease, up, true, last, heard, silent, al⟩ t) t h)) := by
  have HW := Lib.hid hw
  obtain ⟨i0, hi0, hz0, hz1, hz2⟩ := info_parts sl_alarms.info
  obtain ⟨hg, c0, c1, c2, c3, c4, c5, c6, c7, c8⟩ := hw.cells
  simp only at c1 c2 c3 c4 c5 c6 c7 c8
  have f4 : ∀ i, w.frozen? ⟨g, i, none⟩ = false := fun i => frozen_of_row w g i _ _ hw
  clear hw
  have d1 : decide (t < 0) = false := by simp; omega
  have d2 : decide (1048576 < t) = false := by simp; omega
  have d3 : decide (t ≤ last) = false := by simp; omega
  go_enter Try.func25, Try.ntmps25
  go_wp2_with (go_at_call 98; refine (watchIs_any _ _ (by go_simp)).mono ?_; rintro e w' ⟨rfl, rfl⟩)
  go_quiet (fail)
  go_wp2_with fail
  refine Calls.mono (watchCall_any g ⟨level, ease, up, true, t, heard, silent, al⟩ t h _ hh (by simp only; omega) (by simp only; omega) (by go_simp) (by go_simp) (by go_simp) (by go_simp) (by go_simp) (by go_simp)) ?_
  rintro e w' ⟨rfl, x, rfl⟩
  have hc := callS_cases ⟨level, ease, up, true, t, heard, silent, al⟩ t h
  generalize hcc : callS ⟨level, ease, up, true, t, heard, silent, al⟩ t h = c at *
  have HC := Lib.hid hcc; clear hcc
  rcases hc with ⟨hf, rfl | rfl | rfl⟩ | ⟨hf, rfl | rfl⟩
  · go_wp2_with (go_at_call 100; refine (alarmFinite_any _ _ hh).mono ?_; rintro e w' ⟨rfl, rfl⟩)
    go_ret2
    have e1 : callS (takeS ⟨level, ease, up, true, last, heard, silent, al⟩ t) t h = 0 := HC.out
    rw [e1]
    have e2 : doneS (takeS ⟨level, ease, up, true, last, heard, silent, al⟩ t) t h 0 = ⟨level, ease, up, true, t, t, false, al⟩ := by simp [doneS, takeS, hf]
    rw [e2]
    exact FeedPost.quiet (s' := ⟨level, ease, up, true, t, t, false, al⟩) (WAt.mk (by repeat (first | exact HW.out | apply at_set | apply at_ext | apply at_alloc | apply at_drewN | apply at_drew)) (by simp [wCells])) (by repeat (first | exact KeptO.refl _ | apply KeptO.ext | apply KeptO.alloc | apply KeptO.drewN | apply KeptO.drew | refine KeptO.setCell ?_ _ _ (.inl rfl))) (KeptO.own (O := fun k => k = g) (by repeat (first | exact KeptO.refl _ | apply KeptO.ext | apply KeptO.alloc | apply KeptO.drewN | apply KeptO.drew | refine KeptO.setCell ?_ _ _ (.inl rfl))) hown (fun k hk e => by obtain ⟨q, h1, h2⟩ := own_block hk; exact hne q h1 (h2.trans e))) hne
  · go_wp2_with (go_at_call 100; refine (alarmFinite_any _ _ hh).mono ?_; rintro e w' ⟨rfl, rfl⟩)
    refine gen_world (fun W => WAt W g ⟨level, ease, true, true, t, t, false, al⟩ (.slice a al.length cap) ∧ KeptO (fun k => k = g) w W ∧ W.cell? ⟨w.heap.size, 0, none⟩ = some (.int .i64 t) ∧ w.heap.size < W.heap.size) ⟨WAt.mk (by repeat (first | exact HW.out | apply at_set | apply at_ext | apply at_alloc | apply at_drewN | apply at_drew)) (by simp [wCells]), (by repeat (first | exact KeptO.refl _ | apply KeptO.ext | apply KeptO.alloc | apply KeptO.drewN | apply KeptO.drew | refine KeptO.setCell ?_ _ _ (.inl rfl))), (by go_simp), (by simp)⟩ ?_
    rintro W ⟨hW, hK, cb, hbs⟩
    have ownW := hK.own hown (fun k hk e => by obtain ⟨q, h1, h2⟩ := own_block hk; exact hne q h1 (h2.trans e))
    obtain ⟨hgW, d0, d1, d2, d3, d4, d5, d6, d7, d8⟩ := hW.cells
    have hne2 : some g ≠ (Value.slice a al.length cap).ownBlock := fun e => by obtain ⟨q, h1, h2⟩ := own_block e.symm; exact hne q h1 h2
    have fW : ∀ i, W.frozen? ⟨g, i, none⟩ = false := fun i => frozen_of_row W g i _ _ hW
    go_region_law (first | (refine step_append_lies _ (by rfl) _ _ _ (by rfl) B 68 i0 _ 2 16 Try.underlying45 hi0 hz0 hz1 hz2 rfl (by omega) (.slice a al.length cap) al.length (alCells al) (by rfl) ((ownW.alloc _).drew) ⟨W.heap.size, 0, none⟩ 1 1 [.int .i64 t, .int .u8 1] (by rfl) (by rfl) (World.news_of_block (cs := #[.int .i64 t, .int .u8 1]) (t := 68) (fr := (0, 0)) (heap_alloc_new W _)) (by simp [Value.oneCell']) (by omega) (by unfold maxLen; omega) (by omega) (by simp; omega) (W.heap.size + 1) (by simp) ?_; intro gg cap2 w1 hown1 hgrow hat hlt; have e8 : w1.cell? ⟨g, 8, none⟩ = some (.slice a al.length cap) := (hgrow.cell_far _ (by simp; omega) hne2).trans (by go_simp); have e9 : w1.frozen? ⟨g, 8, none⟩ = false := (hgrow.frozen_far _ (by simp; omega) hne2).trans (by go_simp)))
    all_goals
      go_wp2
      go_ret2
      have e1 : callS (takeS ⟨level, ease, up, true, last, heard, silent, al⟩ t) t h = 1 := HC.out
      rw [e1]
      exact FeedPost.app rfl hW hK ownW hown1 hgrow hat hne (by simp [doneS, takeS, hf])
  · go_wp2_with (go_at_call 100; refine (alarmFinite_any _ _ hh).mono ?_; rintro e w' ⟨rfl, rfl⟩)
    refine gen_world (fun W => WAt W g ⟨level, ease, false, true, t, t, false, al⟩ (.slice a al.length cap) ∧ KeptO (fun k => k = g) w W ∧ W.cell? ⟨w.heap.size, 0, none⟩ = some (.int .i64 t) ∧ w.heap.size < W.heap.size) ⟨WAt.mk (by repeat (first | exact HW.out | apply at_set | apply at_ext | apply at_alloc | apply at_drewN | apply at_drew)) (by simp [wCells]), (by repeat (first | exact KeptO.refl _ | apply KeptO.ext | apply KeptO.alloc | apply KeptO.drewN | apply KeptO.drew | refine KeptO.setCell ?_ _ _ (.inl rfl))), (by go_simp), (by simp)⟩ ?_
    rintro W ⟨hW, hK, cb, hbs⟩
    have ownW := hK.own hown (fun k hk e => by obtain ⟨q, h1, h2⟩ := own_block hk; exact hne q h1 (h2.trans e))
    obtain ⟨hgW, d0, d1, d2, d3, d4, d5, d6, d7, d8⟩ := hW.cells
    have hne2 : some g ≠ (Value.slice a al.length cap).ownBlock := fun e => by obtain ⟨q, h1, h2⟩ := own_block e.symm; exact hne q h1 h2
    have fW : ∀ i, W.frozen? ⟨g, i, none⟩ = false := fun i => frozen_of_row W g i _ _ hW
    go_region_law (first | (refine step_append_lies _ (by rfl) _ _ _ (by rfl) B 68 i0 _ 2 16 Try.underlying45 hi0 hz0 hz1 hz2 rfl (by omega) (.slice a al.length cap) al.length (alCells al) (by rfl) ((ownW.alloc _).drew) ⟨W.heap.size, 0, none⟩ 1 1 [.int .i64 t, .int .u8 2] (by rfl) (by rfl) (World.news_of_block (cs := #[.int .i64 t, .int .u8 2]) (t := 68) (fr := (0, 0)) (heap_alloc_new W _)) (by simp [Value.oneCell']) (by omega) (by unfold maxLen; omega) (by omega) (by simp; omega) (W.heap.size + 1) (by simp) ?_; intro gg cap2 w1 hown1 hgrow hat hlt; have e8 : w1.cell? ⟨g, 8, none⟩ = some (.slice a al.length cap) := (hgrow.cell_far _ (by simp; omega) hne2).trans (by go_simp); have e9 : w1.frozen? ⟨g, 8, none⟩ = false := (hgrow.frozen_far _ (by simp; omega) hne2).trans (by go_simp)))
    all_goals
      go_wp2
      go_ret2
      have e1 : callS (takeS ⟨level, ease, up, true, last, heard, silent, al⟩ t) t h = 2 := HC.out
      rw [e1]
      exact FeedPost.app rfl hW hK ownW hown1 hgrow hat hne (by simp [doneS, takeS, hf])
  · go_wp2_with (go_at_call 100; refine (alarmFinite_any _ _ hh).mono ?_; rintro e w' ⟨rfl, rfl⟩)
    go_ret2
    have e1 : callS (takeS ⟨level, ease, up, true, last, heard, silent, al⟩ t) t h = 0 := HC.out
    rw [e1]
    have e2 : doneS (takeS ⟨level, ease, up, true, last, heard, silent, al⟩ t) t h 0 = ⟨level, ease, up, true, t, heard, silent, al⟩ := by simp [doneS, takeS, hf]
    rw [e2]
    exact FeedPost.quiet (s' := ⟨level, ease, up, true, t, heard, silent, al⟩) (WAt.mk (by repeat (first | exact HW.out | apply at_set | apply at_ext | apply at_alloc | apply at_drewN | apply at_drew)) (by simp [wCells])) (by repeat (first | exact KeptO.refl _ | apply KeptO.ext | apply KeptO.alloc | apply KeptO.drewN | apply KeptO.drew | refine KeptO.setCell ?_ _ _ (.inl rfl))) (KeptO.own (O := fun k => k = g) (by repeat (first | exact KeptO.refl _ | apply KeptO.ext | apply KeptO.alloc | apply KeptO.drewN | apply KeptO.drew | refine KeptO.setCell ?_ _ _ (.inl rfl))) hown (fun k hk e => by obtain ⟨q, h1, h2⟩ := own_block hk; exact hne q h1 (h2.trans e))) hne
  · go_wp2_with (go_at_call 100; refine (alarmFinite_any _ _ hh).mono ?_; rintro e w' ⟨rfl, rfl⟩)
    refine gen_world (fun W => WAt W g ⟨level, ease, up, true, t, heard, true, al⟩ (.slice a al.length cap) ∧ KeptO (fun k => k = g) w W ∧ W.cell? ⟨w.heap.size, 0, none⟩ = some (.int .i64 t) ∧ w.heap.size < W.heap.size) ⟨WAt.mk (by repeat (first | exact HW.out | apply at_set | apply at_ext | apply at_alloc | apply at_drewN | apply at_drew)) (by simp [wCells]), (by repeat (first | exact KeptO.refl _ | apply KeptO.ext | apply KeptO.alloc | apply KeptO.drewN | apply KeptO.drew | refine KeptO.setCell ?_ _ _ (.inl rfl))), (by go_simp), (by simp)⟩ ?_
    rintro W ⟨hW, hK, cb, hbs⟩
    have ownW := hK.own hown (fun k hk e => by obtain ⟨q, h1, h2⟩ := own_block hk; exact hne q h1 (h2.trans e))
    obtain ⟨hgW, d0, d1, d2, d3, d4, d5, d6, d7, d8⟩ := hW.cells
    have hne2 : some g ≠ (Value.slice a al.length cap).ownBlock := fun e => by obtain ⟨q, h1, h2⟩ := own_block e.symm; exact hne q h1 h2
    have fW : ∀ i, W.frozen? ⟨g, i, none⟩ = false := fun i => frozen_of_row W g i _ _ hW
    go_region_law (first | (refine step_append_lies _ (by rfl) _ _ _ (by rfl) B 68 i0 _ 2 16 Try.underlying45 hi0 hz0 hz1 hz2 rfl (by omega) (.slice a al.length cap) al.length (alCells al) (by rfl) ((ownW.alloc _).drew) ⟨W.heap.size, 0, none⟩ 1 1 [.int .i64 t, .int .u8 3] (by rfl) (by rfl) (World.news_of_block (cs := #[.int .i64 t, .int .u8 3]) (t := 68) (fr := (0, 0)) (heap_alloc_new W _)) (by simp [Value.oneCell']) (by omega) (by unfold maxLen; omega) (by omega) (by simp; omega) (W.heap.size + 1) (by simp) ?_; intro gg cap2 w1 hown1 hgrow hat hlt; have e8 : w1.cell? ⟨g, 8, none⟩ = some (.slice a al.length cap) := (hgrow.cell_far _ (by simp; omega) hne2).trans (by go_simp); have e9 : w1.frozen? ⟨g, 8, none⟩ = false := (hgrow.frozen_far _ (by simp; omega) hne2).trans (by go_simp)))
    all_goals
      go_wp2
      go_ret2
      have e1 : callS (takeS ⟨level, ease, up, true, last, heard, silent, al⟩ t) t h = 3 := HC.out
      rw [e1]
      exact FeedPost.app rfl hW hK ownW hown1 hgrow hat hne (by simp [doneS, takeS, hf])
end Go.Proofs.Ytigkfdoeneemeaa
