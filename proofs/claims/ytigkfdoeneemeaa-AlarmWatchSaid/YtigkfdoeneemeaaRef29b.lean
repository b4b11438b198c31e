/- The walk of the reference's Watch.Feed: the same function of the state as the program's. -/
import Derived.Test.YtigkfdoeneemeaaKitSamples
namespace Go.Proofs.Ytigkfdoeneemeaa
open Go.RowKit

/-- The reference's watch of a state, with all that it was told and did. -/
structure RSt (w : World) (B g : Nat) (s : WS) (l : List (Int × Nat)) (a : Option Addr) (cap : Nat) (a2 : Option Addr) (cap2 : Nat) : Prop where
  at_ : SAt w g s (.slice a l.length cap) (.slice a2 s.al.length cap2)
  o1 : w.ownsRow B 43 2 (.slice a l.length cap) l.length (smps l)
  o2 : w.ownsRow B 68 2 (.slice a2 s.al.length cap2) s.al.length (alCells s.al)
  n1 : ∀ q, a = some q → q.block ≠ g
  n2 : ∀ q, a2 = some q → q.block ≠ g
  n12 : ∀ q r, a = some q → a2 = some r → q.block ≠ r.block
  rel : Rel s l

def RO (g : Nat) (a a2 : Option Addr) (k : Nat) : Prop := k = g ∨ (∃ q, a = some q ∧ k = q.block) ∨ ∃ q, a2 = some q ∧ k = q.block

theorem RSt.kept {w w' : World} {B g : Nat} {s : WS} {l : List (Int × Nat)} {a : Option Addr} {cap : Nat} {a2 : Option Addr} {cap2 : Nat} {O : Nat → Prop} (h : RSt w B g s l a cap a2 cap2) (k : KeptO O w w') (ho : ∀ i, RO g a a2 i → ¬ O i) : RSt w' B g s l a cap a2 cap2 :=
  ⟨k.heap h.at_ (ho g (.inl rfl)), k.own h.o1 (fun i hi => by obtain ⟨q, h1, h2⟩ := own_block hi; exact ho i (.inr (.inl ⟨q, h1, h2.symm⟩))), k.own h.o2 (fun i hi => by obtain ⟨q, h1, h2⟩ := own_block hi; exact ho i (.inr (.inr ⟨q, h1, h2.symm⟩))), h.n1, h.n2, h.n12, h.rel⟩

/-- What the reference's Feed hands back. -/
def RFeed (w : World) (B g : Nat) (l : List (Int × Nat)) (a a2 : Option Addr) (p : WS × Int × Int) (e : Ending) (w' : World) : Prop :=
  e = .returned (feedV p.2.1 p.2.2) ∧ ∃ (l' : List (Int × Nat)) (a' : Option Addr) (cap' : Nat) (a2' : Option Addr) (cap2' : Nat), RSt w' B g p.1 l' a' cap' a2' cap2' ∧ l'.length ≤ l.length + 1 ∧
    (∀ i, RO g a' a2' i → RO g a a2 i ∨ w.heap.size ≤ i) ∧ KeptO (RO g a a2) w w'

theorem RFeed.err {w W : World} {B g : Nat} {s : WS} {l : List (Int × Nat)} {a : Option Addr} {cap : Nat} {a2 : Option Addr} {cap2 : Nat} {c er : Int} {e : Ending} (he : e = .returned (feedV c er)) (hb : Blw w W) (h : RSt w B g s l a cap a2 cap2) :
    RFeed w B g l a a2 (s, c, er) e W :=
  ⟨he, l, a, cap, a2, cap2, h.kept (O := fun _ => False) (KeptO.of_blw hb) (fun _ _ => id), Nat.le_succ _, fun i hi => .inl hi, KeptO.of_blw hb⟩

set_option maxRecDepth 100000 in
set_option maxHeartbeats 1000000 in
theorem rfeed_arg (B g : Nat) (s : WS) (l : List (Int × Nat)) (a : Option Addr) (cap : Nat) (a2 : Option Addr) (cap2 : Nat) (t : Int) (x : Nat) (w : World) (h : RSt w B g s l a cap a2 cap2) (hl : l.length ≤ 100000) (hb : t < 0 ∨ 1048576 < t ∨ (s.told = true ∧ t ≤ s.last)) :
    Calls Try.prog 36 #[.pointer (some ⟨g, 0, none⟩), .agg #[.int .i64 t, .float .f64 x]] w fun e w' => e = .returned (feedV 0 2) ∧ ∃ x, w' = w.ext x := by
  obtain ⟨hg, c0, c1, c2, c3, c4, c5⟩ := h.at_.cells
  obtain ⟨a', c', ea, har, -, -, -, -⟩ := own_arr h.o1
  cases ea
  have rel := h.rel
  clear h
  have tb : decide (t < 0) = true ∨ (decide (t < 0) = false ∧ decide (1048576 < t) = true) ∨ (decide (t < 0) = false ∧ decide (1048576 < t) = false ∧ s.told = true ∧ t ≤ s.last) := by
    rcases hb with h | h | ⟨h, k⟩
    · simp [h]
    · by_cases h2 : t < 0
      · simp [h2]
      · simp [h, h2]
    · by_cases h2 : t < 0
      · simp [h2]
      · by_cases h3 : 1048576 < t <;> simp [h, k, h2, h3]
  clear hb
  go_enter Try.func36, Try.ntmps36
  go_wp2_with (go_at_call 105; refine (refNone_any g _ (by go_simp) (by go_simp)).mono ?_; rintro e w' ⟨rfl, rfl⟩)
  rcases tb with h1 | ⟨h1, h2⟩ | ⟨h1, h2, h3, h4⟩
  · clear rel
    go_quiet (fail)
    go_wp2
    go_ret2
    exact ⟨rfl, Blw.is (by repeat (first | exact Blw.refl _ | apply Blw.ext | apply Blw.alloc | apply Blw.drewN | apply Blw.drew | refine Blw.setCell ?_ _ _ (by simp)))⟩
  · clear rel
    go_quiet (fail)
    go_wp2
    go_ret2
    exact ⟨rfl, Blw.is (by repeat (first | exact Blw.refl _ | apply Blw.ext | apply Blw.alloc | apply Blw.drewN | apply Blw.drew | refine Blw.setCell ?_ _ _ (by simp)))⟩
  · have hne : l ≠ [] := by
      intro e; have := rel.told; rw [e, h3] at this; simp at this
    have hpos := List.length_pos_iff.2 hne
    obtain ⟨t9, x9, b, o, hgk, hm, rfl, hbs, e0, e1⟩ := smp_at har (k := l.length - 1) (by omega)
    have hlast : s.last = t9 := by
      have := rel.last (t9, x9) (by rw [List.getLast?_eq_getElem?]; exact hgk)
      exact this
    have p1 : decide (0 < l.length) = true := by simp; omega
    have p2 : decide (t ≤ t9) = true := by rw [← hlast]; simpa using h4
    have p3 : ((l.length - 1 : Nat) : Int) = (l.length : Int) - 1 := by omega
    have p4 : (0 : Int) ≤ (l.length : Int) - 1 := by omega
    have p5 : (l.length : Int) - 1 < (l.length : Int) := by omega
    have p6 : IntKind.i64.wrap ((l.length : Int) - 1) = (l.length : Int) - 1 := by rw [IntKind.wrap_i64]; omega
    have p7 : ((l.length : Int) - 1).toNat = l.length - 1 := by omega
    clear rel hne hpos hgk hm hlast h3 h4
    go_quiet (fail)
    go_wp2
    go_ret2
    exact ⟨rfl, Blw.is (by repeat (first | exact Blw.refl _ | apply Blw.ext | apply Blw.alloc | apply Blw.drewN | apply Blw.drew | refine Blw.setCell ?_ _ _ (by simp)))⟩

/-- Midway through Feed: the watch in block g, its two rows, the sample's own block, and what is as it was. -/
structure RMid (w W : World) (B g : Nat) (s : WS) (l : List (Int × Nat)) (a : Option Addr) (cap : Nat) (a2 : Option Addr) (cap2 : Nat) (a0 : Option Addr) (t : Int) (x : Nat) : Prop where
  at_ : SAt W g s (.slice a l.length cap) (.slice a2 s.al.length cap2)
  o1 : W.ownsRow B 43 2 (.slice a l.length cap) l.length (smps l)
  o2 : W.ownsRow B 68 2 (.slice a2 s.al.length cap2) s.al.length (alCells s.al)
  n1 : ∀ q, a = some q → q.block ≠ g
  n2 : ∀ q, a2 = some q → q.block ≠ g
  n12 : ∀ q r, a = some q → a2 = some r → q.block ≠ r.block
  kept : KeptO (fun k => k = g ∨ ∃ q, a0 = some q ∧ k = q.block) w W
  new : a = a0 ∨ ∃ q, a = some q ∧ w.heap.size ≤ q.block
  b1 : ∀ q, a = some q → q.block ≠ w.heap.size
  b2 : ∀ q, a2 = some q → q.block < w.heap.size
  gl : g < w.heap.size
  lt : w.heap.size < W.heap.size
  c0 : W.cell? ⟨w.heap.size, 0, none⟩ = some (.int .i64 t)
  c1 : W.cell? ⟨w.heap.size, 1, none⟩ = some (.float .f64 x)

section
variable {w W W' w1 : World} {B g gg : Nat} {s : WS} {l : List (Int × Nat)} {a : Option Addr} {cap cap' : Nat} {a2 : Option Addr} {cap2 : Nat} {a0 : Option Addr} {t : Int} {x : Nat} {o : Obj}

theorem RMid.blw (m : RMid w W B g s l a cap a2 cap2 a0 t x) (k : Blw W W') : RMid w W' B g s l a cap a2 cap2 a0 t x := by
  have ho : KeptO (fun _ => False) W W' := KeptO.of_blw k
  exact ⟨ho.heap m.at_ id, ownsRow_blw m.o1 k, ownsRow_blw m.o2 k, m.n1, m.n2, m.n12, m.kept.trans (ho.mono (fun _ _ h => h.elim)), m.new, m.b1, m.b2, m.gl, Nat.lt_of_lt_of_le m.lt k.size, (Below.cell k m.lt).trans m.c0, (Below.cell k m.lt).trans m.c1⟩

theorem RMid.up (m : RMid w W B g s l a cap a2 cap2 a0 t x) (u : Bool) : RMid w (W.setCell ⟨g, 4, none⟩ (.bool u)) B g { s with up := u } l a cap a2 cap2 a0 t x := by
  have ho : KeptO (fun k => k = g) W (W.setCell ⟨g, 4, none⟩ (.bool u)) := (KeptO.refl W).setCell _ _ (.inl rfl)
  have hne : w.heap.size ≠ g := by have := m.gl; omega
  refine ⟨SAt.mk (at_set 4 _ m.at_) rfl, ho.own m.o1 (fun k hk e => by obtain ⟨q, h1, h2⟩ := own_block hk; exact m.n1 q h1 (h2.trans e)), ho.own m.o2 (fun k hk e => by obtain ⟨q, h1, h2⟩ := own_block hk; exact m.n2 q h1 (h2.trans e)), m.n1, m.n2, m.n12, m.kept.setCell _ _ (.inl (.inl rfl)), m.new, m.b1, m.b2, m.gl, by simpa using m.lt, ?_, ?_⟩
  · exact (World.cell?_setCell_other _ _ _ _ (by intro h; cases h)).trans m.c0
  · exact (World.cell?_setCell_other _ _ _ _ (by intro h; cases h)).trans m.c1

theorem RMid.app1 (m : RMid w W B g s l a cap a2 cap2 a0 t x) (hown1 : w1.ownsRow B 43 2 (.slice (some ⟨gg, 0, none⟩) (l.length + 1) cap') (l.length + 1) (smps l ++ [.int .i64 t, .float .f64 x]))
    (hgrow : (W.alloc o).drew.grownBy w1 (Value.slice a l.length cap).ownBlock) (hat : (Value.slice a l.length cap).ownBlock = some gg ∨ gg = W.heap.size + 1) :
    RMid w (w1.setCell ⟨g, 2, none⟩ (.slice (some ⟨gg, 0, none⟩) (l.length + 1) cap')) B g s (l ++ [(t, x)]) (some ⟨gg, 0, none⟩) cap' a2 cap2 a0 t x := by
  have hg : g < W.heap.size := (Array.getElem?_eq_some_iff.1 m.at_).1
  have hne2 : some g ≠ (Value.slice a l.length cap).ownBlock := fun e => by obtain ⟨q, h1, h2⟩ := own_block e.symm; exact m.n1 q h1 h2
  have hbx : some w.heap.size ≠ (Value.slice a l.length cap).ownBlock := fun e => by obtain ⟨q, h1, h2⟩ := own_block e.symm; exact m.b1 q h1 h2
  have hgg : gg ≠ g := by
    rcases hat with h | h
    · intro e; rw [e] at h; exact hne2 h.symm
    · omega
  have hwg : w.heap.size ≠ g := by have := m.gl; omega
  have hl : (l ++ [(t, x)]).length = l.length + 1 := by simp
  have hs : smps (l ++ [(t, x)]) = smps l ++ [.int .i64 t, .float .f64 x] := by rw [smps_app]; rfl
  have kk : KeptO (fun k => k = g ∨ some k = (Value.slice a l.length cap).ownBlock) W (w1.setCell ⟨g, 2, none⟩ (.slice (some ⟨gg, 0, none⟩) (l.length + 1) cap')) :=
    KeptO.setCell (KeptO.grown (((KeptO.refl W).alloc o).drew) hgrow (fun k hk => .inl (.inr hk.symm))) _ _ (.inl (.inl rfl))
  refine ⟨?_, ?_, ?_, ?_, m.n2, ?_, ?_, ?_, ?_, m.b2, m.gl, ?_, ?_, ?_⟩
  · refine SAt.mk (at_set 2 _ (at_grown hgrow hne2 (at_drew (at_alloc o m.at_)))) ?_
    simp only [hl]; rfl
  · rw [hs, hl]
    exact ((KeptO.refl (O := fun k => k = g) w1).setCell _ _ (.inl rfl)).own hown1 (fun k hk e => by obtain ⟨q, h1, h2⟩ := own_block hk; cases h1; exact hgg (h2.trans e))
  · refine kk.own m.o2 (fun k hk e => ?_)
    obtain ⟨q, h1, h2⟩ := own_block hk
    rcases e with e | e
    · exact m.n2 q h1 (h2.trans e)
    · obtain ⟨r, h3, h4⟩ := own_block e.symm
      exact m.n12 r q h3 h1 (h4.trans h2.symm)
  · rintro q hq; cases hq; exact hgg
  · rintro q r hq hr; cases hq
    rcases hat with h | h
    · obtain ⟨q, h1, h2⟩ := own_block h
      have := m.n12 q r h1 hr
      rw [h2] at this; exact this
    · have := m.b2 r hr
      have := m.lt
      show gg ≠ r.block
      omega
  · refine KeptO.setCell (KeptO.grown ((m.kept.alloc o).drew) hgrow ?_) _ _ (.inl (.inl rfl))
    intro k hk
    obtain ⟨q, h1, h2⟩ := own_block hk
    rcases m.new with e | ⟨r, h3, h4⟩
    · exact .inl (.inr ⟨q, by rw [← e]; exact h1, h2.symm⟩)
    · rw [h1] at h3; cases h3; exact .inr (by omega)
  · rcases hat with h | h
    · obtain ⟨q, h1, h2⟩ := own_block h
      rcases m.new with e | ⟨r, h3, h4⟩
      · left
        rcases m.o1.2 with ⟨h5, _⟩ | ⟨g3, c3, _, h5, _⟩
        · injection h5 with h5 _ _; rw [h1] at h5; cases h5
        · injection h5 with h5 _ _; rw [h5] at h1; cases h1; simp at h2; rw [← e, h5, h2]
      · rw [h1] at h3; cases h3
        exact .inr ⟨_, rfl, by rw [← h2]; exact h4⟩
    · right; exact ⟨_, rfl, by have := m.lt; show w.heap.size ≤ gg; omega⟩
  · rintro q hq; cases hq
    rcases hat with h | h
    · intro e; rw [show gg = w.heap.size from e] at h; exact hbx h.symm
    · have := m.lt; show gg ≠ _; omega
  · have h1 := kk.size
    exact Nat.lt_of_lt_of_le m.lt h1
  · exact (World.cell?_setCell_other _ _ _ _ (by intro h; cases h)).trans ((hgrow.cell_far _ (by have := m.lt; simp; omega) hbx).trans (show ((W.alloc o).drew).cell? _ = _ from (Below.cell (((Blw.refl W).alloc o)) m.lt).trans m.c0))
  · exact (World.cell?_setCell_other _ _ _ _ (by intro h; cases h)).trans ((hgrow.cell_far _ (by have := m.lt; simp; omega) hbx).trans (show ((W.alloc o).drew).cell? _ = _ from (Below.cell (((Blw.refl W).alloc o)) m.lt).trans m.c1))

/-- The end: the alarm is appended. -/
theorem RMid.app2 {s' : WS} {c : Int} (m : RMid w W B g s l a cap a2 cap2 a0 t x) (hown1 : w1.ownsRow B 68 2 (.slice (some ⟨gg, 0, none⟩) (s.al.length + 1) cap') (s.al.length + 1) (alCells s.al ++ [.int .i64 t, .int .u8 c]))
    (hgrow : (W.alloc o).drew.grownBy w1 (Value.slice a2 s.al.length cap2).ownBlock) (hat : (Value.slice a2 s.al.length cap2).ownBlock = some gg ∨ gg = W.heap.size + 1) (he : s'.level = s.level ∧ s'.ease = s.ease ∧ s'.up = s.up ∧ s'.al = s.al ++ [(t, c)]) (hr : Rel s' l) {l0 : List (Int × Nat)} (hl0 : l.length ≤ l0.length + 1) (er : Int) :
    RFeed w B g l0 a0 a2 (s', c, er) (.returned (feedV c er)) (w1.setCell ⟨g, 3, none⟩ (.slice (some ⟨gg, 0, none⟩) (s.al.length + 1) cap')) := by
  obtain ⟨e1, e2, e3, e4⟩ := he
  have hg : g < W.heap.size := (Array.getElem?_eq_some_iff.1 m.at_).1
  have hne2 : some g ≠ (Value.slice a2 s.al.length cap2).ownBlock := fun e => by obtain ⟨q, h1, h2⟩ := own_block e.symm; exact m.n2 q h1 h2
  have hgg : gg ≠ g := by
    rcases hat with h | h
    · intro e; rw [e] at h; exact hne2 h.symm
    · omega
  have hl : s'.al.length = s.al.length + 1 := by rw [e4]; simp
  have kk : KeptO (fun k => k = g ∨ some k = (Value.slice a2 s.al.length cap2).ownBlock) W (w1.setCell ⟨g, 3, none⟩ (.slice (some ⟨gg, 0, none⟩) (s.al.length + 1) cap')) :=
    KeptO.setCell (KeptO.grown (((KeptO.refl W).alloc o).drew) hgrow (fun k hk => .inl (.inr hk.symm))) _ _ (.inl (.inl rfl))
  refine ⟨rfl, l, a, cap, some ⟨gg, 0, none⟩, cap', ⟨?_, ?_, ?_, m.n1, ?_, ?_, hr⟩, hl0, ?_, ?_⟩
  · refine SAt.mk (at_set 3 _ (at_grown hgrow hne2 (at_drew (at_alloc o m.at_)))) ?_
    simp only [hl, e1, e2, e3]; rfl
  · refine kk.own m.o1 (fun k hk e => ?_)
    obtain ⟨q, h1, h2⟩ := own_block hk
    rcases e with e | e
    · exact m.n1 q h1 (h2.trans e)
    · obtain ⟨r, h3, h4⟩ := own_block e.symm
      exact m.n12 q r h1 h3 (h2.trans h4.symm)
  · simp only [e4, alCells_snoc]
    have := ((KeptO.refl (O := fun k => k = g) w1).setCell ⟨g, 3, none⟩ (.slice (some ⟨gg, 0, none⟩) (s.al.length + 1) cap') (.inl rfl)).own hown1 (fun k hk e => by obtain ⟨q, h1, h2⟩ := own_block hk; cases h1; exact hgg (h2.trans e))
    simpa using this
  · rintro q hq; cases hq; exact hgg
  · rintro q r hq hr; cases hr
    rcases hat with h | h
    · obtain ⟨r, h1, h2⟩ := own_block h
      have := m.n12 q r hq h1
      rw [h2] at this; exact this
    · have hlt := (World.ownsRow.lt m.o1 q.block (by rw [hq]; rfl)).2
      show q.block ≠ gg
      omega
  · rintro i (rfl | ⟨q, h1, rfl⟩ | ⟨q, h1, rfl⟩)
    · exact .inl (.inl rfl)
    · rcases m.new with e | ⟨r, h3, h4⟩
      · exact .inl (.inr (.inl ⟨q, by rw [← e]; exact h1, rfl⟩))
      · rw [h1] at h3; cases h3; exact .inr h4
    · cases h1
      rcases hat with h | h
      · obtain ⟨r, h1, h2⟩ := own_block h
        exact .inl (.inr (.inr ⟨r, h1, h2.symm⟩))
      · right; have := m.lt; show w.heap.size ≤ gg; omega
  · refine KeptO.setCell (KeptO.grown (((m.kept.mono (fun i _ h => ?_)).alloc o).drew) hgrow ?_) _ _ (.inl (.inl rfl))
    · rcases h with h | ⟨q, h1, h2⟩
      · exact .inl h
      · exact .inr (.inl ⟨q, h1, h2⟩)
    · intro k hk
      obtain ⟨q, h1, h2⟩ := own_block hk
      exact .inl (.inr (.inr ⟨q, h1, h2.symm⟩))

/-- The end: no alarm. -/
theorem RMid.end {s' : WS} (m : RMid w W B g s l a cap a2 cap2 a0 t x) (he : s'.level = s.level ∧ s'.ease = s.ease ∧ s'.up = s.up ∧ s'.al = s.al) (hr : Rel s' l) {l0 : List (Int × Nat)} (hl0 : l.length ≤ l0.length + 1) (c er : Int) :
    RFeed w B g l0 a0 a2 (s', c, er) (.returned (feedV c er)) W := by
  obtain ⟨e1, e2, e3, e4⟩ := he
  refine ⟨rfl, l, a, cap, a2, cap2, ⟨?_, m.o1, ?_, m.n1, m.n2, m.n12, hr⟩, hl0, ?_, ?_⟩
  · have := m.at_; unfold SAt at *; rw [this, e1, e2, e3, e4]
  · rw [e4]; exact m.o2
  · rintro i (rfl | ⟨q, h1, rfl⟩ | ⟨q, h1, rfl⟩)
    · exact .inl (.inl rfl)
    · rcases m.new with e | ⟨r, h3, h4⟩
      · exact .inl (.inr (.inl ⟨q, by rw [← e]; exact h1, rfl⟩))
      · rw [h1] at h3; cases h3; exact .inr h4
    · exact .inl (.inr (.inr ⟨q, h1, rfl⟩))
  · refine m.kept.mono (fun i _ h => ?_)
    rcases h with h | ⟨q, h1, h2⟩
    · exact .inl h
    · exact .inr (.inl ⟨q, h1, h2⟩)
end
end Go.Proofs.Ytigkfdoeneemeaa
