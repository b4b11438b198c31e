/- Two watches side by side, the program's and the reference's: what the one writes leaves the other as it was. -/
import Derived.Test.YtigkfdoeneemeaaRefAll29
import Derived.Test.YtigkfdoeneemeaaLives
namespace Go.Proofs.Ytigkfdoeneemeaa
open Go.RowKit

def PO (g : Nat) (a : Option Addr) (k : Nat) : Prop := k = g ∨ ∃ q, a = some q ∧ k = q.block

structure PSt (w : World) (B g : Nat) (s : WS) (a : Option Addr) (cap : Nat) : Prop where
  at_ : WAt w g s (.slice a s.al.length cap)
  own : w.ownsRow B 68 2 (.slice a s.al.length cap) s.al.length (alCells s.al)
  ne : ∀ q, a = some q → q.block ≠ g

structure Two (w : World) (B g : Nat) (s : WS) (a : Option Addr) (cap : Nat) (g2 : Nat) (s2 : WS) (l : List (Int × Nat)) (b : Option Addr) (capb : Nat) (c : Option Addr) (capc : Nat) : Prop where
  p : PSt w B g s a cap
  r : RSt w B g2 s2 l b capb c capc
  d : ∀ i, PO g a i → ¬ RO g2 b c i

section
variable {w w' : World} {B g : Nat} {s : WS} {a : Option Addr} {cap g2 : Nat} {s2 : WS} {l : List (Int × Nat)} {b : Option Addr} {capb : Nat} {c : Option Addr} {capc : Nat}

theorem PSt.lt (h : PSt w B g s a cap) {i : Nat} (k : PO g a i) : i < w.heap.size := by
  rcases k with rfl | ⟨q, h1, rfl⟩
  · exact (Array.getElem?_eq_some_iff.1 h.at_).1
  · exact (World.ownsRow.lt h.own q.block (by subst h1; rfl)).2
theorem RSt.lt (h : RSt w B g2 s2 l b capb c capc) {i : Nat} (k : RO g2 b c i) : i < w.heap.size := by
  rcases k with rfl | ⟨q, h1, rfl⟩ | ⟨q, h1, rfl⟩
  · exact (Array.getElem?_eq_some_iff.1 h.at_).1
  · exact (World.ownsRow.lt h.o1 q.block (by subst h1; rfl)).2
  · exact (World.ownsRow.lt h.o2 q.block (by subst h1; rfl)).2
theorem PSt.kept {O : Nat → Prop} (h : PSt w B g s a cap) (k : KeptO O w w') (ho : ∀ i, PO g a i → ¬ O i) : PSt w' B g s a cap :=
  ⟨k.heap h.at_ (ho g (.inl rfl)), k.own h.own (fun i hi => by obtain ⟨q, h1, h2⟩ := own_block hi; exact ho i (.inr ⟨q, h1, h2.symm⟩)), h.ne⟩
theorem PSt.ge (h : PSt w B g s a cap) (hB : B ≤ g) {i : Nat} (k : PO g a i) : B ≤ i := by
  rcases k with rfl | ⟨q, h1, rfl⟩
  · exact hB
  · exact (World.ownsRow.lt h.own q.block (by subst h1; rfl)).1
theorem RSt.ge (h : RSt w B g2 s2 l b capb c capc) (hB : B ≤ g2) {i : Nat} (k : RO g2 b c i) : B ≤ i := by
  rcases k with rfl | ⟨q, h1, rfl⟩ | ⟨q, h1, rfl⟩
  · exact hB
  · exact (World.ownsRow.lt h.o1 q.block (by subst h1; rfl)).1
  · exact (World.ownsRow.lt h.o2 q.block (by subst h1; rfl)).1

theorem Two.blw (h : Two w B g s a cap g2 s2 l b capb c capc) (k : Blw w w') : Two w' B g s a cap g2 s2 l b capb c capc :=
  ⟨h.p.kept (O := fun _ => False) (KeptO.of_blw k) (fun _ _ => id), h.r.kept (O := fun _ => False) (KeptO.of_blw k) (fun _ _ => id), h.d⟩

/-- The program's watch is fed. -/
theorem Two.fed {s3 : WS} {ch er : Int} {e : Ending} (h : Two w B g s a cap g2 s2 l b capb c capc) (k : FeedOut w B g a (s3, ch, er) e w') :
    e = .returned (.tuple #[.int .u8 ch, .int .i64 er]) ∧ ∃ (a' : Option Addr) (cap' : Nat), Two w' B g s3 a' cap' g2 s2 l b capb c capc ∧ KeptO (PO g a) w w' := by
  obtain ⟨he, a', cap', k1, k2, k3, k4, k5⟩ := k.at
  have k6 : KeptO (PO g a) w w' := k5
  refine ⟨he, a', cap', ⟨⟨k1, k2, k3⟩, h.r.kept k6 (fun i hi ho => h.d i ho hi), ?_⟩, k6⟩
  intro i hi hr
  have hlt := h.r.lt hr
  rcases hi with rfl | ⟨q, h1, rfl⟩
  · exact h.d _ (.inl rfl) hr
  · rcases k4 with e | ⟨q2, h2, h3⟩
    · exact h.d _ (.inr ⟨q, by rw [← e]; exact h1, rfl⟩) hr
    · rw [h1] at h2; cases h2; omega

/-- The reference's watch is fed. -/
theorem Two.rfed {s3 : WS} {ch er : Int} {e : Ending} (h : Two w B g s a cap g2 s2 l b capb c capc) (k : RFeed w B g2 l b c (s3, ch, er) e w') :
    e = .returned (.tuple #[.int .u8 ch, .int .i64 er]) ∧ ∃ (l' : List (Int × Nat)) (b' : Option Addr) (capb' : Nat) (c' : Option Addr) (capc' : Nat), Two w' B g s a cap g2 s3 l' b' capb' c' capc' ∧ l'.length ≤ l.length + 1 ∧ KeptO (RO g2 b c) w w' := by
  obtain ⟨he, l', b', capb', c', capc', k1, k2, k3, k4⟩ := k
  refine ⟨he, l', b', capb', c', capc', ⟨h.p.kept k4 h.d, k1, ?_⟩, k2, k4⟩
  intro i hi hr
  have hlt := h.p.lt hi
  rcases k3 i hr with h1 | h1
  · exact h.d i hi h1
  · omega
end
end Go.Proofs.Ytigkfdoeneemeaa
