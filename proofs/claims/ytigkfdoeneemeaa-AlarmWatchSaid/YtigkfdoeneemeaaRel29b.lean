/- What holds of a watch through all samples; all samples one behind the other. -/
import Derived.Test.YtigkfdoeneemeaaRel29
namespace Go.Proofs.Ytigkfdoeneemeaa
open Go.RowKit

theorem Rel.hb {s : WS} {l : List (Int × Nat)} (r : Rel s l) (h : s.told = true) : 0 ≤ s.heard ∧ s.heard ≤ 1048576 := by
  have hne : l ≠ [] := by
    intro e; have := r.told; rw [e, h] at this; simp at this
  rw [r.heard hne]
  unfold sinceR
  cases he : sinceO l with
  | some y =>
    obtain ⟨p, hp, rfl⟩ := sinceO_mem l y he
    have := r.tick p hp
    simp; omega
  | none =>
    cases l with
    | nil => exact absurd rfl hne
    | cons p l =>
      have := r.tick p (by simp)
      simp; omega

theorem Rel.feed {s : WS} {l : List (Int × Nat)} (r : Rel s l) (t : Int) (x : Nat) : ∃ m, Rel (feedS s t x).1 m := by
  unfold feedS
  by_cases h1 : t < 0 ∨ 1048576 < t ∨ (s.told = true ∧ t ≤ s.last)
  · rw [if_pos h1]; exact ⟨l, r⟩
  · rw [if_neg h1]
    by_cases h2 : 4096 ≤ s.al.length
    · rw [if_pos h2]; exact ⟨l, r⟩
    · rw [if_neg h2]
      refine ⟨_, r.step (by omega) (by omega) (fun hne => ?_)⟩
      have ht : s.told = true := by rw [r.told]; simp [hne]
      have : ¬ t ≤ s.last := fun k => h1 (.inr (.inr ⟨ht, k⟩))
      omega

/-- What holds of a watch. -/
structure PInv (s : WS) : Prop where
  rel : ∃ m, Rel s m
  len : s.al.length ≤ 4096
theorem PInv.new (x y : Nat) : PInv (newS x y) := ⟨⟨_, Rel.new x y⟩, by simp [newS]⟩
theorem PInv.feed {s : WS} (p : PInv s) (t : Int) (x : Nat) : PInv (feedS s t x).1 := by
  obtain ⟨⟨m, r⟩, hl⟩ := p
  refine ⟨r.feed t x, ?_⟩
  unfold feedS
  by_cases h1 : t < 0 ∨ 1048576 < t ∨ (s.told = true ∧ t ≤ s.last)
  · rw [if_pos h1]; exact hl
  · rw [if_neg h1]
    by_cases h2 : 4096 ≤ s.al.length
    · rw [if_pos h2]; exact hl
    · rw [if_neg h2]
      show (if _ = 0 then (takeS s t).al else (takeS s t).al ++ [_]).length ≤ 4096
      split
      · exact hl
      · show (s.al ++ [_]).length ≤ 4096
        simp; omega
theorem PInv.hb {s : WS} (p : PInv s) (h : s.told = true) : 0 ≤ s.heard ∧ s.heard ≤ 1048576 := by
  obtain ⟨⟨m, r⟩, -⟩ := p
  exact r.hb h

def runS : List (Int × Nat) → WS → Nat → WS × Int × Int
  | [], s, _ => (s, 0, 0)
  | p :: l, s, i => if (feedS s p.1 p.2).2.2 = 0 then runS l (feedS s p.1 p.2).1 (i + 1) else (s, (feedS s p.1 p.2).2.2, i)
def allV (level ease : Nat) (l : List (Int × Nat)) : List (Int × Int) × Int × Int :=
  if (Fl.isFin level && Fl.isFin ease) = false then ([], 8, -1)
  else if (FloatKind.f64.format.order ease level == some .gt) = true then ([], 2, -1)
  else if (runS l (newS level ease) 0).2.1 = 0 then ((runS l (newS level ease) 0).1.al, 0, 0) else ([], (runS l (newS level ease) 0).2.1, (runS l (newS level ease) 0).2.2)

theorem drop_at {α : Type} {l : List α} {k : Nat} {x : α} (h : l[k]? = some x) : l.drop k = x :: l.drop (k + 1) := by
  obtain ⟨hk, rfl⟩ := List.getElem?_eq_some_iff.1 h
  exact List.drop_eq_getElem_cons hk
theorem runS_on {l : List (Int × Nat)} {k : Nat} {t : Int} {x : Nat} {s s2 : WS} {c : Int} {R : WS × Int × Int} (h : l[k]? = some (t, x)) (hr : R = runS (l.drop k) s k) (hf : feedS s t x = (s2, c, 0)) : R = runS (l.drop (k + 1)) s2 (k + 1) := by
  rw [hr, drop_at h, runS, hf, if_pos rfl]
theorem runS_err {l : List (Int × Nat)} {k : Nat} {t : Int} {x : Nat} {s s2 : WS} {c er : Int} {R : WS × Int × Int} (h : l[k]? = some (t, x)) (hr : R = runS (l.drop k) s k) (hf : feedS s t x = (s2, c, er)) (he : ¬ er = 0) : R = (s, er, (k : Int)) := by
  rw [hr, drop_at h, runS, hf, if_neg he]
theorem runS_end {l : List (Int × Nat)} {k : Nat} {s : WS} {R : WS × Int × Int} (hk : k = l.length) (hr : R = runS (l.drop k) s k) : R = (s, 0, 0) := by
  rw [hr, hk, List.drop_length, runS]
theorem runS_inv (l : List (Int × Nat)) : ∀ (s : WS) (i : Nat), PInv s → PInv (runS l s i).1 := by
  induction l with
  | nil => intro s i h; exact h
  | cons p l ih =>
    intro s i h
    rw [runS]
    split
    · exact ih _ _ (h.feed p.1 p.2)
    · exact h
theorem allV_len (level ease : Nat) (l : List (Int × Nat)) : (allV level ease l).1.length ≤ 4096 := by
  unfold allV
  split
  · simp
  · split
    · simp
    · split
      · exact (runS_inv l _ 0 (PInv.new level ease)).len
      · simp
theorem allV_bad {level ease : Nat} {l : List (Int × Nat)} (h : (Fl.isFin level && Fl.isFin ease) = false) : allV level ease l = ([], 8, -1) := by unfold allV; rw [if_pos h]
theorem allV_arg {level ease : Nat} {l : List (Int × Nat)} (h : Fl.isFin level = true) (k : Fl.isFin ease = true) (hg : (FloatKind.f64.format.order ease level == some .gt) = true) : allV level ease l = ([], 2, -1) := by
  unfold allV; rw [h, k, if_neg (by decide), if_pos hg]
theorem allV_run {level ease : Nat} {l : List (Int × Nat)} (h : Fl.isFin level = true) (k : Fl.isFin ease = true) (hg : (FloatKind.f64.format.order ease level == some .gt) = false) {s : WS} {er at_ : Int} (hr : runS l (newS level ease) 0 = (s, er, at_)) :
    allV level ease l = if er = 0 then (s.al, 0, 0) else ([], er, at_) := by
  unfold allV; rw [h, k, if_neg (by decide), if_neg (by rw [hg]; decide), hr]

def AllOut (w : World) (v : List (Int × Int) × Int × Int) (e : Ending) (w' : World) : Prop :=
  ∃ (a : Option Addr) (c : Nat), e = .returned (.tuple #[.slice a v.1.length c, .agg #[.int .i64 v.2.1, .int .i64 v.2.2]]) ∧ Blw w w' ∧ w'.ownsRow w.heap.size 68 2 (.slice a v.1.length c) v.1.length (alCells v.1)
end Go.Proofs.Ytigkfdoeneemeaa
