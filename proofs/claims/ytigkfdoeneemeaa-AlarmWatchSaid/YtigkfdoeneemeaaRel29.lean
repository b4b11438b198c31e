/- The two watches, of the program and of the reference, in plain Lean: what the one keeps is what the other reckons from all that it was told. -/
import Derived.Test.YtigkfdoeneemeaaAlarm
namespace Go.Proofs.Ytigkfdoeneemeaa
open Go.RowKit

/-- The tick of the last sample that is one. -/
def sinceO (l : List (Int × Nat)) : Option Int := l.foldl (fun a p => if Fl.isFin p.2 then some p.1 else a) none
def sinceR (l : List (Int × Nat)) : Int := (sinceO l).getD ((l.head?.map (·.1)).getD 0)
def lastF (l : List (Int × Nat)) : Int := (sinceO l).getD (-1)
def hushR (l : List (Int × Nat)) (al : List (Int × Int)) : Bool := al.any fun p => p.2 == 3 && decide (lastF l < p.1)

theorem sinceO_snoc (l : List (Int × Nat)) (p : Int × Nat) : sinceO (l ++ [p]) = if Fl.isFin p.2 then some p.1 else sinceO l := by simp [sinceO, List.foldl_append]
theorem snoc_ind {α : Type} {P : List α → Prop} (h0 : P []) (h1 : ∀ l a, P l → P (l ++ [a])) (l : List α) : P l := by
  have : ∀ m : List α, P m.reverse := by
    intro m; induction m with
    | nil => exact h0
    | cons a m ih => rw [List.reverse_cons]; exact h1 _ _ ih
  simpa using this l.reverse
theorem sinceO_mem (l : List (Int × Nat)) : ∀ x, sinceO l = some x → ∃ p ∈ l, p.1 = x := by
  refine snoc_ind (P := fun l => ∀ x, sinceO l = some x → ∃ p ∈ l, p.1 = x) ?_ ?_ l
  · intro x h; simp [sinceO] at h
  · intro l p ih x h
    rw [sinceO_snoc] at h
    cases hf : Fl.isFin p.2
    · rw [hf] at h; simp only [Bool.false_eq_true, if_false] at h
      obtain ⟨q, hq, e⟩ := ih x h
      exact ⟨q, List.mem_append_left _ hq, e⟩
    · rw [hf] at h; simp only [if_true] at h
      exact ⟨p, by simp, by simpa using h⟩

structure Rel (s : WS) (l : List (Int × Nat)) : Prop where
  told : s.told = !l.isEmpty
  last : ∀ p, l.getLast? = some p → s.last = p.1
  tick : ∀ p ∈ l, 0 ≤ p.1 ∧ p.1 ≤ s.last ∧ s.last ≤ 1048576
  al : ∀ p ∈ s.al, l ≠ [] ∧ p.1 ≤ s.last
  heard : l ≠ [] → s.heard = sinceR l
  silent : s.silent = hushR l s.al

theorem Rel.new (x y : Nat) : Rel (newS x y) [] :=
  ⟨rfl, (fun p h => by simp at h), (fun p h => by simp at h), (fun p h => by simp [newS] at h), (fun h => absurd rfl h), rfl⟩

theorem Rel.since {s : WS} {l : List (Int × Nat)} (r : Rel s l) (t : Int) (h : Nat) (hf : Fl.isFin h = false) : sinceR (l ++ [(t, h)]) = (takeS s t).heard := by
  unfold sinceR
  rw [sinceO_snoc, hf]
  simp only [Bool.false_eq_true, if_false, takeS]
  have ht := r.told
  cases l with
  | nil => simp at ht; simp [ht, sinceO]
  | cons a l =>
    simp at ht
    rw [ht, if_pos rfl, r.heard (by simp)]
    simp [sinceR]

theorem Rel.hush {s : WS} {l : List (Int × Nat)} (r : Rel s l) (t : Int) (h : Nat) (hf : Fl.isFin h = false) : hushR (l ++ [(t, h)]) s.al = (takeS s t).silent := by
  have e : lastF (l ++ [(t, h)]) = lastF l := by
    unfold lastF; rw [sinceO_snoc, hf]; simp
  show hushR (l ++ [(t, h)]) s.al = s.silent
  rw [r.silent]
  unfold hushR; rw [e]

theorem Rel.below {s : WS} {l : List (Int × Nat)} (r : Rel s l) {t : Int} (h0 : 0 ≤ t) (h1 : l ≠ [] → s.last < t) : lastF l < t := by
  unfold lastF
  cases he : sinceO l with
  | none => simp; omega
  | some x =>
    obtain ⟨p, hp, rfl⟩ := sinceO_mem l x he
    have := (r.tick p hp).2.1
    have := h1 (List.ne_nil_of_mem hp)
    simp; omega

theorem Rel.step {s : WS} {l : List (Int × Nat)} (r : Rel s l) {t : Int} {h : Nat} (h0 : 0 ≤ t) (h1 : t ≤ 1048576) (h2 : l ≠ [] → s.last < t) :
    Rel (doneS (takeS s t) t h (callS (takeS s t) t h)) (l ++ [(t, h)]) := by
  have hs := r.since t h
  have hh := r.hush t h
  have hb := r.below h0 h2
  have hc := callS_cases (takeS s t) t h
  generalize callS (takeS s t) t h = c at *
  have hmem : ∀ p ∈ (if c = 0 then s.al else s.al ++ [(t, c)]), p.1 ≤ t := by
    intro p hp
    have hp' : p ∈ s.al ∨ p = (t, c) := by
      by_cases h3 : c = 0
      · rw [if_pos h3] at hp; exact .inl hp
      · rw [if_neg h3] at hp; simpa using hp
    rcases hp' with hp | rfl
    · obtain ⟨h4, h5⟩ := r.al p hp
      have := h2 h4
      omega
    · exact Int.le_refl _
  refine ⟨?_, ?_, ?_, ?_, ?_, ?_⟩
  · simp [doneS, takeS]
  · intro p hp
    simp at hp
    rw [← hp]; rfl
  · intro p hp
    show 0 ≤ p.1 ∧ p.1 ≤ t ∧ t ≤ 1048576
    simp only [List.mem_append, List.mem_singleton] at hp
    rcases hp with hp | rfl
    · have h3 := r.tick p hp
      have := h2 (List.ne_nil_of_mem hp)
      exact ⟨h3.1, by omega, h1⟩
    · exact ⟨h0, Int.le_refl _, h1⟩
  · intro p hp
    exact ⟨by simp, hmem p hp⟩
  · intro _
    show (if Fl.isFin h then t else (takeS s t).heard) = _
    cases hf : Fl.isFin h
    · simp only [Bool.false_eq_true, if_false]; exact (hs hf).symm
    · simp [sinceR, sinceO_snoc, hf]
  · show (if Fl.isFin h then false else if c = 3 then true else (takeS s t).silent) = hushR (l ++ [(t, h)]) (if c = 0 then s.al else s.al ++ [(t, c)])
    cases hf : Fl.isFin h
    · have e : lastF (l ++ [(t, h)]) = lastF l := by
        unfold lastF; rw [sinceO_snoc, hf]; simp
      have hh := hh hf
      rcases hc with ⟨hf', -⟩ | ⟨-, rfl | rfl⟩
      · rw [hf] at hf'; cases hf'
      · simp only [Bool.false_eq_true, if_false, if_true]
        exact hh.symm
      · simp only [Bool.false_eq_true, if_false, if_true]
        rw [if_neg (by decide)]
        unfold hushR
        rw [e, List.any_append]
        simp [hb]
    · have e : lastF (l ++ [(t, h)]) = t := by
        unfold lastF; rw [sinceO_snoc, hf]; simp
      simp only [if_true]
      unfold hushR
      rw [e]
      symm
      rw [List.any_eq_false]
      intro p hp
      have := hmem p hp
      simp; omega
end Go.Proofs.Ytigkfdoeneemeaa
