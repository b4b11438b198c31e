/- The number that a slice's words stand for, read out of a world: for measures. -/
import Derived.Test.YtigkfdoeneemeaaNat3
namespace Go.Proofs.Ytigkfdoeneemeaa
open Go.RowKit

def NumV (w : World) (v : Value) (n : Nat) : Prop := ∃ (a : Option Addr) (c : Nat), v = .slice a (W.toW n).length c ∧ Arr w a (u32s (W.toW n))
theorem u32s_inj {l m : List Nat} (h : u32s l = u32s m) : l = m := by
  induction l generalizing m with
  | nil => cases m with
    | nil => rfl
    | cons y m => simp at h
  | cons x l ih => cases m with
    | nil => simp at h
    | cons y m =>
      simp only [List.map_cons, List.cons.injEq] at h
      obtain ⟨h1, h2⟩ := h
      have e : x = y := by injection h1 with _ h1; omega
      rw [e, ih h2]
theorem arr_uniq {w : World} {a : Option Addr} {cs ds : List Value} (h : Arr w a cs) (k : Arr w a ds) (hl : cs.length = ds.length) : cs = ds := by
  apply List.ext_getElem? 
  intro i
  rcases Nat.lt_or_ge i cs.length with hi | hi
  · rcases h with h | ⟨b, o, e, hb, hc⟩
    · subst h; simp at hi
    · rcases k with k | ⟨b', o', e', hb', hc'⟩
      · exact absurd hi (by rw [hl, k]; simp)
      · rw [e] at e'; cases e'
        exact (hc i hi).symm.trans (hc' i (by omega))
  · rw [List.getElem?_eq_none hi, List.getElem?_eq_none (by omega)]
theorem NumV.uniq {w : World} {v : Value} {n m : Nat} (h : NumV w v n) (k : NumV w v m) : n = m := by
  obtain ⟨a, c, rfl, h1⟩ := h
  obtain ⟨a', c', e, h2⟩ := k
  injection e with e1 e2 e3
  subst e1
  have := u32s_inj (arr_uniq h1 h2 (by simpa using e2))
  rw [← W.val_toW n, this, W.val_toW]
open Classical in
noncomputable def readN (w : World) (v : Value) : Nat := if h : ∃ n, NumV w v n then h.choose else 0
theorem readN_is {w : World} {v : Value} {n : Nat} (h : NumV w v n) : readN w v = n := by
  unfold readN
  have hh : ∃ n, NumV w v n := ⟨n, h⟩
  rw [dif_pos hh]
  exact hh.choose_spec.uniq h
end Go.Proofs.Ytigkfdoeneemeaa
