/- The walk of water.copied. -/
import Derived.Test.YtigkfdoeneemeaaWat1
import Derived.Test.YtigkfdoeneemeaaRat4
import Derived.Test.YtigkfdoeneemeaaStep
namespace Go.Proofs.Ytigkfdoeneemeaa
open Go.RowKit

theorem own_past {W1 W9 w2 : World} {B n size : Nat} {e : TypeId} {v : Value} {cs : List Value} {g : Option Nat} (h : W1.ownsRow B e size v n cs) (k : Blw W1 W9) (hg : W9.grownBy w2 g) (hne : ∀ i, v.ownBlock = some i → g ≠ some i) : w2.ownsRow B e size v n cs :=
  KeptO.own (O := fun k => g = some k) (KeptO.grown (KeptO.of_blw k) hg (fun _ hk => .inl hk)) h (fun k hk e => hne k hk e)

set_option maxRecDepth 100000 in
set_option maxHeartbeats 8000000 in
theorem waterCopied_any (r : Fr) (a : Option Addr) (c : Nat) (b : Option Addr) (d : Nat) (w : World) (h : FrA w r a c b d) (hr : r.Ok) :
    Calls Try.prog 129 #[frV r a c b d] w (RetFr1 w r) := by
  obtain ⟨rn, rnum, rden⟩ := r
  obtain ⟨W0, hW0⟩ : ∃ W0, W0 = ((w.alloc (.cells #[.bool rn, .slice a rnum.length c, .slice b rden.length d] 88 (0, 0))).alloc (.cells #[.bool false, .slice none 0 0, .slice none 0 0] 88 (0, 0))) := ⟨_, rfl⟩
  have hb0 : Blw w W0 := by rw [hW0]; exact (by repeat (first | exact Blw.refl _ | apply Blw.ext | apply Blw.alloc | apply Blw.drewN | apply Blw.drew | refine Blw.setCell ?_ _ _ (by simp)))
  have hs0 : W0.heap.size = w.heap.size + 2 := by rw [hW0]; simp
  have hR0 : W0.heap[w.heap.size + 1]? = some (.cells #[.bool false, .slice none 0 0, .slice none 0 0] 88 (0, 0)) := by
    have := heap_alloc_new (w.alloc (.cells #[.bool rn, .slice a rnum.length c, .slice b rden.length d] 88 (0, 0))) (.cells #[.bool false, .slice none 0 0, .slice none 0 0] 88 (0, 0))
    rw [show (w.alloc (.cells #[.bool rn, .slice a rnum.length c, .slice b rden.length d] 88 (0, 0))).heap.size = w.heap.size + 1 by simp] at this
    rw [hW0]; exact this
  have hB0 : W0.heap[w.heap.size]? = some (.cells #[.bool rn, .slice a rnum.length c, .slice b rden.length d] 88 (0, 0)) := by rw [hW0]; exact at_alloc _ (heap_alloc_new _ _)
  have hA := h.an.blw hb0
  have hD := h.ad.blw hb0
  have hl1 : (u32s rnum).length = rnum.length * 1 := by simp
  have hl2 : (u32s rden).length = rden.length * 1 := by simp
  have ln := hr.ln
  have ld := hr.ld
  have na := fun e => (h.na e).2
  have nb := fun e => (h.nb e).2
  simp only at ln ld na nb hA hD
  clear h hr
  go_enter Try.func129, Try.ntmps129
  go_wp2_with fail
  have hS0 : w.heap.size + 1 < W0.heap.size ∧ Blw w W0 ∧ W0.cell? ⟨w.heap.size, 0, none⟩ = some (.bool rn) ∧ W0.cell? ⟨w.heap.size, 1, none⟩ = some (.slice a rnum.length c) ∧ W0.cell? ⟨w.heap.size, 2, none⟩ = some (.slice b rden.length d) :=
    ⟨by omega, hb0, (cell_of_row W0 _ 0 _ _ _ hB0).trans rfl, (cell_of_row W0 _ 1 _ _ _ hB0).trans rfl, (cell_of_row W0 _ 2 _ _ _ hB0).trans rfl⟩
  have KS : ∀ W W' : World, (w.heap.size + 1 < W.heap.size ∧ Blw w W ∧ W.cell? ⟨w.heap.size, 0, none⟩ = some (.bool rn) ∧ W.cell? ⟨w.heap.size, 1, none⟩ = some (.slice a rnum.length c) ∧ W.cell? ⟨w.heap.size, 2, none⟩ = some (.slice b rden.length d)) → Blw W W' →
      (w.heap.size + 1 < W'.heap.size ∧ Blw w W' ∧ W'.cell? ⟨w.heap.size, 0, none⟩ = some (.bool rn) ∧ W'.cell? ⟨w.heap.size, 1, none⟩ = some (.slice a rnum.length c) ∧ W'.cell? ⟨w.heap.size, 2, none⟩ = some (.slice b rden.length d)) := by
    rintro W W' ⟨h1, h2, h3, h4, h5⟩ hb
    exact ⟨Nat.lt_of_lt_of_le h1 hb.size, h2.trans hb, (Below.cell hb (by show w.heap.size < _; omega)).trans h3, (Below.cell hb (by show w.heap.size < _; omega)).trans h4, (Below.cell hb (by show w.heap.size < _; omega)).trans h5⟩
  have KR : ∀ W W' : World, W.heap[w.heap.size + 1]? = some (.cells #[.bool false, .slice none 0 0, .slice none 0 0] 88 (0, 0)) → Blw W W' → W'.heap[w.heap.size + 1]? = some (.cells #[.bool false, .slice none 0 0, .slice none 0 0] 88 (0, 0)) :=
    fun W W' hF hb => (KeptO.of_blw (O := fun _ => False) hb).heap hF id
  have RR : ∀ W : World, W.heap[w.heap.size + 1]? = some (.cells #[.bool false, .slice none 0 0, .slice none 0 0] 88 (0, 0)) → (∀ i, W.frozen? ⟨w.heap.size + 1, i, none⟩ = false) ∧ W.cell? ⟨w.heap.size + 1, 0, none⟩ = some (.bool false) ∧ W.cell? ⟨w.heap.size + 1, 1, none⟩ = some (.slice none 0 0) ∧ W.cell? ⟨w.heap.size + 1, 2, none⟩ = some (.slice none 0 0) :=
    fun W hF => ⟨fun i => frozen_of_row W _ i _ _ hF, (cell_of_row W _ 0 _ _ _ hF).trans rfl, (cell_of_row W _ 1 _ _ _ hF).trans rfl, (cell_of_row W _ 2 _ _ _ hF).trans rfl⟩
  have HKS := Lib.hid KS
  have HKR := Lib.hid KR
  have HRR := Lib.hid RR
  clear KS KR RR
  subst hW0
  have hSd : w.heap.size + 1 < (((w.alloc (.cells #[.bool rn, .slice a rnum.length c, .slice b rden.length d] 88 (0, 0))).alloc (.cells #[.bool false, .slice none 0 0, .slice none 0 0] 88 (0, 0)))).drew.heap.size ∧ Blw w (((w.alloc (.cells #[.bool rn, .slice a rnum.length c, .slice b rden.length d] 88 (0, 0))).alloc (.cells #[.bool false, .slice none 0 0, .slice none 0 0] 88 (0, 0)))).drew ∧ (((w.alloc (.cells #[.bool rn, .slice a rnum.length c, .slice b rden.length d] 88 (0, 0))).alloc (.cells #[.bool false, .slice none 0 0, .slice none 0 0] 88 (0, 0)))).drew.cell? ⟨w.heap.size, 0, none⟩ = some (.bool rn) ∧ (((w.alloc (.cells #[.bool rn, .slice a rnum.length c, .slice b rden.length d] 88 (0, 0))).alloc (.cells #[.bool false, .slice none 0 0, .slice none 0 0] 88 (0, 0)))).drew.cell? ⟨w.heap.size, 1, none⟩ = some (.slice a rnum.length c) ∧ (((w.alloc (.cells #[.bool rn, .slice a rnum.length c, .slice b rden.length d] 88 (0, 0))).alloc (.cells #[.bool false, .slice none 0 0, .slice none 0 0] 88 (0, 0)))).drew.cell? ⟨w.heap.size, 2, none⟩ = some (.slice b rden.length d) := HKS.out _ _ hS0 ((Blw.refl _).drew)
  go_region_held3 (fun W => w.heap.size + 1 < W.heap.size ∧ Blw w W ∧ W.cell? ⟨w.heap.size, 0, none⟩ = some (.bool rn) ∧ W.cell? ⟨w.heap.size, 1, none⟩ = some (.slice a rnum.length c) ∧ W.cell? ⟨w.heap.size, 2, none⟩ = some (.slice b rden.length d)) (first | assumption | (exact HKS.out _ _ hS0 (((Blw.refl _).alloc _).drew)) | (exact HKS.out _ _ hS0 ((((Blw.refl _).alloc _).alloc _).drew)) | (exact HKS.out _ _ (by assumption) ((Blw.refl _).alloc _)) | (refine ⟨?_, blw_three (Blw.trans hb0 (by assumption)) (Nat.le_succ _) _ _ _, ?_, ?_, ?_⟩ <;> go_keep)) (first
    | (refine step_app ((w.alloc (.cells #[.bool rn, .slice a rnum.length c, .slice b rden.length d] 88 (0, 0))).alloc (.cells #[.bool false, .slice none 0 0, .slice none 0 0] 88 (0, 0))) _ (by rfl) _ _ 86 (by rfl) sl_words ?_ _ 0 [] (by rfl) (ownsRow_empty ?_ rfl ?_) a rnum.length c (u32s rnum) (by rfl) na (hA.blw ?_) hl1 (u32s_one _) (by unfold maxLen; omega) (by omega) ?_
       · (first | exact ((Blw.refl _).alloc _).drew | exact (((Blw.refl _).alloc _).alloc _).drew | exact Blw.alloc (by assumption) _ | assumption)
       · (first | (with_reducible refine at_drew (heap_alloc_at ?_); simp; done) | (with_reducible refine at_drew (at_alloc _ (heap_alloc_at ?_)); simp; done) | (with_reducible exact heap_alloc_at rfl) | (with_reducible refine heap_alloc_at ?_; simp; done) | (refine HD2.out _ ?_ _ ?_ <;> first | (with_reducible refine at_drew (heap_alloc_at ?_); simp; done) | (with_reducible refine at_drew (at_alloc _ (heap_alloc_at ?_)); simp; done) | (simp [Value.ownBlock]; done)))
       · (first | (simp; done) | (have hq := Blw.size b2; simp at hq; first | omega | (simp; omega)))
       · (first | exact ((Blw.refl _).alloc _).drew | exact (((Blw.refl _).alloc _).alloc _).drew | exact Blw.alloc (by assumption) _ | assumption)
       intro v1 w1 o1 b1 g1 t1
       rw [Nat.zero_add, List.nil_append] at o1
       obtain ⟨p1, q1, rfl, -, -, -, -, -⟩ := own_arr o1
       have hS1 := HKS.out _ _ hS0 b1
       have hRR1 := HRR.out _ (HKR.out _ _ hR0 b1)
       have HD1 := Lib.hid (fun (k : Nat) (hne : some k ≠ _) (x : Obj) (hk : _ = some x) => at_grown g1 hne hk))
    | (refine step_app ((w.alloc (.cells #[.bool rn, .slice a rnum.length c, .slice b rden.length d] 88 (0, 0))).alloc (.cells #[.bool false, .slice none 0 0, .slice none 0 0] 88 (0, 0))) _ (by rfl) _ _ 86 (by rfl) sl_words ?_ _ 0 [] (by rfl) (ownsRow_empty ?_ rfl ?_) b rden.length d (u32s rden) (by rfl) nb (hD.blw ?_) hl2 (u32s_one _) (by unfold maxLen; omega) (by omega) ?_
       · (first | exact ((Blw.refl _).alloc _).drew | exact (((Blw.refl _).alloc _).alloc _).drew | exact Blw.alloc (by assumption) _ | assumption)
       · (first | (with_reducible refine at_drew (heap_alloc_at ?_); simp; done) | (with_reducible refine at_drew (at_alloc _ (heap_alloc_at ?_)); simp; done) | (with_reducible exact heap_alloc_at rfl) | (with_reducible refine heap_alloc_at ?_; simp; done) | (refine HD1.out _ ?_ _ ?_ <;> first | (with_reducible refine at_drew (heap_alloc_at ?_); simp; done) | (with_reducible refine at_drew (at_alloc _ (heap_alloc_at ?_)); simp; done) | (simp [Value.ownBlock]; done)))
       · (first | (simp; done) | (have hq := Blw.size b1; simp at hq; first | omega | (simp; omega)))
       · (first | exact ((Blw.refl _).alloc _).drew | exact (((Blw.refl _).alloc _).alloc _).drew | exact Blw.alloc (by assumption) _ | assumption)
       intro v2 w2 o2 b2 g2 t2
       rw [Nat.zero_add, List.nil_append] at o2
       obtain ⟨p2, q2, rfl, -, -, -, -, -⟩ := own_arr o2
       have hS2 := HKS.out _ _ hS0 b2
       have hRR2 := HRR.out _ (HKR.out _ _ hR0 b2)
       have HD2 := Lib.hid (fun (k : Nat) (hne : some k ≠ _) (x : Obj) (hk : _ = some x) => at_grown g2 hne hk)))
  all_goals
    have hF2 := HKR.out _ _ hR0 b2
    obtain ⟨hfz, e0, e1, e2, r0, r1, r2⟩ := three hF2 (.bool rn) (.slice p1 rnum.length q1) (.slice p2 rden.length q2)
    have o12 : w2.ownsRow ((w.alloc (.cells #[.bool rn, .slice a rnum.length c, .slice b rden.length d] 88 (0, 0))).alloc (.cells #[.bool false, .slice none 0 0, .slice none 0 0] 88 (0, 0))).heap.size 135 1 (.slice p1 rnum.length q1) rnum.length (u32s rnum) := by
      first
      | (refine own_past o1 ((Blw.refl w1).alloc _) g2 ?_
         intro i hi e
         have h1 := World.ownsRow.lt o1 i hi
         simp [Value.ownBlock] at e
         omega)
      | (refine own_past o1 (Blw.refl w1) g2 ?_
         intro i hi e
         rw [hi] at t1
         simp [Value.ownBlock] at e t1
         omega)
    have hs3 : ((w.alloc (.cells #[.bool rn, .slice a rnum.length c, .slice b rden.length d] 88 (0, 0))).alloc (.cells #[.bool false, .slice none 0 0, .slice none 0 0] 88 (0, 0))).heap.size = w.heap.size + 2 := by simp
    rw [hs3] at o12 o2
    have hbw : Blw w w2 := Blw.trans hb0 b2
    clear hF2 hS1 hS2 hRR1 hRR2 HD1 HD2 t1 t2 g1 g2 b1 b2 o1 hS0 hSd HKS HKR HRR hR0 hB0 hA hD
    go_wp2_with fail
    exact bodyPost_ret (v := .agg #[.bool rn, .slice p1 rnum.length q1, .slice p2 rden.length q2]) (by simp [results, Try.results129, go_sem, r0, r1, r2]) rfl ⟨p1, q1, p2, q2, rfl, blw_three hbw (Nat.le_succ _) _ _ _, own_three o12 (Nat.lt_succ_self _) _ _ _ |> (ownsRow_mono · (by omega)), own_three o2 (Nat.lt_succ_self _) _ _ _ |> (ownsRow_mono · (by omega))⟩
end Go.Proofs.Ytigkfdoeneemeaa
