/- Several texts, joined. -/
import Derived.Test.YtigkfdoeneemeaaJ0
import Derived.Deep.AppendLies
import Derived.Deep.RegionLaw
import Derived.WalkMore
import Derived.Deep.LoopGhost
import Derived.WalkKit
import Derived.WalkLawsBesides
import Derived.Deep.Draws
import Derived.Test.YtigkfdoeneemeaaProg
import Derived.Laws.Externs
import Derived.ProofKit
import Derived.OpenShut
set_option linter.unusedVariables false
set_option linter.unusedSimpArgs false
/- append as a step of a region that draws its order: onto a slice of the call's own, of anything that can be read (nil too). -/
namespace Go
open Go.RowKit
section
variable {P : Program} {ops : Array Oper} {o : Oper} {a : Act} {K : Act → World → Prop} {Q : Exit → Act → World → Prop} {E : Prop}
theorem step_app (w0 w : World) (hgd : o.guard = none) (s x : Operand) (t : TypeId) (ho : o.op = .call { callee := .builtin .append, args := #[s, x], argTypes := #[t, t] })
    {e : TypeId} {z : Value} {size bytes : Nat} (hT : SlT P t e z size bytes) (hb : Blw w0 w) (v : Value) (n : Nat) (xs : List Value) (hs : a.eval s = v) (hown : w.ownsRow w0.heap.size e size v n xs)
    (ad : Option Addr) (m c : Nat) (news : List Value) (hx : a.eval x = .slice ad m c) (hn : ad = none → c = 0) (hr : Arr w ad news) (hl : news.length = m * size) (h1 : ∀ u ∈ news, u.oneCell' = true)
    (h63 : n + m ≤ maxLen) (hbytes : (n + m) * bytes ≤ 140737488355328)
    (h : ∀ v' w', w'.ownsRow w0.heap.size e size v' (n + m) (xs ++ news) → Blw w0 w' → w.grownBy w' v.ownBlock → (v'.ownBlock = v.ownBlock ∨ v'.ownBlock = some w.heap.size) → K (a.put o.dst v') w') :
    if Region.wanted o (yielded ops a.tmps) = true then Oper.wp P o a w K Q else E := by
  have hw : Region.wanted o (yielded ops a.tmps) = true := by simp [Region.wanted, hgd]
  rw [if_pos hw]
  obtain ⟨i, hi, hz0, hz1, hz2⟩ := info_parts hT.info
  have hpos := hT.pos
  cases ad with
  | none =>
    have hnews : news = [] := by
      rcases hr with h | ⟨b, o, e, _⟩
      · exact h
      · cases e
    have hm : m = 0 := by
      rcases Nat.eq_zero_or_pos m with h | h
      · exact h
      · have := Nat.mul_pos h hpos; rw [hnews] at hl; simp at hl; omega
    subst hnews hm
    have hc := hn rfl
    subst hc
    have hrun := run_append_owned_none (P := P) (w := w) w0.heap.size t o.type e i size hT.under hi v n xs hown
    unfold Oper.wp
    simp [execOp, ho, resolve, invoke, builtin, hs, hx, hrun, Result.andThen]
    exact h v w (by simpa using hown) hb (World.grownBy.refl _ _) (.inl rfl)
  | some ad =>
    have hnews : ∀ j u, news[j]? = some u → w.cell? (ad.add j) = some u := by
      intro j u hj
      rcases hr with h | ⟨b, o, e, hbs, hc⟩
      · subst h; simp at hj
      · cases e
        have hjl : j < news.length := by rw [List.getElem?_eq_some_iff] at hj; exact hj.1
        have := hc j hjl
        rw [hj] at this
        have ea : (⟨b, o, none⟩ : Addr).add j = ⟨b, o + j, none⟩ := by unfold Addr.add; split <;> simp_all
        rw [ea]; exact this
    obtain ⟨v', w', hrun, g1, g2, _, g5⟩ := run_append_own_at (P := P) w w0.heap.size t o.type e i z size bytes hT.under hi hz0 hz1 hz2 hT.cells hpos v n xs hown ad m c news hl hnews h1 h63 hbytes hb.size
    unfold Oper.wp execOp
    simp only [ho, resolve, invoke, builtin, Sem.run_bind, Sem.run_pure, Result.andThen_ok, List.map_toArray, List.map_cons, List.map_nil, hs, hx, hrun]
    exact h v' w' g1 (hb.grown g2 (fun k hk => (World.ownsRow.lt hown k hk).1)) g2 g5
end
/-- The same for a plain region's list. -/
theorem wpList_app2 {P : Program} {ops : Array Oper} {rest : List Oper} {o : Oper} {a : Act} {Q : Exit → Act → World → Prop} (w0 w : World) (hgd : o.guard = none) (s x : Operand) (t : TypeId) (ho : o.op = .call { callee := .builtin .append, args := #[s, x], argTypes := #[t, t] })
    {e : TypeId} {z : Value} {size bytes : Nat} (hT : SlT P t e z size bytes) (hb : Blw w0 w) (v : Value) (n : Nat) (xs : List Value) (hs : a.eval s = v) (hown : w.ownsRow w0.heap.size e size v n xs)
    (ad : Option Addr) (m c : Nat) (news : List Value) (hx : a.eval x = .slice ad m c) (hn : ad = none → c = 0) (hr : Arr w ad news) (hl : news.length = m * size) (h1 : ∀ u ∈ news, u.oneCell' = true)
    (h63 : n + m ≤ maxLen) (hbytes : (n + m) * bytes ≤ 140737488355328)
    (h : ∀ v' w', w'.ownsRow w0.heap.size e size v' (n + m) (xs ++ news) → Blw w0 w' → w.grownBy w' v.ownBlock → (v'.ownBlock = v.ownBlock ∨ v'.ownBlock = some w.heap.size) → wpList P ops Q rest (a.put o.dst v') w') : wpList P ops Q (o :: rest) a w := by
  refine wpList_plain hgd fun K hK => ?_
  have hw : Region.wanted o (yielded ops a.tmps) = true := by simp [Region.wanted, hgd]
  have := step_app (ops := ops) (K := K) (Q := Q) (E := False) w0 w hgd s x t ho hT hb v n xs hs hown ad m c news hx hn hr hl h1 h63 hbytes (fun v' w' a1 a2 a3 a4 => hK _ _ (h v' w' a1 a2 a3 a4))
  rwa [if_pos hw] at this
theorem heap_alloc_at {w : World} {o : Obj} {k : Nat} (h : k = w.heap.size) : (w.alloc o).heap[k]? = some o := by rw [h]; exact heap_alloc_new _ _
theorem Arr.lit_at (w : World) (cs : Array Value) (t : TypeId) (fr : Nat × Nat) {k : Nat} (h : k = w.heap.size) : Arr (w.alloc (.cells cs t fr)) (some ⟨k, 0, none⟩) cs.toList := by rw [h]; exact Arr.lit w cs t fr
/-- A slice of no elements in a block of the call's own. -/
theorem ownsRow_empty {w : World} {B g : Nat} {e : TypeId} {size : Nat} {fr : Nat × Nat} (h : w.heap[g]? = some (.cells #[] e fr)) (hf : fr = (0, 0)) (hB : B ≤ g) : w.ownsRow B e size (.slice (some ⟨g, 0, none⟩) 0 0) 0 [] := by
  subst hf
  exact ⟨by simp, .inr ⟨g, 0, #[], rfl, hB, h, Nat.le_refl _, Nat.zero_le _, by simp, by simp⟩⟩
/-- The world at a place of the walk, named, with what is known of it. -/
theorem name_world {P : Program} {c : Code} {Q : Exit → Act → World → Prop} {a : Act} {w : World} (S : World → Prop) (h : S w) (k : ∀ W, S W → Code.wp P c Q a W) : Code.wp P c Q a w := k w h
/-- A block of six cells, and of three, that lies in a later world. -/
theorem box6 {w W : World} {T : TypeId} {u0 u1 u2 u3 u4 u5 : Value} (h : Blw (w.alloc (.cells #[u0, u1, u2, u3, u4, u5] T)) W) :
    w.heap.size < W.heap.size ∧ W.cell? ⟨w.heap.size, 0, none⟩ = some u0 ∧ W.cell? ⟨w.heap.size, 1, none⟩ = some u1 ∧ W.cell? ⟨w.heap.size, 2, none⟩ = some u2 ∧ W.cell? ⟨w.heap.size, 3, none⟩ = some u3 ∧ W.cell? ⟨w.heap.size, 4, none⟩ = some u4 ∧ W.cell? ⟨w.heap.size, 5, none⟩ = some u5 := by
  have hl : w.heap.size < (w.alloc (.cells #[u0, u1, u2, u3, u4, u5] T)).heap.size := by simp
  have hh : W.heap[w.heap.size]? = some (.cells #[u0, u1, u2, u3, u4, u5] T (0, 0)) := (Below.block h _ hl).trans (heap_alloc_new w _)
  exact ⟨Nat.lt_of_lt_of_le hl h.size, (cell_of_row W _ 0 _ _ _ hh).trans rfl, (cell_of_row W _ 1 _ _ _ hh).trans rfl, (cell_of_row W _ 2 _ _ _ hh).trans rfl, (cell_of_row W _ 3 _ _ _ hh).trans rfl, (cell_of_row W _ 4 _ _ _ hh).trans rfl, (cell_of_row W _ 5 _ _ _ hh).trans rfl⟩
theorem box3 {w W : World} {T : TypeId} {u0 u1 u2 : Value} (h : Blw (w.alloc (.cells #[u0, u1, u2] T)) W) :
    w.heap.size < W.heap.size ∧ W.cell? ⟨w.heap.size, 0, none⟩ = some u0 ∧ W.cell? ⟨w.heap.size, 1, none⟩ = some u1 ∧ W.cell? ⟨w.heap.size, 2, none⟩ = some u2 := by
  have hl : w.heap.size < (w.alloc (.cells #[u0, u1, u2] T)).heap.size := by simp
  have hh : W.heap[w.heap.size]? = some (.cells #[u0, u1, u2] T (0, 0)) := (Below.block h _ hl).trans (heap_alloc_new w _)
  exact ⟨Nat.lt_of_lt_of_le hl h.size, (cell_of_row W _ 0 _ _ _ hh).trans rfl, (cell_of_row W _ 1 _ _ _ hh).trans rfl, (cell_of_row W _ 2 _ _ _ hh).trans rfl⟩
end Go
/- The walk of water.copied. -/
namespace Go.Proofs.Ytigkfdoeneemeaa
open Go.RowKit

theorem own_past {W1 W9 w2 : World} {B n size : Nat} {e : TypeId} {v : Value} {cs : List Value} {g : Option Nat} (h : W1.ownsRow B e size v n cs) (k : Blw W1 W9) (hg : W9.grownBy w2 g) (hne : ∀ i, v.ownBlock = some i → g ≠ some i) : w2.ownsRow B e size v n cs :=
  KeptO.own (O := fun k => g = some k) (KeptO.grown (KeptO.of_blw k) hg (fun _ hk => .inl hk)) h (fun k hk e => hne k hk e)

set_option maxRecDepth 100000 in
set_option maxHeartbeats 8000000 in
theorem waterCopied_any (r : Fr) (a : Option Addr) (c : Nat) (b : Option Addr) (d : Nat) (w : World) (h : FrA w r a c b d) (hr : r.Ok) :
    Calls Try.prog 129 #[frV r a c b d] w (RetFr1 w r) := by
  obtain ⟨rn, rnum, rden⟩ := r
  obtain ⟨W0, hW0⟩ : ∃ W0, W0 = ((w.alloc (.cells #[.bool rn, .slice a rnum.length c, .slice b rden.length d] 88 (0, 0))).alloc (.cells #[.bool false, .slice none 0 0, .slice none 0 0] 88 (0, 0))) := ⟨_, rfl⟩
  have hb0 : Blw w W0 := by rw [hW0]; exact (by repeat (first | exact Blw.refl _ | apply Blw.ext | apply Blw.alloc | apply Blw.drewN | apply Blw.drew | refine Blw.setCell ?_ _ _ (by simp)))
  have hs0 : W0.heap.size = w.heap.size + 2 := by rw [hW0]; simp
  have hR0 : W0.heap[w.heap.size + 1]? = some (.cells #[.bool false, .slice none 0 0, .slice none 0 0] 88 (0, 0)) := by
    have := heap_alloc_new (w.alloc (.cells #[.bool rn, .slice a rnum.length c, .slice b rden.length d] 88 (0, 0))) (.cells #[.bool false, .slice none 0 0, .slice none 0 0] 88 (0, 0))
    rw [show (w.alloc (.cells #[.bool rn, .slice a rnum.length c, .slice b rden.length d] 88 (0, 0))).heap.size = w.heap.size + 1 by simp] at this
    rw [hW0]; exact this
  have hB0 : W0.heap[w.heap.size]? = some (.cells #[.bool rn, .slice a rnum.length c, .slice b rden.length d] 88 (0, 0)) := by rw [hW0]; exact at_alloc _ (heap_alloc_new _ _)
  have hA := h.an.blw hb0
  have hD := h.ad.blw hb0
  have hl1 : (u32s rnum).length = rnum.length * 1 := by simp
  have hl2 : (u32s rden).length = rden.length * 1 := by simp
  have ln := hr.ln
  have ld := hr.ld
  have na := fun e => (h.na e).2
  have nb := fun e => (h.nb e).2
  simp only at ln ld na nb hA hD
  clear h hr
  go_enter Try.func129, Try.ntmps129
  go_wp2_with fail
  have hS0 : w.heap.size + 1 < W0.heap.size ∧ Blw w W0 ∧ W0.cell? ⟨w.heap.size, 0, none⟩ = some (.bool rn) ∧ W0.cell? ⟨w.heap.size, 1, none⟩ = some (.slice a rnum.length c) ∧ W0.cell? ⟨w.heap.size, 2, none⟩ = some (.slice b rden.length d) :=
    ⟨by omega, hb0, (cell_of_row W0 _ 0 _ _ _ hB0).trans rfl, (cell_of_row W0 _ 1 _ _ _ hB0).trans rfl, (cell_of_row W0 _ 2 _ _ _ hB0).trans rfl⟩
  have KS : ∀ W W' : World, (w.heap.size + 1 < W.heap.size ∧ Blw w W ∧ W.cell? ⟨w.heap.size, 0, none⟩ = some (.bool rn) ∧ W.cell? ⟨w.heap.size, 1, none⟩ = some (.slice a rnum.length c) ∧ W.cell? ⟨w.heap.size, 2, none⟩ = some (.slice b rden.length d)) → Blw W W' →
      (w.heap.size + 1 < W'.heap.size ∧ Blw w W' ∧ W'.cell? ⟨w.heap.size, 0, none⟩ = some (.bool rn) ∧ W'.cell? ⟨w.heap.size, 1, none⟩ = some (.slice a rnum.length c) ∧ W'.cell? ⟨w.heap.size, 2, none⟩ = some (.slice b rden.length d)) := by
    rintro W W' ⟨h1, h2, h3, h4, h5⟩ hb
    exact ⟨Nat.lt_of_lt_of_le h1 hb.size, h2.trans hb, (Below.cell hb (by show w.heap.size < _; omega)).trans h3, (Below.cell hb (by show w.heap.size < _; omega)).trans h4, (Below.cell hb (by show w.heap.size < _; omega)).trans h5⟩
  have KR : ∀ W W' : World, W.heap[w.heap.size + 1]? = some (.cells #[.bool false, .slice none 0 0, .slice none 0 0] 88 (0, 0)) → Blw W W' → W'.heap[w.heap.size + 1]? = some (.cells #[.bool false, .slice none 0 0, .slice none 0 0] 88 (0, 0)) :=
    fun W W' hF hb => (KeptO.of_blw (O := fun _ => False) hb).heap hF id
  have RR : ∀ W : World, W.heap[w.heap.size + 1]? = some (.cells #[.bool false, .slice none 0 0, .slice none 0 0] 88 (0, 0)) → (∀ i, W.frozen? ⟨w.heap.size + 1, i, none⟩ = false) ∧ W.cell? ⟨w.heap.size + 1, 0, none⟩ = some (.bool false) ∧ W.cell? ⟨w.heap.size + 1, 1, none⟩ = some (.slice none 0 0) ∧ W.cell? ⟨w.heap.size + 1, 2, none⟩ = some (.slice none 0 0) :=
    fun W hF => ⟨fun i => frozen_of_row W _ i _ _ hF, (cell_of_row W _ 0 _ _ _ hF).trans rfl, (cell_of_row W _ 1 _ _ _ hF).trans rfl, (cell_of_row W _ 2 _ _ _ hF).trans rfl⟩
  have HKS := Lib.hid KS
  have HKR := Lib.hid KR
  have HRR := Lib.hid RR
  clear KS KR RR
  subst hW0
  have hSd : w.heap.size + 1 < (((w.alloc (.cells #[.bool rn, .slice a rnum.length c, .slice b rden.length d] 88 (0, 0))).alloc (.cells #[.bool false, .slice none 0 0, .slice none 0 0] 88 (0, 0)))).drew.heap.size ∧ Blw w (((w.alloc (.cells #[.bool rn, .slice a rnum.length c, .slice b rden.length d] 88 (0, 0))).alloc (.cells #[.bool false, .slice none 0 0, .slice none 0 0] 88 (0, 0)))).drew ∧ (((w.alloc (.cells #[.bool rn, .slice a rnum.length c, .slice b rden.length d] 88 (0, 0))).alloc (.cells #[.bool false, .slice none 0 0, .slice none 0 0] 88 (0, 0)))).drew.cell? ⟨w.heap.size, 0, none⟩ = some (.bool rn) ∧ (((w.alloc (.cells #[.bool rn, .slice a rnum.length c, .slice b rden.length d] 88 (0, 0))).alloc (.cells #[.bool false, .slice none 0 0, .slice none 0 0] 88 (0, 0)))).drew.cell? ⟨w.heap.size, 1, none⟩ = some (.slice a rnum.length c) ∧ (((w.alloc (.cells #[.bool rn, .slice a rnum.length c, .slice b rden.length d] 88 (0, 0))).alloc (.cells #[.bool false, .slice none 0 0, .slice none 0 0] 88 (0, 0)))).drew.cell? ⟨w.heap.size, 2, none⟩ = some (.slice b rden.length d) := HKS.out _ _ hS0 ((Blw.refl _).drew)
  go_region_held3 (fun W => w.heap.size + 1 < W.heap.size ∧ Blw w W ∧ W.cell? ⟨w.heap.size, 0, none⟩ = some (.bool rn) ∧ W.cell? ⟨w.heap.size, 1, none⟩ = some (.slice a rnum.length c) ∧ W.cell? ⟨w.heap.size, 2, none⟩ = some (.slice b rden.length d)) (first | assumption | (exact HKS.out _ _ hS0 (((Blw.refl _).alloc _).drew)) | (exact HKS.out _ _ hS0 ((((Blw.refl _).alloc _).alloc _).drew)) | (exact HKS.out _ _ (by assumption) ((Blw.refl _).alloc _)) | (refine ⟨?_, blw_three (Blw.trans hb0 (by assumption)) (Nat.le_succ _) _ _ _, ?_, ?_, ?_⟩ <;> go_keep)) (first
    | (refine step_app ((w.alloc (.cells #[.bool rn, .slice a rnum.length c, .slice b rden.length d] 88 (0, 0))).alloc (.cells #[.bool false, .slice none 0 0, .slice none 0 0] 88 (0, 0))) _ (by rfl) _ _ 86 (by rfl) sl_words ?_ _ 0 [] (by rfl) (ownsRow_empty ?_ rfl ?_) a rnum.length c (u32s rnum) (by rfl) na (hA.blw ?_) hl1 (u32s_one _) (by unfold maxLen; omega) (by omega) ?_
       · (first | exact ((Blw.refl _).alloc _).drew | exact (((Blw.refl _).alloc _).alloc _).drew | exact Blw.alloc (by assumption) _ | assumption)
       · (first | (with_reducible refine at_drew (heap_alloc_at ?_); simp; done) | (with_reducible refine at_drew (at_alloc _ (heap_alloc_at ?_)); simp; done) | (with_reducible exact heap_alloc_at rfl) | (with_reducible refine heap_alloc_at ?_; simp; done) | (refine HD2.out _ ?_ _ ?_ <;> first | (with_reducible refine at_drew (heap_alloc_at ?_); simp; done) | (with_reducible refine at_drew (at_alloc _ (heap_alloc_at ?_)); simp; done) | (simp [Value.ownBlock]; done)))
       · (first | (simp; done) | (have hq := Blw.size b2; simp at hq; first | omega | (simp; omega)))
       · (first | exact ((Blw.refl _).alloc _).drew | exact (((Blw.refl _).alloc _).alloc _).drew | exact Blw.alloc (by assumption) _ | assumption)
       intro v1 w1 o1 b1 g1 t1
       rw [Nat.zero_add, List.nil_append] at o1
       obtain ⟨p1, q1, rfl, -, -, -, -, -⟩ := own_arr o1
       have hS1 := HKS.out _ _ hS0 b1
       have hRR1 := HRR.out _ (HKR.out _ _ hR0 b1)
       have HD1 := Lib.hid (fun (k : Nat) (hne : some k ≠ _) (x : Obj) (hk : _ = some x) => at_grown g1 hne hk))
    | (refine step_app ((w.alloc (.cells #[.bool rn, .slice a rnum.length c, .slice b rden.length d] 88 (0, 0))).alloc (.cells #[.bool false, .slice none 0 0, .slice none 0 0] 88 (0, 0))) _ (by rfl) _ _ 86 (by rfl) sl_words ?_ _ 0 [] (by rfl) (ownsRow_empty ?_ rfl ?_) b rden.length d (u32s rden) (by rfl) nb (hD.blw ?_) hl2 (u32s_one _) (by unfold maxLen; omega) (by omega) ?_
       · (first | exact ((Blw.refl _).alloc _).drew | exact (((Blw.refl _).alloc _).alloc _).drew | exact Blw.alloc (by assumption) _ | assumption)
       · (first | (with_reducible refine at_drew (heap_alloc_at ?_); simp; done) | (with_reducible refine at_drew (at_alloc _ (heap_alloc_at ?_)); simp; done) | (with_reducible exact heap_alloc_at rfl) | (with_reducible refine heap_alloc_at ?_; simp; done) | (refine HD1.out _ ?_ _ ?_ <;> first | (with_reducible refine at_drew (heap_alloc_at ?_); simp; done) | (with_reducible refine at_drew (at_alloc _ (heap_alloc_at ?_)); simp; done) | (simp [Value.ownBlock]; done)))
       · (first | (simp; done) | (have hq := Blw.size b1; simp at hq; first | omega | (simp; omega)))
       · (first | exact ((Blw.refl _).alloc _).drew | exact (((Blw.refl _).alloc _).alloc _).drew | exact Blw.alloc (by assumption) _ | assumption)
       intro v2 w2 o2 b2 g2 t2
       rw [Nat.zero_add, List.nil_append] at o2
       obtain ⟨p2, q2, rfl, -, -, -, -, -⟩ := own_arr o2
       have hS2 := HKS.out _ _ hS0 b2
       have hRR2 := HRR.out _ (HKR.out _ _ hR0 b2)
       have HD2 := Lib.hid (fun (k : Nat) (hne : some k ≠ _) (x : Obj) (hk : _ = some x) => at_grown g2 hne hk)))
  all_goals
    have hF2 := HKR.out _ _ hR0 b2
    obtain ⟨hfz, e0, e1, e2, r0, r1, r2⟩ := three hF2 (.bool rn) (.slice p1 rnum.length q1) (.slice p2 rden.length q2)
    have o12 : w2.ownsRow ((w.alloc (.cells #[.bool rn, .slice a rnum.length c, .slice b rden.length d] 88 (0, 0))).alloc (.cells #[.bool false, .slice none 0 0, .slice none 0 0] 88 (0, 0))).heap.size 135 1 (.slice p1 rnum.length q1) rnum.length (u32s rnum) := by
      first
      | (refine own_past o1 ((Blw.refl w1).alloc _) g2 ?_
         intro i hi e
         have h1 := World.ownsRow.lt o1 i hi
         simp [Value.ownBlock] at e
         omega)
      | (refine own_past o1 (Blw.refl w1) g2 ?_
         intro i hi e
         rw [hi] at t1
         simp [Value.ownBlock] at e t1
         omega)
    have hs3 : ((w.alloc (.cells #[.bool rn, .slice a rnum.length c, .slice b rden.length d] 88 (0, 0))).alloc (.cells #[.bool false, .slice none 0 0, .slice none 0 0] 88 (0, 0))).heap.size = w.heap.size + 2 := by simp
    rw [hs3] at o12 o2
    have hbw : Blw w w2 := Blw.trans hb0 b2
    clear hF2 hS1 hS2 hRR1 hRR2 HD1 HD2 t1 t2 g1 g2 b1 b2 o1 hS0 hSd HKS HKR HRR hR0 hB0 hA hD
    go_wp2_with fail
    exact bodyPost_ret (v := .agg #[.bool rn, .slice p1 rnum.length q1, .slice p2 rden.length q2]) (by simp [results, Try.results129, go_sem, r0, r1, r2]) rfl ⟨p1, q1, p2, q2, rfl, blw_three hbw (Nat.le_succ _) _ _ _, own_three o12 (Nat.lt_succ_self _) _ _ _ |> (ownsRow_mono · (by omega)), own_three o2 (Nat.lt_succ_self _) _ _ _ |> (ownsRow_mono · (by omega))⟩
end Go.Proofs.Ytigkfdoeneemeaa
/- The walk of water.Of, of heights that may be. -/
namespace Go.Proofs.Ytigkfdoeneemeaa
open Go.RowKit

def fl0 : FL := ⟨⟨false, [], []⟩, none, 0, none, 0⟩
def rg (l : List FL) (i : Nat) : Fr := (l.getD i fl0).r
/-- How a height goes from the one ahead. -/
def sg (l : List FL) (i : Nat) : Int := cmpF (rg l i) (rg l (i - 1))
def wkey (l : List FL) (first : Int) (t : Nat × Nat × Bool) : Int × Int × Bool × Fr := (first + t.1, first + t.2.1, t.2.2, rg l t.1)
theorem rg_at {l : List FL} {i : Nat} {x : FL} (h : l[i]? = some x) : rg l i = x.r := by unfold rg; rw [List.getD_eq_getElem?_getD, h]; rfl

/-- The fraction's words lie in memory of the call's own. -/
def OwnFL (B : Nat) (w : World) (x : FL) : Prop :=
  w.ownsRow B 135 1 (.slice x.a x.r.num.length x.c) x.r.num.length (u32s x.r.num) ∧ w.ownsRow B 135 1 (.slice x.b x.r.den.length x.d) x.r.den.length (u32s x.r.den) ∧ W.WF x.r.num ∧ W.WF x.r.den
theorem OwnFL.blw {B : Nat} {w w' : World} {x : FL} (h : OwnFL B w x) (k : Blw w w') : OwnFL B w' x := ⟨ownsRow_blw h.1 k, ownsRow_blw h.2.1 k, h.2.2.1, h.2.2.2⟩
theorem OwnFL.in {B : Nat} {w : World} {x : FL} (h : OwnFL B w x) : FL.In w x := FrA.own h.1 h.2.1 h.2.2.1 h.2.2.2
/-- Rows of elements of different types lie in different blocks. -/
theorem own_types {w : World} {B B2 n n2 size size2 : Nat} {e e2 : TypeId} {v v2 : Value} {cs cs2 : List Value} (h : w.ownsRow B e size v n cs) (k : w.ownsRow B2 e2 size2 v2 n2 cs2) (hne : e ≠ e2) : ∀ i, v.ownBlock = some i → v2.ownBlock ≠ some i := by
  intro i h1 h2
  rcases h.2 with ⟨rfl, _⟩ | ⟨g, c, cur, rfl, _, hh, _⟩
  · cases h1
  · rcases k.2 with ⟨rfl, _⟩ | ⟨g2, c2, cur2, rfl, _, kk, _⟩
    · cases h2
    · simp [Value.ownBlock] at h1 h2
      rw [h1] at hh
      rw [h2, hh] at kk
      simp at kk
      exact hne kk.2
theorem OwnFL.past {B B2 n2 size2 : Nat} {e2 : TypeId} {w w' : World} {v2 : Value} {cs2 : List Value} {x : FL} (h : OwnFL B w x) (k : w.ownsRow B2 e2 size2 v2 n2 cs2) (hne : (135 : TypeId) ≠ e2) (hg : w.grownBy w' v2.ownBlock) : OwnFL B w' x :=
  ⟨own_past h.1 (Blw.refl w) hg (fun i hi => own_types h.1 k hne i hi), own_past h.2.1 (Blw.refl w) hg (fun i hi => own_types h.2.1 k hne i hi), h.2.2.1, h.2.2.2⟩

def OfOut (w : World) (l : List FL) (first : Int) (e : Ending) (w' : World) : Prop :=
  ∃ (out : List WL) (a : Option Addr) (c : Nat), e = .returned (.tuple #[.slice a out.length c, .int .i64 0]) ∧ Blw w w' ∧ w'.ownsRow w.heap.size 90 6 (.slice a out.length c) out.length (wls out) ∧ (∀ x ∈ out, OwnFL w.heap.size w' x.h) ∧
    out.map WL.key = (wats (sg l) l.length l.length).map (wkey l first)
theorem sl_waters : SlT Try.prog 84 90 (.agg #[.int .i64 0, .int .i64 0, .bool false, .bool false, .slice none 0 0, .slice none 0 0]) 6 80 := ⟨Try.underlying84, by kernel_rfl, by kernel_rfl, by decide⟩
theorem cntd_zero {n : Nat} {first : Int} (h : cntd n first = 0) : n ≤ 4096 ∧ 0 ≤ first ∧ first ≤ 1048576 ∧ (0 < n → first + n ≤ 1048577) := by
  unfold cntd at h
  split at h
  · cases h
  · split at h
    · cases h
    · omega

set_option maxRecDepth 100000 in
set_option maxHeartbeats 8000000 in
theorem waterOf_ok (A : Option Addr) (l : List FL) (cap : Nat) (first : Int) (w : World) (hA : Arr w A (fls l)) (hin : ∀ x ∈ l, FL.In w x) (hok : ∀ x ∈ l, x.r.Ok) (hc : cntd l.length first = 0) :
    Calls Try.prog 76 #[.slice A l.length cap, .int .i64 first] w (OfOut w l first) := by
  obtain ⟨hlen, hf0, hf1, hfn⟩ := cntd_zero hc
  have CN := fun W => counted_any l.length first W (by omega)
  rw [hc] at CN
  have HCN := Lib.hid CN
  have HIN := Lib.hid hin
  have HOK := Lib.hid hok
  clear CN hc hin hok
  go_enter Try.func76, Try.ntmps76
  go_wp2
  go_step3
  go_wp2_with (go_at_call 126; refine Calls.mono (HCN.out _) ?_; rintro e w1 ⟨rfl, rfl⟩)
  clear HCN
  go_loopw [24] (fun vi wr => ∃ k : Nat, k ≤ l.length ∧ vi = .int .i64 k ∧ Blw w1 wr) (fun i _ => l.length - (intOf i).toNat)
  case atStart => exact ⟨0, Nat.zero_le _, rfl, Blw.refl _⟩
  case round =>
    obtain ⟨k, hk, rfl, hb⟩ := hrel
    by_cases hlt : k < l.length
    · obtain ⟨x, b, o, hgk, hm, rfl, hbs, c0, c1, c2⟩ := fl_at (hA.blw hb) hlt
      have hx := (HIN.out x hm).blw hb
      have hck := fun W (hb : Blw wr W) => ratioCheck_any x.r x.a x.c x.b x.d W (FL.In.blw hx hb)
      rw [chkF_ok (HOK.out x hm)] at hck
      have HCK := Lib.hid hck
      clear hck hgk hm hx
      go_wp2_with fail
      refine Calls.mono (HCK.out _ (by repeat (first | exact Blw.refl _ | apply Blw.ext | apply Blw.alloc | apply Blw.drewN | apply Blw.drew | refine Blw.setCell ?_ _ _ (by simp)))) ?_
      rintro e w2 ⟨rfl, x2, rfl⟩
      go_wp2_with fail
      go_roundw
      case rel => exact ⟨k + 1, by omega, by go_num, (hb.alloc _).ext x2⟩
      case measure => simp [intOf]; omega
    · go_wp2
      go_step3
      go_wp2
      have hB0 := hb
      clear hlt hk hb
      go_loopg [10, 11] l.length (fun g vo vi wx => ∃ (i : Nat) (out : List WL) (a : Option Addr) (c : Nat), i + g = l.length + 1 ∧ (1 ≤ i ∧ (i ≤ l.length ∨ i = 1)) ∧ vi = .int .i64 i ∧ vo = .slice a out.length c ∧ wx.ownsRow w1.heap.size 90 6 (.slice a out.length c) out.length (wls out) ∧ (∀ x ∈ out, OwnFL w1.heap.size wx x.h) ∧
        Hid (out.map WL.key = (wats (sg l) l.length i).map (wkey l first)) ∧ out.length ≤ i ∧ Blw w1 wx)
      case atStart => exact ⟨1, [], none, 0, by omega, ⟨Nat.le_refl _, .inr rfl⟩, rfl, rfl, World.ownsRow_nil _ _ _ _, (fun x h => by simp at h), (by show _ = _; rw [wats_one]; rfl), by simp, hB0⟩
      case round =>
        obtain ⟨i, out, a, c, hig, ⟨h1, h1'⟩, rfl, rfl, hown, hio, hkey, hol, hbx⟩ := hrel
        clear hB0
        have HIO := Lib.hid hio
        clear hio
        by_cases hlt : i < l.length
        · obtain ⟨j, rfl⟩ : ∃ j, i = j + 1 := ⟨i - 1, by omega⟩
          obtain ⟨g, rfl⟩ : ∃ g, gk = g + 1 := ⟨gk - 1, by omega⟩
          obtain ⟨x, b, o, hgx, hmx, rfl, hbs, c0, c1, c2⟩ := fl_at (k := j) (hA.blw hbx) (by omega)
          obtain ⟨y, b', o', hgy, hmy, e', -, d0, d1, d2⟩ := fl_at (k := j + 1) (hA.blw hbx) hlt
          simp only [Option.some.injEq, Addr.mk.injEq] at e'
          obtain ⟨rfl, rfl, -⟩ := e'
          obtain ⟨S, hS⟩ : ∃ S, S = sg l (j + 1) := ⟨_, rfl⟩
          have hSv : cmpF y.r x.r = S := by rw [hS]; unfold sg; rw [rg_at hgy, Nat.add_sub_cancel, rg_at hgx]
          have FR := fun W (hb : Blw wr W) => from_ok x y W (((HIN.out x hmx).blw hbx).blw hb) (((HIN.out y hmy).blw hbx).blw hb) (HOK.out x hmx) (HOK.out y hmy)
          rw [hSv] at FR
          have HFR := Lib.hid FR
          have CP := fun W (hb : Blw wr W) => waterCopied_any y.r y.a y.c y.b y.d W (FrA.blw ((HIN.out y hmy).blw hbx) hb) (HOK.out y hmy)
          have HCP := Lib.hid CP
          have HRY := Lib.hid (rg_at hgy)
          have HGY := Lib.hid hgy
          have HWY := Lib.hid ((HIN.out y hmy).wn)
          have HWZ := Lib.hid ((HIN.out y hmy).wd)
          have HS := Lib.hid hS
          clear FR CP hSv hS hgx hgy hmx hmy
          have i0 : (0 : Int) ≤ (j : Int) := by omega
          have i1 : (j : Int) < (l.length : Int) := by omega
          have i2 : (0 : Int) ≤ (j : Int) + 1 := by omega
          have i3 : (j : Int) + 1 < (l.length : Int) := by omega
          have i4 : IntKind.i64.wrap (j : Int) = (j : Int) := by rw [IntKind.wrap_i64]; omega
          have i5 : ((j : Int) + 1).toNat = j + 1 := by omega
          go_wp2_with fail
          refine wp_region_ext_lit (by kernel_rfl) (by kernel_rfl) ?_
          repeat (quiet_step ((go_at_call 128; exact Calls.ext_of (HFR.out _ (by repeat (first | exact Blw.refl _ | apply Blw.ext | apply Blw.alloc | apply Blw.drewN | apply Blw.drew | refine Blw.setCell ?_ _ _ (by simp)))))))
          refine wpQuiet_nil ?_
          rintro _ ⟨z, rfl⟩
          clear HFR c0 c1 c2 d0 d1 d2
          by_cases s0 : S = 0
          · have HK : Hid (out.map WL.key = (wats (sg l) l.length (j + 1 + 1)).map (wkey l first)) := by
              show _ = _
              rw [wats_none (wat_zero (HS.out.symm.trans s0))]; exact hkey.out
            subst s0
            have HIO2 := Lib.hid (fun x hx => (HIO.out x hx).blw (World.blw_ext wr z))
            go_wp2
            go_roundg g
            case measure => omega
            case rel => exact ⟨j + 1 + 1, out, a, c, by omega, ⟨by omega, .inl (by omega)⟩, by go_num, rfl, ownsRow_blw hown (World.blw_ext _ z), HIO2.out, HK, by omega, hbx.ext z⟩
          · have q0 : (S == 0) = false := by simpa using s0
            have hown2 := ownsRow_blw hown (World.blw_ext wr z)
            have HIO2 := Lib.hid (fun x hx => (HIO.out x hx).blw (World.blw_ext wr z))
            have hb2 := hbx.ext z
            have HCP2 := Lib.hid (fun W (hb : Blw (wr.ext z) W) => HCP.out W ((World.blw_ext wr z).trans hb))
            clear HCP HIO hown
            go_wp2_with fail
            go_loopg [10, 13] (l.length - (j + 2)) (fun g2 vo vk wy => ∃ k : Nat, vo = .slice a out.length c ∧ k + g2 = l.length ∧ j + 2 ≤ k ∧ vk = .int .i64 k ∧ Hid (nextS (sg l) l.length (j + 1 + 1) = nextS (sg l) l.length k) ∧ Blw (wr.ext z) wy)
            case atStart => exact ⟨j + 2, rfl, by omega, Nat.le_refl _, by go_num, rfl, Blw.refl _⟩
            case round =>
              obtain ⟨k, rfl, hkg, hk1, rfl, hnx, hby⟩ := hrel
              by_cases hlt2 : k < l.length
              · obtain ⟨m, rfl⟩ : ∃ m, k = m + 1 := ⟨k - 1, by omega⟩
                obtain ⟨g3, rfl⟩ : ∃ g3, gk = g3 + 1 := ⟨gk - 1, by omega⟩
                have hbw := hb2.trans hby
                obtain ⟨u, b2, o2, hgu, hmu, e2, hbs2, c0, c1, c2⟩ := fl_at (k := m) (hA.blw hbw) (by omega)
                obtain ⟨v, b3, o3, hgv, hmv, e3, -, d0, d1, d2⟩ := fl_at (k := m + 1) (hA.blw hbw) hlt2
                simp only [Option.some.injEq, Addr.mk.injEq] at e2 e3
                obtain ⟨rfl, rfl, -⟩ := e2
                obtain ⟨rfl, rfl, -⟩ := e3
                obtain ⟨S2, hS2⟩ : ∃ S2, S2 = sg l (m + 1) := ⟨_, rfl⟩
                have hSv : cmpF v.r u.r = S2 := by rw [hS2]; unfold sg; rw [rg_at hgv, Nat.add_sub_cancel, rg_at hgu]
                have FR := fun W (hb : Blw wr W) => from_ok u v W (((HIN.out u hmu).blw hbw).blw hb) (((HIN.out v hmv).blw hbw).blw hb) (HOK.out u hmu) (HOK.out v hmv)
                rw [hSv] at FR
                have HFR := Lib.hid FR
                have HS2 := Lib.hid hS2
                clear FR hSv hS2 hgu hgv hmu hmv
                have j0 : (0 : Int) ≤ (m : Int) := by omega
                have j1 : (m : Int) < (l.length : Int) := by omega
                have j2 : (0 : Int) ≤ (m : Int) + 1 := by omega
                have j3 : (m : Int) + 1 < (l.length : Int) := by omega
                have j4 : IntKind.i64.wrap (m : Int) = (m : Int) := by rw [IntKind.wrap_i64]; omega
                have j5 : ((m : Int) + 1).toNat = m + 1 := by omega
                go_wp2_with fail
                refine wp_region_ext_lit (by kernel_rfl) (by kernel_rfl) ?_
                repeat (quiet_step ((go_at_call 128; exact Calls.ext_of (HFR.out _ (by repeat (first | exact Blw.refl _ | apply Blw.ext | apply Blw.alloc | apply Blw.drewN | apply Blw.drew | refine Blw.setCell ?_ _ _ (by simp)))))))
                refine wpQuiet_nil ?_
                rintro _ ⟨z2, rfl⟩
                clear HFR c0 c1 c2 d0 d1 d2
                by_cases s2 : S2 = 0
                · have HN : Hid (nextS (sg l) l.length (j + 1 + 1) = nextS (sg l) l.length (m + 1 + 1)) := by
                    show _ = _
                    rw [hnx.out, nextS_on hlt2 (HS2.out.symm.trans s2)]
                  subst s2
                  go_wp2
                  go_roundg g3
                  case measure => omega
                  case rel => exact ⟨m + 1 + 1, rfl, by omega, by omega, by go_num, HN, hby.ext z2⟩
                · have q2 : (S2 == 0) = false := by simpa using s2
                  have HNX : Hid (nextS (sg l) l.length (j + 1 + 1) = some (m + 1)) := by
                    show _ = _
                    rw [hnx.out, nextS_at hlt2 (fun h => s2 (HS2.out.trans h))]
                  have hb5 := hb2.trans (hby.ext z2)
                  have hown5 := ownsRow_blw hown2 (hby.ext z2)
                  have HIO5 := Lib.hid (fun x hx => (HIO2.out x hx).blw (hby.ext z2))
                  by_cases s3 : S2 = S
                  · have HK : Hid (out.map WL.key = (wats (sg l) l.length (j + 1 + 1)).map (wkey l first)) := by
                      show _ = _
                      rw [wats_none (wat_same (by omega) (fun h => s0 (HS.out.trans h)) HNX.out (by rw [← HS.out, ← HS2.out]; exact s3))]; exact hkey.out
                    have q3 : (S2 != S) = false := by simpa using s3
                    clear hown2 hb2 s3
                    go_wp2_with fail
                    go_roundg g
                    case measure => omega
                    case rel => exact ⟨j + 1 + 1, out, a, c, by omega, ⟨by omega, .inl (by omega)⟩, by go_num, rfl, hown5, HIO5.out, HK, by omega, hb5⟩
                  · have q3 : (S2 != S) = true := by simpa using s3
                    have HW : Hid (wats (sg l) l.length (j + 1 + 1) = wats (sg l) l.length (j + 1) ++ [(j + 1, m, S == 1)]) := by
                      show _ = _
                      rw [wats_some (wat_turn (by omega) (fun h => s0 (HS.out.trans h)) HNX.out (by rw [← HS.out, ← HS2.out]; exact s3)), ← HS.out]; rfl
                    clear hown2 hb2
                    obtain ⟨y', b4, o4, hgy', -, e4, -, c0, c1, c2⟩ := fl_at (k := j + 1) (hA.blw hb5) hlt
                    simp only [Option.some.injEq, Addr.mk.injEq] at e4
                    obtain ⟨rfl, rfl, -⟩ := e4
                    obtain rfl : y = y' := by have := HGY.out.symm.trans hgy'; simpa using this
                    clear hgy'
                    have f1 : IntKind.i64.wrap (first + ((j : Int) + 1)) = first + ((j : Int) + 1) := by rw [IntKind.wrap_i64]; omega
                    have f2 : IntKind.i64.wrap (first + ((m : Int) + 1)) = first + ((m : Int) + 1) := by rw [IntKind.wrap_i64]; omega
                    have f3 : IntKind.i64.wrap (first + ((m : Int) + 1) - 1) = first + (m : Int) := by rw [IntKind.wrap_i64]; omega
                    go_wp2_with fail
                    refine Calls.mono (HCP2.out _ (hby.ext z2)) ?_
                    rintro e w5 ⟨p1, q1, p2, q2, rfl, hb6, oX, oY⟩
                    have oX5 := ownsRow_mono oX hb5.size
                    have oY5 := ownsRow_mono oY hb5.size
                    have hown6 := ownsRow_blw hown5 hb6
                    have HIO6 := Lib.hid (fun x hx => (HIO5.out x hx).blw hb6)
                    have hb8 := hb5.trans hb6
                    have HL := Lib.hid (cells_len WL.cells 6 (fun _ => rfl) out)
                    clear oX oY hown5 HIO5
                    go_wp2_with (at_builtin; refine wpList_app w1 _ rfl _ _ 84 rfl sl_waters (hb8.alloc _) _ out.length _ rfl (ownsRow_blw hown6 ((Blw.refl _).alloc _)) _ 1 1 [.int .i64 (first + ((j : Int) + 1)), .int .i64 (first + (m : Int)), .bool (S == 1), .bool y.r.neg, .slice p1 y.r.num.length q1, .slice p2 y.r.den.length q2] rfl (by simp) (Arr.lit _ _ _ _) (by simp) (by simp [Value.oneCell']) (by unfold maxLen; omega) (by omega) ?_; intro v7 w7 hown7 hb7 hg7 _)
                    obtain ⟨a7, c7, rfl, -, -, -, -, -⟩ := own_arr hown7
                    have HK : Hid ((out ++ [(⟨first + ((j : Int) + 1), first + (m : Int), S == 1, ⟨y.r, p1, q1, p2, q2⟩⟩ : WL)]).map WL.key = (wats (sg l) l.length (j + 1 + 1)).map (wkey l first)) := by
                      show _ = _
                      rw [HW.out, List.map_append, List.map_append, hkey.out]
                      simp [WL.key, wkey, HRY.out]
                    have HO : Hid (∀ x ∈ out ++ [(⟨first + ((j : Int) + 1), first + (m : Int), S == 1, ⟨y.r, p1, q1, p2, q2⟩⟩ : WL)], OwnFL w1.heap.size w7 x.h) := by
                      intro x hx
                      rw [List.mem_append, List.mem_singleton] at hx
                      rcases hx with hx | rfl
                      · exact OwnFL.past ((HIO6.out x hx).blw ((Blw.refl _).alloc _)) (ownsRow_blw hown6 ((Blw.refl _).alloc _)) (by decide) hg7
                      · exact OwnFL.past (OwnFL.blw ⟨oX5, oY5, HWY.out, HWZ.out⟩ ((Blw.refl _).alloc _)) (ownsRow_blw hown6 ((Blw.refl _).alloc _)) (by decide) hg7
                    have HWL : w7.ownsRow w1.heap.size 90 6 (.slice a7 (out ++ [(⟨first + ((j : Int) + 1), first + (m : Int), S == 1, ⟨y.r, p1, q1, p2, q2⟩⟩ : WL)]).length c7) (out ++ [(⟨first + ((j : Int) + 1), first + (m : Int), S == 1, ⟨y.r, p1, q1, p2, q2⟩⟩ : WL)]).length (wls (out ++ [(⟨first + ((j : Int) + 1), first + (m : Int), S == 1, ⟨y.r, p1, q1, p2, q2⟩⟩ : WL)])) := by
                      have e : wls (out ++ [(⟨first + ((j : Int) + 1), first + (m : Int), S == 1, ⟨y.r, p1, q1, p2, q2⟩⟩ : WL)]) = wls out ++ [.int .i64 (first + ((j : Int) + 1)), .int .i64 (first + (m : Int)), .bool (S == 1), .bool y.r.neg, .slice p1 y.r.num.length q1, .slice p2 y.r.den.length q2] := by
                        rw [wls, List.flatMap_append]; rfl
                      rw [e, List.length_append]
                      exact hown7
                    have HOL := Lib.hid HWL
                    clear hown7 HWL hg7
                    go_roundg g
                    case measure => omega
                    case rel => exact ⟨j + 1 + 1, _, a7, c7, by omega, ⟨by omega, .inl (by omega)⟩, by go_num, (by rw [List.length_append]; rfl), HOL.out, HO.out, HK, (by rw [List.length_append]; simp; omega), hb7⟩
              · have HK : Hid (out.map WL.key = (wats (sg l) l.length (j + 1 + 1)).map (wkey l first)) := by
                  show _ = _
                  rw [wats_none (wat_out (by omega) (fun h => s0 (HS.out.trans h)) (by rw [hnx.out, nextS_out hlt2]))]; exact hkey.out
                have hown5 := ownsRow_blw hown2 hby
                have HIO5 := Lib.hid (fun x hx => (HIO2.out x hx).blw hby)
                have hb5 := hb2.trans hby
                clear hown2 hb2
                go_wp2_with fail
                go_roundg g
                case measure => omega
                case rel => exact ⟨j + 1 + 1, out, a, c, by omega, ⟨by omega, .inl (by omega)⟩, by go_num, rfl, hown5, HIO5.out, HK, by omega, hb5⟩
        · have hlast : wats (sg l) l.length i = wats (sg l) l.length l.length := by
            rcases Nat.lt_or_ge 0 l.length with h | h
            · rw [show i = l.length by omega]
            · have h0 : l.length = 0 := by omega
              have hi1 : i = 1 := by omega
              rw [hi1, wats_one, h0]; rfl
          have HK := Lib.hid (hkey.out.trans (by rw [hlast]))
          clear hlast hkey
          go_wp2
          try rw [Exit.noGoto_ret]
          go_ret2
          exact ⟨out, a, c, rfl, hbx, hown, HIO.out, HK.out⟩
end Go.Proofs.Ytigkfdoeneemeaa
/- The waters of a list that is negated, and of one that is turned round: plain Lean. -/
namespace Go.Proofs.Ytigkfdoeneemeaa

/-- Each with the one behind. -/
def cons2 {α : Type} : List α → List (α × α)
  | a :: b :: r => (a, b) :: cons2 (b :: r)
  | _ => []
theorem cons2_snoc {α : Type} (l : List α) (a b : α) : cons2 (l ++ [a, b]) = cons2 (l ++ [a]) ++ [(a, b)] := by
  induction l with
  | nil => rfl
  | cons x t ih =>
    cases t with
    | nil => rfl
    | cons y t => simp only [List.cons_append, cons2] at ih ⊢; rw [ih]
theorem cons2_reverse {α : Type} (l : List α) : cons2 l.reverse = ((cons2 l).map fun p => (p.2, p.1)).reverse := by
  induction l with
  | nil => rfl
  | cons a t ih =>
    cases t with
    | nil => rfl
    | cons b r =>
      have e : (a :: b :: r).reverse = r.reverse ++ [b, a] := by simp
      rw [e, cons2_snoc, show r.reverse ++ [b] = (b :: r).reverse by simp, ih]
      simp [cons2]
theorem cons2_map {α β : Type} (h : α → β) (l : List α) : cons2 (l.map h) = (cons2 l).map fun p => (h p.1, h p.2) := by
  induction l with
  | nil => rfl
  | cons a t ih =>
    cases t with
    | nil => rfl
    | cons b r => simp only [List.map_cons, cons2] at ih ⊢; rw [ih]
theorem cons2_mem {α : Type} (l : List α) : ∀ p ∈ cons2 l, p.1 ∈ l ∧ p.2 ∈ l := by
  induction l with
  | nil => intro p h; cases h
  | cons a t ih =>
    cases t with
    | nil => intro p h; cases h
    | cons b r =>
      intro p h
      simp only [cons2, List.mem_cons] at h
      rcases h with rfl | h
      · simp
      · have := ih p (by simpa [cons2] using h)
        exact ⟨List.mem_cons_of_mem _ this.1, List.mem_cons_of_mem _ this.2⟩

/-- The places from m on where the list goes up or down. -/
def plc (f : Nat → Int) (n m : Nat) : List Nat := (List.range' m (n - m)).filter fun i => f i != 0
def wat2 (f : Nat → Int) (p : Nat × Nat) : Option (Nat × Nat × Bool) := if f p.2 = f p.1 then none else some (p.1, p.2 - 1, f p.1 == 1)

theorem range_step {n m : Nat} (h : m < n) : List.range' m (n - m) = m :: List.range' (m + 1) (n - (m + 1)) := by
  obtain ⟨d, hd⟩ : ∃ d, n - m = d + 1 := ⟨n - m - 1, by omega⟩
  rw [hd, show n - (m + 1) = d by omega]
  rfl
theorem plc_on {f : Nat → Int} {n m : Nat} (h : m < n) (h0 : f m = 0) : plc f n m = plc f n (m + 1) := by
  unfold plc; rw [range_step h, List.filter_cons, if_neg (by simp [h0])]
theorem plc_at {f : Nat → Int} {n m : Nat} (h : m < n) (h0 : ¬ f m = 0) : plc f n m = m :: plc f n (m + 1) := by
  unfold plc; rw [range_step h, List.filter_cons, if_pos (by simp [h0])]
theorem plc_out {f : Nat → Int} {n m : Nat} (h : ¬ m < n) : plc f n m = [] := by
  unfold plc; rw [show n - m = 0 by omega]; rfl

theorem nextS_plc (f : Nat → Int) (n : Nat) : ∀ d m, n - m = d → nextS f n m = (plc f n m).head? := by
  intro d
  induction d with
  | zero => intro m h; rw [nextS_out (by omega), plc_out (by omega)]; rfl
  | succ d ih =>
    intro m h
    by_cases h0 : f m = 0
    · rw [nextS_on (by omega) h0, plc_on (by omega) h0]; exact ih (m + 1) (by omega)
    · rw [nextS_at (by omega) h0, plc_at (by omega) h0]; rfl

theorem wats_from (f : Nat → Int) (n : Nat) : ∀ d m, n - m = d → 0 < m → (List.range' m (n - m)).filterMap (wat f n) = (cons2 (plc f n m)).filterMap (wat2 f) := by
  intro d
  induction d with
  | zero => intro m h _; rw [plc_out (by omega), h]; rfl
  | succ d ih =>
    intro m h hm
    rw [range_step (by omega), List.filterMap_cons]
    by_cases h0 : f m = 0
    · rw [wat_zero h0, plc_on (by omega) h0]; exact ih (m + 1) (by omega) (by omega)
    · have hn := nextS_plc f n d (m + 1) (by omega)
      have hi := ih (m + 1) (by omega) (by omega)
      rw [plc_at (by omega) h0]
      cases hp : plc f n (m + 1) with
      | nil =>
        rw [hp] at hn hi
        rw [wat_out hm h0 hn, hi]; rfl
      | cons k r =>
        rw [hp] at hn hi
        by_cases e : f k = f m
        · rw [wat_same hm h0 hn e, hi]
          simp [cons2, wat2, e]
        · rw [wat_turn hm h0 hn e, hi]
          simp [cons2, wat2, e]

theorem wats_plc (f : Nat → Int) (n : Nat) : wats f n n = (cons2 (plc f n 1)).filterMap (wat2 f) := by
  rw [← wats_from f n (n - 1) 1 rfl (by omega)]
  unfold wats
  cases n with
  | zero => rfl
  | succ n =>
    rw [List.range_eq_range', show n + 1 - 1 = n by omega, List.range'_succ]
    rw [List.filterMap_cons]
    have : wat f (n + 1) 0 = none := by unfold wat; rw [if_pos (.inl rfl)]
    rw [this]

theorem fm_congr {α β : Type} {l : List α} {f g : α → Option β} (h : ∀ x ∈ l, f x = g x) : l.filterMap f = l.filterMap g := by
  induction l with
  | nil => rfl
  | cons a l ih =>
    rw [List.filterMap_cons, List.filterMap_cons, h a (by simp), ih (fun x hx => h x (by simp [hx]))]
/-- Negated: the same waters, tops and bottoms changed about. -/
theorem wats_neg {f g : Nat → Int} {n : Nat} (hf : ∀ i, 0 < i → i < n → f i = -1 ∨ f i = 0 ∨ f i = 1) (hg : ∀ i, 0 < i → i < n → g i = - f i) :
    wats g n n = (wats f n n).map fun p => (p.1, p.2.1, !p.2.2) := by
  have hz : plc g n 1 = plc f n 1 := by
    unfold plc
    apply List.filter_congr
    intro i hi
    simp only [List.mem_range'_1] at hi
    have := hg i (by omega) (by omega)
    rw [this, Bool.eq_iff_iff, bne_iff_ne, bne_iff_ne]
    omega
  rw [wats_plc, wats_plc, hz, List.map_filterMap]
  apply fm_congr
  intro p hp
  obtain ⟨h1, h2⟩ := cons2_mem _ p hp
  simp only [plc, List.mem_filter, List.mem_range'_1, bne_iff_ne] at h1 h2
  have a1 := hf p.1 (by omega) (by omega)
  have a2 := hf p.2 (by omega) (by omega)
  have b1 := hg p.1 (by omega) (by omega)
  have b2 := hg p.2 (by omega) (by omega)
  unfold wat2
  rw [b1, b2]
  by_cases e : f p.2 = f p.1
  · rw [if_pos e, if_pos (by omega)]; rfl
  · rw [if_neg e, if_neg (by omega)]
    simp only [Option.map_some]
    congr 2
    rcases a1 with a | a | a
    · rw [a]; rfl
    · exact absurd a h1.2
    · rw [a]; rfl

theorem range_turn (n : Nat) : ((List.range' 1 (n - 1)).map fun i => n - i).reverse = List.range' 1 (n - 1) := by
  apply List.ext_getElem
  · simp
  · intro i h1 h2
    simp at h1 h2
    simp [List.getElem_reverse]
    omega

theorem plc_round {f g : Nat → Int} {n : Nat} (hg : ∀ i, 0 < i → i < n → g i = - f (n - i)) : plc g n 1 = ((plc f n 1).map fun i => n - i).reverse := by
  unfold plc
  rw [← range_turn n, List.filter_reverse, List.filter_map]
  congr 2
  rw [range_turn n]
  apply List.filter_congr
  intro i hi
  simp only [List.mem_range'_1] at hi
  have h := hg (n - i) (by omega) (by omega)
  rw [show n - (n - i) = i by omega] at h
  show (g (n - i) != 0) = (f i != 0)
  rw [h, Bool.eq_iff_iff, bne_iff_ne, bne_iff_ne]
  omega

/-- Turned round: the same waters, turned round. -/
theorem wats_round {f g : Nat → Int} {n : Nat} (hf : ∀ i, 0 < i → i < n → f i = -1 ∨ f i = 0 ∨ f i = 1) (hg : ∀ i, 0 < i → i < n → g i = - f (n - i)) :
    wats g n n = ((wats f n n).map fun p => (n - 1 - p.2.1, n - 1 - p.1, p.2.2)).reverse := by
  rw [wats_plc, wats_plc, plc_round hg, cons2_reverse, cons2_map, List.filterMap_reverse, List.map_map, List.filterMap_map, List.map_filterMap]
  congr 1
  apply fm_congr
  intro p hp
  obtain ⟨h1, h2⟩ := cons2_mem _ p hp
  simp only [plc, List.mem_filter, List.mem_range'_1, bne_iff_ne] at h1 h2
  have a1 := hf p.1 (by omega) (by omega)
  have a2 := hf p.2 (by omega) (by omega)
  have b1 := hg (n - p.1) (by omega) (by omega)
  have b2 := hg (n - p.2) (by omega) (by omega)
  rw [show n - (n - p.1) = p.1 by omega] at b1
  rw [show n - (n - p.2) = p.2 by omega] at b2
  show wat2 g (n - p.2, n - p.1) = _
  unfold wat2
  simp only [b1, b2]
  by_cases e : f p.2 = f p.1
  · rw [if_pos e, if_pos (by omega)]; rfl
  · rw [if_neg e, if_neg (by omega)]
    simp only [Option.map_some]
    have k1 : n - 1 - (p.2 - 1) = n - p.2 := by omega
    have k2 : n - p.1 - 1 = n - 1 - p.1 := by omega
    have k3 : (-f p.2 == 1) = (f p.1 == 1) := by
      rw [Bool.eq_iff_iff, beq_iff_eq, beq_iff_eq]
      have := h1.2
      have := h2.2
      omega
    rw [k1, k2, k3]
end Go.Proofs.Ytigkfdoeneemeaa
/- Fractions compared: as whole numbers, plain Lean. -/
namespace Go.Proofs.Ytigkfdoeneemeaa

def cmpI (x y : Int) : Int := if x < y then -1 else if y < x then 1 else 0
theorem cmpI_cases (x y : Int) : cmpI x y = -1 ∨ cmpI x y = 0 ∨ cmpI x y = 1 := by
  unfold cmpI; split
  · simp
  · split <;> simp
theorem cmpI_swap (x y : Int) : cmpI y x = - cmpI x y := by
  unfold cmpI
  rcases Int.lt_trichotomy x y with h | h | h
  · rw [if_neg (by omega), if_pos h, if_pos h]; rfl
  · subst h; simp
  · rw [if_pos h, if_neg (by omega), if_pos h]
theorem cmpI_neg (x y : Int) : cmpI (-x) (-y) = - cmpI x y := by
  rw [← cmpI_swap]
  unfold cmpI
  rcases Int.lt_trichotomy x y with h | h | h
  · rw [if_neg (by omega), if_pos (by omega), if_neg (by omega), if_pos h]
  · subst h; simp
  · rw [if_pos (by omega), if_pos h]
theorem cmpN_int (a b : Nat) : W.cmpN a b = cmpI a b := by
  rcases Nat.lt_trichotomy a b with h | h | h
  · rw [W.cmpN_lt h]; unfold cmpI; rw [if_pos (by omega)]
  · subst h; rw [W.cmpN_eq]; unfold cmpI; simp
  · rw [W.cmpN_gt h]; unfold cmpI; rw [if_neg (by omega), if_pos (by omega)]

/-- The sign's whole number over the line. -/
def Fr.p (r : Fr) : Int := if r.neg = true then -(W.val r.num : Int) else (W.val r.num : Int)
theorem Fr.Ok.den_pos {r : Fr} (h : r.Ok) : 0 < W.val r.den := W.val_pos h.nd (by intro e; have := h.d0; rw [e] at this; simp at this)
theorem Fr.Ok.num_pos {r : Fr} (h : r.Ok) (hn : r.neg = true) : 0 < W.val r.num := W.val_pos h.nn (by
  intro e
  have := h.ns (by rw [e]; rfl)
  rw [hn] at this; cases this)
theorem cmpF_is {r s : Fr} (hr : r.Ok) (hs : s.Ok) : cmpF r s = cmpI (r.p * (W.val s.den : Int)) (s.p * (W.val r.den : Int)) := by
  have q1 := hr.den_pos
  have q2 := hs.den_pos
  have n1 := hr.num_pos
  have n2 := hs.num_pos
  unfold cmpF Fr.p
  obtain ⟨rn, rnum, rden⟩ := r
  obtain ⟨sn, snum, sden⟩ := s
  simp only at q1 q2 n1 n2 ⊢
  generalize W.val rnum = a at *
  generalize W.val rden = b at *
  generalize W.val snum = c at *
  generalize W.val sden = d at *
  clear hr hs
  cases rn <;> cases sn
  · rw [if_neg (by simp), if_neg (by simp), if_neg (by simp), if_neg (by simp), if_neg (by simp), cmpN_int, Int.natCast_mul, Int.natCast_mul]
  · rw [if_neg (by simp), if_neg (by simp), if_pos rfl, if_neg (by simp), if_pos rfl]
    have h1 : 0 < c * b := Nat.mul_pos (n2 rfl) q1
    have e1 : -(c : Int) * (b : Int) = -((c * b : Nat) : Int) := by rw [Int.natCast_mul, Int.neg_mul]
    have e2 : (a : Int) * (d : Int) = ((a * d : Nat) : Int) := by rw [Int.natCast_mul]
    rw [e1, e2]
    unfold cmpI
    rw [if_neg (by omega), if_pos (by omega)]
  · rw [if_neg (by simp), if_pos rfl, if_pos rfl, if_neg (by simp)]
    have h1 : 0 < a * d := Nat.mul_pos (n1 rfl) q2
    have e1 : -(a : Int) * (d : Int) = -((a * d : Nat) : Int) := by rw [Int.natCast_mul, Int.neg_mul]
    have e2 : (c : Int) * (b : Int) = ((c * b : Nat) : Int) := by rw [Int.natCast_mul]
    rw [e1, e2]
    unfold cmpI
    rw [if_pos (by omega)]
  · rw [if_pos ⟨rfl, rfl⟩, if_pos rfl, if_pos rfl, cmpN_int]
    have e1 : -(a : Int) * (d : Int) = -((a * d : Nat) : Int) := by rw [Int.natCast_mul, Int.neg_mul]
    have e2 : -(c : Int) * (b : Int) = -((c * b : Nat) : Int) := by rw [Int.natCast_mul, Int.neg_mul]
    rw [e1, e2, cmpI_neg, ← cmpI_swap]
theorem cmpF_cases {r s : Fr} (hr : r.Ok) (hs : s.Ok) : cmpF r s = -1 ∨ cmpF r s = 0 ∨ cmpF r s = 1 := by rw [cmpF_is hr hs]; exact cmpI_cases _ _
theorem cmpF_swap {r s : Fr} (hr : r.Ok) (hs : s.Ok) : cmpF s r = - cmpF r s := by rw [cmpF_is hr hs, cmpF_is hs hr]; exact cmpI_swap _ _
theorem negF_p {r : Fr} (hr : r.Ok) : (negF r).p = - r.p := by
  unfold Fr.p negF
  simp only
  by_cases h0 : r.num.length = 0
  · have hn := hr.ns h0
    have : r.num = [] := List.eq_nil_of_length_eq_zero h0
    rw [hn, this]; simp [W.val]
  · have hp : decide (0 < r.num.length) = true := by simp; omega
    rw [hp, Bool.and_true]
    cases r.neg <;> simp
theorem cmpF_neg {r s : Fr} (hr : r.Ok) (hs : s.Ok) : cmpF (negF r) (negF s) = - cmpF r s := by
  rw [cmpF_is hr hs, cmpF_is (negF_ok hr) (negF_ok hs), negF_p hr, negF_p hs]
  show cmpI (-r.p * (W.val s.den : Int)) (-s.p * (W.val r.den : Int)) = _
  rw [Int.neg_mul, Int.neg_mul, cmpI_neg]
end Go.Proofs.Ytigkfdoeneemeaa
/- WaterMirror, in plain Lean: the waters of the negated heights and of those turned round. -/
namespace Go.Proofs.Ytigkfdoeneemeaa

theorem sg_cases {l : List FL} (hok : ∀ x ∈ l, x.r.Ok) {i : Nat} (h0 : 0 < i) (hi : i < l.length) : sg l i = -1 ∨ sg l i = 0 ∨ sg l i = 1 := by
  unfold sg
  rw [rg_at (List.getElem?_eq_getElem hi), rg_at (List.getElem?_eq_getElem (show i - 1 < l.length by omega))]
  exact cmpF_cases (hok _ (List.getElem_mem hi)) (hok _ (List.getElem_mem _))
theorem sg_neg {l nl : List FL} (hok : ∀ x ∈ l, x.r.Ok) (h : nl.map (·.r) = l.map fun x => negF x.r) {i : Nat} (h0 : 0 < i) (hi : i < l.length) : sg nl i = - sg l i := by
  have hl : nl.length = l.length := by have := congrArg List.length h; simpa using this
  have at_ : ∀ j, (hj : j < l.length) → rg nl j = negF (l[j]).r := by
    intro j hj
    rw [rg_at (List.getElem?_eq_getElem (show j < nl.length by omega))]
    have := congrArg (fun m => m[j]?) h
    simp only [List.getElem?_map, List.getElem?_eq_getElem (show j < nl.length by omega), List.getElem?_eq_getElem hj, Option.map_some, Option.some.injEq] at this
    exact this
  unfold sg
  rw [at_ i hi, at_ (i - 1) (by omega), rg_at (List.getElem?_eq_getElem hi), rg_at (List.getElem?_eq_getElem (show i - 1 < l.length by omega))]
  exact cmpF_neg (hok _ (List.getElem_mem hi)) (hok _ (List.getElem_mem _))
theorem sg_round {l : List FL} (hok : ∀ x ∈ l, x.r.Ok) {i : Nat} (h0 : 0 < i) (hi : i < l.length) : sg l.reverse i = - sg l (l.length - i) := by
  have at_ : ∀ j, (hj : j < l.length) → rg l.reverse j = (l[l.length - 1 - j]).r := by
    intro j hj
    rw [rg_at (List.getElem?_eq_getElem (show j < l.reverse.length by simpa using hj))]
    rw [List.getElem_reverse]
  unfold sg
  rw [at_ i hi, at_ (i - 1) (by omega), rg_at (List.getElem?_eq_getElem (show l.length - i < l.length by omega)), rg_at (List.getElem?_eq_getElem (show l.length - i - 1 < l.length by omega))]
  have e1 : l.length - 1 - i = l.length - i - 1 := by omega
  have e2 : l.length - 1 - (i - 1) = l.length - i := by omega
  simp only [e1, e2]
  exact cmpF_swap (hok _ (List.getElem_mem _)) (hok _ (List.getElem_mem _))

theorem nextS_lt {f : Nat → Int} {n : Nat} : ∀ d m j, n - m = d → nextS f n m = some j → m ≤ j ∧ j < n := by
  intro d
  induction d with
  | zero => intro m j hd h; rw [nextS_out (by omega)] at h; cases h
  | succ d ih =>
    intro m j hd h
    by_cases h0 : f m = 0
    · rw [nextS_on (by omega) h0] at h
      have := ih (m + 1) j (by omega) h
      omega
    · rw [nextS_at (by omega) h0] at h
      cases h; omega
theorem wats_in {f : Nat → Int} {n i : Nat} {t : Nat × Nat × Bool} (h : t ∈ wats f n i) : 1 ≤ t.1 ∧ t.1 ≤ t.2.1 ∧ t.2.1 + 1 < n := by
  unfold wats at h
  rw [List.mem_filterMap] at h
  obtain ⟨a, -, h⟩ := h
  unfold wat at h
  split at h
  · cases h
  · rename_i h0
    split at h
    · cases h
    · rename_i k hk
      have := nextS_lt _ _ _ rfl hk
      split at h
      · cases h
      · cases h; simp; omega

/-- What the law asks of the three lists of waters, place by place. -/
theorem mirror_at {l nl : List FL} {wa wb wc : List WL} (hok : ∀ x ∈ l, x.r.Ok) (hn : nl.map (·.r) = l.map fun x => negF x.r)
    (ha : wa.map WL.key = (wats (sg l) l.length l.length).map (wkey l 0)) (hb : wb.map WL.key = (wats (sg nl) nl.length nl.length).map (wkey nl 0)) (hc : wc.map WL.key = (wats (sg l.reverse) l.reverse.length l.reverse.length).map (wkey l.reverse 0)) :
    wb.length = wa.length ∧ wc.length = wa.length ∧ ∀ i, i < wa.length → ∀ x y z, wa[i]? = some x → wb[i]? = some y → wc[wa.length - 1 - i]? = some z →
      y.tick = x.tick ∧ y.last = x.last ∧ y.top = !x.top ∧ z.tick = (l.length : Int) - 1 - x.last ∧ z.last = (l.length : Int) - 1 - x.tick ∧ z.top = x.top ∧ 0 ≤ x.tick ∧ x.tick ≤ l.length ∧ 0 ≤ x.last ∧ x.last ≤ l.length := by
  have hl : nl.length = l.length := by have := congrArg List.length hn; simpa using this
  rw [hl, wats_neg (f := sg l) (fun i h0 hi => sg_cases hok h0 hi) (fun i h0 hi => sg_neg hok hn h0 hi)] at hb
  rw [List.length_reverse, wats_round (f := sg l) (fun i h0 hi => sg_cases hok h0 hi) (fun i h0 hi => sg_round hok h0 hi)] at hc
  have hin : ∀ t ∈ wats (sg l) l.length l.length, 1 ≤ t.1 ∧ t.1 ≤ t.2.1 ∧ t.2.1 + 1 < l.length := fun t ht => wats_in ht
  generalize wats (sg l) l.length l.length = ws at *
  have la : wa.length = ws.length := by have := congrArg List.length ha; simpa using this
  have lb : wb.length = ws.length := by have := congrArg List.length hb; simpa using this
  have lc : wc.length = ws.length := by have := congrArg List.length hc; simpa using this
  refine ⟨by omega, by omega, fun i hi x y z hx hy hz => ?_⟩
  have hiw : i < ws.length := by omega
  have e1 := congrArg (fun m => m[i]?) ha
  have e2 := congrArg (fun m => m[i]?) hb
  have e3 := congrArg (fun m => m[wa.length - 1 - i]?) hc
  simp only [List.getElem?_map, hx, hy, hz, List.getElem?_eq_getElem hiw, Option.map_some, Option.some.injEq] at e1 e2 e3
  rw [List.getElem?_reverse (by simp; omega)] at e3
  have e4 : (List.map (fun p : Nat × Nat × Bool => (l.length - 1 - p.2.1, l.length - 1 - p.1, p.2.2)) ws).length - 1 - (wa.length - 1 - i) = i := by simp; omega
  rw [e4, List.getElem?_map, List.getElem?_eq_getElem hiw] at e3
  have hw := hin _ (List.getElem_mem hiw)
  simp only [Option.map_some, Option.some.injEq, WL.key, wkey, Prod.mk.injEq] at e1 e2 e3
  obtain ⟨x1, x2, x3, -⟩ := e1
  obtain ⟨y1, y2, y3, -⟩ := e2
  obtain ⟨z1, z2, z3, -⟩ := e3
  refine ⟨by omega, by omega, by rw [y3, x3], by omega, by omega, by rw [z3, x3], by omega, by omega, by omega, by omega⟩
end Go.Proofs.Ytigkfdoeneemeaa
/- The walk of water.wrong. -/
namespace Go.Proofs.Ytigkfdoeneemeaa
open Go.RowKit

def wrongN (x : WL) : Int := if x.tick < 0 then 2 else if 1048576 < x.last then 2 else if x.last < x.tick then 2 else chkF x.h.r
def wrongS (a x : WL) : Int :=
  if x.tick < 0 then 2 else if 1048576 < x.last then 2 else if x.last < x.tick then 2 else if x.tick ≤ a.last then 2 else if chkF x.h.r ≠ 0 then chkF x.h.r else if x.top = a.top then 2 else if cmpF x.h.r a.h.r = (if x.top then 1 else -1) then 0 else 2
abbrev wlV (x : WL) : Value := .agg #[.int .i64 x.tick, .int .i64 x.last, .bool x.top, .bool x.h.r.neg, .slice x.h.a x.h.r.num.length x.h.c, .slice x.h.b x.h.r.den.length x.h.d]

theorem dlt {a b : Int} (h : a < b) : decide (a < b) = true := by simpa using h
theorem dge {a b : Int} (h : ¬ a < b) : decide (a < b) = false := by simpa using h
theorem dle {a b : Int} (h : a ≤ b) : decide (a ≤ b) = true := by simpa using h
theorem dgt {a b : Int} (h : ¬ a ≤ b) : decide (a ≤ b) = false := by simpa using h

theorem bneI {a b : Int} (h : ¬ a = b) : (a != b) = true := by simpa using h
set_option maxRecDepth 100000 in
set_option maxHeartbeats 4000000 in
theorem wrong_none (x : WL) (w : World) (hx : FL.In w x.h) :
    Calls Try.prog 123 #[.pointer none, wlV x] w fun e w' => e = .returned (.int .i64 (wrongN x)) ∧ ∃ y, w' = w.ext y := by
  have he : wrongN x = if x.tick < 0 then 2 else if 1048576 < x.last then 2 else if x.last < x.tick then 2 else chkF x.h.r := rfl
  have CK := Lib.hid (fun (W : World) (hb : Blw w W) => ratioCheck_any x.h.r x.h.a x.h.c x.h.b x.h.d W (hx.blw hb))
  clear hx
  obtain ⟨t, la, tp, ⟨⟨rn, rnum, rden⟩, ra, rc, rb, rd⟩⟩ := x
  simp only at he CK
  generalize wrongN _ = res at *
  generalize chkF _ = u at *
  have HE := Lib.hid he
  clear he
  go_enter Try.func123, Try.ntmps123
  go_wp2_with fail
  by_cases h1 : t < 0
  · have d1 := dlt h1
    have HE1 := Lib.hid (HE.out.trans (if_pos h1))
    clear h1 HE
    go_quiet (fail)
    go_wp2
    go_ret
    exact ⟨ret_i64 HE1.out.symm, Blw.is (by repeat (first | exact Blw.refl _ | apply Blw.ext | apply Blw.alloc | apply Blw.drewN | apply Blw.drew | refine Blw.setCell ?_ _ _ (by simp)))⟩
  have d1 := dge h1
  replace HE := Lib.hid (HE.out.trans (if_neg h1))
  clear h1
  by_cases h2 : 1048576 < la
  · have d2 := dlt h2
    have HE1 := Lib.hid (HE.out.trans (if_pos h2))
    clear h2 HE
    go_quiet (fail)
    go_wp2
    go_ret
    exact ⟨ret_i64 HE1.out.symm, Blw.is (by repeat (first | exact Blw.refl _ | apply Blw.ext | apply Blw.alloc | apply Blw.drewN | apply Blw.drew | refine Blw.setCell ?_ _ _ (by simp)))⟩
  have d2 := dge h2
  replace HE := Lib.hid (HE.out.trans (if_neg h2))
  clear h2
  by_cases h3 : la < t
  · have d3 := dlt h3
    have HE1 := Lib.hid (HE.out.trans (if_pos h3))
    clear h3 HE
    go_quiet (fail)
    go_wp2
    go_ret
    exact ⟨ret_i64 HE1.out.symm, Blw.is (by repeat (first | exact Blw.refl _ | apply Blw.ext | apply Blw.alloc | apply Blw.drewN | apply Blw.drew | refine Blw.setCell ?_ _ _ (by simp)))⟩
  have d3 := dge h3
  replace HE := Lib.hid (HE.out.trans (if_neg h3))
  clear h3
  go_quiet (fail)
  go_wp2_with fail
  refine Calls.mono (CK.out _ (by repeat (first | exact Blw.refl _ | apply Blw.ext | apply Blw.alloc | apply Blw.drewN | apply Blw.drew | refine Blw.setCell ?_ _ _ (by simp)))) ?_
  rintro e w1 ⟨rfl, x1, rfl⟩
  clear CK
  by_cases hu : u = 0
  · subst hu
    go_wp2
    go_ret
    exact ⟨ret_i64 HE.out.symm, Blw.is (by repeat (first | exact Blw.refl _ | apply Blw.ext | apply Blw.alloc | apply Blw.drewN | apply Blw.drew | refine Blw.setCell ?_ _ _ (by simp)))⟩
  · have q : (u != 0) = true := by simpa using hu
    clear hu
    go_wp2
    go_ret
    exact ⟨ret_i64 HE.out.symm, Blw.is (by repeat (first | exact Blw.refl _ | apply Blw.ext | apply Blw.alloc | apply Blw.drewN | apply Blw.drew | refine Blw.setCell ?_ _ _ (by simp)))⟩
set_option maxRecDepth 100000 in
set_option maxHeartbeats 4000000 in
theorem wrong_some (y x : WL) (g o : Nat) (w : World) (hx : FL.In w x.h) (hy : FL.In w y.h) (oy : y.h.r.Ok) (hg : g < w.heap.size) (c1 : w.cell? ⟨g, o + 1, none⟩ = some (.int .i64 y.last)) (c2 : w.cell? ⟨g, o + 2, none⟩ = some (.bool y.top)) (c3 : w.cell? ⟨g, o + 3, none⟩ = some (.bool y.h.r.neg)) (c4 : w.cell? ⟨g, o + 4, none⟩ = some (.slice y.h.a y.h.r.num.length y.h.c)) (c5 : w.cell? ⟨g, o + 5, none⟩ = some (.slice y.h.b y.h.r.den.length y.h.d)) :
    Calls Try.prog 123 #[.pointer (some ⟨g, o, none⟩), wlV x] w fun e w' => e = .returned (.int .i64 (wrongS y x)) ∧ ∃ y, w' = w.ext y := by
  have he : wrongS y x = if x.tick < 0 then 2 else if 1048576 < x.last then 2 else if x.last < x.tick then 2 else if x.tick ≤ y.last then 2 else if chkF x.h.r ≠ 0 then chkF x.h.r else if x.top = y.top then 2 else if cmpF x.h.r y.h.r = (if x.top then 1 else -1) then 0 else 2 := rfl
  have FR := Lib.hid (fun (hu : chkF x.h.r = 0) (W : World) (hb : Blw w W) => from_ok y.h x.h W (hy.blw hb) (hx.blw hb) oy (ok_chkF hu))
  clear hy oy
  have CK := Lib.hid (fun (W : World) (hb : Blw w W) => ratioCheck_any x.h.r x.h.a x.h.c x.h.b x.h.d W (hx.blw hb))
  clear hx
  obtain ⟨t, la, tp, ⟨⟨rn, rnum, rden⟩, ra, rc, rb, rd⟩⟩ := x
  obtain ⟨yt, yl, yp, ⟨⟨yn, ynum, yden⟩, ya, yc, yb, yd⟩⟩ := y
  simp only at he CK FR c1 c2 c3 c4 c5
  generalize wrongS _ _ = res at *
  generalize chkF _ = u at *
  generalize cmpF _ _ = cm at *
  have HE := Lib.hid he
  clear he
  go_enter Try.func123, Try.ntmps123
  go_wp2_with fail
  by_cases h1 : t < 0
  · have d1 := dlt h1
    have HE1 := Lib.hid (HE.out.trans (if_pos h1))
    clear h1 HE
    go_quiet (fail)
    go_wp2
    go_ret
    exact ⟨ret_i64 HE1.out.symm, Blw.is (by repeat (first | exact Blw.refl _ | apply Blw.ext | apply Blw.alloc | apply Blw.drewN | apply Blw.drew | refine Blw.setCell ?_ _ _ (by simp)))⟩
  have d1 := dge h1
  replace HE := Lib.hid (HE.out.trans (if_neg h1))
  clear h1
  by_cases h2 : 1048576 < la
  · have d2 := dlt h2
    have HE1 := Lib.hid (HE.out.trans (if_pos h2))
    clear h2 HE
    go_quiet (fail)
    go_wp2
    go_ret
    exact ⟨ret_i64 HE1.out.symm, Blw.is (by repeat (first | exact Blw.refl _ | apply Blw.ext | apply Blw.alloc | apply Blw.drewN | apply Blw.drew | refine Blw.setCell ?_ _ _ (by simp)))⟩
  have d2 := dge h2
  replace HE := Lib.hid (HE.out.trans (if_neg h2))
  clear h2
  by_cases h3 : la < t
  · have d3 := dlt h3
    have HE1 := Lib.hid (HE.out.trans (if_pos h3))
    clear h3 HE
    go_quiet (fail)
    go_wp2
    go_ret
    exact ⟨ret_i64 HE1.out.symm, Blw.is (by repeat (first | exact Blw.refl _ | apply Blw.ext | apply Blw.alloc | apply Blw.drewN | apply Blw.drew | refine Blw.setCell ?_ _ _ (by simp)))⟩
  have d3 := dge h3
  replace HE := Lib.hid (HE.out.trans (if_neg h3))
  clear h3
  by_cases h4 : t ≤ yl
  · have d4 := dle h4
    have HE1 := Lib.hid (HE.out.trans (if_pos h4))
    clear h4 HE
    go_quiet (fail)
    go_wp2
    go_ret
    exact ⟨ret_i64 HE1.out.symm, Blw.is (by repeat (first | exact Blw.refl _ | apply Blw.ext | apply Blw.alloc | apply Blw.drewN | apply Blw.drew | refine Blw.setCell ?_ _ _ (by simp)))⟩
  have d4 := dgt h4
  replace HE := Lib.hid (HE.out.trans (if_neg h4))
  clear h4
  go_quiet (fail)
  go_wp2_with fail
  refine Calls.mono (CK.out _ (by repeat (first | exact Blw.refl _ | apply Blw.ext | apply Blw.alloc | apply Blw.drewN | apply Blw.drew | refine Blw.setCell ?_ _ _ (by simp)))) ?_
  rintro e W ⟨rfl, x1, hWe⟩
  have hbW : Blw (w.alloc (.cells #[.int .i64 t, .int .i64 la, .bool tp, .bool rn, .slice ra rnum.length rc, .slice rb rden.length rd] 90)) W := by rw [hWe]; exact (by repeat (first | exact Blw.refl _ | apply Blw.ext | apply Blw.alloc | apply Blw.drewN | apply Blw.drew | refine Blw.setCell ?_ _ _ (by simp)))
  clear CK hWe
  obtain ⟨hsW, b0, b1, b2, b3, b4, b5⟩ := box6 hbW
  replace hbW := ((Blw.refl w).alloc _).trans hbW
  replace c1 := (Below.cell hbW hg).trans c1
  replace c2 := (Below.cell hbW hg).trans c2
  replace c3 := (Below.cell hbW hg).trans c3
  replace c4 := (Below.cell hbW hg).trans c4
  replace c5 := (Below.cell hbW hg).trans c5
  replace hg := Nat.lt_of_lt_of_le hg hbW.size
  by_cases hu : u = 0
  · have FR1 := Lib.hid (FR.out hu)
    have HE1 := Lib.hid (HE.out.trans (if_neg (by simpa using hu)))
    subst hu
    clear FR HE
    by_cases h5 : tp = yp
    · have HE2 := Lib.hid (HE1.out.trans (if_pos h5))
      subst h5
      clear HE1 FR1
      cases tp
      all_goals
        go_wp2_with fail
        go_quiet (fail)
        go_wp2
        go_ret
        exact ⟨ret_i64 HE2.out.symm, Blw.is (hbW.trans (by repeat (first | exact Blw.refl _ | apply Blw.ext | apply Blw.alloc | apply Blw.drewN | apply Blw.drew | refine Blw.setCell ?_ _ _ (by simp))))⟩
    · have HE2 := Lib.hid (HE1.out.trans (if_neg h5))
      clear HE1
      have h6 : yp = !tp := by cases tp <;> cases yp <;> simp_all
      subst h6
      clear h5
      by_cases h7 : cm = (if tp = true then 1 else -1)
      · have HE3 := Lib.hid (HE2.out.trans (if_pos h7))
        clear HE2
        cases tp
        all_goals
          simp only [Bool.false_eq_true, if_true, if_false] at h7
          simp only [Bool.not_false, Bool.not_true] at c2
          subst h7
          go_wp2_with fail
          refine wp_region_ext_lit (by kernel_rfl) (by kernel_rfl) ?_
          repeat (quiet_step ((go_at_call 128; (with_reducible exact Calls.ext_of (FR1.out _ (hbW.trans (by repeat (first | exact Blw.refl _ | apply Blw.ext | apply Blw.alloc | apply Blw.drewN | apply Blw.drew | refine Blw.setCell ?_ _ _ (by simp)))))))))
          refine wpQuiet_nil ?_
          rintro _ ⟨z, rfl⟩
          go_wp2
          go_ret
          exact ⟨ret_i64 HE3.out.symm, Blw.is (hbW.trans (by repeat (first | exact Blw.refl _ | apply Blw.ext | apply Blw.alloc | apply Blw.drewN | apply Blw.drew | refine Blw.setCell ?_ _ _ (by simp))))⟩
      · have HE3 := Lib.hid (HE2.out.trans (if_neg h7))
        clear HE2
        cases tp
        all_goals
          simp only [Bool.false_eq_true, if_true, if_false] at h7
          simp only [Bool.not_false, Bool.not_true] at c2
          have q := bneI h7
          clear h7
          go_wp2_with fail
          refine wp_region_ext_lit (by kernel_rfl) (by kernel_rfl) ?_
          repeat (quiet_step ((go_at_call 128; (with_reducible exact Calls.ext_of (FR1.out _ (hbW.trans (by repeat (first | exact Blw.refl _ | apply Blw.ext | apply Blw.alloc | apply Blw.drewN | apply Blw.drew | refine Blw.setCell ?_ _ _ (by simp)))))))))
          refine wpQuiet_nil ?_
          rintro _ ⟨z, rfl⟩
          go_wp2
          go_ret
          exact ⟨ret_i64 HE3.out.symm, Blw.is (hbW.trans (by repeat (first | exact Blw.refl _ | apply Blw.ext | apply Blw.alloc | apply Blw.drewN | apply Blw.drew | refine Blw.setCell ?_ _ _ (by simp))))⟩
  · have q : (u != 0) = true := by simpa using hu
    have HE1 := Lib.hid (HE.out.trans (if_pos hu))
    clear hu FR HE
    go_wp2
    go_ret
    exact ⟨ret_i64 HE1.out.symm, Blw.is hbW⟩
end Go.Proofs.Ytigkfdoeneemeaa
/- The walk of water.Check. -/
namespace Go.Proofs.Ytigkfdoeneemeaa
open Go.RowKit

def chkAt (l : List WL) (i : Nat) : Int :=
  match l[i]? with
  | none => 0
  | some x => if i = 0 then wrongN x else match l[i - 1]? with
    | none => 0
    | some y => wrongS y x
/-- The first of some places at which something is wrong. -/
def firstBad (f : Nat → Int) : Nat → Nat → Option Nat
  | _, 0 => none
  | i, n + 1 => if f i = 0 then firstBad f (i + 1) n else some i
def checkW (l : List WL) : Int × Int :=
  if 4096 < l.length then (3, -1) else match firstBad (chkAt l) 0 l.length with
    | none => (0, 0)
    | some i => (chkAt l i, i)
theorem firstBad_on {f : Nat → Int} {i n : Nat} (h : f i = 0) : firstBad f i (n + 1) = firstBad f (i + 1) n := by rw [firstBad, if_pos h]
theorem firstBad_at {f : Nat → Int} {i n : Nat} (h : ¬ f i = 0) : firstBad f i (n + 1) = some i := by rw [firstBad, if_neg h]
theorem wrongN_chk {x : WL} (h : wrongN x = 0) : chkF x.h.r = 0 := by
  unfold wrongN at h
  repeat (split at h; (cases h))
  exact h
theorem wrongS_chk {y x : WL} (h : wrongS y x = 0) : chkF x.h.r = 0 := by
  unfold wrongS at h
  repeat (split at h; (cases h))
  split at h
  · rename_i h1; exact absurd h h1
  · rename_i h1; simpa using h1
theorem chkAt_chk {l : List WL} {i : Nat} {x : WL} (hx : l[i]? = some x) (h : chkAt l i = 0) : chkF x.h.r = 0 := by
  unfold chkAt at h
  rw [hx] at h
  simp only at h
  split at h
  · exact wrongN_chk h
  · rename_i h0
    obtain ⟨hi, -⟩ := List.getElem?_eq_some_iff.1 hx
    rw [List.getElem?_eq_getElem (show i - 1 < l.length by omega)] at h
    exact wrongS_chk h

/-- A block of two cells, written anew. -/
theorem pairC {w : World} {g : Nat} {v0 v1 : Value} {t : TypeId} (h : w.heap[g]? = some (.cells #[v0, v1] t (0, 0))) (u0 u1 : Value) :
    (∀ i, w.frozen? ⟨g, i, none⟩ = false) ∧ w.cell? ⟨g, 0, none⟩ = some v0 ∧ w.cell? ⟨g, 1, none⟩ = some v1 ∧ (w.setCell ⟨g, 0, none⟩ u0).cell? ⟨g, 0, none⟩ = some u0 ∧ ((w.setCell ⟨g, 0, none⟩ u0).setCell ⟨g, 1, none⟩ u1).cell? ⟨g, 1, none⟩ = some u1 :=
  ⟨fun i => frozen_of_row w g i _ _ h, (cell_of_row w g 0 _ _ _ h).trans rfl, (cell_of_row w g 1 _ _ _ h).trans rfl, (cell_of_row _ g 0 _ _ _ (at_set 0 u0 h)).trans (by simp), (cell_of_row _ g 1 _ _ _ (at_set 1 u1 (at_set 0 u0 h))).trans (by simp)⟩

set_option maxRecDepth 100000 in
set_option maxHeartbeats 4000000 in
theorem waterCheck_any (A : Option Addr) (l : List WL) (cap : Nat) (w : World) (hA : Arr w A (wls l)) (hin : ∀ x ∈ l, FL.In w x.h) (hl : l.length ≤ 9223372036854775807) :
    Calls Try.prog 71 #[.slice A l.length cap] w fun e w' => e = .returned (.agg #[.int .i64 (checkW l).1, .int .i64 (checkW l).2]) ∧ ∃ x, w' = w.ext x := by
  have hR0 : (w.alloc (.cells #[.int .i64 0, .int .i64 0] 36)).heap[w.heap.size]? = some (.cells #[.int .i64 0, .int .i64 0] 36 (0, 0)) := heap_alloc_new _ _
  by_cases h0 : 4096 < l.length
  · have d1 : decide ((4096 : Int) < (l.length : Int)) = true := by simp; omega
    have HE := Lib.hid (show checkW l = (3, -1) from if_pos h0)
    obtain ⟨hfz, e0, e1, r0, r1⟩ := pairC hR0 (.int .i64 3) (.int .i64 (-1))
    clear hR0 h0
    go_enter Try.func71, Try.ntmps71
    go_wp2
    exact bodyPost_ret (v := .agg #[.int .i64 3, .int .i64 (-1)]) (by simp [results, Try.results71, go_sem, r0, r1]) rfl ⟨by rw [HE.out], Blw.is (by repeat (first | exact Blw.refl _ | apply Blw.ext | apply Blw.alloc | apply Blw.drewN | apply Blw.drew | refine Blw.setCell ?_ _ _ (by simp)))⟩
  have d1 : decide ((4096 : Int) < (l.length : Int)) = false := by simp; omega
  have he : checkW l = match firstBad (chkAt l) 0 l.length with | none => (0, 0) | some i => (chkAt l i, i) := if_neg h0
  have HE := Lib.hid he
  have HIN := Lib.hid hin
  have hl4 : l.length ≤ 4096 := by omega
  clear he hin h0 hl
  go_enter Try.func71, Try.ntmps71
  go_wp2
  clear d1
  go_loopw [3, 12] (fun v3 vi wr => ∃ k : Nat, k ≤ l.length ∧ vi = .int .i64 k ∧ ((k = 0 ∧ v3 = .pointer none) ∨ (∃ (m : Nat) (b o : Nat), k = m + 1 ∧ A = some ⟨b, o, none⟩ ∧ v3 = .pointer (some ⟨b, o + m * 6, none⟩) ∧ Hid (chkAt l m = 0))) ∧ Hid (firstBad (chkAt l) 0 l.length = firstBad (chkAt l) k (l.length - k)) ∧ Blw w wr ∧ wr.heap[w.heap.size]? = some (.cells #[.int .i64 0, .int .i64 0] 36 (0, 0))) (fun _ i _ => l.length - (intOf i).toNat)
  case atStart => exact ⟨0, Nat.zero_le _, rfl, .inl ⟨rfl, rfl⟩, rfl, (by repeat (first | exact Blw.refl _ | apply Blw.ext | apply Blw.alloc | apply Blw.drewN | apply Blw.drew | refine Blw.setCell ?_ _ _ (by simp))), hR0⟩
  case round =>
    obtain ⟨k, hk, rfl, hah, hfb, hb, hR⟩ := hrel
    clear hR0
    by_cases hlt : k < l.length
    · obtain ⟨x, b, o, hgx, hmx, e1, hbs, c0, c1, c2, c3, c4, c5⟩ := wl_at (hA.blw hb) hlt
      have hxin := (HIN.out x hmx).blw hb
      have hlk : l.length - k = l.length - (k + 1) + 1 := by omega
      rw [hlk] at hfb
      have key : (chkAt l k = 0 → firstBad (chkAt l) 0 l.length = firstBad (chkAt l) (k + 1) (l.length - (k + 1))) ∧ (¬ chkAt l k = 0 → checkW l = (chkAt l k, (k : Int))) := by
        constructor
        · intro h; rw [hfb.out, firstBad_on h]
        · intro h; rw [HE.out, hfb.out, firstBad_at h]
      have HK := Lib.hid key
      clear key hfb hlk hmx
      have hwr : ∃ u, chkAt l k = u ∧ (∀ W : World, Blw wr W → Calls Try.prog 123 #[u3, wlV x] W fun e w' => e = .returned (.int .i64 u) ∧ ∃ y, w' = W.ext y) := by
        rcases hah with ⟨rfl, rfl⟩ | ⟨m, b', o', rfl, e2, rfl, hm⟩
        · exact ⟨wrongN x, by unfold chkAt; rw [hgx]; rfl, fun W hW => wrong_none x W (hxin.blw hW)⟩
        · obtain ⟨y, b2, o2, hgy, hmy, e3, hbs2, -, f1, f2, f3, f4, f5⟩ := wl_at (hA.blw hb) (show m < l.length by omega)
          rw [e2] at e3
          simp only [Option.some.injEq, Addr.mk.injEq] at e3
          obtain ⟨rfl, rfl, -⟩ := e3
          refine ⟨wrongS y x, ?_, fun W hW => wrong_some y x _ _ W (hxin.blw hW) (((HIN.out y hmy).blw hb).blw hW) (ok_chkF (chkAt_chk hgy hm.out)) (Nat.lt_of_lt_of_le hbs2 hW.size) ((Below.cell hW hbs2).trans f1) ((Below.cell hW hbs2).trans f2) ((Below.cell hW hbs2).trans f3) ((Below.cell hW hbs2).trans f4) ((Below.cell hW hbs2).trans f5)⟩
          unfold chkAt
          rw [hgx]
          simp only [Nat.add_one_ne_zero, if_false, Nat.add_sub_cancel]
          rw [hgy]
      obtain ⟨u, hu, hw⟩ := hwr
      subst e1
      have HW := Lib.hid hw
      have HU := Lib.hid hu
      clear hw hu hah hxin hgx
      go_wp2_with fail
      refine Calls.mono (HW.out _ (by repeat (first | exact Blw.refl _ | apply Blw.ext | apply Blw.alloc | apply Blw.drewN | apply Blw.drew | refine Blw.setCell ?_ _ _ (by simp)))) ?_
      rintro e w1 ⟨rfl, x1, rfl⟩
      clear HW
      by_cases hz : u = 0
      · have HF := Lib.hid (HK.out.1 (HU.out.trans hz))
        have HZ := Lib.hid (HU.out.trans hz)
        subst hz
        clear HK HU
        go_wp2
        go_roundw
        case rel => exact ⟨k + 1, by omega, by go_num, .inr ⟨k, _, _, rfl, rfl, rfl, HZ⟩, HF, hb.trans (by repeat (first | exact Blw.refl _ | apply Blw.ext | apply Blw.alloc | apply Blw.drewN | apply Blw.drew | refine Blw.setCell ?_ _ _ (by simp))), at_ext _ hR⟩
        case measure => simp [intOf]; omega
      · have q : (u != 0) = true := by simpa using hz
        have HF := Lib.hid (HK.out.2 (fun e => hz (HU.out.symm.trans e)))
        have HF2 := Lib.hid (HF.out.trans (by rw [HU.out]))
        obtain ⟨hfz, e0, e1, r0, r1⟩ := pairC (at_ext x1 hR) (.int .i64 u) (.int .i64 k)
        clear HK HU HF hz hR
        go_wp2
        exact bodyPost_ret (v := .agg #[.int .i64 u, .int .i64 k]) (by simp [results, Try.results71, go_sem, r0, r1]) rfl ⟨by rw [HF2.out], Blw.is (((hb.ext x1).setCell _ _ (Nat.le_refl _)).setCell _ _ (Nat.le_refl _))⟩
    · have hkl : k = l.length := by omega
      subst hkl
      have HF : Hid (checkW l = (0, 0)) := by
        show _ = _
        rw [HE.out, hfb.out, Nat.sub_self]; rfl
      obtain ⟨hfz, e0, e1, r0, r1⟩ := pairC hR (.int .i64 0) (.int .i64 0)
      clear hR hfb hah hlt
      go_wp2
      exact bodyPost_ret (v := .agg #[.int .i64 0, .int .i64 0]) (by simp [results, Try.results71, go_sem, r0, r1]) rfl ⟨by rw [HF.out], Blw.is ((hb.setCell _ _ (Nat.le_refl _)).setCell _ _ (Nat.le_refl _))⟩
end Go.Proofs.Ytigkfdoeneemeaa
/- WaterMeans, in plain Lean: a list's waters pass Check. -/
namespace Go.Proofs.Ytigkfdoeneemeaa

theorem cmpI_eq {x y : Int} : cmpI x y = 0 ↔ x = y := by unfold cmpI; split <;> (try split) <;> omega
theorem cmpI_lt {x y : Int} : cmpI x y = -1 ↔ x < y := by unfold cmpI; split <;> (try split) <;> omega
theorem cmpI_gt {x y : Int} : cmpI x y = 1 ↔ y < x := by unfold cmpI; split <;> (try split) <;> omega
/-- Cross products, carried over a third fraction. -/
theorem cross_le {p q r a b c : Int} (hb : 0 < b) (ha : 0 < a) (hc : 0 < c) (h1 : p * b ≤ q * a) (h2 : q * c ≤ r * b) : p * c ≤ r * a := by
  have e1 := Int.mul_le_mul_of_nonneg_right h1 (Int.le_of_lt hc)
  have e2 := Int.mul_le_mul_of_nonneg_right h2 (Int.le_of_lt ha)
  have e : (p * c) * b ≤ (r * a) * b := by
    have x1 : p * b * c = p * c * b := Int.mul_right_comm p b c
    have x2 : q * a * c = q * c * a := Int.mul_right_comm q a c
    have x3 : r * b * a = r * a * b := Int.mul_right_comm r b a
    omega
  exact Int.le_of_mul_le_mul_right e hb
theorem cross_lt {p q r a b c : Int} (hb : 0 < b) (ha : 0 < a) (hc : 0 < c) (h1 : p * b < q * a) (h2 : q * c ≤ r * b) : p * c < r * a := by
  have e1 := Int.mul_lt_mul_of_pos_right h1 hc
  have e2 := Int.mul_le_mul_of_nonneg_right h2 (Int.le_of_lt ha)
  have e : (p * c) * b < (r * a) * b := by
    have x1 : p * b * c = p * c * b := Int.mul_right_comm p b c
    have x2 : q * a * c = q * c * a := Int.mul_right_comm q a c
    have x3 : r * b * a = r * a * b := Int.mul_right_comm r b a
    omega
  exact Int.lt_of_mul_lt_mul_right e (Int.le_of_lt hb)
theorem cross_lt' {p q r a b c : Int} (hb : 0 < b) (ha : 0 < a) (hc : 0 < c) (h1 : p * b ≤ q * a) (h2 : q * c < r * b) : p * c < r * a := by
  have e1 := Int.mul_le_mul_of_nonneg_right h1 (Int.le_of_lt hc)
  have e2 := Int.mul_lt_mul_of_pos_right h2 ha
  have e : (p * c) * b < (r * a) * b := by
    have x1 : p * b * c = p * c * b := Int.mul_right_comm p b c
    have x2 : q * a * c = q * c * a := Int.mul_right_comm q a c
    have x3 : r * b * a = r * a * b := Int.mul_right_comm r b a
    omega
  exact Int.lt_of_mul_lt_mul_right e (Int.le_of_lt hb)
theorem Fr.Ok.dp {r : Fr} (h : r.Ok) : (0 : Int) < (W.val r.den : Int) := by have := h.den_pos; omega
theorem cmpF_self {r : Fr} (hr : r.Ok) : cmpF r r = 0 := by rw [cmpF_is hr hr]; exact cmpI_eq.2 rfl
/-- Comparing over a third one. -/
theorem cmpF_trans {a b c : Fr} {s : Int} (ha : a.Ok) (hb : b.Ok) (hc : c.Ok) (hs : s = 1 ∨ s = -1) (h1 : cmpF a b = 0 ∨ cmpF a b = s) (h2 : cmpF b c = 0 ∨ cmpF b c = s) :
    (cmpF a c = 0 ∧ cmpF a b = 0 ∧ cmpF b c = 0) ∨ (cmpF a c = s ∧ (cmpF a b = s ∨ cmpF b c = s)) := by
  rw [cmpF_is ha hb] at h1 ⊢
  rw [cmpF_is hb hc] at h2 ⊢
  rw [cmpF_is ha hc]
  have da := ha.dp
  have db := hb.dp
  have dc := hc.dp
  generalize (W.val a.den : Int) = A at *
  generalize (W.val b.den : Int) = B at *
  generalize (W.val c.den : Int) = C at *
  generalize a.p = p at *
  generalize b.p = q at *
  generalize c.p = r at *
  rcases hs with rfl | rfl
  · rcases h1 with h1 | h1
    · have e1 := cmpI_eq.1 h1
      rcases h2 with h2 | h2
      · have e2 := cmpI_eq.1 h2
        exact .inl ⟨cmpI_eq.2 (Int.le_antisymm (cross_le (q := q) db da dc (by omega) (by omega)) (cross_le (q := q) db dc da (by omega) (by omega))), h1, h2⟩
      · have e2 := cmpI_gt.1 h2
        exact .inr ⟨cmpI_gt.2 (cross_lt (q := q) db dc da e2 (by omega)), .inr h2⟩
    · have e1 := cmpI_gt.1 h1
      rcases h2 with h2 | h2
      · have e2 := cmpI_eq.1 h2
        exact .inr ⟨cmpI_gt.2 (cross_lt' (q := q) db dc da (by omega) e1), .inl h1⟩
      · have e2 := cmpI_gt.1 h2
        exact .inr ⟨cmpI_gt.2 (cross_lt (q := q) db dc da e2 (by omega)), .inl h1⟩
  · rcases h1 with h1 | h1
    · have e1 := cmpI_eq.1 h1
      rcases h2 with h2 | h2
      · have e2 := cmpI_eq.1 h2
        exact .inl ⟨cmpI_eq.2 (Int.le_antisymm (cross_le (q := q) db da dc (by omega) (by omega)) (cross_le (q := q) db dc da (by omega) (by omega))), h1, h2⟩
      · have e2 := cmpI_lt.1 h2
        exact .inr ⟨cmpI_lt.2 (cross_lt' (q := q) db da dc (by omega) e2), .inr h2⟩
    · have e1 := cmpI_lt.1 h1
      rcases h2 with h2 | h2
      · have e2 := cmpI_eq.1 h2
        exact .inr ⟨cmpI_lt.2 (cross_lt (q := q) db da dc e1 (by omega)), .inl h1⟩
      · have e2 := cmpI_lt.1 h2
        exact .inr ⟨cmpI_lt.2 (cross_lt (q := q) db da dc e1 (by omega)), .inl h1⟩
/-- Steps that all go one way, or nowhere. -/
theorem run_cmp {l : List FL} (hok : ∀ x ∈ l, x.r.Ok) {c : Int} (hc : c = 1 ∨ c = -1) {s : Nat} : ∀ d, s + d < l.length → (∀ j, s < j → j ≤ s + d → sg l j = 0 ∨ sg l j = c) →
    (cmpF (rg l (s + d)) (rg l s) = 0 ∧ ∀ j, s < j → j ≤ s + d → sg l j = 0) ∨ (cmpF (rg l (s + d)) (rg l s) = c ∧ ∃ j, s < j ∧ j ≤ s + d ∧ sg l j = c) := by
  have okr : ∀ i, i < l.length → (rg l i).Ok := fun i hi => by rw [rg_at (List.getElem?_eq_getElem hi)]; exact hok _ (List.getElem_mem hi)
  intro d
  induction d with
  | zero => intro h _; exact .inl ⟨cmpF_self (okr s (by omega)), fun j h1 h2 => by omega⟩
  | succ d ih =>
    intro h hj
    have h1 := ih (by omega) (fun j a b => hj j a (by omega))
    have e : sg l (s + (d + 1)) = cmpF (rg l (s + (d + 1))) (rg l (s + d)) := by unfold sg; rw [show s + (d + 1) - 1 = s + d by omega]
    have h2 := hj (s + (d + 1)) (by omega) (by omega)
    rw [e] at h2
    have h3 := cmpF_trans (okr _ h) (okr (s + d) (by omega)) (okr s (by omega)) hc h2 (by rcases h1 with ⟨k, -⟩ | ⟨k, -⟩; exact .inl k; exact .inr k)
    rcases h3 with ⟨k1, k2, k3⟩ | ⟨k1, k2⟩
    · refine .inl ⟨k1, fun j a b => ?_⟩
      by_cases hjd : j = s + (d + 1)
      · rw [hjd, e]; exact k2
      · rcases h1 with ⟨-, m⟩ | ⟨m, -⟩
        · exact m j a (by omega)
        · rw [k3] at m; rcases hc with rfl | rfl <;> cases m
    · refine .inr ⟨k1, ?_⟩
      rcases k2 with k2 | k2
      · exact ⟨s + (d + 1), by omega, by omega, by rw [e]; exact k2⟩
      · rcases h1 with ⟨m, -⟩ | ⟨-, j, a, b, m⟩
        · rw [m] at k2; rcases hc with rfl | rfl <;> cases k2
        · exact ⟨j, a, by omega, m⟩
theorem run_to {l : List FL} (hok : ∀ x ∈ l, x.r.Ok) {c : Int} (hc : c = 1 ∨ c = -1) {s t : Nat} (hst : s < t) (ht : t < l.length) (h : ∀ j, s < j → j ≤ t → sg l j = 0 ∨ sg l j = c) (hl : sg l t = c) : cmpF (rg l t) (rg l s) = c := by
  obtain ⟨d, rfl⟩ : ∃ d, t = s + d := ⟨t - s, by omega⟩
  rcases run_cmp hok hc d ht h with ⟨-, k⟩ | ⟨k, -⟩
  · have := k (s + d) (by omega) (by omega)
    rw [hl] at this; rcases hc with rfl | rfl <;> cases this
  · exact k
/-- Steps that go nowhere, and one more. -/
theorem flat_to {l : List FL} (hok : ∀ x ∈ l, x.r.Ok) {s t : Nat} (hst : s < t) (ht : t < l.length) (h : ∀ j, s < j → j < t → sg l j = 0) : cmpF (rg l t) (rg l s) = sg l t := by
  rcases sg_cases hok (show 0 < t by omega) ht with k | k | k
  · rw [k]
    exact run_to hok (.inr rfl) hst ht (fun j a b => by by_cases hj : j = t; (rw [hj]; exact .inr k); exact .inl (h j a (by omega))) k
  · rw [k]
    obtain ⟨d, rfl⟩ : ∃ d, t = s + d := ⟨t - s, by omega⟩
    have hz : ∀ j, s < j → j ≤ s + d → sg l j = 0 := fun j a b => by by_cases hj : j = s + d; (rw [hj]; exact k); exact h j a (by omega)
    rcases run_cmp hok (.inl rfl) d ht (fun j a b => .inl (hz j a b)) with ⟨m, -⟩ | ⟨-, j, a, b, m⟩
    · exact m
    · rw [hz j a b] at m; cases m
  · rw [k]
    exact run_to hok (.inl rfl) hst ht (fun j a b => by by_cases hj : j = t; (rw [hj]; exact .inr k); exact .inl (h j a (by omega))) k
end Go.Proofs.Ytigkfdoeneemeaa
/- WaterMeans, in plain Lean: tops and bottoms take turns, and each stands to the one ahead as it must. -/
namespace Go.Proofs.Ytigkfdoeneemeaa

/-- Each with the one behind stands so. -/
def chn {α : Type} (P : α → α → Prop) : List α → Prop
  | a :: b :: r => P a b ∧ chn P (b :: r)
  | _ => True
theorem chn_at {α : Type} {P : α → α → Prop} : ∀ (l : List α), chn P l → ∀ i a b, l[i]? = some a → l[i + 1]? = some b → P a b := by
  intro l
  induction l with
  | nil => intro _ i a b h; simp at h
  | cons x l ih =>
    intro h i a b h1 h2
    cases l with
    | nil => simp at h2
    | cons y r =>
      cases i with
      | zero =>
        simp at h1 h2
        rw [← h1, ← h2]; exact h.1
      | succ i => exact ih h.2 i a b (by simpa using h1) (by simpa using h2)
def nxt (f : Nat → Int) (s t : Nat × Nat × Bool) : Prop := s.2.1 < t.1 ∧ s.2.2 = (f s.1 == 1) ∧ t.2.2 = (f t.1 == 1) ∧ f t.1 = - f s.1 ∧ ∀ j, s.1 < j → j ≤ t.1 → f j = 0 ∨ f j = f t.1
def inv (f : Nat → Int) (p : Option (Nat × Nat × Bool)) (a : Nat) : Prop := ∀ s, p = some s → s.2.1 < a ∧ s.2.2 = (f s.1 == 1) ∧ f a = - f s.1 ∧ ∀ j, s.1 < j → j ≤ a → f j = 0 ∨ f j = f a
theorem chn_some {α : Type} {P : α → α → Prop} {p : Option α} {t : α} {r : List α} (h : ∀ s, p = some s → P s t) (k : chn P (t :: r)) : chn P (p.toList ++ t :: r) := by
  cases p with
  | none => exact k
  | some s => exact ⟨h s rfl, k⟩
theorem chn_go {f : Nat → Int} {n : Nat} (hf : ∀ i, 0 < i → i < n → f i = -1 ∨ f i = 0 ∨ f i = 1) :
    ∀ d m a p, n - m = d → 0 < a → a < m → a < n → ¬ f a = 0 → (∀ j, a < j → j < m → f j = 0) → inv f p a → chn (nxt f) (p.toList ++ (cons2 (a :: plc f n m)).filterMap (wat2 f)) := by
  intro d
  induction d with
  | zero =>
    intro m a p hd h0 ha han hfa hz hi
    rw [plc_out (by omega)]
    cases p <;> exact True.intro
  | succ d ih =>
    intro m a p hd h0 ha han hfa hz hi
    by_cases hm : f m = 0
    · rw [plc_on (by omega) hm]
      exact ih (m + 1) a p (by omega) h0 (by omega) han hfa (fun j h1 h2 => by by_cases e : j = m; (rw [e]; exact hm); exact hz j h1 (by omega)) hi
    · rw [plc_at (by omega) hm]
      show chn (nxt f) (p.toList ++ ((a, m) :: cons2 (m :: plc f n (m + 1))).filterMap (wat2 f))
      have hmm : ∀ j, a < j → j ≤ m → f j = 0 ∨ f j = f m := fun j h1 h2 => by
        by_cases e : j = m
        · rw [e]; exact .inr rfl
        · exact .inl (hz j h1 (by omega))
      by_cases he : f m = f a
      · rw [List.filterMap_cons, show wat2 f (a, m) = none from if_pos he]
        refine ih (m + 1) m p (by omega) (by omega) (by omega) (by omega) hm (fun j h1 h2 => by omega) ?_
        intro s hs
        obtain ⟨i1, i2, i3, i4⟩ := hi s hs
        refine ⟨by omega, i2, by rw [he]; exact i3, fun j h1 h2 => ?_⟩
        by_cases hja : j ≤ a
        · rw [he]; exact i4 j h1 hja
        · exact hmm j (by omega) h2
      · rw [List.filterMap_cons, show wat2 f (a, m) = some (a, m - 1, f a == 1) from if_neg he]
        have h1 := hf a h0 han
        have h2 := hf m (by omega) (by omega)
        have hneg : f m = - f a := by omega
        refine chn_some ?_ ?_
        · intro s hs
          obtain ⟨i1, i2, i3, i4⟩ := hi s hs
          exact ⟨i1, i2, rfl, i3, i4⟩
        · refine ih (m + 1) m (some (a, m - 1, f a == 1)) (by omega) (by omega) (by omega) (by omega) hm (fun j h1 h2 => by omega) ?_
          intro s hs
          cases hs
          exact ⟨by show m - 1 < m; omega, rfl, hneg, hmm⟩
theorem chn_start {f : Nat → Int} {n : Nat} (hf : ∀ i, 0 < i → i < n → f i = -1 ∨ f i = 0 ∨ f i = 1) : ∀ d m, n - m = d → 0 < m → chn (nxt f) ((cons2 (plc f n m)).filterMap (wat2 f)) := by
  intro d
  induction d with
  | zero => intro m hd h0; rw [plc_out (by omega)]; exact True.intro
  | succ d ih =>
    intro m hd h0
    by_cases hm : f m = 0
    · rw [plc_on (by omega) hm]; exact ih (m + 1) (by omega) (by omega)
    · rw [plc_at (by omega) hm]
      exact chn_go hf _ (m + 1) m none rfl h0 (by omega) (by omega) hm (fun j h1 h2 => by omega) (fun s hs => by cases hs)
theorem wats_chn {f : Nat → Int} {n : Nat} (hf : ∀ i, 0 < i → i < n → f i = -1 ∨ f i = 0 ∨ f i = 1) : chn (nxt f) (wats f n n) := by rw [wats_plc]; exact chn_start hf _ 1 rfl (by decide)
theorem firstBad_all {f : Nat → Int} : ∀ n i, (∀ j, i ≤ j → j < i + n → f j = 0) → firstBad f i n = none := by
  intro n
  induction n with
  | zero => intro i _; rfl
  | succ n ih => intro i h; rw [firstBad_on (h i (Nat.le_refl _) (by omega))]; exact ih _ (fun j a b => h j (by omega) (by omega))

/-- The waters of a list pass Check. -/
theorem waters_good {l : List FL} {ws : List WL} {first : Int} (hok : ∀ x ∈ l, x.r.Ok) (hc : cntd l.length first = 0) (k : ws.map WL.key = (wats (sg l) l.length l.length).map (wkey l first)) : checkW ws = (0, 0) := by
  obtain ⟨hlen, hf0, hf1, hfn⟩ := cntd_zero hc
  have hch := wats_chn (f := sg l) (n := l.length) (fun i h0 hi => sg_cases hok h0 hi)
  have hin : ∀ t ∈ wats (sg l) l.length l.length, 1 ≤ t.1 ∧ t.1 ≤ t.2.1 ∧ t.2.1 + 1 < l.length := fun t ht => wats_in ht
  have hwl : (wats (sg l) l.length l.length).length ≤ l.length := by
    unfold wats; exact Nat.le_trans (List.length_filterMap_le _ _) (by simp)
  have hlw : ws.length = (wats (sg l) l.length l.length).length := by have := congrArg List.length k; simpa using this
  have at_ : ∀ (i : Nat) (x : WL), ws[i]? = some x → ∃ t : Nat × Nat × Bool, (wats (sg l) l.length l.length)[i]? = some t ∧ x.tick = first + t.1 ∧ x.last = first + t.2.1 ∧ x.top = t.2.2 ∧ x.h.r = rg l t.1 := by
    intro i x hx
    have := congrArg (fun m => m[i]?) k
    simp only [List.getElem?_map, hx, Option.map_some] at this
    cases ht : (wats (sg l) l.length l.length)[i]? with
    | none => rw [ht] at this; cases this
    | some t =>
      rw [ht] at this
      simp only [Option.map_some, Option.some.injEq, WL.key, wkey, Prod.mk.injEq] at this
      exact ⟨t, rfl, this.1, this.2.1, this.2.2.1, this.2.2.2⟩
  unfold checkW
  rw [if_neg (by omega), firstBad_all]
  intro i _ hi
  have hi' : i < ws.length := by omega
  unfold chkAt
  rw [List.getElem?_eq_getElem hi']
  obtain ⟨t, ht, x1, x2, x3, x4⟩ := at_ i _ (List.getElem?_eq_getElem hi')
  obtain ⟨t1, t2, t3⟩ := hin t (List.mem_of_getElem? ht)
  have hck : chkF (ws[i]).h.r = 0 := by
    rw [x4, rg_at (List.getElem?_eq_getElem (show t.1 < l.length by omega))]
    exact chkF_ok (hok _ (List.getElem_mem _))
  simp only
  split
  · unfold wrongN
    rw [if_neg (by omega), if_neg (by omega), if_neg (by omega), hck]
  · rename_i h0
    rw [List.getElem?_eq_getElem (show i - 1 < ws.length by omega)]
    obtain ⟨s, hs, y1, y2, y3, y4⟩ := at_ (i - 1) _ (List.getElem?_eq_getElem (show i - 1 < ws.length by omega))
    obtain ⟨s1, s2, s3⟩ := hin s (List.mem_of_getElem? hs)
    obtain ⟨n1, n2, n3, n4, n5⟩ := chn_at _ hch (i - 1) s t hs (by rw [show i - 1 + 1 = i by omega]; exact ht)
    have hs1 := sg_cases hok (show 0 < s.1 by omega) (show s.1 < l.length by omega)
    have ht1 := sg_cases hok (show 0 < t.1 by omega) (show t.1 < l.length by omega)
    have hnz : ¬ sg l t.1 = 0 := by
      intro e
      have hm := List.mem_of_getElem? ht
      unfold wats at hm
      rw [List.mem_filterMap] at hm
      obtain ⟨a, -, ha⟩ := hm
      unfold wat at ha
      split at ha
      · cases ha
      · rename_i hne
        split at ha
        · cases ha
        · split at ha
          · cases ha
          · cases ha; exact hne (.inr e)
    simp only
    unfold wrongS
    rw [if_neg (by omega), if_neg (by omega), if_neg (by omega), if_neg (by omega), if_neg (by rw [hck]; simp), if_neg, if_pos]
    · rw [x4, y4, x3, n3]
      rw [run_to hok (c := sg l t.1) (by omega) (by omega) (by omega) n5 rfl]
      rcases ht1 with e | e | e
      · rw [e]; rfl
      · exact absurd e hnz
      · rw [e]; rfl
    · rw [x3, y3, n2, n3, n4]
      rcases hs1 with e | e | e
      · rw [e]; decide
      · exact absurd (by rw [n4, e]; rfl) hnz
      · rw [e]; decide
end Go.Proofs.Ytigkfdoeneemeaa
/- WaterMeans, in plain Lean: what its loop finds. -/
namespace Go.Proofs.Ytigkfdoeneemeaa

theorem nextS_skip {f : Nat → Int} {n : Nat} : ∀ d m, (∀ j, m ≤ j → j < m + d → f j = 0) → m + d ≤ n → nextS f n m = nextS f n (m + d) := by
  intro d
  induction d with
  | zero => intro m _ _; rfl
  | succ d ih =>
    intro m h hn
    rw [nextS_on (by omega) (h m (Nat.le_refl _) (by omega)), ih (m + 1) (fun j a b => h j (by omega) (by omega)) (by omega), show m + 1 + d = m + (d + 1) by omega]
/-- How the height at k stands to that at i, all between being as that one. -/
def toI (l : List FL) (i k : Nat) : Int := if k = i then 0 else sg l k
theorem toI_is {l : List FL} (hok : ∀ x ∈ l, x.r.Ok) {i k : Nat} (hik : i ≤ k) (hk : k < l.length) (h : ∀ j, i < j → j < k → sg l j = 0) : cmpF (rg l k) (rg l i) = toI l i k := by
  unfold toI
  split
  · rename_i e
    subst e
    exact cmpF_self (by rw [rg_at (List.getElem?_eq_getElem hk)]; exact hok _ (List.getElem_mem hk))
  · exact flat_to hok (by omega) hk h
theorem back_is {l : List FL} (hok : ∀ x ∈ l, x.r.Ok) {i : Nat} (hi : i + 1 < l.length) : cmpF (rg l i) (rg l (i + 1)) = - sg l (i + 1) := by
  unfold sg
  exact cmpF_swap (by rw [rg_at (List.getElem?_eq_getElem hi)]; exact hok _ (List.getElem_mem hi)) (by rw [rg_at (List.getElem?_eq_getElem (show i < l.length by omega))]; exact hok _ (List.getElem_mem _))
/-- The three ways of a place where the list goes up or down. -/
theorem way_end {l : List FL} {i : Nat} (hi : 0 < i) (hil : i < l.length) (h0 : ¬ sg l i = 0) (h : ∀ j, i < j → j < l.length → sg l j = 0) : wats (sg l) l.length (i + 1) = wats (sg l) l.length i := by
  have e : nextS (sg l) l.length (i + 1) = none := by
    have := nextS_skip (f := sg l) (n := l.length) (l.length - (i + 1)) (i + 1) (fun j a b => h j (by omega) (by omega)) (by omega)
    rw [this]; exact nextS_out (by omega)
  exact wats_none (wat_out hi h0 e)
theorem way_next {l : List FL} {i k : Nat} (hik : i < k) (hkl : k < l.length) (h : ∀ j, i < j → j < k → sg l j = 0) (hk : ¬ sg l k = 0) : nextS (sg l) l.length (i + 1) = some k := by
  have := nextS_skip (f := sg l) (n := l.length) (k - (i + 1)) (i + 1) (fun j a b => h j (by omega) (by omega)) (by omega)
  rw [this, show i + 1 + (k - (i + 1)) = k by omega]; exact nextS_at hkl hk
theorem way_same {l : List FL} {i k : Nat} (hi : 0 < i) (h0 : ¬ sg l i = 0) (hik : i < k) (hkl : k < l.length) (h : ∀ j, i < j → j < k → sg l j = 0) (hk : ¬ sg l k = 0) (e : sg l k = sg l i) : wats (sg l) l.length (i + 1) = wats (sg l) l.length i :=
  wats_none (wat_same hi h0 (way_next hik hkl h hk) e)
theorem way_turn {l : List FL} {i k : Nat} (hi : 0 < i) (h0 : ¬ sg l i = 0) (hik : i < k) (hkl : k < l.length) (h : ∀ j, i < j → j < k → sg l j = 0) (hk : ¬ sg l k = 0) (e : ¬ sg l k = sg l i) : wats (sg l) l.length (i + 1) = wats (sg l) l.length i ++ [(i, k - 1, sg l i == 1)] :=
  wats_some (wat_turn hi h0 (way_next hik hkl h hk) e)
theorem wats_pre {f : Nat → Int} {n : Nat} : ∀ d i, wats f n i <+: wats f n (i + d) := by
  intro d
  induction d with
  | zero => intro i; exact List.prefix_refl _
  | succ d ih =>
    intro i
    refine (ih i).trans ?_
    show wats f n (i + d) <+: wats f n (i + d + 1)
    unfold wats; rw [List.range_succ (n := i + d), List.filterMap_append]; exact List.prefix_append _ _
/-- The water that stands at the place that the law has come to. -/
theorem means_at {l : List FL} {ws : List WL} {first : Int} {i k : Nat} {b : Bool} (hk : ws.map WL.key = (wats (sg l) l.length l.length).map (wkey l first)) (hil : i < l.length) (ht : wats (sg l) l.length (i + 1) = wats (sg l) l.length i ++ [(i, k, b)]) :
    (wats (sg l) l.length i).length < ws.length ∧ ∀ x, ws[(wats (sg l) l.length i).length]? = some x → x.tick = first + i ∧ x.last = first + k ∧ x.top = b ∧ x.h.r = rg l i := by
  have hp := wats_pre (f := sg l) (n := l.length) (l.length - (i + 1)) (i + 1)
  rw [show i + 1 + (l.length - (i + 1)) = l.length by omega, ht] at hp
  obtain ⟨r, hr⟩ := hp
  have hg : (wats (sg l) l.length l.length)[(wats (sg l) l.length i).length]? = some (i, k, b) := by
    rw [← hr, List.append_assoc, List.getElem?_append_right (Nat.le_refl _)]; simp
  have hlw : ws.length = (wats (sg l) l.length l.length).length := by have := congrArg List.length hk; simpa using this
  refine ⟨by rw [hlw]; exact (List.getElem?_eq_some_iff.1 hg).1, fun x hx => ?_⟩
  have := congrArg (fun m => m[(wats (sg l) l.length i).length]?) hk
  simp only [List.getElem?_map, hx, hg, Option.map_some, Option.some.injEq, WL.key, wkey, Prod.mk.injEq] at this
  exact ⟨this.1, this.2.1, this.2.2.1, this.2.2.2⟩
theorem wats_full {l : List FL} {i : Nat} (h1 : 1 ≤ i) (h2 : ¬ i < l.length) (h3 : i ≤ l.length ∨ i = 1) : (wats (sg l) l.length i).length = (wats (sg l) l.length l.length).length := by
  rcases h3 with h3 | h3
  · rw [show i = l.length by omega]
  · subst h3
    rw [wats_one]
    have : l.length = 0 ∨ l.length = 1 := by omega
    rcases this with h | h
    · rw [h]; simp [wats]
    · rw [h, wats_one]
end Go.Proofs.Ytigkfdoeneemeaa
/- water.Of of what may not be: the errors. -/
namespace Go.Proofs.Ytigkfdoeneemeaa
open Go.RowKit

/-- The error of a list of heights and a first tick. -/
def errO (l : List FL) (first : Int) : Int := if cntd l.length first = 0 then (match firstBad (fun i => chkF (rg l i)) 0 l.length with | none => 0 | some i => chkF (rg l i)) else cntd l.length first
theorem errO_ok {l : List FL} {first : Int} (h : errO l first = 0) : cntd l.length first = 0 ∧ ∀ x ∈ l, x.r.Ok := by
  unfold errO at h
  split at h
  · rename_i h0
    refine ⟨h0, ?_⟩
    split at h
    · rename_i hn
      intro x hx
      obtain ⟨i, hi, rfl⟩ := List.getElem_of_mem hx
      have key : ∀ n i, firstBad (fun i => chkF (rg l i)) i n = none → ∀ j, i ≤ j → j < i + n → chkF (rg l j) = 0 := by
        intro n
        induction n with
        | zero => intro i _ j h1 h2; omega
        | succ n ih =>
          intro i h j h1 h2
          by_cases h0 : chkF (rg l i) = 0
          · rw [firstBad_on h0] at h
            by_cases hj : j = i
            · rw [hj]; exact h0
            · exact ih (i + 1) h j (by omega) (by omega)
          · rw [firstBad_at h0] at h; cases h
      have := key _ _ hn i (Nat.zero_le _) (by omega)
      rw [rg_at (List.getElem?_eq_getElem hi)] at this
      exact ok_chkF this
    · rename_i i hi
      exfalso
      have : ∀ n j, firstBad (fun i => chkF (rg l i)) j n = some i → ¬ chkF (rg l i) = 0 := by
        intro n
        induction n with
        | zero => intro j h; simp [firstBad] at h
        | succ n ih =>
          intro j h
          by_cases hj : chkF (rg l j) = 0
          · rw [firstBad_on hj] at h; exact ih _ h
          · rw [firstBad_at hj] at h; cases h; exact hj
      exact this _ _ hi h
  · rename_i h0; exact absurd h h0

set_option maxRecDepth 100000 in
set_option maxHeartbeats 4000000 in
theorem waterOf_err (A : Option Addr) (l : List FL) (cap : Nat) (first : Int) (w : World) (hA : Arr w A (fls l)) (hin : ∀ x ∈ l, FL.In w x) (hl : l.length ≤ 9223372036854775807) (he : ¬ errO l first = 0) :
    Calls Try.prog 76 #[.slice A l.length cap, .int .i64 first] w fun e w' => e = .returned (.tuple #[.slice none 0 0, .int .i64 (errO l first)]) ∧ ∃ x, w' = w.ext x := by
  have CN := fun W => counted_any l.length first W hl
  by_cases h0 : cntd l.length first = 0
  · have hE : errO l first = match firstBad (fun i => chkF (rg l i)) 0 l.length with | none => 0 | some i => chkF (rg l i) := if_pos h0
    obtain ⟨hlen, hf0, hf1, hfn⟩ := cntd_zero h0
    rw [h0] at CN
    have HCN := Lib.hid CN
    have HIN := Lib.hid hin
    have HE := Lib.hid hE
    have HNE := Lib.hid he
    clear CN h0 hin hE he hl
    go_enter Try.func76, Try.ntmps76
    go_wp2
    go_step3
    go_wp2_with (go_at_call 126; refine Calls.mono (HCN.out _) ?_; rintro e w1 ⟨rfl, rfl⟩)
    clear HCN
    go_loopw [24] (fun vi wr => ∃ k : Nat, k ≤ l.length ∧ vi = .int .i64 k ∧ Blw w1 wr ∧ Hid (firstBad (fun i => chkF (rg l i)) 0 l.length = firstBad (fun i => chkF (rg l i)) k (l.length - k))) (fun i _ => l.length - (intOf i).toNat)
    case atStart => exact ⟨0, Nat.zero_le _, rfl, Blw.refl _, rfl⟩
    case round =>
      obtain ⟨k, hk, rfl, hb, hfb⟩ := hrel
      by_cases hlt : k < l.length
      · obtain ⟨x, b, o, hgk, hm, rfl, hbs, c0, c1, c2⟩ := fl_at (hA.blw hb) hlt
        have hx := (HIN.out x hm).blw hb
        have hck := fun W (hb : Blw wr W) => ratioCheck_any x.r x.a x.c x.b x.d W (FL.In.blw hx hb)
        have hrg := rg_at hgk
        have hlk : l.length - k = l.length - (k + 1) + 1 := by omega
        rw [hlk] at hfb
        have key : (chkF x.r = 0 → firstBad (fun i => chkF (rg l i)) 0 l.length = firstBad (fun i => chkF (rg l i)) (k + 1) (l.length - (k + 1))) ∧ (¬ chkF x.r = 0 → errO l first = chkF x.r) := by
          rw [← hrg]
          constructor
          · intro h; rw [hfb.out, firstBad_on h]
          · intro h; rw [HE.out, hfb.out, firstBad_at h]
        have HK := Lib.hid key
        generalize chkF x.r = u at *
        have HCK := Lib.hid hck
        clear hck hgk hm hx key hrg hlk hfb
        go_wp2_with fail
        refine Calls.mono (HCK.out _ (by repeat (first | exact Blw.refl _ | apply Blw.ext | apply Blw.alloc | apply Blw.drewN | apply Blw.drew | refine Blw.setCell ?_ _ _ (by simp)))) ?_
        rintro e w2 ⟨rfl, x2, rfl⟩
        clear HCK
        by_cases hu : u = 0
        · have HF := Lib.hid (HK.out.1 hu)
          subst hu
          clear HK
          go_wp2_with fail
          go_roundw
          case rel => exact ⟨k + 1, by omega, by go_num, (hb.alloc _).ext x2, HF⟩
          case measure => simp [intOf]; omega
        · have q : (u != 0) = true := by simpa using hu
          have HF := Lib.hid (HK.out.2 hu)
          clear HK hu
          go_wp2
          (try rw [Exit.noGoto_ret])
          go_ret2
          exact ⟨by rw [HF.out]; rfl, Blw.is ((hb.alloc _).ext x2)⟩
      · exfalso
        have hkl : k = l.length := by omega
        rw [hkl, Nat.sub_self] at hfb
        exact HNE.out (by rw [HE.out, hfb.out]; rfl)
  · have HE := Lib.hid (show errO l first = cntd l.length first from if_neg h0)
    generalize cntd l.length first = u at *
    have q : (u != 0) = true := by simpa using h0
    have HCN := Lib.hid CN
    clear CN h0 he hin
    go_enter Try.func76, Try.ntmps76
    go_wp2
    go_step3
    go_wp2_with (go_at_call 126; refine Calls.mono (HCN.out _) ?_; rintro e w1 ⟨rfl, rfl⟩)
    (try rw [Exit.noGoto_ret])
    go_ret2
    exact ⟨by rw [HE.out]; rfl, Blw.is (Blw.refl _)⟩
end Go.Proofs.Ytigkfdoeneemeaa
/- Floats: what the model's operations on float64 give, NaN included, as functions of the operands' bits and the world; plain facts on the words. -/
namespace Go.Proofs.Ytigkfdoeneemeaa.Fl
open Go Ieee

/-- The bits of a float operation's result in a world. -/
def fop (op : BinOp) (x y : Nat) (w : World) : Nat :=
  match floatBits op .f64 x y with
  | some r => r
  | none => (Question.nanBits .f64 x y).cut (w.tape w.drawn (.nanBits .f64 x y))

/-- How many draws the operation makes. -/
def fdr (op : BinOp) (x y : Nat) : Nat := match floatBits op .f64 x y with | some _ => 0 | none => 1

section
variable {P : Program} (w : World)
theorem run_fop (op : BinOp) (h : op = .add ∨ op = .sub ∨ op = .mul ∨ op = .quo) (t : TypeId) (x y : Nat) :
    (binOp op t (.float .f64 x) (.float .f64 y)).run P w = .ok (.float .f64 (fop op x y w)) (w.drewN (fdr op x y)) := by
  cases e : floatBits op .f64 x y with
  | some r =>
    rw [run_float_arith w op t .f64 x y r e]
    simp only [fop, fdr, e]; rfl
  | none =>
    simp only [fop, fdr, e]
    rcases h with rfl | rfl | rfl | rfl <;>
      (unfold floatBits at e; simp only at e; simp [binOp, Op.floatArith, e, Question.forced]; rfl)
@[go_sem] theorem run_fadd (t : TypeId) (x y : Nat) : (binOp .add t (.float .f64 x) (.float .f64 y)).run P w = .ok (.float .f64 (fop .add x y w)) (w.drewN (fdr .add x y)) := run_fop w .add (by simp) t x y
@[go_sem] theorem run_fsub (t : TypeId) (x y : Nat) : (binOp .sub t (.float .f64 x) (.float .f64 y)).run P w = .ok (.float .f64 (fop .sub x y w)) (w.drewN (fdr .sub x y)) := run_fop w .sub (by simp) t x y
@[go_sem] theorem run_fmul (t : TypeId) (x y : Nat) : (binOp .mul t (.float .f64 x) (.float .f64 y)).run P w = .ok (.float .f64 (fop .mul x y w)) (w.drewN (fdr .mul x y)) := run_fop w .mul (by simp) t x y
@[go_sem] theorem run_fquo (t : TypeId) (x y : Nat) : (binOp .quo t (.float .f64 x) (.float .f64 y)).run P w = .ok (.float .f64 (fop .quo x y w)) (w.drewN (fdr .quo x y)) := run_fop w .quo (by simp) t x y
@[go_sem] theorem run_store_float (a : Addr) (x : Nat) (m : Mode) : (store a (.float .f64 x) m).run P w = stored P w a (.float .f64 x) m := run_store P w a _ m rfl
@[go_sem] theorem run_store_complex (a : Addr) (x y : Nat) (m : Mode) : (store a (.complex .f64 x y) m).run P w = stored P w a (.complex .f64 x y) m := run_store P w a _ m rfl
@[go_sem] theorem unary_neg_float (x : Nat) : Op.unary .neg (.float .f64 x) = pure (.float .f64 (Op.negFloat .f64 x)) := rfl
end

/-- The rung of infinity of a double. -/
def infR : Nat := 9218868437227405312
def isNaN (x : Nat) : Bool := decide (infR < x % 2 ^ 63)
def isInf (x : Nat) : Bool := decide (x % 2 ^ 63 = infR)
def isFin (x : Nat) : Bool := decide (x % 2 ^ 63 < infR)
def fneg (x : Nat) : Bool := decide (x / 2 ^ 63 % 2 = 1)
/-- A finite double is 'mag * 2 ^ (place - 1074)'. -/
def mag (x : Nat) : Nat := if x % 2 ^ 63 < 2 ^ 52 then x % 2 ^ 63 else 2 ^ 52 + x % 2 ^ 52
def plc (x : Nat) : Nat := x % 2 ^ 63 / 2 ^ 52 - 1

theorem read_eq (x : Nat) : double.read x =
    if x % 2 ^ 63 < 2 ^ 52 then .number (x / 2 ^ 63 % 2 == 1) (x % 2 ^ 63) (-1074)
    else if x % 2 ^ 63 < infR then .number (x / 2 ^ 63 % 2 == 1) (2 ^ 52 + x % 2 ^ 63 % 2 ^ 52) (-1074 + ((x % 2 ^ 63 / 2 ^ 52 - 1 : Nat) : Int))
    else if x % 2 ^ 63 = infR then .infinity (x / 2 ^ 63 % 2 == 1)
    else .nan (x / 2 ^ 63 % 2 == 1) (x % 2 ^ 63 - infR) := rfl

theorem read_fin (x : Nat) (h : isFin x = true) : double.read x = .number (fneg x) (mag x) (-1074 + (plc x : Int)) := by
  have h' : x % 2 ^ 63 < infR := by simpa [isFin] using h
  rw [read_eq]
  have es : (x / 2 ^ 63 % 2 == 1) = fneg x := by unfold fneg; rw [Bool.eq_iff_iff]; simp
  rw [es]
  by_cases c : x % 2 ^ 63 < 2 ^ 52
  · rw [if_pos c]
    unfold mag plc
    rw [if_pos c]
    have : x % 2 ^ 63 / 2 ^ 52 - 1 = 0 := by omega
    rw [this]; rfl
  · rw [if_neg c, if_pos h']
    unfold mag plc
    rw [if_neg c]
    congr 2
    omega
theorem read_inf (x : Nat) (h : isInf x = true) : double.read x = .infinity (fneg x) := by
  have h' : x % 2 ^ 63 = infR := by simpa [isInf] using h
  rw [read_eq]
  have es : (x / 2 ^ 63 % 2 == 1) = fneg x := by unfold fneg; rw [Bool.eq_iff_iff]; simp
  rw [es, h', if_neg (by decide), if_neg (by decide), if_pos rfl]
theorem read_nan (x : Nat) (h : isNaN x = true) : ∃ s t, double.read x = .nan s t := by
  have h' : infR < x % 2 ^ 63 := by simpa [isNaN] using h
  rw [read_eq]
  have : ¬ x % 2 ^ 63 < 2 ^ 52 := by unfold infR at h'; omega
  rw [if_neg this, if_neg (by omega), if_neg (by omega)]
  exact ⟨_, _, rfl⟩
theorem tri (x : Nat) : isFin x = true ∨ isInf x = true ∨ isNaN x = true := by
  simp only [isFin, isInf, isNaN, decide_eq_true_eq]; omega
theorem fin_not (x : Nat) : isFin x = !(isInf x || isNaN x) := by
  rw [Bool.eq_iff_iff]; simp only [isFin, isInf, isNaN]; simp; omega

theorem cut_nan (x y t : Nat) : isNaN ((Question.nanBits .f64 x y).cut t) = true := by
  unfold Question.cut isNaN infR
  simp only [decide_eq_true_eq]
  have h1 : t / 2 % (2 ^ 52 - 1) < 2 ^ 52 - 1 := Nat.mod_lt _ (by decide)
  generalize t / 2 % (2 ^ 52 - 1) = k at *
  rcases (by omega : t % 2 = 0 ∨ t % 2 = 1) with e | e <;> rw [e] <;> omega
theorem cut_lt (x y t : Nat) : (Question.nanBits .f64 x y).cut t < 2 ^ 64 := by
  unfold Question.cut
  simp only
  have h1 : t / 2 % (2 ^ 52 - 1) < 2 ^ 52 - 1 := Nat.mod_lt _ (by decide)
  generalize t / 2 % (2 ^ 52 - 1) = k at *
  rcases (by omega : t % 2 = 0 ∨ t % 2 = 1) with e | e <;> rw [e] <;> omega

theorem fop_some {op : BinOp} {x y r : Nat} (h : floatBits op .f64 x y = some r) (w : World) : fop op x y w = r := by simp [fop, h]
theorem fop_none {op : BinOp} {x y : Nat} (h : floatBits op .f64 x y = none) (w : World) : isNaN (fop op x y w) = true := by
  simp only [fop, h]; exact cut_nan _ _ _
theorem fop_lt (op : BinOp) (x y : Nat) (w : World) : fop op x y w < 2 ^ 64 := by
  cases h : floatBits op .f64 x y with
  | some r => rw [fop_some h]; have := floatBits_wf h; simpa [Lit.wf] using this
  | none => simp only [fop, h]; exact cut_lt _ _ _

/-- Two words are the same, or both NaN: what a deterministic program may be sure of. -/
def same (x y : Nat) : Prop := x = y ∨ (isNaN x = true ∧ isNaN y = true)
theorem same.refl (x : Nat) : same x x := .inl rfl
theorem same.symm {x y : Nat} (h : same x y) : same y x := by
  rcases h with rfl | ⟨a, b⟩
  · exact .inl rfl
  · exact .inr ⟨b, a⟩
theorem same.trans {x y z : Nat} (h : same x y) (k : same y z) : same x z := by
  rcases h with rfl | ⟨a, b⟩
  · exact k
  · rcases k with rfl | ⟨c, d⟩
    · exact .inr ⟨a, b⟩
    · exact .inr ⟨a, d⟩

abbrev ord (x y : Nat) : Option Ordering := double.order x y
theorem ord_nan_left {x : Nat} (h : isNaN x = true) (y : Nat) : ord x y = none := by
  obtain ⟨s, t, e⟩ := read_nan x h
  simp [ord, Format.order, e, Datum.order]
theorem ord_nan_right {y : Nat} (h : isNaN y = true) (x : Nat) : ord x y = none := by
  obtain ⟨s, t, e⟩ := read_nan y h
  simp only [ord, Format.order, e]
  cases double.read x <;> rfl
theorem ord_self {x : Nat} (h : isNaN x = false) : ord x x = some .eq := by
  rcases tri x with f | i | n
  · simp [ord, Format.order, read_fin x f, Datum.order]
  · simp [ord, Format.order, read_inf x i, Datum.order]
  · simp [n] at h
theorem ord_self_eq (x : Nat) : (ord x x == some .eq) = !isNaN x := by
  cases h : isNaN x
  · rw [ord_self h]; rfl
  · rw [ord_nan_left h]; rfl
theorem ord_self_ne (x : Nat) : (ord x x != some .eq) = isNaN x := by
  cases h : isNaN x
  · rw [ord_self h]; rfl
  · rw [ord_nan_left h]; rfl
theorem same.ord {x y u v : Nat} (h : same x y) (k : same u v) : ord x u = ord y v := by
  rcases h with rfl | ⟨a, b⟩
  · rcases k with rfl | ⟨c, d⟩
    · rfl
    · rw [ord_nan_right c, ord_nan_right d]
  · rw [ord_nan_left a, ord_nan_left b]

theorem bits_nan {op : BinOp} (h : op = .add ∨ op = .sub ∨ op = .mul ∨ op = .quo) (x y : Nat) (n : isNaN x = true ∨ isNaN y = true) : floatBits op .f64 x y = none := by
  rcases n with n | n
  · obtain ⟨s, t, e⟩ := read_nan _ n
    rcases h with rfl | rfl | rfl | rfl <;> simp [floatBits, FloatKind.format, Format.add, Format.sub, Format.mul, Format.div, e, Datum.sum, Datum.product, Datum.quotient]
  · obtain ⟨s, t, e⟩ := read_nan _ n
    rcases h with rfl | rfl | rfl | rfl <;> simp only [floatBits, FloatKind.format, Format.add, Format.sub, Format.mul, Format.div, e] <;> cases double.read x <;> simp [Datum.sum, Datum.product, Datum.quotient, Datum.opposite]
theorem same.fop {op : BinOp} (h : op = .add ∨ op = .sub ∨ op = .mul ∨ op = .quo) {x y u v : Nat} (hx : same x u) (hy : same y v) (w w' : World) : same (fop op x y w) (fop op u v w') := by
  rcases hx with rfl | ⟨a, b⟩
  · rcases hy with rfl | ⟨c, d⟩
    · cases e : floatBits op .f64 x y with
      | some r => rw [fop_some e, fop_some e]; exact .inl rfl
      | none => exact .inr ⟨fop_none e w, fop_none e w'⟩
    · exact .inr ⟨fop_none (bits_nan h _ _ (.inr c)) w, fop_none (bits_nan h _ _ (.inr d)) w'⟩
  · exact .inr ⟨fop_none (bits_nan h _ _ (.inl a)) w, fop_none (bits_nan h _ _ (.inl b)) w'⟩
theorem same_add {x y u v : Nat} (hx : same x u) (hy : same y v) (w w' : World) : same (Fl.fop .add x y w) (Fl.fop .add u v w') := same.fop (by simp) hx hy w w'
theorem same_sub {x y u v : Nat} (hx : same x u) (hy : same y v) (w w' : World) : same (Fl.fop .sub x y w) (Fl.fop .sub u v w') := same.fop (by simp) hx hy w w'
theorem same_mul {x y u v : Nat} (hx : same x u) (hy : same y v) (w w' : World) : same (Fl.fop .mul x y w) (Fl.fop .mul u v w') := same.fop (by simp) hx hy w w'
theorem same_quo {x y u v : Nat} (hx : same x u) (hy : same y v) (w w' : World) : same (Fl.fop .quo x y w) (Fl.fop .quo u v w') := same.fop (by simp) hx hy w w'

end Go.Proofs.Ytigkfdoeneemeaa.Fl
/- The bodyless functions of package math that the program calls: what each call runs to. -/
namespace Go.Proofs.Ytigkfdoeneemeaa
open Go.RowKit

@[go_sem] theorem call_frombits (n : Int) (w : World) : (callFunc 15 #[.int .u64 n]).run Try.prog w = .ok (.value (.float .f64 n.toNat)) w := by
  rw [run_callFunc_extern (fn := Try.f15) (e := Extern.MathFloatBits.float64frombits) (by kernel_rfl) (by kernel_rfl) (by kernel_rfl) (by kernel_rfl) (by kernel_rfl)]; rfl
@[go_sem] theorem call_bits (n : Nat) (w : World) : (callFunc 107 #[.float .f64 n]).run Try.prog w = .ok (.value (.int .u64 n)) w := by
  rw [run_callFunc_extern (fn := Try.f107) (e := Extern.MathFloatBits.float64bits) (by kernel_rfl) (by kernel_rfl) (by kernel_rfl) (by kernel_rfl) (by kernel_rfl)]; rfl
end Go.Proofs.Ytigkfdoeneemeaa
/- Doubles as numbers: a finite double is a whole number of units 2^-1074; the order of floats is the order of these numbers; among sizes it is the order of the words. -/
namespace Go.Proofs.Ytigkfdoeneemeaa.Fl
open Go Ieee

/-- The size of a finite double in units of 2^-1074. -/
def V (x : Nat) : Nat := mag x * 2 ^ plc x
def Sv (x : Nat) : Int := if fneg x then -(V x : Int) else (V x : Int)

theorem V_mod (x : Nat) : V (x % 2 ^ 63) = V x := by
  unfold V mag plc
  have e1 : x % 2 ^ 63 % 2 ^ 63 = x % 2 ^ 63 := Nat.mod_mod _ _
  have e2 : x % 2 ^ 63 % 2 ^ 52 = x % 2 ^ 52 := by omega
  rw [e1, e2]

theorem V_small {r : Nat} (h : r < 2 ^ 52) : V r = r := by
  unfold V mag plc
  have e1 : r % 2 ^ 63 = r := by omega
  rw [e1, if_pos h]
  have : r / 2 ^ 52 - 1 = 0 := by omega
  rw [this]; simp
theorem V_big {r : Nat} (h : 2 ^ 52 ≤ r) (h2 : r < 2 ^ 63) : V r = (2 ^ 52 + r % 2 ^ 52) * 2 ^ (r / 2 ^ 52 - 1) := by
  unfold V mag plc
  have e1 : r % 2 ^ 63 = r := by omega
  rw [e1, if_neg (by omega)]

theorem V_step {r : Nat} (h : r + 1 < 2 ^ 63) : V r < V (r + 1) := by
  by_cases a : r + 1 < 2 ^ 52
  · rw [V_small a, V_small (by omega)]; omega
  · by_cases b : r < 2 ^ 52
    · have hr : r = 2 ^ 52 - 1 := by omega
      rw [V_small b, V_big (by omega) h, hr]; decide
    · rw [V_big (by omega) (by omega), V_big (by omega) h]
      by_cases c : (r + 1) % 2 ^ 52 = 0
      · have e1 : r % 2 ^ 52 = 2 ^ 52 - 1 := by omega
        have e2 : (r + 1) / 2 ^ 52 - 1 = (r / 2 ^ 52 - 1) + 1 := by omega
        rw [e1, e2, c, show 2 ^ (r / 2 ^ 52 - 1 + 1) = 2 ^ (r / 2 ^ 52 - 1) * 2 from Nat.pow_succ ..]
        have : 0 < 2 ^ (r / 2 ^ 52 - 1) := Nat.two_pow_pos _
        generalize 2 ^ (r / 2 ^ 52 - 1) = k at *
        omega
      · have e1 : (r + 1) % 2 ^ 52 = r % 2 ^ 52 + 1 := by omega
        have e2 : (r + 1) / 2 ^ 52 = r / 2 ^ 52 := by omega
        rw [e1, e2]
        exact Nat.mul_lt_mul_of_pos_right (by omega) (Nat.two_pow_pos _)
theorem V_lt {r s : Nat} (h : r < s) (hs : s < 2 ^ 63) : V r < V s := by
  induction s with
  | zero => omega
  | succ s ih =>
    by_cases e : r = s
    · subst e; exact V_step hs
    · exact Nat.lt_trans (ih (by omega) (by omega)) (V_step hs)
theorem V_le {r s : Nat} (h : r ≤ s) (hs : s < 2 ^ 63) : V r ≤ V s := by
  by_cases e : r = s
  · subst e; exact Nat.le_refl _
  · exact Nat.le_of_lt (V_lt (by omega) hs)
theorem V_inj {r s : Nat} (hr : r < 2 ^ 63) (hs : s < 2 ^ 63) (h : V r = V s) : r = s := by
  by_cases a : r < s
  · have := V_lt a hs; omega
  · by_cases b : s < r
    · have := V_lt b hr; omega
    · omega
theorem V_zero : V 0 = 0 := by decide
theorem V_pos {r : Nat} (h : 0 < r) (hs : r < 2 ^ 63) : 0 < V r := by have := V_lt h hs; rw [V_zero] at this; exact this

theorem cmp_eq {a b c d : Int} (h1 : a < b ↔ c < d) (h2 : a = b ↔ c = d) : compare a b = compare c d := by
  simp only [compare, compareOfLessAndEq]
  by_cases x : a < b
  · rw [if_pos x, if_pos (h1.1 x)]
  · rw [if_neg x, if_neg (fun y => x (h1.2 y))]
    by_cases z : a = b
    · rw [if_pos z, if_pos (h2.1 z)]
    · rw [if_neg z, if_neg (fun y => z (h2.2 y))]
theorem cmp_scale {a b k : Int} (hk : 0 < k) : compare (a * k) (b * k) = compare a b :=
  cmp_eq ⟨fun h => Int.lt_of_mul_lt_mul_right h (Int.le_of_lt hk), fun h => Int.mul_lt_mul_of_pos_right h hk⟩
    ⟨fun h => Int.eq_of_mul_eq_mul_right (Int.ne_of_gt hk) h, fun h => by rw [h]⟩

theorem signed_scale (s : Bool) (m k : Nat) (j : Nat) : signed s m k * ((2 ^ j : Nat) : Int) = signed s m (k + j) := by
  unfold signed
  have e : ((m <<< k : Nat) : Int) * ((2 ^ j : Nat) : Int) = ((m <<< (k + j) : Nat) : Int) := by
    rw [Nat.shiftLeft_eq, Nat.shiftLeft_eq, Nat.pow_add, ← Nat.mul_assoc]; rfl
  split
  · rw [Int.neg_mul, e]
  · rw [e]
theorem signed_Sv (x : Nat) : signed (fneg x) (mag x) (plc x) = Sv x := by
  unfold signed Sv V
  rw [Nat.shiftLeft_eq]

theorem ord_fin {x y : Nat} (hx : isFin x = true) (hy : isFin y = true) : ord x y = some (compare (Sv x) (Sv y)) := by
  simp only [ord, Format.order, read_fin x hx, read_fin y hy, Datum.order]
  have e1 : (-1074 + (plc x : Int) - min (-1074 + (plc x : Int)) (-1074 + (plc y : Int))).toNat = plc x - min (plc x) (plc y) := by omega
  have e2 : (-1074 + (plc y : Int) - min (-1074 + (plc x : Int)) (-1074 + (plc y : Int))).toNat = plc y - min (plc x) (plc y) := by omega
  rw [e1, e2]
  congr 1
  have hk : (0 : Int) < ((2 ^ min (plc x) (plc y) : Nat) : Int) := by have := Nat.two_pow_pos (min (plc x) (plc y)); omega
  rw [← cmp_scale hk, signed_scale, signed_scale]
  have f1 : plc x - min (plc x) (plc y) + min (plc x) (plc y) = plc x := by omega
  have f2 : plc y - min (plc x) (plc y) + min (plc x) (plc y) = plc y := by omega
  rw [f1, f2, signed_Sv, signed_Sv]

theorem fneg_small {x : Nat} (h : x < 2 ^ 63) : fneg x = false := by unfold fneg; simp; omega
theorem Sv_small {x : Nat} (h : x < 2 ^ 63) : Sv x = (V x : Int) := by unfold Sv; rw [fneg_small h]; rfl
/-- Among sizes the order is that of the words. -/
theorem ord_pos {x y : Nat} (hx : x < infR) (hy : y < infR) : ord x y = some (compare x y) := by
  have lx : x < 2 ^ 63 := by unfold infR at hx; omega
  have ly : y < 2 ^ 63 := by unfold infR at hy; omega
  rw [ord_fin (by simp [isFin]; omega) (by simp [isFin]; omega), Sv_small lx, Sv_small ly]
  congr 1
  simp only [compare, compareOfLessAndEq]
  by_cases a : x < y
  · rw [if_pos (by have := V_lt a ly; omega), if_pos a]
  · by_cases b : x = y
    · subst b; simp
    · have := V_lt (show y < x by omega) lx
      rw [if_neg (by omega), if_neg (by omega), if_neg a, if_neg b]
/-- math.IsInf's test. -/
theorem ord_max {x : Nat} (h : x < 2 ^ 63) : (ord x 9218868437227405311 == some .gt) = isInf x := by
  have e : x % 2 ^ 63 = x := by omega
  rcases tri x with f | i | n
  · have hx : x < infR := by simpa [isFin, e] using f
    rw [ord_pos hx (by decide)]
    have : isInf x = false := by simp [isInf, e]; omega
    rw [this]
    simp only [compare, compareOfLessAndEq]
    unfold infR at hx
    by_cases a : x < 9218868437227405311
    · rw [if_pos a]; rfl
    · rw [if_neg a, if_pos (by omega)]; rfl
  · rw [i]
    have : ord x 9218868437227405311 = some .gt := by
      simp only [ord, Format.order, read_inf x i, fneg_small h, read_fin 9218868437227405311 (by decide), Datum.order]; rfl
    rw [this]; rfl
  · rw [ord_nan_left n]
    have : isInf x = false := by simp only [isNaN, decide_eq_true_eq] at n; simp [isInf]; omega
    rw [this]; rfl

theorem isInf_mod (x : Nat) : isInf (x % 2 ^ 63) = isInf x := by unfold isInf; rw [Nat.mod_mod]
theorem isNaN_mod (x : Nat) : isNaN (x % 2 ^ 63) = isNaN x := by unfold isNaN; rw [Nat.mod_mod]
theorem isFin_mod (x : Nat) : isFin (x % 2 ^ 63) = isFin x := by unfold isFin; rw [Nat.mod_mod]

/-- x - x is 0 of just the finite ones. -/
theorem sub_self_fin {x : Nat} (h : isFin x = true) (w : World) : fop .sub x x w = 0 := by
  refine fop_some ?_ w
  simp only [floatBits, FloatKind.format, Format.sub, read_fin x h, Datum.opposite, Datum.sum, Option.map_some, Option.some.injEq]
  have e : (-1074 + (plc x : Int) - min (-1074 + (plc x : Int)) (-1074 + (plc x : Int))).toNat = 0 := by omega
  rw [e]
  have t : signed (fneg x) (mag x) 0 + signed (!fneg x) (mag x) 0 = 0 := by unfold signed; cases fneg x <;> simp <;> omega
  rw [t]
  simp [Format.write, Format.nearest, Format.word]
theorem sub_self_not {x : Nat} (h : isFin x = false) (w : World) : isNaN (fop .sub x x w) = true := by
  refine fop_none ?_ w
  rcases tri x with f | i | n
  · simp [f] at h
  · simp [floatBits, FloatKind.format, Format.sub, read_inf x i, Datum.opposite, Datum.sum]
  · exact bits_nan (by simp) x x (.inl n)
theorem sub_self_ord (x : Nat) (w : World) : (ord (fop .sub x x w) 0 == some .eq) = isFin x := by
  cases h : isFin x
  · rw [ord_nan_left (sub_self_not h w)]; rfl
  · rw [sub_self_fin h w]; decide

theorem bits_abs (x : Nat) (hx : x < 2 ^ 64) : (bits .andNot .u64 (x : Int) 9223372036854775808).toNat = x % 2 ^ 63 := by
  unfold bits
  have hb : ~~~(BitVec.ofInt 64 9223372036854775808) = BitVec.ofNat 64 (2 ^ 63 - 1) := by decide
  have ha : (BitVec.ofInt 64 (x : Int)).toNat = x := by
    rw [BitVec.ofInt_natCast, BitVec.toNat_ofNat]; omega
  show (IntKind.u64.wrap ((BitVec.ofInt 64 (x : Int) &&& ~~~(BitVec.ofInt 64 9223372036854775808)).toNat : Int)).toNat = _
  rw [hb, BitVec.toNat_and, ha]
  have hc : (BitVec.ofNat 64 (2 ^ 63 - 1)).toNat = 2 ^ 63 - 1 := by decide
  rw [hc, Nat.and_two_pow_sub_one_eq_mod]
  have hw : IntKind.u64.wrap ((x % 2 ^ 63 : Nat) : Int) = ((x % 2 ^ 63 : Nat) : Int) := by
    simp only [IntKind.wrap, IntKind.bits, IntKind.signed]
    simp; omega
  rw [hw]; rfl
theorem bits_fin (x : Nat) : (bits .and .u64 ((x : Int) / 4503599627370496) 2047 != 2047) = isFin x := by
  have h1 : (bits .and .u64 ((x : Int) / 4503599627370496) 2047) = ((x / 2 ^ 52 % 2048 : Nat) : Int) := by
    unfold bits
    have ha : (BitVec.ofInt 64 ((x : Int) / 4503599627370496)).toNat = x / 2 ^ 52 % 2 ^ 64 := by
      have : ((x : Int) / 4503599627370496) = ((x / 2 ^ 52 : Nat) : Int) := by omega
      rw [this, BitVec.ofInt_natCast, BitVec.toNat_ofNat]
    show IntKind.u64.wrap ((BitVec.ofInt 64 ((x : Int) / 4503599627370496) &&& BitVec.ofInt 64 2047).toNat : Int) = _
    have hc : (BitVec.ofInt 64 2047).toNat = 2 ^ 11 - 1 := by decide
    rw [BitVec.toNat_and, ha, hc, Nat.and_two_pow_sub_one_eq_mod]
    simp only [IntKind.wrap, IntKind.bits, IntKind.signed]
    simp; omega
  rw [h1]
  unfold isFin infR
  rw [Bool.eq_iff_iff]
  simp
  omega
end Go.Proofs.Ytigkfdoeneemeaa.Fl
/- Walks of the small functions on one float: which are finite, sizes. -/
namespace Go.Proofs.Ytigkfdoeneemeaa
open Go.RowKit

theorem ret_bool {a b : Bool} (h : a = b) : Ending.returned (.bool a) = .returned (.bool b) := by rw [h]
theorem ret_float {a b : Nat} (h : a = b) : Ending.returned (.float .f64 a) = .returned (.float .f64 b) := by rw [h]

set_option maxHeartbeats 400000 in
theorem abs_any (x : Nat) (w : World) (hx : x < 2 ^ 64) :
    Calls Try.prog 63 #[.float .f64 x] w fun e w' => e = .returned (.float .f64 (x % 2 ^ 63)) ∧ w' = w := by
  go_enter Try.func63, Try.ntmps63
  go_wp2
  go_ret
  exact ⟨ret_float (Fl.bits_abs x hx), rfl⟩

set_option maxHeartbeats 400000 in
theorem isNaN_any (x : Nat) (w : World) :
    Calls Try.prog 142 #[.float .f64 x] w fun e w' => e = .returned (.bool (Fl.isNaN x)) ∧ w' = w := by
  go_enter Try.func142, Try.ntmps142
  go_wp2
  go_ret
  exact ⟨ret_bool (Fl.ord_self_ne x), rfl⟩

set_option maxHeartbeats 400000 in
theorem isInf_any (x : Nat) (w : World) (hx : x < 2 ^ 64) :
    Calls Try.prog 64 #[.float .f64 x, .int .i64 0] w fun e w' => e = .returned (.bool (Fl.isInf x)) ∧ w' = w := by
  go_enter Try.func64, Try.ntmps64
  go_wp2_with (go_at_call 63; refine (abs_any _ _ hx).mono ?_; rintro e w' ⟨rfl, rfl⟩)
  go_ret
  exact ⟨ret_bool ((Fl.ord_max (Nat.mod_lt _ (by decide))).trans (Fl.isInf_mod x)), rfl⟩

set_option maxHeartbeats 400000 in
theorem realFinite_any (x : Nat) (w : World) (hx : x < 2 ^ 64) :
    Calls Try.prog 94 #[.float .f64 x] w fun e w' => e = .returned (.bool (Fl.isFin x)) ∧ w' = w := by
  go_enter Try.func94, Try.ntmps94
  cases hn : Fl.isNaN x
  all_goals
    go_wp2_with (first | (go_at_call 142; refine (isNaN_any _ _).mono ?_; rintro e w' ⟨rfl, rfl⟩) | (go_at_call 64; refine (isInf_any _ _ hx).mono ?_; rintro e w' ⟨rfl, rfl⟩))
    go_ret
    exact ⟨ret_bool (by rw [Fl.fin_not, hn]; simp), rfl⟩

set_option maxHeartbeats 400000 in
theorem alarmFinite_any (x : Nat) (w : World) (hx : x < 2 ^ 64) :
    Calls Try.prog 100 #[.float .f64 x] w fun e w' => e = .returned (.bool (Fl.isFin x)) ∧ w' = w := by
  go_enter Try.func100, Try.ntmps100
  cases hn : Fl.isInf x
  all_goals
    go_wp2_with (first | (go_at_call 142; refine (isNaN_any _ _).mono ?_; rintro e w' ⟨rfl, rfl⟩) | (go_at_call 64; refine (isInf_any _ _ hx).mono ?_; rintro e w' ⟨rfl, rfl⟩))
    go_ret
    exact ⟨ret_bool (by rw [Fl.fin_not, hn]; simp), rfl⟩

set_option maxHeartbeats 400000 in
theorem partsFinite_any (x : Nat) (w : World) (hx : x < 2 ^ 64) :
    Calls Try.prog 113 #[.float .f64 x] w fun e w' => e = .returned (.bool (Fl.isFin x)) ∧ w' = w := by
  go_enter Try.func113, Try.ntmps113
  cases hn : Fl.isInf x
  all_goals
    go_wp2_with (first | (go_at_call 64; refine (isInf_any _ _ hx).mono ?_; rintro e w' ⟨rfl, rfl⟩))
    go_ret
    exact ⟨ret_bool (by rw [Fl.fin_not, hn]; simp; try exact Fl.ord_self_eq x), rfl⟩

set_option maxHeartbeats 400000 in
theorem ref06Finite_any (x : Nat) (w : World) :
    Calls Try.prog 95 #[.float .f64 x] w fun e w' => e = .returned (.bool (Fl.isFin x)) ∧ w' = w := by
  go_enter Try.func95, Try.ntmps95
  go_wp2
  go_ret
  exact ⟨ret_bool (Fl.bits_fin x), rfl⟩

set_option maxHeartbeats 400000 in
theorem ref07Finite_any (x : Nat) (w : World) :
    Calls Try.prog 114 #[.float .f64 x] w fun e w' => e = .returned (.bool (Fl.isFin x)) ∧ ∃ n, w' = w.drewN n := by
  go_enter Try.func114, Try.ntmps114
  go_wp2
  go_ret
  exact ⟨ret_bool (Fl.sub_self_ord x w), _, rfl⟩

set_option maxHeartbeats 400000 in
theorem ref29Finite_any (x : Nat) (w : World) :
    Calls Try.prog 104 #[.float .f64 x] w fun e w' => e = .returned (.bool (Fl.isFin x)) ∧ ∃ n, w' = w.drewN n := by
  go_enter Try.func104, Try.ntmps104
  go_wp2
  go_ret
  exact ⟨ret_bool (Fl.sub_self_ord x w), _, rfl⟩
end Go.Proofs.Ytigkfdoeneemeaa
/- The small functions of the law of waters: small, whole, sign, walked. -/
namespace Go.Proofs.Ytigkfdoeneemeaa
open Go.RowKit

def smW (n most : Nat) : Bool := decide (n ≤ most) || (decide (2048 < n) && decide (n < 2057))
set_option maxHeartbeats 400000 in
theorem law04small_any (a : Option Addr) (n c most : Nat) (w : World) (hn : n ≤ 9223372036854775807) (hm : most ≤ 1000) :
    Calls Try.prog 119 #[.slice a n c, .int .i64 most] w fun e w' => e = .returned (.bool (smW n most)) ∧ w' = w := by
  by_cases h1 : n ≤ most
  · have d1 : decide ((n : Int) ≤ (most : Int)) = true := by simp; omega
    have d1' : decide (n ≤ most) = true := by simpa using h1
    have HE := Lib.hid (show smW n most = true by unfold smW; rw [d1']; rfl)
    go_enter Try.func119, Try.ntmps119
    go_wp2
    go_ret
    exact ⟨ret_bool HE.out.symm, rfl⟩
  · have d1 : decide ((n : Int) ≤ (most : Int)) = false := by simp; omega
    have d1' : decide (n ≤ most) = false := by simpa using h1
    by_cases h2 : 2048 < n
    · have d2 : decide ((2048 : Int) < (n : Int)) = true := by simp; omega
      have d2' : decide (2048 < n) = true := by simpa using h2
      by_cases h3 : n < 2057
      · have d3 : decide ((n : Int) < 2057) = true := by simp; omega
        have HE := Lib.hid (show smW n most = true by unfold smW; rw [d1', d2']; simpa using h3)
        go_enter Try.func119, Try.ntmps119
        go_wp2
        go_ret
        exact ⟨ret_bool HE.out.symm, rfl⟩
      · have d3 : decide ((n : Int) < 2057) = false := by simp; omega
        have HE := Lib.hid (show smW n most = false by unfold smW; rw [d1', d2']; simpa using h3)
        go_enter Try.func119, Try.ntmps119
        go_wp2
        go_ret
        exact ⟨ret_bool HE.out.symm, rfl⟩
    · have d2 : decide ((2048 : Int) < (n : Int)) = false := by simp; omega
      have d2' : decide (2048 < n) = false := by simpa using h2
      have HE := Lib.hid (show smW n most = false by unfold smW; rw [d1', d2']; rfl)
      go_enter Try.func119, Try.ntmps119
      go_wp2
      go_ret
      exact ⟨ret_bool HE.out.symm, rfl⟩

def smF (r : Fr) : Bool := smW r.num.length 20 && smW r.den.length 20
set_option maxHeartbeats 400000 in
theorem law04Small_any (r : Fr) (a : Option Addr) (c : Nat) (b : Option Addr) (d : Nat) (w : World) (hn : r.num.length ≤ 9223372036854775807) (hd : r.den.length ≤ 9223372036854775807) :
    Calls Try.prog 65 #[frV r a c b d, .int .i64 20] w fun e w' => e = .returned (.bool (smF r)) ∧ ∃ x, w' = w.ext x := by
  obtain ⟨rn, rnum, rden⟩ := r
  simp only at hn hd
  have L1 := fun W => law04small_any a rnum.length c 20 W hn (by decide)
  have L2 := fun W => law04small_any b rden.length d 20 W hd (by decide)
  have he : smF ⟨rn, rnum, rden⟩ = (smW rnum.length 20 && smW rden.length 20) := rfl
  generalize smW rnum.length 20 = u at *
  generalize smW rden.length 20 = v at *
  have H1 := Lib.hid L1
  have H2 := Lib.hid L2
  have HE := Lib.hid he
  clear L1 L2 he
  cases u
  · go_enter Try.func65, Try.ntmps65
    go_wp2_with (go_at_call 119; (first | (with_reducible refine Calls.mono (H1.out _) ?_) | (with_reducible refine Calls.mono (H2.out _) ?_)); rintro e w' ⟨rfl, rfl⟩)
    go_ret
    exact ⟨ret_bool (by rw [HE.out]; rfl), Blw.is (by repeat (first | exact Blw.refl _ | apply Blw.ext | apply Blw.alloc | apply Blw.drewN | apply Blw.drew | refine Blw.setCell ?_ _ _ (by simp)))⟩
  · go_enter Try.func65, Try.ntmps65
    go_wp2_with (go_at_call 119; (first | (with_reducible refine Calls.mono (H1.out _) ?_) | (with_reducible refine Calls.mono (H2.out _) ?_)); rintro e w' ⟨rfl, rfl⟩)
    go_ret
    exact ⟨ret_bool (by rw [HE.out]; rfl), Blw.is (by repeat (first | exact Blw.refl _ | apply Blw.ext | apply Blw.alloc | apply Blw.drewN | apply Blw.drew | refine Blw.setCell ?_ _ _ (by simp)))⟩

theorem sl_ratios : SlT Try.prog 97 88 (.agg #[.bool false, .slice none 0 0, .slice none 0 0]) 3 56 := ⟨Try.underlying97, by kernel_rfl, by kernel_rfl, by decide⟩
def wholeR (ns : List Int) : List Fr := ns.map (fun n => smallF n 1)
/-- Fractions of the call's own, in a slice of the call's own. -/
def RetFls (w : World) (rs : List Fr) (e : Ending) (w' : World) : Prop :=
  ∃ (out : List FL) (a : Option Addr) (c : Nat), e = .returned (.slice a out.length c) ∧ Blw w w' ∧ w'.ownsRow w.heap.size 88 3 (.slice a out.length c) out.length (fls out) ∧ (∀ x ∈ out, OwnFL w.heap.size w' x) ∧ out.map (·.r) = rs
theorem smallF_wf (n d : Int) : W.WF (smallF n d).num ∧ W.WF (smallF n d).den := ⟨W.wf_toW _, W.wf_toW _⟩

set_option maxRecDepth 100000 in
set_option maxHeartbeats 4000000 in
theorem whole_any (a : Option Addr) (ns : List Int) (cap : Nat) (w : World) (h : Arr w a (i64s ns)) (hl : ns.length ≤ 1000) (hb : ∀ n ∈ ns, -9223372036854775808 ≤ n ∧ n ≤ 9223372036854775807) :
    Calls Try.prog 92 #[.slice a ns.length cap] w (RetFls w (wholeR ns)) := by
  have HB := Lib.hid hb
  clear hb
  go_enter Try.func92, Try.ntmps92
  go_wp2_with fail
  go_loopw [3, 4] (fun vo vi wr => ∃ (k : Nat) (out : List FL) (b : Option Addr) (c : Nat), k ≤ ns.length ∧ vi = .int .i64 k ∧ vo = .slice b out.length c ∧ wr.ownsRow w.heap.size 88 3 (.slice b out.length c) out.length (fls out) ∧ (∀ x ∈ out, OwnFL w.heap.size wr x) ∧ Hid (out.map (·.r) = wholeR (ns.take k)) ∧ Blw w wr) (fun _ i _ => ns.length - (intOf i).toNat)
  case atStart => exact ⟨0, [], none, 0, Nat.zero_le _, rfl, rfl, World.ownsRow_nil _ _ _ _, (fun x h => by simp at h), rfl, Blw.refl _⟩
  case round =>
    obtain ⟨k, out, b, c, hk, rfl, rfl, hown, hio, hkey, hbw⟩ := hrel
    have HIO := Lib.hid hio
    clear hio
    have hlen : out.length = k := by
      have := congrArg List.length hkey.out
      simp [wholeR] at this; omega
    by_cases hlt : k < ns.length
    · obtain ⟨n, bb, o, -, hm, hg, rfl, hbs, hc⟩ := (h.blw hbw).elem hlt
      obtain ⟨n0, n1⟩ := HB.out n hm
      have HG := Lib.hid hg.out
      clear hg hm
      have HLN := Lib.hid hlen
      have hlen2 : out.length ≤ 1000 := by omega
      clear hlen
      go_wp2_with fail
      refine Calls.mono (ratioSmall_any n 1 _ n0 n1 (by decide) (by decide) (by decide)) ?_
      rintro e w5 ⟨p1, q1, p2, q2, rfl, hb5, oX, oY⟩
      obtain ⟨wf1, wf2⟩ := smallF_wf n 1
      have HWF1 := Lib.hid wf1
      have HWF2 := Lib.hid wf2
      obtain ⟨⟨ng, nw, dw⟩, hF⟩ := ex_hid (smallF n 1)
      rw [hF.out] at oX oY HWF1 HWF2 ⊢
      simp only at oX oY HWF1 HWF2
      have hown5 := ownsRow_blw hown hb5
      have HIO5 := Lib.hid (fun x hx => (HIO.out x hx).blw hb5)
      have oX5 := ownsRow_mono oX hbw.size
      have oY5 := ownsRow_mono oY hbw.size
      have hbw5 := hbw.trans hb5
      clear oX oY hown wf1 wf2 HIO
      have HCL := Lib.hid (cells_len FL.cells 3 (fun _ => rfl) out)
      go_wp2_with (at_builtin; refine wpList_app w _ rfl _ _ 97 rfl sl_ratios ((hbw5.alloc _).alloc _) _ out.length _ rfl (ownsRow_blw hown5 (((Blw.refl _).alloc _).alloc _)) _ 1 1 [.bool ng, .slice p1 nw.length q1, .slice p2 dw.length q2] rfl (by simp) (Arr.lit_at _ _ _ _ (by simp)) (by simp) (by simp [Value.oneCell']) (by unfold maxLen; omega) (by omega) ?_; intro v7 w7 hown7 hb7 hg7 _)
      obtain ⟨a7, c7, rfl, -, -, -, -, -⟩ := own_arr hown7
      have HKEY : Hid ((out ++ [(⟨⟨ng, nw, dw⟩, p1, q1, p2, q2⟩ : FL)]).map (·.r) = wholeR (ns.take (k + 1))) := by
        show _ = _
        rw [List.map_append, hkey.out, List.take_add_one, HG.out]
        simp [wholeR, hF.out]
      have HO : Hid (∀ x ∈ out ++ [(⟨⟨ng, nw, dw⟩, p1, q1, p2, q2⟩ : FL)], OwnFL w.heap.size w7 x) := by
        intro x hx
        rw [List.mem_append, List.mem_singleton] at hx
        rcases hx with hx | rfl
        · exact OwnFL.past ((HIO5.out x hx).blw (((Blw.refl _).alloc _).alloc _)) (ownsRow_blw hown5 (((Blw.refl _).alloc _).alloc _)) (by decide) hg7
        · exact OwnFL.past (OwnFL.blw ⟨oX5, oY5, HWF1.out, HWF2.out⟩ (((Blw.refl _).alloc _).alloc _)) (ownsRow_blw hown5 (((Blw.refl _).alloc _).alloc _)) (by decide) hg7
      have HOL : Hid (w7.ownsRow w.heap.size 88 3 (.slice a7 (out ++ [(⟨⟨ng, nw, dw⟩, p1, q1, p2, q2⟩ : FL)]).length c7) (out ++ [(⟨⟨ng, nw, dw⟩, p1, q1, p2, q2⟩ : FL)]).length (fls (out ++ [(⟨⟨ng, nw, dw⟩, p1, q1, p2, q2⟩ : FL)]))) := by
        have e : fls (out ++ [(⟨⟨ng, nw, dw⟩, p1, q1, p2, q2⟩ : FL)]) = fls out ++ [.bool ng, .slice p1 nw.length q1, .slice p2 dw.length q2] := by
          rw [fls, List.flatMap_append]; rfl
        show World.ownsRow _ _ _ _ _ _ _
        rw [e, List.length_append]
        exact hown7
      clear hown7 hg7
      go_roundw
      case rel => exact ⟨k + 1, _, a7, c7, by omega, by go_num, (by rw [List.length_append]; rfl), HOL.out, HO.out, HKEY, hb7⟩
      case measure => simp [intOf]; omega
    · have hkl : k = ns.length := by omega
      subst hkl
      have HK := Lib.hid (hkey.out.trans (by rw [List.take_length]))
      clear hkey hlen
      go_wp2
      go_ret
      exact ⟨out, b, c, rfl, hbw, hown, HIO.out, HK.out⟩

set_option maxHeartbeats 400000 in
theorem sign_ok (x y : FL) (w : World) (hx : FL.In w x) (hy : FL.In w y) (ox : x.r.Ok) (oy : y.r.Ok) :
    Calls Try.prog 90 #[frV x.r x.a x.c x.b x.d, frV y.r y.a y.c y.b y.d] w fun e w' => e = .returned (.int .i64 (cmpF x.r y.r)) ∧ ∃ z, w' = w.ext z := by
  have K := Lib.hid (fun (W : World) (hb : Blw w W) => ratioCompare_ok x.r y.r x.a x.c x.b x.d y.a y.c y.b y.d W (hx.blw hb) (hy.blw hb) ox oy)
  clear hx hy ox oy
  go_enter Try.func90, Try.ntmps90
  go_wp2_with fail
  refine Calls.mono (K.out _ (by repeat (first | exact Blw.refl _ | apply Blw.ext | apply Blw.alloc | apply Blw.drewN | apply Blw.drew | refine Blw.setCell ?_ _ _ (by simp)))) ?_
  rintro e w1 ⟨rfl, x1, rfl⟩
  go_wp2
  go_ret
  exact ⟨rfl, Blw.is (by repeat (first | exact Blw.refl _ | apply Blw.ext | apply Blw.alloc | apply Blw.drewN | apply Blw.drew | refine Blw.setCell ?_ _ _ (by simp)))⟩
end Go.Proofs.Ytigkfdoeneemeaa
/- The law of waters: small, SameInts, walked. -/
namespace Go.Proofs.Ytigkfdoeneemeaa
open Go.RowKit

def smallL (l : List FL) : Bool := if (60 < l.length ∧ l.length ≤ 4096) ∨ 4105 < l.length then false else l.all fun x => smF x.r

set_option maxRecDepth 100000 in
set_option maxHeartbeats 2000000 in
theorem law25small_any (A : Option Addr) (l : List FL) (cap : Nat) (w : World) (hA : Arr w A (fls l)) (hl : l.length ≤ 9223372036854775807) (hw : ∀ x ∈ l, x.r.num.length ≤ 9223372036854775807 ∧ x.r.den.length ≤ 9223372036854775807) :
    Calls Try.prog 74 #[.slice A l.length cap] w fun e w' => e = .returned (.bool (smallL l)) ∧ ∃ x, w' = w.ext x := by
  by_cases h0 : (60 < l.length ∧ l.length ≤ 4096) ∨ 4105 < l.length
  · have HE := Lib.hid (show smallL l = false from if_pos h0)
    rcases h0 with ⟨h1, h2⟩ | h1
    · have d1 : decide ((60 : Int) < (l.length : Int)) = true := by simp; omega
      have d2 : decide ((l.length : Int) ≤ 4096) = true := by simp; omega
      go_enter Try.func74, Try.ntmps74
      go_wp2
      go_ret
      exact ⟨ret_bool HE.out.symm, Blw.is (by repeat (first | exact Blw.refl _ | apply Blw.ext | apply Blw.alloc | apply Blw.drewN | apply Blw.drew | refine Blw.setCell ?_ _ _ (by simp)))⟩
    · have d1 : decide ((60 : Int) < (l.length : Int)) = true := by simp; omega
      have d2 : decide ((l.length : Int) ≤ 4096) = false := by simp; omega
      have d3 : decide ((4105 : Int) < (l.length : Int)) = true := by simp; omega
      go_enter Try.func74, Try.ntmps74
      go_wp2
      go_ret
      exact ⟨ret_bool HE.out.symm, Blw.is (by repeat (first | exact Blw.refl _ | apply Blw.ext | apply Blw.alloc | apply Blw.drewN | apply Blw.drew | refine Blw.setCell ?_ _ _ (by simp)))⟩
  · have he : smallL l = l.all fun x => smF x.r := if_neg h0
    have HE := Lib.hid he
    have hcs : decide ((60 : Int) < (l.length : Int)) = false ∨ (decide ((60 : Int) < (l.length : Int)) = true ∧ decide ((l.length : Int) ≤ 4096) = false) := by
      by_cases h1 : 60 < l.length
      · exact .inr ⟨by simp; omega, by simp; omega⟩
      · exact .inl (by simp; omega)
    have d3 : decide ((4105 : Int) < (l.length : Int)) = false := by simp; omega
    have HW := Lib.hid hw
    clear h0 he hw
    go_enter Try.func74, Try.ntmps74
    rcases hcs with d1 | ⟨d1, d2⟩
    all_goals
      go_wp2
      go_loopw [3] (fun vi wr => ∃ k : Nat, k ≤ l.length ∧ vi = .int .i64 k ∧ Hid ((l.all fun x => smF x.r) = (l.drop k).all fun x => smF x.r) ∧ Blw w wr) (fun i _ => l.length - (intOf i).toNat)
      case atStart => exact ⟨0, Nat.zero_le _, rfl, rfl, Blw.refl _⟩
      case round =>
        obtain ⟨k, hk, rfl, hall, hb⟩ := hrel
        by_cases hlt : k < l.length
        · obtain ⟨x, b, o, hgk, hm, rfl, hbs, c0, c1, c2⟩ := fl_at (hA.blw hb) hlt
          obtain ⟨b1, b2⟩ := HW.out x hm
          have hd : l.drop k = x :: l.drop (k + 1) := by
            obtain ⟨h9, h8⟩ := List.getElem?_eq_some_iff.1 hgk
            rw [List.drop_eq_getElem_cons h9, h8]
          have SM := fun W => law04Small_any x.r x.a x.c x.b x.d W b1 b2
          have hall2 := hall.out
          rw [hd, List.all_cons] at hall2
          generalize smF x.r = u at *
          have HSM := Lib.hid SM
          clear SM hall hgk hd hm
          go_wp2_with fail
          refine Calls.mono (HSM.out _) ?_
          rintro e w2 ⟨rfl, x2, rfl⟩
          cases u
          · have HA2 := Lib.hid (HE.out.trans hall2)
            clear hall2
            go_wp2
            go_ret
            exact ⟨ret_bool (by rw [HA2.out]; rfl), Blw.is (hb.ext _)⟩
          · have HA2 := Lib.hid hall2
            clear hall2
            go_wp2
            go_roundw
            case rel => exact ⟨k + 1, by omega, by go_num, HA2, hb.ext _⟩
            case measure => simp [intOf]; omega
        · have hkl : k = l.length := by omega
          subst hkl
          have HA2 := Lib.hid (HE.out.trans (hall.out.trans (show ((l.drop l.length).all fun x => smF x.r) = true by rw [List.drop_length]; rfl)))
          clear hall
          go_wp2
          go_ret
          exact ⟨ret_bool HA2.out.symm, Blw.is hb⟩

set_option maxHeartbeats 800000 in
theorem sameInts_refl_any (a b : Option Addr) (l : List Int) (c d : Nat) (w : World) (ha : Arr w a (i64s l)) (hb : Arr w b (i64s l)) (hl : l.length ≤ 1099511627776) :
    Calls Try.prog 93 #[.slice a l.length c, .slice b l.length d] w fun e w' => e = .returned (.bool true) ∧ ∃ x, w' = w.ext x := by
  go_enter Try.func93, Try.ntmps93
  go_wp2
  go_loopw [5] (fun i wr => ∃ (k : Nat) (x : World), k ≤ l.length ∧ i = .int .i64 k ∧ wr = w.ext x) (fun i _ => l.length - (intOf i).toNat)
  case atStart => exact ⟨0, w, Nat.zero_le _, rfl, (World.ext_of (Blw.refl w)).symm⟩
  case round =>
    obtain ⟨k, wx, hk, rfl, rfl⟩ := hrel
    by_cases hlt : k < l.length
    · obtain ⟨x, b1, o1, hd1, -, -, rfl, hb1, hc1⟩ := ha.elem hlt
      obtain ⟨y, b2, o2, hd2, -, -, rfl, hb2, hc2⟩ := hb.elem hlt
      have hxy : x = y := by have := hd1.out.symm.trans hd2.out; simp at this; exact this
      subst hxy
      have h0 : (0 : Int) ≤ (k : Int) := by omega
      have h1 : (k : Int) < (l.length : Int) := by omega
      go_wp2_with fail
      go_quiet (fail)
      go_wp2
      go_roundw
      case rel => exact ⟨k + 1, _, by omega, by go_num, (World.ext_of (by repeat (first | exact Blw.refl _ | apply Blw.ext | apply Blw.alloc | apply Blw.drewN | apply Blw.drew | refine Blw.setCell ?_ _ _ (by simp)))).symm⟩
      case measure => simp [intOf]; omega
    · go_wp2
      go_ret
      exact ⟨rfl, Blw.is (by repeat (first | exact Blw.refl _ | apply Blw.ext | apply Blw.alloc | apply Blw.drewN | apply Blw.drew | refine Blw.setCell ?_ _ _ (by simp)))⟩
end Go.Proofs.Ytigkfdoeneemeaa
/- Walks of height.Lower and of the reference's: both compare the same rounded sums. -/
namespace Go.Proofs.Ytigkfdoeneemeaa
open Go.RowKit

def lowerB (a b c d : Nat) : Bool := Fl.ord (Fl.fop .add a b default) (Fl.fop .sub c d default) == some .lt
theorem lowerB_any (a b c d : Nat) (w w' : World) : (FloatKind.f64.format.order (Fl.fop .add a b w) (Fl.fop .sub c d w') == some .lt) = lowerB a b c d := by
  unfold lowerB
  rw [Fl.same.ord (Fl.same_add (.refl a) (.refl b) default w) (Fl.same_sub (.refl c) (.refl d) default w')]
  rfl

set_option maxHeartbeats 400000 in
theorem lower_any (a b c d : Nat) (w : World) :
    Calls Try.prog 16 #[.agg #[.float .f64 a, .float .f64 b], .agg #[.float .f64 c, .float .f64 d]] w fun e w' => e = .returned (.bool (lowerB a b c d)) ∧ ∃ x, w' = w.ext x := by
  go_enter Try.func16, Try.ntmps16
  go_wp2
  go_ret
  exact ⟨congrArg (fun b => Ending.returned (.bool b)) (lowerB_any _ _ _ _ _ _), ((((Blw.refl w).alloc _).alloc _).drewN _).is⟩

set_option maxHeartbeats 400000 in
theorem refLower_any (a b c d : Nat) (w : World) :
    Calls Try.prog 17 #[.agg #[.float .f64 a, .float .f64 b], .agg #[.float .f64 c, .float .f64 d]] w fun e w' => e = .returned (.bool (lowerB a b c d)) ∧ ∃ x, w' = w.ext x := by
  go_enter Try.func17, Try.ntmps17
  go_wp2
  go_ret
  exact ⟨congrArg (fun b => Ending.returned (.bool b)) (lowerB_any _ _ _ _ _ _), ((((Blw.refl w).alloc _).alloc _).drewN _).is⟩
end Go.Proofs.Ytigkfdoeneemeaa
/- What floats say of a list of heights: plain Lean, and the three lists in memory. -/
namespace Go.Proofs.Ytigkfdoeneemeaa
open Go.RowKit

/-- A height and its bound, as cells. -/
def off (p : Nat × Nat) : List Value := [.float .f64 p.1, .float .f64 p.2]
abbrev offs (l : List (Nat × Nat)) : List Value := l.flatMap off
theorem off_at {w : World} {A : Option Addr} {l : List (Nat × Nat)} (h : Arr w A (offs l)) {k : Nat} (hk : k < l.length) :
    ∃ (x : Nat × Nat) (b o : Nat), l[k]? = some x ∧ x ∈ l ∧ A = some ⟨b, o, none⟩ ∧ b < w.heap.size ∧ w.cell? ⟨b, o + k * 2, none⟩ = some (.float .f64 x.1) ∧ w.cell? ⟨b, o + k * 2 + 1, none⟩ = some (.float .f64 x.2) := by
  obtain ⟨x, b, o, h1, h2, h3, h4, h5⟩ := cells_arr off 2 (fun _ => rfl) (by decide) h hk
  exact ⟨x, b, o, h1, h2, h3, h4, h5 0 (by decide), h5 1 (by decide)⟩

/-- Is the height at a place surely lower than that at another one? -/
def low (l : List (Nat × Nat)) (i k : Nat) : Bool := lowerB (l.getD i (0, 0)).1 (l.getD i (0, 0)).2 (l.getD k (0, 0)).1 (l.getD k (0, 0)).2
/-- What is counted: neighbours surely lower (as the program names them: 'higher'), surely higher, all; is one in doubt? -/
structure SC where
  hi : Nat
  lo : Nat
  nr : Nat
  db : Bool
def sc0 : SC := ⟨0, 0, 0, false⟩
def scAt (l : List (Nat × Nat)) (i k : Nat) (s : SC) : SC :=
  ⟨s.hi + (if low l k i then 1 else 0), s.lo + (if low l i k then 1 else 0), s.nr + 1, s.db || (!low l k i && !low l i k)⟩
def sc1 (l : List (Nat × Nat)) (i : Nat) : SC := if 0 < i then scAt l i (i - 1) sc0 else sc0
def sc2 (l : List (Nat × Nat)) (i : Nat) : SC := if i + 1 < l.length then scAt l i (i + 1) (sc1 l i) else sc1 l i
def isTop (l : List (Nat × Nat)) (i : Nat) : Bool := (sc2 l i).nr == 2 && (sc2 l i).hi == 2
def isBot (l : List (Nat × Nat)) (i : Nat) : Bool := (sc2 l i).nr == 2 && (sc2 l i).lo == 2
def isDbt (l : List (Nat × Nat)) (i : Nat) : Bool := (sc2 l i).db
/-- The places up to n that are of a kind, from a first tick on. -/
def tks (p : Nat → Bool) (first : Int) (n : Nat) : List Int := ((List.range n).filter p).map fun (i : Nat) => first + (i : Int)
theorem tks_zero (p : Nat → Bool) (first : Int) : tks p first 0 = [] := rfl
theorem tks_yes {p : Nat → Bool} {first : Int} {n : Nat} (h : p n = true) : tks p first (n + 1) = tks p first n ++ [first + (n : Int)] := by
  unfold tks; rw [List.range_succ, List.filter_append, List.map_append]; simp [h]
theorem tks_no {p : Nat → Bool} {first : Int} {n : Nat} (h : p n = false) : tks p first (n + 1) = tks p first n := by
  unfold tks; rw [List.range_succ, List.filter_append, List.map_append]; simp [h]
theorem tks_len (p : Nat → Bool) (first : Int) (n : Nat) : (tks p first n).length ≤ n := by
  unfold tks; rw [List.length_map]
  exact Nat.le_trans (List.length_filter_le _ _) (by simp)

theorem sl_ints : SlT Try.prog 106 3 (.int .i64 0) 1 8 := ⟨Try.underlying106, by kernel_rfl, by kernel_rfl, by decide⟩

/-- The struct's block is no row's: its type is another one. -/
theorem own_ne {w : World} {B g n size : Nat} {e T : TypeId} {v : Value} {cs : List Value} {c : Array Value} {fr : Nat × Nat} (h : w.ownsRow B e size v n cs) (hg : w.heap[g]? = some (.cells c T fr)) (hT : T ≠ e) : v.ownBlock ≠ some g := by
  intro h1
  rcases h.2 with ⟨rfl, _⟩ | ⟨k, c2, cur, rfl, _, hh, _⟩
  · cases h1
  · simp [Value.ownBlock] at h1
    rw [h1, hg] at hh
    simp at hh
    exact hT hh.2.1
theorem own_setT {w : World} {B g n size : Nat} {e T : TypeId} {v : Value} {cs : List Value} {c : Array Value} {fr : Nat × Nat} (h : w.ownsRow B e size v n cs) (hg : w.heap[g]? = some (.cells c T fr)) (hT : T ≠ e) (j : Nat) (u : Value) : (w.setCell ⟨g, j, none⟩ u).ownsRow B e size v n cs :=
  KeptO.own (O := fun k => k = g) ((KeptO.refl w).setCell _ _ (.inl rfl)) h (fun k hk e => own_ne h hg hT (by rw [hk, e]))

/-- The struct of three lists in block g, its rows apart; block r is the result's, as it was made. -/
structure SAt3 (w0 w : World) (g r : Nat) (T : TypeId) (l1 l2 l3 : List Int) (v1 v2 v3 : Value) : Prop where
  at_ : w.heap[g]? = some (.cells #[v1, v2, v3] T (0, 0))
  rs : w.heap[r]? = some (.cells #[.slice none 0 0, .slice none 0 0, .slice none 0 0] T (0, 0))
  rg : r ≠ g
  hg : w0.heap.size ≤ g
  bl : Blw w0 w
  hT : T ≠ 3
  o1 : w.ownsRow w0.heap.size 3 1 v1 l1.length (i64s l1)
  o2 : w.ownsRow w0.heap.size 3 1 v2 l2.length (i64s l2)
  o3 : w.ownsRow w0.heap.size 3 1 v3 l3.length (i64s l3)
  n12 : ∀ i, v1.ownBlock = some i → v2.ownBlock ≠ some i
  n13 : ∀ i, v1.ownBlock = some i → v3.ownBlock ≠ some i
  n23 : ∀ i, v2.ownBlock = some i → v3.ownBlock ≠ some i

section
variable {w0 w w' W : World} {g r : Nat} {T : TypeId} {l1 l2 l3 : List Int} {v1 v2 v3 v' : Value} {x : Int}
theorem SAt3.blw (h : SAt3 w0 w g r T l1 l2 l3 v1 v2 v3) (k : Blw w w') : SAt3 w0 w' g r T l1 l2 l3 v1 v2 v3 :=
  ⟨(KeptO.of_blw (O := fun _ => False) k).heap h.at_ id, (KeptO.of_blw (O := fun _ => False) k).heap h.rs id, h.rg, h.hg, h.bl.trans k, h.hT, ownsRow_blw h.o1 k, ownsRow_blw h.o2 k, ownsRow_blw h.o3 k, h.n12, h.n13, h.n23⟩
theorem SAt3.cells (h : SAt3 w0 w g r T l1 l2 l3 v1 v2 v3) : w.cell? ⟨g, 0, none⟩ = some v1 ∧ w.cell? ⟨g, 1, none⟩ = some v2 ∧ w.cell? ⟨g, 2, none⟩ = some v3 ∧ (∀ i, w.frozen? ⟨g, i, none⟩ = false) ∧ g < w.heap.size :=
  ⟨(cell_of_row w g 0 _ _ _ h.at_).trans rfl, (cell_of_row w g 1 _ _ _ h.at_).trans rfl, (cell_of_row w g 2 _ _ _ h.at_).trans rfl, fun i => frozen_of_row w g i _ _ h.at_, (Array.getElem?_eq_some_iff.1 h.at_).1⟩
theorem cells3 {w : World} {g : Nat} {T : TypeId} {v1 v2 v3 : Value} (h : w.heap[g]? = some (.cells #[v1, v2, v3] T (0, 0))) : w.cell? ⟨g, 0, none⟩ = some v1 ∧ w.cell? ⟨g, 1, none⟩ = some v2 ∧ w.cell? ⟨g, 2, none⟩ = some v3 ∧ (∀ i, w.frozen? ⟨g, i, none⟩ = false) ∧ g < w.heap.size :=
  ⟨(cell_of_row w g 0 _ _ _ h).trans rfl, (cell_of_row w g 1 _ _ _ h).trans rfl, (cell_of_row w g 2 _ _ _ h).trans rfl, fun i => frozen_of_row w g i _ _ h, (Array.getElem?_eq_some_iff.1 h).1⟩
theorem SAt3.grown1 (h : SAt3 w0 w g r T l1 l2 l3 v1 v2 v3) (hg : w.grownBy w' v1.ownBlock) : w'.heap[g]? = some (.cells #[v1, v2, v3] T (0, 0)) := at_grown hg (own_ne h.o1 h.at_ h.hT).symm h.at_
theorem SAt3.app1 (h : SAt3 w0 w g r T l1 l2 l3 v1 v2 v3) (hown : w'.ownsRow w0.heap.size 3 1 v' (l1.length + 1) (i64s l1 ++ [.int .i64 x])) (hb : Blw w0 w') (hg : w.grownBy w' v1.ownBlock) (ht : v'.ownBlock = v1.ownBlock ∨ v'.ownBlock = some w.heap.size) :
    SAt3 w0 (w'.setCell ⟨g, 0, none⟩ v') g r T (l1 ++ [x]) l2 l3 v' v2 v3 := by
  have hg' := h.grown1 hg
  have hr' := at_grown hg (own_ne h.o1 h.rs h.hT).symm h.rs
  refine ⟨?_, (Below.heap_setCell _ _ _ _ h.rg).trans hr', h.rg, h.hg, hb.setCell _ _ h.hg, h.hT, own_setT (by simpa using hown) hg' h.hT _ _, own_setT (own_past h.o2 (Blw.refl w) hg (fun i hi e => h.n12 i e hi)) hg' h.hT _ _, own_setT (own_past h.o3 (Blw.refl w) hg (fun i hi e => h.n13 i e hi)) hg' h.hT _ _, ?_, ?_, h.n23⟩
  · have := at_set 0 v' hg'
    simpa using this
  · intro i hi hj
    rcases ht with t | t
    · exact h.n12 i (t.symm.trans hi) hj
    · have := (World.ownsRow.lt h.o2 i hj).2
      rw [t] at hi; injection hi with hi; omega
  · intro i hi hj
    rcases ht with t | t
    · exact h.n13 i (t.symm.trans hi) hj
    · have := (World.ownsRow.lt h.o3 i hj).2
      rw [t] at hi; injection hi with hi; omega
theorem SAt3.grown2 (h : SAt3 w0 w g r T l1 l2 l3 v1 v2 v3) (hg : w.grownBy w' v2.ownBlock) : w'.heap[g]? = some (.cells #[v1, v2, v3] T (0, 0)) := at_grown hg (own_ne h.o2 h.at_ h.hT).symm h.at_
theorem SAt3.app2 (h : SAt3 w0 w g r T l1 l2 l3 v1 v2 v3) (hown : w'.ownsRow w0.heap.size 3 1 v' (l2.length + 1) (i64s l2 ++ [.int .i64 x])) (hb : Blw w0 w') (hg : w.grownBy w' v2.ownBlock) (ht : v'.ownBlock = v2.ownBlock ∨ v'.ownBlock = some w.heap.size) :
    SAt3 w0 (w'.setCell ⟨g, 1, none⟩ v') g r T l1 (l2 ++ [x]) l3 v1 v' v3 := by
  have hg' := h.grown2 hg
  have hr' := at_grown hg (own_ne h.o2 h.rs h.hT).symm h.rs
  refine ⟨?_, (Below.heap_setCell _ _ _ _ h.rg).trans hr', h.rg, h.hg, hb.setCell _ _ h.hg, h.hT, own_setT (own_past h.o1 (Blw.refl w) hg (fun i hi e => h.n12 i hi e)) hg' h.hT _ _, own_setT (by simpa using hown) hg' h.hT _ _, own_setT (own_past h.o3 (Blw.refl w) hg (fun i hi e => h.n23 i e hi)) hg' h.hT _ _, ?_, h.n13, ?_⟩
  · have := at_set 1 v' hg'
    simpa using this
  · intro i hi hj
    rcases ht with t | t
    · exact h.n12 i hi (t.symm.trans hj)
    · have := (World.ownsRow.lt h.o1 i hi).2
      rw [t] at hj; injection hj with hj; omega
  · intro i hi hj
    rcases ht with t | t
    · exact h.n23 i (t.symm.trans hi) hj
    · have := (World.ownsRow.lt h.o3 i hj).2
      rw [t] at hi; injection hi with hi; omega
theorem SAt3.grown3 (h : SAt3 w0 w g r T l1 l2 l3 v1 v2 v3) (hg : w.grownBy w' v3.ownBlock) : w'.heap[g]? = some (.cells #[v1, v2, v3] T (0, 0)) := at_grown hg (own_ne h.o3 h.at_ h.hT).symm h.at_
theorem SAt3.app3 (h : SAt3 w0 w g r T l1 l2 l3 v1 v2 v3) (hown : w'.ownsRow w0.heap.size 3 1 v' (l3.length + 1) (i64s l3 ++ [.int .i64 x])) (hb : Blw w0 w') (hg : w.grownBy w' v3.ownBlock) (ht : v'.ownBlock = v3.ownBlock ∨ v'.ownBlock = some w.heap.size) :
    SAt3 w0 (w'.setCell ⟨g, 2, none⟩ v') g r T l1 l2 (l3 ++ [x]) v1 v2 v' := by
  have hg' := h.grown3 hg
  have hr' := at_grown hg (own_ne h.o3 h.rs h.hT).symm h.rs
  refine ⟨?_, (Below.heap_setCell _ _ _ _ h.rg).trans hr', h.rg, h.hg, hb.setCell _ _ h.hg, h.hT, own_setT (own_past h.o1 (Blw.refl w) hg (fun i hi e => h.n13 i hi e)) hg' h.hT _ _, own_setT (own_past h.o2 (Blw.refl w) hg (fun i hi e => h.n23 i hi e)) hg' h.hT _ _, own_setT (by simpa using hown) hg' h.hT _ _, h.n12, ?_, ?_⟩
  · have := at_set 2 v' hg'
    simpa using this
  · intro i hi hj
    rcases ht with t | t
    · exact h.n13 i hi (t.symm.trans hj)
    · have := (World.ownsRow.lt h.o1 i hi).2
      rw [t] at hj; injection hj with hj; omega
  · intro i hi hj
    rcases ht with t | t
    · exact h.n23 i hi (t.symm.trans hj)
    · have := (World.ownsRow.lt h.o2 i hi).2
      rw [t] at hj; injection hj with hj; omega
end
end Go.Proofs.Ytigkfdoeneemeaa
/- The walk of water.Sures. -/
namespace Go.Proofs.Ytigkfdoeneemeaa
open Go.RowKit

def scj (l : List (Nat × Nat)) (i j : Nat) : SC := if j = 0 then sc0 else if j = 1 then sc1 l i else sc2 l i
def SuresOut (w : World) (l : List (Nat × Nat)) (first : Int) (e : Ending) (w' : World) : Prop :=
  ∃ (v1 v2 v3 : Value), e = .returned (.tuple #[.agg #[v1, v2, v3], .int .i64 0]) ∧ Blw w w' ∧ w'.ownsRow w.heap.size 3 1 v1 (tks (isTop l) first l.length).length (i64s (tks (isTop l) first l.length)) ∧
    w'.ownsRow w.heap.size 3 1 v2 (tks (isBot l) first l.length).length (i64s (tks (isBot l) first l.length)) ∧ w'.ownsRow w.heap.size 3 1 v3 (tks (isDbt l) first l.length).length (i64s (tks (isDbt l) first l.length)) ∧
    (∀ i, v1.ownBlock = some i → v2.ownBlock ≠ some i) ∧ (∀ i, v1.ownBlock = some i → v3.ownBlock ≠ some i) ∧ (∀ i, v2.ownBlock = some i → v3.ownBlock ≠ some i)

theorem tks_is (p : Nat → Bool) (first : Int) (n : Nat) : tks p first (n + 1) = if p n then tks p first n ++ [first + (n : Int)] else tks p first n := by
  split
  · exact tks_yes (by assumption)
  · exact tks_no (by simpa using (by assumption : ¬ p n = true))
theorem sure_end {w wr : World} {l : List (Nat × Nat)} {first : Int} {v1 v2 v3 : Value} (h : SAt3 w wr (w.heap.size + 1) w.heap.size 108 (tks (isTop l) first l.length) (tks (isBot l) first l.length) (tks (isDbt l) first l.length) v1 v2 v3) :
    Blw w (((wr.setCell ⟨w.heap.size, 0, none⟩ v1).setCell ⟨w.heap.size, 1, none⟩ v2).setCell ⟨w.heap.size, 2, none⟩ v3) ∧
    (((wr.setCell ⟨w.heap.size, 0, none⟩ v1).setCell ⟨w.heap.size, 1, none⟩ v2).setCell ⟨w.heap.size, 2, none⟩ v3).ownsRow w.heap.size 3 1 v1 (tks (isTop l) first l.length).length (i64s (tks (isTop l) first l.length)) ∧
    (((wr.setCell ⟨w.heap.size, 0, none⟩ v1).setCell ⟨w.heap.size, 1, none⟩ v2).setCell ⟨w.heap.size, 2, none⟩ v3).ownsRow w.heap.size 3 1 v2 (tks (isBot l) first l.length).length (i64s (tks (isBot l) first l.length)) ∧
    (((wr.setCell ⟨w.heap.size, 0, none⟩ v1).setCell ⟨w.heap.size, 1, none⟩ v2).setCell ⟨w.heap.size, 2, none⟩ v3).ownsRow w.heap.size 3 1 v3 (tks (isDbt l) first l.length).length (i64s (tks (isDbt l) first l.length)) ∧
    (∀ i, v1.ownBlock = some i → v2.ownBlock ≠ some i) ∧ (∀ i, v1.ownBlock = some i → v3.ownBlock ≠ some i) ∧ (∀ i, v2.ownBlock = some i → v3.ownBlock ≠ some i) := by
  have set3 : ∀ {n : Nat} {v : Value} {cs : List Value}, wr.ownsRow w.heap.size 3 1 v n cs → (((wr.setCell ⟨w.heap.size, 0, none⟩ v1).setCell ⟨w.heap.size, 1, none⟩ v2).setCell ⟨w.heap.size, 2, none⟩ v3).ownsRow w.heap.size 3 1 v n cs :=
    fun o => KeptO.own (O := fun k => k = w.heap.size) (((KeptO.setCell (KeptO.refl (O := fun k => k = w.heap.size) wr) ⟨w.heap.size, 0, none⟩ v1 (.inl rfl)).setCell ⟨w.heap.size, 1, none⟩ v2 (.inl rfl)).setCell ⟨w.heap.size, 2, none⟩ v3 (.inl rfl)) o (fun k hk e => own_ne o h.rs h.hT (by rw [hk, e]))
  exact ⟨blw_three h.bl (Nat.le_refl _) _ _ _, set3 h.o1, set3 h.o2, set3 h.o3, h.n12, h.n13, h.n23⟩

theorem scAt_le (l : List (Nat × Nat)) (i k : Nat) (s : SC) : (scAt l i k s).hi ≤ s.hi + 1 ∧ (scAt l i k s).lo ≤ s.lo + 1 ∧ (scAt l i k s).nr ≤ s.nr + 1 := by
  unfold scAt
  refine ⟨?_, ?_, Nat.le_refl _⟩
  · simp only; split <;> omega
  · simp only; split <;> omega
theorem sc1_le (l : List (Nat × Nat)) (i : Nat) : (sc1 l i).hi ≤ 1 ∧ (sc1 l i).lo ≤ 1 ∧ (sc1 l i).nr ≤ 1 := by
  unfold sc1
  split
  · exact scAt_le l i (i - 1) sc0
  · exact ⟨Nat.zero_le _, Nat.zero_le _, Nat.zero_le _⟩
theorem sc2_le (l : List (Nat × Nat)) (i : Nat) : (sc2 l i).hi ≤ 2 ∧ (sc2 l i).lo ≤ 2 ∧ (sc2 l i).nr ≤ 2 := by
  have h := sc1_le l i
  unfold sc2
  split
  · have := scAt_le l i (i + 1) (sc1 l i)
    omega
  · omega
theorem put_eq {K : Act → World → Prop} {a : Act} {d : Option Nat} {v v' : Value} {w : World} (h : v = v') (k : K (a.put d v') w) : K (a.put d v) w := by rw [h]; exact k
theorem low_at {l : List (Nat × Nat)} {i k : Nat} {x y : Nat × Nat} (hx : l[i]? = some x) (hy : l[k]? = some y) : low l i k = lowerB x.1 x.2 y.1 y.2 := by
  unfold low; rw [List.getD_eq_getElem?_getD, List.getD_eq_getElem?_getD, hx, hy]; rfl

set_option maxRecDepth 100000 in
set_option maxHeartbeats 8000000 in
theorem sures_ok (A : Option Addr) (l : List (Nat × Nat)) (cap : Nat) (first : Int) (w : World) (hA : Arr w A (offs l)) (hc : cntd l.length first = 0) :
    Calls Try.prog 81 #[.slice A l.length cap, .int .i64 first] w (SuresOut w l first) := by
  obtain ⟨hlen, hf0, hf1, hfn⟩ := cntd_zero hc
  have CN := fun W => counted_any l.length first W (by omega)
  rw [hc] at CN
  have HCN := Lib.hid CN
  clear CN hc
  have hS0 : SAt3 w ((w.alloc (.cells #[.slice none 0 0, .slice none 0 0, .slice none 0 0] 108)).alloc (.cells #[.slice none 0 0, .slice none 0 0, .slice none 0 0] 108)) (w.heap.size + 1) w.heap.size 108 [] [] [] (.slice none 0 0) (.slice none 0 0) (.slice none 0 0) :=
    ⟨heap_alloc_at (by simp), at_alloc _ (heap_alloc_new _ _), by omega, by omega, (by repeat (first | exact Blw.refl _ | apply Blw.ext | apply Blw.alloc | apply Blw.drewN | apply Blw.drew | refine Blw.setCell ?_ _ _ (by simp))), by decide, World.ownsRow_nil _ _ _ _, World.ownsRow_nil _ _ _ _, World.ownsRow_nil _ _ _ _, (fun i h => by cases h), (fun i h => by cases h), (fun i h => by cases h)⟩
  go_enter Try.func81, Try.ntmps81
  go_wp2_with (go_at_call 126; refine Calls.mono (HCN.out _) ?_; rintro e w1 ⟨rfl, rfl⟩)
  clear HCN
  go_loopw [28] (fun vi wr => ∃ (i : Nat) (v1 v2 v3 : Value), i ≤ l.length ∧ vi = .int .i64 i ∧ SAt3 w wr (w.heap.size + 1) w.heap.size 108 (tks (isTop l) first i) (tks (isBot l) first i) (tks (isDbt l) first i) v1 v2 v3) (fun i _ => l.length - (intOf i).toNat)
  case atStart => exact ⟨0, _, _, _, Nat.zero_le _, rfl, hS0⟩
  case round =>
    obtain ⟨i, v1, v2, v3, hi, rfl, hS⟩ := hrel
    clear hS0
    have hb := hS.bl
    by_cases hlt : i < l.length
    · obtain ⟨x, b, o, hgx, -, rfl, hbs, c0, c1⟩ := off_at (hA.blw hb) hlt
      have HX := Lib.hid hgx
      have hbw : b < w.heap.size := by
        obtain ⟨_, _, _, _, _, e, e2, _⟩ := off_at hA hlt
        cases e; exact e2
      clear hgx
      have i1 : IntKind.i64.wrap ((i : Int) - 1) = (i : Int) - 1 := by rw [IntKind.wrap_i64]; omega
      have i2 : IntKind.i64.wrap ((i : Int) + 1) = (i : Int) + 1 := by rw [IntKind.wrap_i64]; omega
      have bx : ∀ W : World, Blw (wr.alloc (.cells #[.float .f64 x.1, .float .f64 x.2] 26)) W → W.cell? ⟨wr.heap.size, 0, none⟩ = some (.float .f64 x.1) ∧ W.cell? ⟨wr.heap.size, 1, none⟩ = some (.float .f64 x.2) ∧ wr.heap.size < W.heap.size ∧ Blw w W := by
        intro W hW
        have hz : wr.heap.size < (wr.alloc (.cells #[.float .f64 x.1, .float .f64 x.2] 26)).heap.size := by simp
        exact ⟨(Below.cell hW hz).trans (by go_simp), (Below.cell hW hz).trans (by go_simp), Nat.lt_of_lt_of_le hz hW.size, (hb.alloc _).trans hW⟩
      have HBX := Lib.hid bx
      clear bx
      go_wp2
      go_loopg [10, 11, 12, 13, 38] 2 (fun g vh vl vn vd vk wq => ∃ j : Nat, j + g = 2 ∧ vk = .int .i64 j ∧ vh = .int .i64 (scj l i j).hi ∧ vl = .int .i64 (scj l i j).lo ∧ vn = .int .i64 (scj l i j).nr ∧ vd = .bool (scj l i j).db ∧ Blw (wr.alloc (.cells #[.float .f64 x.1, .float .f64 x.2] 26)) wq)
      case atStart => exact ⟨0, rfl, rfl, rfl, rfl, rfl, rfl, Blw.refl _⟩
      case round =>
        obtain ⟨j, hj, rfl, rfl, rfl, rfl, rfl, hby⟩ := hrel
        have ix0 : ∀ (p q : Value) (w : World), (Instr.index 150 (.agg #[p, q]) (.int .i64 0)).run Try.prog w = .ok p w := fun _ _ _ => by kernel_rfl
        have ix1 : ∀ (p q : Value) (w : World), (Instr.index 150 (.agg #[p, q]) (.int .i64 1)).run Try.prog w = .ok q w := fun _ _ _ => by kernel_rfl
        have hj3 : j = 0 ∨ j = 1 ∨ j = 2 := by omega
        rcases hj3 with rfl | rfl | rfl
        · by_cases hz0 : i = 0
          · subst hz0
            obtain rfl : gk = 2 := by omega
            have hs : scj l 0 1 = scj l 0 0 := rfl
            go_wp2
            go_roundg 1
            case rel => exact ⟨1, by omega, rfl, rfl, rfl, rfl, rfl, hby⟩
            case measure => omega
          · obtain ⟨m, hm⟩ : ∃ m, i = m + 1 := ⟨i - 1, by omega⟩
            have HM := Lib.hid hm
            have hml : m < l.length := by omega
            have t0 : (0 : Int) ≤ (i : Int) - 1 := by omega
            have t1 : (i : Int) - 1 < (l.length : Int) := by omega
            have t2 : ((i : Int) - 1).toNat = m := by omega
            have t5 : (1 : Int) ≤ (i : Int) := by omega
            have t6 : 1 ≤ i := by omega
            have t7 : ((i : Int) - 1).toNat * 2 = m * 2 := by omega
            have t3 : decide ((i : Int) - 1 < 0) = false := by simp; omega
            have t4 : decide ((l.length : Int) ≤ (i : Int) - 1) = false := by simp; omega
            clear hm
            obtain rfl : gk = 2 := by omega
            obtain ⟨bx0, bx1, bxl, hbW⟩ := HBX.out _ hby
            obtain ⟨y, b2, o2, hgy, -, e2, hbs2, d0, d1⟩ := off_at (k := m) (hA.blw hbW) hml
            simp only [Option.some.injEq, Addr.mk.injEq] at e2
            obtain ⟨rfl, rfl, -⟩ := e2
            have hlo1 := low_at hgy HX.out
            have hlo2 := low_at HX.out hgy
            have U1 := fun W => lower_any y.1 y.2 x.1 x.2 W
            have U2 := fun W => lower_any x.1 x.2 y.1 y.2 W
            have hn : scj l i 1 = scAt l i (m) (scj l i 0) := by have h := HM.out; clear HM; subst h; rfl
            unfold scAt at hn
            rw [hlo1, hlo2] at hn
            have bd : (scj l i 0).hi ≤ 1 ∧ (scj l i 0).lo ≤ 1 ∧ (scj l i 0).nr ≤ 1 := ⟨Nat.zero_le _, Nat.zero_le _, Nat.zero_le _⟩
            obtain ⟨⟨sa, sb, sn, sd⟩, hs⟩ := ex_hid (scj l i 0)
            rw [hs.out] at hn bd ⊢
            generalize lowerB y.1 y.2 x.1 x.2 = ab at *
            generalize lowerB x.1 x.2 y.1 y.2 = be at *
            simp only at hn bd ⊢
            have HU1 := Lib.hid U1
            have HU2 := Lib.hid U2
            have HN := Lib.hid hn
            have HGY := Lib.hid hgy
            clear U1 U2 hlo1 hlo2 hn hgy
            have hz1 := Lib.hid hz0
            clear hz0
            have wa : IntKind.i64.wrap ((sa : Int) + 1) = (sa : Int) + 1 := by rw [IntKind.wrap_i64]; omega
            have wb : IntKind.i64.wrap ((sb : Int) + 1) = (sb : Int) + 1 := by rw [IntKind.wrap_i64]; omega
            have wn : IntKind.i64.wrap ((sn : Int) + 1) = (sn : Int) + 1 := by rw [IntKind.wrap_i64]; omega
            go_wp2
            refine wp_region_ext_lit (by kernel_rfl) (by kernel_rfl) ?_
            repeat (quiet_step (first | (go_at_call 16; (with_reducible exact Calls.ext_of (HU1.out _))) | (go_at_call 16; (with_reducible exact Calls.ext_of (HU2.out _)))))
            refine wpQuiet_nil ?_
            rintro _ ⟨z, rfl⟩
            clear d0 d1 bx0 bx1 HU1 HU2
            cases ab <;> cases be <;> cases sd
            all_goals
              go_wp2
              go_roundg 1
              case rel => exact ⟨1, by omega, by go_num, by rw [HN.out]; simp, by rw [HN.out]; simp, by rw [HN.out]; simp, by rw [HN.out]; simp, hby.ext z⟩
              case measure => omega
        · obtain rfl : gk = 1 := by omega
          have t0 : (0 : Int) ≤ (i : Int) + 1 := by omega
          have t2 : ((i : Int) + 1).toNat = i + 1 := by omega
          have t3 : decide ((i : Int) + 1 < 0) = false := by simp; omega
          by_cases hk1 : i + 1 < l.length
          · have t1 : (i : Int) + 1 < (l.length : Int) := by omega
            have t4 : decide ((l.length : Int) ≤ (i : Int) + 1) = false := by simp; omega
            obtain ⟨bx0, bx1, bxl, hbW⟩ := HBX.out _ hby
            obtain ⟨y, b2, o2, hgy, -, e2, hbs2, d0, d1⟩ := off_at (k := i + 1) (hA.blw hbW) hk1
            simp only [Option.some.injEq, Addr.mk.injEq] at e2
            obtain ⟨rfl, rfl, -⟩ := e2
            have hlo1 := low_at hgy HX.out
            have hlo2 := low_at HX.out hgy
            have U1 := fun W => lower_any y.1 y.2 x.1 x.2 W
            have U2 := fun W => lower_any x.1 x.2 y.1 y.2 W
            have hn : scj l i 2 = scAt l i (i + 1) (scj l i 1) := by show sc2 l i = _; unfold sc2; rw [if_pos hk1]; rfl
            unfold scAt at hn
            rw [hlo1, hlo2] at hn
            have bd : (scj l i 1).hi ≤ 1 ∧ (scj l i 1).lo ≤ 1 ∧ (scj l i 1).nr ≤ 1 := sc1_le l i
            obtain ⟨⟨sa, sb, sn, sd⟩, hs⟩ := ex_hid (scj l i 1)
            rw [hs.out] at hn bd ⊢
            generalize lowerB y.1 y.2 x.1 x.2 = ab at *
            generalize lowerB x.1 x.2 y.1 y.2 = be at *
            simp only at hn bd ⊢
            have HU1 := Lib.hid U1
            have HU2 := Lib.hid U2
            have HN := Lib.hid hn
            have HGY := Lib.hid hgy
            clear U1 U2 hlo1 hlo2 hn hgy
            have wa : IntKind.i64.wrap ((sa : Int) + 1) = (sa : Int) + 1 := by rw [IntKind.wrap_i64]; omega
            have wb : IntKind.i64.wrap ((sb : Int) + 1) = (sb : Int) + 1 := by rw [IntKind.wrap_i64]; omega
            have wn : IntKind.i64.wrap ((sn : Int) + 1) = (sn : Int) + 1 := by rw [IntKind.wrap_i64]; omega
            go_wp2
            refine wp_region_ext_lit (by kernel_rfl) (by kernel_rfl) ?_
            repeat (quiet_step (first | (go_at_call 16; (with_reducible exact Calls.ext_of (HU1.out _))) | (go_at_call 16; (with_reducible exact Calls.ext_of (HU2.out _)))))
            refine wpQuiet_nil ?_
            rintro _ ⟨z, rfl⟩
            clear d0 d1 bx0 bx1 HU1 HU2
            cases ab <;> cases be <;> cases sd
            all_goals
              go_wp2
              go_roundg 0
              case rel => exact ⟨2, by omega, by go_num, by rw [HN.out]; simp, by rw [HN.out]; simp, by rw [HN.out]; simp, by rw [HN.out]; simp, hby.ext z⟩
              case measure => omega
          · have t4 : decide ((l.length : Int) ≤ (i : Int) + 1) = true := by simp; omega
            have hn : scj l i 2 = scj l i 1 := by show sc2 l i = _; unfold sc2; rw [if_neg hk1]; rfl
            have HN := Lib.hid hn
            clear hn
            go_wp2
            go_roundg 0
            case measure => omega
            case rel => exact ⟨2, by omega, by go_num, by rw [HN.out], by rw [HN.out], by rw [HN.out], by rw [HN.out], hby⟩
        · obtain rfl : gk = 0 := by omega
          have S0 := hS.blw (((Blw.refl _).alloc _).trans hby)
          have e2 : scj l i 2 = sc2 l i := rfl
          rw [e2]
          have hT : isTop l i = ((sc2 l i).nr == 2 && (sc2 l i).hi == 2) := rfl
          have hB : isBot l i = ((sc2 l i).nr == 2 && (sc2 l i).lo == 2) := rfl
          have hD : isDbt l i = (sc2 l i).db := rfl
          obtain ⟨⟨sa, sb, sn, sd⟩, hs⟩ := ex_hid (sc2 l i)
          rw [hs.out] at hT hB hD ⊢
          simp only at hT hB hD ⊢
          have cs : ∀ n : Nat, ((n : Int) == 2) = (n == 2) := fun n => by rw [Bool.eq_iff_iff, beq_iff_eq, beq_iff_eq]; omega
          have c1 := cs sa
          have c2 := cs sb
          have c3 := cs sn
          generalize (sa == 2) = ba at *
          generalize (sb == 2) = bb at *
          generalize (sn == 2) = bn at *
          have n1 := tks_len (isTop l) first i
          have n2 := tks_len (isBot l) first i
          have n3 := tks_len (isDbt l) first i
          have HR : ∀ (W : World) (u1 u2 u3 : Value), SAt3 w W (w.heap.size + 1) w.heap.size 108 (if bn && ba then tks (isTop l) first i ++ [first + (i : Int)] else tks (isTop l) first i) (if bn && bb then tks (isBot l) first i ++ [first + (i : Int)] else tks (isBot l) first i) (if sd then tks (isDbt l) first i ++ [first + (i : Int)] else tks (isDbt l) first i) u1 u2 u3 →
              SAt3 w W (w.heap.size + 1) w.heap.size 108 (tks (isTop l) first (i + 1)) (tks (isBot l) first (i + 1)) (tks (isDbt l) first (i + 1)) u1 u2 u3 := by
            intro W u1 u2 u3 h
            rw [tks_is, tks_is, tks_is, hT, hB, hD]; exact h
          have HHR := Lib.hid HR
          clear e2 hT hB hD hS hb hby cs hs HR
          generalize tks (isTop l) first i = L1 at *
          generalize tks (isBot l) first i = L2 at *
          generalize tks (isDbt l) first i = L3 at *
          obtain ⟨a1, cc1, rfl, -, -, -, -, -⟩ := own_arr S0.o1
          obtain ⟨a2, cc2, rfl, -, -, -, -, -⟩ := own_arr S0.o2
          obtain ⟨a3, cc3, rfl, -, -, -, -, -⟩ := own_arr S0.o3
          cases sd
          · cases bn
            · go_wp2
              go_roundw
              case rel => exact ⟨i + 1, _, _, _, by omega, by go_num, HHR.out _ _ _ _ S0⟩
              case measure => simp [intOf]; omega
            · cases ba
              · cases bb
                · go_wp2
                  go_roundw
                  case rel => exact ⟨i + 1, _, _, _, by omega, by go_num, HHR.out _ _ _ _ S0⟩
                  case measure => simp [intOf]; omega
                · obtain ⟨x1, x2, x3, x4, x5⟩ := S0.cells
                  go_wp2_with (first | (at_builtin; have p := S0.o2; refine wpList_app2 w _ rfl _ _ 106 rfl sl_ints (S0.bl.alloc _) _ L2.length (i64s L2) rfl (ownsRow_blw p ((Blw.refl _).alloc _)) _ 1 1 [.int .i64 (first + (i : Int))] rfl (by simp) (Arr.lit_at _ _ _ _ (by simp)) (by simp) (by simp [Value.oneCell']) (by unfold maxLen; omega) (by omega) ?_; intro v10 w10 q1 q2 q3 q4; obtain ⟨y1, y2, y3, y4, y5⟩ := cells3 (SAt3.grown2 (S0.blw ((Blw.refl _).alloc _)) q3); have S1 := SAt3.app2 (S0.blw ((Blw.refl _).alloc _)) q1 q2 q3 q4; obtain ⟨ab, cb, rfl, -, -, -, -, -⟩ := own_arr q1; clear p q1 q2 q3 q4 S0))
                  go_roundw
                  case rel => exact ⟨i + 1, _, _, _, by omega, by go_num, HHR.out _ _ _ _ S1⟩
                  case measure => simp [intOf]; omega
              · cases bb
                · obtain ⟨x1, x2, x3, x4, x5⟩ := S0.cells
                  go_wp2_with (first | (at_builtin; have p := S0.o1; refine wpList_app2 w _ rfl _ _ 106 rfl sl_ints (S0.bl.alloc _) _ L1.length (i64s L1) rfl (ownsRow_blw p ((Blw.refl _).alloc _)) _ 1 1 [.int .i64 (first + (i : Int))] rfl (by simp) (Arr.lit_at _ _ _ _ (by simp)) (by simp) (by simp [Value.oneCell']) (by unfold maxLen; omega) (by omega) ?_; intro v10 w10 q1 q2 q3 q4; obtain ⟨y1, y2, y3, y4, y5⟩ := cells3 (SAt3.grown1 (S0.blw ((Blw.refl _).alloc _)) q3); have S1 := SAt3.app1 (S0.blw ((Blw.refl _).alloc _)) q1 q2 q3 q4; obtain ⟨ab, cb, rfl, -, -, -, -, -⟩ := own_arr q1; clear p q1 q2 q3 q4 S0))
                  go_roundw
                  case rel => exact ⟨i + 1, _, _, _, by omega, by go_num, HHR.out _ _ _ _ S1⟩
                  case measure => simp [intOf]; omega
                · obtain ⟨x1, x2, x3, x4, x5⟩ := S0.cells
                  go_wp2_with (first | (at_builtin; have p := S0.o1; refine wpList_app2 w _ rfl _ _ 106 rfl sl_ints (S0.bl.alloc _) _ L1.length (i64s L1) rfl (ownsRow_blw p ((Blw.refl _).alloc _)) _ 1 1 [.int .i64 (first + (i : Int))] rfl (by simp) (Arr.lit_at _ _ _ _ (by simp)) (by simp) (by simp [Value.oneCell']) (by unfold maxLen; omega) (by omega) ?_; intro v10 w10 q1 q2 q3 q4; obtain ⟨y1, y2, y3, y4, y5⟩ := cells3 (SAt3.grown1 (S0.blw ((Blw.refl _).alloc _)) q3); have S1 := SAt3.app1 (S0.blw ((Blw.refl _).alloc _)) q1 q2 q3 q4; obtain ⟨ab, cb, rfl, -, -, -, -, -⟩ := own_arr q1; clear p q1 q2 q3 q4 S0) | (at_builtin; have p := S1.o2; refine wpList_app2 w _ rfl _ _ 106 rfl sl_ints (S1.bl.alloc _) _ L2.length (i64s L2) rfl (ownsRow_blw p ((Blw.refl _).alloc _)) _ 1 1 [.int .i64 (first + (i : Int))] rfl (by simp) (Arr.lit_at _ _ _ _ (by simp)) (by simp) (by simp [Value.oneCell']) (by unfold maxLen; omega) (by omega) ?_; intro v11 w11 q1 q2 q3 q4; obtain ⟨y1, y2, y3, y4, y5⟩ := cells3 (SAt3.grown2 (S1.blw ((Blw.refl _).alloc _)) q3); have S2 := SAt3.app2 (S1.blw ((Blw.refl _).alloc _)) q1 q2 q3 q4; obtain ⟨ab, cb, rfl, -, -, -, -, -⟩ := own_arr q1; clear p q1 q2 q3 q4 S1))
                  go_roundw
                  case rel => exact ⟨i + 1, _, _, _, by omega, by go_num, HHR.out _ _ _ _ S2⟩
                  case measure => simp [intOf]; omega
          · cases bn
            · obtain ⟨x1, x2, x3, x4, x5⟩ := S0.cells
              go_wp2_with (first | (at_builtin; have p := S0.o3; refine wpList_app2 w _ rfl _ _ 106 rfl sl_ints (S0.bl.alloc _) _ L3.length (i64s L3) rfl (ownsRow_blw p ((Blw.refl _).alloc _)) _ 1 1 [.int .i64 (first + (i : Int))] rfl (by simp) (Arr.lit_at _ _ _ _ (by simp)) (by simp) (by simp [Value.oneCell']) (by unfold maxLen; omega) (by omega) ?_; intro v10 w10 q1 q2 q3 q4; obtain ⟨y1, y2, y3, y4, y5⟩ := cells3 (SAt3.grown3 (S0.blw ((Blw.refl _).alloc _)) q3); have S1 := SAt3.app3 (S0.blw ((Blw.refl _).alloc _)) q1 q2 q3 q4; obtain ⟨ab, cb, rfl, -, -, -, -, -⟩ := own_arr q1; clear p q1 q2 q3 q4 S0))
              go_roundw
              case rel => exact ⟨i + 1, _, _, _, by omega, by go_num, HHR.out _ _ _ _ S1⟩
              case measure => simp [intOf]; omega
            · cases ba
              · cases bb
                · obtain ⟨x1, x2, x3, x4, x5⟩ := S0.cells
                  go_wp2_with (first | (at_builtin; have p := S0.o3; refine wpList_app2 w _ rfl _ _ 106 rfl sl_ints (S0.bl.alloc _) _ L3.length (i64s L3) rfl (ownsRow_blw p ((Blw.refl _).alloc _)) _ 1 1 [.int .i64 (first + (i : Int))] rfl (by simp) (Arr.lit_at _ _ _ _ (by simp)) (by simp) (by simp [Value.oneCell']) (by unfold maxLen; omega) (by omega) ?_; intro v10 w10 q1 q2 q3 q4; obtain ⟨y1, y2, y3, y4, y5⟩ := cells3 (SAt3.grown3 (S0.blw ((Blw.refl _).alloc _)) q3); have S1 := SAt3.app3 (S0.blw ((Blw.refl _).alloc _)) q1 q2 q3 q4; obtain ⟨ab, cb, rfl, -, -, -, -, -⟩ := own_arr q1; clear p q1 q2 q3 q4 S0))
                  go_roundw
                  case rel => exact ⟨i + 1, _, _, _, by omega, by go_num, HHR.out _ _ _ _ S1⟩
                  case measure => simp [intOf]; omega
                · obtain ⟨x1, x2, x3, x4, x5⟩ := S0.cells
                  go_wp2_with (first | (at_builtin; have p := S0.o3; refine wpList_app2 w _ rfl _ _ 106 rfl sl_ints (S0.bl.alloc _) _ L3.length (i64s L3) rfl (ownsRow_blw p ((Blw.refl _).alloc _)) _ 1 1 [.int .i64 (first + (i : Int))] rfl (by simp) (Arr.lit_at _ _ _ _ (by simp)) (by simp) (by simp [Value.oneCell']) (by unfold maxLen; omega) (by omega) ?_; intro v10 w10 q1 q2 q3 q4; obtain ⟨y1, y2, y3, y4, y5⟩ := cells3 (SAt3.grown3 (S0.blw ((Blw.refl _).alloc _)) q3); have S1 := SAt3.app3 (S0.blw ((Blw.refl _).alloc _)) q1 q2 q3 q4; obtain ⟨ab, cb, rfl, -, -, -, -, -⟩ := own_arr q1; clear p q1 q2 q3 q4 S0) | (at_builtin; have p := S1.o2; refine wpList_app2 w _ rfl _ _ 106 rfl sl_ints (S1.bl.alloc _) _ L2.length (i64s L2) rfl (ownsRow_blw p ((Blw.refl _).alloc _)) _ 1 1 [.int .i64 (first + (i : Int))] rfl (by simp) (Arr.lit_at _ _ _ _ (by simp)) (by simp) (by simp [Value.oneCell']) (by unfold maxLen; omega) (by omega) ?_; intro v11 w11 q1 q2 q3 q4; obtain ⟨y1, y2, y3, y4, y5⟩ := cells3 (SAt3.grown2 (S1.blw ((Blw.refl _).alloc _)) q3); have S2 := SAt3.app2 (S1.blw ((Blw.refl _).alloc _)) q1 q2 q3 q4; obtain ⟨ab, cb, rfl, -, -, -, -, -⟩ := own_arr q1; clear p q1 q2 q3 q4 S1))
                  go_roundw
                  case rel => exact ⟨i + 1, _, _, _, by omega, by go_num, HHR.out _ _ _ _ S2⟩
                  case measure => simp [intOf]; omega
              · cases bb
                · obtain ⟨x1, x2, x3, x4, x5⟩ := S0.cells
                  go_wp2_with (first | (at_builtin; have p := S0.o3; refine wpList_app2 w _ rfl _ _ 106 rfl sl_ints (S0.bl.alloc _) _ L3.length (i64s L3) rfl (ownsRow_blw p ((Blw.refl _).alloc _)) _ 1 1 [.int .i64 (first + (i : Int))] rfl (by simp) (Arr.lit_at _ _ _ _ (by simp)) (by simp) (by simp [Value.oneCell']) (by unfold maxLen; omega) (by omega) ?_; intro v10 w10 q1 q2 q3 q4; obtain ⟨y1, y2, y3, y4, y5⟩ := cells3 (SAt3.grown3 (S0.blw ((Blw.refl _).alloc _)) q3); have S1 := SAt3.app3 (S0.blw ((Blw.refl _).alloc _)) q1 q2 q3 q4; obtain ⟨ab, cb, rfl, -, -, -, -, -⟩ := own_arr q1; clear p q1 q2 q3 q4 S0) | (at_builtin; have p := S1.o1; refine wpList_app2 w _ rfl _ _ 106 rfl sl_ints (S1.bl.alloc _) _ L1.length (i64s L1) rfl (ownsRow_blw p ((Blw.refl _).alloc _)) _ 1 1 [.int .i64 (first + (i : Int))] rfl (by simp) (Arr.lit_at _ _ _ _ (by simp)) (by simp) (by simp [Value.oneCell']) (by unfold maxLen; omega) (by omega) ?_; intro v11 w11 q1 q2 q3 q4; obtain ⟨y1, y2, y3, y4, y5⟩ := cells3 (SAt3.grown1 (S1.blw ((Blw.refl _).alloc _)) q3); have S2 := SAt3.app1 (S1.blw ((Blw.refl _).alloc _)) q1 q2 q3 q4; obtain ⟨ab, cb, rfl, -, -, -, -, -⟩ := own_arr q1; clear p q1 q2 q3 q4 S1))
                  go_roundw
                  case rel => exact ⟨i + 1, _, _, _, by omega, by go_num, HHR.out _ _ _ _ S2⟩
                  case measure => simp [intOf]; omega
                · obtain ⟨x1, x2, x3, x4, x5⟩ := S0.cells
                  go_wp2_with (first | (at_builtin; have p := S0.o3; refine wpList_app2 w _ rfl _ _ 106 rfl sl_ints (S0.bl.alloc _) _ L3.length (i64s L3) rfl (ownsRow_blw p ((Blw.refl _).alloc _)) _ 1 1 [.int .i64 (first + (i : Int))] rfl (by simp) (Arr.lit_at _ _ _ _ (by simp)) (by simp) (by simp [Value.oneCell']) (by unfold maxLen; omega) (by omega) ?_; intro v10 w10 q1 q2 q3 q4; obtain ⟨y1, y2, y3, y4, y5⟩ := cells3 (SAt3.grown3 (S0.blw ((Blw.refl _).alloc _)) q3); have S1 := SAt3.app3 (S0.blw ((Blw.refl _).alloc _)) q1 q2 q3 q4; obtain ⟨ab, cb, rfl, -, -, -, -, -⟩ := own_arr q1; clear p q1 q2 q3 q4 S0) | (at_builtin; have p := S1.o1; refine wpList_app2 w _ rfl _ _ 106 rfl sl_ints (S1.bl.alloc _) _ L1.length (i64s L1) rfl (ownsRow_blw p ((Blw.refl _).alloc _)) _ 1 1 [.int .i64 (first + (i : Int))] rfl (by simp) (Arr.lit_at _ _ _ _ (by simp)) (by simp) (by simp [Value.oneCell']) (by unfold maxLen; omega) (by omega) ?_; intro v11 w11 q1 q2 q3 q4; obtain ⟨y1, y2, y3, y4, y5⟩ := cells3 (SAt3.grown1 (S1.blw ((Blw.refl _).alloc _)) q3); have S2 := SAt3.app1 (S1.blw ((Blw.refl _).alloc _)) q1 q2 q3 q4; obtain ⟨ab, cb, rfl, -, -, -, -, -⟩ := own_arr q1; clear p q1 q2 q3 q4 S1) | (at_builtin; have p := S2.o2; refine wpList_app2 w _ rfl _ _ 106 rfl sl_ints (S2.bl.alloc _) _ L2.length (i64s L2) rfl (ownsRow_blw p ((Blw.refl _).alloc _)) _ 1 1 [.int .i64 (first + (i : Int))] rfl (by simp) (Arr.lit_at _ _ _ _ (by simp)) (by simp) (by simp [Value.oneCell']) (by unfold maxLen; omega) (by omega) ?_; intro v12 w12 q1 q2 q3 q4; obtain ⟨y1, y2, y3, y4, y5⟩ := cells3 (SAt3.grown2 (S2.blw ((Blw.refl _).alloc _)) q3); have S3 := SAt3.app2 (S2.blw ((Blw.refl _).alloc _)) q1 q2 q3 q4; obtain ⟨ab, cb, rfl, -, -, -, -, -⟩ := own_arr q1; clear p q1 q2 q3 q4 S2))
                  go_roundw
                  case rel => exact ⟨i + 1, _, _, _, by omega, by go_num, HHR.out _ _ _ _ S3⟩
                  case measure => simp [intOf]; omega
    · have hil : i = l.length := by omega
      subst hil
      have k1 := hS.o1
      have k2 := hS.o2
      have k3 := hS.o3
      obtain ⟨a1, c1, rfl, -, -, -, -, -⟩ := own_arr k1
      obtain ⟨a2, c2, rfl, -, -, -, -, -⟩ := own_arr k2
      obtain ⟨a3, c3, rfl, -, -, -, -, -⟩ := own_arr k3
      obtain ⟨s0, s1, s2, -, gl⟩ := hS.cells
      have HF := Lib.hid (sure_end hS)
      obtain ⟨hfz, d0, d1, d2, r0, r1, r2⟩ := three hS.rs (.slice a1 (tks (isTop l) first l.length).length c1) (.slice a2 (tks (isBot l) first l.length).length c2) (.slice a3 (tks (isDbt l) first l.length).length c3)
      clear hS k1 k2 k3 hlt hb
      go_wp2
      exact bodyPost_ret (v := .tuple #[.agg #[.slice a1 (tks (isTop l) first l.length).length c1, .slice a2 (tks (isBot l) first l.length).length c2, .slice a3 (tks (isDbt l) first l.length).length c3], .int .i64 0]) (by simp [results, Try.results81, go_sem, r0, r1, r2]) rfl ⟨_, _, _, rfl, HF.out⟩
end Go.Proofs.Ytigkfdoeneemeaa
/- The document's examples of chapter 25, in plain Lean. -/
namespace Go.Proofs.Ytigkfdoeneemeaa
open Go.RowKit

def awkN : List Int := [0, 1, 1, 0, 2, 2]
def awkS (i : Nat) : Int := cmpF ((wholeR awkN).getD i ⟨false, [], []⟩) ((wholeR awkN).getD (i - 1) ⟨false, [], []⟩)
theorem awkW : wats awkS 6 6 = [(1, 2, true), (3, 3, false)] := by decide +kernel
def awkF : List (Nat × Nat) := [(0, 4591870180066957722), (4607182418800017408, 4591870180066957722), (0, 4591870180066957722)]
theorem awkT : tks (isTop awkF) 7 3 = [8] ∧ tks (isBot awkF) 7 3 = [] ∧ tks (isDbt awkF) 7 3 = [] := by decide +kernel
end Go.Proofs.Ytigkfdoeneemeaa
/- The walk of law 25's awake: the document's examples. -/
namespace Go.Proofs.Ytigkfdoeneemeaa
open Go.RowKit

theorem rg_map {l : List FL} {i : Nat} : rg l i = (l.map (·.r)).getD i ⟨false, [], []⟩ := by
  unfold rg
  rw [List.getD_eq_getElem?_getD, List.getD_eq_getElem?_getD, List.getElem?_map]
  cases l[i]? <;> rfl
theorem smallF_ok {n : Int} (h : n.natAbs < 18446744073709551616) : (smallF n 1).Ok := by
  have e1 : Int.natAbs 1 = 1 := rfl
  have l1 : (W.toW n.natAbs).length ≤ 2 := W.len_toW_le.2 (by rw [show W.pw 2 = 18446744073709551616 by decide]; exact h)
  have l2 : (W.toW 1).length = 1 := by decide +kernel
  refine ⟨?_, ?_, W.nrm_toW _, W.nrm_toW _, ?_, ?_, ?_⟩
  · show (W.toW (n.natAbs / Nat.gcd n.natAbs 1)).length ≤ _
    rw [Nat.gcd_one_right, Nat.div_one]; omega
  · show (W.toW (1 / Nat.gcd n.natAbs 1)).length ≤ _
    rw [Nat.gcd_one_right, Nat.div_one]; omega
  · show 0 < (W.toW (1 / Nat.gcd n.natAbs 1)).length
    rw [Nat.gcd_one_right, Nat.div_one]; omega
  · intro h
    have h' : (W.toW (n.natAbs / Nat.gcd n.natAbs 1)).length = 0 := h
    show (_ && decide (0 < (W.toW (n.natAbs / Nat.gcd n.natAbs 1)).length)) = false
    rw [h']; simp
  · show Nat.gcd (W.val (W.toW _)) (W.val (W.toW _)) = 1
    rw [W.val_toW, W.val_toW, e1, Nat.gcd_one_right, Nat.div_one, Nat.div_one, Nat.gcd_one_right]
theorem awk_two {l : List FL} {ws : List WL} (h : l.map (·.r) = wholeR [0, 1, 1, 0, 2, 2]) (k : ws.map WL.key = (wats (sg l) l.length l.length).map (wkey l 0)) :
    ∃ x0 x1, ws = [x0, x1] ∧ x0.tick = 1 ∧ x0.last = 2 ∧ x0.top = true ∧ x1.tick = 3 ∧ x1.last = 3 ∧ x1.top = false := by
  have hl : l.length = 6 := by have := congrArg List.length h; simpa [wholeR] using this
  have hs : sg l = awkS := by
    funext i
    unfold sg awkS
    rw [rg_map, rg_map, h]; rfl
  rw [hl, hs, awkW] at k
  match ws, k with
  | [x0, x1], k =>
    simp [WL.key, wkey] at k
    obtain ⟨⟨k1, k2, k3, -⟩, k4, k5, k6, -⟩ := k
    exact ⟨x0, x1, rfl, k1, k2, k3, k4, k5, k6⟩
  | [], k => simp at k
  | [_], k => simp at k
  | _ :: _ :: _ :: _, k => simp at k

set_option maxRecDepth 100000 in
set_option maxHeartbeats 4000000 in
theorem awake_any (w : World) : Calls Try.prog 88 #[] w fun e w' => e = .returned (.bool true) ∧ ∃ x, w' = w.ext x := by
  go_enter Try.func88, Try.ntmps88
  go_wp2_with fail
  refine Calls.mono (whole_any _ [0, 1, 1, 0, 2, 2] _ _ (Arr.lit _ _ _ _) (by decide) (by decide)) ?_
  rintro e w1 ⟨out, b, c, rfl, hb, hown, hio, hkey⟩
  have HIO := Lib.hid hio
  have HKEY := Lib.hid hkey
  have hl : out.length = 6 := by have := congrArg List.length hkey; simpa [wholeR] using this
  have HL := Lib.hid hl
  obtain ⟨_, _, he, A1, -, k1, k2, k3⟩ := own_arr hown
  cases he
  have OK := waterOf_ok b out c 0 w1 A1 (fun x hx => (hio x hx).in) (fun x hx => by
    have : x.r ∈ wholeR [0, 1, 1, 0, 2, 2] := by rw [← hkey]; exact List.mem_map_of_mem hx
    simp only [wholeR, List.mem_map] at this
    obtain ⟨n, hm, hn⟩ := this
    rw [← hn]; exact smallF_ok (by simp at hm; omega)) (by rw [hl]; decide)
  have HOKW := Lib.hid OK
  clear OK hio hkey hl A1 k1 k2 k3 hown
  go_wp2_with fail
  refine Calls.mono HOKW.out ?_
  rintro e w2 ⟨ws, a2, c2, rfl, hb2, hown2, -, hkey2⟩
  obtain ⟨x0, x1, rfl, t0, t1, t2, t3, t4, t5⟩ := awk_two HKEY.out hkey2
  obtain ⟨_, _, he, A2, -, j1, j2, j3⟩ := own_arr hown2
  cases he
  obtain ⟨y0, g, o, hy0, -, rfl, hg, d0, d1, d2, -⟩ := wl_at A2 (k := 0) (by simp)
  obtain ⟨y1, g', o', hy1, -, e2, -, d3, d4, d5, -⟩ := wl_at A2 (k := 1) (by simp)
  simp only [Option.some.injEq, Addr.mk.injEq] at e2
  obtain ⟨rfl, rfl, -⟩ := e2
  simp only [List.getElem?_cons_zero, List.getElem?_cons_succ, Option.some.injEq] at hy0 hy1
  subst hy0 hy1
  rw [t0] at d0
  rw [t1] at d1
  rw [t2] at d2
  rw [t3] at d3
  rw [t4] at d4
  rw [t5] at d5
  simp only [Nat.zero_mul, Nat.one_mul, Nat.add_zero] at d0 d1 d2 d3 d4 d5
  have d6 : w2.cell? ⟨g, o + 7, none⟩ = some (.int .i64 3) := d4
  have d7 : w2.cell? ⟨g, o + 8, none⟩ = some (.bool false) := d5
  clear hkey2 hown2 A2 j1 j2 j3 t0 t1 t2 t3 t4 t5 HOKW HIO HKEY HL
  go_wp2_with fail
  refine Calls.mono (sures_ok _ [(0, 4591870180066957722), (4607182418800017408, 4591870180066957722), (0, 4591870180066957722)] _ 7 _ (Arr.lit _ _ _ _) (by decide)) ?_
  rintro e w3 ⟨v1, v2, v3, rfl, hb3, o1, o2, o3, -, -, -⟩
  have e1 : tks (isTop [(0, 4591870180066957722), (4607182418800017408, 4591870180066957722), (0, 4591870180066957722)]) 7 [((0 : Nat), (4591870180066957722 : Nat)), (4607182418800017408, 4591870180066957722), (0, 4591870180066957722)].length = [8] := awkT.1
  have e2 : tks (isBot [(0, 4591870180066957722), (4607182418800017408, 4591870180066957722), (0, 4591870180066957722)]) 7 [((0 : Nat), (4591870180066957722 : Nat)), (4607182418800017408, 4591870180066957722), (0, 4591870180066957722)].length = [] := awkT.2.1
  have e3 : tks (isDbt [(0, 4591870180066957722), (4607182418800017408, 4591870180066957722), (0, 4591870180066957722)]) 7 [((0 : Nat), (4591870180066957722 : Nat)), (4607182418800017408, 4591870180066957722), (0, 4591870180066957722)].length = [] := awkT.2.2
  rw [e1] at o1
  rw [e2] at o2
  rw [e3] at o3
  clear e1 e2 e3
  obtain ⟨a1, c1, rfl, B1, -, -, -, -⟩ := own_arr o1
  obtain ⟨a2, c2, rfl, -, -, -, -, -⟩ := own_arr o2
  obtain ⟨a3, c3, rfl, -, -, -, -, -⟩ := own_arr o3
  have HB1 := Lib.hid (B1 : Arr w3 a1 (i64s [8]))
  have hg3 : g < w3.heap.size := Nat.lt_of_lt_of_le hg (((Blw.refl w2).alloc _).trans hb3).size
  have cc : ∀ k, w3.cell? ⟨g, k, none⟩ = w2.cell? ⟨g, k, none⟩ := fun k => Below.cell (((Blw.refl w2).alloc _).trans hb3) hg
  have d0 := (cc _).trans d0
  have d1 := (cc _).trans d1
  have d2 := (cc _).trans d2
  have d3 := (cc _).trans d3
  have d4 := (cc _).trans d4
  have d5 := (cc _).trans d5
  have d6 := (cc _).trans d6
  have d7 := (cc _).trans d7
  clear o1 o2 o3 B1 cc
  go_wp2_with fail
  refine Calls.mono (sameInts_refl_any _ _ [8] _ _ _ (HB1.out.blw (((Blw.refl _).alloc _).alloc _)) (Arr.lit_at _ _ _ _ (by simp)) (by decide)) ?_
  rintro e w4 ⟨rfl, x4, rfl⟩
  go_wp2
  go_ret
  exact ⟨rfl, Blw.is ((((((Blw.refl w).alloc _).trans hb).trans hb2 |>.alloc _).trans hb3 |>.alloc _).alloc _ |>.ext _)⟩
end Go.Proofs.Ytigkfdoeneemeaa
/- slackwaterkit's SameWords, SameRatio, walked. -/
namespace Go.Proofs.Ytigkfdoeneemeaa
open Go.RowKit

theorem ret_b {a b : Bool} (h : a = b) : Ending.returned (.bool a) = .returned (.bool b) := by rw [h]
def sameR (r s : Fr) : Bool := r.neg == s.neg && (r.num == s.num && r.den == s.den)
theorem sameR_iff {r s : Fr} : sameR r s = true ↔ r = s := by
  obtain ⟨a, b, c⟩ := r
  obtain ⟨d, e, f⟩ := s
  simp [sameR]
theorem sameR_refl (r : Fr) : sameR r r = true := sameR_iff.2 rfl

set_option maxHeartbeats 1600000 in
theorem sameWords_any (a b : Option Addr) (l m : List Nat) (c d : Nat) (w : World) (ha : Arr w a (u32s l)) (hb : Arr w b (u32s m)) (hl : l.length ≤ 1099511627776) (hm : m.length ≤ 1099511627776) :
    Calls Try.prog 116 #[.slice a l.length c, .slice b m.length d] w fun e w' => e = .returned (.bool (l == m)) ∧ ∃ x, w' = w.ext x := by
  by_cases hlm : l.length = m.length
  · have HLM := Lib.hid hlm
    have d1 : ((l.length : Int) != (m.length : Int)) = false := by simp; omega
    have d2 : ((l.length : Int) == (m.length : Int)) = true := by simp; omega
    clear hlm
    go_enter Try.func116, Try.ntmps116
    go_wp2
    clear d1 d2
    go_loopw [5] (fun i wr => ∃ k : Nat, k ≤ l.length ∧ i = .int .i64 k ∧ Blw w wr ∧ Hid (l.take k = m.take k)) (fun i _ => l.length - (intOf i).toNat)
    case atStart => exact ⟨0, Nat.zero_le _, rfl, Blw.refl _, rfl⟩
    case round =>
      obtain ⟨k, hk, rfl, hbw, htk⟩ := hrel
      have hlm := HLM.out
      by_cases hlt : k < l.length
      · obtain ⟨x, b1, o1, hd1, -, hgx, rfl, hb1, hc1⟩ := (ha.blw hbw).elem hlt
        obtain ⟨y, b2, o2, hd2, -, hgy, rfl, hb2, hc2⟩ := (hb.blw hbw).elem (show k < m.length by omega)
        have h0 : (0 : Int) ≤ (k : Int) := by omega
        have h1 : (k : Int) < (l.length : Int) := by omega
        have h2 : (k : Int) < (m.length : Int) := by omega
        have HX : Hid (l[k]? = some x) := hgx.out
        have HY : Hid (m[k]? = some y) := hgy.out
        clear hgx hgy hd1 hd2 hlm
        by_cases hxy : x = y
        · have HT : Hid (l.take (k + 1) = m.take (k + 1)) := by
            show _ = _
            rw [List.take_add_one, List.take_add_one, htk.out, HX.out, HY.out, hxy]
          subst hxy
          clear HX HY
          go_wp2_with fail
          go_quiet (fail)
          go_wp2
          go_roundw
          case rel => exact ⟨k + 1, by omega, by go_num, hbw.trans (by repeat (first | exact Blw.refl _ | apply Blw.ext | apply Blw.alloc | apply Blw.drewN | apply Blw.drew | refine Blw.setCell ?_ _ _ (by simp))), HT⟩
          case measure => simp [intOf]; omega
        · have HF : Hid ((l == m) = false) := by
            show _ = _
            simp only [beq_eq_false_iff_ne, ne_eq]
            intro e
            have := HX.out
            rw [e, HY.out] at this
            exact hxy (by injection this with this; exact this.symm)
          have q1 : ((x : Int) != (y : Int)) = true := by simp; omega
          have q2 : ((x : Int) == (y : Int)) = false := by simp; omega
          clear HX HY htk hxy
          go_wp2_with fail
          go_quiet (fail)
          go_wp2
          go_ret
          exact ⟨ret_b HF.out.symm, Blw.is (hbw.trans (by repeat (first | exact Blw.refl _ | apply Blw.ext | apply Blw.alloc | apply Blw.drewN | apply Blw.drew | refine Blw.setCell ?_ _ _ (by simp))))⟩
      · have HF : Hid ((l == m) = true) := by
          show _ = _
          have := htk.out
          rw [List.take_of_length_le (by omega), List.take_of_length_le (by omega)] at this
          simpa using this
        clear htk hlm
        go_wp2
        go_ret
        exact ⟨ret_b HF.out.symm, Blw.is hbw⟩
  · have HF : Hid ((l == m) = false) := by
      show _ = _
      simp only [beq_eq_false_iff_ne, ne_eq]
      intro e; exact hlm (by rw [e])
    have d1 : ((l.length : Int) != (m.length : Int)) = true := by simp; omega
    have d2 : ((l.length : Int) == (m.length : Int)) = false := by simp; omega
    clear hlm
    go_enter Try.func116, Try.ntmps116
    go_wp2
    go_ret
    exact ⟨ret_b HF.out.symm, Blw.is (Blw.refl _)⟩

set_option maxRecDepth 100000 in
set_option maxHeartbeats 1600000 in
theorem sameRatio_any (x y : FL) (w : World) (hx : FL.In w x) (hy : FL.In w y) (lx : x.r.num.length ≤ 1099511627776 ∧ x.r.den.length ≤ 1099511627776) (ly : y.r.num.length ≤ 1099511627776 ∧ y.r.den.length ≤ 1099511627776) :
    Calls Try.prog 91 #[frV x.r x.a x.c x.b x.d, frV y.r y.a y.c y.b y.d] w fun e w' => e = .returned (.bool (sameR x.r y.r)) ∧ ∃ z, w' = w.ext z := by
  have he : sameR x.r y.r = (x.r.neg == y.r.neg && (x.r.num == y.r.num && x.r.den == y.r.den)) := rfl
  have K1 := Lib.hid (fun (W : World) (hW : Blw w W) => sameWords_any x.a y.a x.r.num y.r.num x.c y.c W (hx.an.blw hW) (hy.an.blw hW) lx.1 ly.1)
  have K2 := Lib.hid (fun (W : World) (hW : Blw w W) => sameWords_any x.b y.b x.r.den y.r.den x.d y.d W (hx.ad.blw hW) (hy.ad.blw hW) lx.2 ly.2)
  clear hx hy lx ly
  obtain ⟨⟨xn, xu, xe⟩, xa, xc, xb, xd⟩ := x
  obtain ⟨⟨yn, yu, ye⟩, ya, yc, yb, yd⟩ := y
  simp only at he K1 K2
  generalize sameR _ _ = res at *
  generalize (xu == yu) = t1 at *
  generalize (xe == ye) = t2 at *
  have HE := Lib.hid he
  clear he
  go_enter Try.func91, Try.ntmps91
  cases xn <;> cases yn <;> cases t1 <;> cases t2
  all_goals
    go_wp2_with (go_at_call 116; (first | ((with_reducible refine (K1.out _ ?_).mono ?_); (· exact (by repeat (first | exact Blw.refl _ | apply Blw.ext | apply Blw.alloc | apply Blw.drewN | apply Blw.drew | refine Blw.setCell ?_ _ _ (by simp)))); rintro e w' ⟨rfl, z, rfl⟩) | ((with_reducible refine (K2.out _ ?_).mono ?_); (· exact (by repeat (first | exact Blw.refl _ | apply Blw.ext | apply Blw.alloc | apply Blw.drewN | apply Blw.drew | refine Blw.setCell ?_ _ _ (by simp)))); rintro e w' ⟨rfl, z, rfl⟩)))
    go_ret
    exact ⟨ret_b HE.out.symm, Blw.is (by repeat (first | exact Blw.refl _ | apply Blw.ext | apply Blw.alloc | apply Blw.drewN | apply Blw.drew | refine Blw.setCell ?_ _ _ (by simp)))⟩
end Go.Proofs.Ytigkfdoeneemeaa
/- The walk of WaterMeans. -/
namespace Go.Proofs.Ytigkfdoeneemeaa
open Go.RowKit

set_option maxRecDepth 100000 in
set_option maxHeartbeats 8000000 in
theorem means_walk (A : Option Addr) (l : List FL) (cap : Nat) (first : Int) (w : World) (hA : Arr w A (fls l)) (hin : ∀ x ∈ l, FL.In w x) (hl : l.length ≤ 9223372036854775807) :
    Calls Try.prog 13 #[.slice A l.length cap, .int .i64 first] w fun e w' => e = .returned (.bool true) ∧ ∃ x, w' = w.ext x := by
  have SM := Lib.hid (fun (W : World) (hb : Blw w W) => law25small_any A l cap W (hA.blw hb) hl (fun x hx => ⟨Nat.le_trans (hin x hx).cn (hin x hx).cm, Nat.le_trans (hin x hx).dn (hin x hx).dm⟩))
  have HIN := Lib.hid hin
  clear hin
  go_enter Try.func13, Try.ntmps13
  go_wp2_with fail
  refine Calls.mono (awake_any _) ?_
  rintro e w1 ⟨rfl, x1, rfl⟩
  go_wp2_with fail
  refine Calls.mono (SM.out _ (by repeat (first | exact Blw.refl _ | apply Blw.ext | apply Blw.alloc | apply Blw.drewN | apply Blw.drew | refine Blw.setCell ?_ _ _ (by simp)))) ?_
  rintro e w2 ⟨rfl, x2, rfl⟩
  generalize smallL l = sm at *
  clear SM
  cases sm
  · go_wp2
    go_ret
    exact ⟨rfl, Blw.is (by repeat (first | exact Blw.refl _ | apply Blw.ext | apply Blw.alloc | apply Blw.drewN | apply Blw.drew | refine Blw.setCell ?_ _ _ (by simp)))⟩
  by_cases h60 : 60 < l.length
  · have d1 : decide ((60 : Int) < (l.length : Int)) = true := by simp; omega
    go_wp2
    go_ret
    exact ⟨rfl, Blw.is (by repeat (first | exact Blw.refl _ | apply Blw.ext | apply Blw.alloc | apply Blw.drewN | apply Blw.drew | refine Blw.setCell ?_ _ _ (by simp)))⟩
  have d1 : decide ((60 : Int) < (l.length : Int)) = false := by simp; omega
  have hl60 : l.length ≤ 60 := by omega
  clear h60
  by_cases herr : errO l first = 0
  · obtain ⟨hc, hok⟩ := errO_ok herr
    have C1 := Lib.hid (waterOf_ok A l cap first ((w.ext x1).ext x2) (hA.blw (by repeat (first | exact Blw.refl _ | apply Blw.ext | apply Blw.alloc | apply Blw.drewN | apply Blw.drew | refine Blw.setCell ?_ _ _ (by simp)))) (fun x hx => (HIN.out x hx).blw (by repeat (first | exact Blw.refl _ | apply Blw.ext | apply Blw.alloc | apply Blw.drewN | apply Blw.drew | refine Blw.setCell ?_ _ _ (by simp)))) hok hc)
    obtain ⟨-, hf0, hf1, hfn⟩ := cntd_zero hc
    have HC := Lib.hid hc
    have HOK := Lib.hid hok
    clear herr hl hc hok
    go_wp2_with fail
    clear d1
    refine Calls.mono C1.out ?_
    rintro e w3 ⟨ws, g1, c1, rfl, hb3, own3, io3, key3⟩
    have hbw3 : Blw w w3 := (((Blw.refl w).ext x1).ext x2).trans hb3
    obtain ⟨_, _, he, W3, -, k1, k2, -⟩ := own_arr own3
    cases he
    have CK := waterCheck_any g1 ws c1 w3 W3 (fun x hx => (io3 x hx).in) (by unfold maxLen at k2; omega)
    rw [waters_good HOK.out HC.out key3] at CK
    have HCK := Lib.hid CK
    have KEY := Lib.hid key3
    have HIO := Lib.hid (fun x hx => (io3 x hx).in)
    clear CK key3 io3 own3 C1 hb3
    go_wp2_with fail
    refine Calls.mono HCK.out ?_
    rintro e w4 ⟨rfl, x4, rfl⟩
    clear HCK
    go_wp2
    have hb4 : Blw w (w3.ext x4) := hbw3.ext x4
    have hb34 : Blw w3 (w3.ext x4) := (Blw.refl w3).ext x4
    generalize w3.ext x4 = w5 at *
    go_loopw [8, 9] (fun v8 v9 wr => ∃ i : Nat, 1 ≤ i ∧ (i ≤ l.length ∨ i = 1) ∧ v9 = .int .i64 i ∧ v8 = .int .i64 ((wats (sg l) l.length i).length : Nat) ∧ Blw w5 wr) (fun _ i _ => l.length - (intOf i).toNat)
    case atStart => exact ⟨1, Nat.le_refl _, .inr rfl, rfl, by rw [wats_one]; rfl, Blw.refl _⟩
    case round =>
      obtain ⟨i, hi1, hi2, rfl, rfl, hb⟩ := hrel
      obtain ⟨wo, rfl⟩ : ∃ wo : World, wo = wr := ⟨_, rfl⟩
      by_cases hlt : i < l.length
      · have hbw := hb4.trans hb
        obtain ⟨x, b, o, hgx, hmx, rfl, hbs, c0, c1, c2⟩ := fl_at (k := i - 1) (hA.blw hbw) (by omega)
        obtain ⟨y, b', o', hgy, hmy, e', -, d0, d1, d2⟩ := fl_at (k := i) (hA.blw hbw) hlt
        simp only [Option.some.injEq, Addr.mk.injEq] at e'
        obtain ⟨rfl, rfl, -⟩ := e'
        have hS0 : cmpF x.r y.r = - sg l i := by
          obtain ⟨m, rfl⟩ : ∃ m, i = m + 1 := ⟨i - 1, by omega⟩
          rw [← back_is HOK.out hlt, rg_at hgy]
          have := rg_at hgx
          rw [Nat.add_sub_cancel] at this
          rw [this]
        have HC13 : Hid (∀ W : World, Blw wo W → Calls Try.prog 90 #[frV x.r x.a x.c x.b x.d, frV y.r y.a y.c y.b y.d] W fun e w' => e = .returned (.int .i64 (- sg l i)) ∧ ∃ z, w' = W.ext z) := by
          intro W hW
          rw [← hS0]
          exact sign_ok x y W (((HIN.out x hmx).blw hbw).blw hW) (((HIN.out y hmy).blw hbw).blw hW) (HOK.out x hmx) (HOK.out y hmy)
        have hsc := sg_cases HOK.out (show 0 < i by omega) hlt
        have HSI := Lib.hid (rfl : sg l i = sg l i)
        obtain ⟨s, hs⟩ := ex_hid (sg l i)
        have t0 : (0 : Int) ≤ (i : Int) - 1 := by omega
        have t1 : (i : Int) - 1 < (l.length : Int) := by omega
        have t2 : ((i : Int) - 1).toNat = i - 1 := by omega
        have t3 : (1 : Int) ≤ (i : Int) := by omega
        have t4 : (i : Int) < (l.length : Int) := by omega
        have t5 : (0 : Int) ≤ (i : Int) := by omega
        have t6 : IntKind.i64.wrap ((i : Int) - 1) = (i : Int) - 1 := by rw [IntKind.wrap_i64]; omega
        rw [hs.out] at HC13 hsc
        have HGX := Lib.hid hgx
        have HGY := Lib.hid hgy
        clear hgx hgy hS0 HSI
        have hbo := Blw.refl wo
        go_wp2_with fail
        refine wp_region_ext_lit (by kernel_rfl) (by kernel_rfl) ?_
        repeat (quiet_step (first | (go_at_call 90; (with_reducible exact Calls.ext_of (HC13.out _ (by repeat (first | assumption | apply Blw.ext)))))))
        refine wpQuiet_nil ?_
        rintro _ ⟨z1, rfl⟩
        by_cases hz : s = 0
        · have HW : Hid (wats (sg l) l.length (i + 1) = wats (sg l) l.length i) := wats_none (wat_zero (hs.out.trans hz))
          subst hz
          clear HC13 c0 c1 c2 d0 d1 d2 t0 t1 t2 t3 t4 t5 t6 hsc
          go_wp2
          go_roundw
          case rel => exact ⟨i + 1, by omega, .inl (by omega), by go_num, by rw [HW.out], hb.trans (by repeat (first | exact Blw.refl _ | apply Blw.ext | apply Blw.alloc | apply Blw.drewN | apply Blw.drew | refine Blw.setCell ?_ _ _ (by simp)))⟩
          case measure => simp [intOf]; omega
        · have hs1 : s = 1 ∨ s = -1 := by omega
          have HNZ : Hid (¬ sg l i = 0) := fun e => hz (hs.out.symm.trans e)
          have q1 : ((-s) == 0) = false := by simp; omega
          have q2 : ((-s) != 0) = true := by simp; omega
          have q3 : decide (-s = 0) = false := by simp; omega
          have q4 : decide (s = 0) = false := by simp; omega
          have q5 : (s == 0) = false := by simp; omega
          clear c0 c1 c2 d0 d1 d2 hsc hz
          have hbo : Blw wo (wo.ext z1) := World.blw_ext _ _
          generalize wo.ext z1 = wi at *
          go_wp2
          rw [q1]
          clear q1 q2 q3 q4 q5
          go_loopg [10] (l.length - i) (fun g vk wq => ∃ k : Nat, i ≤ k ∧ k + g = l.length ∧ vk = .int .i64 k ∧ Hid (∀ j, i < j → j < k → sg l j = 0) ∧ Blw wo wq)
          case atStart => exact ⟨i, Nat.le_refl _, by omega, rfl, (fun j h1 h2 => by omega), hbo⟩
          case round =>
            obtain ⟨k, hik, hkg, rfl, hzk, hbq⟩ := hrel
            obtain ⟨wq, rfl⟩ : ∃ wq : World, wq = wr := ⟨_, rfl⟩
            clear hbo
            have hbW := hbw.trans hbq
            obtain ⟨x, b2, o2, hgx, hmx, e2, hbs2, c0, c1, c2⟩ := fl_at (k := i - 1) (hA.blw hbW) (by omega)
            simp only [Option.some.injEq, Addr.mk.injEq] at e2
            obtain ⟨rfl, rfl, -⟩ := e2
            obtain ⟨y, b2, o2, hgy, hmy, e2, -, d0, d1, d2⟩ := fl_at (k := i) (hA.blw hbW) hlt
            simp only [Option.some.injEq, Addr.mk.injEq] at e2
            obtain ⟨rfl, rfl, -⟩ := e2
            have hxe := HGX.out.symm.trans hgx
            have hye := HGY.out.symm.trans hgy
            simp only [Option.some.injEq] at hxe hye
            subst hxe hye
            clear hgx hgy
            have HC1 : Hid (∀ W : World, Blw wq W → Calls Try.prog 90 #[frV x.r x.a x.c x.b x.d, frV y.r y.a y.c y.b y.d] W fun e w' => e = .returned (.int .i64 (- s)) ∧ ∃ z, w' = W.ext z) := fun W hW => HC13.out W (hbq.trans hW)
            have hqq := Blw.refl wq
            by_cases hkl : k < l.length
            · obtain ⟨z, b2, o2, hgz, hmz, e2, -, f0, f1, f2⟩ := fl_at (k := k) (hA.blw hbW) hkl
              simp only [Option.some.injEq, Addr.mk.injEq] at e2
              obtain ⟨rfl, rfl, -⟩ := e2
              have hS1 : cmpF z.r y.r = toI l i k := by rw [← toI_is HOK.out hik hkl hzk.out, rg_at hgz, rg_at HGY.out]
              have HC2 : Hid (∀ W : World, Blw wq W → Calls Try.prog 90 #[frV z.r z.a z.c z.b z.d, frV y.r y.a y.c y.b y.d] W fun e w' => e = .returned (.int .i64 (toI l i k)) ∧ ∃ z, w' = W.ext z) := by
                intro W hW
                rw [← hS1]
                exact sign_ok z y W (((HIN.out z hmz).blw hbW).blw hW) (((HIN.out y hmy).blw hbW).blw hW) (HOK.out z hmz) (HOK.out y hmy)
              obtain ⟨u, hu⟩ := ex_hid (toI l i k)
              rw [hu.out] at HC2
              have t7 : (k : Int) < (l.length : Int) := by omega
              have t8 : (0 : Int) ≤ (k : Int) := by omega
              have t9 : decide ((k : Int) < (l.length : Int)) = true := by simp; omega
              clear hS1 hgz
              go_wp2_with fail
              refine wp_region_ext_lit (by kernel_rfl) (by kernel_rfl) ?_
              repeat (quiet_step (first | (go_at_call 90; (with_reducible exact Calls.ext_of (HC2.out _ (by repeat (first | assumption | apply Blw.ext)))))))
              refine wpQuiet_nil ?_
              rintro _ ⟨z2, rfl⟩
              by_cases hu0 : u = 0
              · have HZ : Hid (∀ j, i < j → j < k + 1 → sg l j = 0) := by
                  intro j h1 h2
                  by_cases hj : j = k
                  · have := hu.out.trans hu0
                    unfold toI at this
                    rw [if_neg (by omega)] at this
                    rw [hj]; exact this
                  · exact hzk.out j h1 (by omega)
                subst hu0
                obtain ⟨g, rfl⟩ : ∃ g, gk = g + 1 := ⟨gk - 1, by omega⟩
                clear HC1 HC2 hzk c0 c1 c2 d0 d1 d2 f0 f1 f2 t9
                go_wp2
                go_roundg g
                case rel => exact ⟨k + 1, by omega, by omega, by go_num, HZ, hbq.ext _⟩
                case measure => omega
              · have hki : i < k := by
                  by_cases e : k = i
                  · exact absurd (by rw [← hu.out]; unfold toI; rw [if_pos e]) hu0
                  · omega
                have hsk : sg l k = u := by
                  have := hu.out
                  unfold toI at this
                  rw [if_neg (by omega)] at this
                  exact this
                have q1 : (u == 0) = false := by simpa using hu0
                have q2 : ((k : Int) == (l.length : Int)) = false := by simp; omega
                have hu1 : u = s ∨ u = - s := by
                  have := sg_cases HOK.out (show 0 < k by omega) hkl
                  omega
                have HSK := Lib.hid hsk
                have hb2 : Blw wq (wq.ext z2) := World.blw_ext _ _
                rcases hu1 with hu1 | hu1
                · have HWS : Hid (wats (sg l) l.length (i + 1) = wats (sg l) l.length i) := way_same hi1 HNZ.out hki hkl hzk.out (by rw [HSK.out]; exact hu0) (by rw [HSK.out, hs.out]; exact hu1)
                  subst hu1
                  have q3 : ((-u) != u) = true := by simp; omega
                  have q4 : ((-u) == u) = false := by simp; omega
                  clear hsk hki hu0
                  go_wp2_with fail
                  refine wp_region_ext_lit (by kernel_rfl) (by kernel_rfl) ?_
                  repeat (quiet_step (first | (go_at_call 90; (with_reducible exact Calls.ext_of (HC1.out _ (by repeat (first | assumption | apply Blw.ext))))) | (go_at_call 90; (with_reducible exact Calls.ext_of (HC2.out _ (by repeat (first | assumption | apply Blw.ext)))))))
                  refine wpQuiet_nil ?_
                  rintro _ ⟨z3, rfl⟩
                  clear HC1 HC2 hzk c0 c1 c2 d0 d1 d2 f0 f1 f2 HSK q1 q2
                  go_wp2
                  go_roundw
                  case rel => exact ⟨i + 1, by omega, .inl (by omega), by go_num, by rw [HWS.out], hb.trans (hbq.trans (by repeat (first | exact Blw.refl _ | apply Blw.ext | apply Blw.alloc | apply Blw.drewN | apply Blw.drew | refine Blw.setCell ?_ _ _ (by simp))))⟩
                  case measure => simp [intOf]; omega
                · have HWS : Hid (wats (sg l) l.length (i + 1) = wats (sg l) l.length i ++ [(i, k - 1, sg l i == 1)]) := way_turn hi1 HNZ.out hki hkl hzk.out (by rw [HSK.out]; exact hu0) (by rw [HSK.out, hs.out]; omega)
                  obtain ⟨hnw, hat⟩ := means_at KEY.out hlt HWS.out
                  have q3 : ((-s) != u) = false := by simp; omega
                  have q4 : ((-s) == u) = true := by simp; omega
                  subst hu1
                  clear hsk hu0
                  obtain ⟨⟨xt, xl, xp, xh⟩, b3, o3, hgw, hmw, hg1, hbs3, g0, gg1, g2, g3, g4, g5⟩ := wl_at W3 hnw
                  obtain ⟨m1, m2, m3, m4⟩ := hat _ hgw
                  simp only at m1 m2 m3 m4 g0 gg1 g2 g3 g4 g5
                  have hb3q : Blw w3 wq := hb34.trans (hb.trans hbq)
                  have hyr : rg l i = y.r := rg_at HGY.out
                  have hoky := HOK.out y hmy
                  have HC3 : Hid (∀ W : World, Blw wq W → Calls Try.prog 91 #[frV xh.r xh.a xh.c xh.b xh.d, frV y.r y.a y.c y.b y.d] W fun e w' => e = .returned (.bool true) ∧ ∃ z, w' = W.ext z) := by
                    intro W hW
                    have h := sameRatio_any xh y W (((HIO.out _ hmw).blw hb3q).blw hW) (((HIN.out y hmy).blw hbW).blw hW) (by rw [m4, hyr]; exact ⟨Nat.le_trans hoky.ln (by decide), Nat.le_trans hoky.ld (by decide)⟩) ⟨Nat.le_trans hoky.ln (by decide), Nat.le_trans hoky.ld (by decide)⟩
                    rw [m4, hyr, sameR_refl] at h
                    rw [m4, hyr]
                    exact h
                  have hm3 : xp = decide (-s < 0) := by
                    rw [m3, hs.out, Bool.eq_iff_iff, beq_iff_eq, decide_eq_true_iff]; omega
                  have hm2 : xl = first + (k : Int) - 1 := by omega
                  have HML := Lib.hid (show (wats (sg l) l.length (i + 1)).length = (wats (sg l) l.length i).length + 1 by rw [HWS.out, List.length_append]; rfl)
                  subst hg1
                  subst m1 hm2 hm3
                  clear m2 m3 m4 hat hgw hmw hyr hoky HWS
                  have hnn : (wats (sg l) l.length i).length ≤ i := by unfold wats; exact Nat.le_trans (List.length_filterMap_le _ _) (by simp)
                  generalize (wats (sg l) l.length i).length = nn at *
                  replace g0 := (Below.cell hb3q hbs3).trans g0
                  replace gg1 := (Below.cell hb3q hbs3).trans gg1
                  replace g2 := (Below.cell hb3q hbs3).trans g2
                  replace g3 := (Below.cell hb3q hbs3).trans g3
                  replace g4 := (Below.cell hb3q hbs3).trans g4
                  replace g5 := (Below.cell hb3q hbs3).trans g5
                  replace hbs3 := Nat.lt_of_lt_of_le hbs3 hb3q.size
                  have r1 : (nn : Int) < (ws.length : Int) := by omega
                  have r2 : (0 : Int) ≤ (nn : Int) := by omega
                  have r3 : decide ((ws.length : Int) ≤ (nn : Int)) = false := by simp; omega
                  have r4 : IntKind.i64.wrap (first + (i : Int)) = first + (i : Int) := by rw [IntKind.wrap_i64]; omega
                  have r5 : IntKind.i64.wrap (first + (k : Int)) = first + (k : Int) := by rw [IntKind.wrap_i64]; omega
                  have r6 : IntKind.i64.wrap (first + (k : Int) - 1) = first + (k : Int) - 1 := by rw [IntKind.wrap_i64]; omega
                  generalize hdb : decide (-s < 0) = db at *
                  have hdb2 : decide (0 < s) = db := by rw [← hdb, decide_eq_decide]; omega
                  go_wp2_with fail
                  refine wp_region_ext_lit (by kernel_rfl) (by kernel_rfl) ?_
                  repeat (quiet_step (first | (go_at_call 90; (with_reducible exact Calls.ext_of (HC1.out _ (by repeat (first | assumption | apply Blw.ext))))) | (go_at_call 90; (with_reducible exact Calls.ext_of (HC2.out _ (by repeat (first | assumption | apply Blw.ext)))))))
                  refine wpQuiet_nil ?_
                  rintro _ ⟨z3, rfl⟩
                  clear f0 f1 f2 HC2
                  go_wp2_with fail
                  refine name_world (fun W => Blw wq W) (by repeat (first | exact Blw.refl _ | apply Blw.ext | apply Blw.alloc | apply Blw.drewN | apply Blw.drew | refine Blw.setCell ?_ _ _ (by simp))) ?_
                  rintro wz hbz
                  have HC1z := Lib.hid (fun (W : World) (hW : Blw wz W) => HC1.out W (hbz.trans hW))
                  have HC3z := Lib.hid (fun (W : World) (hW : Blw wz W) => HC3.out W (hbz.trans hW))
                  replace g0 := (Below.cell hbz hbs3).trans g0
                  replace gg1 := (Below.cell hbz hbs3).trans gg1
                  replace g2 := (Below.cell hbz hbs3).trans g2
                  replace g3 := (Below.cell hbz hbs3).trans g3
                  replace g4 := (Below.cell hbz hbs3).trans g4
                  replace g5 := (Below.cell hbz hbs3).trans g5
                  replace c0 := (Below.cell hbz hbs2).trans c0
                  replace c1 := (Below.cell hbz hbs2).trans c1
                  replace c2 := (Below.cell hbz hbs2).trans c2
                  replace d0 := (Below.cell hbz hbs2).trans d0
                  replace d1 := (Below.cell hbz hbs2).trans d1
                  replace d2 := (Below.cell hbz hbs2).trans d2
                  replace hbs3 := Nat.lt_of_lt_of_le hbs3 hbz.size
                  replace hbs2 := Nat.lt_of_lt_of_le hbs2 hbz.size
                  have hzz := Blw.refl wz
                  refine wp_region_ext_lit (by kernel_rfl) (by kernel_rfl) ?_
                  repeat (quiet_step (first | (go_at_call 90; (with_reducible exact Calls.ext_of (HC1z.out _ (by repeat (first | assumption | apply Blw.ext))))) | (go_at_call 91; (with_reducible exact Calls.ext_of (HC3z.out _ (by repeat (first | assumption | apply Blw.ext)))))))
                  refine wpQuiet_nil ?_
                  rintro _ ⟨z4, rfl⟩
                  clear HC1 HC3 HC1z HC3z hzk c0 c1 c2 d0 d1 d2 g0 gg1 g2 g3 g4 g5 HSK q2 r3 r4 r5 r6
                  go_wp2
                  go_roundw
                  case rel => exact ⟨i + 1, by omega, .inl (by omega), by go_num, by rw [HML.out]; go_num, hb.trans (hbq.trans (hbz.trans (by repeat (first | exact Blw.refl _ | apply Blw.ext | apply Blw.alloc | apply Blw.drewN | apply Blw.drew | refine Blw.setCell ?_ _ _ (by simp)))))⟩
                  case measure => simp [intOf]; omega
            · have hke : k = l.length := by omega
              have HWS : Hid (wats (sg l) l.length (i + 1) = wats (sg l) l.length i) := way_end hi1 hlt HNZ.out (fun j h1 h2 => hzk.out j h1 (by omega))
              subst hke
              have t9 : decide ((l.length : Int) < (l.length : Int)) = false := by simp
              have q2 : ((l.length : Int) == (l.length : Int)) = true := by simp
              clear HC1 hzk c0 c1 c2 d0 d1 d2
              go_wp2_with fail
              go_quiet (fail)
              go_wp2_with fail
              go_quiet (fail)
              go_wp2
              go_roundw
              case rel => exact ⟨i + 1, by omega, .inl (by omega), by go_num, by rw [HWS.out], hb.trans (hbq.trans (by repeat (first | exact Blw.refl _ | apply Blw.ext | apply Blw.alloc | apply Blw.drewN | apply Blw.drew | refine Blw.setCell ?_ _ _ (by simp))))⟩
              case measure => simp [intOf]; omega
      · have HL := Lib.hid (wats_full (l := l) hi1 hlt hi2)
        have HWL : Hid (ws.length = (wats (sg l) l.length i).length) := by
          show _ = _
          rw [HL.out]
          have := congrArg List.length KEY.out
          simpa using this
        go_wp2
        go_ret
        exact ⟨by rw [HWL.out]; simp, Blw.is (hb4.trans hb)⟩
  · have C1 := Lib.hid (waterOf_err A l cap first ((w.ext x1).ext x2) (hA.blw (by repeat (first | exact Blw.refl _ | apply Blw.ext | apply Blw.alloc | apply Blw.drewN | apply Blw.drew | refine Blw.setCell ?_ _ _ (by simp)))) (fun x hx => (HIN.out x hx).blw (by repeat (first | exact Blw.refl _ | apply Blw.ext | apply Blw.alloc | apply Blw.drewN | apply Blw.drew | refine Blw.setCell ?_ _ _ (by simp)))) hl herr)
    generalize errO l first = u at *
    have q : (u != 0) = true := by simpa using herr
    clear herr hl
    go_wp2_with fail
    clear d1
    refine Calls.mono C1.out ?_
    rintro e w3 ⟨rfl, x3, rfl⟩
    go_wp2
    go_ret
    exact ⟨rfl, Blw.is (by repeat (first | exact Blw.refl _ | apply Blw.ext | apply Blw.alloc | apply Blw.drewN | apply Blw.drew | refine Blw.setCell ?_ _ _ (by simp)))⟩
end Go.Proofs.Ytigkfdoeneemeaa
/- Arguments that came in, opened: slices of whole numbers as lists. -/
namespace Go.Proofs.Ytigkfdoeneemeaa
open Go.RowKit Go.ChangeShapes Go.WideShapes Go.ChangeAt

theorem open_list {H : Type} {enc : TypeId × Value → H} {P : Program} {W : World} {d : DataW H} {ps : List MemPlace} {T E : TypeId} {k : IntKind} {a : Option Addr} {len cap : Nat}
    (hT : P.underlying T = some (.slice E)) (hE : P.underlying E = some (.int k)) (hC : P.cellsOf E = 1)
    (h : DataW.Trod enc P W 0 (fun _ => true) true T (.slice a len cap) d ps) :
    ∃ l : List Int, l.length = len ∧ Arr W a (l.map (Value.int k)) ∧ (∀ z ∈ l, (Lit.int k z).wf = true) ∧ (a = none → cap = 0) ∧ len ≤ cap ∧ cap ≤ maxLen := by
  obtain ⟨fuel, hf⟩ := h
  rcases open_ints hT hE hC hf with ⟨hcs, _⟩ | ⟨x, l, c, zs, hcs, _, hl, hm, hz, _, hcell, hwz⟩
  · simp [Value.cells] at hcs
    obtain ⟨rfl, rfl, rfl⟩ := hcs
    exact ⟨[], rfl, .inl rfl, by simp, fun _ => rfl, Nat.le_refl _, Nat.zero_le _⟩
  · simp [Value.cells] at hcs
    obtain ⟨rfl, rfl, rfl⟩ := hcs
    have hz' : zs.length = cap := by simpa using hz
    refine ⟨zs.take len, by simp; omega, ?_, (fun z hz => hwz z (List.mem_of_mem_take hz)), (fun h => by cases h), hl, hm⟩
    by_cases h0 : len = 0
    · subst h0; exact .inl (by simp)
    obtain ⟨b, o, s⟩ := x
    have c0 := hcell 0 (by omega)
    have hs : s = none := by simpa [Addr.add] using World.cell?_spot c0
    subst hs
    have ea : ∀ j, (⟨b, o, none⟩ : Addr).add j = ⟨b, o + j, none⟩ := fun j => by unfold Addr.add; split <;> simp_all
    refine .inr ⟨b, o, rfl, block_lt_of_cell c0, fun i hi => ?_⟩
    have hi' : i < zs.length ∧ i < len := by simp at hi; omega
    rw [← ea i, hcell i hi'.1]
    simp [hi'.1, hi'.2]

theorem open_u64s {H : Type} {enc : TypeId × Value → H} {P : Program} {W : World} {d : DataW H} {ps : List MemPlace} {T E : TypeId} {a : Option Addr} {len cap : Nat}
    (hT : P.underlying T = some (.slice E)) (hE : P.underlying E = some (.int .u64)) (hC : P.cellsOf E = 1)
    (h : DataW.Trod enc P W 0 (fun _ => true) true T (.slice a len cap) d ps) :
    ∃ l : List Nat, l.length = len ∧ Arr W a (u64s l) ∧ (∀ z ∈ l, z < 2 ^ 64) ∧ (a = none → cap = 0) ∧ len ≤ cap ∧ cap ≤ maxLen := by
  obtain ⟨l, h1, h2, h3, h4, h5, h6⟩ := open_list hT hE hC h
  have hb : ∀ z ∈ l, 0 ≤ z ∧ z < 2 ^ 64 := fun z hz => by
    have := h3 z hz
    simp [Lit.wf, IntKind.min, IntKind.max, IntKind.signed, IntKind.bits] at this
    omega
  refine ⟨l.map Int.toNat, by simpa using h1, ?_, ?_, h4, h5, h6⟩
  · have e : u64s (l.map Int.toNat) = l.map (Value.int .u64) := by
      rw [u64s, List.map_map]
      apply List.map_congr_left
      intro z hz
      have := hb z hz
      simp; omega
    rw [e]; exact h2
  · intro z hz
    obtain ⟨y, hy, rfl⟩ := List.mem_map.1 hz
    have := hb y hy
    omega
theorem wf_u64 {n : Int} (h : (Lit.int .u64 n).wf = true) : ∃ m : Nat, n = m ∧ m < 2 ^ 64 := by
  simp [Lit.wf, IntKind.min, IntKind.max, IntKind.signed, IntKind.bits] at h
  exact ⟨n.toNat, by omega, by omega⟩
end Go.Proofs.Ytigkfdoeneemeaa
/- Arguments that came in, opened by their types: bools, numbers, floats, strings, structs, slices of anything. -/
namespace Go.Proofs.Ytigkfdoeneemeaa
open Go.RowKit Go.ChangeShapes Go.WideShapes Go.ChangeAt

/-- Cells that are elements, one behind the other. -/
theorem chunks {α : Type} (f : α → List Value) (k : Nat) (P : α → Prop) (len : Nat) : ∀ (cells : List Value), cells.length = len * k → (∀ i, i < len → ∃ x, P x ∧ (cells.drop (i * k)).take k = f x) →
    ∃ l : List α, l.length = len ∧ cells = l.flatMap f ∧ ∀ x ∈ l, P x := by
  induction len with
  | zero => intro cells hl _; exact ⟨[], rfl, List.eq_nil_of_length_eq_zero (by omega), by simp⟩
  | succ n ih =>
    intro cells hl h
    obtain ⟨x, hx, h0⟩ := h 0 (by omega)
    obtain ⟨l, h1, h2, h3⟩ := ih (cells.drop k) (by rw [List.length_drop, hl, Nat.add_mul]; omega) (fun i hi => by
      obtain ⟨y, hy, e⟩ := h (i + 1) (by omega)
      refine ⟨y, hy, ?_⟩
      rw [List.drop_drop, ← e, Nat.add_mul, Nat.one_mul, Nat.add_comm k])
    refine ⟨x :: l, by simp [h1], ?_, ?_⟩
    · rw [List.flatMap_cons, ← h0, ← h2]; simp
    · intro y hy
      rcases List.mem_cons.1 hy with rfl | hy
      · exact hx
      · exact h3 y hy

section
variable {H : Type} {enc : TypeId × Value → H} {P : Program} {w : World} {t e : TypeId} {cs : List Value}

/-- These cells read as data of this type. -/
def Rds (enc : TypeId × Value → H) (P : Program) (w : World) (t : TypeId) (cs : List Value) : Prop := ∃ fuel x, DataW.trod enc P w 0 (fun _ => true) true fuel t cs = some x
theorem Rds.of {v : Value} {d : DataW H} {p : List MemPlace} (h : DataW.Trod enc P w 0 (fun _ => true) true t v d p) : Rds enc P w t v.cells.toList := by
  obtain ⟨f, h⟩ := h; exact ⟨f, _, h⟩
theorem rds_bool (ht : P.underlying t = some .bool) (h : Rds enc P w t cs) : ∃ b, cs = [.bool b] := by
  obtain ⟨f, x, h⟩ := h
  obtain ⟨b, h, _⟩ := DataW.trod_bool ht h
  exact ⟨b, h⟩
theorem rds_int {k : IntKind} (ht : P.underlying t = some (.int k)) (h : Rds enc P w t cs) : ∃ n, cs = [.int k n] ∧ (Lit.int k n).wf = true := by
  obtain ⟨f, x, h⟩ := h
  obtain ⟨n, h, _, hw⟩ := DataW.trod_int ht h
  exact ⟨n, h, hw⟩
theorem rds_float {k : FloatKind} (ht : P.underlying t = some (.float k)) (h : Rds enc P w t cs) : ∃ n, cs = [.float k n] ∧ (Lit.float k n).wf = true := by
  obtain ⟨f, x, h⟩ := h
  cases f with
  | zero => simp [DataW.trod] at h
  | succ n =>
    unfold DataW.trod at h
    rw [ht] at h
    split at h <;> simp_all
theorem rds_string (ht : P.underlying t = some .string) (h : Rds enc P w t cs) : ∃ s : ByteArray, cs = [.string s] ∧ s.size ≤ maxLen := by
  obtain ⟨f, x, h⟩ := h
  obtain ⟨s, h, _, hs⟩ := DataW.trod_string ht h
  exact ⟨s, h, hs⟩
theorem rds_struct {fs : Array Field} (ht : P.underlying t = some (.struct fs)) (h : Rds enc P w t cs) :
    cs.length = P.cellsOf t ∧ ∀ (i : Nat) (f : Field), fs[i]? = some f → Rds enc P w f.type ((cs.drop f.offset).take (P.cellsOf f.type)) := by
  obtain ⟨f, x, h⟩ := h
  obtain ⟨xs, n, _, _, hl, hx, hf⟩ := DataW.trod_struct ht h
  refine ⟨hl, fun i f hi => ?_⟩
  have hi' : i < xs.length := by rw [hx]; exact (Array.getElem?_eq_some_iff.1 hi).1
  exact ⟨n, xs[i], by rw [hf i f hi, List.getElem?_eq_getElem hi']⟩
theorem add_add (b o i j : Nat) : ((⟨b, o, none⟩ : Addr).add i).add j = ⟨b, o + (i + j), none⟩ := by
  have ea : ∀ o j, (⟨b, o, none⟩ : Addr).add j = ⟨b, o + j, none⟩ := fun o j => by unfold Addr.add; split <;> simp_all
  rw [ea, ea, Nat.add_assoc]
theorem rds_slice (ht : P.underlying t = some (.slice e)) (k : Nat) (hk : P.cellsOf e = k) (hk0 : 0 < k) (h : Rds enc P w t cs) :
    ∃ (a : Option Addr) (len cap : Nat) (cells : List Value), cs = [.slice a len cap] ∧ (a = none → cap = 0) ∧ len ≤ cap ∧ cap ≤ maxLen ∧ cells.length = len * k ∧ Arr w a cells ∧
      ∀ i, i < len → Rds enc P w e ((cells.drop (i * k)).take k) := by
  obtain ⟨f, x, h⟩ := h
  rcases DataW.trod_slice ht h with ⟨h, _⟩ | ⟨a, len, cap, elems, rest, n, _, h, _, _, hl, hc, he, hel, _⟩
  · exact ⟨none, 0, 0, [], h, fun _ => rfl, Nat.le_refl _, Nat.zero_le _, by simp, .inl rfl, fun i hi => by omega⟩
  · rw [hk] at hel
    by_cases h0 : len = 0
    · subst h0
      exact ⟨some a, 0, cap, [], h, (fun h => by cases h), hl, hc, by simp, .inl rfl, fun i hi => by omega⟩
    have cell : ∀ i, i < len → ∃ ci, w.cells? 0 (a.add (i * k)) k = some ci ∧ ∃ y, DataW.trod enc P w 0 (fun _ => true) true n e ci = some y := by
      intro i hi
      have := hel i hi
      rw [List.getElem?_eq_getElem (by omega)] at this
      obtain ⟨ci, h1, h2⟩ := Option.bind_eq_some_iff.1 this
      exact ⟨ci, h1, _, h2⟩
    obtain ⟨c0, hc0, _⟩ := cell 0 (by omega)
    obtain ⟨_, hcl, hcc⟩ := World.cells?_some hc0
    have hsp0 := hcc 0 hk0
    rw [List.getElem?_eq_getElem (by omega)] at hsp0
    obtain ⟨b, o, s⟩ := a
    have hs : s = none := by
      have := World.cell?_spot hsp0
      simpa [Addr.add] using this
    subst hs
    rw [add_add] at hsp0
    have cellat : ∀ i, i < len → ∀ r, r < k → ∃ v, w.cell? ⟨b, o + (i * k + r), none⟩ = some v := by
      intro i hi r hr
      obtain ⟨ci, h1, _⟩ := cell i hi
      obtain ⟨_, h2, h3⟩ := World.cells?_some h1
      have := h3 r hr
      rw [add_add, List.getElem?_eq_getElem (by omega)] at this
      exact ⟨_, this⟩
    let cells := (List.range (len * k)).map fun j => (w.cell? ⟨b, o + j, none⟩).getD undef
    have hlen : cells.length = len * k := by simp [cells]
    have hat : ∀ j, j < len * k → w.cell? ⟨b, o + j, none⟩ = cells[j]? := by
      intro j hj
      have hi : j / k < len := Nat.div_lt_of_lt_mul (by rw [Nat.mul_comm]; exact hj)
      obtain ⟨v, hv⟩ := cellat (j / k) hi (j % k) (Nat.mod_lt _ hk0)
      have e1 : j / k * k + j % k = j := Nat.div_add_mod' j k
      rw [e1] at hv
      simp [cells, hj, hv]
    refine ⟨some ⟨b, o, none⟩, len, cap, cells, h, (fun h => by cases h), hl, hc, hlen, .inr ⟨b, o, rfl, block_lt_of_cell hsp0, fun i hi => hat i (by omega)⟩, fun i hi => ?_⟩
    obtain ⟨ci, h1, y, hy⟩ := cell i hi
    obtain ⟨_, h2, h3⟩ := World.cells?_some h1
    refine ⟨n, y, ?_⟩
    have : (cells.drop (i * k)).take k = ci := by
      have hb : i * k + k ≤ len * k := by
        have := Nat.mul_le_mul_right k (show i + 1 ≤ len from hi)
        rw [Nat.add_mul, Nat.one_mul] at this; exact this
      apply List.ext_getElem?
      intro r
      by_cases hr : r < k
      · rw [List.getElem?_take, if_pos hr, List.getElem?_drop, ← hat (i * k + r) (by omega), ← h3 r hr, add_add]
      · rw [List.getElem?_eq_none (by simp; omega), List.getElem?_eq_none (by omega)]
    rw [this]; exact hy
end
end Go.Proofs.Ytigkfdoeneemeaa
/- Fractions handed in, opened. -/
namespace Go.Proofs.Ytigkfdoeneemeaa
open Go.RowKit Go.ChangeShapes Go.WideShapes Go.ChangeAt

theorem cellsU32 : Try.prog.cellsOf 135 = 1 := by kernel_rfl
theorem cellsWords : Try.prog.cellsOf 86 = 1 := by kernel_rfl
theorem cellsBool : Try.prog.cellsOf 4 = 1 := by kernel_rfl
theorem cellsRatio : Try.prog.cellsOf 88 = 3 := by kernel_rfl
theorem wf_u32' {n : Int} (h : (Lit.int .u32 n).wf = true) : ∃ m : Nat, n = (m : Int) ∧ m < 4294967296 := by
  simp [Lit.wf, IntKind.min, IntKind.max, IntKind.signed, IntKind.bits] at h
  exact ⟨n.toNat, by omega, by omega⟩
set_option maxRecDepth 100000 in
theorem rds_words {H : Type} {enc : TypeId × Value → H} {w : World} {cs : List Value} (h : Rds enc Try.prog w 86 cs) :
    ∃ (a : Option Addr) (l : List Nat) (cap : Nat), cs = [.slice a l.length cap] ∧ (a = none → l.length = 0 ∧ cap = 0) ∧ l.length ≤ cap ∧ cap ≤ maxLen ∧ Arr w a (u32s l) ∧ W.WF l := by
  obtain ⟨a, len, cap, cells, he, hn, hl, hc, hcl, harr, hel⟩ := rds_slice Try.underlying86 1 cellsU32 (by decide) h
  obtain ⟨l, h1, h2, h3⟩ := chunks (fun n : Nat => [Value.int .u32 n]) 1 (fun n => n < 4294967296) len cells hcl (fun i hi => by
    obtain ⟨n, hn, hw⟩ := rds_int Try.underlying135 (hel i hi)
    obtain ⟨m, rfl, hm⟩ := wf_u32' hw
    exact ⟨m, hm, hn⟩)
  have e : cells = u32s l := by rw [h2]; clear h1 h2 h3; induction l with
    | nil => rfl
    | cons x l ih => rw [List.flatMap_cons, ih]; rfl
  subst h1
  exact ⟨a, l, cap, he, fun h => ⟨by have := hn h; omega, hn h⟩, hl, hc, by rw [← e]; exact harr, h3⟩
set_option maxRecDepth 100000 in
theorem rds_ratio {H : Type} {enc : TypeId × Value → H} {w : World} {cs : List Value} (h : Rds enc Try.prog w 88 cs) : ∃ x : FL, FL.In w x ∧ cs = x.cells := by
  obtain ⟨hl, hf⟩ := rds_struct Try.underlying88 h
  have f0 := hf 0 _ rfl
  have f1 := hf 1 _ rfl
  have f2 := hf 2 _ rfl
  rw [cellsRatio] at hl
  match cs, hl with
  | [c0, c1, c2], _ =>
    simp [cellsBool, cellsWords] at f0 f1 f2
    obtain ⟨b, hb⟩ := rds_bool Try.underlying4 f0
    obtain ⟨a1, l1, k1, e1, n1, m1, q1, r1, w1⟩ := rds_words f1
    obtain ⟨a2, l2, k2, e2, n2, m2, q2, r2, w2⟩ := rds_words f2
    simp at hb e1 e2
    unfold maxLen at q1 q2
    exact ⟨⟨⟨b, l1, l2⟩, a1, k1, a2, k2⟩, ⟨r1, r2, m1, q1, m2, q2, n1, n2, w1, w2⟩, by rw [hb, e1, e2]; rfl⟩
set_option maxRecDepth 100000 in
theorem open_ratio {H : Type} {enc : TypeId × Value → H} {w : World} {r : Reach} {b0 : Nat} {v : Value} {d : DataW H} {p : List MemPlace} (hv : Value.okWide Try.prog w r b0 88 v)
    (h : DataW.Trod enc Try.prog w 0 (fun _ => true) true 88 v d p) : ∃ x : FL, v = frV x.r x.a x.c x.b x.d ∧ FL.In w x := by
  obtain ⟨cs, rfl, -⟩ := okWide_struct Try.underlying88 hv
  obtain ⟨x, hx, he⟩ := rds_ratio (Rds.of h)
  exact ⟨x, by obtain ⟨l⟩ := cs; simp only [Value.cells] at he; rw [he]; rfl, hx⟩
set_option maxRecDepth 100000 in
theorem open_ratios {H : Type} {enc : TypeId × Value → H} {w : World} {d : DataW H} {ps : List MemPlace} {a : Option Addr} {len cap : Nat}
    (h : DataW.Trod enc Try.prog w 0 (fun _ => true) true 97 (.slice a len cap) d ps) :
    ∃ l : List FL, l.length = len ∧ Arr w a (fls l) ∧ (∀ x ∈ l, FL.In w x) ∧ (a = none → cap = 0) ∧ len ≤ cap ∧ cap ≤ maxLen := by
  obtain ⟨a', len', cap', cells, he, hn, hl, hc, hcl, harr, hel⟩ := rds_slice Try.underlying97 3 cellsRatio (by decide) (Rds.of h)
  simp [Value.cells] at he
  obtain ⟨rfl, rfl, rfl⟩ := he
  obtain ⟨l, h1, h2, h3⟩ := chunks FL.cells 3 (FL.In w) len cells hcl (fun i hi => by
    obtain ⟨p, hp, e⟩ := rds_ratio (hel i hi)
    exact ⟨p, hp, e⟩)
  exact ⟨l, h1, by rw [fls, ← h2]; exact harr, h3, hn, hl, hc⟩
end Go.Proofs.Ytigkfdoeneemeaa
