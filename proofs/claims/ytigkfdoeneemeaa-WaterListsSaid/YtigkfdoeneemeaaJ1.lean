/- Several texts, joined. -/
import Derived.Test.YtigkfdoeneemeaaJ0
import Derived.Deep.AppendLies
import Derived.Deep.RegionLaw
import Derived.WalkMore
import Derived.Deep.LoopGhost
import Derived.WalkKit
import Derived.WalkLawsBesides
import Derived.Deep.Draws
import Derived.Test.YtigkfdoeneemeaaProg
import Derived.Laws.Externs
import Derived.Deep.OwnRows
set_option linter.unusedVariables false
set_option linter.unusedSimpArgs false
/- append as a step of a region that draws its order: onto a slice of the call's own, of anything that can be read (nil too). -/
namespace Go
open Go.RowKit
section
variable {P : Program} {ops : Array Oper} {o : Oper} {a : Act} {K : Act → World → Prop} {Q : Exit → Act → World → Prop} {E : Prop}
theorem step_app (w0 w : World) (hgd : o.guard = none) (s x : Operand) (t : TypeId) (ho : o.op = .call { callee := .builtin .append, args := #[s, x], argTypes := #[t, t] })
    {e : TypeId} {z : Value} {size bytes : Nat} (hT : SlT P t e z size bytes) (hb : Blw w0 w) (v : Value) (n : Nat) (xs : List Value) (hs : a.eval s = v) (hown : w.ownsRow w0.heap.size e size v n xs)
    (ad : Option Addr) (m c : Nat) (news : List Value) (hx : a.eval x = .slice ad m c) (hn : ad = none → c = 0) (hr : Arr w ad news) (hl : news.length = m * size) (h1 : ∀ u ∈ news, u.oneCell' = true)
    (h63 : n + m ≤ maxLen) (hbytes : (n + m) * bytes ≤ 140737488355328)
    (h : ∀ v' w', w'.ownsRow w0.heap.size e size v' (n + m) (xs ++ news) → Blw w0 w' → w.grownBy w' v.ownBlock → (v'.ownBlock = v.ownBlock ∨ v'.ownBlock = some w.heap.size) → K (a.put o.dst v') w') :
    if Region.wanted o (yielded ops a.tmps) = true then Oper.wp P o a w K Q else E := by
  have hw : Region.wanted o (yielded ops a.tmps) = true := by simp [Region.wanted, hgd]
  rw [if_pos hw]
  obtain ⟨i, hi, hz0, hz1, hz2⟩ := info_parts hT.info
  have hpos := hT.pos
  cases ad with
  | none =>
    have hnews : news = [] := by
      rcases hr with h | ⟨b, o, e, _⟩
      · exact h
      · cases e
    have hm : m = 0 := by
      rcases Nat.eq_zero_or_pos m with h | h
      · exact h
      · have := Nat.mul_pos h hpos; rw [hnews] at hl; simp at hl; omega
    subst hnews hm
    have hc := hn rfl
    subst hc
    have hrun := run_append_owned_none (P := P) (w := w) w0.heap.size t o.type e i size hT.under hi v n xs hown
    unfold Oper.wp
    simp [execOp, ho, resolve, invoke, builtin, hs, hx, hrun, Result.andThen]
    exact h v w (by simpa using hown) hb (World.grownBy.refl _ _) (.inl rfl)
  | some ad =>
    have hnews : ∀ j u, news[j]? = some u → w.cell? (ad.add j) = some u := by
      intro j u hj
      rcases hr with h | ⟨b, o, e, hbs, hc⟩
      · subst h; simp at hj
      · cases e
        have hjl : j < news.length := by rw [List.getElem?_eq_some_iff] at hj; exact hj.1
        have := hc j hjl
        rw [hj] at this
        have ea : (⟨b, o, none⟩ : Addr).add j = ⟨b, o + j, none⟩ := by unfold Addr.add; split <;> simp_all
        rw [ea]; exact this
    obtain ⟨v', w', hrun, g1, g2, _, g5⟩ := run_append_own_at (P := P) w w0.heap.size t o.type e i z size bytes hT.under hi hz0 hz1 hz2 hT.cells hpos v n xs hown ad m c news hl hnews h1 h63 hbytes hb.size
    unfold Oper.wp execOp
    simp only [ho, resolve, invoke, builtin, Sem.run_bind, Sem.run_pure, Result.andThen_ok, List.map_toArray, List.map_cons, List.map_nil, hs, hx, hrun]
    exact h v' w' g1 (hb.grown g2 (fun k hk => (World.ownsRow.lt hown k hk).1)) g2 g5
end
/-- The same for a plain region's list. -/
theorem wpList_app2 {P : Program} {ops : Array Oper} {rest : List Oper} {o : Oper} {a : Act} {Q : Exit → Act → World → Prop} (w0 w : World) (hgd : o.guard = none) (s x : Operand) (t : TypeId) (ho : o.op = .call { callee := .builtin .append, args := #[s, x], argTypes := #[t, t] })
    {e : TypeId} {z : Value} {size bytes : Nat} (hT : SlT P t e z size bytes) (hb : Blw w0 w) (v : Value) (n : Nat) (xs : List Value) (hs : a.eval s = v) (hown : w.ownsRow w0.heap.size e size v n xs)
    (ad : Option Addr) (m c : Nat) (news : List Value) (hx : a.eval x = .slice ad m c) (hn : ad = none → c = 0) (hr : Arr w ad news) (hl : news.length = m * size) (h1 : ∀ u ∈ news, u.oneCell' = true)
    (h63 : n + m ≤ maxLen) (hbytes : (n + m) * bytes ≤ 140737488355328)
    (h : ∀ v' w', w'.ownsRow w0.heap.size e size v' (n + m) (xs ++ news) → Blw w0 w' → w.grownBy w' v.ownBlock → (v'.ownBlock = v.ownBlock ∨ v'.ownBlock = some w.heap.size) → wpList P ops Q rest (a.put o.dst v') w') : wpList P ops Q (o :: rest) a w := by
  refine wpList_plain hgd fun K hK => ?_
  have hw : Region.wanted o (yielded ops a.tmps) = true := by simp [Region.wanted, hgd]
  have := step_app (ops := ops) (K := K) (Q := Q) (E := False) w0 w hgd s x t ho hT hb v n xs hs hown ad m c news hx hn hr hl h1 h63 hbytes (fun v' w' a1 a2 a3 a4 => hK _ _ (h v' w' a1 a2 a3 a4))
  rwa [if_pos hw] at this
theorem heap_alloc_at {w : World} {o : Obj} {k : Nat} (h : k = w.heap.size) : (w.alloc o).heap[k]? = some o := by rw [h]; exact heap_alloc_new _ _
theorem Arr.lit_at (w : World) (cs : Array Value) (t : TypeId) (fr : Nat × Nat) {k : Nat} (h : k = w.heap.size) : Arr (w.alloc (.cells cs t fr)) (some ⟨k, 0, none⟩) cs.toList := by rw [h]; exact Arr.lit w cs t fr
/-- A slice of no elements in a block of the call's own. -/
theorem ownsRow_empty {w : World} {B g : Nat} {e : TypeId} {size : Nat} {fr : Nat × Nat} (h : w.heap[g]? = some (.cells #[] e fr)) (hf : fr = (0, 0)) (hB : B ≤ g) : w.ownsRow B e size (.slice (some ⟨g, 0, none⟩) 0 0) 0 [] := by
  subst hf
  exact ⟨by simp, .inr ⟨g, 0, #[], rfl, hB, h, Nat.le_refl _, Nat.zero_le _, by simp, by simp⟩⟩
/-- The world at a place of the walk, named, with what is known of it. -/
theorem name_world {P : Program} {c : Code} {Q : Exit → Act → World → Prop} {a : Act} {w : World} (S : World → Prop) (h : S w) (k : ∀ W, S W → Code.wp P c Q a W) : Code.wp P c Q a w := k w h
/-- A block of six cells, and of three, that lies in a later world. -/
theorem box6 {w W : World} {T : TypeId} {u0 u1 u2 u3 u4 u5 : Value} (h : Blw (w.alloc (.cells #[u0, u1, u2, u3, u4, u5] T)) W) :
    w.heap.size < W.heap.size ∧ W.cell? ⟨w.heap.size, 0, none⟩ = some u0 ∧ W.cell? ⟨w.heap.size, 1, none⟩ = some u1 ∧ W.cell? ⟨w.heap.size, 2, none⟩ = some u2 ∧ W.cell? ⟨w.heap.size, 3, none⟩ = some u3 ∧ W.cell? ⟨w.heap.size, 4, none⟩ = some u4 ∧ W.cell? ⟨w.heap.size, 5, none⟩ = some u5 := by
  have hl : w.heap.size < (w.alloc (.cells #[u0, u1, u2, u3, u4, u5] T)).heap.size := by simp
  have hh : W.heap[w.heap.size]? = some (.cells #[u0, u1, u2, u3, u4, u5] T (0, 0)) := (Below.block h _ hl).trans (heap_alloc_new w _)
  exact ⟨Nat.lt_of_lt_of_le hl h.size, (cell_of_row W _ 0 _ _ _ hh).trans rfl, (cell_of_row W _ 1 _ _ _ hh).trans rfl, (cell_of_row W _ 2 _ _ _ hh).trans rfl, (cell_of_row W _ 3 _ _ _ hh).trans rfl, (cell_of_row W _ 4 _ _ _ hh).trans rfl, (cell_of_row W _ 5 _ _ _ hh).trans rfl⟩
theorem box3 {w W : World} {T : TypeId} {u0 u1 u2 : Value} (h : Blw (w.alloc (.cells #[u0, u1, u2] T)) W) :
    w.heap.size < W.heap.size ∧ W.cell? ⟨w.heap.size, 0, none⟩ = some u0 ∧ W.cell? ⟨w.heap.size, 1, none⟩ = some u1 ∧ W.cell? ⟨w.heap.size, 2, none⟩ = some u2 := by
  have hl : w.heap.size < (w.alloc (.cells #[u0, u1, u2] T)).heap.size := by simp
  have hh : W.heap[w.heap.size]? = some (.cells #[u0, u1, u2] T (0, 0)) := (Below.block h _ hl).trans (heap_alloc_new w _)
  exact ⟨Nat.lt_of_lt_of_le hl h.size, (cell_of_row W _ 0 _ _ _ hh).trans rfl, (cell_of_row W _ 1 _ _ _ hh).trans rfl, (cell_of_row W _ 2 _ _ _ hh).trans rfl⟩
end Go
/- The walk of water.copied. -/
namespace Go.Proofs.Ytigkfdoeneemeaa
open Go.RowKit

theorem own_past {W1 W9 w2 : World} {B n size : Nat} {e : TypeId} {v : Value} {cs : List Value} {g : Option Nat} (h : W1.ownsRow B e size v n cs) (k : Blw W1 W9) (hg : W9.grownBy w2 g) (hne : ∀ i, v.ownBlock = some i → g ≠ some i) : w2.ownsRow B e size v n cs :=
  KeptO.own (O := fun k => g = some k) (KeptO.grown (KeptO.of_blw k) hg (fun _ hk => .inl hk)) h (fun k hk e => hne k hk e)

/-- A fraction of the call's own, its two lists apart. -/
def RetFr1D (w : World) (r : Fr) (e : Ending) (w' : World) : Prop :=
  ∃ (a : Option Addr) (c : Nat) (b : Option Addr) (d : Nat), e = .returned (frV r a c b d) ∧ Blw w w' ∧ w'.ownsRow w.heap.size 135 1 (.slice a r.num.length c) r.num.length (u32s r.num) ∧ w'.ownsRow w.heap.size 135 1 (.slice b r.den.length d) r.den.length (u32s r.den) ∧
    ∀ i, (Value.slice a r.num.length c).ownBlock = some i → (Value.slice b r.den.length d).ownBlock ≠ some i

set_option maxRecDepth 100000 in
set_option maxHeartbeats 8000000 in
theorem waterCopied_anyD (r : Fr) (a : Option Addr) (c : Nat) (b : Option Addr) (d : Nat) (w : World) (h : FrA w r a c b d) (hr : r.Ok) :
    Calls Try.prog 129 #[frV r a c b d] w (RetFr1D w r) := by
  obtain ⟨rn, rnum, rden⟩ := r
  obtain ⟨W0, hW0⟩ : ∃ W0, W0 = ((w.alloc (.cells #[.bool rn, .slice a rnum.length c, .slice b rden.length d] 88 (0, 0))).alloc (.cells #[.bool false, .slice none 0 0, .slice none 0 0] 88 (0, 0))) := ⟨_, rfl⟩
  have hb0 : Blw w W0 := by rw [hW0]; exact (by repeat (first | exact Blw.refl _ | apply Blw.ext | apply Blw.alloc | apply Blw.drewN | apply Blw.drew | refine Blw.setCell ?_ _ _ (by simp)))
  have hs0 : W0.heap.size = w.heap.size + 2 := by rw [hW0]; simp
  have hR0 : W0.heap[w.heap.size + 1]? = some (.cells #[.bool false, .slice none 0 0, .slice none 0 0] 88 (0, 0)) := by
    have := heap_alloc_new (w.alloc (.cells #[.bool rn, .slice a rnum.length c, .slice b rden.length d] 88 (0, 0))) (.cells #[.bool false, .slice none 0 0, .slice none 0 0] 88 (0, 0))
    rw [show (w.alloc (.cells #[.bool rn, .slice a rnum.length c, .slice b rden.length d] 88 (0, 0))).heap.size = w.heap.size + 1 by simp] at this
    rw [hW0]; exact this
  have hB0 : W0.heap[w.heap.size]? = some (.cells #[.bool rn, .slice a rnum.length c, .slice b rden.length d] 88 (0, 0)) := by rw [hW0]; exact at_alloc _ (heap_alloc_new _ _)
  have hA := h.an.blw hb0
  have hD := h.ad.blw hb0
  have hl1 : (u32s rnum).length = rnum.length * 1 := by simp
  have hl2 : (u32s rden).length = rden.length * 1 := by simp
  have ln := hr.ln
  have ld := hr.ld
  have na := fun e => (h.na e).2
  have nb := fun e => (h.nb e).2
  simp only at ln ld na nb hA hD
  clear h hr
  go_enter Try.func129, Try.ntmps129
  go_wp2_with fail
  have hS0 : w.heap.size + 1 < W0.heap.size ∧ Blw w W0 ∧ W0.cell? ⟨w.heap.size, 0, none⟩ = some (.bool rn) ∧ W0.cell? ⟨w.heap.size, 1, none⟩ = some (.slice a rnum.length c) ∧ W0.cell? ⟨w.heap.size, 2, none⟩ = some (.slice b rden.length d) :=
    ⟨by omega, hb0, (cell_of_row W0 _ 0 _ _ _ hB0).trans rfl, (cell_of_row W0 _ 1 _ _ _ hB0).trans rfl, (cell_of_row W0 _ 2 _ _ _ hB0).trans rfl⟩
  have KS : ∀ W W' : World, (w.heap.size + 1 < W.heap.size ∧ Blw w W ∧ W.cell? ⟨w.heap.size, 0, none⟩ = some (.bool rn) ∧ W.cell? ⟨w.heap.size, 1, none⟩ = some (.slice a rnum.length c) ∧ W.cell? ⟨w.heap.size, 2, none⟩ = some (.slice b rden.length d)) → Blw W W' →
      (w.heap.size + 1 < W'.heap.size ∧ Blw w W' ∧ W'.cell? ⟨w.heap.size, 0, none⟩ = some (.bool rn) ∧ W'.cell? ⟨w.heap.size, 1, none⟩ = some (.slice a rnum.length c) ∧ W'.cell? ⟨w.heap.size, 2, none⟩ = some (.slice b rden.length d)) := by
    rintro W W' ⟨h1, h2, h3, h4, h5⟩ hb
    exact ⟨Nat.lt_of_lt_of_le h1 hb.size, h2.trans hb, (Below.cell hb (by show w.heap.size < _; omega)).trans h3, (Below.cell hb (by show w.heap.size < _; omega)).trans h4, (Below.cell hb (by show w.heap.size < _; omega)).trans h5⟩
  have KR : ∀ W W' : World, W.heap[w.heap.size + 1]? = some (.cells #[.bool false, .slice none 0 0, .slice none 0 0] 88 (0, 0)) → Blw W W' → W'.heap[w.heap.size + 1]? = some (.cells #[.bool false, .slice none 0 0, .slice none 0 0] 88 (0, 0)) :=
    fun W W' hF hb => (KeptO.of_blw (O := fun _ => False) hb).heap hF id
  have RR : ∀ W : World, W.heap[w.heap.size + 1]? = some (.cells #[.bool false, .slice none 0 0, .slice none 0 0] 88 (0, 0)) → (∀ i, W.frozen? ⟨w.heap.size + 1, i, none⟩ = false) ∧ W.cell? ⟨w.heap.size + 1, 0, none⟩ = some (.bool false) ∧ W.cell? ⟨w.heap.size + 1, 1, none⟩ = some (.slice none 0 0) ∧ W.cell? ⟨w.heap.size + 1, 2, none⟩ = some (.slice none 0 0) :=
    fun W hF => ⟨fun i => frozen_of_row W _ i _ _ hF, (cell_of_row W _ 0 _ _ _ hF).trans rfl, (cell_of_row W _ 1 _ _ _ hF).trans rfl, (cell_of_row W _ 2 _ _ _ hF).trans rfl⟩
  have HKS := Lib.hid KS
  have HKR := Lib.hid KR
  have HRR := Lib.hid RR
  clear KS KR RR
  subst hW0
  have hSd : w.heap.size + 1 < (((w.alloc (.cells #[.bool rn, .slice a rnum.length c, .slice b rden.length d] 88 (0, 0))).alloc (.cells #[.bool false, .slice none 0 0, .slice none 0 0] 88 (0, 0)))).drew.heap.size ∧ Blw w (((w.alloc (.cells #[.bool rn, .slice a rnum.length c, .slice b rden.length d] 88 (0, 0))).alloc (.cells #[.bool false, .slice none 0 0, .slice none 0 0] 88 (0, 0)))).drew ∧ (((w.alloc (.cells #[.bool rn, .slice a rnum.length c, .slice b rden.length d] 88 (0, 0))).alloc (.cells #[.bool false, .slice none 0 0, .slice none 0 0] 88 (0, 0)))).drew.cell? ⟨w.heap.size, 0, none⟩ = some (.bool rn) ∧ (((w.alloc (.cells #[.bool rn, .slice a rnum.length c, .slice b rden.length d] 88 (0, 0))).alloc (.cells #[.bool false, .slice none 0 0, .slice none 0 0] 88 (0, 0)))).drew.cell? ⟨w.heap.size, 1, none⟩ = some (.slice a rnum.length c) ∧ (((w.alloc (.cells #[.bool rn, .slice a rnum.length c, .slice b rden.length d] 88 (0, 0))).alloc (.cells #[.bool false, .slice none 0 0, .slice none 0 0] 88 (0, 0)))).drew.cell? ⟨w.heap.size, 2, none⟩ = some (.slice b rden.length d) := HKS.out _ _ hS0 ((Blw.refl _).drew)
  go_region_held3 (fun W => w.heap.size + 1 < W.heap.size ∧ Blw w W ∧ W.cell? ⟨w.heap.size, 0, none⟩ = some (.bool rn) ∧ W.cell? ⟨w.heap.size, 1, none⟩ = some (.slice a rnum.length c) ∧ W.cell? ⟨w.heap.size, 2, none⟩ = some (.slice b rden.length d)) (first | assumption | (exact HKS.out _ _ hS0 (((Blw.refl _).alloc _).drew)) | (exact HKS.out _ _ hS0 ((((Blw.refl _).alloc _).alloc _).drew)) | (exact HKS.out _ _ (by assumption) ((Blw.refl _).alloc _)) | (refine ⟨?_, blw_three (Blw.trans hb0 (by assumption)) (Nat.le_succ _) _ _ _, ?_, ?_, ?_⟩ <;> go_keep)) (first
    | (refine step_app ((w.alloc (.cells #[.bool rn, .slice a rnum.length c, .slice b rden.length d] 88 (0, 0))).alloc (.cells #[.bool false, .slice none 0 0, .slice none 0 0] 88 (0, 0))) _ (by rfl) _ _ 86 (by rfl) sl_words ?_ _ 0 [] (by rfl) (ownsRow_empty ?_ rfl ?_) a rnum.length c (u32s rnum) (by rfl) na (hA.blw ?_) hl1 (u32s_one _) (by unfold maxLen; omega) (by omega) ?_
       · (first | exact ((Blw.refl _).alloc _).drew | exact (((Blw.refl _).alloc _).alloc _).drew | exact Blw.alloc (by assumption) _ | assumption)
       · (first | (with_reducible refine at_drew (heap_alloc_at ?_); simp; done) | (with_reducible refine at_drew (at_alloc _ (heap_alloc_at ?_)); simp; done) | (with_reducible exact heap_alloc_at rfl) | (with_reducible refine heap_alloc_at ?_; simp; done) | (refine HD2.out _ ?_ _ ?_ <;> first | (with_reducible refine at_drew (heap_alloc_at ?_); simp; done) | (with_reducible refine at_drew (at_alloc _ (heap_alloc_at ?_)); simp; done) | (simp [Value.ownBlock]; done)))
       · (first | (simp; done) | (have hq := Blw.size b2; simp at hq; first | omega | (simp; omega)))
       · (first | exact ((Blw.refl _).alloc _).drew | exact (((Blw.refl _).alloc _).alloc _).drew | exact Blw.alloc (by assumption) _ | assumption)
       intro v1 w1 o1 b1 g1 t1
       rw [Nat.zero_add, List.nil_append] at o1
       obtain ⟨p1, q1, rfl, -, -, -, -, -⟩ := own_arr o1
       have hS1 := HKS.out _ _ hS0 b1
       have hRR1 := HRR.out _ (HKR.out _ _ hR0 b1)
       have HD1 := Lib.hid (fun (k : Nat) (hne : some k ≠ _) (x : Obj) (hk : _ = some x) => at_grown g1 hne hk))
    | (refine step_app ((w.alloc (.cells #[.bool rn, .slice a rnum.length c, .slice b rden.length d] 88 (0, 0))).alloc (.cells #[.bool false, .slice none 0 0, .slice none 0 0] 88 (0, 0))) _ (by rfl) _ _ 86 (by rfl) sl_words ?_ _ 0 [] (by rfl) (ownsRow_empty ?_ rfl ?_) b rden.length d (u32s rden) (by rfl) nb (hD.blw ?_) hl2 (u32s_one _) (by unfold maxLen; omega) (by omega) ?_
       · (first | exact ((Blw.refl _).alloc _).drew | exact (((Blw.refl _).alloc _).alloc _).drew | exact Blw.alloc (by assumption) _ | assumption)
       · (first | (with_reducible refine at_drew (heap_alloc_at ?_); simp; done) | (with_reducible refine at_drew (at_alloc _ (heap_alloc_at ?_)); simp; done) | (with_reducible exact heap_alloc_at rfl) | (with_reducible refine heap_alloc_at ?_; simp; done) | (refine HD1.out _ ?_ _ ?_ <;> first | (with_reducible refine at_drew (heap_alloc_at ?_); simp; done) | (with_reducible refine at_drew (at_alloc _ (heap_alloc_at ?_)); simp; done) | (simp [Value.ownBlock]; done)))
       · (first | (simp; done) | (have hq := Blw.size b1; simp at hq; first | omega | (simp; omega)))
       · (first | exact ((Blw.refl _).alloc _).drew | exact (((Blw.refl _).alloc _).alloc _).drew | exact Blw.alloc (by assumption) _ | assumption)
       intro v2 w2 o2 b2 g2 t2
       rw [Nat.zero_add, List.nil_append] at o2
       obtain ⟨p2, q2, rfl, -, -, -, -, -⟩ := own_arr o2
       have hS2 := HKS.out _ _ hS0 b2
       have hRR2 := HRR.out _ (HKR.out _ _ hR0 b2)
       have HD2 := Lib.hid (fun (k : Nat) (hne : some k ≠ _) (x : Obj) (hk : _ = some x) => at_grown g2 hne hk)))
  all_goals
    have hF2 := HKR.out _ _ hR0 b2
    obtain ⟨hfz, e0, e1, e2, r0, r1, r2⟩ := three hF2 (.bool rn) (.slice p1 rnum.length q1) (.slice p2 rden.length q2)
    have o12 : w2.ownsRow ((w.alloc (.cells #[.bool rn, .slice a rnum.length c, .slice b rden.length d] 88 (0, 0))).alloc (.cells #[.bool false, .slice none 0 0, .slice none 0 0] 88 (0, 0))).heap.size 135 1 (.slice p1 rnum.length q1) rnum.length (u32s rnum) := by
      first
      | (refine own_past o1 ((Blw.refl w1).alloc _) g2 ?_
         intro i hi e
         have h1 := World.ownsRow.lt o1 i hi
         simp [Value.ownBlock] at e
         omega)
      | (refine own_past o1 (Blw.refl w1) g2 ?_
         intro i hi e
         rw [hi] at t1
         simp [Value.ownBlock] at e t1
         omega)
    have hd : ∀ i, (Value.slice p1 rnum.length q1).ownBlock = some i → (Value.slice p2 rden.length q2).ownBlock ≠ some i := by
      intro i hi h2
      have hlt := World.ownsRow.lt o1 i hi
      rcases t2 with t | t
      · rw [h2] at t
        first
        | (simp [Value.ownBlock] at t; omega)
        | (rw [hi] at t1; simp [Value.ownBlock] at t t1; omega)
      · rw [h2] at t
        simp at t
        omega
    have hs3 : ((w.alloc (.cells #[.bool rn, .slice a rnum.length c, .slice b rden.length d] 88 (0, 0))).alloc (.cells #[.bool false, .slice none 0 0, .slice none 0 0] 88 (0, 0))).heap.size = w.heap.size + 2 := by simp
    rw [hs3] at o12 o2
    have hbw : Blw w w2 := Blw.trans hb0 b2
    clear hF2 hS1 hS2 hRR1 hRR2 HD1 HD2 t1 t2 g1 g2 b1 b2 o1 hS0 hSd HKS HKR HRR hR0 hB0 hA hD
    go_wp2_with fail
    exact bodyPost_ret (v := .agg #[.bool rn, .slice p1 rnum.length q1, .slice p2 rden.length q2]) (by simp [results, Try.results129, go_sem, r0, r1, r2]) rfl ⟨p1, q1, p2, q2, rfl, blw_three hbw (Nat.le_succ _) _ _ _, own_three o12 (Nat.lt_succ_self _) _ _ _ |> (ownsRow_mono · (by omega)), own_three o2 (Nat.lt_succ_self _) _ _ _ |> (ownsRow_mono · (by omega)), hd⟩
theorem waterCopied_any (r : Fr) (a : Option Addr) (c : Nat) (b : Option Addr) (d : Nat) (w : World) (h : FrA w r a c b d) (hr : r.Ok) :
    Calls Try.prog 129 #[frV r a c b d] w (RetFr1 w r) :=
  (waterCopied_anyD r a c b d w h hr).mono fun _ _ ⟨a, c, b, d, h1, h2, h3, h4, _⟩ => ⟨a, c, b, d, h1, h2, h3, h4⟩
end Go.Proofs.Ytigkfdoeneemeaa
/- Lists of words that lie apart. -/
namespace Go.Proofs.Ytigkfdoeneemeaa
open Go.RowKit

/-- A list of words and where it lies. -/
structure OW where
  a : Option Addr
  c : Nat
  l : List Nat
abbrev OW.val (o : OW) : Value := .slice o.a o.l.length o.c
abbrev ows (os : List OW) : List Value := os.map OW.val
/-- They lie in different blocks. -/
def OW.far (x y : OW) : Prop := ∀ i, x.val.ownBlock = some i → y.val.ownBlock ≠ some i
theorem OW.far.symm {x y : OW} (h : OW.far x y) : OW.far y x := fun i h1 h2 => h i h2 h1
def FL.ows (x : FL) : List OW := [⟨x.a, x.c, x.r.num⟩, ⟨x.b, x.d, x.r.den⟩]
/-- The words of fractions lie apart. -/
def apartF (l : List FL) : Prop := (l.flatMap FL.ows).Pairwise OW.far
theorem apartF_nil : apartF [] := List.Pairwise.nil
theorem apartF_app {l m : List FL} (h : apartF l) (k : apartF m) (hf : ∀ x ∈ l, ∀ y ∈ m, ∀ a ∈ x.ows, ∀ b ∈ y.ows, OW.far a b) : apartF (l ++ m) := by
  unfold apartF at *
  rw [List.flatMap_append, List.pairwise_append]
  refine ⟨h, k, fun a ha b hb => ?_⟩
  obtain ⟨x, hx, ha⟩ := List.mem_flatMap.1 ha
  obtain ⟨y, hy, hb⟩ := List.mem_flatMap.1 hb
  exact hf x hx y hy a ha b hb
theorem apartF_one {x : FL} (h : OW.far ⟨x.a, x.c, x.r.num⟩ ⟨x.b, x.d, x.r.den⟩) : apartF [x] := by
  unfold apartF
  simp only [List.flatMap_cons, List.flatMap_nil, List.append_nil, FL.ows]
  exact List.Pairwise.cons (fun b hb => by rw [List.mem_singleton] at hb; rw [hb]; exact h) (List.Pairwise.cons (fun b hb => by cases hb) List.Pairwise.nil)
/-- A row that was there, and one made later. -/
theorem far_new {w W : World} {B : Nat} {T : TypeId} {s n s2 n2 : Nat} {T2 : TypeId} {cs cs2 : List Value} {x y : OW} (h : w.ownsRow B T s x.val n cs) (k : W.ownsRow w.heap.size T2 s2 y.val n2 cs2) : OW.far x y := fun i h1 h2 => by
  have := (World.ownsRow.lt h i h1).2
  have := (World.ownsRow.lt k i h2).1
  omega
end Go.Proofs.Ytigkfdoeneemeaa
/- The walk of water.Of, of heights that may be. -/
namespace Go.Proofs.Ytigkfdoeneemeaa
open Go.RowKit

def fl0 : FL := ⟨⟨false, [], []⟩, none, 0, none, 0⟩
def rg (l : List FL) (i : Nat) : Fr := (l.getD i fl0).r
/-- How a height goes from the one ahead. -/
def sg (l : List FL) (i : Nat) : Int := cmpF (rg l i) (rg l (i - 1))
def wkey (l : List FL) (first : Int) (t : Nat × Nat × Bool) : Int × Int × Bool × Fr := (first + t.1, first + t.2.1, t.2.2, rg l t.1)
theorem rg_at {l : List FL} {i : Nat} {x : FL} (h : l[i]? = some x) : rg l i = x.r := by unfold rg; rw [List.getD_eq_getElem?_getD, h]; rfl

/-- The fraction's words lie in memory of the call's own. -/
def OwnFL (B : Nat) (w : World) (x : FL) : Prop :=
  w.ownsRow B 135 1 (.slice x.a x.r.num.length x.c) x.r.num.length (u32s x.r.num) ∧ w.ownsRow B 135 1 (.slice x.b x.r.den.length x.d) x.r.den.length (u32s x.r.den) ∧ W.WF x.r.num ∧ W.WF x.r.den
theorem OwnFL.blw {B : Nat} {w w' : World} {x : FL} (h : OwnFL B w x) (k : Blw w w') : OwnFL B w' x := ⟨ownsRow_blw h.1 k, ownsRow_blw h.2.1 k, h.2.2.1, h.2.2.2⟩
theorem OwnFL.in {B : Nat} {w : World} {x : FL} (h : OwnFL B w x) : FL.In w x := FrA.own h.1 h.2.1 h.2.2.1 h.2.2.2
/-- Rows of elements of different types lie in different blocks. -/
theorem own_types {w : World} {B B2 n n2 size size2 : Nat} {e e2 : TypeId} {v v2 : Value} {cs cs2 : List Value} (h : w.ownsRow B e size v n cs) (k : w.ownsRow B2 e2 size2 v2 n2 cs2) (hne : e ≠ e2) : ∀ i, v.ownBlock = some i → v2.ownBlock ≠ some i := by
  intro i h1 h2
  rcases h.2 with ⟨rfl, _⟩ | ⟨g, c, cur, rfl, _, hh, _⟩
  · cases h1
  · rcases k.2 with ⟨rfl, _⟩ | ⟨g2, c2, cur2, rfl, _, kk, _⟩
    · cases h2
    · simp [Value.ownBlock] at h1 h2
      rw [h1] at hh
      rw [h2, hh] at kk
      simp at kk
      exact hne kk.2
theorem OwnFL.past {B B2 n2 size2 : Nat} {e2 : TypeId} {w w' : World} {v2 : Value} {cs2 : List Value} {x : FL} (h : OwnFL B w x) (k : w.ownsRow B2 e2 size2 v2 n2 cs2) (hne : (135 : TypeId) ≠ e2) (hg : w.grownBy w' v2.ownBlock) : OwnFL B w' x :=
  ⟨own_past h.1 (Blw.refl w) hg (fun i hi => own_types h.1 k hne i hi), own_past h.2.1 (Blw.refl w) hg (fun i hi => own_types h.2.1 k hne i hi), h.2.2.1, h.2.2.2⟩

def OfOut (w : World) (l : List FL) (first : Int) (e : Ending) (w' : World) : Prop :=
  ∃ (out : List WL) (a : Option Addr) (c : Nat), e = .returned (.tuple #[.slice a out.length c, .int .i64 0]) ∧ Blw w w' ∧ w'.ownsRow w.heap.size 90 6 (.slice a out.length c) out.length (wls out) ∧ (∀ x ∈ out, OwnFL w.heap.size w' x.h) ∧
    out.map WL.key = (wats (sg l) l.length l.length).map (wkey l first)
/-- .. and the heights lie apart. -/
def OfOutD (w : World) (l : List FL) (first : Int) (e : Ending) (w' : World) : Prop :=
  ∃ (out : List WL) (a : Option Addr) (c : Nat), e = .returned (.tuple #[.slice a out.length c, .int .i64 0]) ∧ Blw w w' ∧ w'.ownsRow w.heap.size 90 6 (.slice a out.length c) out.length (wls out) ∧ (∀ x ∈ out, OwnFL w.heap.size w' x.h) ∧
    out.map WL.key = (wats (sg l) l.length l.length).map (wkey l first) ∧ apartF (out.map (·.h))
theorem sl_waters : SlT Try.prog 84 90 (.agg #[.int .i64 0, .int .i64 0, .bool false, .bool false, .slice none 0 0, .slice none 0 0]) 6 80 := ⟨Try.underlying84, by kernel_rfl, by kernel_rfl, by decide⟩
theorem cntd_zero {n : Nat} {first : Int} (h : cntd n first = 0) : n ≤ 4096 ∧ 0 ≤ first ∧ first ≤ 1048576 ∧ (0 < n → first + n ≤ 1048577) := by
  unfold cntd at h
  split at h
  · cases h
  · split at h
    · cases h
    · omega

set_option maxRecDepth 100000 in
set_option maxHeartbeats 8000000 in
theorem waterOf_okD (A : Option Addr) (l : List FL) (cap : Nat) (first : Int) (w : World) (hA : Arr w A (fls l)) (hin : ∀ x ∈ l, FL.In w x) (hok : ∀ x ∈ l, x.r.Ok) (hc : cntd l.length first = 0) :
    Calls Try.prog 76 #[.slice A l.length cap, .int .i64 first] w (OfOutD w l first) := by
  obtain ⟨hlen, hf0, hf1, hfn⟩ := cntd_zero hc
  have CN := fun W => counted_any l.length first W (by omega)
  rw [hc] at CN
  have HCN := Lib.hid CN
  have HIN := Lib.hid hin
  have HOK := Lib.hid hok
  clear CN hc hin hok
  go_enter Try.func76, Try.ntmps76
  go_wp2
  go_step3
  go_wp2_with (go_at_call 126; refine Calls.mono (HCN.out _) ?_; rintro e w1 ⟨rfl, rfl⟩)
  clear HCN
  go_loopw [24] (fun vi wr => ∃ k : Nat, k ≤ l.length ∧ vi = .int .i64 k ∧ Blw w1 wr) (fun i _ => l.length - (intOf i).toNat)
  case atStart => exact ⟨0, Nat.zero_le _, rfl, Blw.refl _⟩
  case round =>
    obtain ⟨k, hk, rfl, hb⟩ := hrel
    by_cases hlt : k < l.length
    · obtain ⟨x, b, o, hgk, hm, rfl, hbs, c0, c1, c2⟩ := fl_at (hA.blw hb) hlt
      have hx := (HIN.out x hm).blw hb
      have hck := fun W (hb : Blw wr W) => ratioCheck_any x.r x.a x.c x.b x.d W (FL.In.blw hx hb)
      rw [chkF_ok (HOK.out x hm)] at hck
      have HCK := Lib.hid hck
      clear hck hgk hm hx
      go_wp2_with fail
      refine Calls.mono (HCK.out _ (by repeat (first | exact Blw.refl _ | apply Blw.ext | apply Blw.alloc | apply Blw.drewN | apply Blw.drew | refine Blw.setCell ?_ _ _ (by simp)))) ?_
      rintro e w2 ⟨rfl, x2, rfl⟩
      go_wp2_with fail
      go_roundw
      case rel => exact ⟨k + 1, by omega, by go_num, (hb.alloc _).ext x2⟩
      case measure => simp [intOf]; omega
    · go_wp2
      go_step3
      go_wp2
      have hB0 := hb
      clear hlt hk hb
      go_loopg [10, 11] l.length (fun g vo vi wx => ∃ (i : Nat) (out : List WL) (a : Option Addr) (c : Nat), i + g = l.length + 1 ∧ (1 ≤ i ∧ (i ≤ l.length ∨ i = 1)) ∧ vi = .int .i64 i ∧ vo = .slice a out.length c ∧ wx.ownsRow w1.heap.size 90 6 (.slice a out.length c) out.length (wls out) ∧ (∀ x ∈ out, OwnFL w1.heap.size wx x.h) ∧
        Hid (out.map WL.key = (wats (sg l) l.length i).map (wkey l first)) ∧ out.length ≤ i ∧ Blw w1 wx ∧ Hid (apartF (out.map (·.h))))
      case atStart => exact ⟨1, [], none, 0, by omega, ⟨Nat.le_refl _, .inr rfl⟩, rfl, rfl, World.ownsRow_nil _ _ _ _, (fun x h => by simp at h), (by show _ = _; rw [wats_one]; rfl), by simp, hB0, apartF_nil⟩
      case round =>
        obtain ⟨i, out, a, c, hig, ⟨h1, h1'⟩, rfl, rfl, hown, hio, hkey, hol, hbx, hapt⟩ := hrel
        clear hB0
        have HIO := Lib.hid hio
        clear hio
        by_cases hlt : i < l.length
        · obtain ⟨j, rfl⟩ : ∃ j, i = j + 1 := ⟨i - 1, by omega⟩
          obtain ⟨g, rfl⟩ : ∃ g, gk = g + 1 := ⟨gk - 1, by omega⟩
          obtain ⟨x, b, o, hgx, hmx, rfl, hbs, c0, c1, c2⟩ := fl_at (k := j) (hA.blw hbx) (by omega)
          obtain ⟨y, b', o', hgy, hmy, e', -, d0, d1, d2⟩ := fl_at (k := j + 1) (hA.blw hbx) hlt
          simp only [Option.some.injEq, Addr.mk.injEq] at e'
          obtain ⟨rfl, rfl, -⟩ := e'
          obtain ⟨S, hS⟩ : ∃ S, S = sg l (j + 1) := ⟨_, rfl⟩
          have hSv : cmpF y.r x.r = S := by rw [hS]; unfold sg; rw [rg_at hgy, Nat.add_sub_cancel, rg_at hgx]
          have FR := fun W (hb : Blw wr W) => from_ok x y W (((HIN.out x hmx).blw hbx).blw hb) (((HIN.out y hmy).blw hbx).blw hb) (HOK.out x hmx) (HOK.out y hmy)
          rw [hSv] at FR
          have HFR := Lib.hid FR
          have CP := fun W (hb : Blw wr W) => waterCopied_anyD y.r y.a y.c y.b y.d W (FrA.blw ((HIN.out y hmy).blw hbx) hb) (HOK.out y hmy)
          have HCP := Lib.hid CP
          have HRY := Lib.hid (rg_at hgy)
          have HGY := Lib.hid hgy
          have HWY := Lib.hid ((HIN.out y hmy).wn)
          have HWZ := Lib.hid ((HIN.out y hmy).wd)
          have HS := Lib.hid hS
          clear FR CP hSv hS hgx hgy hmx hmy
          have i0 : (0 : Int) ≤ (j : Int) := by omega
          have i1 : (j : Int) < (l.length : Int) := by omega
          have i2 : (0 : Int) ≤ (j : Int) + 1 := by omega
          have i3 : (j : Int) + 1 < (l.length : Int) := by omega
          have i4 : IntKind.i64.wrap (j : Int) = (j : Int) := by rw [IntKind.wrap_i64]; omega
          have i5 : ((j : Int) + 1).toNat = j + 1 := by omega
          go_wp2_with fail
          refine wp_region_ext_lit (by kernel_rfl) (by kernel_rfl) ?_
          repeat (quiet_step ((go_at_call 128; exact Calls.ext_of (HFR.out _ (by repeat (first | exact Blw.refl _ | apply Blw.ext | apply Blw.alloc | apply Blw.drewN | apply Blw.drew | refine Blw.setCell ?_ _ _ (by simp)))))))
          refine wpQuiet_nil ?_
          rintro _ ⟨z, rfl⟩
          clear HFR c0 c1 c2 d0 d1 d2
          by_cases s0 : S = 0
          · have HK : Hid (out.map WL.key = (wats (sg l) l.length (j + 1 + 1)).map (wkey l first)) := by
              show _ = _
              rw [wats_none (wat_zero (HS.out.symm.trans s0))]; exact hkey.out
            subst s0
            have HIO2 := Lib.hid (fun x hx => (HIO.out x hx).blw (World.blw_ext wr z))
            go_wp2
            go_roundg g
            case measure => omega
            case rel => exact ⟨j + 1 + 1, out, a, c, by omega, ⟨by omega, .inl (by omega)⟩, by go_num, rfl, ownsRow_blw hown (World.blw_ext _ z), HIO2.out, HK, by omega, hbx.ext z, hapt⟩
          · have q0 : (S == 0) = false := by simpa using s0
            have hown2 := ownsRow_blw hown (World.blw_ext wr z)
            have HIO2 := Lib.hid (fun x hx => (HIO.out x hx).blw (World.blw_ext wr z))
            have hb2 := hbx.ext z
            have HCP2 := Lib.hid (fun W (hb : Blw (wr.ext z) W) => HCP.out W ((World.blw_ext wr z).trans hb))
            clear HCP HIO hown
            go_wp2_with fail
            go_loopg [10, 13] (l.length - (j + 2)) (fun g2 vo vk wy => ∃ k : Nat, vo = .slice a out.length c ∧ k + g2 = l.length ∧ j + 2 ≤ k ∧ vk = .int .i64 k ∧ Hid (nextS (sg l) l.length (j + 1 + 1) = nextS (sg l) l.length k) ∧ Blw (wr.ext z) wy)
            case atStart => exact ⟨j + 2, rfl, by omega, Nat.le_refl _, by go_num, rfl, Blw.refl _⟩
            case round =>
              obtain ⟨k, rfl, hkg, hk1, rfl, hnx, hby⟩ := hrel
              by_cases hlt2 : k < l.length
              · obtain ⟨m, rfl⟩ : ∃ m, k = m + 1 := ⟨k - 1, by omega⟩
                obtain ⟨g3, rfl⟩ : ∃ g3, gk = g3 + 1 := ⟨gk - 1, by omega⟩
                have hbw := hb2.trans hby
                obtain ⟨u, b2, o2, hgu, hmu, e2, hbs2, c0, c1, c2⟩ := fl_at (k := m) (hA.blw hbw) (by omega)
                obtain ⟨v, b3, o3, hgv, hmv, e3, -, d0, d1, d2⟩ := fl_at (k := m + 1) (hA.blw hbw) hlt2
                simp only [Option.some.injEq, Addr.mk.injEq] at e2 e3
                obtain ⟨rfl, rfl, -⟩ := e2
                obtain ⟨rfl, rfl, -⟩ := e3
                obtain ⟨S2, hS2⟩ : ∃ S2, S2 = sg l (m + 1) := ⟨_, rfl⟩
                have hSv : cmpF v.r u.r = S2 := by rw [hS2]; unfold sg; rw [rg_at hgv, Nat.add_sub_cancel, rg_at hgu]
                have FR := fun W (hb : Blw wr W) => from_ok u v W (((HIN.out u hmu).blw hbw).blw hb) (((HIN.out v hmv).blw hbw).blw hb) (HOK.out u hmu) (HOK.out v hmv)
                rw [hSv] at FR
                have HFR := Lib.hid FR
                have HS2 := Lib.hid hS2
                clear FR hSv hS2 hgu hgv hmu hmv
                have j0 : (0 : Int) ≤ (m : Int) := by omega
                have j1 : (m : Int) < (l.length : Int) := by omega
                have j2 : (0 : Int) ≤ (m : Int) + 1 := by omega
                have j3 : (m : Int) + 1 < (l.length : Int) := by omega
                have j4 : IntKind.i64.wrap (m : Int) = (m : Int) := by rw [IntKind.wrap_i64]; omega
                have j5 : ((m : Int) + 1).toNat = m + 1 := by omega
                go_wp2_with fail
                refine wp_region_ext_lit (by kernel_rfl) (by kernel_rfl) ?_
                repeat (quiet_step ((go_at_call 128; exact Calls.ext_of (HFR.out _ (by repeat (first | exact Blw.refl _ | apply Blw.ext | apply Blw.alloc | apply Blw.drewN | apply Blw.drew | refine Blw.setCell ?_ _ _ (by simp)))))))
                refine wpQuiet_nil ?_
                rintro _ ⟨z2, rfl⟩
                clear HFR c0 c1 c2 d0 d1 d2
                by_cases s2 : S2 = 0
                · have HN : Hid (nextS (sg l) l.length (j + 1 + 1) = nextS (sg l) l.length (m + 1 + 1)) := by
                    show _ = _
                    rw [hnx.out, nextS_on hlt2 (HS2.out.symm.trans s2)]
                  subst s2
                  go_wp2
                  go_roundg g3
                  case measure => omega
                  case rel => exact ⟨m + 1 + 1, rfl, by omega, by omega, by go_num, HN, hby.ext z2⟩
                · have q2 : (S2 == 0) = false := by simpa using s2
                  have HNX : Hid (nextS (sg l) l.length (j + 1 + 1) = some (m + 1)) := by
                    show _ = _
                    rw [hnx.out, nextS_at hlt2 (fun h => s2 (HS2.out.trans h))]
                  have hb5 := hb2.trans (hby.ext z2)
                  have hown5 := ownsRow_blw hown2 (hby.ext z2)
                  have HIO5 := Lib.hid (fun x hx => (HIO2.out x hx).blw (hby.ext z2))
                  by_cases s3 : S2 = S
                  · have HK : Hid (out.map WL.key = (wats (sg l) l.length (j + 1 + 1)).map (wkey l first)) := by
                      show _ = _
                      rw [wats_none (wat_same (by omega) (fun h => s0 (HS.out.trans h)) HNX.out (by rw [← HS.out, ← HS2.out]; exact s3))]; exact hkey.out
                    have q3 : (S2 != S) = false := by simpa using s3
                    clear hown2 hb2 s3
                    go_wp2_with fail
                    go_roundg g
                    case measure => omega
                    case rel => exact ⟨j + 1 + 1, out, a, c, by omega, ⟨by omega, .inl (by omega)⟩, by go_num, rfl, hown5, HIO5.out, HK, by omega, hb5, hapt⟩
                  · have q3 : (S2 != S) = true := by simpa using s3
                    have HW : Hid (wats (sg l) l.length (j + 1 + 1) = wats (sg l) l.length (j + 1) ++ [(j + 1, m, S == 1)]) := by
                      show _ = _
                      rw [wats_some (wat_turn (by omega) (fun h => s0 (HS.out.trans h)) HNX.out (by rw [← HS.out, ← HS2.out]; exact s3)), ← HS.out]; rfl
                    clear hown2 hb2
                    obtain ⟨y', b4, o4, hgy', -, e4, -, c0, c1, c2⟩ := fl_at (k := j + 1) (hA.blw hb5) hlt
                    simp only [Option.some.injEq, Addr.mk.injEq] at e4
                    obtain ⟨rfl, rfl, -⟩ := e4
                    obtain rfl : y = y' := by have := HGY.out.symm.trans hgy'; simpa using this
                    clear hgy'
                    have f1 : IntKind.i64.wrap (first + ((j : Int) + 1)) = first + ((j : Int) + 1) := by rw [IntKind.wrap_i64]; omega
                    have f2 : IntKind.i64.wrap (first + ((m : Int) + 1)) = first + ((m : Int) + 1) := by rw [IntKind.wrap_i64]; omega
                    have f3 : IntKind.i64.wrap (first + ((m : Int) + 1) - 1) = first + (m : Int) := by rw [IntKind.wrap_i64]; omega
                    go_wp2_with fail
                    refine Calls.mono (HCP2.out _ (hby.ext z2)) ?_
                    rintro e w5 ⟨p1, q1, p2, q2, rfl, hb6, oX, oY, hdXY⟩
                    have HAP : Hid (apartF ((out ++ [(⟨first + ((j : Int) + 1), first + (m : Int), S == 1, ⟨y.r, p1, q1, p2, q2⟩⟩ : WL)]).map (·.h))) := by
                      show apartF _
                      rw [List.map_append]
                      refine apartF_app hapt.out (apartF_one hdXY) ?_
                      intro x hx y' hy' a ha b hb
                      obtain ⟨x0, hx0, rfl⟩ := List.mem_map.1 hx
                      have hio0 := HIO5.out x0 hx0
                      simp only [List.map_cons, List.map_nil, List.mem_singleton] at hy'
                      subst hy'
                      simp only [FL.ows, List.mem_cons, List.mem_nil_iff, or_false] at ha hb
                      rcases ha with rfl | rfl <;> rcases hb with rfl | rfl
                      · exact far_new (x := ⟨x0.h.a, x0.h.c, x0.h.r.num⟩) (y := ⟨p1, q1, y.r.num⟩) hio0.1 oX
                      · exact far_new (x := ⟨x0.h.a, x0.h.c, x0.h.r.num⟩) (y := ⟨p2, q2, y.r.den⟩) hio0.1 oY
                      · exact far_new (x := ⟨x0.h.b, x0.h.d, x0.h.r.den⟩) (y := ⟨p1, q1, y.r.num⟩) hio0.2.1 oX
                      · exact far_new (x := ⟨x0.h.b, x0.h.d, x0.h.r.den⟩) (y := ⟨p2, q2, y.r.den⟩) hio0.2.1 oY
                    have oX5 := ownsRow_mono oX hb5.size
                    have oY5 := ownsRow_mono oY hb5.size
                    have hown6 := ownsRow_blw hown5 hb6
                    have HIO6 := Lib.hid (fun x hx => (HIO5.out x hx).blw hb6)
                    have hb8 := hb5.trans hb6
                    have HL := Lib.hid (cells_len WL.cells 6 (fun _ => rfl) out)
                    clear oX oY hown5 HIO5
                    go_wp2_with (at_builtin; refine wpList_app w1 _ rfl _ _ 84 rfl sl_waters (hb8.alloc _) _ out.length _ rfl (ownsRow_blw hown6 ((Blw.refl _).alloc _)) _ 1 1 [.int .i64 (first + ((j : Int) + 1)), .int .i64 (first + (m : Int)), .bool (S == 1), .bool y.r.neg, .slice p1 y.r.num.length q1, .slice p2 y.r.den.length q2] rfl (by simp) (Arr.lit _ _ _ _) (by simp) (by simp [Value.oneCell']) (by unfold maxLen; omega) (by omega) ?_; intro v7 w7 hown7 hb7 hg7 _)
                    obtain ⟨a7, c7, rfl, -, -, -, -, -⟩ := own_arr hown7
                    have HK : Hid ((out ++ [(⟨first + ((j : Int) + 1), first + (m : Int), S == 1, ⟨y.r, p1, q1, p2, q2⟩⟩ : WL)]).map WL.key = (wats (sg l) l.length (j + 1 + 1)).map (wkey l first)) := by
                      show _ = _
                      rw [HW.out, List.map_append, List.map_append, hkey.out]
                      simp [WL.key, wkey, HRY.out]
                    have HO : Hid (∀ x ∈ out ++ [(⟨first + ((j : Int) + 1), first + (m : Int), S == 1, ⟨y.r, p1, q1, p2, q2⟩⟩ : WL)], OwnFL w1.heap.size w7 x.h) := by
                      intro x hx
                      rw [List.mem_append, List.mem_singleton] at hx
                      rcases hx with hx | rfl
                      · exact OwnFL.past ((HIO6.out x hx).blw ((Blw.refl _).alloc _)) (ownsRow_blw hown6 ((Blw.refl _).alloc _)) (by decide) hg7
                      · exact OwnFL.past (OwnFL.blw ⟨oX5, oY5, HWY.out, HWZ.out⟩ ((Blw.refl _).alloc _)) (ownsRow_blw hown6 ((Blw.refl _).alloc _)) (by decide) hg7
                    have HWL : w7.ownsRow w1.heap.size 90 6 (.slice a7 (out ++ [(⟨first + ((j : Int) + 1), first + (m : Int), S == 1, ⟨y.r, p1, q1, p2, q2⟩⟩ : WL)]).length c7) (out ++ [(⟨first + ((j : Int) + 1), first + (m : Int), S == 1, ⟨y.r, p1, q1, p2, q2⟩⟩ : WL)]).length (wls (out ++ [(⟨first + ((j : Int) + 1), first + (m : Int), S == 1, ⟨y.r, p1, q1, p2, q2⟩⟩ : WL)])) := by
                      have e : wls (out ++ [(⟨first + ((j : Int) + 1), first + (m : Int), S == 1, ⟨y.r, p1, q1, p2, q2⟩⟩ : WL)]) = wls out ++ [.int .i64 (first + ((j : Int) + 1)), .int .i64 (first + (m : Int)), .bool (S == 1), .bool y.r.neg, .slice p1 y.r.num.length q1, .slice p2 y.r.den.length q2] := by
                        rw [wls, List.flatMap_append]; rfl
                      rw [e, List.length_append]
                      exact hown7
                    have HOL := Lib.hid HWL
                    clear hown7 HWL hg7
                    go_roundg g
                    case measure => omega
                    case rel => exact ⟨j + 1 + 1, _, a7, c7, by omega, ⟨by omega, .inl (by omega)⟩, by go_num, (by rw [List.length_append]; rfl), HOL.out, HO.out, HK, (by rw [List.length_append]; simp; omega), hb7, HAP⟩
              · have HK : Hid (out.map WL.key = (wats (sg l) l.length (j + 1 + 1)).map (wkey l first)) := by
                  show _ = _
                  rw [wats_none (wat_out (by omega) (fun h => s0 (HS.out.trans h)) (by rw [hnx.out, nextS_out hlt2]))]; exact hkey.out
                have hown5 := ownsRow_blw hown2 hby
                have HIO5 := Lib.hid (fun x hx => (HIO2.out x hx).blw hby)
                have hb5 := hb2.trans hby
                clear hown2 hb2
                go_wp2_with fail
                go_roundg g
                case measure => omega
                case rel => exact ⟨j + 1 + 1, out, a, c, by omega, ⟨by omega, .inl (by omega)⟩, by go_num, rfl, hown5, HIO5.out, HK, by omega, hb5, hapt⟩
        · have hlast : wats (sg l) l.length i = wats (sg l) l.length l.length := by
            rcases Nat.lt_or_ge 0 l.length with h | h
            · rw [show i = l.length by omega]
            · have h0 : l.length = 0 := by omega
              have hi1 : i = 1 := by omega
              rw [hi1, wats_one, h0]; rfl
          have HK := Lib.hid (hkey.out.trans (by rw [hlast]))
          clear hlast hkey
          go_wp2
          try rw [Exit.noGoto_ret]
          go_ret2
          exact ⟨out, a, c, rfl, hbx, hown, HIO.out, HK.out, hapt.out⟩
theorem waterOf_ok (A : Option Addr) (l : List FL) (cap : Nat) (first : Int) (w : World) (hA : Arr w A (fls l)) (hin : ∀ x ∈ l, FL.In w x) (hok : ∀ x ∈ l, x.r.Ok) (hc : cntd l.length first = 0) :
    Calls Try.prog 76 #[.slice A l.length cap, .int .i64 first] w (OfOut w l first) :=
  (waterOf_okD A l cap first w hA hin hok hc).mono fun _ _ ⟨out, a, c, h1, h2, h3, h4, h5, _⟩ => ⟨out, a, c, h1, h2, h3, h4, h5⟩
end Go.Proofs.Ytigkfdoeneemeaa
/- Floats: what the model's operations on float64 give, NaN included, as functions of the operands' bits and the world; plain facts on the words. -/
namespace Go.Proofs.Ytigkfdoeneemeaa.Fl
open Go Ieee

/-- The bits of a float operation's result in a world. -/
def fop (op : BinOp) (x y : Nat) (w : World) : Nat :=
  match floatBits op .f64 x y with
  | some r => r
  | none => (Question.nanBits .f64 x y).cut (w.tape w.drawn (.nanBits .f64 x y))

/-- How many draws the operation makes. -/
def fdr (op : BinOp) (x y : Nat) : Nat := match floatBits op .f64 x y with | some _ => 0 | none => 1

section
variable {P : Program} (w : World)
theorem run_fop (op : BinOp) (h : op = .add ∨ op = .sub ∨ op = .mul ∨ op = .quo) (t : TypeId) (x y : Nat) :
    (binOp op t (.float .f64 x) (.float .f64 y)).run P w = .ok (.float .f64 (fop op x y w)) (w.drewN (fdr op x y)) := by
  cases e : floatBits op .f64 x y with
  | some r =>
    rw [run_float_arith w op t .f64 x y r e]
    simp only [fop, fdr, e]; rfl
  | none =>
    simp only [fop, fdr, e]
    rcases h with rfl | rfl | rfl | rfl <;>
      (unfold floatBits at e; simp only at e; simp [binOp, Op.floatArith, e, Question.forced]; rfl)
@[go_sem] theorem run_fadd (t : TypeId) (x y : Nat) : (binOp .add t (.float .f64 x) (.float .f64 y)).run P w = .ok (.float .f64 (fop .add x y w)) (w.drewN (fdr .add x y)) := run_fop w .add (by simp) t x y
@[go_sem] theorem run_fsub (t : TypeId) (x y : Nat) : (binOp .sub t (.float .f64 x) (.float .f64 y)).run P w = .ok (.float .f64 (fop .sub x y w)) (w.drewN (fdr .sub x y)) := run_fop w .sub (by simp) t x y
@[go_sem] theorem run_fmul (t : TypeId) (x y : Nat) : (binOp .mul t (.float .f64 x) (.float .f64 y)).run P w = .ok (.float .f64 (fop .mul x y w)) (w.drewN (fdr .mul x y)) := run_fop w .mul (by simp) t x y
@[go_sem] theorem run_fquo (t : TypeId) (x y : Nat) : (binOp .quo t (.float .f64 x) (.float .f64 y)).run P w = .ok (.float .f64 (fop .quo x y w)) (w.drewN (fdr .quo x y)) := run_fop w .quo (by simp) t x y
@[go_sem] theorem run_store_float (a : Addr) (x : Nat) (m : Mode) : (store a (.float .f64 x) m).run P w = stored P w a (.float .f64 x) m := run_store P w a _ m rfl
@[go_sem] theorem run_store_complex (a : Addr) (x y : Nat) (m : Mode) : (store a (.complex .f64 x y) m).run P w = stored P w a (.complex .f64 x y) m := run_store P w a _ m rfl
@[go_sem] theorem unary_neg_float (x : Nat) : Op.unary .neg (.float .f64 x) = pure (.float .f64 (Op.negFloat .f64 x)) := rfl
end

/-- The rung of infinity of a double. -/
def infR : Nat := 9218868437227405312
def isNaN (x : Nat) : Bool := decide (infR < x % 2 ^ 63)
def isInf (x : Nat) : Bool := decide (x % 2 ^ 63 = infR)
def isFin (x : Nat) : Bool := decide (x % 2 ^ 63 < infR)
def fneg (x : Nat) : Bool := decide (x / 2 ^ 63 % 2 = 1)
/-- A finite double is 'mag * 2 ^ (place - 1074)'. -/
def mag (x : Nat) : Nat := if x % 2 ^ 63 < 2 ^ 52 then x % 2 ^ 63 else 2 ^ 52 + x % 2 ^ 52
def plc (x : Nat) : Nat := x % 2 ^ 63 / 2 ^ 52 - 1

theorem read_eq (x : Nat) : double.read x =
    if x % 2 ^ 63 < 2 ^ 52 then .number (x / 2 ^ 63 % 2 == 1) (x % 2 ^ 63) (-1074)
    else if x % 2 ^ 63 < infR then .number (x / 2 ^ 63 % 2 == 1) (2 ^ 52 + x % 2 ^ 63 % 2 ^ 52) (-1074 + ((x % 2 ^ 63 / 2 ^ 52 - 1 : Nat) : Int))
    else if x % 2 ^ 63 = infR then .infinity (x / 2 ^ 63 % 2 == 1)
    else .nan (x / 2 ^ 63 % 2 == 1) (x % 2 ^ 63 - infR) := rfl

theorem read_fin (x : Nat) (h : isFin x = true) : double.read x = .number (fneg x) (mag x) (-1074 + (plc x : Int)) := by
  have h' : x % 2 ^ 63 < infR := by simpa [isFin] using h
  rw [read_eq]
  have es : (x / 2 ^ 63 % 2 == 1) = fneg x := by unfold fneg; rw [Bool.eq_iff_iff]; simp
  rw [es]
  by_cases c : x % 2 ^ 63 < 2 ^ 52
  · rw [if_pos c]
    unfold mag plc
    rw [if_pos c]
    have : x % 2 ^ 63 / 2 ^ 52 - 1 = 0 := by omega
    rw [this]; rfl
  · rw [if_neg c, if_pos h']
    unfold mag plc
    rw [if_neg c]
    congr 2
    omega
theorem read_inf (x : Nat) (h : isInf x = true) : double.read x = .infinity (fneg x) := by
  have h' : x % 2 ^ 63 = infR := by simpa [isInf] using h
  rw [read_eq]
  have es : (x / 2 ^ 63 % 2 == 1) = fneg x := by unfold fneg; rw [Bool.eq_iff_iff]; simp
  rw [es, h', if_neg (by decide), if_neg (by decide), if_pos rfl]
theorem read_nan (x : Nat) (h : isNaN x = true) : ∃ s t, double.read x = .nan s t := by
  have h' : infR < x % 2 ^ 63 := by simpa [isNaN] using h
  rw [read_eq]
  have : ¬ x % 2 ^ 63 < 2 ^ 52 := by unfold infR at h'; omega
  rw [if_neg this, if_neg (by omega), if_neg (by omega)]
  exact ⟨_, _, rfl⟩
theorem tri (x : Nat) : isFin x = true ∨ isInf x = true ∨ isNaN x = true := by
  simp only [isFin, isInf, isNaN, decide_eq_true_eq]; omega
theorem fin_not (x : Nat) : isFin x = !(isInf x || isNaN x) := by
  rw [Bool.eq_iff_iff]; simp only [isFin, isInf, isNaN]; simp; omega

theorem cut_nan (x y t : Nat) : isNaN ((Question.nanBits .f64 x y).cut t) = true := by
  unfold Question.cut isNaN infR
  simp only [decide_eq_true_eq]
  have h1 : t / 2 % (2 ^ 52 - 1) < 2 ^ 52 - 1 := Nat.mod_lt _ (by decide)
  generalize t / 2 % (2 ^ 52 - 1) = k at *
  rcases (by omega : t % 2 = 0 ∨ t % 2 = 1) with e | e <;> rw [e] <;> omega
theorem cut_lt (x y t : Nat) : (Question.nanBits .f64 x y).cut t < 2 ^ 64 := by
  unfold Question.cut
  simp only
  have h1 : t / 2 % (2 ^ 52 - 1) < 2 ^ 52 - 1 := Nat.mod_lt _ (by decide)
  generalize t / 2 % (2 ^ 52 - 1) = k at *
  rcases (by omega : t % 2 = 0 ∨ t % 2 = 1) with e | e <;> rw [e] <;> omega

theorem fop_some {op : BinOp} {x y r : Nat} (h : floatBits op .f64 x y = some r) (w : World) : fop op x y w = r := by simp [fop, h]
theorem fop_none {op : BinOp} {x y : Nat} (h : floatBits op .f64 x y = none) (w : World) : isNaN (fop op x y w) = true := by
  simp only [fop, h]; exact cut_nan _ _ _
theorem fop_lt (op : BinOp) (x y : Nat) (w : World) : fop op x y w < 2 ^ 64 := by
  cases h : floatBits op .f64 x y with
  | some r => rw [fop_some h]; have := floatBits_wf h; simpa [Lit.wf] using this
  | none => simp only [fop, h]; exact cut_lt _ _ _

/-- Two words are the same, or both NaN: what a deterministic program may be sure of. -/
def same (x y : Nat) : Prop := x = y ∨ (isNaN x = true ∧ isNaN y = true)
theorem same.refl (x : Nat) : same x x := .inl rfl
theorem same.symm {x y : Nat} (h : same x y) : same y x := by
  rcases h with rfl | ⟨a, b⟩
  · exact .inl rfl
  · exact .inr ⟨b, a⟩
theorem same.trans {x y z : Nat} (h : same x y) (k : same y z) : same x z := by
  rcases h with rfl | ⟨a, b⟩
  · exact k
  · rcases k with rfl | ⟨c, d⟩
    · exact .inr ⟨a, b⟩
    · exact .inr ⟨a, d⟩

abbrev ord (x y : Nat) : Option Ordering := double.order x y
theorem ord_nan_left {x : Nat} (h : isNaN x = true) (y : Nat) : ord x y = none := by
  obtain ⟨s, t, e⟩ := read_nan x h
  simp [ord, Format.order, e, Datum.order]
theorem ord_nan_right {y : Nat} (h : isNaN y = true) (x : Nat) : ord x y = none := by
  obtain ⟨s, t, e⟩ := read_nan y h
  simp only [ord, Format.order, e]
  cases double.read x <;> rfl
theorem ord_self {x : Nat} (h : isNaN x = false) : ord x x = some .eq := by
  rcases tri x with f | i | n
  · simp [ord, Format.order, read_fin x f, Datum.order]
  · simp [ord, Format.order, read_inf x i, Datum.order]
  · simp [n] at h
theorem ord_self_eq (x : Nat) : (ord x x == some .eq) = !isNaN x := by
  cases h : isNaN x
  · rw [ord_self h]; rfl
  · rw [ord_nan_left h]; rfl
theorem ord_self_ne (x : Nat) : (ord x x != some .eq) = isNaN x := by
  cases h : isNaN x
  · rw [ord_self h]; rfl
  · rw [ord_nan_left h]; rfl
theorem same.ord {x y u v : Nat} (h : same x y) (k : same u v) : ord x u = ord y v := by
  rcases h with rfl | ⟨a, b⟩
  · rcases k with rfl | ⟨c, d⟩
    · rfl
    · rw [ord_nan_right c, ord_nan_right d]
  · rw [ord_nan_left a, ord_nan_left b]

theorem bits_nan {op : BinOp} (h : op = .add ∨ op = .sub ∨ op = .mul ∨ op = .quo) (x y : Nat) (n : isNaN x = true ∨ isNaN y = true) : floatBits op .f64 x y = none := by
  rcases n with n | n
  · obtain ⟨s, t, e⟩ := read_nan _ n
    rcases h with rfl | rfl | rfl | rfl <;> simp [floatBits, FloatKind.format, Format.add, Format.sub, Format.mul, Format.div, e, Datum.sum, Datum.product, Datum.quotient]
  · obtain ⟨s, t, e⟩ := read_nan _ n
    rcases h with rfl | rfl | rfl | rfl <;> simp only [floatBits, FloatKind.format, Format.add, Format.sub, Format.mul, Format.div, e] <;> cases double.read x <;> simp [Datum.sum, Datum.product, Datum.quotient, Datum.opposite]
theorem same.fop {op : BinOp} (h : op = .add ∨ op = .sub ∨ op = .mul ∨ op = .quo) {x y u v : Nat} (hx : same x u) (hy : same y v) (w w' : World) : same (fop op x y w) (fop op u v w') := by
  rcases hx with rfl | ⟨a, b⟩
  · rcases hy with rfl | ⟨c, d⟩
    · cases e : floatBits op .f64 x y with
      | some r => rw [fop_some e, fop_some e]; exact .inl rfl
      | none => exact .inr ⟨fop_none e w, fop_none e w'⟩
    · exact .inr ⟨fop_none (bits_nan h _ _ (.inr c)) w, fop_none (bits_nan h _ _ (.inr d)) w'⟩
  · exact .inr ⟨fop_none (bits_nan h _ _ (.inl a)) w, fop_none (bits_nan h _ _ (.inl b)) w'⟩
theorem same_add {x y u v : Nat} (hx : same x u) (hy : same y v) (w w' : World) : same (Fl.fop .add x y w) (Fl.fop .add u v w') := same.fop (by simp) hx hy w w'
theorem same_sub {x y u v : Nat} (hx : same x u) (hy : same y v) (w w' : World) : same (Fl.fop .sub x y w) (Fl.fop .sub u v w') := same.fop (by simp) hx hy w w'
theorem same_mul {x y u v : Nat} (hx : same x u) (hy : same y v) (w w' : World) : same (Fl.fop .mul x y w) (Fl.fop .mul u v w') := same.fop (by simp) hx hy w w'
theorem same_quo {x y u v : Nat} (hx : same x u) (hy : same y v) (w w' : World) : same (Fl.fop .quo x y w) (Fl.fop .quo u v w') := same.fop (by simp) hx hy w w'

end Go.Proofs.Ytigkfdoeneemeaa.Fl
/- The bodyless functions of package math that the program calls: what each call runs to. -/
namespace Go.Proofs.Ytigkfdoeneemeaa
open Go.RowKit

@[go_sem] theorem call_frombits (n : Int) (w : World) : (callFunc 15 #[.int .u64 n]).run Try.prog w = .ok (.value (.float .f64 n.toNat)) w := by
  rw [run_callFunc_extern (fn := Try.f15) (e := Extern.MathFloatBits.float64frombits) (by kernel_rfl) (by kernel_rfl) (by kernel_rfl) (by kernel_rfl) (by kernel_rfl)]; rfl
@[go_sem] theorem call_bits (n : Nat) (w : World) : (callFunc 107 #[.float .f64 n]).run Try.prog w = .ok (.value (.int .u64 n)) w := by
  rw [run_callFunc_extern (fn := Try.f107) (e := Extern.MathFloatBits.float64bits) (by kernel_rfl) (by kernel_rfl) (by kernel_rfl) (by kernel_rfl) (by kernel_rfl)]; rfl
end Go.Proofs.Ytigkfdoeneemeaa
/- Doubles as numbers: a finite double is a whole number of units 2^-1074; the order of floats is the order of these numbers; among sizes it is the order of the words. -/
namespace Go.Proofs.Ytigkfdoeneemeaa.Fl
open Go Ieee

/-- The size of a finite double in units of 2^-1074. -/
def V (x : Nat) : Nat := mag x * 2 ^ plc x
def Sv (x : Nat) : Int := if fneg x then -(V x : Int) else (V x : Int)

theorem V_mod (x : Nat) : V (x % 2 ^ 63) = V x := by
  unfold V mag plc
  have e1 : x % 2 ^ 63 % 2 ^ 63 = x % 2 ^ 63 := Nat.mod_mod _ _
  have e2 : x % 2 ^ 63 % 2 ^ 52 = x % 2 ^ 52 := by omega
  rw [e1, e2]

theorem V_small {r : Nat} (h : r < 2 ^ 52) : V r = r := by
  unfold V mag plc
  have e1 : r % 2 ^ 63 = r := by omega
  rw [e1, if_pos h]
  have : r / 2 ^ 52 - 1 = 0 := by omega
  rw [this]; simp
theorem V_big {r : Nat} (h : 2 ^ 52 ≤ r) (h2 : r < 2 ^ 63) : V r = (2 ^ 52 + r % 2 ^ 52) * 2 ^ (r / 2 ^ 52 - 1) := by
  unfold V mag plc
  have e1 : r % 2 ^ 63 = r := by omega
  rw [e1, if_neg (by omega)]

theorem V_step {r : Nat} (h : r + 1 < 2 ^ 63) : V r < V (r + 1) := by
  by_cases a : r + 1 < 2 ^ 52
  · rw [V_small a, V_small (by omega)]; omega
  · by_cases b : r < 2 ^ 52
    · have hr : r = 2 ^ 52 - 1 := by omega
      rw [V_small b, V_big (by omega) h, hr]; decide
    · rw [V_big (by omega) (by omega), V_big (by omega) h]
      by_cases c : (r + 1) % 2 ^ 52 = 0
      · have e1 : r % 2 ^ 52 = 2 ^ 52 - 1 := by omega
        have e2 : (r + 1) / 2 ^ 52 - 1 = (r / 2 ^ 52 - 1) + 1 := by omega
        rw [e1, e2, c, show 2 ^ (r / 2 ^ 52 - 1 + 1) = 2 ^ (r / 2 ^ 52 - 1) * 2 from Nat.pow_succ ..]
        have : 0 < 2 ^ (r / 2 ^ 52 - 1) := Nat.two_pow_pos _
        generalize 2 ^ (r / 2 ^ 52 - 1) = k at *
        omega
      · have e1 : (r + 1) % 2 ^ 52 = r % 2 ^ 52 + 1 := by omega
        have e2 : (r + 1) / 2 ^ 52 = r / 2 ^ 52 := by omega
        rw [e1, e2]
        exact Nat.mul_lt_mul_of_pos_right (by omega) (Nat.two_pow_pos _)
theorem V_lt {r s : Nat} (h : r < s) (hs : s < 2 ^ 63) : V r < V s := by
  induction s with
  | zero => omega
  | succ s ih =>
    by_cases e : r = s
    · subst e; exact V_step hs
    · exact Nat.lt_trans (ih (by omega) (by omega)) (V_step hs)
theorem V_le {r s : Nat} (h : r ≤ s) (hs : s < 2 ^ 63) : V r ≤ V s := by
  by_cases e : r = s
  · subst e; exact Nat.le_refl _
  · exact Nat.le_of_lt (V_lt (by omega) hs)
theorem V_inj {r s : Nat} (hr : r < 2 ^ 63) (hs : s < 2 ^ 63) (h : V r = V s) : r = s := by
  by_cases a : r < s
  · have := V_lt a hs; omega
  · by_cases b : s < r
    · have := V_lt b hr; omega
    · omega
theorem V_zero : V 0 = 0 := by decide
theorem V_pos {r : Nat} (h : 0 < r) (hs : r < 2 ^ 63) : 0 < V r := by have := V_lt h hs; rw [V_zero] at this; exact this

theorem cmp_eq {a b c d : Int} (h1 : a < b ↔ c < d) (h2 : a = b ↔ c = d) : compare a b = compare c d := by
  simp only [compare, compareOfLessAndEq]
  by_cases x : a < b
  · rw [if_pos x, if_pos (h1.1 x)]
  · rw [if_neg x, if_neg (fun y => x (h1.2 y))]
    by_cases z : a = b
    · rw [if_pos z, if_pos (h2.1 z)]
    · rw [if_neg z, if_neg (fun y => z (h2.2 y))]
theorem cmp_scale {a b k : Int} (hk : 0 < k) : compare (a * k) (b * k) = compare a b :=
  cmp_eq ⟨fun h => Int.lt_of_mul_lt_mul_right h (Int.le_of_lt hk), fun h => Int.mul_lt_mul_of_pos_right h hk⟩
    ⟨fun h => Int.eq_of_mul_eq_mul_right (Int.ne_of_gt hk) h, fun h => by rw [h]⟩

theorem signed_scale (s : Bool) (m k : Nat) (j : Nat) : signed s m k * ((2 ^ j : Nat) : Int) = signed s m (k + j) := by
  unfold signed
  have e : ((m <<< k : Nat) : Int) * ((2 ^ j : Nat) : Int) = ((m <<< (k + j) : Nat) : Int) := by
    rw [Nat.shiftLeft_eq, Nat.shiftLeft_eq, Nat.pow_add, ← Nat.mul_assoc]; rfl
  split
  · rw [Int.neg_mul, e]
  · rw [e]
theorem signed_Sv (x : Nat) : signed (fneg x) (mag x) (plc x) = Sv x := by
  unfold signed Sv V
  rw [Nat.shiftLeft_eq]

theorem ord_fin {x y : Nat} (hx : isFin x = true) (hy : isFin y = true) : ord x y = some (compare (Sv x) (Sv y)) := by
  simp only [ord, Format.order, read_fin x hx, read_fin y hy, Datum.order]
  have e1 : (-1074 + (plc x : Int) - min (-1074 + (plc x : Int)) (-1074 + (plc y : Int))).toNat = plc x - min (plc x) (plc y) := by omega
  have e2 : (-1074 + (plc y : Int) - min (-1074 + (plc x : Int)) (-1074 + (plc y : Int))).toNat = plc y - min (plc x) (plc y) := by omega
  rw [e1, e2]
  congr 1
  have hk : (0 : Int) < ((2 ^ min (plc x) (plc y) : Nat) : Int) := by have := Nat.two_pow_pos (min (plc x) (plc y)); omega
  rw [← cmp_scale hk, signed_scale, signed_scale]
  have f1 : plc x - min (plc x) (plc y) + min (plc x) (plc y) = plc x := by omega
  have f2 : plc y - min (plc x) (plc y) + min (plc x) (plc y) = plc y := by omega
  rw [f1, f2, signed_Sv, signed_Sv]

theorem fneg_small {x : Nat} (h : x < 2 ^ 63) : fneg x = false := by unfold fneg; simp; omega
theorem Sv_small {x : Nat} (h : x < 2 ^ 63) : Sv x = (V x : Int) := by unfold Sv; rw [fneg_small h]; rfl
/-- Among sizes the order is that of the words. -/
theorem ord_pos {x y : Nat} (hx : x < infR) (hy : y < infR) : ord x y = some (compare x y) := by
  have lx : x < 2 ^ 63 := by unfold infR at hx; omega
  have ly : y < 2 ^ 63 := by unfold infR at hy; omega
  rw [ord_fin (by simp [isFin]; omega) (by simp [isFin]; omega), Sv_small lx, Sv_small ly]
  congr 1
  simp only [compare, compareOfLessAndEq]
  by_cases a : x < y
  · rw [if_pos (by have := V_lt a ly; omega), if_pos a]
  · by_cases b : x = y
    · subst b; simp
    · have := V_lt (show y < x by omega) lx
      rw [if_neg (by omega), if_neg (by omega), if_neg a, if_neg b]
/-- math.IsInf's test. -/
theorem ord_max {x : Nat} (h : x < 2 ^ 63) : (ord x 9218868437227405311 == some .gt) = isInf x := by
  have e : x % 2 ^ 63 = x := by omega
  rcases tri x with f | i | n
  · have hx : x < infR := by simpa [isFin, e] using f
    rw [ord_pos hx (by decide)]
    have : isInf x = false := by simp [isInf, e]; omega
    rw [this]
    simp only [compare, compareOfLessAndEq]
    unfold infR at hx
    by_cases a : x < 9218868437227405311
    · rw [if_pos a]; rfl
    · rw [if_neg a, if_pos (by omega)]; rfl
  · rw [i]
    have : ord x 9218868437227405311 = some .gt := by
      simp only [ord, Format.order, read_inf x i, fneg_small h, read_fin 9218868437227405311 (by decide), Datum.order]; rfl
    rw [this]; rfl
  · rw [ord_nan_left n]
    have : isInf x = false := by simp only [isNaN, decide_eq_true_eq] at n; simp [isInf]; omega
    rw [this]; rfl

theorem isInf_mod (x : Nat) : isInf (x % 2 ^ 63) = isInf x := by unfold isInf; rw [Nat.mod_mod]
theorem isNaN_mod (x : Nat) : isNaN (x % 2 ^ 63) = isNaN x := by unfold isNaN; rw [Nat.mod_mod]
theorem isFin_mod (x : Nat) : isFin (x % 2 ^ 63) = isFin x := by unfold isFin; rw [Nat.mod_mod]

/-- x - x is 0 of just the finite ones. -/
theorem sub_self_fin {x : Nat} (h : isFin x = true) (w : World) : fop .sub x x w = 0 := by
  refine fop_some ?_ w
  simp only [floatBits, FloatKind.format, Format.sub, read_fin x h, Datum.opposite, Datum.sum, Option.map_some, Option.some.injEq]
  have e : (-1074 + (plc x : Int) - min (-1074 + (plc x : Int)) (-1074 + (plc x : Int))).toNat = 0 := by omega
  rw [e]
  have t : signed (fneg x) (mag x) 0 + signed (!fneg x) (mag x) 0 = 0 := by unfold signed; cases fneg x <;> simp <;> omega
  rw [t]
  simp [Format.write, Format.nearest, Format.word]
theorem sub_self_not {x : Nat} (h : isFin x = false) (w : World) : isNaN (fop .sub x x w) = true := by
  refine fop_none ?_ w
  rcases tri x with f | i | n
  · simp [f] at h
  · simp [floatBits, FloatKind.format, Format.sub, read_inf x i, Datum.opposite, Datum.sum]
  · exact bits_nan (by simp) x x (.inl n)
theorem sub_self_ord (x : Nat) (w : World) : (ord (fop .sub x x w) 0 == some .eq) = isFin x := by
  cases h : isFin x
  · rw [ord_nan_left (sub_self_not h w)]; rfl
  · rw [sub_self_fin h w]; decide

theorem bits_abs (x : Nat) (hx : x < 2 ^ 64) : (bits .andNot .u64 (x : Int) 9223372036854775808).toNat = x % 2 ^ 63 := by
  unfold bits
  have hb : ~~~(BitVec.ofInt 64 9223372036854775808) = BitVec.ofNat 64 (2 ^ 63 - 1) := by decide
  have ha : (BitVec.ofInt 64 (x : Int)).toNat = x := by
    rw [BitVec.ofInt_natCast, BitVec.toNat_ofNat]; omega
  show (IntKind.u64.wrap ((BitVec.ofInt 64 (x : Int) &&& ~~~(BitVec.ofInt 64 9223372036854775808)).toNat : Int)).toNat = _
  rw [hb, BitVec.toNat_and, ha]
  have hc : (BitVec.ofNat 64 (2 ^ 63 - 1)).toNat = 2 ^ 63 - 1 := by decide
  rw [hc, Nat.and_two_pow_sub_one_eq_mod]
  have hw : IntKind.u64.wrap ((x % 2 ^ 63 : Nat) : Int) = ((x % 2 ^ 63 : Nat) : Int) := by
    simp only [IntKind.wrap, IntKind.bits, IntKind.signed]
    simp; omega
  rw [hw]; rfl
theorem bits_fin (x : Nat) : (bits .and .u64 ((x : Int) / 4503599627370496) 2047 != 2047) = isFin x := by
  have h1 : (bits .and .u64 ((x : Int) / 4503599627370496) 2047) = ((x / 2 ^ 52 % 2048 : Nat) : Int) := by
    unfold bits
    have ha : (BitVec.ofInt 64 ((x : Int) / 4503599627370496)).toNat = x / 2 ^ 52 % 2 ^ 64 := by
      have : ((x : Int) / 4503599627370496) = ((x / 2 ^ 52 : Nat) : Int) := by omega
      rw [this, BitVec.ofInt_natCast, BitVec.toNat_ofNat]
    show IntKind.u64.wrap ((BitVec.ofInt 64 ((x : Int) / 4503599627370496) &&& BitVec.ofInt 64 2047).toNat : Int) = _
    have hc : (BitVec.ofInt 64 2047).toNat = 2 ^ 11 - 1 := by decide
    rw [BitVec.toNat_and, ha, hc, Nat.and_two_pow_sub_one_eq_mod]
    simp only [IntKind.wrap, IntKind.bits, IntKind.signed]
    simp; omega
  rw [h1]
  unfold isFin infR
  rw [Bool.eq_iff_iff]
  simp
  omega
end Go.Proofs.Ytigkfdoeneemeaa.Fl
/- Walks of the small functions on one float: which are finite, sizes. -/
namespace Go.Proofs.Ytigkfdoeneemeaa
open Go.RowKit

theorem ret_bool {a b : Bool} (h : a = b) : Ending.returned (.bool a) = .returned (.bool b) := by rw [h]
theorem ret_float {a b : Nat} (h : a = b) : Ending.returned (.float .f64 a) = .returned (.float .f64 b) := by rw [h]

set_option maxHeartbeats 400000 in
theorem abs_any (x : Nat) (w : World) (hx : x < 2 ^ 64) :
    Calls Try.prog 63 #[.float .f64 x] w fun e w' => e = .returned (.float .f64 (x % 2 ^ 63)) ∧ w' = w := by
  go_enter Try.func63, Try.ntmps63
  go_wp2
  go_ret
  exact ⟨ret_float (Fl.bits_abs x hx), rfl⟩

set_option maxHeartbeats 400000 in
theorem isNaN_any (x : Nat) (w : World) :
    Calls Try.prog 142 #[.float .f64 x] w fun e w' => e = .returned (.bool (Fl.isNaN x)) ∧ w' = w := by
  go_enter Try.func142, Try.ntmps142
  go_wp2
  go_ret
  exact ⟨ret_bool (Fl.ord_self_ne x), rfl⟩

set_option maxHeartbeats 400000 in
theorem isInf_any (x : Nat) (w : World) (hx : x < 2 ^ 64) :
    Calls Try.prog 64 #[.float .f64 x, .int .i64 0] w fun e w' => e = .returned (.bool (Fl.isInf x)) ∧ w' = w := by
  go_enter Try.func64, Try.ntmps64
  go_wp2_with (go_at_call 63; refine (abs_any _ _ hx).mono ?_; rintro e w' ⟨rfl, rfl⟩)
  go_ret
  exact ⟨ret_bool ((Fl.ord_max (Nat.mod_lt _ (by decide))).trans (Fl.isInf_mod x)), rfl⟩

set_option maxHeartbeats 400000 in
theorem realFinite_any (x : Nat) (w : World) (hx : x < 2 ^ 64) :
    Calls Try.prog 94 #[.float .f64 x] w fun e w' => e = .returned (.bool (Fl.isFin x)) ∧ w' = w := by
  go_enter Try.func94, Try.ntmps94
  cases hn : Fl.isNaN x
  all_goals
    go_wp2_with (first | (go_at_call 142; refine (isNaN_any _ _).mono ?_; rintro e w' ⟨rfl, rfl⟩) | (go_at_call 64; refine (isInf_any _ _ hx).mono ?_; rintro e w' ⟨rfl, rfl⟩))
    go_ret
    exact ⟨ret_bool (by rw [Fl.fin_not, hn]; simp), rfl⟩

set_option maxHeartbeats 400000 in
theorem alarmFinite_any (x : Nat) (w : World) (hx : x < 2 ^ 64) :
    Calls Try.prog 100 #[.float .f64 x] w fun e w' => e = .returned (.bool (Fl.isFin x)) ∧ w' = w := by
  go_enter Try.func100, Try.ntmps100
  cases hn : Fl.isInf x
  all_goals
    go_wp2_with (first | (go_at_call 142; refine (isNaN_any _ _).mono ?_; rintro e w' ⟨rfl, rfl⟩) | (go_at_call 64; refine (isInf_any _ _ hx).mono ?_; rintro e w' ⟨rfl, rfl⟩))
    go_ret
    exact ⟨ret_bool (by rw [Fl.fin_not, hn]; simp), rfl⟩

set_option maxHeartbeats 400000 in
theorem partsFinite_any (x : Nat) (w : World) (hx : x < 2 ^ 64) :
    Calls Try.prog 113 #[.float .f64 x] w fun e w' => e = .returned (.bool (Fl.isFin x)) ∧ w' = w := by
  go_enter Try.func113, Try.ntmps113
  cases hn : Fl.isInf x
  all_goals
    go_wp2_with (first | (go_at_call 64; refine (isInf_any _ _ hx).mono ?_; rintro e w' ⟨rfl, rfl⟩))
    go_ret
    exact ⟨ret_bool (by rw [Fl.fin_not, hn]; simp; try exact Fl.ord_self_eq x), rfl⟩

set_option maxHeartbeats 400000 in
theorem ref06Finite_any (x : Nat) (w : World) :
    Calls Try.prog 95 #[.float .f64 x] w fun e w' => e = .returned (.bool (Fl.isFin x)) ∧ w' = w := by
  go_enter Try.func95, Try.ntmps95
  go_wp2
  go_ret
  exact ⟨ret_bool (Fl.bits_fin x), rfl⟩

set_option maxHeartbeats 400000 in
theorem ref07Finite_any (x : Nat) (w : World) :
    Calls Try.prog 114 #[.float .f64 x] w fun e w' => e = .returned (.bool (Fl.isFin x)) ∧ ∃ n, w' = w.drewN n := by
  go_enter Try.func114, Try.ntmps114
  go_wp2
  go_ret
  exact ⟨ret_bool (Fl.sub_self_ord x w), _, rfl⟩

set_option maxHeartbeats 400000 in
theorem ref29Finite_any (x : Nat) (w : World) :
    Calls Try.prog 104 #[.float .f64 x] w fun e w' => e = .returned (.bool (Fl.isFin x)) ∧ ∃ n, w' = w.drewN n := by
  go_enter Try.func104, Try.ntmps104
  go_wp2
  go_ret
  exact ⟨ret_bool (Fl.sub_self_ord x w), _, rfl⟩
end Go.Proofs.Ytigkfdoeneemeaa
/- The small functions of the law of waters: small, whole, sign, walked. -/
namespace Go.Proofs.Ytigkfdoeneemeaa
open Go.RowKit

def smW (n most : Nat) : Bool := decide (n ≤ most) || (decide (2048 < n) && decide (n < 2057))
set_option maxHeartbeats 400000 in
theorem law04small_any (a : Option Addr) (n c most : Nat) (w : World) (hn : n ≤ 9223372036854775807) (hm : most ≤ 1000) :
    Calls Try.prog 119 #[.slice a n c, .int .i64 most] w fun e w' => e = .returned (.bool (smW n most)) ∧ w' = w := by
  by_cases h1 : n ≤ most
  · have d1 : decide ((n : Int) ≤ (most : Int)) = true := by simp; omega
    have d1' : decide (n ≤ most) = true := by simpa using h1
    have HE := Lib.hid (show smW n most = true by unfold smW; rw [d1']; rfl)
    go_enter Try.func119, Try.ntmps119
    go_wp2
    go_ret
    exact ⟨ret_bool HE.out.symm, rfl⟩
  · have d1 : decide ((n : Int) ≤ (most : Int)) = false := by simp; omega
    have d1' : decide (n ≤ most) = false := by simpa using h1
    by_cases h2 : 2048 < n
    · have d2 : decide ((2048 : Int) < (n : Int)) = true := by simp; omega
      have d2' : decide (2048 < n) = true := by simpa using h2
      by_cases h3 : n < 2057
      · have d3 : decide ((n : Int) < 2057) = true := by simp; omega
        have HE := Lib.hid (show smW n most = true by unfold smW; rw [d1', d2']; simpa using h3)
        go_enter Try.func119, Try.ntmps119
        go_wp2
        go_ret
        exact ⟨ret_bool HE.out.symm, rfl⟩
      · have d3 : decide ((n : Int) < 2057) = false := by simp; omega
        have HE := Lib.hid (show smW n most = false by unfold smW; rw [d1', d2']; simpa using h3)
        go_enter Try.func119, Try.ntmps119
        go_wp2
        go_ret
        exact ⟨ret_bool HE.out.symm, rfl⟩
    · have d2 : decide ((2048 : Int) < (n : Int)) = false := by simp; omega
      have d2' : decide (2048 < n) = false := by simpa using h2
      have HE := Lib.hid (show smW n most = false by unfold smW; rw [d1', d2']; rfl)
      go_enter Try.func119, Try.ntmps119
      go_wp2
      go_ret
      exact ⟨ret_bool HE.out.symm, rfl⟩

def smF (r : Fr) : Bool := smW r.num.length 20 && smW r.den.length 20
set_option maxHeartbeats 400000 in
theorem law04Small_any (r : Fr) (a : Option Addr) (c : Nat) (b : Option Addr) (d : Nat) (w : World) (hn : r.num.length ≤ 9223372036854775807) (hd : r.den.length ≤ 9223372036854775807) :
    Calls Try.prog 65 #[frV r a c b d, .int .i64 20] w fun e w' => e = .returned (.bool (smF r)) ∧ ∃ x, w' = w.ext x := by
  obtain ⟨rn, rnum, rden⟩ := r
  simp only at hn hd
  have L1 := fun W => law04small_any a rnum.length c 20 W hn (by decide)
  have L2 := fun W => law04small_any b rden.length d 20 W hd (by decide)
  have he : smF ⟨rn, rnum, rden⟩ = (smW rnum.length 20 && smW rden.length 20) := rfl
  generalize smW rnum.length 20 = u at *
  generalize smW rden.length 20 = v at *
  have H1 := Lib.hid L1
  have H2 := Lib.hid L2
  have HE := Lib.hid he
  clear L1 L2 he
  cases u
  · go_enter Try.func65, Try.ntmps65
    go_wp2_with (go_at_call 119; (first | (with_reducible refine Calls.mono (H1.out _) ?_) | (with_reducible refine Calls.mono (H2.out _) ?_)); rintro e w' ⟨rfl, rfl⟩)
    go_ret
    exact ⟨ret_bool (by rw [HE.out]; rfl), Blw.is (by repeat (first | exact Blw.refl _ | apply Blw.ext | apply Blw.alloc | apply Blw.drewN | apply Blw.drew | refine Blw.setCell ?_ _ _ (by simp)))⟩
  · go_enter Try.func65, Try.ntmps65
    go_wp2_with (go_at_call 119; (first | (with_reducible refine Calls.mono (H1.out _) ?_) | (with_reducible refine Calls.mono (H2.out _) ?_)); rintro e w' ⟨rfl, rfl⟩)
    go_ret
    exact ⟨ret_bool (by rw [HE.out]; rfl), Blw.is (by repeat (first | exact Blw.refl _ | apply Blw.ext | apply Blw.alloc | apply Blw.drewN | apply Blw.drew | refine Blw.setCell ?_ _ _ (by simp)))⟩

theorem sl_ratios : SlT Try.prog 97 88 (.agg #[.bool false, .slice none 0 0, .slice none 0 0]) 3 56 := ⟨Try.underlying97, by kernel_rfl, by kernel_rfl, by decide⟩
def wholeR (ns : List Int) : List Fr := ns.map (fun n => smallF n 1)
/-- Fractions of the call's own, in a slice of the call's own. -/
def RetFls (w : World) (rs : List Fr) (e : Ending) (w' : World) : Prop :=
  ∃ (out : List FL) (a : Option Addr) (c : Nat), e = .returned (.slice a out.length c) ∧ Blw w w' ∧ w'.ownsRow w.heap.size 88 3 (.slice a out.length c) out.length (fls out) ∧ (∀ x ∈ out, OwnFL w.heap.size w' x) ∧ out.map (·.r) = rs
theorem smallF_wf (n d : Int) : W.WF (smallF n d).num ∧ W.WF (smallF n d).den := ⟨W.wf_toW _, W.wf_toW _⟩

set_option maxRecDepth 100000 in
set_option maxHeartbeats 4000000 in
theorem whole_any (a : Option Addr) (ns : List Int) (cap : Nat) (w : World) (h : Arr w a (i64s ns)) (hl : ns.length ≤ 1000) (hb : ∀ n ∈ ns, -9223372036854775808 ≤ n ∧ n ≤ 9223372036854775807) :
    Calls Try.prog 92 #[.slice a ns.length cap] w (RetFls w (wholeR ns)) := by
  have HB := Lib.hid hb
  clear hb
  go_enter Try.func92, Try.ntmps92
  go_wp2_with fail
  go_loopw [3, 4] (fun vo vi wr => ∃ (k : Nat) (out : List FL) (b : Option Addr) (c : Nat), k ≤ ns.length ∧ vi = .int .i64 k ∧ vo = .slice b out.length c ∧ wr.ownsRow w.heap.size 88 3 (.slice b out.length c) out.length (fls out) ∧ (∀ x ∈ out, OwnFL w.heap.size wr x) ∧ Hid (out.map (·.r) = wholeR (ns.take k)) ∧ Blw w wr) (fun _ i _ => ns.length - (intOf i).toNat)
  case atStart => exact ⟨0, [], none, 0, Nat.zero_le _, rfl, rfl, World.ownsRow_nil _ _ _ _, (fun x h => by simp at h), rfl, Blw.refl _⟩
  case round =>
    obtain ⟨k, out, b, c, hk, rfl, rfl, hown, hio, hkey, hbw⟩ := hrel
    have HIO := Lib.hid hio
    clear hio
    have hlen : out.length = k := by
      have := congrArg List.length hkey.out
      simp [wholeR] at this; omega
    by_cases hlt : k < ns.length
    · obtain ⟨n, bb, o, -, hm, hg, rfl, hbs, hc⟩ := (h.blw hbw).elem hlt
      obtain ⟨n0, n1⟩ := HB.out n hm
      have HG := Lib.hid hg.out
      clear hg hm
      have HLN := Lib.hid hlen
      have hlen2 : out.length ≤ 1000 := by omega
      clear hlen
      go_wp2_with fail
      refine Calls.mono (ratioSmall_any n 1 _ n0 n1 (by decide) (by decide) (by decide)) ?_
      rintro e w5 ⟨p1, q1, p2, q2, rfl, hb5, oX, oY⟩
      obtain ⟨wf1, wf2⟩ := smallF_wf n 1
      have HWF1 := Lib.hid wf1
      have HWF2 := Lib.hid wf2
      obtain ⟨⟨ng, nw, dw⟩, hF⟩ := ex_hid (smallF n 1)
      rw [hF.out] at oX oY HWF1 HWF2 ⊢
      simp only at oX oY HWF1 HWF2
      have hown5 := ownsRow_blw hown hb5
      have HIO5 := Lib.hid (fun x hx => (HIO.out x hx).blw hb5)
      have oX5 := ownsRow_mono oX hbw.size
      have oY5 := ownsRow_mono oY hbw.size
      have hbw5 := hbw.trans hb5
      clear oX oY hown wf1 wf2 HIO
      have HCL := Lib.hid (cells_len FL.cells 3 (fun _ => rfl) out)
      go_wp2_with (at_builtin; refine wpList_app w _ rfl _ _ 97 rfl sl_ratios ((hbw5.alloc _).alloc _) _ out.length _ rfl (ownsRow_blw hown5 (((Blw.refl _).alloc _).alloc _)) _ 1 1 [.bool ng, .slice p1 nw.length q1, .slice p2 dw.length q2] rfl (by simp) (Arr.lit_at _ _ _ _ (by simp)) (by simp) (by simp [Value.oneCell']) (by unfold maxLen; omega) (by omega) ?_; intro v7 w7 hown7 hb7 hg7 _)
      obtain ⟨a7, c7, rfl, -, -, -, -, -⟩ := own_arr hown7
      have HKEY : Hid ((out ++ [(⟨⟨ng, nw, dw⟩, p1, q1, p2, q2⟩ : FL)]).map (·.r) = wholeR (ns.take (k + 1))) := by
        show _ = _
        rw [List.map_append, hkey.out, List.take_add_one, HG.out]
        simp [wholeR, hF.out]
      have HO : Hid (∀ x ∈ out ++ [(⟨⟨ng, nw, dw⟩, p1, q1, p2, q2⟩ : FL)], OwnFL w.heap.size w7 x) := by
        intro x hx
        rw [List.mem_append, List.mem_singleton] at hx
        rcases hx with hx | rfl
        · exact OwnFL.past ((HIO5.out x hx).blw (((Blw.refl _).alloc _).alloc _)) (ownsRow_blw hown5 (((Blw.refl _).alloc _).alloc _)) (by decide) hg7
        · exact OwnFL.past (OwnFL.blw ⟨oX5, oY5, HWF1.out, HWF2.out⟩ (((Blw.refl _).alloc _).alloc _)) (ownsRow_blw hown5 (((Blw.refl _).alloc _).alloc _)) (by decide) hg7
      have HOL : Hid (w7.ownsRow w.heap.size 88 3 (.slice a7 (out ++ [(⟨⟨ng, nw, dw⟩, p1, q1, p2, q2⟩ : FL)]).length c7) (out ++ [(⟨⟨ng, nw, dw⟩, p1, q1, p2, q2⟩ : FL)]).length (fls (out ++ [(⟨⟨ng, nw, dw⟩, p1, q1, p2, q2⟩ : FL)]))) := by
        have e : fls (out ++ [(⟨⟨ng, nw, dw⟩, p1, q1, p2, q2⟩ : FL)]) = fls out ++ [.bool ng, .slice p1 nw.length q1, .slice p2 dw.length q2] := by
          rw [fls, List.flatMap_append]; rfl
        show World.ownsRow _ _ _ _ _ _ _
        rw [e, List.length_append]
        exact hown7
      clear hown7 hg7
      go_roundw
      case rel => exact ⟨k + 1, _, a7, c7, by omega, by go_num, (by rw [List.length_append]; rfl), HOL.out, HO.out, HKEY, hb7⟩
      case measure => simp [intOf]; omega
    · have hkl : k = ns.length := by omega
      subst hkl
      have HK := Lib.hid (hkey.out.trans (by rw [List.take_length]))
      clear hkey hlen
      go_wp2
      go_ret
      exact ⟨out, b, c, rfl, hbw, hown, HIO.out, HK.out⟩

set_option maxHeartbeats 400000 in
theorem sign_ok (x y : FL) (w : World) (hx : FL.In w x) (hy : FL.In w y) (ox : x.r.Ok) (oy : y.r.Ok) :
    Calls Try.prog 90 #[frV x.r x.a x.c x.b x.d, frV y.r y.a y.c y.b y.d] w fun e w' => e = .returned (.int .i64 (cmpF x.r y.r)) ∧ ∃ z, w' = w.ext z := by
  have K := Lib.hid (fun (W : World) (hb : Blw w W) => ratioCompare_ok x.r y.r x.a x.c x.b x.d y.a y.c y.b y.d W (hx.blw hb) (hy.blw hb) ox oy)
  clear hx hy ox oy
  go_enter Try.func90, Try.ntmps90
  go_wp2_with fail
  refine Calls.mono (K.out _ (by repeat (first | exact Blw.refl _ | apply Blw.ext | apply Blw.alloc | apply Blw.drewN | apply Blw.drew | refine Blw.setCell ?_ _ _ (by simp)))) ?_
  rintro e w1 ⟨rfl, x1, rfl⟩
  go_wp2
  go_ret
  exact ⟨rfl, Blw.is (by repeat (first | exact Blw.refl _ | apply Blw.ext | apply Blw.alloc | apply Blw.drewN | apply Blw.drew | refine Blw.setCell ?_ _ _ (by simp)))⟩
end Go.Proofs.Ytigkfdoeneemeaa
/- The law of waters: small, SameInts, walked. -/
namespace Go.Proofs.Ytigkfdoeneemeaa
open Go.RowKit

def smallL (l : List FL) : Bool := if (60 < l.length ∧ l.length ≤ 4096) ∨ 4105 < l.length then false else l.all fun x => smF x.r

set_option maxRecDepth 100000 in
set_option maxHeartbeats 2000000 in
theorem law25small_any (A : Option Addr) (l : List FL) (cap : Nat) (w : World) (hA : Arr w A (fls l)) (hl : l.length ≤ 9223372036854775807) (hw : ∀ x ∈ l, x.r.num.length ≤ 9223372036854775807 ∧ x.r.den.length ≤ 9223372036854775807) :
    Calls Try.prog 74 #[.slice A l.length cap] w fun e w' => e = .returned (.bool (smallL l)) ∧ ∃ x, w' = w.ext x := by
  by_cases h0 : (60 < l.length ∧ l.length ≤ 4096) ∨ 4105 < l.length
  · have HE := Lib.hid (show smallL l = false from if_pos h0)
    rcases h0 with ⟨h1, h2⟩ | h1
    · have d1 : decide ((60 : Int) < (l.length : Int)) = true := by simp; omega
      have d2 : decide ((l.length : Int) ≤ 4096) = true := by simp; omega
      go_enter Try.func74, Try.ntmps74
      go_wp2
      go_ret
      exact ⟨ret_bool HE.out.symm, Blw.is (by repeat (first | exact Blw.refl _ | apply Blw.ext | apply Blw.alloc | apply Blw.drewN | apply Blw.drew | refine Blw.setCell ?_ _ _ (by simp)))⟩
    · have d1 : decide ((60 : Int) < (l.length : Int)) = true := by simp; omega
      have d2 : decide ((l.length : Int) ≤ 4096) = false := by simp; omega
      have d3 : decide ((4105 : Int) < (l.length : Int)) = true := by simp; omega
      go_enter Try.func74, Try.ntmps74
      go_wp2
      go_ret
      exact ⟨ret_bool HE.out.symm, Blw.is (by repeat (first | exact Blw.refl _ | apply Blw.ext | apply Blw.alloc | apply Blw.drewN | apply Blw.drew | refine Blw.setCell ?_ _ _ (by simp)))⟩
  · have he : smallL l = l.all fun x => smF x.r := if_neg h0
    have HE := Lib.hid he
    have hcs : decide ((60 : Int) < (l.length : Int)) = false ∨ (decide ((60 : Int) < (l.length : Int)) = true ∧ decide ((l.length : Int) ≤ 4096) = false) := by
      by_cases h1 : 60 < l.length
      · exact .inr ⟨by simp; omega, by simp; omega⟩
      · exact .inl (by simp; omega)
    have d3 : decide ((4105 : Int) < (l.length : Int)) = false := by simp; omega
    have HW := Lib.hid hw
    clear h0 he hw
    go_enter Try.func74, Try.ntmps74
    rcases hcs with d1 | ⟨d1, d2⟩
    all_goals
      go_wp2
      go_loopw [3] (fun vi wr => ∃ k : Nat, k ≤ l.length ∧ vi = .int .i64 k ∧ Hid ((l.all fun x => smF x.r) = (l.drop k).all fun x => smF x.r) ∧ Blw w wr) (fun i _ => l.length - (intOf i).toNat)
      case atStart => exact ⟨0, Nat.zero_le _, rfl, rfl, Blw.refl _⟩
      case round =>
        obtain ⟨k, hk, rfl, hall, hb⟩ := hrel
        by_cases hlt : k < l.length
        · obtain ⟨x, b, o, hgk, hm, rfl, hbs, c0, c1, c2⟩ := fl_at (hA.blw hb) hlt
          obtain ⟨b1, b2⟩ := HW.out x hm
          have hd : l.drop k = x :: l.drop (k + 1) := by
            obtain ⟨h9, h8⟩ := List.getElem?_eq_some_iff.1 hgk
            rw [List.drop_eq_getElem_cons h9, h8]
          have SM := fun W => law04Small_any x.r x.a x.c x.b x.d W b1 b2
          have hall2 := hall.out
          rw [hd, List.all_cons] at hall2
          generalize smF x.r = u at *
          have HSM := Lib.hid SM
          clear SM hall hgk hd hm
          go_wp2_with fail
          refine Calls.mono (HSM.out _) ?_
          rintro e w2 ⟨rfl, x2, rfl⟩
          cases u
          · have HA2 := Lib.hid (HE.out.trans hall2)
            clear hall2
            go_wp2
            go_ret
            exact ⟨ret_bool (by rw [HA2.out]; rfl), Blw.is (hb.ext _)⟩
          · have HA2 := Lib.hid hall2
            clear hall2
            go_wp2
            go_roundw
            case rel => exact ⟨k + 1, by omega, by go_num, HA2, hb.ext _⟩
            case measure => simp [intOf]; omega
        · have hkl : k = l.length := by omega
          subst hkl
          have HA2 := Lib.hid (HE.out.trans (hall.out.trans (show ((l.drop l.length).all fun x => smF x.r) = true by rw [List.drop_length]; rfl)))
          clear hall
          go_wp2
          go_ret
          exact ⟨ret_bool HA2.out.symm, Blw.is hb⟩

set_option maxHeartbeats 800000 in
theorem sameInts_refl_any (a b : Option Addr) (l : List Int) (c d : Nat) (w : World) (ha : Arr w a (i64s l)) (hb : Arr w b (i64s l)) (hl : l.length ≤ 1099511627776) :
    Calls Try.prog 93 #[.slice a l.length c, .slice b l.length d] w fun e w' => e = .returned (.bool true) ∧ ∃ x, w' = w.ext x := by
  go_enter Try.func93, Try.ntmps93
  go_wp2
  go_loopw [5] (fun i wr => ∃ (k : Nat) (x : World), k ≤ l.length ∧ i = .int .i64 k ∧ wr = w.ext x) (fun i _ => l.length - (intOf i).toNat)
  case atStart => exact ⟨0, w, Nat.zero_le _, rfl, (World.ext_of (Blw.refl w)).symm⟩
  case round =>
    obtain ⟨k, wx, hk, rfl, rfl⟩ := hrel
    by_cases hlt : k < l.length
    · obtain ⟨x, b1, o1, hd1, -, -, rfl, hb1, hc1⟩ := ha.elem hlt
      obtain ⟨y, b2, o2, hd2, -, -, rfl, hb2, hc2⟩ := hb.elem hlt
      have hxy : x = y := by have := hd1.out.symm.trans hd2.out; simp at this; exact this
      subst hxy
      have h0 : (0 : Int) ≤ (k : Int) := by omega
      have h1 : (k : Int) < (l.length : Int) := by omega
      go_wp2_with fail
      go_quiet (fail)
      go_wp2
      go_roundw
      case rel => exact ⟨k + 1, _, by omega, by go_num, (World.ext_of (by repeat (first | exact Blw.refl _ | apply Blw.ext | apply Blw.alloc | apply Blw.drewN | apply Blw.drew | refine Blw.setCell ?_ _ _ (by simp)))).symm⟩
      case measure => simp [intOf]; omega
    · go_wp2
      go_ret
      exact ⟨rfl, Blw.is (by repeat (first | exact Blw.refl _ | apply Blw.ext | apply Blw.alloc | apply Blw.drewN | apply Blw.drew | refine Blw.setCell ?_ _ _ (by simp)))⟩
end Go.Proofs.Ytigkfdoeneemeaa
/- Walks of height.Lower and of the reference's: both compare the same rounded sums. -/
namespace Go.Proofs.Ytigkfdoeneemeaa
open Go.RowKit

def lowerB (a b c d : Nat) : Bool := Fl.ord (Fl.fop .add a b default) (Fl.fop .sub c d default) == some .lt
theorem lowerB_any (a b c d : Nat) (w w' : World) : (FloatKind.f64.format.order (Fl.fop .add a b w) (Fl.fop .sub c d w') == some .lt) = lowerB a b c d := by
  unfold lowerB
  rw [Fl.same.ord (Fl.same_add (.refl a) (.refl b) default w) (Fl.same_sub (.refl c) (.refl d) default w')]
  rfl

set_option maxHeartbeats 400000 in
theorem lower_any (a b c d : Nat) (w : World) :
    Calls Try.prog 16 #[.agg #[.float .f64 a, .float .f64 b], .agg #[.float .f64 c, .float .f64 d]] w fun e w' => e = .returned (.bool (lowerB a b c d)) ∧ ∃ x, w' = w.ext x := by
  go_enter Try.func16, Try.ntmps16
  go_wp2
  go_ret
  exact ⟨congrArg (fun b => Ending.returned (.bool b)) (lowerB_any _ _ _ _ _ _), ((((Blw.refl w).alloc _).alloc _).drewN _).is⟩

set_option maxHeartbeats 400000 in
theorem refLower_any (a b c d : Nat) (w : World) :
    Calls Try.prog 17 #[.agg #[.float .f64 a, .float .f64 b], .agg #[.float .f64 c, .float .f64 d]] w fun e w' => e = .returned (.bool (lowerB a b c d)) ∧ ∃ x, w' = w.ext x := by
  go_enter Try.func17, Try.ntmps17
  go_wp2
  go_ret
  exact ⟨congrArg (fun b => Ending.returned (.bool b)) (lowerB_any _ _ _ _ _ _), ((((Blw.refl w).alloc _).alloc _).drewN _).is⟩
end Go.Proofs.Ytigkfdoeneemeaa
/- What floats say of a list of heights: plain Lean, and the three lists in memory. -/
namespace Go.Proofs.Ytigkfdoeneemeaa
open Go.RowKit

/-- A height and its bound, as cells. -/
def off (p : Nat × Nat) : List Value := [.float .f64 p.1, .float .f64 p.2]
abbrev offs (l : List (Nat × Nat)) : List Value := l.flatMap off
theorem off_at {w : World} {A : Option Addr} {l : List (Nat × Nat)} (h : Arr w A (offs l)) {k : Nat} (hk : k < l.length) :
    ∃ (x : Nat × Nat) (b o : Nat), l[k]? = some x ∧ x ∈ l ∧ A = some ⟨b, o, none⟩ ∧ b < w.heap.size ∧ w.cell? ⟨b, o + k * 2, none⟩ = some (.float .f64 x.1) ∧ w.cell? ⟨b, o + k * 2 + 1, none⟩ = some (.float .f64 x.2) := by
  obtain ⟨x, b, o, h1, h2, h3, h4, h5⟩ := cells_arr off 2 (fun _ => rfl) (by decide) h hk
  exact ⟨x, b, o, h1, h2, h3, h4, h5 0 (by decide), h5 1 (by decide)⟩

/-- Is the height at a place surely lower than that at another one? -/
def low (l : List (Nat × Nat)) (i k : Nat) : Bool := lowerB (l.getD i (0, 0)).1 (l.getD i (0, 0)).2 (l.getD k (0, 0)).1 (l.getD k (0, 0)).2
/-- What is counted: neighbours surely lower (as the program names them: 'higher'), surely higher, all; is one in doubt? -/
structure SC where
  hi : Nat
  lo : Nat
  nr : Nat
  db : Bool
def sc0 : SC := ⟨0, 0, 0, false⟩
def scAt (l : List (Nat × Nat)) (i k : Nat) (s : SC) : SC :=
  ⟨s.hi + (if low l k i then 1 else 0), s.lo + (if low l i k then 1 else 0), s.nr + 1, s.db || (!low l k i && !low l i k)⟩
def sc1 (l : List (Nat × Nat)) (i : Nat) : SC := if 0 < i then scAt l i (i - 1) sc0 else sc0
def sc2 (l : List (Nat × Nat)) (i : Nat) : SC := if i + 1 < l.length then scAt l i (i + 1) (sc1 l i) else sc1 l i
def isTop (l : List (Nat × Nat)) (i : Nat) : Bool := (sc2 l i).nr == 2 && (sc2 l i).hi == 2
def isBot (l : List (Nat × Nat)) (i : Nat) : Bool := (sc2 l i).nr == 2 && (sc2 l i).lo == 2
def isDbt (l : List (Nat × Nat)) (i : Nat) : Bool := (sc2 l i).db
/-- The places up to n that are of a kind, from a first tick on. -/
def tks (p : Nat → Bool) (first : Int) (n : Nat) : List Int := ((List.range n).filter p).map fun (i : Nat) => first + (i : Int)
theorem tks_zero (p : Nat → Bool) (first : Int) : tks p first 0 = [] := rfl
theorem tks_yes {p : Nat → Bool} {first : Int} {n : Nat} (h : p n = true) : tks p first (n + 1) = tks p first n ++ [first + (n : Int)] := by
  unfold tks; rw [List.range_succ, List.filter_append, List.map_append]; simp [h]
theorem tks_no {p : Nat → Bool} {first : Int} {n : Nat} (h : p n = false) : tks p first (n + 1) = tks p first n := by
  unfold tks; rw [List.range_succ, List.filter_append, List.map_append]; simp [h]
theorem tks_len (p : Nat → Bool) (first : Int) (n : Nat) : (tks p first n).length ≤ n := by
  unfold tks; rw [List.length_map]
  exact Nat.le_trans (List.length_filter_le _ _) (by simp)

theorem sl_ints : SlT Try.prog 106 3 (.int .i64 0) 1 8 := ⟨Try.underlying106, by kernel_rfl, by kernel_rfl, by decide⟩

/-- The struct's block is no row's: its type is another one. -/
theorem own_ne {w : World} {B g n size : Nat} {e T : TypeId} {v : Value} {cs : List Value} {c : Array Value} {fr : Nat × Nat} (h : w.ownsRow B e size v n cs) (hg : w.heap[g]? = some (.cells c T fr)) (hT : T ≠ e) : v.ownBlock ≠ some g := by
  intro h1
  rcases h.2 with ⟨rfl, _⟩ | ⟨k, c2, cur, rfl, _, hh, _⟩
  · cases h1
  · simp [Value.ownBlock] at h1
    rw [h1, hg] at hh
    simp at hh
    exact hT hh.2.1
theorem own_setT {w : World} {B g n size : Nat} {e T : TypeId} {v : Value} {cs : List Value} {c : Array Value} {fr : Nat × Nat} (h : w.ownsRow B e size v n cs) (hg : w.heap[g]? = some (.cells c T fr)) (hT : T ≠ e) (j : Nat) (u : Value) : (w.setCell ⟨g, j, none⟩ u).ownsRow B e size v n cs :=
  KeptO.own (O := fun k => k = g) ((KeptO.refl w).setCell _ _ (.inl rfl)) h (fun k hk e => own_ne h hg hT (by rw [hk, e]))

/-- The struct of three lists in block g, its rows apart; block r is the result's, as it was made. -/
structure SAt3 (w0 w : World) (g r : Nat) (T : TypeId) (l1 l2 l3 : List Int) (v1 v2 v3 : Value) : Prop where
  at_ : w.heap[g]? = some (.cells #[v1, v2, v3] T (0, 0))
  rs : w.heap[r]? = some (.cells #[.slice none 0 0, .slice none 0 0, .slice none 0 0] T (0, 0))
  rg : r ≠ g
  hg : w0.heap.size ≤ g
  bl : Blw w0 w
  hT : T ≠ 3
  o1 : w.ownsRow w0.heap.size 3 1 v1 l1.length (i64s l1)
  o2 : w.ownsRow w0.heap.size 3 1 v2 l2.length (i64s l2)
  o3 : w.ownsRow w0.heap.size 3 1 v3 l3.length (i64s l3)
  n12 : ∀ i, v1.ownBlock = some i → v2.ownBlock ≠ some i
  n13 : ∀ i, v1.ownBlock = some i → v3.ownBlock ≠ some i
  n23 : ∀ i, v2.ownBlock = some i → v3.ownBlock ≠ some i

section
variable {w0 w w' W : World} {g r : Nat} {T : TypeId} {l1 l2 l3 : List Int} {v1 v2 v3 v' : Value} {x : Int}
theorem SAt3.blw (h : SAt3 w0 w g r T l1 l2 l3 v1 v2 v3) (k : Blw w w') : SAt3 w0 w' g r T l1 l2 l3 v1 v2 v3 :=
  ⟨(KeptO.of_blw (O := fun _ => False) k).heap h.at_ id, (KeptO.of_blw (O := fun _ => False) k).heap h.rs id, h.rg, h.hg, h.bl.trans k, h.hT, ownsRow_blw h.o1 k, ownsRow_blw h.o2 k, ownsRow_blw h.o3 k, h.n12, h.n13, h.n23⟩
theorem SAt3.cells (h : SAt3 w0 w g r T l1 l2 l3 v1 v2 v3) : w.cell? ⟨g, 0, none⟩ = some v1 ∧ w.cell? ⟨g, 1, none⟩ = some v2 ∧ w.cell? ⟨g, 2, none⟩ = some v3 ∧ (∀ i, w.frozen? ⟨g, i, none⟩ = false) ∧ g < w.heap.size :=
  ⟨(cell_of_row w g 0 _ _ _ h.at_).trans rfl, (cell_of_row w g 1 _ _ _ h.at_).trans rfl, (cell_of_row w g 2 _ _ _ h.at_).trans rfl, fun i => frozen_of_row w g i _ _ h.at_, (Array.getElem?_eq_some_iff.1 h.at_).1⟩
theorem cells3 {w : World} {g : Nat} {T : TypeId} {v1 v2 v3 : Value} (h : w.heap[g]? = some (.cells #[v1, v2, v3] T (0, 0))) : w.cell? ⟨g, 0, none⟩ = some v1 ∧ w.cell? ⟨g, 1, none⟩ = some v2 ∧ w.cell? ⟨g, 2, none⟩ = some v3 ∧ (∀ i, w.frozen? ⟨g, i, none⟩ = false) ∧ g < w.heap.size :=
  ⟨(cell_of_row w g 0 _ _ _ h).trans rfl, (cell_of_row w g 1 _ _ _ h).trans rfl, (cell_of_row w g 2 _ _ _ h).trans rfl, fun i => frozen_of_row w g i _ _ h, (Array.getElem?_eq_some_iff.1 h).1⟩
theorem SAt3.grown1 (h : SAt3 w0 w g r T l1 l2 l3 v1 v2 v3) (hg : w.grownBy w' v1.ownBlock) : w'.heap[g]? = some (.cells #[v1, v2, v3] T (0, 0)) := at_grown hg (own_ne h.o1 h.at_ h.hT).symm h.at_
theorem SAt3.app1 (h : SAt3 w0 w g r T l1 l2 l3 v1 v2 v3) (hown : w'.ownsRow w0.heap.size 3 1 v' (l1.length + 1) (i64s l1 ++ [.int .i64 x])) (hb : Blw w0 w') (hg : w.grownBy w' v1.ownBlock) (ht : v'.ownBlock = v1.ownBlock ∨ v'.ownBlock = some w.heap.size) :
    SAt3 w0 (w'.setCell ⟨g, 0, none⟩ v') g r T (l1 ++ [x]) l2 l3 v' v2 v3 := by
  have hg' := h.grown1 hg
  have hr' := at_grown hg (own_ne h.o1 h.rs h.hT).symm h.rs
  refine ⟨?_, (Below.heap_setCell _ _ _ _ h.rg).trans hr', h.rg, h.hg, hb.setCell _ _ h.hg, h.hT, own_setT (by simpa using hown) hg' h.hT _ _, own_setT (own_past h.o2 (Blw.refl w) hg (fun i hi e => h.n12 i e hi)) hg' h.hT _ _, own_setT (own_past h.o3 (Blw.refl w) hg (fun i hi e => h.n13 i e hi)) hg' h.hT _ _, ?_, ?_, h.n23⟩
  · have := at_set 0 v' hg'
    simpa using this
  · intro i hi hj
    rcases ht with t | t
    · exact h.n12 i (t.symm.trans hi) hj
    · have := (World.ownsRow.lt h.o2 i hj).2
      rw [t] at hi; injection hi with hi; omega
  · intro i hi hj
    rcases ht with t | t
    · exact h.n13 i (t.symm.trans hi) hj
    · have := (World.ownsRow.lt h.o3 i hj).2
      rw [t] at hi; injection hi with hi; omega
theorem SAt3.grown2 (h : SAt3 w0 w g r T l1 l2 l3 v1 v2 v3) (hg : w.grownBy w' v2.ownBlock) : w'.heap[g]? = some (.cells #[v1, v2, v3] T (0, 0)) := at_grown hg (own_ne h.o2 h.at_ h.hT).symm h.at_
theorem SAt3.app2 (h : SAt3 w0 w g r T l1 l2 l3 v1 v2 v3) (hown : w'.ownsRow w0.heap.size 3 1 v' (l2.length + 1) (i64s l2 ++ [.int .i64 x])) (hb : Blw w0 w') (hg : w.grownBy w' v2.ownBlock) (ht : v'.ownBlock = v2.ownBlock ∨ v'.ownBlock = some w.heap.size) :
    SAt3 w0 (w'.setCell ⟨g, 1, none⟩ v') g r T l1 (l2 ++ [x]) l3 v1 v' v3 := by
  have hg' := h.grown2 hg
  have hr' := at_grown hg (own_ne h.o2 h.rs h.hT).symm h.rs
  refine ⟨?_, (Below.heap_setCell _ _ _ _ h.rg).trans hr', h.rg, h.hg, hb.setCell _ _ h.hg, h.hT, own_setT (own_past h.o1 (Blw.refl w) hg (fun i hi e => h.n12 i hi e)) hg' h.hT _ _, own_setT (by simpa using hown) hg' h.hT _ _, own_setT (own_past h.o3 (Blw.refl w) hg (fun i hi e => h.n23 i e hi)) hg' h.hT _ _, ?_, h.n13, ?_⟩
  · have := at_set 1 v' hg'
    simpa using this
  · intro i hi hj
    rcases ht with t | t
    · exact h.n12 i hi (t.symm.trans hj)
    · have := (World.ownsRow.lt h.o1 i hi).2
      rw [t] at hj; injection hj with hj; omega
  · intro i hi hj
    rcases ht with t | t
    · exact h.n23 i (t.symm.trans hi) hj
    · have := (World.ownsRow.lt h.o3 i hj).2
      rw [t] at hi; injection hi with hi; omega
theorem SAt3.grown3 (h : SAt3 w0 w g r T l1 l2 l3 v1 v2 v3) (hg : w.grownBy w' v3.ownBlock) : w'.heap[g]? = some (.cells #[v1, v2, v3] T (0, 0)) := at_grown hg (own_ne h.o3 h.at_ h.hT).symm h.at_
theorem SAt3.app3 (h : SAt3 w0 w g r T l1 l2 l3 v1 v2 v3) (hown : w'.ownsRow w0.heap.size 3 1 v' (l3.length + 1) (i64s l3 ++ [.int .i64 x])) (hb : Blw w0 w') (hg : w.grownBy w' v3.ownBlock) (ht : v'.ownBlock = v3.ownBlock ∨ v'.ownBlock = some w.heap.size) :
    SAt3 w0 (w'.setCell ⟨g, 2, none⟩ v') g r T l1 l2 (l3 ++ [x]) v1 v2 v' := by
  have hg' := h.grown3 hg
  have hr' := at_grown hg (own_ne h.o3 h.rs h.hT).symm h.rs
  refine ⟨?_, (Below.heap_setCell _ _ _ _ h.rg).trans hr', h.rg, h.hg, hb.setCell _ _ h.hg, h.hT, own_setT (own_past h.o1 (Blw.refl w) hg (fun i hi e => h.n13 i hi e)) hg' h.hT _ _, own_setT (own_past h.o2 (Blw.refl w) hg (fun i hi e => h.n23 i hi e)) hg' h.hT _ _, own_setT (by simpa using hown) hg' h.hT _ _, h.n12, ?_, ?_⟩
  · have := at_set 2 v' hg'
    simpa using this
  · intro i hi hj
    rcases ht with t | t
    · exact h.n13 i hi (t.symm.trans hj)
    · have := (World.ownsRow.lt h.o1 i hi).2
      rw [t] at hj; injection hj with hj; omega
  · intro i hi hj
    rcases ht with t | t
    · exact h.n23 i hi (t.symm.trans hj)
    · have := (World.ownsRow.lt h.o2 i hi).2
      rw [t] at hj; injection hj with hj; omega
end
end Go.Proofs.Ytigkfdoeneemeaa
/- The walk of water.Sures. -/
namespace Go.Proofs.Ytigkfdoeneemeaa
open Go.RowKit

def scj (l : List (Nat × Nat)) (i j : Nat) : SC := if j = 0 then sc0 else if j = 1 then sc1 l i else sc2 l i
def SuresOut (w : World) (l : List (Nat × Nat)) (first : Int) (e : Ending) (w' : World) : Prop :=
  ∃ (v1 v2 v3 : Value), e = .returned (.tuple #[.agg #[v1, v2, v3], .int .i64 0]) ∧ Blw w w' ∧ w'.ownsRow w.heap.size 3 1 v1 (tks (isTop l) first l.length).length (i64s (tks (isTop l) first l.length)) ∧
    w'.ownsRow w.heap.size 3 1 v2 (tks (isBot l) first l.length).length (i64s (tks (isBot l) first l.length)) ∧ w'.ownsRow w.heap.size 3 1 v3 (tks (isDbt l) first l.length).length (i64s (tks (isDbt l) first l.length)) ∧
    (∀ i, v1.ownBlock = some i → v2.ownBlock ≠ some i) ∧ (∀ i, v1.ownBlock = some i → v3.ownBlock ≠ some i) ∧ (∀ i, v2.ownBlock = some i → v3.ownBlock ≠ some i)

theorem tks_is (p : Nat → Bool) (first : Int) (n : Nat) : tks p first (n + 1) = if p n then tks p first n ++ [first + (n : Int)] else tks p first n := by
  split
  · exact tks_yes (by assumption)
  · exact tks_no (by simpa using (by assumption : ¬ p n = true))
theorem sure_end {w wr : World} {l : List (Nat × Nat)} {first : Int} {v1 v2 v3 : Value} (h : SAt3 w wr (w.heap.size + 1) w.heap.size 108 (tks (isTop l) first l.length) (tks (isBot l) first l.length) (tks (isDbt l) first l.length) v1 v2 v3) :
    Blw w (((wr.setCell ⟨w.heap.size, 0, none⟩ v1).setCell ⟨w.heap.size, 1, none⟩ v2).setCell ⟨w.heap.size, 2, none⟩ v3) ∧
    (((wr.setCell ⟨w.heap.size, 0, none⟩ v1).setCell ⟨w.heap.size, 1, none⟩ v2).setCell ⟨w.heap.size, 2, none⟩ v3).ownsRow w.heap.size 3 1 v1 (tks (isTop l) first l.length).length (i64s (tks (isTop l) first l.length)) ∧
    (((wr.setCell ⟨w.heap.size, 0, none⟩ v1).setCell ⟨w.heap.size, 1, none⟩ v2).setCell ⟨w.heap.size, 2, none⟩ v3).ownsRow w.heap.size 3 1 v2 (tks (isBot l) first l.length).length (i64s (tks (isBot l) first l.length)) ∧
    (((wr.setCell ⟨w.heap.size, 0, none⟩ v1).setCell ⟨w.heap.size, 1, none⟩ v2).setCell ⟨w.heap.size, 2, none⟩ v3).ownsRow w.heap.size 3 1 v3 (tks (isDbt l) first l.length).length (i64s (tks (isDbt l) first l.length)) ∧
    (∀ i, v1.ownBlock = some i → v2.ownBlock ≠ some i) ∧ (∀ i, v1.ownBlock = some i → v3.ownBlock ≠ some i) ∧ (∀ i, v2.ownBlock = some i → v3.ownBlock ≠ some i) := by
  have set3 : ∀ {n : Nat} {v : Value} {cs : List Value}, wr.ownsRow w.heap.size 3 1 v n cs → (((wr.setCell ⟨w.heap.size, 0, none⟩ v1).setCell ⟨w.heap.size, 1, none⟩ v2).setCell ⟨w.heap.size, 2, none⟩ v3).ownsRow w.heap.size 3 1 v n cs :=
    fun o => KeptO.own (O := fun k => k = w.heap.size) (((KeptO.setCell (KeptO.refl (O := fun k => k = w.heap.size) wr) ⟨w.heap.size, 0, none⟩ v1 (.inl rfl)).setCell ⟨w.heap.size, 1, none⟩ v2 (.inl rfl)).setCell ⟨w.heap.size, 2, none⟩ v3 (.inl rfl)) o (fun k hk e => own_ne o h.rs h.hT (by rw [hk, e]))
  exact ⟨blw_three h.bl (Nat.le_refl _) _ _ _, set3 h.o1, set3 h.o2, set3 h.o3, h.n12, h.n13, h.n23⟩

theorem scAt_le (l : List (Nat × Nat)) (i k : Nat) (s : SC) : (scAt l i k s).hi ≤ s.hi + 1 ∧ (scAt l i k s).lo ≤ s.lo + 1 ∧ (scAt l i k s).nr ≤ s.nr + 1 := by
  unfold scAt
  refine ⟨?_, ?_, Nat.le_refl _⟩
  · simp only; split <;> omega
  · simp only; split <;> omega
theorem sc1_le (l : List (Nat × Nat)) (i : Nat) : (sc1 l i).hi ≤ 1 ∧ (sc1 l i).lo ≤ 1 ∧ (sc1 l i).nr ≤ 1 := by
  unfold sc1
  split
  · exact scAt_le l i (i - 1) sc0
  · exact ⟨Nat.zero_le _, Nat.zero_le _, Nat.zero_le _⟩
theorem sc2_le (l : List (Nat × Nat)) (i : Nat) : (sc2 l i).hi ≤ 2 ∧ (sc2 l i).lo ≤ 2 ∧ (sc2 l i).nr ≤ 2 := by
  have h := sc1_le l i
  unfold sc2
  split
  · have := scAt_le l i (i + 1) (sc1 l i)
    omega
  · omega
theorem put_eq {K : Act → World → Prop} {a : Act} {d : Option Nat} {v v' : Value} {w : World} (h : v = v') (k : K (a.put d v') w) : K (a.put d v) w := by rw [h]; exact k
theorem low_at {l : List (Nat × Nat)} {i k : Nat} {x y : Nat × Nat} (hx : l[i]? = some x) (hy : l[k]? = some y) : low l i k = lowerB x.1 x.2 y.1 y.2 := by
  unfold low; rw [List.getD_eq_getElem?_getD, List.getD_eq_getElem?_getD, hx, hy]; rfl

set_option maxRecDepth 100000 in
set_option maxHeartbeats 8000000 in
theorem sures_ok (A : Option Addr) (l : List (Nat × Nat)) (cap : Nat) (first : Int) (w : World) (hA : Arr w A (offs l)) (hc : cntd l.length first = 0) :
    Calls Try.prog 81 #[.slice A l.length cap, .int .i64 first] w (SuresOut w l first) := by
  obtain ⟨hlen, hf0, hf1, hfn⟩ := cntd_zero hc
  have CN := fun W => counted_any l.length first W (by omega)
  rw [hc] at CN
  have HCN := Lib.hid CN
  clear CN hc
  have hS0 : SAt3 w ((w.alloc (.cells #[.slice none 0 0, .slice none 0 0, .slice none 0 0] 108)).alloc (.cells #[.slice none 0 0, .slice none 0 0, .slice none 0 0] 108)) (w.heap.size + 1) w.heap.size 108 [] [] [] (.slice none 0 0) (.slice none 0 0) (.slice none 0 0) :=
    ⟨heap_alloc_at (by simp), at_alloc _ (heap_alloc_new _ _), by omega, by omega, (by repeat (first | exact Blw.refl _ | apply Blw.ext | apply Blw.alloc | apply Blw.drewN | apply Blw.drew | refine Blw.setCell ?_ _ _ (by simp))), by decide, World.ownsRow_nil _ _ _ _, World.ownsRow_nil _ _ _ _, World.ownsRow_nil _ _ _ _, (fun i h => by cases h), (fun i h => by cases h), (fun i h => by cases h)⟩
  go_enter Try.func81, Try.ntmps81
  go_wp2_with (go_at_call 126; refine Calls.mono (HCN.out _) ?_; rintro e w1 ⟨rfl, rfl⟩)
  clear HCN
  go_loopw [28] (fun vi wr => ∃ (i : Nat) (v1 v2 v3 : Value), i ≤ l.length ∧ vi = .int .i64 i ∧ SAt3 w wr (w.heap.size + 1) w.heap.size 108 (tks (isTop l) first i) (tks (isBot l) first i) (tks (isDbt l) first i) v1 v2 v3) (fun i _ => l.length - (intOf i).toNat)
  case atStart => exact ⟨0, _, _, _, Nat.zero_le _, rfl, hS0⟩
  case round =>
    obtain ⟨i, v1, v2, v3, hi, rfl, hS⟩ := hrel
    clear hS0
    have hb := hS.bl
    by_cases hlt : i < l.length
    · obtain ⟨x, b, o, hgx, -, rfl, hbs, c0, c1⟩ := off_at (hA.blw hb) hlt
      have HX := Lib.hid hgx
      have hbw : b < w.heap.size := by
        obtain ⟨_, _, _, _, _, e, e2, _⟩ := off_at hA hlt
        cases e; exact e2
      clear hgx
      have i1 : IntKind.i64.wrap ((i : Int) - 1) = (i : Int) - 1 := by rw [IntKind.wrap_i64]; omega
      have i2 : IntKind.i64.wrap ((i : Int) + 1) = (i : Int) + 1 := by rw [IntKind.wrap_i64]; omega
      have bx : ∀ W : World, Blw (wr.alloc (.cells #[.float .f64 x.1, .float .f64 x.2] 26)) W → W.cell? ⟨wr.heap.size, 0, none⟩ = some (.float .f64 x.1) ∧ W.cell? ⟨wr.heap.size, 1, none⟩ = some (.float .f64 x.2) ∧ wr.heap.size < W.heap.size ∧ Blw w W := by
        intro W hW
        have hz : wr.heap.size < (wr.alloc (.cells #[.float .f64 x.1, .float .f64 x.2] 26)).heap.size := by simp
        exact ⟨(Below.cell hW hz).trans (by go_simp), (Below.cell hW hz).trans (by go_simp), Nat.lt_of_lt_of_le hz hW.size, (hb.alloc _).trans hW⟩
      have HBX := Lib.hid bx
      clear bx
      go_wp2
      go_loopg [10, 11, 12, 13, 38] 2 (fun g vh vl vn vd vk wq => ∃ j : Nat, j + g = 2 ∧ vk = .int .i64 j ∧ vh = .int .i64 (scj l i j).hi ∧ vl = .int .i64 (scj l i j).lo ∧ vn = .int .i64 (scj l i j).nr ∧ vd = .bool (scj l i j).db ∧ Blw (wr.alloc (.cells #[.float .f64 x.1, .float .f64 x.2] 26)) wq)
      case atStart => exact ⟨0, rfl, rfl, rfl, rfl, rfl, rfl, Blw.refl _⟩
      case round =>
        obtain ⟨j, hj, rfl, rfl, rfl, rfl, rfl, hby⟩ := hrel
        have ix0 : ∀ (p q : Value) (w : World), (Instr.index 150 (.agg #[p, q]) (.int .i64 0)).run Try.prog w = .ok p w := fun _ _ _ => by kernel_rfl
        have ix1 : ∀ (p q : Value) (w : World), (Instr.index 150 (.agg #[p, q]) (.int .i64 1)).run Try.prog w = .ok q w := fun _ _ _ => by kernel_rfl
        have hj3 : j = 0 ∨ j = 1 ∨ j = 2 := by omega
        rcases hj3 with rfl | rfl | rfl
        · by_cases hz0 : i = 0
          · subst hz0
            obtain rfl : gk = 2 := by omega
            have hs : scj l 0 1 = scj l 0 0 := rfl
            go_wp2
            go_roundg 1
            case rel => exact ⟨1, by omega, rfl, rfl, rfl, rfl, rfl, hby⟩
            case measure => omega
          · obtain ⟨m, hm⟩ : ∃ m, i = m + 1 := ⟨i - 1, by omega⟩
            have HM := Lib.hid hm
            have hml : m < l.length := by omega
            have t0 : (0 : Int) ≤ (i : Int) - 1 := by omega
            have t1 : (i : Int) - 1 < (l.length : Int) := by omega
            have t2 : ((i : Int) - 1).toNat = m := by omega
            have t5 : (1 : Int) ≤ (i : Int) := by omega
            have t6 : 1 ≤ i := by omega
            have t7 : ((i : Int) - 1).toNat * 2 = m * 2 := by omega
            have t3 : decide ((i : Int) - 1 < 0) = false := by simp; omega
            have t4 : decide ((l.length : Int) ≤ (i : Int) - 1) = false := by simp; omega
            clear hm
            obtain rfl : gk = 2 := by omega
            obtain ⟨bx0, bx1, bxl, hbW⟩ := HBX.out _ hby
            obtain ⟨y, b2, o2, hgy, -, e2, hbs2, d0, d1⟩ := off_at (k := m) (hA.blw hbW) hml
            simp only [Option.some.injEq, Addr.mk.injEq] at e2
            obtain ⟨rfl, rfl, -⟩ := e2
            have hlo1 := low_at hgy HX.out
            have hlo2 := low_at HX.out hgy
            have U1 := fun W => lower_any y.1 y.2 x.1 x.2 W
            have U2 := fun W => lower_any x.1 x.2 y.1 y.2 W
            have hn : scj l i 1 = scAt l i (m) (scj l i 0) := by have h := HM.out; clear HM; subst h; rfl
            unfold scAt at hn
            rw [hlo1, hlo2] at hn
            have bd : (scj l i 0).hi ≤ 1 ∧ (scj l i 0).lo ≤ 1 ∧ (scj l i 0).nr ≤ 1 := ⟨Nat.zero_le _, Nat.zero_le _, Nat.zero_le _⟩
            obtain ⟨⟨sa, sb, sn, sd⟩, hs⟩ := ex_hid (scj l i 0)
            rw [hs.out] at hn bd ⊢
            generalize lowerB y.1 y.2 x.1 x.2 = ab at *
            generalize lowerB x.1 x.2 y.1 y.2 = be at *
            simp only at hn bd ⊢
            have HU1 := Lib.hid U1
            have HU2 := Lib.hid U2
            have HN := Lib.hid hn
            have HGY := Lib.hid hgy
            clear U1 U2 hlo1 hlo2 hn hgy
            have hz1 := Lib.hid hz0
            clear hz0
            have wa : IntKind.i64.wrap ((sa : Int) + 1) = (sa : Int) + 1 := by rw [IntKind.wrap_i64]; omega
            have wb : IntKind.i64.wrap ((sb : Int) + 1) = (sb : Int) + 1 := by rw [IntKind.wrap_i64]; omega
            have wn : IntKind.i64.wrap ((sn : Int) + 1) = (sn : Int) + 1 := by rw [IntKind.wrap_i64]; omega
            go_wp2
            refine wp_region_ext_lit (by kernel_rfl) (by kernel_rfl) ?_
            repeat (quiet_step (first | (go_at_call 16; (with_reducible exact Calls.ext_of (HU1.out _))) | (go_at_call 16; (with_reducible exact Calls.ext_of (HU2.out _)))))
            refine wpQuiet_nil ?_
            rintro _ ⟨z, rfl⟩
            clear d0 d1 bx0 bx1 HU1 HU2
            cases ab <;> cases be <;> cases sd
            all_goals
              go_wp2
              go_roundg 1
              case rel => exact ⟨1, by omega, by go_num, by rw [HN.out]; simp, by rw [HN.out]; simp, by rw [HN.out]; simp, by rw [HN.out]; simp, hby.ext z⟩
              case measure => omega
        · obtain rfl : gk = 1 := by omega
          have t0 : (0 : Int) ≤ (i : Int) + 1 := by omega
          have t2 : ((i : Int) + 1).toNat = i + 1 := by omega
          have t3 : decide ((i : Int) + 1 < 0) = false := by simp; omega
          by_cases hk1 : i + 1 < l.length
          · have t1 : (i : Int) + 1 < (l.length : Int) := by omega
            have t4 : decide ((l.length : Int) ≤ (i : Int) + 1) = false := by simp; omega
            obtain ⟨bx0, bx1, bxl, hbW⟩ := HBX.out _ hby
            obtain ⟨y, b2, o2, hgy, -, e2, hbs2, d0, d1⟩ := off_at (k := i + 1) (hA.blw hbW) hk1
            simp only [Option.some.injEq, Addr.mk.injEq] at e2
            obtain ⟨rfl, rfl, -⟩ := e2
            have hlo1 := low_at hgy HX.out
            have hlo2 := low_at HX.out hgy
            have U1 := fun W => lower_any y.1 y.2 x.1 x.2 W
            have U2 := fun W => lower_any x.1 x.2 y.1 y.2 W
            have hn : scj l i 2 = scAt l i (i + 1) (scj l i 1) := by show sc2 l i = _; unfold sc2; rw [if_pos hk1]; rfl
            unfold scAt at hn
            rw [hlo1, hlo2] at hn
            have bd : (scj l i 1).hi ≤ 1 ∧ (scj l i 1).lo ≤ 1 ∧ (scj l i 1).nr ≤ 1 := sc1_le l i
            obtain ⟨⟨sa, sb, sn, sd⟩, hs⟩ := ex_hid (scj l i 1)
            rw [hs.out] at hn bd ⊢
            generalize lowerB y.1 y.2 x.1 x.2 = ab at *
            generalize lowerB x.1 x.2 y.1 y.2 = be at *
            simp only at hn bd ⊢
            have HU1 := Lib.hid U1
            have HU2 := Lib.hid U2
            have HN := Lib.hid hn
            have HGY := Lib.hid hgy
            clear U1 U2 hlo1 hlo2 hn hgy
            have wa : IntKind.i64.wrap ((sa : Int) + 1) = (sa : Int) + 1 := by rw [IntKind.wrap_i64]; omega
            have wb : IntKind.i64.wrap ((sb : Int) + 1) = (sb : Int) + 1 := by rw [IntKind.wrap_i64]; omega
            have wn : IntKind.i64.wrap ((sn : Int) + 1) = (sn : Int) + 1 := by rw [IntKind.wrap_i64]; omega
            go_wp2
            refine wp_region_ext_lit (by kernel_rfl) (by kernel_rfl) ?_
            repeat (quiet_step (first | (go_at_call 16; (with_reducible exact Calls.ext_of (HU1.out _))) | (go_at_call 16; (with_reducible exact Calls.ext_of (HU2.out _)))))
            refine wpQuiet_nil ?_
            rintro _ ⟨z, rfl⟩
            clear d0 d1 bx0 bx1 HU1 HU2
            cases ab <;> cases be <;> cases sd
            all_goals
              go_wp2
              go_roundg 0
              case rel => exact ⟨2, by omega, by go_num, by rw [HN.out]; simp, by rw [HN.out]; simp, by rw [HN.out]; simp, by rw [HN.out]; simp, hby.ext z⟩
              case measure => omega
          · have t4 : decide ((l.length : Int) ≤ (i : Int) + 1) = true := by simp; omega
            have hn : scj l i 2 = scj l i 1 := by show sc2 l i = _; unfold sc2; rw [if_neg hk1]; rfl
            have HN := Lib.hid hn
            clear hn
            go_wp2
            go_roundg 0
            case measure => omega
            case rel => exact ⟨2, by omega, by go_num, by rw [HN.out], by rw [HN.out], by rw [HN.out], by rw [HN.out], hby⟩
        · obtain rfl : gk = 0 := by omega
          have S0 := hS.blw (((Blw.refl _).alloc _).trans hby)
          have e2 : scj l i 2 = sc2 l i := rfl
          rw [e2]
          have hT : isTop l i = ((sc2 l i).nr == 2 && (sc2 l i).hi == 2) := rfl
          have hB : isBot l i = ((sc2 l i).nr == 2 && (sc2 l i).lo == 2) := rfl
          have hD : isDbt l i = (sc2 l i).db := rfl
          obtain ⟨⟨sa, sb, sn, sd⟩, hs⟩ := ex_hid (sc2 l i)
          rw [hs.out] at hT hB hD ⊢
          simp only at hT hB hD ⊢
          have cs : ∀ n : Nat, ((n : Int) == 2) = (n == 2) := fun n => by rw [Bool.eq_iff_iff, beq_iff_eq, beq_iff_eq]; omega
          have c1 := cs sa
          have c2 := cs sb
          have c3 := cs sn
          generalize (sa == 2) = ba at *
          generalize (sb == 2) = bb at *
          generalize (sn == 2) = bn at *
          have n1 := tks_len (isTop l) first i
          have n2 := tks_len (isBot l) first i
          have n3 := tks_len (isDbt l) first i
          have HR : ∀ (W : World) (u1 u2 u3 : Value), SAt3 w W (w.heap.size + 1) w.heap.size 108 (if bn && ba then tks (isTop l) first i ++ [first + (i : Int)] else tks (isTop l) first i) (if bn && bb then tks (isBot l) first i ++ [first + (i : Int)] else tks (isBot l) first i) (if sd then tks (isDbt l) first i ++ [first + (i : Int)] else tks (isDbt l) first i) u1 u2 u3 →
              SAt3 w W (w.heap.size + 1) w.heap.size 108 (tks (isTop l) first (i + 1)) (tks (isBot l) first (i + 1)) (tks (isDbt l) first (i + 1)) u1 u2 u3 := by
            intro W u1 u2 u3 h
            rw [tks_is, tks_is, tks_is, hT, hB, hD]; exact h
          have HHR := Lib.hid HR
          clear e2 hT hB hD hS hb hby cs hs HR
          generalize tks (isTop l) first i = L1 at *
          generalize tks (isBot l) first i = L2 at *
          generalize tks (isDbt l) first i = L3 at *
          obtain ⟨a1, cc1, rfl, -, -, -, -, -⟩ := own_arr S0.o1
          obtain ⟨a2, cc2, rfl, -, -, -, -, -⟩ := own_arr S0.o2
          obtain ⟨a3, cc3, rfl, -, -, -, -, -⟩ := own_arr S0.o3
          cases sd
          · cases bn
            · go_wp2
              go_roundw
              case rel => exact ⟨i + 1, _, _, _, by omega, by go_num, HHR.out _ _ _ _ S0⟩
              case measure => simp [intOf]; omega
            · cases ba
              · cases bb
                · go_wp2
                  go_roundw
                  case rel => exact ⟨i + 1, _, _, _, by omega, by go_num, HHR.out _ _ _ _ S0⟩
                  case measure => simp [intOf]; omega
                · obtain ⟨x1, x2, x3, x4, x5⟩ := S0.cells
                  go_wp2_with (first | (at_builtin; have p := S0.o2; refine wpList_app2 w _ rfl _ _ 106 rfl sl_ints (S0.bl.alloc _) _ L2.length (i64s L2) rfl (ownsRow_blw p ((Blw.refl _).alloc _)) _ 1 1 [.int .i64 (first + (i : Int))] rfl (by simp) (Arr.lit_at _ _ _ _ (by simp)) (by simp) (by simp [Value.oneCell']) (by unfold maxLen; omega) (by omega) ?_; intro v10 w10 q1 q2 q3 q4; obtain ⟨y1, y2, y3, y4, y5⟩ := cells3 (SAt3.grown2 (S0.blw ((Blw.refl _).alloc _)) q3); have S1 := SAt3.app2 (S0.blw ((Blw.refl _).alloc _)) q1 q2 q3 q4; obtain ⟨ab, cb, rfl, -, -, -, -, -⟩ := own_arr q1; clear p q1 q2 q3 q4 S0))
                  go_roundw
                  case rel => exact ⟨i + 1, _, _, _, by omega, by go_num, HHR.out _ _ _ _ S1⟩
                  case measure => simp [intOf]; omega
              · cases bb
                · obtain ⟨x1, x2, x3, x4, x5⟩ := S0.cells
                  go_wp2_with (first | (at_builtin; have p := S0.o1; refine wpList_app2 w _ rfl _ _ 106 rfl sl_ints (S0.bl.alloc _) _ L1.length (i64s L1) rfl (ownsRow_blw p ((Blw.refl _).alloc _)) _ 1 1 [.int .i64 (first + (i : Int))] rfl (by simp) (Arr.lit_at _ _ _ _ (by simp)) (by simp) (by simp [Value.oneCell']) (by unfold maxLen; omega) (by omega) ?_; intro v10 w10 q1 q2 q3 q4; obtain ⟨y1, y2, y3, y4, y5⟩ := cells3 (SAt3.grown1 (S0.blw ((Blw.refl _).alloc _)) q3); have S1 := SAt3.app1 (S0.blw ((Blw.refl _).alloc _)) q1 q2 q3 q4; obtain ⟨ab, cb, rfl, -, -, -, -, -⟩ := own_arr q1; clear p q1 q2 q3 q4 S0))
                  go_roundw
                  case rel => exact ⟨i + 1, _, _, _, by omega, by go_num, HHR.out _ _ _ _ S1⟩
                  case measure => simp [intOf]; omega
                · obtain ⟨x1, x2, x3, x4, x5⟩ := S0.cells
                  go_wp2_with (first | (at_builtin; have p := S0.o1; refine wpList_app2 w _ rfl _ _ 106 rfl sl_ints (S0.bl.alloc _) _ L1.length (i64s L1) rfl (ownsRow_blw p ((Blw.refl _).alloc _)) _ 1 1 [.int .i64 (first + (i : Int))] rfl (by simp) (Arr.lit_at _ _ _ _ (by simp)) (by simp) (by simp [Value.oneCell']) (by unfold maxLen; omega) (by omega) ?_; intro v10 w10 q1 q2 q3 q4; obtain ⟨y1, y2, y3, y4, y5⟩ := cells3 (SAt3.grown1 (S0.blw ((Blw.refl _).alloc _)) q3); have S1 := SAt3.app1 (S0.blw ((Blw.refl _).alloc _)) q1 q2 q3 q4; obtain ⟨ab, cb, rfl, -, -, -, -, -⟩ := own_arr q1; clear p q1 q2 q3 q4 S0) | (at_builtin; have p := S1.o2; refine wpList_app2 w _ rfl _ _ 106 rfl sl_ints (S1.bl.alloc _) _ L2.length (i64s L2) rfl (ownsRow_blw p ((Blw.refl _).alloc _)) _ 1 1 [.int .i64 (first + (i : Int))] rfl (by simp) (Arr.lit_at _ _ _ _ (by simp)) (by simp) (by simp [Value.oneCell']) (by unfold maxLen; omega) (by omega) ?_; intro v11 w11 q1 q2 q3 q4; obtain ⟨y1, y2, y3, y4, y5⟩ := cells3 (SAt3.grown2 (S1.blw ((Blw.refl _).alloc _)) q3); have S2 := SAt3.app2 (S1.blw ((Blw.refl _).alloc _)) q1 q2 q3 q4; obtain ⟨ab, cb, rfl, -, -, -, -, -⟩ := own_arr q1; clear p q1 q2 q3 q4 S1))
                  go_roundw
                  case rel => exact ⟨i + 1, _, _, _, by omega, by go_num, HHR.out _ _ _ _ S2⟩
                  case measure => simp [intOf]; omega
          · cases bn
            · obtain ⟨x1, x2, x3, x4, x5⟩ := S0.cells
              go_wp2_with (first | (at_builtin; have p := S0.o3; refine wpList_app2 w _ rfl _ _ 106 rfl sl_ints (S0.bl.alloc _) _ L3.length (i64s L3) rfl (ownsRow_blw p ((Blw.refl _).alloc _)) _ 1 1 [.int .i64 (first + (i : Int))] rfl (by simp) (Arr.lit_at _ _ _ _ (by simp)) (by simp) (by simp [Value.oneCell']) (by unfold maxLen; omega) (by omega) ?_; intro v10 w10 q1 q2 q3 q4; obtain ⟨y1, y2, y3, y4, y5⟩ := cells3 (SAt3.grown3 (S0.blw ((Blw.refl _).alloc _)) q3); have S1 := SAt3.app3 (S0.blw ((Blw.refl _).alloc _)) q1 q2 q3 q4; obtain ⟨ab, cb, rfl, -, -, -, -, -⟩ := own_arr q1; clear p q1 q2 q3 q4 S0))
              go_roundw
              case rel => exact ⟨i + 1, _, _, _, by omega, by go_num, HHR.out _ _ _ _ S1⟩
              case measure => simp [intOf]; omega
            · cases ba
              · cases bb
                · obtain ⟨x1, x2, x3, x4, x5⟩ := S0.cells
                  go_wp2_with (first | (at_builtin; have p := S0.o3; refine wpList_app2 w _ rfl _ _ 106 rfl sl_ints (S0.bl.alloc _) _ L3.length (i64s L3) rfl (ownsRow_blw p ((Blw.refl _).alloc _)) _ 1 1 [.int .i64 (first + (i : Int))] rfl (by simp) (Arr.lit_at _ _ _ _ (by simp)) (by simp) (by simp [Value.oneCell']) (by unfold maxLen; omega) (by omega) ?_; intro v10 w10 q1 q2 q3 q4; obtain ⟨y1, y2, y3, y4, y5⟩ := cells3 (SAt3.grown3 (S0.blw ((Blw.refl _).alloc _)) q3); have S1 := SAt3.app3 (S0.blw ((Blw.refl _).alloc _)) q1 q2 q3 q4; obtain ⟨ab, cb, rfl, -, -, -, -, -⟩ := own_arr q1; clear p q1 q2 q3 q4 S0))
                  go_roundw
                  case rel => exact ⟨i + 1, _, _, _, by omega, by go_num, HHR.out _ _ _ _ S1⟩
                  case measure => simp [intOf]; omega
                · obtain ⟨x1, x2, x3, x4, x5⟩ := S0.cells
                  go_wp2_with (first | (at_builtin; have p := S0.o3; refine wpList_app2 w _ rfl _ _ 106 rfl sl_ints (S0.bl.alloc _) _ L3.length (i64s L3) rfl (ownsRow_blw p ((Blw.refl _).alloc _)) _ 1 1 [.int .i64 (first + (i : Int))] rfl (by simp) (Arr.lit_at _ _ _ _ (by simp)) (by simp) (by simp [Value.oneCell']) (by unfold maxLen; omega) (by omega) ?_; intro v10 w10 q1 q2 q3 q4; obtain ⟨y1, y2, y3, y4, y5⟩ := cells3 (SAt3.grown3 (S0.blw ((Blw.refl _).alloc _)) q3); have S1 := SAt3.app3 (S0.blw ((Blw.refl _).alloc _)) q1 q2 q3 q4; obtain ⟨ab, cb, rfl, -, -, -, -, -⟩ := own_arr q1; clear p q1 q2 q3 q4 S0) | (at_builtin; have p := S1.o2; refine wpList_app2 w _ rfl _ _ 106 rfl sl_ints (S1.bl.alloc _) _ L2.length (i64s L2) rfl (ownsRow_blw p ((Blw.refl _).alloc _)) _ 1 1 [.int .i64 (first + (i : Int))] rfl (by simp) (Arr.lit_at _ _ _ _ (by simp)) (by simp) (by simp [Value.oneCell']) (by unfold maxLen; omega) (by omega) ?_; intro v11 w11 q1 q2 q3 q4; obtain ⟨y1, y2, y3, y4, y5⟩ := cells3 (SAt3.grown2 (S1.blw ((Blw.refl _).alloc _)) q3); have S2 := SAt3.app2 (S1.blw ((Blw.refl _).alloc _)) q1 q2 q3 q4; obtain ⟨ab, cb, rfl, -, -, -, -, -⟩ := own_arr q1; clear p q1 q2 q3 q4 S1))
                  go_roundw
                  case rel => exact ⟨i + 1, _, _, _, by omega, by go_num, HHR.out _ _ _ _ S2⟩
                  case measure => simp [intOf]; omega
              · cases bb
                · obtain ⟨x1, x2, x3, x4, x5⟩ := S0.cells
                  go_wp2_with (first | (at_builtin; have p := S0.o3; refine wpList_app2 w _ rfl _ _ 106 rfl sl_ints (S0.bl.alloc _) _ L3.length (i64s L3) rfl (ownsRow_blw p ((Blw.refl _).alloc _)) _ 1 1 [.int .i64 (first + (i : Int))] rfl (by simp) (Arr.lit_at _ _ _ _ (by simp)) (by simp) (by simp [Value.oneCell']) (by unfold maxLen; omega) (by omega) ?_; intro v10 w10 q1 q2 q3 q4; obtain ⟨y1, y2, y3, y4, y5⟩ := cells3 (SAt3.grown3 (S0.blw ((Blw.refl _).alloc _)) q3); have S1 := SAt3.app3 (S0.blw ((Blw.refl _).alloc _)) q1 q2 q3 q4; obtain ⟨ab, cb, rfl, -, -, -, -, -⟩ := own_arr q1; clear p q1 q2 q3 q4 S0) | (at_builtin; have p := S1.o1; refine wpList_app2 w _ rfl _ _ 106 rfl sl_ints (S1.bl.alloc _) _ L1.length (i64s L1) rfl (ownsRow_blw p ((Blw.refl _).alloc _)) _ 1 1 [.int .i64 (first + (i : Int))] rfl (by simp) (Arr.lit_at _ _ _ _ (by simp)) (by simp) (by simp [Value.oneCell']) (by unfold maxLen; omega) (by omega) ?_; intro v11 w11 q1 q2 q3 q4; obtain ⟨y1, y2, y3, y4, y5⟩ := cells3 (SAt3.grown1 (S1.blw ((Blw.refl _).alloc _)) q3); have S2 := SAt3.app1 (S1.blw ((Blw.refl _).alloc _)) q1 q2 q3 q4; obtain ⟨ab, cb, rfl, -, -, -, -, -⟩ := own_arr q1; clear p q1 q2 q3 q4 S1))
                  go_roundw
                  case rel => exact ⟨i + 1, _, _, _, by omega, by go_num, HHR.out _ _ _ _ S2⟩
                  case measure => simp [intOf]; omega
                · obtain ⟨x1, x2, x3, x4, x5⟩ := S0.cells
                  go_wp2_with (first | (at_builtin; have p := S0.o3; refine wpList_app2 w _ rfl _ _ 106 rfl sl_ints (S0.bl.alloc _) _ L3.length (i64s L3) rfl (ownsRow_blw p ((Blw.refl _).alloc _)) _ 1 1 [.int .i64 (first + (i : Int))] rfl (by simp) (Arr.lit_at _ _ _ _ (by simp)) (by simp) (by simp [Value.oneCell']) (by unfold maxLen; omega) (by omega) ?_; intro v10 w10 q1 q2 q3 q4; obtain ⟨y1, y2, y3, y4, y5⟩ := cells3 (SAt3.grown3 (S0.blw ((Blw.refl _).alloc _)) q3); have S1 := SAt3.app3 (S0.blw ((Blw.refl _).alloc _)) q1 q2 q3 q4; obtain ⟨ab, cb, rfl, -, -, -, -, -⟩ := own_arr q1; clear p q1 q2 q3 q4 S0) | (at_builtin; have p := S1.o1; refine wpList_app2 w _ rfl _ _ 106 rfl sl_ints (S1.bl.alloc _) _ L1.length (i64s L1) rfl (ownsRow_blw p ((Blw.refl _).alloc _)) _ 1 1 [.int .i64 (first + (i : Int))] rfl (by simp) (Arr.lit_at _ _ _ _ (by simp)) (by simp) (by simp [Value.oneCell']) (by unfold maxLen; omega) (by omega) ?_; intro v11 w11 q1 q2 q3 q4; obtain ⟨y1, y2, y3, y4, y5⟩ := cells3 (SAt3.grown1 (S1.blw ((Blw.refl _).alloc _)) q3); have S2 := SAt3.app1 (S1.blw ((Blw.refl _).alloc _)) q1 q2 q3 q4; obtain ⟨ab, cb, rfl, -, -, -, -, -⟩ := own_arr q1; clear p q1 q2 q3 q4 S1) | (at_builtin; have p := S2.o2; refine wpList_app2 w _ rfl _ _ 106 rfl sl_ints (S2.bl.alloc _) _ L2.length (i64s L2) rfl (ownsRow_blw p ((Blw.refl _).alloc _)) _ 1 1 [.int .i64 (first + (i : Int))] rfl (by simp) (Arr.lit_at _ _ _ _ (by simp)) (by simp) (by simp [Value.oneCell']) (by unfold maxLen; omega) (by omega) ?_; intro v12 w12 q1 q2 q3 q4; obtain ⟨y1, y2, y3, y4, y5⟩ := cells3 (SAt3.grown2 (S2.blw ((Blw.refl _).alloc _)) q3); have S3 := SAt3.app2 (S2.blw ((Blw.refl _).alloc _)) q1 q2 q3 q4; obtain ⟨ab, cb, rfl, -, -, -, -, -⟩ := own_arr q1; clear p q1 q2 q3 q4 S2))
                  go_roundw
                  case rel => exact ⟨i + 1, _, _, _, by omega, by go_num, HHR.out _ _ _ _ S3⟩
                  case measure => simp [intOf]; omega
    · have hil : i = l.length := by omega
      subst hil
      have k1 := hS.o1
      have k2 := hS.o2
      have k3 := hS.o3
      obtain ⟨a1, c1, rfl, -, -, -, -, -⟩ := own_arr k1
      obtain ⟨a2, c2, rfl, -, -, -, -, -⟩ := own_arr k2
      obtain ⟨a3, c3, rfl, -, -, -, -, -⟩ := own_arr k3
      obtain ⟨s0, s1, s2, -, gl⟩ := hS.cells
      have HF := Lib.hid (sure_end hS)
      obtain ⟨hfz, d0, d1, d2, r0, r1, r2⟩ := three hS.rs (.slice a1 (tks (isTop l) first l.length).length c1) (.slice a2 (tks (isBot l) first l.length).length c2) (.slice a3 (tks (isDbt l) first l.length).length c3)
      clear hS k1 k2 k3 hlt hb
      go_wp2
      exact bodyPost_ret (v := .tuple #[.agg #[.slice a1 (tks (isTop l) first l.length).length c1, .slice a2 (tks (isBot l) first l.length).length c2, .slice a3 (tks (isDbt l) first l.length).length c3], .int .i64 0]) (by simp [results, Try.results81, go_sem, r0, r1, r2]) rfl ⟨_, _, _, rfl, HF.out⟩
end Go.Proofs.Ytigkfdoeneemeaa
/- Walks of slackwaterref25: beside, doubt. -/
namespace Go.Proofs.Ytigkfdoeneemeaa
open Go.RowKit

/-- The places beside a place, in a list of n. -/
def nearN (n i : Nat) : List Nat := (if 0 < i then [i - 1] else []) ++ (if i + 1 < n then [i + 1] else [])
abbrev nats (l : List Nat) : List Int := l.map (fun n : Nat => (n : Int))
theorem nearN_lt {n i : Nat} (hi : i < n) : ∀ j ∈ nearN n i, j < n := by
  intro j hj
  unfold nearN at hj
  rw [List.mem_append] at hj
  rcases hj with hj | hj
  · split at hj
    · rw [List.mem_singleton] at hj; omega
    · cases hj
  · split at hj
    · rw [List.mem_singleton] at hj; omega
    · cases hj
theorem nearN_len (n i : Nat) : (nearN n i).length ≤ 2 := by
  unfold nearN
  split <;> split <;> simp
def dbN (l : List (Nat × Nat)) (i j : Nat) : Bool := !low l j i && !low l i j
theorem sc2_near (l : List (Nat × Nat)) (i : Nat) : (sc2 l i).nr = (nearN l.length i).length ∧ (sc2 l i).hi = ((nearN l.length i).filter fun j => low l j i).length ∧ (sc2 l i).lo = ((nearN l.length i).filter fun j => low l i j).length ∧ (sc2 l i).db = (nearN l.length i).any (dbN l i) := by
  unfold sc2 sc1 nearN scAt sc0 dbN
  by_cases h1 : 0 < i <;> by_cases h2 : i + 1 < l.length
  · simp only [if_pos h1, if_pos h2, List.cons_append, List.nil_append, List.filter_cons, List.filter_nil, List.any_cons, List.any_nil]
    generalize low l (i - 1) i = a
    generalize low l i (i - 1) = b
    generalize low l (i + 1) i = c
    generalize low l i (i + 1) = d
    cases a <;> cases b <;> cases c <;> cases d <;> simp
  · simp only [if_pos h1, if_neg h2, List.append_nil, List.filter_cons, List.filter_nil, List.any_cons, List.any_nil]
    generalize low l (i - 1) i = a
    generalize low l i (i - 1) = b
    cases a <;> cases b <;> simp
  · simp only [if_neg h1, if_pos h2, List.nil_append, List.filter_cons, List.filter_nil, List.any_cons, List.any_nil]
    generalize low l (i + 1) i = c
    generalize low l i (i + 1) = d
    cases c <;> cases d <;> simp
  · simp only [if_neg h1, if_neg h2]
    simp

set_option maxRecDepth 100000 in
set_option maxHeartbeats 1000000 in
theorem refBeside_any (n i : Nat) (w : World) (hn : n ≤ 100000) (hi : i < n) :
    Calls Try.prog 133 #[.int .i64 i, .int .i64 n] w (RetOwn w 3 1 (nearN n i).length (i64s (nats (nearN n i)))) := by
  have hcell : ∀ (v : Value) (xs ys : List Value), xs = ys → w.ownsRow w.heap.size 3 1 v xs.length xs → w.ownsRow w.heap.size 3 1 v ys.length ys := fun v xs ys h k => h ▸ k
  clear hcell
  by_cases h1 : 0 < i <;> by_cases h2 : i + 1 < n
  · have hN : nearN n i = [i - 1, i + 1] := by unfold nearN; rw [if_pos h1, if_pos h2]; rfl
    have d1 : decide ((0 : Int) < (i : Int)) = true := by simp; omega
    have d1' : decide (0 < i) = true := by simpa using h1
    have d2 : decide ((i : Int) + 1 < (n : Int)) = true := by simp; omega
    have e1 : IntKind.i64.wrap ((i : Int) - 1) = (i : Int) - 1 := by rw [IntKind.wrap_i64]; omega
    have e1' : ((i - 1 : Nat) : Int) = (i : Int) - 1 := by omega
    have e2 : IntKind.i64.wrap ((i : Int) + 1) = (i : Int) + 1 := by rw [IntKind.wrap_i64]; omega
    rw [hN]
    go_enter Try.func133, Try.ntmps133
    go_wp2_with (first
      | (at_builtin; refine wpList_app w _ rfl _ _ 106 rfl sl_ints ((Blw.refl w).alloc _) _ 0 [] rfl (World.ownsRow_nil _ _ _ _) _ 1 1 [.int .i64 ((i : Int) - 1)] rfl (by simp) (Arr.lit _ _ _ _) (by simp) (by simp [Value.oneCell']) (by unfold maxLen; omega) (by omega) ?_; intro v7 w7 hown7 hb7 hg7 _)
      | (at_builtin; refine wpList_app w _ rfl _ _ 106 rfl sl_ints (hb7.alloc _) _ 1 _ rfl (ownsRow_blw hown7 ((Blw.refl _).alloc _)) _ 1 1 [.int .i64 ((i : Int) + 1)] rfl (by simp) (Arr.lit _ _ _ _) (by simp) (by simp [Value.oneCell']) (by unfold maxLen; omega) (by omega) ?_; intro v8 w8 hown8 hb8 hg8 _))
    go_ret
    refine RetOwn.of ?_ hb8
    simp only [List.map_cons, List.map_nil, e1']
    exact hown8
  · have hN : nearN n i = [i - 1] := by unfold nearN; rw [if_pos h1, if_neg h2]; rfl
    have d1 : decide ((0 : Int) < (i : Int)) = true := by simp; omega
    have d1' : decide (0 < i) = true := by simpa using h1
    have d2 : decide ((i : Int) + 1 < (n : Int)) = false := by simp; omega
    have e1 : IntKind.i64.wrap ((i : Int) - 1) = (i : Int) - 1 := by rw [IntKind.wrap_i64]; omega
    have e1' : ((i - 1 : Nat) : Int) = (i : Int) - 1 := by omega
    have e2 : IntKind.i64.wrap ((i : Int) + 1) = (i : Int) + 1 := by rw [IntKind.wrap_i64]; omega
    rw [hN]
    go_enter Try.func133, Try.ntmps133
    go_wp2_with (at_builtin; refine wpList_app w _ rfl _ _ 106 rfl sl_ints ((Blw.refl w).alloc _) _ 0 [] rfl (World.ownsRow_nil _ _ _ _) _ 1 1 [.int .i64 ((i : Int) - 1)] rfl (by simp) (Arr.lit _ _ _ _) (by simp) (by simp [Value.oneCell']) (by unfold maxLen; omega) (by omega) ?_; intro v7 w7 hown7 hb7 hg7 _)
    go_ret
    refine RetOwn.of ?_ hb7
    simp only [List.map_cons, List.map_nil, e1']
    exact hown7
  · have hN : nearN n i = [i + 1] := by unfold nearN; rw [if_neg h1, if_pos h2]; rfl
    have d1 : decide ((0 : Int) < (i : Int)) = false := by simp; omega
    have d1' : decide (0 < i) = false := by simpa using h1
    have d2 : decide ((i : Int) + 1 < (n : Int)) = true := by simp; omega
    have e2 : IntKind.i64.wrap ((i : Int) + 1) = (i : Int) + 1 := by rw [IntKind.wrap_i64]; omega
    rw [hN]
    go_enter Try.func133, Try.ntmps133
    go_wp2_with (at_builtin; refine wpList_app w _ rfl _ _ 106 rfl sl_ints ((Blw.refl w).alloc _) _ 0 [] rfl (World.ownsRow_nil _ _ _ _) _ 1 1 [.int .i64 ((i : Int) + 1)] rfl (by simp) (Arr.lit _ _ _ _) (by simp) (by simp [Value.oneCell']) (by unfold maxLen; omega) (by omega) ?_; intro v7 w7 hown7 hb7 hg7 _)
    go_ret
    exact RetOwn.of hown7 hb7
  · have hN : nearN n i = [] := by unfold nearN; rw [if_neg h1, if_neg h2]; rfl
    have d1 : decide ((0 : Int) < (i : Int)) = false := by simp; omega
    have d1' : decide (0 < i) = false := by simpa using h1
    have d2 : decide ((i : Int) + 1 < (n : Int)) = false := by simp; omega
    have e2 : IntKind.i64.wrap ((i : Int) + 1) = (i : Int) + 1 := by rw [IntKind.wrap_i64]; omega
    rw [hN]
    go_enter Try.func133, Try.ntmps133
    go_wp2
    go_ret
    exact RetOwn.of (World.ownsRow_nil _ _ _ _) (Blw.refl w)

set_option maxRecDepth 100000 in
set_option maxHeartbeats 2000000 in
theorem refDoubt_any (A B : Option Addr) (l : List (Nat × Nat)) (ns : List Nat) (cap d i : Nat) (w : World) (hA : Arr w A (offs l)) (hB : Arr w B (i64s (nats ns))) (hi : i < l.length) (hns : ∀ j ∈ ns, j < l.length) (hl : l.length ≤ 100000) (hn : ns.length ≤ 1000) :
    Calls Try.prog 134 #[.slice A l.length cap, .int .i64 i, .slice B ns.length d] w fun e w' => e = .returned (.bool (ns.any (dbN l i))) ∧ ∃ x, w' = w.ext x := by
  have HNS := Lib.hid hns
  clear hns
  go_enter Try.func134, Try.ntmps134
  go_wp2_with fail
  go_loopw [7] (fun v wr => ∃ k : Nat, k ≤ ns.length ∧ v = .int .i64 k ∧ Blw w wr ∧ Hid ((ns.take k).any (dbN l i) = false)) (fun i _ => ns.length - (intOf i).toNat)
  case atStart => exact ⟨0, Nat.zero_le _, rfl, Blw.refl w, rfl⟩
  case round =>
    obtain ⟨k, hk, rfl, hb, hany⟩ := hrel
    by_cases hlt : k < ns.length
    · obtain ⟨j0, b2, o2, -, hm, hg, rfl, hbs2, hc2⟩ := (hB.blw hb).elem (k := k) (by simpa using hlt)
      obtain ⟨j, hj, hjm⟩ : ∃ j : Nat, ns[k]? = some j ∧ j0 = (j : Int) := by
        have h1 := hg.out
        rw [List.getElem?_map, List.getElem?_eq_getElem hlt] at h1
        exact ⟨ns[k], List.getElem?_eq_getElem hlt, (Option.some.inj h1).symm⟩
      subst hjm
      have hjl := HNS.out j (List.mem_of_getElem? hj)
      obtain ⟨x, b, o, hgx, -, rfl, hbs, c0, c1⟩ := off_at (hA.blw hb) hi
      obtain ⟨y, b4, o4, hgy, -, e4, -, f0, f1⟩ := off_at (hA.blw hb) hjl
      simp only [Option.some.injEq, Addr.mk.injEq] at e4
      obtain ⟨rfl, rfl, -⟩ := e4
      have L1 := Lib.hid (fun W => (low_at hgy hgx) ▸ refLower_any y.1 y.2 x.1 x.2 W)
      have L2 := Lib.hid (fun W => (low_at hgx hgy) ▸ refLower_any x.1 x.2 y.1 y.2 W)
      have HT : Hid ((ns.take (k + 1)).any (dbN l i) = (dbN l i j)) := by
        show _ = _
        rw [List.take_add_one, hj, List.any_append, hany.out]; simp
      have hdb : dbN l i j = (!low l j i && !low l i j) := rfl
      have HTrue : Hid (dbN l i j = true → ns.any (dbN l i) = true) := fun h => List.any_eq_true.2 ⟨j, List.mem_of_getElem? hj, h⟩
      have i1 : (k : Int) < (ns.length : Int) := by omega
      have i2 : (0 : Int) ≤ (k : Int) := by omega
      have i3 : (j : Int) < (l.length : Int) := by omega
      have i4 : (0 : Int) ≤ (j : Int) := by omega
      have i5 : (i : Int) < (l.length : Int) := by omega
      have i6 : (0 : Int) ≤ (i : Int) := by omega
      obtain ⟨x1, x2⟩ := x
      obtain ⟨y1, y2⟩ := y
      simp only at L1 L2 c0 c1 f0 f1
      generalize low l j i = p at *
      generalize low l i j = q at *
      have HD := Lib.hid hdb
      clear hgx hgy hj hg hm hdb hany
      cases p <;> cases q
      all_goals
        go_wp2_with fail
        refine wp_region_ext_lit (by kernel_rfl) (by kernel_rfl) ?_
        repeat (go_big_quiet_step ((go_at_call 17; first | (with_reducible exact Calls.ext_of (L1.out _)) | (with_reducible exact Calls.ext_of (L2.out _)))))
        refine wpQuiet_nil ?_
        rintro _ ⟨z, rfl⟩
        go_wp2
        first
        | (go_ret
           exact ⟨by rw [HTrue.out HD.out]; rfl, Blw.is (hb.ext z)⟩)
        | (go_roundw
           case rel => exact ⟨k + 1, by omega, by go_num, hb.ext z, HT.out.trans HD.out⟩
           case measure => simp [intOf]; omega)
    · have hkl : k = ns.length := by omega
      have HF : Hid (ns.any (dbN l i) = false) := by
        show _ = _
        have := hany.out
        rwa [hkl, List.take_length] at this
      clear hany
      go_wp2
      go_ret
      exact ⟨by rw [HF.out]; rfl, Blw.is hb⟩
end Go.Proofs.Ytigkfdoeneemeaa
/- Walks of package parts and of the reference's: the same rounded operations, part by part. -/
namespace Go.Proofs.Ytigkfdoeneemeaa
open Go.RowKit

namespace Fl
theorem same.nan {x y : Nat} (h : same x y) : isNaN x = isNaN y := by
  rcases h with rfl | ⟨a, b⟩
  · rfl
  · rw [a, b]
def fsq (x : Nat) (w : World) : Nat := match FloatKind.f64.format.sqrt x with | some r => r | none => (Question.nanBits .f64 x x).cut (w.tape w.drawn (.nanBits .f64 x x))
def fsqd (x : Nat) : Nat := match FloatKind.f64.format.sqrt x with | some _ => 0 | none => 1
theorem same_sqrt {x y : Nat} (h : same x y) (w w' : World) : same (fsq x w) (fsq y w') := by
  rcases h with rfl | ⟨a, b⟩
  · unfold fsq
    split
    · exact .inl rfl
    · exact .inr ⟨cut_nan _ _ _, cut_nan _ _ _⟩
  · obtain ⟨s, t, e⟩ := read_nan x a
    obtain ⟨s', t', e'⟩ := read_nan y b
    have h1 : FloatKind.f64.format.sqrt x = none := by show Ieee.Format.sqrt Ieee.double x = none; simp [Ieee.Format.sqrt, e, Ieee.Datum.root]
    have h2 : FloatKind.f64.format.sqrt y = none := by show Ieee.Format.sqrt Ieee.double y = none; simp [Ieee.Format.sqrt, e', Ieee.Datum.root]
    unfold fsq
    rw [h1, h2]
    exact .inr ⟨cut_nan _ _ _, cut_nan _ _ _⟩
theorem fsq_lt (x : Nat) (w : World) : fsq x w < 2 ^ 64 := by
  unfold fsq
  split
  · rename_i r h; exact Ieee.Format.sqrt_lt _ h
  · exact cut_lt _ _ _
end Fl

@[go_sem] theorem call_sqrt (x : Nat) (w : World) : (callFunc 146 #[.float .f64 x]).run Try.prog w = .ok (.value (.float .f64 (Fl.fsq x w))) (w.drewN (Fl.fsqd x)) := by
  rw [run_callFunc_extern (fn := Try.f146) (e := Extern.MathSqrt.sqrt) (by kernel_rfl) (by kernel_rfl) (by kernel_rfl) (by kernel_rfl) (by kernel_rfl)]
  have e : Extern.MathSqrt.sqrt #[.float .f64 x] = (match FloatKind.f64.format.sqrt x with | some r => pure (.float .f64 r) | none => do pure (.float .f64 (← choose (.nanBits .f64 x x)))) := rfl
  rw [e]
  unfold Fl.fsq Fl.fsqd
  cases h : FloatKind.f64.format.sqrt x with
  | some r => simp; rfl
  | none => simp [Question.forced]; rfl

def sBits (x y : Nat) : Bool := x == y || (Fl.isNaN x && Fl.isNaN y)
theorem sBits_refl (x : Nat) : sBits x x = true := by simp [sBits]
theorem sBits_same {x y : Nat} (h : Fl.same x y) : sBits x y = true := by
  rcases h with rfl | ⟨a, b⟩
  · exact sBits_refl x
  · simp [sBits, a, b]
theorem sBits_same2 {x y z : Nat} (h : Fl.same x y) (k : Fl.same x z) : sBits y z = true := sBits_same (h.symm.trans k)

set_option maxHeartbeats 400000 in
theorem ref07SameReal_any (x y : Nat) (w : World) :
    Calls Try.prog 53 #[.float .f64 x, .float .f64 y] w fun e w' => e = .returned (.bool (sBits x y)) ∧ w' = w := by
  have ex : (FloatKind.f64.format.order x x != some .eq) = Fl.isNaN x := Fl.ord_self_ne x
  have ey : (FloatKind.f64.format.order y y != some .eq) = Fl.isNaN y := Fl.ord_self_ne y
  go_enter Try.func53, Try.ntmps53
  cases hx : Fl.isNaN x <;> cases hy : Fl.isNaN y
  all_goals
    rw [hx] at ex; rw [hy] at ey
    by_cases hxy : x = y
    · subst hxy
      go_wp2
      go_ret
      exact ⟨ret_bool (by simp [sBits, hx]), rfl⟩
    · have e1 : ((x : Int) == (y : Int)) = false := by simp; omega
      go_wp2
      go_ret
      exact ⟨ret_bool (by simp [sBits, hxy, hx, hy]), rfl⟩
set_option maxHeartbeats 400000 in
theorem ref07Same_any (a b c d : Nat) (w : World) :
    Calls Try.prog 40 #[.complex .f64 a b, .complex .f64 c d] w fun e w' => e = .returned (.bool (sBits a c && sBits b d)) ∧ w' = w := by
  go_enter Try.func40, Try.ntmps40
  cases h1 : sBits a c
  all_goals
    go_wp2_with (go_at_call 53; refine (ref07SameReal_any _ _ _).mono ?_; rintro e w' ⟨rfl, rfl⟩)
    go_ret
    exact ⟨ret_bool (by simp), rfl⟩
set_option maxHeartbeats 400000 in
theorem partsBits_any (x y : Nat) (w : World) :
    Calls Try.prog 112 #[.float .f64 x, .float .f64 y] w fun e w' => e = .returned (.bool (sBits x y)) ∧ w' = w := by
  have ex : (FloatKind.f64.format.order x x != some .eq) = Fl.isNaN x := Fl.ord_self_ne x
  have ey : (FloatKind.f64.format.order y y != some .eq) = Fl.isNaN y := Fl.ord_self_ne y
  go_enter Try.func112, Try.ntmps112
  cases hx : Fl.isNaN x <;> cases hy : Fl.isNaN y
  all_goals
    rw [hx] at ex; rw [hy] at ey
    by_cases hxy : x = y
    · subst hxy
      go_wp2
      go_ret
      exact ⟨ret_bool (by simp [sBits]), rfl⟩
    · have e1 : ((x : Int) == (y : Int)) = false := by simp; omega
      go_wp2
      go_ret
      exact ⟨ret_bool (by simp [sBits, hxy, hx, hy]), rfl⟩
set_option maxHeartbeats 400000 in
theorem partsSame_any (a b c d : Nat) (w : World) :
    Calls Try.prog 56 #[.complex .f64 a b, .complex .f64 c d] w fun e w' => e = .returned (.bool (sBits a c && sBits b d)) ∧ w' = w := by
  go_enter Try.func56, Try.ntmps56
  cases h1 : sBits a c
  all_goals
    go_wp2_with (go_at_call 112; refine (partsBits_any _ _ _).mono ?_; rintro e w' ⟨rfl, rfl⟩)
    go_ret
    exact ⟨ret_bool (by simp), rfl⟩
def eqB (a b c d : Nat) : Bool := (Fl.ord a c == some .eq) && (Fl.ord b d == some .eq)
set_option maxHeartbeats 400000 in
theorem partsEqual_any (a b c d : Nat) (w : World) :
    Calls Try.prog 57 #[.complex .f64 a b, .complex .f64 c d] w fun e w' => e = .returned (.bool (eqB a b c d)) ∧ w' = w := by
  go_enter Try.func57, Try.ntmps57
  cases h1 : (FloatKind.f64.format.order a c == some .eq)
  all_goals
    go_wp2
    go_ret
    exact ⟨ret_bool (by have h2 : (Fl.ord a c == some .eq) = _ := h1; unfold eqB; rw [h2]; first | rfl | simp), rfl⟩
set_option maxHeartbeats 400000 in
theorem ref07Equal_any (a b c d : Nat) (w : World) :
    Calls Try.prog 58 #[.complex .f64 a b, .complex .f64 c d] w fun e w' => e = .returned (.bool (eqB a b c d)) ∧ w' = w := by
  go_enter Try.func58, Try.ntmps58
  cases h1 : (FloatKind.f64.format.order a c == some .eq)
  all_goals
    go_wp2
    go_ret
    exact ⟨ret_bool (by have h2 : (Fl.ord a c == some .eq) = _ := h1; unfold eqB; rw [h2]; first | rfl | simp), rfl⟩
set_option maxHeartbeats 400000 in
theorem partsFiniteC_any (a b : Nat) (w : World) (ha : a < 2 ^ 64) (hb : b < 2 ^ 64) :
    Calls Try.prog 59 #[.complex .f64 a b] w fun e w' => e = .returned (.bool (Fl.isFin a && Fl.isFin b)) ∧ w' = w := by
  go_enter Try.func59, Try.ntmps59
  cases h1 : Fl.isFin a
  all_goals
    go_wp2_with (go_at_call 113; refine (partsFinite_any _ _ (by assumption)).mono ?_; rintro e w' ⟨rfl, rfl⟩)
    go_ret
    exact ⟨ret_bool (by simp), rfl⟩
set_option maxHeartbeats 400000 in
theorem ref07FiniteC_any (a b : Nat) (w : World) :
    Calls Try.prog 60 #[.complex .f64 a b] w fun e w' => e = .returned (.bool (Fl.isFin a && Fl.isFin b)) ∧ ∃ x, w' = w.ext x := by
  go_enter Try.func60, Try.ntmps60
  cases h1 : Fl.isFin a
  all_goals
    go_wp2_with (go_at_call 114; refine (ref07Finite_any _ _).mono ?_; rintro e w' ⟨rfl, n, rfl⟩)
    go_ret
    exact ⟨ret_bool (by simp), Blw.is (by repeat (first | exact Blw.refl _ | apply Blw.ext | apply Blw.alloc | apply Blw.drewN | apply Blw.drew | refine Blw.setCell ?_ _ _ (by simp)))⟩

/-- A complex result, up to a NaN's bits. -/
def CRes (re im : Nat) (w : World) (e : Ending) (w' : World) : Prop := ∃ (r i : Nat) (x : World), e = .returned (.complex .f64 r i) ∧ Hid (Fl.same re r) ∧ Hid (Fl.same im i) ∧ r < 2 ^ 64 ∧ i < 2 ^ 64 ∧ w' = w.ext x
theorem CRes.mk {re im r i : Nat} {w w' : World} (h : Fl.same re r) (k : Fl.same im i) (lr : r < 2 ^ 64) (li : i < 2 ^ 64) (b : Blw w w') : CRes re im w (.returned (.complex .f64 r i)) w' := by
  obtain ⟨x, rfl⟩ := b.is
  exact ⟨r, i, x, rfl, h, k, lr, li, rfl⟩
def fA (x y : Nat) : Nat := Fl.fop .add x y default
def fS (x y : Nat) : Nat := Fl.fop .sub x y default
def fM (x y : Nat) : Nat := Fl.fop .mul x y default
def fQ (x y : Nat) : Nat := Fl.fop .quo x y default
theorem neg_lt {x : Nat} (h : x < 2 ^ 64) : Op.negFloat .f64 x < 2 ^ 64 := Nat.xor_lt_two_pow h (by decide)

set_option maxHeartbeats 400000 in
theorem partsAdd_any (a b c d : Nat) (w : World) : Calls Try.prog 41 #[.complex .f64 a b, .complex .f64 c d] w (CRes (fA a c) (fA b d) w) := by
  go_enter Try.func41, Try.ntmps41
  go_wp2
  go_ret
  exact CRes.mk (Fl.same_add (.refl _) (.refl _) _ _) (Fl.same_add (.refl _) (.refl _) _ _) (Fl.fop_lt _ _ _ _) (Fl.fop_lt _ _ _ _) (by repeat (first | exact Blw.refl _ | apply Blw.ext | apply Blw.alloc | apply Blw.drewN | apply Blw.drew | refine Blw.setCell ?_ _ _ (by simp)))
set_option maxHeartbeats 400000 in
theorem ref07Add_any (a b c d : Nat) (w : World) : Calls Try.prog 42 #[.complex .f64 a b, .complex .f64 c d] w (CRes (fA a c) (fA b d) w) := by
  go_enter Try.func42, Try.ntmps42
  go_wp2
  go_ret
  exact CRes.mk (Fl.same_add (.refl _) (.refl _) _ _) (Fl.same_add (.refl _) (.refl _) _ _) (Fl.fop_lt _ _ _ _) (Fl.fop_lt _ _ _ _) (by repeat (first | exact Blw.refl _ | apply Blw.ext | apply Blw.alloc | apply Blw.drewN | apply Blw.drew | refine Blw.setCell ?_ _ _ (by simp)))
set_option maxHeartbeats 400000 in
theorem partsSub_any (a b c d : Nat) (w : World) : Calls Try.prog 43 #[.complex .f64 a b, .complex .f64 c d] w (CRes (fS a c) (fS b d) w) := by
  go_enter Try.func43, Try.ntmps43
  go_wp2
  go_ret
  exact CRes.mk (Fl.same_sub (.refl _) (.refl _) _ _) (Fl.same_sub (.refl _) (.refl _) _ _) (Fl.fop_lt _ _ _ _) (Fl.fop_lt _ _ _ _) (by repeat (first | exact Blw.refl _ | apply Blw.ext | apply Blw.alloc | apply Blw.drewN | apply Blw.drew | refine Blw.setCell ?_ _ _ (by simp)))
set_option maxHeartbeats 400000 in
theorem ref07Sub_any (a b c d : Nat) (w : World) : Calls Try.prog 44 #[.complex .f64 a b, .complex .f64 c d] w (CRes (fS a c) (fS b d) w) := by
  go_enter Try.func44, Try.ntmps44
  go_wp2
  go_ret
  exact CRes.mk (Fl.same_sub (.refl _) (.refl _) _ _) (Fl.same_sub (.refl _) (.refl _) _ _) (Fl.fop_lt _ _ _ _) (Fl.fop_lt _ _ _ _) (by repeat (first | exact Blw.refl _ | apply Blw.ext | apply Blw.alloc | apply Blw.drewN | apply Blw.drew | refine Blw.setCell ?_ _ _ (by simp)))
set_option maxHeartbeats 400000 in
theorem partsMul_any (a b c d : Nat) (w : World) : Calls Try.prog 45 #[.complex .f64 a b, .complex .f64 c d] w (CRes (fS (fM a c) (fM b d)) (fA (fM a d) (fM b c)) w) := by
  go_enter Try.func45, Try.ntmps45
  go_wp2
  go_ret
  exact CRes.mk (Fl.same_sub (Fl.same_mul (.refl _) (.refl _) _ _) (Fl.same_mul (.refl _) (.refl _) _ _) _ _) (Fl.same_add (Fl.same_mul (.refl _) (.refl _) _ _) (Fl.same_mul (.refl _) (.refl _) _ _) _ _) (Fl.fop_lt _ _ _ _) (Fl.fop_lt _ _ _ _) (by repeat (first | exact Blw.refl _ | apply Blw.ext | apply Blw.alloc | apply Blw.drewN | apply Blw.drew | refine Blw.setCell ?_ _ _ (by simp)))
set_option maxHeartbeats 400000 in
theorem ref07Mul_any (a b c d : Nat) (w : World) : Calls Try.prog 46 #[.complex .f64 a b, .complex .f64 c d] w (CRes (fS (fM a c) (fM b d)) (fA (fM a d) (fM b c)) w) := by
  go_enter Try.func46, Try.ntmps46
  go_wp2
  go_ret
  exact CRes.mk (Fl.same_sub (Fl.same_mul (.refl _) (.refl _) _ _) (Fl.same_mul (.refl _) (.refl _) _ _) _ _) (Fl.same_add (Fl.same_mul (.refl _) (.refl _) _ _) (Fl.same_mul (.refl _) (.refl _) _ _) _ _) (Fl.fop_lt _ _ _ _) (Fl.fop_lt _ _ _ _) (by repeat (first | exact Blw.refl _ | apply Blw.ext | apply Blw.alloc | apply Blw.drewN | apply Blw.drew | refine Blw.setCell ?_ _ _ (by simp)))
set_option maxHeartbeats 400000 in
theorem partsScale_any (x c d : Nat) (w : World) : Calls Try.prog 47 #[.float .f64 x, .complex .f64 c d] w (CRes (fM x c) (fM x d) w) := by
  go_enter Try.func47, Try.ntmps47
  go_wp2
  go_ret
  exact CRes.mk (Fl.same_mul (.refl _) (.refl _) _ _) (Fl.same_mul (.refl _) (.refl _) _ _) (Fl.fop_lt _ _ _ _) (Fl.fop_lt _ _ _ _) (by repeat (first | exact Blw.refl _ | apply Blw.ext | apply Blw.alloc | apply Blw.drewN | apply Blw.drew | refine Blw.setCell ?_ _ _ (by simp)))
set_option maxHeartbeats 400000 in
theorem ref07Scale_any (x c d : Nat) (w : World) : Calls Try.prog 48 #[.float .f64 x, .complex .f64 c d] w (CRes (fM x c) (fM x d) w) := by
  go_enter Try.func48, Try.ntmps48
  go_wp2
  go_ret
  exact CRes.mk (Fl.same_mul (.refl _) (.refl _) _ _) (Fl.same_mul (.refl _) (.refl _) _ _) (Fl.fop_lt _ _ _ _) (Fl.fop_lt _ _ _ _) (by repeat (first | exact Blw.refl _ | apply Blw.ext | apply Blw.alloc | apply Blw.drewN | apply Blw.drew | refine Blw.setCell ?_ _ _ (by simp)))
set_option maxHeartbeats 400000 in
theorem partsConj_any (a b : Nat) (w : World) : Calls Try.prog 49 #[.complex .f64 a b] w fun e w' => e = .returned (.complex .f64 a (Op.negFloat .f64 b)) ∧ w' = w := by
  go_enter Try.func49, Try.ntmps49
  go_wp2
  go_ret
  exact ⟨rfl, rfl⟩
set_option maxHeartbeats 400000 in
theorem ref07Conj_any (a b : Nat) (w : World) : Calls Try.prog 50 #[.complex .f64 a b] w fun e w' => e = .returned (.complex .f64 a (Op.negFloat .f64 b)) ∧ w' = w := by
  go_enter Try.func50, Try.ntmps50
  go_wp2
  go_ret
  exact ⟨rfl, rfl⟩
set_option maxHeartbeats 400000 in
theorem partsNeg_any (a b : Nat) (w : World) : Calls Try.prog 51 #[.complex .f64 a b] w fun e w' => e = .returned (.complex .f64 (Op.negFloat .f64 a) (Op.negFloat .f64 b)) ∧ w' = w := by
  go_enter Try.func51, Try.ntmps51
  go_wp2
  go_ret
  exact ⟨rfl, rfl⟩
set_option maxHeartbeats 400000 in
theorem ref07Neg_any (a b : Nat) (w : World) : Calls Try.prog 52 #[.complex .f64 a b] w fun e w' => e = .returned (.complex .f64 (Op.negFloat .f64 a) (Op.negFloat .f64 b)) ∧ w' = w := by
  go_enter Try.func52, Try.ntmps52
  go_wp2
  go_ret
  exact ⟨rfl, rfl⟩
end Go.Proofs.Ytigkfdoeneemeaa
/- Walks of the kit's copies and comparisons of lists of floats. -/
namespace Go.Proofs.Ytigkfdoeneemeaa
open Go.RowKit

theorem sl_floats : SlT Try.prog 30 23 (.float .f64 0) 1 8 := ⟨Try.underlying30, by kernel_rfl, by kernel_rfl, by decide⟩
theorem flt_one (l : List Nat) : ∀ u ∈ flt l, u.oneCell' = true := by simp [flt, Value.oneCell']

set_option maxHeartbeats 400000 in
theorem copyFloats_any (a : Option Addr) (l : List Nat) (cap : Nat) (w : World) (h : Arr w a (flt l)) (hn : a = none → cap = 0) (hl : l.length ≤ 1099511627776) :
    Calls Try.prog 96 #[.slice a l.length cap] w (RetOwn w 23 1 l.length (flt l)) := by
  have hown : (w.alloc (.cells #[] 23)).ownsRow w.heap.size 23 1 (.slice (some ⟨w.heap.size, 0, none⟩) 0 0) 0 [] := World.ownsRow_made w #[] 0 (Nat.le_refl _) (Nat.zero_le _) rfl
  go_enter Try.func96, Try.ntmps96
  go_wp2_with (at_builtin; refine wpList_app w _ rfl _ _ 30 rfl sl_floats ((Blw.refl w).alloc _) _ 0 [] rfl hown a l.length cap (flt l) rfl hn (h.alloc _) (by simp) (flt_one l) (by unfold maxLen; omega) (by omega) ?_; intro v' w1 hown1 hb1 _ _)
  go_ret
  exact RetOwn.of (by simpa using hown1) hb1

def spF : List Nat := [4593671619917905920, 4607745368753438720, 4611967493404098560]
theorem spF_at (k : Nat) (h : k < 3) (w : World) : Fl.fop .add 4593671619917905920 (floatOfInt .f64 k) w = spF.getD k 0 := by
  have : k = 0 ∨ k = 1 ∨ k = 2 := by omega
  rcases this with rfl | rfl | rfl
  · exact Fl.fop_some (by decide +kernel) w
  · exact Fl.fop_some (by decide +kernel) w
  · exact Fl.fop_some (by decide +kernel) w

set_option maxHeartbeats 800000 in
theorem lentFloats_any (a : Option Addr) (l : List Nat) (cap : Nat) (w : World) (h : Arr w a (flt l)) (hn : a = none → cap = 0) (hl : l.length ≤ 1099511627776) :
    Calls Try.prog 20 #[.slice a l.length cap] w (RetOwn w 23 1 (l.length + 3) (flt (l ++ spF))) := by
  go_enter Try.func20, Try.ntmps20
  go_wp2_with (go_at_call 96; refine (copyFloats_any a l cap _ h hn hl).mono ?_; rintro e w' ⟨a1, c1, x1, rfl, rfl, hown1, -, -⟩)
  go_loopw [3, 4] (fun v i wr => ∃ k : Nat, k ≤ 3 ∧ i = .int .i64 k ∧ wr.ownsRow w.heap.size 23 1 v (l.length + k) (flt (l ++ spF.take k)) ∧ Blw w wr) (fun _ i _ => 3 - (intOf i).toNat)
  case atStart => exact ⟨0, by omega, rfl, by simpa using hown1, (Blw.refl w).ext x1⟩
  case round =>
    obtain ⟨k, hk, rfl, hown, hb⟩ := hrel
    clear hown1
    by_cases hlt : k < 3
    · go_wp2_with (at_builtin; refine wpList_app w _ rfl _ _ 30 rfl sl_floats ((hb.drewN _).alloc _) _ (l.length + k) _ rfl (ownsRow_blw hown (((Blw.refl _).drewN _).alloc _)) _ 1 1 [.float .f64 (Fl.fop .add 4593671619917905920 (floatOfInt .f64 k) wr)] rfl (by simp) (Arr.lit _ _ _ _) (by simp) (by simp [Value.oneCell']) (by unfold maxLen; omega) (by omega) ?_; intro v' w1 hown1 hb1 _ _)
      go_roundw
      case rel => exact ⟨k + 1, by omega, by go_num, by
        rw [spF_at k hlt] at hown1
        have e : flt (l ++ spF.take (k + 1)) = flt (l ++ spF.take k) ++ [.float .f64 (spF.getD k 0)] := by
          have : k = 0 ∨ k = 1 ∨ k = 2 := by omega
          rcases this with rfl | rfl | rfl <;> simp [flt, spF]
        rw [e]; exact hown1, hb1⟩
      case measure => simp [intOf]; omega
    · have hk3 : k = 3 := by omega
      subst hk3
      go_wp2_with fail
      go_ret
      exact RetOwn.of hown hb

set_option maxHeartbeats 400000 in
theorem sameBits_any (x y : Nat) (w : World) :
    Calls Try.prog 143 #[.float .f64 x, .float .f64 y] w fun e w' => e = .returned (.bool (sBits x y)) ∧ w' = w := by
  go_enter Try.func143, Try.ntmps143
  by_cases hxy : x = y
  · subst hxy
    go_wp2
    go_ret
    exact ⟨ret_bool (by simp [sBits]), rfl⟩
  · have e1 : ((x : Int) == (y : Int)) = false := by simp; omega
    have ex : (FloatKind.f64.format.order x x != some .eq) = Fl.isNaN x := Fl.ord_self_ne x
    have ey : (FloatKind.f64.format.order y y != some .eq) = Fl.isNaN y := Fl.ord_self_ne y
    cases hx : Fl.isNaN x
    all_goals
      rw [hx] at ex
      go_wp2
      go_ret
      exact ⟨ret_bool (by simp [sBits, hxy, hx]), rfl⟩

def sFloats (a b : List Nat) : Bool := a.length == b.length && (a.zip b).all fun p => sBits p.1 p.2
theorem sFloats_refl (a : List Nat) : sFloats a a = true := by
  simp only [sFloats, beq_self_eq_true, Bool.true_and, List.all_eq_true]
  intro p hp
  have : p.1 = p.2 := by
    induction a with
    | nil => simp at hp
    | cons x a ih =>
      simp at hp
      rcases hp with rfl | hp
      · rfl
      · exact ih hp
  rw [this]; exact sBits_refl _

set_option maxHeartbeats 800000 in
theorem sameFloats_refl_any (a b : Option Addr) (l : List Nat) (c d : Nat) (w : World) (ha : Arr w a (flt l)) (hb : Arr w b (flt l)) (hl : l.length ≤ 4611686018427387904) :
    Calls Try.prog 97 #[.slice a l.length c, .slice b l.length d] w fun e w' => e = .returned (.bool true) ∧ ∃ x, w' = w.ext x := by
  go_enter Try.func97, Try.ntmps97
  go_wp2
  go_loopw [5] (fun i wr => ∃ (k : Nat) (x : World), k ≤ l.length ∧ i = .int .i64 k ∧ wr = w.ext x) (fun i _ => l.length - (intOf i).toNat)
  case atStart => exact ⟨0, w, Nat.zero_le _, rfl, (World.ext_of (Blw.refl w)).symm⟩
  case round =>
    obtain ⟨k, wx, hk, rfl, rfl⟩ := hrel
    by_cases hlt : k < l.length
    · obtain ⟨x, b1, o1, hd1, -, -, rfl, hb1, hc1⟩ := ha.elem hlt
      obtain ⟨y, b2, o2, hd2, -, -, rfl, hb2, hc2⟩ := hb.elem hlt
      have hxy : x = y := by have := hd1.out.symm.trans hd2.out; simp at this; exact this
      subst hxy
      have hs := sBits_refl x
      have h0 : (0 : Int) ≤ (k : Int) := by omega
      have h1 : (k : Int) < (l.length : Int) := by omega
      go_wp2_with fail
      go_quiet ((go_at_call 143; exact Calls.quiet_of_same (sameBits_any x x _)))
      go_wp2
      go_roundw
      case rel => exact ⟨k + 1, _, by omega, by go_num, (World.ext_of (by repeat (first | exact Blw.refl _ | apply Blw.ext | apply Blw.alloc | apply Blw.drewN | apply Blw.drew | refine Blw.setCell ?_ _ _ (by simp)))).symm⟩
      case measure => simp [intOf]; omega
    · go_wp2
      go_ret
      exact ⟨rfl, Blw.is (by repeat (first | exact Blw.refl _ | apply Blw.ext | apply Blw.alloc | apply Blw.drewN | apply Blw.drew | refine Blw.setCell ?_ _ _ (by simp)))⟩
end Go.Proofs.Ytigkfdoeneemeaa
/- The small functions of the law WaterLists: offs, sameOff, SameOffs, walked. -/
namespace Go.Proofs.Ytigkfdoeneemeaa
open Go.RowKit

set_option maxHeartbeats 400000 in
theorem sameFloat_self (x : Nat) (w : World) :
    Calls Try.prog 23 #[.float .f64 x, .float .f64 x] w fun e w' => e = .returned (.bool true) ∧ w' = w := by
  have ex : (FloatKind.f64.format.order x x != some .eq) = Fl.isNaN x := Fl.ord_self_ne x
  have ex2 : (FloatKind.f64.format.order x x == some .eq) = !Fl.isNaN x := by rw [← ex]; cases h : (FloatKind.f64.format.order x x == some .eq) <;> simp_all [bne]
  cases hx : Fl.isNaN x
  all_goals
    rw [hx] at ex ex2
    go_enter Try.func23, Try.ntmps23
    go_wp2
    go_ret
    exact ⟨rfl, rfl⟩
set_option maxHeartbeats 400000 in
theorem sameOff_self (a b : Nat) (w : World) :
    Calls Try.prog 135 #[.agg #[.float .f64 a, .float .f64 b], .agg #[.float .f64 a, .float .f64 b]] w fun e w' => e = .returned (.bool true) ∧ ∃ x, w' = w.ext x := by
  go_enter Try.func135, Try.ntmps135
  go_wp2_with (go_at_call 23; refine Calls.mono (sameFloat_self _ _) ?_; rintro e w' ⟨rfl, rfl⟩)
  go_ret
  exact ⟨rfl, Blw.is (by repeat (first | exact Blw.refl _ | apply Blw.ext | apply Blw.alloc | apply Blw.drewN | apply Blw.drew | refine Blw.setCell ?_ _ _ (by simp)))⟩
set_option maxHeartbeats 1000000 in
theorem sameOffs_self (a b : Option Addr) (l : List (Nat × Nat)) (c d : Nat) (w : World) (ha : Arr w a (offs l)) (hb : Arr w b (offs l)) (hl : l.length ≤ 1099511627776) :
    Calls Try.prog 84 #[.slice a l.length c, .slice b l.length d] w fun e w' => e = .returned (.bool true) ∧ ∃ x, w' = w.ext x := by
  go_enter Try.func84, Try.ntmps84
  go_wp2
  go_loopw [5] (fun i wr => ∃ k : Nat, k ≤ l.length ∧ i = .int .i64 k ∧ Blw w wr) (fun i _ => l.length - (intOf i).toNat)
  case atStart => exact ⟨0, Nat.zero_le _, rfl, Blw.refl w⟩
  case round =>
    obtain ⟨k, hk, rfl, hB⟩ := hrel
    by_cases hlt : k < l.length
    · obtain ⟨x, b1, o1, hgx, -, rfl, hb1, c0, c1⟩ := off_at (ha.blw hB) hlt
      obtain ⟨y, b2, o2, hgy, -, rfl, hb2, e0, e1⟩ := off_at (hb.blw hB) hlt
      obtain rfl : x = y := by have := hgx.symm.trans hgy; simpa using this
      obtain ⟨x1, x2⟩ := x
      simp only at c0 c1 e0 e1
      have h0 : (0 : Int) ≤ (k : Int) := by omega
      have h1 : (k : Int) < (l.length : Int) := by omega
      clear hgx hgy
      go_wp2_with fail
      refine wp_region_ext_lit (by kernel_rfl) (by kernel_rfl) ?_
      repeat (go_big_quiet_step ((go_at_call 135; (with_reducible exact Calls.ext_of (sameOff_self _ _ _)))))
      refine wpQuiet_nil ?_
      rintro _ ⟨z, rfl⟩
      go_wp2
      go_roundw
      case rel => exact ⟨k + 1, by omega, by go_num, hB.ext z⟩
      case measure => simp [intOf]; omega
    · go_wp2
      go_ret
      exact ⟨rfl, Blw.is hB⟩

/-- A height and its bound by their bits, as cells. -/
def bar (p : Nat × Nat) : List Value := [.int .u64 p.1, .int .u64 p.2]
abbrev bars (l : List (Nat × Nat)) : List Value := l.flatMap bar
theorem bar_at {w : World} {A : Option Addr} {l : List (Nat × Nat)} (h : Arr w A (bars l)) {k : Nat} (hk : k < l.length) :
    ∃ (x : Nat × Nat) (b o : Nat), l[k]? = some x ∧ x ∈ l ∧ A = some ⟨b, o, none⟩ ∧ b < w.heap.size ∧ w.cell? ⟨b, o + k * 2, none⟩ = some (.int .u64 x.1) ∧ w.cell? ⟨b, o + k * 2 + 1, none⟩ = some (.int .u64 x.2) := by
  obtain ⟨x, b, o, h1, h2, h3, h4, h5⟩ := cells_arr bar 2 (fun _ => rfl) (by decide) h hk
  exact ⟨x, b, o, h1, h2, h3, h4, h5 0 (by decide), h5 1 (by decide)⟩
theorem sl_offs : SlT Try.prog 104 26 (.agg #[.float .f64 0, .float .f64 0]) 2 16 := ⟨Try.underlying104, by kernel_rfl, by kernel_rfl, by decide⟩
theorem offs_app (l m : List (Nat × Nat)) : offs (l ++ m) = offs l ++ offs m := List.flatMap_append

set_option maxRecDepth 100000 in
set_option maxHeartbeats 2000000 in
theorem law25offs_any (A : Option Addr) (l : List (Nat × Nat)) (cap : Nat) (w : World) (hA : Arr w A (bars l)) (hl : l.length ≤ 100000) :
    Calls Try.prog 80 #[.slice A l.length cap] w (RetOwn w 26 2 l.length (offs l)) := by
  go_enter Try.func80, Try.ntmps80
  go_wp2_with fail
  go_loopw [3, 4] (fun v i wr => ∃ k : Nat, k ≤ l.length ∧ i = .int .i64 k ∧ wr.ownsRow w.heap.size 26 2 v k (offs (l.take k)) ∧ Blw w wr) (fun _ i _ => l.length - (intOf i).toNat)
  case atStart => exact ⟨0, Nat.zero_le _, rfl, World.ownsRow_nil _ _ _ _, Blw.refl w⟩
  case round =>
    obtain ⟨k, hk, rfl, hown, hb⟩ := hrel
    by_cases hlt : k < l.length
    · obtain ⟨x, b, o, hgx, hmx, rfl, hbs, c0, c1⟩ := bar_at hA hlt
      have HT : Hid (offs (l.take (k + 1)) = offs (l.take k) ++ [.float .f64 x.1, .float .f64 x.2]) := by
        show _ = _
        rw [List.take_add_one, hgx, offs_app]; rfl
      have hk1 : k ≤ 100000 := by omega
      obtain ⟨x1, x2⟩ := x
      simp only at c0 c1 HT
      obtain ⟨S, hS⟩ : ∃ S : World → Prop, S = fun W => b < W.heap.size ∧ Blw w W ∧ W.cell? ⟨b, o + k * 2, none⟩ = some (.int .u64 x1) ∧ W.cell? ⟨b, o + k * 2 + 1, none⟩ = some (.int .u64 x2) := ⟨_, rfl⟩
      have KS : ∀ W : World, Blw w W → S W := by
        intro W hW
        rw [hS]
        exact ⟨Nat.lt_of_lt_of_le hbs hW.size, hW, (Below.cell hW hbs).trans c0, (Below.cell hW hbs).trans c1⟩
      have hSd := KS _ hb.drew
      have HKS := Lib.hid KS
      clear hgx hmx KS c0 c1
      go_wp2_with fail
      subst hS
      go_region_held3 (fun W => b < W.heap.size ∧ Blw w W ∧ W.cell? ⟨b, o + k * 2, none⟩ = some (.int .u64 x1) ∧ W.cell? ⟨b, o + k * 2 + 1, none⟩ = some (.int .u64 x2)) (first | assumption | (exact HKS.out _ (hb.drew.alloc _)) | (exact HKS.out _ (hb.alloc _))) (first
        | (refine step_app w _ (by rfl) _ _ 104 (by rfl) sl_offs ?_ _ k _ (by rfl) (ownsRow_blw hown ?_) _ 1 1 [.float .f64 x1, .float .f64 x2] (by rfl) (by simp) (Arr.lit_at _ _ _ _ (by simp)) (by simp) (by simp [Value.oneCell']) (by unfold maxLen; omega) (by omega) ?_
           · exact hb.drew.alloc _
           · exact (Blw.refl wr).drew.alloc _
           intro v7 w7 hown7 hb7 hg7 _
           have hS7 := HKS.out _ hb7))
      all_goals
        have HOL : Hid (w7.ownsRow w.heap.size 26 2 v7 (k + 1) (offs (l.take (k + 1)))) := by
          show World.ownsRow _ _ _ _ _ _ _
          rw [HT.out]; exact hown7
        clear hown7 hg7 hS7 hSd HKS hown
        go_wp2
        go_roundw
        case rel => exact ⟨k + 1, by omega, by go_num, HOL.out, hb7⟩
        case measure => simp [intOf]; omega
    · have hkl : k = l.length := by omega
      subst hkl
      rw [List.take_length] at hown
      go_wp2
      go_ret
      exact RetOwn.of hown hb
end Go.Proofs.Ytigkfdoeneemeaa
/- The walk of slackwaterref25.Sures, of heights that may be told. -/
namespace Go.Proofs.Ytigkfdoeneemeaa
open Go.RowKit

theorem near_app {W w' : World} {B : Option Addr} {cs : List Value} {v : Value} {n0 g : Nat} {o : Obj} (h : Arr W B cs) (hN : ∀ q, B = some q → n0 ≤ q.block) (b : ∀ k, v.ownBlock = some k → k < n0) (hg : (W.alloc o).grownBy w' v.ownBlock) (hg0 : g < n0) (j : Nat) (u : Value) : Arr (w'.setCell ⟨g, j, none⟩ u) B cs := by
  have h1 : Arr w' B cs := KeptO.arr (O := fun k => v.ownBlock = some k) ((KeptO.of_blw ((Blw.refl W).alloc o)).grown hg (fun k hk => .inl hk)) h (fun q hq e => by
    have := hN q hq
    have := b _ e
    omega)
  exact KeptO.arr (O := fun k => k = g) ((KeptO.refl w').setCell _ _ (.inl rfl)) h1 (fun q hq e => by
    have := hN q hq
    omega)

set_option maxRecDepth 100000 in
set_option maxHeartbeats 8000000 in
theorem refSures_ok (A : Option Addr) (l : List (Nat × Nat)) (cap : Nat) (first : Int) (w : World) (hA : Arr w A (offs l)) (hc : cntd l.length first = 0) :
    Calls Try.prog 82 #[.slice A l.length cap, .int .i64 first] w (SuresOut w l first) := by
  obtain ⟨hlen, hf0, hf1, hfn⟩ := cntd_zero hc
  have hS0 : SAt3 w ((w.alloc (.cells #[.slice none 0 0, .slice none 0 0, .slice none 0 0] 108)).alloc (.cells #[.slice none 0 0, .slice none 0 0, .slice none 0 0] 108)) (w.heap.size + 1) w.heap.size 108 [] [] [] (.slice none 0 0) (.slice none 0 0) (.slice none 0 0) :=
    ⟨heap_alloc_at (by simp), at_alloc _ (heap_alloc_new _ _), by omega, by omega, (by repeat (first | exact Blw.refl _ | apply Blw.ext | apply Blw.alloc | apply Blw.drewN | apply Blw.drew | refine Blw.setCell ?_ _ _ (by simp))), by decide, World.ownsRow_nil _ _ _ _, World.ownsRow_nil _ _ _ _, World.ownsRow_nil _ _ _ _, (fun i h => by cases h), (fun i h => by cases h), (fun i h => by cases h)⟩
  have d1 : decide ((4096 : Int) < (l.length : Int)) = false := by simp; omega
  have d2 : decide (first < 0) = false := by simp; omega
  have d3 : decide (1048576 < first) = false := by simp; omega
  have e1 : IntKind.i64.wrap (IntKind.i64.wrap (1048576 - (l.length : Int)) + 1) = 1048576 - (l.length : Int) + 1 := by rw [IntKind.wrap_i64, IntKind.wrap_i64]; omega
  have e2 : IntKind.i64.wrap (1048576 - (l.length : Int)) = 1048576 - (l.length : Int) := by rw [IntKind.wrap_i64]; omega
  have e3 : IntKind.i64.wrap (1048576 - (l.length : Int) + 1) = 1048576 - (l.length : Int) + 1 := by rw [IntKind.wrap_i64]; omega
  have hcs : (decide (0 < l.length) = false ∧ decide ((0 : Int) < (l.length : Int)) = false) ∨ (decide (0 < l.length) = true ∧ decide ((0 : Int) < (l.length : Int)) = true ∧ decide (1048576 - (l.length : Int) + 1 < first) = false) := by
    by_cases h4 : 0 < l.length
    · have := hfn h4
      exact .inr ⟨by simpa using h4, by simpa using h4, by simp; omega⟩
    · exact .inl ⟨by simpa using h4, by simpa using h4⟩
  clear hc hfn
  go_enter Try.func82, Try.ntmps82
  rcases hcs with ⟨g1, g1'⟩ | ⟨g1, g1', g2⟩
  all_goals
    go_wp2
    clear d1 d2 d3 e1 e2 e3 g1 g1'
    (try clear g2)
    go_loopw [7] (fun vi wr => ∃ (i : Nat) (v1 v2 v3 : Value), i ≤ l.length ∧ vi = .int .i64 i ∧ SAt3 w wr (w.heap.size + 1) w.heap.size 108 (tks (isTop l) first i) (tks (isBot l) first i) (tks (isDbt l) first i) v1 v2 v3) (fun i _ => l.length - (intOf i).toNat)
    case atStart => exact ⟨0, _, _, _, Nat.zero_le _, rfl, hS0⟩
    case round =>
      obtain ⟨i, v1, v2, v3, hi, rfl, hS⟩ := hrel
      clear hS0
      have hb := hS.bl
      by_cases hlt : i < l.length
      · obtain ⟨ns, hns⟩ : ∃ ns, ns = nearN l.length i := ⟨_, rfl⟩
        have hnsl := nearN_lt hlt
        have hns2 := nearN_len l.length i
        obtain ⟨n1, n2, n3, n4⟩ := sc2_near l i
        have hbs := refBeside_any l.length i wr (by omega) hlt
        rw [← hns] at hnsl hns2 n1 n2 n3 n4 hbs
        have HBS := Lib.hid hbs
        have HNSL := Lib.hid hnsl
        have HN1 := Lib.hid n1
        have HN2 := Lib.hid n2
        have HN3 := Lib.hid n3
        have HN4 := Lib.hid n4
        have b1 := fun k h => (World.ownsRow.lt hS.o1 k h).2
        have b2 := fun k h => (World.ownsRow.lt hS.o2 k h).2
        have hg0 := hS.cells.2.2.2.2
        have HB1 := Lib.hid b1
        have HB2 := Lib.hid b2
        have HG0 := Lib.hid hg0
        clear hns hnsl n1 n2 n3 n4 hbs b1 b2 hg0
        obtain ⟨wS, rfl⟩ : ∃ wS, wS = wr := ⟨_, rfl⟩
        go_wp2_with fail
        refine Calls.mono HBS.out ?_
        rintro e w2 ⟨B, cB, x2, rfl, rfl, r1, r2, r3⟩
        have hnb : Hid (∀ q, B = some q → wS.heap.size ≤ q.block) := by
          rintro q rfl
          exact (World.ownsRow.lt r1 _ rfl).1
        have hS2 := hS.blw (World.blw_ext wS x2)
        clear HBS r1 r3 hS
        obtain ⟨wN, hwN⟩ : ∃ wN, wN = wS.ext x2 := ⟨_, rfl⟩
        rw [← hwN] at hS2 r2 ⊢
        clear hwN
        have hbN := hS2.bl
        go_wp2_with fail
        go_loopw [8, 9, 11] (fun v8 v9 v11 wy => ∃ k : Nat, k ≤ ns.length ∧ v11 = .int .i64 k ∧ v8 = .int .i64 (((ns.take k).filter fun j => low l j i).length : Nat) ∧ v9 = .int .i64 (((ns.take k).filter fun j => low l i j).length : Nat) ∧ Blw wN wy) (fun _ _ k _ => ns.length - (intOf k).toNat)
        case atStart => exact ⟨0, Nat.zero_le _, rfl, rfl, rfl, Blw.refl _⟩
        case round =>
          obtain ⟨k, hk, rfl, rfl, rfl, hby⟩ := hrel
          by_cases hlk : k < ns.length
          · obtain ⟨j0, b2, o2, -, hm, hg, rfl, hbs2, hc2⟩ := (r2.blw hby).elem (k := k) (by simpa using hlk)
            obtain ⟨j, hj, hjm⟩ : ∃ j : Nat, ns[k]? = some j ∧ j0 = (j : Int) := by
              have h1 := hg.out
              rw [List.getElem?_map, List.getElem?_eq_getElem hlk] at h1
              exact ⟨ns[k], List.getElem?_eq_getElem hlk, (Option.some.inj h1).symm⟩
            subst hjm
            have hjl := HNSL.out j (List.mem_of_getElem? hj)
            obtain ⟨x, b, o, hgx, -, rfl, hbs, c0, c1⟩ := off_at (hA.blw (hbN.trans hby)) hlt
            obtain ⟨y, b4, o4, hgy, -, e4, -, f0, f1⟩ := off_at (hA.blw (hbN.trans hby)) hjl
            simp only [Option.some.injEq, Addr.mk.injEq] at e4
            obtain ⟨rfl, rfl, -⟩ := e4
            have L1 := Lib.hid (fun W => (low_at hgy hgx) ▸ refLower_any y.1 y.2 x.1 x.2 W)
            have L2 := Lib.hid (fun W => (low_at hgx hgy) ▸ refLower_any x.1 x.2 y.1 y.2 W)
            have HT1 : Hid (((ns.take (k + 1)).filter fun j => low l j i).length = ((ns.take k).filter fun j => low l j i).length + (if low l j i then 1 else 0)) := by
              show _ = _
              rw [List.take_add_one, hj, List.filter_append, List.length_append]
              simp only [Option.toList_some, List.filter_cons, List.filter_nil]
              generalize low l j i = p
              cases p <;> rfl
            have HT2 : Hid (((ns.take (k + 1)).filter fun j => low l i j).length = ((ns.take k).filter fun j => low l i j).length + (if low l i j then 1 else 0)) := by
              show _ = _
              rw [List.take_add_one, hj, List.filter_append, List.length_append]
              simp only [Option.toList_some, List.filter_cons, List.filter_nil]
              generalize low l i j = p
              cases p <;> rfl
            have i1 : (k : Int) < (ns.length : Int) := by omega
            have i2 : (0 : Int) ≤ (k : Int) := by omega
            have i3 : (j : Int) < (l.length : Int) := by omega
            have i4 : (0 : Int) ≤ (j : Int) := by omega
            have i5 : (i : Int) < (l.length : Int) := by omega
            have i6 : (0 : Int) ≤ (i : Int) := by omega
            have m1 : ((ns.take k).filter fun j => low l j i).length ≤ 2 := Nat.le_trans (List.length_filter_le _ _) (by simp; omega)
            have m2 : ((ns.take k).filter fun j => low l i j).length ≤ 2 := Nat.le_trans (List.length_filter_le _ _) (by simp; omega)
            generalize ((ns.take k).filter fun j => low l j i).length = cl at *
            generalize ((ns.take k).filter fun j => low l i j).length = ch at *
            obtain ⟨x1, x2⟩ := x
            obtain ⟨y1, y2⟩ := y
            simp only at L1 L2 c0 c1 f0 f1
            generalize low l j i = p at *
            generalize low l i j = q at *
            clear hgx hgy hj hg hm
            cases p <;> cases q
            all_goals
              go_wp2_with fail
              refine wp_region_ext_lit (by kernel_rfl) (by kernel_rfl) ?_
              repeat (go_big_quiet_step ((go_at_call 17; first | (with_reducible exact Calls.ext_of (L1.out _)) | (with_reducible exact Calls.ext_of (L2.out _)))))
              refine wpQuiet_nil ?_
              rintro W9 ⟨z, hz⟩
              have hb9 : Blw wr W9 := by rw [hz]; exact (by repeat (first | exact Blw.refl _ | apply Blw.ext | apply Blw.alloc | apply Blw.drewN | apply Blw.drew | refine Blw.setCell ?_ _ _ (by simp)))
              have c0' := (Below.cell hb9 hbs).trans c0
              have c1' := (Below.cell hb9 hbs).trans c1
              have f0' := (Below.cell hb9 hbs).trans f0
              have f1' := (Below.cell hb9 hbs).trans f1
              have hc2' := (Below.cell hb9 hbs2).trans hc2
              have hbs' := Nat.lt_of_lt_of_le hbs hb9.size
              have hbs2' := Nat.lt_of_lt_of_le hbs2 hb9.size
              clear hz c0 c1 f0 f1 hc2
              go_wp2_with fail
              refine wp_region_ext_lit (by kernel_rfl) (by kernel_rfl) ?_
              repeat (go_big_quiet_step ((go_at_call 17; first | (with_reducible exact Calls.ext_of (L1.out _)) | (with_reducible exact Calls.ext_of (L2.out _)))))
              refine wpQuiet_nil ?_
              rintro _ ⟨z2, rfl⟩
              go_wp2_with fail
              go_roundw
              case rel => exact ⟨k + 1, by omega, by go_num, by rw [HT1.out]; first | rfl | go_num, by rw [HT2.out]; first | rfl | go_num, (hby.trans hb9).ext z2⟩
              case measure => simp [intOf]; omega
          · have hkn : k = ns.length := by omega
            subst hkn
            have S0 := hS2.blw hby
            have N0 := r2.blw hby
            rw [List.take_length]
            have HD := Lib.hid (fun (W : World) (hW : Blw w W) (hB : Arr W B (i64s (nats ns))) => refDoubt_any A B l ns cap cB i W (hA.blw hW) hB hlt HNSL.out (by omega) (by omega))
            have hT : isTop l i = ((sc2 l i).nr == 2 && (sc2 l i).hi == 2) := rfl
            have hBo : isBot l i = ((sc2 l i).nr == 2 && (sc2 l i).lo == 2) := rfl
            have hDb : isDbt l i = (sc2 l i).db := rfl
            rw [HN1.out, HN2.out] at hT
            rw [HN1.out, HN3.out] at hBo
            rw [HN4.out] at hDb
            have cs : ∀ n : Nat, ((n : Int) == 2) = (n == 2) := fun n => by rw [Bool.eq_iff_iff, beq_iff_eq, beq_iff_eq]; omega
            have k1 := cs (ns.filter fun j => low l j i).length
            have k2 := cs (ns.filter fun j => low l i j).length
            have k3 := cs ns.length
            generalize ((ns.filter fun j => low l j i).length == 2) = ba at *
            generalize ((ns.filter fun j => low l i j).length == 2) = bb at *
            generalize (ns.length == 2) = bn at *
            generalize (ns.filter fun j => low l j i).length = cl at *
            generalize (ns.filter fun j => low l i j).length = ch at *
            generalize ns.any (dbN l i) = sd at *
            have t1 := tks_len (isTop l) first i
            have t2 := tks_len (isBot l) first i
            have t3 := tks_len (isDbt l) first i
            have f1 : IntKind.i64.wrap (first + (i : Int)) = first + (i : Int) := by rw [IntKind.wrap_i64]; omega
            have HR : ∀ (W : World) (u1 u2 u3 : Value), SAt3 w W (w.heap.size + 1) w.heap.size 108 (if bn && ba then tks (isTop l) first i ++ [first + (i : Int)] else tks (isTop l) first i) (if bn && bb then tks (isBot l) first i ++ [first + (i : Int)] else tks (isBot l) first i) (if sd then tks (isDbt l) first i ++ [first + (i : Int)] else tks (isDbt l) first i) u1 u2 u3 →
                SAt3 w W (w.heap.size + 1) w.heap.size 108 (tks (isTop l) first (i + 1)) (tks (isBot l) first (i + 1)) (tks (isDbt l) first (i + 1)) u1 u2 u3 := by
              intro W u1 u2 u3 h
              rw [tks_is, tks_is, tks_is, hT, hBo, hDb]; exact h
            have HHR := Lib.hid HR
            have b1 := HB1.out
            have b2 := HB2.out
            have hg0 := HG0.out
            replace hnb := hnb.out
            clear hT hBo hDb hS2 hby hbN cs HR HN1 HN2 HN3 HN4 HB1 HB2 HG0 r2 hb
            generalize tks (isTop l) first i = L1 at *
            generalize tks (isBot l) first i = L2 at *
            generalize tks (isDbt l) first i = L3 at *
            have HNB := Lib.hid hnb
            have HB1 := Lib.hid b1
            have HB2 := Lib.hid b2
            have HG0 := Lib.hid hg0
            clear hnb b1 b2 hg0
            obtain ⟨a1, cc1, rfl, -, -, -, -, -⟩ := own_arr S0.o1
            obtain ⟨a2, cc2, rfl, -, -, -, -, -⟩ := own_arr S0.o2
            obtain ⟨a3, cc3, rfl, -, -, -, -, -⟩ := own_arr S0.o3
            cases sd
            · cases bn
              · obtain ⟨x1, x2, x3, x4, x5⟩ := S0.cells
                go_wp2_with (first | (go_at_call 134; (with_reducible refine Calls.mono (HD.out _ S0.bl N0) ?_); rintro e w9 ⟨rfl, zd, rfl⟩; have SD := S0.blw (World.blw_ext _ zd); obtain ⟨z1, z2, z3, z4, z5⟩ := SD.cells; clear S0))
                go_roundw
                case rel => exact ⟨i + 1, _, _, _, by omega, by go_num, HHR.out _ _ _ _ SD⟩
                case measure => simp [intOf]; omega
              · cases ba
                · cases bb
                  · obtain ⟨x1, x2, x3, x4, x5⟩ := S0.cells
                    go_wp2_with (first | (go_at_call 134; (with_reducible refine Calls.mono (HD.out _ S0.bl N0) ?_); rintro e w9 ⟨rfl, zd, rfl⟩; have SD := S0.blw (World.blw_ext _ zd); obtain ⟨z1, z2, z3, z4, z5⟩ := SD.cells; clear S0))
                    go_roundw
                    case rel => exact ⟨i + 1, _, _, _, by omega, by go_num, HHR.out _ _ _ _ SD⟩
                    case measure => simp [intOf]; omega
                  · obtain ⟨x1, x2, x3, x4, x5⟩ := S0.cells
                    go_wp2_with (first | (at_builtin; have p := S0.o2; refine wpList_app2 w _ rfl _ _ 106 rfl sl_ints (S0.bl.alloc _) _ L2.length (i64s L2) rfl (ownsRow_blw p ((Blw.refl _).alloc _)) _ 1 1 [.int .i64 (first + (i : Int))] rfl (by simp) (Arr.lit_at _ _ _ _ (by simp)) (by simp) (by simp [Value.oneCell']) (by unfold maxLen; omega) (by omega) ?_; intro v10 w10 q1 q2 q3 q4; obtain ⟨y1, y2, y3, y4, y5⟩ := cells3 (SAt3.grown2 (S0.blw ((Blw.refl _).alloc _)) q3); have S1 := SAt3.app2 (S0.blw ((Blw.refl _).alloc _)) q1 q2 q3 q4; have N1 := near_app N0 HNB.out HB2.out q3 HG0.out 1 v10; obtain ⟨ab, cb, rfl, -, -, -, -, -⟩ := own_arr q1; clear p q1 q2 q3 q4 S0) | (go_at_call 134; (with_reducible refine Calls.mono (HD.out _ S1.bl N1) ?_); rintro e w9 ⟨rfl, zd, rfl⟩; have SD := S1.blw (World.blw_ext _ zd); obtain ⟨z1, z2, z3, z4, z5⟩ := SD.cells; clear S1))
                    go_roundw
                    case rel => exact ⟨i + 1, _, _, _, by omega, by go_num, HHR.out _ _ _ _ SD⟩
                    case measure => simp [intOf]; omega
                · cases bb
                  · obtain ⟨x1, x2, x3, x4, x5⟩ := S0.cells
                    go_wp2_with (first | (at_builtin; have p := S0.o1; refine wpList_app2 w _ rfl _ _ 106 rfl sl_ints (S0.bl.alloc _) _ L1.length (i64s L1) rfl (ownsRow_blw p ((Blw.refl _).alloc _)) _ 1 1 [.int .i64 (first + (i : Int))] rfl (by simp) (Arr.lit_at _ _ _ _ (by simp)) (by simp) (by simp [Value.oneCell']) (by unfold maxLen; omega) (by omega) ?_; intro v10 w10 q1 q2 q3 q4; obtain ⟨y1, y2, y3, y4, y5⟩ := cells3 (SAt3.grown1 (S0.blw ((Blw.refl _).alloc _)) q3); have S1 := SAt3.app1 (S0.blw ((Blw.refl _).alloc _)) q1 q2 q3 q4; have N1 := near_app N0 HNB.out HB1.out q3 HG0.out 0 v10; obtain ⟨ab, cb, rfl, -, -, -, -, -⟩ := own_arr q1; clear p q1 q2 q3 q4 S0) | (go_at_call 134; (with_reducible refine Calls.mono (HD.out _ S1.bl N1) ?_); rintro e w9 ⟨rfl, zd, rfl⟩; have SD := S1.blw (World.blw_ext _ zd); obtain ⟨z1, z2, z3, z4, z5⟩ := SD.cells; clear S1))
                    go_roundw
                    case rel => exact ⟨i + 1, _, _, _, by omega, by go_num, HHR.out _ _ _ _ SD⟩
                    case measure => simp [intOf]; omega
                  · obtain ⟨x1, x2, x3, x4, x5⟩ := S0.cells
                    go_wp2_with (first | (at_builtin; have p := S0.o1; refine wpList_app2 w _ rfl _ _ 106 rfl sl_ints (S0.bl.alloc _) _ L1.length (i64s L1) rfl (ownsRow_blw p ((Blw.refl _).alloc _)) _ 1 1 [.int .i64 (first + (i : Int))] rfl (by simp) (Arr.lit_at _ _ _ _ (by simp)) (by simp) (by simp [Value.oneCell']) (by unfold maxLen; omega) (by omega) ?_; intro v10 w10 q1 q2 q3 q4; obtain ⟨y1, y2, y3, y4, y5⟩ := cells3 (SAt3.grown1 (S0.blw ((Blw.refl _).alloc _)) q3); have S1 := SAt3.app1 (S0.blw ((Blw.refl _).alloc _)) q1 q2 q3 q4; have N1 := near_app N0 HNB.out HB1.out q3 HG0.out 0 v10; obtain ⟨ab, cb, rfl, -, -, -, -, -⟩ := own_arr q1; clear p q1 q2 q3 q4 S0) | (at_builtin; have p := S1.o2; refine wpList_app2 w _ rfl _ _ 106 rfl sl_ints (S1.bl.alloc _) _ L2.length (i64s L2) rfl (ownsRow_blw p ((Blw.refl _).alloc _)) _ 1 1 [.int .i64 (first + (i : Int))] rfl (by simp) (Arr.lit_at _ _ _ _ (by simp)) (by simp) (by simp [Value.oneCell']) (by unfold maxLen; omega) (by omega) ?_; intro v11 w11 q1 q2 q3 q4; obtain ⟨y1, y2, y3, y4, y5⟩ := cells3 (SAt3.grown2 (S1.blw ((Blw.refl _).alloc _)) q3); have S2 := SAt3.app2 (S1.blw ((Blw.refl _).alloc _)) q1 q2 q3 q4; have N2 := near_app N1 HNB.out HB2.out q3 HG0.out 1 v11; obtain ⟨ab, cb, rfl, -, -, -, -, -⟩ := own_arr q1; clear p q1 q2 q3 q4 S1) | (go_at_call 134; (with_reducible refine Calls.mono (HD.out _ S2.bl N2) ?_); rintro e w9 ⟨rfl, zd, rfl⟩; have SD := S2.blw (World.blw_ext _ zd); obtain ⟨z1, z2, z3, z4, z5⟩ := SD.cells; clear S2))
                    go_roundw
                    case rel => exact ⟨i + 1, _, _, _, by omega, by go_num, HHR.out _ _ _ _ SD⟩
                    case measure => simp [intOf]; omega
            · cases bn
              · obtain ⟨x1, x2, x3, x4, x5⟩ := S0.cells
                go_wp2_with (first | (go_at_call 134; (with_reducible refine Calls.mono (HD.out _ S0.bl N0) ?_); rintro e w9 ⟨rfl, zd, rfl⟩; have SD := S0.blw (World.blw_ext _ zd); obtain ⟨z1, z2, z3, z4, z5⟩ := SD.cells; clear S0) | (at_builtin; have p := SD.o3; refine wpList_app2 w _ rfl _ _ 106 rfl sl_ints (SD.bl.alloc _) _ L3.length (i64s L3) rfl (ownsRow_blw p ((Blw.refl _).alloc _)) _ 1 1 [.int .i64 (first + (i : Int))] rfl (by simp) (Arr.lit_at _ _ _ _ (by simp)) (by simp) (by simp [Value.oneCell']) (by unfold maxLen; omega) (by omega) ?_; intro v10 w10 q1 q2 q3 q4; obtain ⟨y1, y2, y3, y4, y5⟩ := cells3 (SAt3.grown3 (SD.blw ((Blw.refl _).alloc _)) q3); have S1 := SAt3.app3 (SD.blw ((Blw.refl _).alloc _)) q1 q2 q3 q4; obtain ⟨ab, cb, rfl, -, -, -, -, -⟩ := own_arr q1; clear p q1 q2 q3 q4 SD))
                go_roundw
                case rel => exact ⟨i + 1, _, _, _, by omega, by go_num, HHR.out _ _ _ _ S1⟩
                case measure => simp [intOf]; omega
              · cases ba
                · cases bb
                  · obtain ⟨x1, x2, x3, x4, x5⟩ := S0.cells
                    go_wp2_with (first | (go_at_call 134; (with_reducible refine Calls.mono (HD.out _ S0.bl N0) ?_); rintro e w9 ⟨rfl, zd, rfl⟩; have SD := S0.blw (World.blw_ext _ zd); obtain ⟨z1, z2, z3, z4, z5⟩ := SD.cells; clear S0) | (at_builtin; have p := SD.o3; refine wpList_app2 w _ rfl _ _ 106 rfl sl_ints (SD.bl.alloc _) _ L3.length (i64s L3) rfl (ownsRow_blw p ((Blw.refl _).alloc _)) _ 1 1 [.int .i64 (first + (i : Int))] rfl (by simp) (Arr.lit_at _ _ _ _ (by simp)) (by simp) (by simp [Value.oneCell']) (by unfold maxLen; omega) (by omega) ?_; intro v10 w10 q1 q2 q3 q4; obtain ⟨y1, y2, y3, y4, y5⟩ := cells3 (SAt3.grown3 (SD.blw ((Blw.refl _).alloc _)) q3); have S1 := SAt3.app3 (SD.blw ((Blw.refl _).alloc _)) q1 q2 q3 q4; obtain ⟨ab, cb, rfl, -, -, -, -, -⟩ := own_arr q1; clear p q1 q2 q3 q4 SD))
                    go_roundw
                    case rel => exact ⟨i + 1, _, _, _, by omega, by go_num, HHR.out _ _ _ _ S1⟩
                    case measure => simp [intOf]; omega
                  · obtain ⟨x1, x2, x3, x4, x5⟩ := S0.cells
                    go_wp2_with (first | (at_builtin; have p := S0.o2; refine wpList_app2 w _ rfl _ _ 106 rfl sl_ints (S0.bl.alloc _) _ L2.length (i64s L2) rfl (ownsRow_blw p ((Blw.refl _).alloc _)) _ 1 1 [.int .i64 (first + (i : Int))] rfl (by simp) (Arr.lit_at _ _ _ _ (by simp)) (by simp) (by simp [Value.oneCell']) (by unfold maxLen; omega) (by omega) ?_; intro v10 w10 q1 q2 q3 q4; obtain ⟨y1, y2, y3, y4, y5⟩ := cells3 (SAt3.grown2 (S0.blw ((Blw.refl _).alloc _)) q3); have S1 := SAt3.app2 (S0.blw ((Blw.refl _).alloc _)) q1 q2 q3 q4; have N1 := near_app N0 HNB.out HB2.out q3 HG0.out 1 v10; obtain ⟨ab, cb, rfl, -, -, -, -, -⟩ := own_arr q1; clear p q1 q2 q3 q4 S0) | (go_at_call 134; (with_reducible refine Calls.mono (HD.out _ S1.bl N1) ?_); rintro e w9 ⟨rfl, zd, rfl⟩; have SD := S1.blw (World.blw_ext _ zd); obtain ⟨z1, z2, z3, z4, z5⟩ := SD.cells; clear S1) | (at_builtin; have p := SD.o3; refine wpList_app2 w _ rfl _ _ 106 rfl sl_ints (SD.bl.alloc _) _ L3.length (i64s L3) rfl (ownsRow_blw p ((Blw.refl _).alloc _)) _ 1 1 [.int .i64 (first + (i : Int))] rfl (by simp) (Arr.lit_at _ _ _ _ (by simp)) (by simp) (by simp [Value.oneCell']) (by unfold maxLen; omega) (by omega) ?_; intro v11 w11 q1 q2 q3 q4; obtain ⟨y1, y2, y3, y4, y5⟩ := cells3 (SAt3.grown3 (SD.blw ((Blw.refl _).alloc _)) q3); have S2 := SAt3.app3 (SD.blw ((Blw.refl _).alloc _)) q1 q2 q3 q4; obtain ⟨ab, cb, rfl, -, -, -, -, -⟩ := own_arr q1; clear p q1 q2 q3 q4 SD))
                    go_roundw
                    case rel => exact ⟨i + 1, _, _, _, by omega, by go_num, HHR.out _ _ _ _ S2⟩
                    case measure => simp [intOf]; omega
                · cases bb
                  · obtain ⟨x1, x2, x3, x4, x5⟩ := S0.cells
                    go_wp2_with (first | (at_builtin; have p := S0.o1; refine wpList_app2 w _ rfl _ _ 106 rfl sl_ints (S0.bl.alloc _) _ L1.length (i64s L1) rfl (ownsRow_blw p ((Blw.refl _).alloc _)) _ 1 1 [.int .i64 (first + (i : Int))] rfl (by simp) (Arr.lit_at _ _ _ _ (by simp)) (by simp) (by simp [Value.oneCell']) (by unfold maxLen; omega) (by omega) ?_; intro v10 w10 q1 q2 q3 q4; obtain ⟨y1, y2, y3, y4, y5⟩ := cells3 (SAt3.grown1 (S0.blw ((Blw.refl _).alloc _)) q3); have S1 := SAt3.app1 (S0.blw ((Blw.refl _).alloc _)) q1 q2 q3 q4; have N1 := near_app N0 HNB.out HB1.out q3 HG0.out 0 v10; obtain ⟨ab, cb, rfl, -, -, -, -, -⟩ := own_arr q1; clear p q1 q2 q3 q4 S0) | (go_at_call 134; (with_reducible refine Calls.mono (HD.out _ S1.bl N1) ?_); rintro e w9 ⟨rfl, zd, rfl⟩; have SD := S1.blw (World.blw_ext _ zd); obtain ⟨z1, z2, z3, z4, z5⟩ := SD.cells; clear S1) | (at_builtin; have p := SD.o3; refine wpList_app2 w _ rfl _ _ 106 rfl sl_ints (SD.bl.alloc _) _ L3.length (i64s L3) rfl (ownsRow_blw p ((Blw.refl _).alloc _)) _ 1 1 [.int .i64 (first + (i : Int))] rfl (by simp) (Arr.lit_at _ _ _ _ (by simp)) (by simp) (by simp [Value.oneCell']) (by unfold maxLen; omega) (by omega) ?_; intro v11 w11 q1 q2 q3 q4; obtain ⟨y1, y2, y3, y4, y5⟩ := cells3 (SAt3.grown3 (SD.blw ((Blw.refl _).alloc _)) q3); have S2 := SAt3.app3 (SD.blw ((Blw.refl _).alloc _)) q1 q2 q3 q4; obtain ⟨ab, cb, rfl, -, -, -, -, -⟩ := own_arr q1; clear p q1 q2 q3 q4 SD))
                    go_roundw
                    case rel => exact ⟨i + 1, _, _, _, by omega, by go_num, HHR.out _ _ _ _ S2⟩
                    case measure => simp [intOf]; omega
                  · obtain ⟨x1, x2, x3, x4, x5⟩ := S0.cells
                    go_wp2_with (first | (at_builtin; have p := S0.o1; refine wpList_app2 w _ rfl _ _ 106 rfl sl_ints (S0.bl.alloc _) _ L1.length (i64s L1) rfl (ownsRow_blw p ((Blw.refl _).alloc _)) _ 1 1 [.int .i64 (first + (i : Int))] rfl (by simp) (Arr.lit_at _ _ _ _ (by simp)) (by simp) (by simp [Value.oneCell']) (by unfold maxLen; omega) (by omega) ?_; intro v10 w10 q1 q2 q3 q4; obtain ⟨y1, y2, y3, y4, y5⟩ := cells3 (SAt3.grown1 (S0.blw ((Blw.refl _).alloc _)) q3); have S1 := SAt3.app1 (S0.blw ((Blw.refl _).alloc _)) q1 q2 q3 q4; have N1 := near_app N0 HNB.out HB1.out q3 HG0.out 0 v10; obtain ⟨ab, cb, rfl, -, -, -, -, -⟩ := own_arr q1; clear p q1 q2 q3 q4 S0) | (at_builtin; have p := S1.o2; refine wpList_app2 w _ rfl _ _ 106 rfl sl_ints (S1.bl.alloc _) _ L2.length (i64s L2) rfl (ownsRow_blw p ((Blw.refl _).alloc _)) _ 1 1 [.int .i64 (first + (i : Int))] rfl (by simp) (Arr.lit_at _ _ _ _ (by simp)) (by simp) (by simp [Value.oneCell']) (by unfold maxLen; omega) (by omega) ?_; intro v11 w11 q1 q2 q3 q4; obtain ⟨y1, y2, y3, y4, y5⟩ := cells3 (SAt3.grown2 (S1.blw ((Blw.refl _).alloc _)) q3); have S2 := SAt3.app2 (S1.blw ((Blw.refl _).alloc _)) q1 q2 q3 q4; have N2 := near_app N1 HNB.out HB2.out q3 HG0.out 1 v11; obtain ⟨ab, cb, rfl, -, -, -, -, -⟩ := own_arr q1; clear p q1 q2 q3 q4 S1) | (go_at_call 134; (with_reducible refine Calls.mono (HD.out _ S2.bl N2) ?_); rintro e w9 ⟨rfl, zd, rfl⟩; have SD := S2.blw (World.blw_ext _ zd); obtain ⟨z1, z2, z3, z4, z5⟩ := SD.cells; clear S2) | (at_builtin; have p := SD.o3; refine wpList_app2 w _ rfl _ _ 106 rfl sl_ints (SD.bl.alloc _) _ L3.length (i64s L3) rfl (ownsRow_blw p ((Blw.refl _).alloc _)) _ 1 1 [.int .i64 (first + (i : Int))] rfl (by simp) (Arr.lit_at _ _ _ _ (by simp)) (by simp) (by simp [Value.oneCell']) (by unfold maxLen; omega) (by omega) ?_; intro v12 w12 q1 q2 q3 q4; obtain ⟨y1, y2, y3, y4, y5⟩ := cells3 (SAt3.grown3 (SD.blw ((Blw.refl _).alloc _)) q3); have S3 := SAt3.app3 (SD.blw ((Blw.refl _).alloc _)) q1 q2 q3 q4; obtain ⟨ab, cb, rfl, -, -, -, -, -⟩ := own_arr q1; clear p q1 q2 q3 q4 SD))
                    go_roundw
                    case rel => exact ⟨i + 1, _, _, _, by omega, by go_num, HHR.out _ _ _ _ S3⟩
                    case measure => simp [intOf]; omega
      · have hil : i = l.length := by omega
        subst hil
        have k1 := hS.o1
        have k2 := hS.o2
        have k3 := hS.o3
        obtain ⟨a1, c1, rfl, -, -, -, -, -⟩ := own_arr k1
        obtain ⟨a2, c2, rfl, -, -, -, -, -⟩ := own_arr k2
        obtain ⟨a3, c3, rfl, -, -, -, -, -⟩ := own_arr k3
        obtain ⟨s0, s1, s2, -, gl⟩ := hS.cells
        have HF := Lib.hid (sure_end hS)
        obtain ⟨hfz, d0, d1, d2, r0, r1, r2⟩ := three hS.rs (.slice a1 (tks (isTop l) first l.length).length c1) (.slice a2 (tks (isBot l) first l.length).length c2) (.slice a3 (tks (isDbt l) first l.length).length c3)
        clear hS k1 k2 k3 hlt hb
        go_wp2
        exact bodyPost_ret (v := .tuple #[.agg #[.slice a1 (tks (isTop l) first l.length).length c1, .slice a2 (tks (isBot l) first l.length).length c2, .slice a3 (tks (isDbt l) first l.length).length c3], .int .i64 0]) (by simp [results, Try.results82, go_sem, r0, r1, r2]) rfl ⟨_, _, _, rfl, HF.out⟩
end Go.Proofs.Ytigkfdoeneemeaa
/- Blocks of values of one cell each that a call makes and writes: any elements. -/
namespace Go
open Go.RowKit

/-- A block that holds these values. -/
def Rw (w : World) (g : Nat) (T : TypeId) (cs : List Value) : Prop := w.heap[g]? = some (.cells cs.toArray T (0, 0))
section
variable {w : World} {g : Nat} {T : TypeId} {cs : List Value}
theorem Rw.lt (h : Rw w g T cs) : g < w.heap.size := (Array.getElem?_eq_some_iff.1 h).1
theorem Rw.frozen (h : Rw w g T cs) (i : Nat) : w.frozen? ⟨g, i, none⟩ = false := frozen_of_row w g i _ _ h
theorem Rw.cell (h : Rw w g T cs) {k : Nat} {v : Value} (hx : cs[k]? = some v) : w.cell? ⟨g, k, none⟩ = some v := by
  unfold Rw at h
  simp [World.cell?, h, hx]
theorem Rw.blw (h : Rw w g T cs) {w' : World} (k : Blw w w') : Rw w' g T cs := by
  unfold Rw; rw [Below.block k g h.lt]; exact h
theorem Rw.set (h : Rw w g T cs) (i : Nat) (v : Value) : Rw (w.setCell ⟨g, i, none⟩ v) g T (cs.set i v) := by
  have := at_set i v h
  unfold Rw
  rw [this]
  congr 2
  apply Array.ext'
  simp
theorem Rw.keptO (h : Rw w g T cs) {O : Nat → Prop} {w' : World} (k : KeptO O w w') (ho : ¬ O g) : Rw w' g T cs := k.heap h ho
theorem Rw.arr (h : Rw w g T cs) : Arr w (some ⟨g, 0, none⟩) cs := .inr ⟨g, 0, rfl, h.lt, fun i hi => by
  rw [Nat.zero_add, h.cell (List.getElem?_eq_getElem hi), List.getElem?_eq_getElem hi]⟩
theorem Rw.own (h : Rw w g T cs) {B n : Nat} (hB : B ≤ g) (hn : n ≤ cs.length) (hl : cs.length ≤ maxLen) : w.ownsRow B T 1 (.slice (some ⟨g, 0, none⟩) n cs.length) n (cs.take n) :=
  ⟨by simp; omega, .inr ⟨g, cs.length, _, rfl, hB, h, hn, hl, by simp, by simp⟩⟩
theorem Rw.of_own {B n : Nat} {v : Value} (h : w.ownsRow B T 1 v n cs) (hn : 0 < n) : ∃ g rest, v = .slice (some ⟨g, 0, none⟩) n (n + rest.length) ∧ B ≤ g ∧ Rw w g T (cs ++ rest) ∧ cs.length = n ∧ n + rest.length ≤ maxLen := by
  obtain ⟨h1, h2⟩ := h
  rcases h2 with ⟨h3, h4⟩ | ⟨g, cap, cur, hv, hg, hh, hn2, hm, hs, ht⟩
  · omega
  · rw [Nat.mul_one] at h1 hs ht
    have hlr : (cur.toList.drop n).length = cap - n := by simp; omega
    refine ⟨g, cur.toList.drop n, ?_, hg, ?_, h1, ?_⟩
    · rw [hlr, Nat.add_sub_cancel' hn2]; exact hv
    · unfold Rw
      rw [hh]
      congr 2
      apply Array.ext'
      rw [← ht, List.take_append_drop]
    · rw [hlr, Nat.add_sub_cancel' hn2]; exact hm
theorem Rw.of_own_any {B n c : Nat} {a : Addr} (h : w.ownsRow B T 1 (.slice (some a) n c) n cs) : ∃ g rest, a = ⟨g, 0, none⟩ ∧ c = n + rest.length ∧ B ≤ g ∧ Rw w g T (cs ++ rest) ∧ cs.length = n ∧ c ≤ maxLen := by
  obtain ⟨h1, h2⟩ := h
  rcases h2 with ⟨h3, h4⟩ | ⟨g, cap, cur, hv, hg, hh, hn2, hm, hs, ht⟩
  · cases h3
  · cases hv
    rw [Nat.mul_one] at h1 hs ht
    have hlr : (cur.toList.drop n).length = c - n := by simp; omega
    refine ⟨g, cur.toList.drop n, rfl, by omega, hg, ?_, h1, hm⟩
    unfold Rw
    rw [hh]
    congr 2
    apply Array.ext'
    rw [← ht, List.take_append_drop]
end
theorem Rw.set_own {w : World} {g : Nat} {T : TypeId} {cs rest : List Value} {B n c k : Nat} (v : Value) (h : Rw w g T (cs ++ rest)) (hB : B ≤ g) (hn : cs.length = n) (hc : c = n + rest.length) (hm : n + rest.length ≤ maxLen) (hk : k < n) : (w.setCell ⟨g, k, none⟩ v).ownsRow B T 1 (.slice (some ⟨g, 0, none⟩) n c) n (cs.set k v) := by
  have h2 := h.set k v
  rw [List.set_append_left _ _ (by omega)] at h2
  have h3 := h2.own (B := B) (n := n) hB (by simp; omega) (by simp; omega)
  rw [List.take_append_of_le_length (by simp; omega), List.take_of_length_le (by simp; omega)] at h3
  have e : (cs.set k v ++ rest).length = c := by simp; omega
  rw [e] at h3
  exact h3
theorem fill_at {ws : List Value} {n k : Nat} {z : Value} (h : ws.length = k) (hk : k < n) : (ws ++ List.replicate (n - k) z)[k]? = some z := by
  rw [List.getElem?_append_right (by omega), h, Nat.sub_self, List.getElem?_replicate, if_pos (by omega)]
theorem fill_set {ws : List Value} {n k : Nat} {z : Value} (v : Value) (h : ws.length = k) (hk : k < n) : (ws ++ List.replicate (n - k) z).set k v = (ws ++ [v]) ++ List.replicate (n - (k + 1)) z := by
  rw [List.set_append_right _ _ (by omega), h, Nat.sub_self, show n - k = n - (k + 1) + 1 by omega, List.replicate_succ, List.set_cons_zero]
  simp
/-- Rows of different elements lie in different blocks. -/
theorem Rw.ne_own {w : World} {g B n size : Nat} {T e : TypeId} {cs xs : List Value} {v : Value} (h : Rw w g T cs) (k : w.ownsRow B e size v n xs) (hne : T ≠ e) : ∀ i, v.ownBlock = some i → i ≠ g := by
  intro i h1 e2
  subst e2
  rcases k.2 with ⟨rfl, _⟩ | ⟨g2, c2, cur2, rfl, _, kk, _⟩
  · cases h1
  · simp [Value.ownBlock] at h1
    unfold Rw at h
    rw [h1, h] at kk
    simp at kk
    exact hne kk.2
theorem made_row (z : Value) (n : Nat) : madeCells #[z] n = (List.replicate n z).toArray := by
  apply Array.ext'
  simp only [madeCells, Array.toList_map, Array.toList_range]
  apply List.ext_getElem
  · simp
  · intro i h1 h2
    simp [Nat.mod_one]
/-- 'make([]T, n)', T of one cell. -/
theorem wpList_rows {P : Program} (w : World) {ops : Array Oper} {rest : List Oper} {o : Oper} {a : Act} {Q : Exit → Act → World → Prop}
    (hg : o.guard = none) (l c : Operand) (t : TypeId) (hop : o.op = Op.makeSlice t l c) {e : TypeId} {z : Value} {bytes : Nat} (hT : SlT P t e z 1 bytes) (hz : z.cells = #[z])
    (kl kc : IntKind) (L C : Int) (n : Nat) (hl : a.eval l = .int kl L) (hc : a.eval c = .int kc C) (hL : L = (n : Int)) (hC : C = (n : Int)) (h63 : n ≤ 1099511627776) (hb : bytes ≤ 200)
    (hK : ∀ w', Rw w' w.heap.size e (List.replicate n z) → Blw w w' → wpList P ops Q rest (a.put o.dst (.slice (some ⟨w.heap.size, 0, none⟩) n n)) w') :
    wpList P ops Q (o :: rest) a w := by
  subst hL hC
  obtain ⟨i, hi, hz0, hz1, hz2⟩ := info_parts hT.info
  refine wpList_make_row w hg l c t hop e i z hT.under hi hz0 hz1 hz kl kc n hl hc (by rw [hz2]; exact Nat.le_trans (Nat.mul_le_mul hb h63) (by decide)) (by omega) ?_
  rw [made_row]
  exact hK _ (heap_alloc_new w _) ((Blw.refl w).alloc _)
end Go
/- slackwaterkit.CopyInts, ApartInts, walked. -/
namespace Go.Proofs.Ytigkfdoeneemeaa
open Go.RowKit

theorem sl_is : SlT Try.prog 106 3 (.int .i64 0) 1 8 := ⟨Try.underlying106, by kernel_rfl, by kernel_rfl, by decide⟩
theorem sl_iss : SlT Try.prog 154 106 (.slice none 0 0) 1 24 := ⟨Try.underlying154, by kernel_rfl, by kernel_rfl, by decide⟩
theorem i64s_one (l : List Int) : ∀ u ∈ i64s l, u.oneCell' = true := by
  intro u hu
  simp at hu
  obtain ⟨a, _, rfl⟩ := hu
  rfl
set_option maxHeartbeats 400000 in
theorem copyInts_any (a : Option Addr) (l : List Int) (cap : Nat) (w : World) (h : Arr w a (i64s l)) (hn : a = none → cap = 0) (hl : l.length ≤ 1099511627776) :
    Calls Try.prog 160 #[.slice a l.length cap] w (RetOwn w 3 1 l.length (i64s l)) := by
  have hown : (w.alloc (.cells #[] 3)).ownsRow w.heap.size 3 1 (.slice (some ⟨w.heap.size, 0, none⟩) 0 0) 0 [] := World.ownsRow_made w #[] 0 (Nat.le_refl _) (Nat.zero_le _) rfl
  go_enter Try.func160, Try.ntmps160
  go_wp2_with (at_builtin; refine wpList_app w _ rfl _ _ 106 rfl sl_is ((Blw.refl w).alloc _) _ 0 [] rfl hown a l.length cap (i64s l) rfl hn (h.alloc _) (by simp) (i64s_one _) (by unfold maxLen; omega) (by omega) ?_; intro v' w1 hown1 hb1 _ _)
  go_ret
  exact RetOwn.of (by simpa using hown1) hb1

/-- A list of numbers and where it lies. -/
structure OI where
  a : Option Addr
  c : Nat
  l : List Int
abbrev ois (os : List OI) : List Value := os.map fun o => .slice o.a o.l.length o.c
structure OI.In (w : World) (o : OI) : Prop where
  ar : Arr w o.a (i64s o.l)
  na : o.a = none → o.c = 0
  lc : o.l.length ≤ o.c
  ln : o.l.length ≤ 1000000
theorem OI.In.blw {w w' : World} {o : OI} (h : OI.In w o) (k : Blw w w') : OI.In w' o := ⟨h.ar.blw k, h.na, h.lc, h.ln⟩
theorem OI.In.kept {w w' : World} {o : OI} {O : Nat → Prop} (h : OI.In w o) (k : KeptO O w w') (hO : ∀ q, o.a = some q → ¬ O q.block) : OI.In w' o := ⟨k.arr h.ar hO, h.na, h.lc, h.ln⟩

set_option maxRecDepth 100000 in
set_option maxHeartbeats 4000000 in
theorem apartInts_any (w0 : World) (v : Value) (n : Nat) (l : List Int) (oa : Option Addr) (os : List OI) (oc : Nat) (w : World) (hb0 : Blw w0 w) (hown : w.ownsRow w0.heap.size 3 1 v n (i64s l)) (hoa : Arr w oa (ois os)) (hos : ∀ o ∈ os, OI.In w o)
    (hna : ∀ q, oa = some q → v.ownBlock ≠ some q.block) (hno : ∀ o ∈ os, ∀ q, o.a = some q → v.ownBlock ≠ some q.block) (hn : n ≤ 1000000) (hlen : os.length ≤ 1000000) :
    Calls Try.prog 136 #[v, .slice oa os.length oc] w fun e w' => e = .returned (.bool true) ∧ KeptO (fun k => v.ownBlock = some k) w w' := by
  have HOS := Lib.hid hos
  have HNO := Lib.hid hno
  have hlt0 := World.ownsRow.lt hown
  have HLT0 := Lib.hid hlt0
  obtain ⟨va, vc, rfl, -, -, hnc, hcm, -⟩ := own_arr hown
  have hll : l.length = n := by have := hown.1; simpa using this
  obtain ⟨O, hO⟩ : ∃ O : Nat → Prop, O = fun k => (Value.slice va n vc).ownBlock = some k := ⟨_, rfl⟩
  have HO := Lib.hid hO
  rw [← hO]
  have hOlt : ∀ j, O j → w0.heap.size ≤ j ∧ j < w.heap.size := fun j hj => by rw [hO] at hj; exact hlt0 j hj
  have HOL := Lib.hid hOlt
  have HHOA := Lib.hid hoa
  have HNA := Lib.hid hna
  have HOWN := Lib.hid hown
  clear hos hno hO hlt0 hOlt
  go_enter Try.func136, Try.ntmps136
  go_wp2_with (refine wpList_rows _ rfl _ _ 154 rfl sl_iss rfl .i64 .i64 _ _ os.length rfl rfl (by omega) (by omega) (by omega) (by decide) ?_; intro w1 hrw hb1)
  go_loopw [6] (fun i wr => ∃ (k : Nat) (ws : List OI), k ≤ os.length ∧ i = .int .i64 k ∧ Blw w wr ∧ Rw wr w.heap.size 106 (ois ws ++ List.replicate (os.length - k) (.slice none 0 0)) ∧ Hid (ws.map (·.l) = (os.take k).map (·.l)) ∧ Hid (∀ o ∈ ws, wr.ownsRow w.heap.size 3 1 (.slice o.a o.l.length o.c) o.l.length (i64s o.l))) (fun i _ => os.length - (intOf i).toNat)
  case atStart => exact ⟨0, [], Nat.zero_le _, rfl, hb1, hrw, rfl, fun o ho => by simp at ho⟩
  case round =>
    obtain ⟨k, ws, hk, rfl, hb, hR, hkey, hws⟩ := hrel
    by_cases hlt : k < os.length
    · obtain ⟨o, b, of, -, hmo, hgo, rfl, hbs, hc⟩ := (show Arr wr oa (ois os) from hoa.blw hb).elem hlt
      have hoi := (HOS.out o hmo).blw hb
      have hln := hoi.ln
      have hcp := copyInts_any o.a o.l o.c wr hoi.ar hoi.na (by omega)
      have HCP := Lib.hid hcp
      have HGO := Lib.hid hgo.out
      have hwl : (ois ws).length = k := by
        have := congrArg List.length hkey.out
        simp at this ⊢; omega
      have HWL := Lib.hid hwl
      have j1 : (k : Int) < (os.length : Int) := by omega
      have j2 : (0 : Int) ≤ (k : Int) := by omega
      clear hcp hgo hmo hwl hoi hln
      go_wp2_with fail
      refine Calls.mono HCP.out ?_
      rintro e w2 ⟨a2, c2, x2, rfl, rfl, r1, r2, r3⟩
      have hRx := hR.blw (World.blw_ext wr x2)
      have hfx := hRx.frozen k
      have hzx := hRx.cell (fill_at HWL.out hlt)
      have HR1 := Lib.hid r1
      clear HCP r1 r2 r3
      go_wp2_with fail
      have hset := hRx.set k (.slice a2 o.l.length c2)
      rw [fill_set _ HWL.out hlt] at hset
      have hset2 : Rw ((wr.ext x2).setCell ⟨w.heap.size, k, none⟩ (.slice a2 o.l.length c2)) w.heap.size 106 (ois (ws ++ [⟨a2, c2, o.l⟩]) ++ List.replicate (os.length - (k + 1)) (.slice none 0 0)) := by
        have e : ois (ws ++ [(⟨a2, c2, o.l⟩ : OI)]) = ois ws ++ [.slice a2 o.l.length c2] := List.map_append
        rw [e]; exact hset
      have HK2 : Hid ((ws ++ [(⟨a2, c2, o.l⟩ : OI)]).map (·.l) = (os.take (k + 1)).map (·.l)) := by
        show _ = _
        rw [List.map_append, hkey.out, List.take_add_one, HGO.out]
        simp
      have hko : KeptO (fun j => j = w.heap.size) (wr.ext x2) ((wr.ext x2).setCell ⟨w.heap.size, k, none⟩ (.slice a2 o.l.length c2)) := (KeptO.refl _).setCell _ _ (.inl rfl)
      have HW2 : Hid (∀ o' ∈ ws ++ [(⟨a2, c2, o.l⟩ : OI)], ((wr.ext x2).setCell ⟨w.heap.size, k, none⟩ (.slice a2 o.l.length c2)).ownsRow w.heap.size 3 1 (.slice o'.a o'.l.length o'.c) o'.l.length (i64s o'.l)) := by
        intro o' ho
        rw [List.mem_append, List.mem_singleton] at ho
        rcases ho with ho | rfl
        · have ho1 := ownsRow_blw (hws.out o' ho) (World.blw_ext wr x2)
          exact hko.own ho1 (fun i hi => hRx.ne_own ho1 (by decide) i hi)
        · have ho1 := ownsRow_mono HR1.out hb.size
          exact hko.own ho1 (fun i hi => hRx.ne_own ho1 (by decide) i hi)
      clear hR hws hkey hset hko hRx hfx hzx
      go_roundw
      case rel => exact ⟨k + 1, _, by omega, by go_num, (hb.ext x2).setCell _ _ (Nat.le_refl _), hset2, HK2, HW2⟩
      case measure => simp [intOf]; omega
    · have hkl : k = os.length := by omega
      subst hkl
      rw [Nat.sub_self, List.replicate_zero, List.append_nil] at hR
      rw [List.take_length] at hkey
      have HKEY := Lib.hid hkey.out
      have HWS := Lib.hid hws.out
      have hgw : ¬ O w.heap.size := fun h => by have := (HOL.out _ h).2; omega
      have hbA : Blw w0 wr := hb0.trans hb
      obtain ⟨wA, hwA⟩ : ∃ wA, wA = wr := ⟨_, rfl⟩
      have hownA := ownsRow_blw hown hb
      rw [← hwA] at hR HWS hbA hownA hb ⊢
      clear hkey hws hoa hown hlt hwA hb1 hrw
      go_wp2_with fail
      go_loopw [7] (fun i wx => ∃ (k : Nat) (l' : List Int), k ≤ n ∧ i = .int .i64 k ∧ Hid (wx.ownsRow w0.heap.size 3 1 (.slice va n vc) n (i64s l')) ∧ KeptO O wA wx ∧ Blw w0 wx) (fun i _ => n - (intOf i).toNat)
      case atStart => exact ⟨0, l, Nat.zero_le _, rfl, hownA, KeptO.refl _, hbA⟩
      case round =>
        obtain ⟨k, l', hk, rfl, hwn, hK, hbx⟩ := hrel
        by_cases hlt : k < n
        · obtain ⟨g, rest, hv, hgB, hRw, hl', hm⟩ := Rw.of_own hwn.out (by omega)
          injection hv with hv1 hv2 hv3
          subst hv1
          have hOg : O g := by rw [HO.out]; rfl
          obtain ⟨x, hx⟩ : ∃ x, l'[k]? = some x := ⟨l'[k]'(by simp at hl'; omega), List.getElem?_eq_getElem _⟩
          have hcell := hRw.cell (k := k) (v := .int .i64 x) (by rw [List.getElem?_append_left (by simp; simp at hl'; omega), List.getElem?_map, hx]; rfl)
          have hfr := hRw.frozen k
          have j1 : (k : Int) < (n : Int) := by omega
          have j2 : (0 : Int) ≤ (k : Int) := by omega
          have HRW := Lib.hid hRw
          have HL' := Lib.hid hl'
          have HM := Lib.hid hm
          have HV3 := Lib.hid hv3
          clear hRw hwn hx hl' hm hv2 hv3
          go_wp2_with fail
          have hset := Rw.set_own (.int .i64 (bits BinOp.xor IntKind.i64 x 1)) HRW.out hgB HL'.out HV3.out HM.out hlt
          have hset2 : Hid ((wr.setCell ⟨g, k, none⟩ (.int .i64 (bits BinOp.xor IntKind.i64 x 1))).ownsRow w0.heap.size 3 1 (.slice (some ⟨g, 0, none⟩) n vc) n (i64s (l'.set k (bits BinOp.xor IntKind.i64 x 1)))) := by
            have e : i64s (l'.set k (bits BinOp.xor IntKind.i64 x 1)) = (i64s l').set k (.int .i64 (bits BinOp.xor IntKind.i64 x 1)) := List.map_set
            show World.ownsRow _ _ _ _ _ _ _
            rw [e]; exact hset
          clear hset HRW
          go_roundw
          case rel => exact ⟨k + 1, _, by omega, by go_num, hset2, hK.setCell _ _ (.inl hOg), hbx.setCell _ _ hgB⟩
          case measure => simp [intOf]; omega
        · have hkn : k = n := by omega
          subst hkn
          clear hlt
          go_wp2_with fail
          go_loopw [0, 8] (fun vs i wx => ∃ (j m c : Nat) (b : Option Addr) (l2 : List Int), j ≤ 3 ∧ m ≤ k + j ∧ i = .int .i64 j ∧ vs = .slice b m c ∧ Hid (wx.ownsRow w0.heap.size 3 1 (.slice b m c) m (i64s l2)) ∧ KeptO O wA wx ∧ Blw w0 wx ∧ Hid (∀ q, (Value.slice b m c).ownBlock = some q → O q ∨ wA.heap.size ≤ q)) (fun _ i _ => 3 - (intOf i).toNat)
          case atStart => exact ⟨0, k, vc, va, l', by omega, by omega, rfl, rfl, hwn, hK, hbx, fun q hq => .inl (by rw [HO.out]; exact hq)⟩
          case round =>
            obtain ⟨j, m, c, b, l2, hj, hmj, rfl, rfl, hwn2, hK2, hbx2, hq2⟩ := hrel
            by_cases hlt3 : j < 3 ∧ m < c
            · obtain ⟨h31, h32⟩ := hlt3
              have j1 : decide ((j : Int) < 3) = true := by simp; omega
              have j2 : decide ((m : Int) < (c : Int)) = true := by simp; omega
              go_wp2_with (at_builtin; refine wpList_app2 w0 _ rfl _ _ 106 rfl sl_is (hbx2.alloc _) _ m (i64s l2) rfl (ownsRow_blw hwn2.out ((Blw.refl _).alloc _)) _ 1 1 [.int .i64 55] rfl (by simp) (Arr.lit _ _ _ _) (by simp) (by simp [Value.oneCell']) (by unfold maxLen; omega) (by omega) ?_; intro v7 w7 hown7 hb7 hg7 hr7)
              have hK7 : KeptO O wA w7 := (hK2.alloc _).grown hg7 hq2.out
              have hq7 : Hid (∀ q, v7.ownBlock = some q → O q ∨ wA.heap.size ≤ q) := by
                intro q hq
                rcases hr7 with h | h
                · exact hq2.out q (h.symm.trans hq)
                · rw [hq] at h
                  have h := Option.some.inj h
                  right
                  rw [h]
                  exact Nat.le_trans hK2.size ((Blw.refl wr).alloc _).size
              have hown8 : w7.ownsRow w0.heap.size 3 1 v7 (m + 1) (i64s (l2 ++ [55])) := by
                have e : i64s (l2 ++ [55]) = i64s l2 ++ [.int .i64 55] := List.map_append
                rw [e]; exact hown7
              obtain ⟨b7, c7, rfl, -, -, -, -, -⟩ := own_arr hown8
              have H8 := Lib.hid hown8
              clear hown7 hg7 hr7 hwn2 hq2 hown8
              go_roundw
              case rel => exact ⟨j + 1, m + 1, c7, b7, _, by omega, by omega, by go_num, rfl, H8, hK7, hb7, hq7⟩
              case measure => simp [intOf]; omega
            · have hcs : decide ((j : Int) < 3) = false ∨ (decide ((j : Int) < 3) = true ∧ decide ((m : Int) < (c : Int)) = false ∧ decide (m < c) = false) := by
                by_cases h3 : j < 3
                · exact .inr ⟨by simp; omega, by simp; omega, by simp; omega⟩
                · exact .inl (by simp; omega)
              have hlws := HKEY.out
              have hlen2 : ws.length = os.length := by simpa using congrArg List.length hlws
              have HLW := Lib.hid hlen2
              clear hlws hlen2 hlt3 hwn2 hwn
              rcases hcs with d1 | ⟨d1, d2, d3⟩
              all_goals
                go_wp2_with fail
                clear d1
                (try clear d2 d3)
                go_loopw [9] (fun i wx => ∃ j : Nat, j ≤ os.length ∧ i = .int .i64 j ∧ KeptO O wA wx) (fun i _ => os.length - (intOf i).toNat)
                case atStart => exact ⟨0, Nat.zero_le _, rfl, hK2⟩
                case round =>
                  obtain ⟨p, hp, rfl, hK3⟩ := hrel
                  by_cases hlt : p < os.length
                  · have hKw : KeptO O w wr := (KeptO.of_blw hb).trans hK3
                    have hoa3 : Arr wr oa (ois os) := hKw.arr HHOA.out (fun q hq h => HNA.out q hq (by rw [HO.out] at h; exact h))
                    obtain ⟨o, b5, of, -, hmo, hgo, rfl, hbs, hc5⟩ := hoa3.elem hlt
                    have hR3 := hR.keptO hK3 hgw
                    obtain ⟨o', ho'⟩ : ∃ o', ws[p]? = some o' := ⟨ws[p]'(by rw [HLW.out]; exact hlt), List.getElem?_eq_getElem _⟩
                    have hl5 : o'.l = o.l := by
                      have := congrArg (fun z : List (List Int) => z[p]?) HKEY.out
                      simp only [List.getElem?_map, ho', hgo.out, Option.map_some, Option.some.injEq] at this
                      exact this
                    have hc6 := hR3.cell (k := p) (v := .slice o'.a o'.l.length o'.c) (by rw [List.getElem?_map, ho']; rfl)
                    have hf6 := hR3.lt
                    have hrow := HWS.out o' (List.mem_of_getElem? ho')
                    have hw6 : Arr wr o'.a (i64s o'.l) := by
                      obtain ⟨_, _, ee, k1, _⟩ := own_arr hrow
                      cases ee
                      exact hK3.arr k1 (fun q hq h => by
                        have h1 := (HOL.out _ h).2
                        have h2 := (World.ownsRow.lt hrow q.block (by rw [hq]; obtain ⟨b8, o8, s8⟩ := q; cases s8 <;> first | rfl | (rw [hq] at k1 hrow; rcases hrow.2 with ⟨e, _⟩ | ⟨g8, _, _, e, _⟩ <;> cases e))).1
                        omega)
                    have ho5 := (HOS.out o hmo).kept hKw (fun q hq h => HNO.out o hmo q hq (by rw [HO.out] at h; exact h))
                    have hln := ho5.ln
                    have hsm := Lib.hid (fun (W : World) (hW : Blw wr W) => sameInts_refl_any o.a o'.a o.l o.c o'.c W (ho5.ar.blw hW) (by rw [← hl5]; exact hw6.blw hW) (by omega))
                    rw [hl5] at hc6
                    have i1 : (p : Int) < (os.length : Int) := by omega
                    have i2 : (0 : Int) ≤ (p : Int) := by omega
                    clear hgo hmo ho' hrow hw6 ho5 hR3
                    go_wp2_with fail
                    refine wp_region_ext_lit (by kernel_rfl) (by kernel_rfl) ?_
                    repeat (go_big_quiet_step ((go_at_call 93; (with_reducible exact Calls.ext_of (hsm.out _ (by repeat (first | exact Blw.refl _ | apply Blw.ext | apply Blw.alloc | apply Blw.drewN | apply Blw.drew | refine Blw.setCell ?_ _ _ (by simp))))))))
                    refine wpQuiet_nil ?_
                    rintro _ ⟨z, rfl⟩
                    go_wp2
                    go_roundw
                    case rel => exact ⟨p + 1, by omega, by go_num, hK3.ext z⟩
                    case measure => simp [intOf]; omega
                  · go_wp2
                    go_ret
                    exact ⟨rfl, (KeptO.of_blw hb).trans hK3⟩
end Go.Proofs.Ytigkfdoeneemeaa
/- What water.Sures and the reference's answer, errors too; sure, apart, walked. -/
namespace Go.Proofs.Ytigkfdoeneemeaa
open Go.RowKit

def surL (p : Nat → Bool) (n : Nat) (first : Int) : List Int := if cntd n first = 0 then tks p first n else []
/-- Three lists of the call's own, apart, and the error. -/
def SurOut (w : World) (l : List (Nat × Nat)) (first : Int) (e : Ending) (w' : World) : Prop :=
  ∃ (v1 v2 v3 : Value), e = .returned (.tuple #[.agg #[v1, v2, v3], .int .i64 (cntd l.length first)]) ∧ Blw w w' ∧ w'.ownsRow w.heap.size 3 1 v1 (surL (isTop l) l.length first).length (i64s (surL (isTop l) l.length first)) ∧
    w'.ownsRow w.heap.size 3 1 v2 (surL (isBot l) l.length first).length (i64s (surL (isBot l) l.length first)) ∧ w'.ownsRow w.heap.size 3 1 v3 (surL (isDbt l) l.length first).length (i64s (surL (isDbt l) l.length first)) ∧
    (∀ i, v1.ownBlock = some i → v2.ownBlock ≠ some i) ∧ (∀ i, v1.ownBlock = some i → v3.ownBlock ≠ some i) ∧ (∀ i, v2.ownBlock = some i → v3.ownBlock ≠ some i)
theorem SurOut.ok {w : World} {l : List (Nat × Nat)} {first : Int} {e : Ending} {w' : World} (hc : cntd l.length first = 0) (h : SuresOut w l first e w') : SurOut w l first e w' := by
  have hs : ∀ p, surL p l.length first = tks p first l.length := fun p => if_pos hc
  obtain ⟨v1, v2, v3, h1, h2, h3, h4, h5, h6⟩ := h
  refine ⟨v1, v2, v3, by rw [hc]; exact h1, h2, ?_, ?_, ?_, h6⟩
  · rw [hs]; exact h3
  · rw [hs]; exact h4
  · rw [hs]; exact h5
theorem SurOut.err {w : World} {l : List (Nat × Nat)} {first : Int} {w' : World} (hc : ¬ cntd l.length first = 0) (hb : Blw w w') : SurOut w l first (.returned (.tuple #[.agg #[.slice none 0 0, .slice none 0 0, .slice none 0 0], .int .i64 (cntd l.length first)])) w' := by
  have hs : ∀ p, surL p l.length first = [] := fun p => if_neg hc
  refine ⟨_, _, _, rfl, hb, ?_, ?_, ?_, (fun i h => by cases h), (fun i h => by cases h), (fun i h => by cases h)⟩
  all_goals
    rw [hs]; exact World.ownsRow_nil _ _ _ _

set_option maxRecDepth 100000 in
set_option maxHeartbeats 2000000 in
theorem sures_any (A : Option Addr) (l : List (Nat × Nat)) (cap : Nat) (first : Int) (w : World) (hA : Arr w A (offs l)) (hl : l.length ≤ 100000) :
    Calls Try.prog 81 #[.slice A l.length cap, .int .i64 first] w (SurOut w l first) := by
  by_cases hc : cntd l.length first = 0
  · exact (sures_ok A l cap first w hA hc).mono fun _ _ h => SurOut.ok hc h
  · have CN := Lib.hid (fun W => counted_any l.length first W (by omega))
    have HERR := Lib.hid (fun (w' : World) (hb : Blw w w') => SurOut.err (l := l) hc hb)
    generalize cntd l.length first = u at *
    have q : (u != 0) = true := by simpa using hc
    have hR0 : (w.alloc (.cells #[.slice none 0 0, .slice none 0 0, .slice none 0 0] 108)).heap[w.heap.size]? = some (.cells #[.slice none 0 0, .slice none 0 0, .slice none 0 0] 108 (0, 0)) := heap_alloc_new _ _
    obtain ⟨hfz, e0, e1, e2, r0, r1, r2⟩ := three hR0 (.slice none 0 0) (.slice none 0 0) (.slice none 0 0)
    clear hc hR0
    go_enter Try.func81, Try.ntmps81
    go_wp2_with (go_at_call 126; refine Calls.mono (CN.out _) ?_; rintro e w1 ⟨rfl, rfl⟩)
    exact bodyPost_ret (v := .tuple #[.agg #[.slice none 0 0, .slice none 0 0, .slice none 0 0], .int .i64 u]) (by simp [results, Try.results81, go_sem, r0, r1, r2]) rfl (HERR.out _ (by repeat (first | exact Blw.refl _ | apply Blw.ext | apply Blw.alloc | apply Blw.drewN | apply Blw.drew | refine Blw.setCell ?_ _ _ (by simp))))

set_option maxRecDepth 100000 in
set_option maxHeartbeats 2000000 in
theorem refSures_any (A : Option Addr) (l : List (Nat × Nat)) (cap : Nat) (first : Int) (w : World) (hA : Arr w A (offs l)) (hl : l.length ≤ 100000) (hi0 : -9223372036854775808 ≤ first) (hi1 : first ≤ 9223372036854775807) :
    Calls Try.prog 82 #[.slice A l.length cap, .int .i64 first] w (SurOut w l first) := by
  by_cases hc : cntd l.length first = 0
  · exact (refSures_ok A l cap first w hA hc).mono fun _ _ h => SurOut.ok hc h
  · have HERR := Lib.hid (fun (w' : World) (hb : Blw w w') => SurOut.err (l := l) hc hb)
    have hcn : cntd l.length first = if 4096 < l.length then 3 else if first < 0 ∨ 1048576 < first ∨ (0 < l.length ∧ 1048576 - (l.length : Int) + 1 < first) then 2 else 0 := rfl
    have hR0 : (w.alloc (.cells #[.slice none 0 0, .slice none 0 0, .slice none 0 0] 108)).heap[w.heap.size]? = some (.cells #[.slice none 0 0, .slice none 0 0, .slice none 0 0] 108 (0, 0)) := heap_alloc_new _ _
    obtain ⟨hfz, e0, e1, e2, r0, r1, r2⟩ := three hR0 (.slice none 0 0) (.slice none 0 0) (.slice none 0 0)
    by_cases h1 : 4096 < l.length
    · rw [if_pos h1] at hcn
      rw [hcn] at HERR
      have d1 : decide ((4096 : Int) < (l.length : Int)) = true := by simp; omega
      clear hc hR0 hcn h1
      go_enter Try.func82, Try.ntmps82
      go_wp2
      exact bodyPost_ret (v := .tuple #[.agg #[.slice none 0 0, .slice none 0 0, .slice none 0 0], .int .i64 3]) (by simp [results, Try.results82, go_sem, r0, r1, r2]) rfl (HERR.out _ (by repeat (first | exact Blw.refl _ | apply Blw.ext | apply Blw.alloc | apply Blw.drewN | apply Blw.drew | refine Blw.setCell ?_ _ _ (by simp))))
    rw [if_neg h1] at hcn
    have h2 : first < 0 ∨ 1048576 < first ∨ (0 < l.length ∧ 1048576 - (l.length : Int) + 1 < first) := by
      rcases Classical.em (first < 0 ∨ 1048576 < first ∨ (0 < l.length ∧ 1048576 - (l.length : Int) + 1 < first)) with h | h
      · exact h
      · rw [if_neg h] at hcn; exact absurd hcn hc
    rw [if_pos h2] at hcn
    rw [hcn] at HERR
    have d1 : decide ((4096 : Int) < (l.length : Int)) = false := by simp; omega
    have g1e : IntKind.i64.wrap (IntKind.i64.wrap (1048576 - (l.length : Int)) + 1) = 1048576 - (l.length : Int) + 1 := by rw [IntKind.wrap_i64, IntKind.wrap_i64]; omega
    have g2e : IntKind.i64.wrap (1048576 - (l.length : Int)) = 1048576 - (l.length : Int) := by rw [IntKind.wrap_i64]; omega
    have g3e : IntKind.i64.wrap (1048576 - (l.length : Int) + 1) = 1048576 - (l.length : Int) + 1 := by rw [IntKind.wrap_i64]; omega
    have hways : decide (first < 0) = true ∨ (decide (first < 0) = false ∧ decide (1048576 < first) = true) ∨ (decide (first < 0) = false ∧ decide (1048576 < first) = false ∧ decide (0 < l.length) = true ∧ decide ((0 : Int) < (l.length : Int)) = true ∧ decide (1048576 - (l.length : Int) + 1 < first) = true) := by
      by_cases g1 : first < 0
      · exact .inl (by simpa using g1)
      · by_cases g2 : 1048576 < first
        · exact .inr (.inl ⟨by simpa using g1, by simpa using g2⟩)
        · rcases h2 with h | h | ⟨h, h'⟩
          · exact absurd h g1
          · exact absurd h g2
          · exact .inr (.inr ⟨by simpa using g1, by simpa using g2, by simpa using h, by simp; omega, by simpa using h'⟩)
    clear hc hR0 hcn h1 h2
    go_enter Try.func82, Try.ntmps82
    rcases hways with d2 | ⟨d2, d3⟩ | ⟨d2, d3, d4, d5, d6⟩
    all_goals
      go_wp2
      exact bodyPost_ret (v := .tuple #[.agg #[.slice none 0 0, .slice none 0 0, .slice none 0 0], .int .i64 2]) (by simp [results, Try.results82, go_sem, r0, r1, r2]) rfl (HERR.out _ (by repeat (first | exact Blw.refl _ | apply Blw.ext | apply Blw.alloc | apply Blw.drewN | apply Blw.drew | refine Blw.setCell ?_ _ _ (by simp))))

@[simp, go_sem] theorem World.cell?_ext2 (w x y : World) (b o : Nat) (s : Option Nat) (h : b < w.heap.size) : ((w.ext x).ext y).cell? ⟨b, o, s⟩ = w.cell? ⟨b, o, s⟩ :=
  (World.cell?_ext _ _ _ _ _ (World.lt_ext _ _ _ h)).trans (World.cell?_ext _ _ _ _ _ h)
@[simp, go_sem] theorem World.frozen?_ext2 (w x y : World) (b o : Nat) (s : Option Nat) (h : b < w.heap.size) : ((w.ext x).ext y).frozen? ⟨b, o, s⟩ = w.frozen? ⟨b, o, s⟩ :=
  (World.frozen?_ext _ _ _ _ _ (World.lt_ext _ _ _ h)).trans (World.frozen?_ext _ _ _ _ _ h)

set_option maxRecDepth 100000 in
set_option maxHeartbeats 2000000 in
theorem sure_yes (a1 a2 a3 b1 b2 b3 : Option Addr) (c1 c2 c3 d1 d2 d3 : Nat) (L1 L2 L3 : List Int) (w : World) (h1 : Arr w a1 (i64s L1)) (h2 : Arr w a2 (i64s L2)) (h3 : Arr w a3 (i64s L3)) (k1 : Arr w b1 (i64s L1)) (k2 : Arr w b2 (i64s L2)) (k3 : Arr w b3 (i64s L3)) (l1 : L1.length ≤ 100000) (l2 : L2.length ≤ 100000) (l3 : L3.length ≤ 100000) :
    Calls Try.prog 83 #[.agg #[.slice a1 L1.length c1, .slice a2 L2.length c2, .slice a3 L3.length c3], .agg #[.slice b1 L1.length d1, .slice b2 L2.length d2, .slice b3 L3.length d3]] w fun e w' => e = .returned (.bool true) ∧ ∃ x, w' = w.ext x := by
  have S1 := Lib.hid (fun (W : World) (hW : Blw w W) => sameInts_refl_any a1 b1 L1 c1 d1 W (h1.blw hW) (k1.blw hW) (by omega))
  have S2 := Lib.hid (fun (W : World) (hW : Blw w W) => sameInts_refl_any a2 b2 L2 c2 d2 W (h2.blw hW) (k2.blw hW) (by omega))
  have S3 := Lib.hid (fun (W : World) (hW : Blw w W) => sameInts_refl_any a3 b3 L3 c3 d3 W (h3.blw hW) (k3.blw hW) (by omega))
  clear h1 h2 h3 k1 k2 k3
  go_enter Try.func83, Try.ntmps83
  go_wp2_with (go_at_call 93; (first | (with_reducible refine Calls.mono (S1.out _ ?_) ?_) | (with_reducible refine Calls.mono (S2.out _ ?_) ?_) | (with_reducible refine Calls.mono (S3.out _ ?_) ?_)); (· exact (by repeat (first | exact Blw.refl _ | apply Blw.ext | apply Blw.alloc | apply Blw.drewN | apply Blw.drew | refine Blw.setCell ?_ _ _ (by simp)))); rintro e w9 ⟨rfl, z, rfl⟩)
  go_ret
  exact ⟨rfl, Blw.is (by repeat (first | exact Blw.refl _ | apply Blw.ext | apply Blw.alloc | apply Blw.drewN | apply Blw.drew | refine Blw.setCell ?_ _ _ (by simp)))⟩
end Go.Proofs.Ytigkfdoeneemeaa
/- slackwaterlaw25.apart, walked: six lists of the call's own, each apart from the others. -/
namespace Go.Proofs.Ytigkfdoeneemeaa
open Go.RowKit

abbrev OI.val (o : OI) : Value := .slice o.a o.l.length o.c
structure OI.Own (B : Nat) (w : World) (o : OI) : Prop where
  row : w.ownsRow B 3 1 o.val o.l.length (i64s o.l)
  ln : o.l.length ≤ 1000000
def OI.far (x y : OI) : Prop := ∀ i, x.val.ownBlock = some i → y.val.ownBlock ≠ some i
theorem OI.Own.in {B : Nat} {w : World} {o : OI} (h : OI.Own B w o) : OI.In w o := by
  obtain ⟨a, c, e, ha, -, hc, -, hn⟩ := own_arr h.row
  cases e
  exact ⟨ha, fun e => (hn e).2, hc, h.ln⟩

/-- Where the walk stands: the two boxes, and the lists that were not touched. -/
structure AT (w0 w : World) (x y : Obj) (os : List OI) (W : World) : Prop where
  kept : KeptO (fun k => w0.heap.size ≤ k) w W
  b0 : W.heap[w.heap.size]? = some x
  b1 : W.heap[w.heap.size + 1]? = some y
  own : ∀ o ∈ os, OI.Own w0.heap.size w o
  ownW : ∀ o ∈ os, OI.Own w0.heap.size W o

theorem apart_step {w0 w : World} {x y : Obj} {o : OI} {rest : List OI} {W : World} (hb : Blw w0 w) (h : AT w0 w x y (o :: rest) W) (hf : (o :: rest).Pairwise OI.far) (hl : rest.length ≤ 1000000) :
    Calls Try.prog 136 #[o.val, .slice (some ⟨W.heap.size, 0, none⟩) rest.length rest.length] (W.alloc (.cells (ois rest).toArray 106)) fun e w' => e = .returned (.bool true) ∧ AT w0 w x y rest w' := by
  have ho := h.ownW o (List.mem_cons_self ..)
  have hbW : Blw w0 W := KeptO.blw hb h.kept (fun i hi => hi)
  have hlt := World.ownsRow.lt ho.row
  have hlt0 := World.ownsRow.lt (h.own o (List.mem_cons_self ..)).row
  rw [List.pairwise_cons] at hf
  refine Calls.mono (apartInts_any w0 o.val o.l.length o.l (some ⟨W.heap.size, 0, none⟩) rest rest.length (W.alloc (.cells (ois rest).toArray 106)) (hbW.alloc _) (ownsRow_blw ho.row ((Blw.refl W).alloc _)) (by have := Arr.lit W (ois rest).toArray 106 (0, 0); simpa using this)
    (fun z hz => (h.ownW z (List.mem_cons_of_mem _ hz)).in.blw ((Blw.refl W).alloc _)) (fun q hq e => by cases hq; have := (hlt _ e).2; simp at this) (fun z hz q hq e => by
      have hz1 := (h.ownW z (List.mem_cons_of_mem _ hz)).row
      have hz2 := hf.1 z hz _ e
      obtain ⟨za, zc, zl⟩ := z
      rcases hz1.2 with ⟨e2, -⟩ | ⟨g, c, cs, e2, -⟩
      · injection e2 with e3; cases hq.symm.trans e3
      · injection e2 with e3; cases hq.symm.trans e3; exact hz2 (by show (Value.slice za zl.length zc).ownBlock = _; rw [show za = some _ from hq]; rfl)) ho.ln hl) ?_
  rintro e w' ⟨rfl, hk⟩
  have hk0 : KeptO (fun k => o.val.ownBlock = some k) W w' := (KeptO.of_blw ((Blw.refl W).alloc _)).trans (hk.mono fun i _ hi => hi)
  refine ⟨rfl, h.kept.trans (hk0.mono fun i _ hi => (hlt i hi).1), hk0.heap h.b0 (fun hi => ?_), hk0.heap h.b1 (fun hi => ?_), fun z hz => h.own z (List.mem_cons_of_mem _ hz), fun z hz => ?_⟩
  · have := (hlt0 _ hi).2; omega
  · have := (hlt0 _ hi).2; omega
  · have hz1 := h.ownW z (List.mem_cons_of_mem _ hz)
    exact ⟨hk0.own hz1.row (fun k hk' hk2 => hf.1 z hz k hk2 hk'), hz1.ln⟩

theorem at_read {w0 w : World} {u0 u1 u2 s0 s1 s2 : Value} {T : TypeId} {os : List OI} {W : World} (h : AT w0 w (.cells #[u0, u1, u2] T) (.cells #[s0, s1, s2] T) os W) :
    (∀ i, W.frozen? ⟨w.heap.size, i, none⟩ = false) ∧ W.cell? ⟨w.heap.size, 0, none⟩ = some u0 ∧ W.cell? ⟨w.heap.size, 1, none⟩ = some u1 ∧ W.cell? ⟨w.heap.size, 2, none⟩ = some u2 ∧
    (∀ i, W.frozen? ⟨w.heap.size + 1, i, none⟩ = false) ∧ W.cell? ⟨w.heap.size + 1, 0, none⟩ = some s0 ∧ W.cell? ⟨w.heap.size + 1, 1, none⟩ = some s1 ∧ W.cell? ⟨w.heap.size + 1, 2, none⟩ = some s2 := by
  obtain ⟨a1, a2, a3, a4, -⟩ := three h.b0 u0 u1 u2
  obtain ⟨b1, b2, b3, b4, -⟩ := three h.b1 s0 s1 s2
  exact ⟨a1, a2, a3, a4, b1, b2, b3, b4⟩

set_option maxRecDepth 100000 in
set_option maxHeartbeats 4000000 in
theorem apart_yes (w0 : World) (o1 o2 o3 o4 o5 o6 : OI) (w : World) (hb : Blw w0 w) (ho : ∀ o ∈ [o1, o2, o3, o4, o5, o6], OI.Own w0.heap.size w o) (hf : [o1, o2, o3, o4, o5, o6].Pairwise OI.far) :
    Calls Try.prog 85 #[.agg #[o1.val, o2.val, o3.val], .agg #[o4.val, o5.val, o6.val]] w fun e w' => e = .returned (.bool true) ∧ KeptO (fun k => w0.heap.size ≤ k) w w' := by
  obtain ⟨B0, hB0⟩ : ∃ B0 : Obj, B0 = .cells #[o1.val, o2.val, o3.val] 108 := ⟨_, rfl⟩
  obtain ⟨B1, hB1⟩ : ∃ B1 : Obj, B1 = .cells #[o4.val, o5.val, o6.val] 108 := ⟨_, rfl⟩
  have hT0 : AT w0 w B0 B1 [o1, o2, o3, o4, o5, o6] ((w.alloc (.cells #[o1.val, o2.val, o3.val] 108)).alloc (.cells #[o4.val, o5.val, o6.val] 108)) := by
    subst hB0 hB1
    refine ⟨KeptO.of_blw (((Blw.refl w).alloc _).alloc _), at_alloc _ (heap_alloc_new _ _), ?_, ho, fun o h => ⟨ownsRow_blw (ho o h).row (((Blw.refl w).alloc _).alloc _), (ho o h).ln⟩⟩
    have := heap_alloc_new (w.alloc (.cells #[o1.val, o2.val, o3.val] 108)) (.cells #[o4.val, o5.val, o6.val] 108)
    simpa using this
  have hf1 := (List.pairwise_cons.1 hf).2
  have hf2 := (List.pairwise_cons.1 hf1).2
  have C1 : Hid (∀ (W : World) (k : Nat), AT w0 w B0 B1 [o1, o2, o3, o4, o5, o6] W → k = W.heap.size → Calls Try.prog 136 #[.slice o1.a o1.l.length o1.c, .slice (some ⟨k, 0, none⟩) 5 5] (W.alloc (.cells #[.slice o2.a o2.l.length o2.c, .slice o3.a o3.l.length o3.c, .slice o4.a o4.l.length o4.c, .slice o5.a o5.l.length o5.c, .slice o6.a o6.l.length o6.c] 106)) fun e w' => e = .returned (.bool true) ∧ AT w0 w B0 B1 [o2, o3, o4, o5, o6] w') := fun W k h hk => by subst hk; exact apart_step hb h hf (by simp)
  have C2 : Hid (∀ (W : World) (k : Nat), AT w0 w B0 B1 [o2, o3, o4, o5, o6] W → k = W.heap.size → Calls Try.prog 136 #[.slice o2.a o2.l.length o2.c, .slice (some ⟨k, 0, none⟩) 4 4] (W.alloc (.cells #[.slice o3.a o3.l.length o3.c, .slice o4.a o4.l.length o4.c, .slice o5.a o5.l.length o5.c, .slice o6.a o6.l.length o6.c] 106)) fun e w' => e = .returned (.bool true) ∧ AT w0 w B0 B1 [o3, o4, o5, o6] w') := fun W k h hk => by subst hk; exact apart_step hb h hf1 (by simp)
  have C3 : Hid (∀ (W : World) (k : Nat), AT w0 w B0 B1 [o3, o4, o5, o6] W → k = W.heap.size → Calls Try.prog 136 #[.slice o3.a o3.l.length o3.c, .slice (some ⟨k, 0, none⟩) 3 3] (W.alloc (.cells #[.slice o4.a o4.l.length o4.c, .slice o5.a o5.l.length o5.c, .slice o6.a o6.l.length o6.c] 106)) fun e w' => e = .returned (.bool true) ∧ AT w0 w B0 B1 [o4, o5, o6] w') := fun W k h hk => by subst hk; exact apart_step hb h hf2 (by simp)
  have RD : Hid (∀ (os : List OI) (W : World), AT w0 w B0 B1 os W → (∀ i, W.frozen? ⟨w.heap.size, i, none⟩ = false) ∧ W.cell? ⟨w.heap.size, 0, none⟩ = some (.slice o1.a o1.l.length o1.c) ∧ W.cell? ⟨w.heap.size, 1, none⟩ = some (.slice o2.a o2.l.length o2.c) ∧ W.cell? ⟨w.heap.size, 2, none⟩ = some (.slice o3.a o3.l.length o3.c) ∧
    (∀ i, W.frozen? ⟨w.heap.size + 1, i, none⟩ = false) ∧ W.cell? ⟨w.heap.size + 1, 0, none⟩ = some (.slice o4.a o4.l.length o4.c) ∧ W.cell? ⟨w.heap.size + 1, 1, none⟩ = some (.slice o5.a o5.l.length o5.c) ∧ W.cell? ⟨w.heap.size + 1, 2, none⟩ = some (.slice o6.a o6.l.length o6.c)) := by
    intro os W h
    subst hB0 hB1
    exact at_read h
  have FIN : Hid (∀ W : World, AT w0 w B0 B1 [o4, o5, o6] W → KeptO (fun k => w0.heap.size ≤ k) w W) := fun W h => h.kept
  clear hB0 hB1 ho hf hf1 hf2
  go_enter Try.func85, Try.ntmps85
  go_wp2_with (go_loud (go_at_call 136; (first | (with_reducible refine Calls.mono (C1.out _ _ hT0 ?_) ?_) | (with_reducible refine Calls.mono (C2.out _ _ (by assumption) ?_) ?_) | (with_reducible refine Calls.mono (C3.out _ _ (by assumption) ?_) ?_)); (· simp); rintro e w9 ⟨rfl, hT9⟩; obtain ⟨q0, q1, q2, q3, q4, q5, q6, q7⟩ := RD.out _ _ hT9))
  go_ret
  exact ⟨rfl, FIN.out _ (by assumption)⟩
end Go.Proofs.Ytigkfdoeneemeaa
/- Walks of the reference's natural numbers (slackwaterref01): checks, words. -/
namespace Go.Proofs.Ytigkfdoeneemeaa
open Go.RowKit

set_option maxHeartbeats 400000 in
theorem refCheck_any (a : Option Addr) (l : List Nat) (cap : Nat) (w : World) (h : Arr w a (u32s l)) (hl : l.length ≤ 9223372036854775807) :
    Calls Try.prog 191 #[.slice a l.length cap] w fun e w' => e = .returned (.int .i64 (chk l)) ∧ w' = w := by
  by_cases h1 : 8192 < l.length
  · go_enter Try.func191, Try.ntmps191
    go_wp2
    go_ret
    exact ⟨ret_i64 (by unfold chk; rw [if_pos h1]), rfl⟩
  · by_cases h2 : 0 < l.length
    · obtain ⟨x, b, o, -, -, hx, rfl, hb, hc⟩ := h.elem (k := l.length - 1) (by omega)
      have hlast : Hid (l.getLast? = some x) := by show l.getLast? = some x; rw [List.getLast?_eq_getElem?]; exact hx.out
      by_cases h3 : x = 0
      all_goals
        go_enter Try.func191, Try.ntmps191
        go_wp2
        go_ret
        exact ⟨ret_i64 (by unfold chk; rw [if_neg h1, hlast.out]; simp [h3]), rfl⟩
    · go_enter Try.func191, Try.ntmps191
      go_wp2
      go_ret
      have : l = [] := List.eq_nil_of_length_eq_zero (by omega)
      exact ⟨ret_i64 (by subst this; rfl), rfl⟩

set_option maxHeartbeats 400000 in
theorem refBoth_any (a b : Option Addr) (l m : List Nat) (c d : Nat) (w : World) (h : Arr w a (u32s l)) (k : Arr w b (u32s m)) (hl : l.length ≤ 8192) (hm : m.length ≤ 8192) (nl : W.Nrm l) (nm : W.Nrm m) :
    Calls Try.prog 176 #[.slice a l.length c, .slice b m.length d] w fun e w' => e = .returned (.int .i64 0) ∧ w' = w := by
  have h1 := refCheck_any a l c w h (by omega)
  have h2 := refCheck_any b m d w k (by omega)
  rw [chk_zero hl nl] at h1
  rw [chk_zero hm nm] at h2
  go_enter Try.func176, Try.ntmps176
  go_wp2_with fail
  refine Calls.mono h1 ?_
  rintro e w' ⟨rfl, rfl⟩
  go_wp2_with fail
  refine Calls.mono h2 ?_
  rintro e w' ⟨rfl, rfl⟩
  go_wp2
  go_ret
  exact ⟨rfl, rfl⟩

set_option maxHeartbeats 400000 in
theorem refWord_any (a : Option Addr) (l : List Nat) (cap i : Nat) (w : World) (h : Arr w a (u32s l)) (hl : l.length ≤ 9223372036854775807) :
    Calls Try.prog 209 #[.slice a l.length cap, .int .i64 i] w fun e w' => e = .returned (.int .u32 (l.getD i 0 : Nat)) ∧ w' = w := by
  by_cases h1 : i < l.length
  · obtain ⟨x, b, o, -, -, hx, rfl, hb, hc⟩ := h.elem (k := i) h1
    have e : l.getD i 0 = x := by rw [List.getD_eq_getElem?_getD, hx.out]; rfl
    rw [e]
    clear e
    go_enter Try.func209, Try.ntmps209
    go_wp2
    go_ret
    exact ⟨rfl, rfl⟩
  · have e : l.getD i 0 = 0 := by rw [List.getD_eq_getElem?_getD, List.getElem?_eq_none (by omega)]; rfl
    rw [e]
    clear e
    go_enter Try.func209, Try.ntmps209
    go_wp2
    go_ret
    exact ⟨rfl, rfl⟩

set_option maxHeartbeats 1000000 in
theorem refTrim_any (a : Option Addr) (l : List Nat) (cap : Nat) (w : World) (h : Arr w a (u32s l)) (hc : l.length ≤ cap) (hl : cap ≤ 9223372036854775807) (hn : a = none → cap = 0) (hw : W.WF l) (h8 : l.length ≤ 1000000) :
    Calls Try.prog 193 #[.slice a l.length cap] w (RetW w (W.val l)) := by
  go_enter Try.func193, Try.ntmps193
  go_wp2
  go_loop [3] (fun i => ∃ k : Nat, k ≤ l.length ∧ i = .int .i64 k ∧ Hid (W.val (l.take k) = W.val l)) (fun i => (intOf i).toNat)
  case atStart => exact ⟨l.length, Nat.le_refl _, rfl, by show W.val (l.take l.length) = W.val l; rw [List.take_length]⟩
  case round =>
    obtain ⟨k, hk, rfl, hv⟩ := hrel
    have fin : (k = 0 ∨ l[k - 1]? ≠ some 0) → Hid (W.toW (W.val l) = l.take k) := fun hz => W.toW_eq_take hw hk hv.out hz
    have happ : Arr w a (u32s (l.take k)) := arr_pre h (List.take_prefix _ _)
    have hkl : (u32s (l.take k)).length = k := by simp; omega
    by_cases h0 : 0 < k
    · obtain ⟨x, b, o, -, -, hx, rfl, hb, hcl⟩ := h.elem (k := k - 1) (by omega)
      by_cases h3 : x = 0
      · subst h3
        clear fin happ hkl
        go_wp2
        go_round
        case rel => exact ⟨k - 1, by omega, by go_num, by
          show W.val (l.take (k - 1)) = W.val l
          have := W.val_take_succ hx.out
          rw [Nat.sub_add_cancel h0, hv.out] at this
          omega⟩
        case measure => (first | (simp [intOf]; done) | (simp [intOf]; omega))
      · have F := fin (.inr (by rw [hx.out]; simpa using h3))
        clear fin
        go_wp2_with (at_builtin; refine wpList_app w _ rfl _ _ 86 rfl sl_words (Blw.refl w) _ 0 [] rfl (World.ownsRow_nil _ _ _ _) (some ⟨b, o, none⟩) k cap (u32s (l.take k)) rfl (fun h => by cases h) happ (by rw [hkl, Nat.mul_one]) (u32s_one _) (by unfold maxLen; omega) (by omega) ?_; intro v' w1 hown1 hb1 _ _)
        go_ret
        refine RetOwn.of ?_ hb1
        rw [F.out, List.length_take, Nat.min_eq_left hk]
        simpa using hown1
    · have : k = 0 := by omega
      subst this
      have F := fin (.inl rfl)
      clear fin
      go_wp2_with (at_builtin; refine wpList_app w _ rfl _ _ 86 rfl sl_words (Blw.refl w) _ 0 [] rfl (World.ownsRow_nil _ _ _ _) a 0 cap (u32s (l.take 0)) rfl hn happ (by rw [hkl, Nat.mul_one]) (u32s_one _) (by unfold maxLen; omega) (by omega) ?_; intro v' w1 hown1 hb1 _ _)
      go_ret
      refine RetOwn.of ?_ hb1
      rw [F.out]
      simpa using hown1
end Go.Proofs.Ytigkfdoeneemeaa
/- The walk of slackwaterref01.Times. -/
namespace Go.Proofs.Ytigkfdoeneemeaa
open Go.RowKit

set_option maxRecDepth 100000 in
set_option maxHeartbeats 1000000 in
theorem refTimes_any (a b : Option Addr) (l m : List Nat) (c d : Nat) (w : World) (h : Arr w a (u32s l)) (k : Arr w b (u32s m)) (wl : W.WF l) (wm : W.WF m)
    (hs : l.length + m.length ≤ 8193) :
    Calls Try.prog 214 #[.slice a l.length c, .slice b m.length d] w (RetW w (W.val l * W.val m)) := by
  have p1 : l.length ≤ 1099511627776 := by omega
  have p2 : m.length ≤ 1099511627776 := by omega
  go_enter Try.func214, Try.ntmps214
  go_wp2_with (refine wpList_words _ rfl _ _ rfl .i64 .i64 _ _ (l.length + m.length) rfl rfl (by omega) (by omega) (by omega) ?_; intro w1 hbk hb1)
  go_loopw [6] (fun i wr => ∃ (k : Nat) (cs : List Nat), k ≤ l.length ∧ i = .int .i64 k ∧ Bk wr w.heap.size cs ∧ Blw w wr ∧ Hid (cs.length = l.length + m.length) ∧ Hid (W.WF cs) ∧ Hid (W.val (cs.take (k + m.length)) = W.val (l.take k) * W.val m)) (fun i _ => (l.length - intOf i).toNat)
  case atStart => exact ⟨0, _, Nat.zero_le _, rfl, hbk, hb1, List.length_replicate, W.WF.rep _, by
    show W.val _ = W.val _ * _
    rw [List.take_replicate, W.val_rep]; simp [W.val]⟩
  case round =>
    obtain ⟨i, cs, hi, rfl, hg, hbw, hcl, hcw, hcv⟩ := hrel
    by_cases h0 : i < l.length
    · obtain ⟨x, b1, o1, -, -, hx, rfl, hq1, hq2⟩ := (h.blw hbw).elem (k := i) h0
      have hxl := wl.at hx.out
      go_wp2_with fail
      go_loopw [7, 8] (fun c j wx => ∃ (k c' : Nat) (ds : List Nat), k ≤ m.length ∧ j = .int .i64 k ∧ c = .int .u64 c' ∧ c' < 4294967296 ∧ Bk wx w.heap.size ds ∧ Blw w wx ∧ Hid (ds.length = l.length + m.length) ∧ Hid (W.WF ds) ∧
        Hid (W.val (ds.take (i + m.length)) + W.pw (i + k) * c' = W.val (l.take i) * W.val m + W.pw i * (x * W.val (m.take k)))) (fun _ j _ => (m.length - intOf j).toNat)
      case atStart => exact ⟨0, 0, cs, Nat.zero_le _, rfl, rfl, by decide, hg, hbw, hcl, hcw, by
        show _ = _
        rw [hcv.out, Nat.mul_zero, List.take_zero, W.val, Nat.mul_zero, Nat.mul_zero]⟩
      case round =>
        obtain ⟨j, c', ds, hj, rfl, rfl, hc', hgx, hbx, hdl, hdw, hdv⟩ := hrel
        by_cases h1 : j < m.length
        · obtain ⟨y, b2, o2, -, -, hy, rfl, hr1, hr2⟩ := (k.blw hbx).elem (k := j) h1
          have hyl := wm.at hy.out
          obtain ⟨z, hz, hz1, hz2⟩ := hgx.elem (k := i + j) (by rw [hdl.out]; omega)
          have hzl := hdw.out.at hz.out
          have hxy := W.mul_words hxl hyl
          have hxy2 : (x : Int) * (y : Int) ≤ 18446744065119617025 := by rw [← Int.natCast_mul]; omega
          have hxy3 : (0 : Int) ≤ (x : Int) * (y : Int) := Int.mul_nonneg (Int.natCast_nonneg x) (Int.natCast_nonneg y)
          have hdl1 : i + j < l.length + m.length := by omega
          obtain ⟨x', b3, o3, -, -, hx', ee, hs1, hs2⟩ := (h.blw hbx).elem (k := i) h0
          cases ee
          cases hx'.out.symm.trans hx.out
          have j0 : (0 : Int) ≤ (i : Int) := by omega
          have j1 : (i : Int) < (l.length : Int) := by omega
          have j2 : (0 : Int) ≤ (j : Int) := by omega
          have j3 : (j : Int) < (m.length : Int) := by omega
          have j4 : (i : Int) + (j : Int) < (l.length : Int) + (m.length : Int) := by omega
          have j5 : (0 : Int) ≤ (i : Int) + (j : Int) := by omega
          have j6 : IntKind.i64.wrap ((i : Int) + (j : Int)) = (i : Int) + (j : Int) := by rw [IntKind.wrap_i64]; omega
          go_wp2_with fail
          go_quiet (fail)
          go_wp2_with fail
          have ep : (x : Int) * (y : Int) = ((x * y : Nat) : Int) := (Int.natCast_mul x y).symm
          rw [ep]
          have key := fun (v c'' : Nat) (ht : c' + (x * y + z) = v + 4294967296 * c'') => W.mul_step (W.val_take_set v (N := i + m.length) (by omega) hz.out) rfl ht hdv.out
          rw [← W.val_take_succ hy.out] at key
          have KEY := Lib.hid key
          clear key hxy2 hxy3 ep
          go_roundw
          case rel => exact ⟨j + 1, (x * y + z + c') / 4294967296, ds.set (i + j) ((x * y + z + c') % 4294967296), h1, by go_num, congrArg (Value.int .u64) (by omega), by omega, (hgx.drewN _).set _ (congrArg (Value.int .u32) (by omega)), (hbx.drewN _).setCell _ _ (Nat.le_refl _), by (show _ = _; rw [List.length_set]; exact hdl.out), hdw.out.set _ (by omega), KEY.out _ _ (by omega)⟩
          case measure => (first | (simp [intOf]; done) | (simp [intOf]; omega))
        · have : j = m.length := by omega
          subst this
          rw [List.take_length] at hdv
          obtain ⟨z, hz, hz1, hz2⟩ := hgx.elem (k := i + m.length) (by rw [hdl.out]; omega)
          have hdl1 : i + m.length < l.length + m.length := by omega
          go_wp2_with fail
          go_roundw
          case rel => exact ⟨i + 1, ds.set (i + m.length) c', h0, by go_num, hgx.set _ (congrArg (Value.int .u32) (by omega)), hbx.setCell _ _ (Nat.le_refl _), by (show _ = _; rw [List.length_set]; exact hdl.out), hdw.out.set _ hc', by
            show _ = _
            rw [show i + 1 + m.length = i + m.length + 1 by omega, W.val_take_set_end _ (by rw [hdl.out]; omega), hdv.out, W.val_take_succ hx.out, Nat.add_mul, Nat.mul_assoc]⟩
          case measure => (first | (simp [intOf]; done) | (simp [intOf]; omega))
    · have : i = l.length := by omega
      subst this
      have e1 : W.val cs = W.val l * W.val m := by
        have := hcv.out
        rwa [List.take_length, ← hcl.out, List.take_length] at this
      have hcut := refTrim_any (some ⟨w.heap.size, 0, none⟩) cs (l.length + m.length) wr hg.arr (by rw [hcl.out]; exact Nat.le_refl _) (by omega) (fun h => by cases h) hcw.out (by rw [hcl.out]; omega)
      rw [hcl.out, e1] at hcut
      go_wp2_with fail
      refine Calls.mono hcut ?_
      rintro e w2 ⟨a3, c3, x3, rfl, rfl, r1, r2, r3⟩
      go_wp2
      go_ret
      exact RetOwn.of (ownsRow_mono r1 hbw.size) (hbw.ext x3)
end Go.Proofs.Ytigkfdoeneemeaa
/- The walk of slackwaterref01.Compare, told. -/
namespace Go.Proofs.Ytigkfdoeneemeaa
open Go.RowKit

theorem W.val_split' (l : List Nat) (k : Nat) : W.val l = W.val (l.take k) + W.pw k * W.val (l.drop k) := by
  rcases Nat.lt_or_ge l.length k with h | h
  · rw [List.take_of_length_le (by omega), List.drop_eq_nil_of_le (by omega), W.val, Nat.mul_zero, Nat.add_zero]
  · exact W.val_split l k h
theorem W.val_take_lt {l : List Nat} (h : W.WF l) (k : Nat) : W.val (l.take k) < W.pw k := by
  have h1 := W.val_lt (h.take k)
  exact Nat.lt_of_lt_of_le h1 (Nat.pow_le_pow_right (by decide) (by simp; omega))
theorem W.val_drop' (l : List Nat) (k : Nat) : W.val (l.drop k) = l.getD k 0 + 4294967296 * W.val (l.drop (k + 1)) := by
  rcases Nat.lt_or_ge k l.length with h | h
  · have e : l[k]? = some l[k] := List.getElem?_eq_getElem h
    rw [val_drop e, List.getD_eq_getElem?_getD, e]; rfl
  · rw [List.drop_eq_nil_of_le h, List.drop_eq_nil_of_le (by omega), List.getD_eq_getElem?_getD, List.getElem?_eq_none h]; rfl
theorem W.cmp_at {a b : List Nat} (ha : W.WF a) (k : Nat) (hd : W.val (a.drop (k + 1)) = W.val (b.drop (k + 1))) (h : a.getD k 0 < b.getD k 0) : W.val a < W.val b := by
  rw [W.val_split' a k, W.val_split' b k, W.val_drop' a k, W.val_drop' b k, hd]
  have h1 := W.val_take_lt ha k
  generalize a.getD k 0 = x at *
  generalize b.getD k 0 = y at *
  generalize W.val (b.drop (k + 1)) = t
  have h2 : W.pw k * (x + 4294967296 * t + 1) ≤ W.pw k * (y + 4294967296 * t) := Nat.mul_le_mul_left _ (by omega)
  rw [Nat.mul_add _ _ 1, Nat.mul_one] at h2
  omega

set_option maxRecDepth 100000 in
set_option maxHeartbeats 2000000 in
theorem refCompare_any (a b : Option Addr) (l m : List Nat) (c d : Nat) (w : World) (h : Arr w a (u32s l)) (k : Arr w b (u32s m)) (wl : W.WF l) (wm : W.WF m) (hl : l.length ≤ 1000000) (hm : m.length ≤ 1000000) :
    Calls Try.prog 199 #[.slice a l.length c, .slice b m.length d] w fun e w' => e = .returned (.int .i64 (W.cmpN (W.val l) (W.val m))) ∧ w' = w := by
  go_enter Try.func199, Try.ntmps199
  go_wp2_with fail
  go_loop [6] (fun i => ∃ k : Nat, k ≤ 1000000 ∧ i = .int .i64 ((k : Int) - 1) ∧ Hid (W.val (l.drop k) = W.val (m.drop k))) (fun i => (intOf i + 1).toNat)
  case atStart => exact ⟨max l.length m.length, by omega, congrArg (Value.int .i64) (by omega), by
    show W.val _ = W.val _
    rw [List.drop_eq_nil_of_le (by omega), List.drop_eq_nil_of_le (by omega)]⟩
  case round =>
    obtain ⟨j, hj, rfl, hv⟩ := hrel
    by_cases h0 : 0 < j
    · obtain ⟨i, rfl⟩ : ∃ i, j = i + 1 := ⟨j - 1, by omega⟩
      have ej : (((i + 1 : Nat) : Int) - 1) = (i : Int) := by omega
      rw [ej]
      clear ej h0
      have D1 := Lib.hid (W.val_drop' l i)
      have D2 := Lib.hid (W.val_drop' m i)
      have C1 := Lib.hid (W.cmp_at wl i hv.out)
      have C2 := Lib.hid (W.cmp_at wm i hv.out.symm)
      have w1 := refWord_any a l c i w h (by omega)
      have w2 := refWord_any b m d i w k (by omega)
      generalize l.getD i 0 = x at *
      generalize m.getD i 0 = y at *
      rcases Nat.lt_trichotomy x y with hxy | hxy | hxy
      · have E := Lib.hid (C1.out hxy)
        go_wp2_with (go_at_call 209; (first | (with_reducible refine Calls.mono w1 ?_) | (with_reducible refine Calls.mono w2 ?_)); rintro e w' ⟨rfl, rfl⟩)
        go_ret
        exact ⟨ret_i64 (by rw [W.cmpN_lt E.out]), rfl⟩
      · subst hxy
        have E : Hid (W.val (l.drop i) = W.val (m.drop i)) := by show _ = _; rw [D1.out, D2.out, hv.out]
        go_wp2_with (go_at_call 209; (first | (with_reducible refine Calls.mono w1 ?_) | (with_reducible refine Calls.mono w2 ?_)); rintro e w' ⟨rfl, rfl⟩)
        go_round
        case rel => exact ⟨i, by omega, rfl, E⟩
        case measure => (first | (simp [intOf]; done) | (simp [intOf]; omega))
      · have E := Lib.hid (C2.out hxy)
        go_wp2_with (go_at_call 209; (first | (with_reducible refine Calls.mono w1 ?_) | (with_reducible refine Calls.mono w2 ?_)); rintro e w' ⟨rfl, rfl⟩)
        go_ret
        exact ⟨ret_i64 (by rw [W.cmpN_gt E.out]), rfl⟩
    · have : j = 0 := by omega
      subst this
      have e0 : (((0 : Nat) : Int) - 1) = -1 := by omega
      rw [e0]
      have e1 : W.val l = W.val m := hv.out
      have E := Lib.hid e1
      clear e1
      go_wp2
      go_ret
      exact ⟨ret_i64 (by rw [E.out, W.cmpN_eq]), rfl⟩
end Go.Proofs.Ytigkfdoeneemeaa
/- Walks of slackwaterref01: Of, Plus. -/
namespace Go.Proofs.Ytigkfdoeneemeaa
open Go.RowKit

set_option maxHeartbeats 400000 in
theorem refOf_any (x : Nat) (w : World) (hx : x < 18446744073709551616) :
    Calls Try.prog 201 #[.int .u64 x] w (RetW w x) := by
  go_enter Try.func201, Try.ntmps201
  go_wp2_with fail
  obtain ⟨lo, hlo⟩ : ∃ lo, lo = x % 4294967296 := ⟨_, rfl⟩
  obtain ⟨hi, hhi⟩ : ∃ hi, hi = x / 4294967296 := ⟨_, rfl⟩
  have e1 : ((x : Int) % 4294967296) = (lo : Int) := by omega
  have e2 : ((x : Int) / 4294967296) = (hi : Int) := by omega
  have ev : Hid (W.val [lo, hi] = x) := by show W.val [lo, hi] = x; simp only [W.val]; omega
  have hwf : W.WF [lo, hi] := W.WF.cons (by omega) (W.WF.cons (by omega) W.WF.nil)
  rw [e1, e2]
  clear e1 e2 hlo hhi
  have ho := own_lit w [lo, hi] (show 2 ≤ maxLen by decide)
  refine Calls.mono (refTrim_any (some ⟨w.heap.size, 0, none⟩) [lo, hi] 2 _ (own_read ho) (show 2 ≤ 2 by decide) (by decide) (fun h => by cases h) hwf (show 2 ≤ 1000000 by decide)) ?_
  rw [ev.out]
  rintro e w' ⟨a3, c3, x3, rfl, rfl, r1, r2, r3⟩
  clear ev ho
  go_wp2
  go_ret
  exact RetOwn.of (ownsRow_mono r1 (by simp)) (((Blw.refl w).alloc _).ext x3)

theorem W.val_take_succ' (l : List Nat) (k : Nat) : W.val (l.take (k + 1)) = W.val (l.take k) + W.pw k * l.getD k 0 := by
  rcases Nat.lt_or_ge k l.length with h | h
  · have e : l[k]? = some l[k] := List.getElem?_eq_getElem h
    rw [W.val_take_succ e, List.getD_eq_getElem?_getD, e]; rfl
  · rw [List.take_of_length_le (by omega), List.take_of_length_le h, List.getD_eq_getElem?_getD, List.getElem?_eq_none h]; simp only [Option.getD_none, Nat.mul_zero, Nat.add_zero]
theorem W.getD_lt {l : List Nat} (h : W.WF l) (k : Nat) : l.getD k 0 < 4294967296 := by
  rw [List.getD_eq_getElem?_getD]
  rcases e : l[k]? with _ | x
  · decide
  · exact h.at e
end Go.Proofs.Ytigkfdoeneemeaa
/- The walk of slackwaterref01.Plus. -/
namespace Go.Proofs.Ytigkfdoeneemeaa
open Go.RowKit

set_option maxRecDepth 100000 in
set_option maxHeartbeats 2000000 in
theorem refPlus_any (a b : Option Addr) (l m : List Nat) (c d : Nat) (w : World) (h : Arr w a (u32s l)) (k : Arr w b (u32s m)) (wl : W.WF l) (wm : W.WF m) (hl : l.length ≤ 100000) (hm : m.length ≤ 100000) :
    Calls Try.prog 212 #[.slice a l.length c, .slice b m.length d] w (RetW w (W.val l + W.val m)) := by
  obtain ⟨N, hN⟩ : ∃ N, N = max l.length m.length := ⟨_, rfl⟩
  have hNl : l.length ≤ N := by omega
  have hNm : m.length ≤ N := by omega
  have hN8 : N ≤ 100000 := by omega
  have HN := Lib.hid hN
  clear hN
  go_enter Try.func212, Try.ntmps212
  go_wp2_with (refine wpList_words _ rfl _ _ rfl .i64 .i64 _ _ (N + 1) rfl rfl (by have := HN.out; omega) (by have := HN.out; omega) (by omega) ?_; intro w1 hbk hb1)
  go_loopw [7, 8] (fun cr i wr => ∃ (j c' : Nat) (ds : List Nat), j ≤ N + 1 ∧ i = .int .i64 j ∧ cr = .int .u64 c' ∧ c' ≤ 1 ∧ Bk wr w.heap.size ds ∧ Blw w wr ∧ Hid (ds.length = N + 1) ∧ Hid (W.WF ds) ∧ Hid (W.val (ds.take j) + W.pw j * c' = W.val (l.take j) + W.val (m.take j))) (fun _ i _ => (N + 1 - intOf i).toNat)
  case atStart => exact ⟨0, 0, _, by omega, rfl, rfl, by decide, hbk, hb1, List.length_replicate, W.WF.rep _, by (show _ = _; rw [List.take_zero, List.take_zero, List.take_zero, W.val, Nat.mul_zero])⟩
  case round =>
    obtain ⟨j, cr, ds, hj, rfl, rfl, hc, hg, hB, hdl, hdw, hdv⟩ := hrel
    by_cases h0 : j ≤ N
    · have hjd : j < ds.length := by rw [hdl.out]; omega
      obtain ⟨z, hz, hz1, hz2⟩ := hg.elem (k := j) hjd
      have w1 := refWord_any a l c j wr (h.blw hB) (by omega)
      have w2 := refWord_any b m d j wr (k.blw hB) (by omega)
      have x1 := W.getD_lt wl j
      have x2 := W.getD_lt wm j
      have T1 := Lib.hid (W.val_take_succ' l j)
      have T2 := Lib.hid (W.val_take_succ' m j)
      generalize l.getD j 0 = x at *
      generalize m.getD j 0 = y at *
      have c1 : decide ((j : Int) ≤ max (l.length : Int) (m.length : Int)) = true := by have := HN.out; simp; omega
      go_wp2_with (go_at_call 209; (first | (with_reducible refine Calls.mono w1 ?_) | (with_reducible refine Calls.mono w2 ?_)); rintro e w' ⟨rfl, rfl⟩)
      have key := fun (u' c' : Nat) (f5 : u' + 4294967296 * c' = cr + x + y) => back_step hdv.out f5
      rw [← T1.out, ← T2.out] at key
      have KEY := Lib.hid key
      clear key
      go_roundw
      case rel => exact ⟨j + 1, (x + y + cr) / 4294967296, ds.set j ((x + y + cr) % 4294967296), by omega, by go_num, u64_of (by omega), by omega, hg.set _ (u32_of (by omega)), hB.setCell _ _ (Nat.le_refl _), by (show _ = _; rw [List.length_set]; exact hdl.out), hdw.out.set _ (by omega), by
        show _ = _
        rw [W.val_take_set_end _ hjd]
        exact KEY.out _ _ (by omega)⟩
      case measure => (first | (simp [intOf]; done) | (simp [intOf]; omega))
    · have : j = N + 1 := by omega
      subst this
      have e1 : W.val ds + W.pw (N + 1) * cr = W.val l + W.val m := by
        have := hdv.out
        rw [← hdl.out, List.take_length, List.take_of_length_le (by rw [hdl.out]; omega), List.take_of_length_le (by rw [hdl.out]; omega), hdl.out] at this
        exact this
      have hcr : cr = 0 := by
        have h1 := W.val_lt wl
        have h2 := W.val_lt wm
        have h3 : W.pw l.length ≤ W.pw N := Nat.pow_le_pow_right (by decide) hNl
        have h4 : W.pw m.length ≤ W.pw N := Nat.pow_le_pow_right (by decide) hNm
        rcases Nat.eq_zero_or_pos cr with e | e
        · exact e
        · exfalso
          have h5 : W.pw (N + 1) * 1 ≤ W.pw (N + 1) * cr := Nat.mul_le_mul_left _ e
          rw [W.pw_succ] at h5 e1
          omega
      subst hcr
      have e2 : W.val ds = W.val l + W.val m := by rw [← e1, Nat.mul_zero, Nat.add_zero]
      have hcut := refTrim_any (some ⟨w.heap.size, 0, none⟩) ds (N + 1) wr hg.arr (by rw [hdl.out]; exact Nat.le_refl _) (by omega) (fun h => by cases h) hdw.out (by rw [hdl.out]; omega)
      rw [hdl.out, e2] at hcut
      have c1 : decide (((N + 1 : Nat) : Int) ≤ max (l.length : Int) (m.length : Int)) = false := by have := HN.out; simp; omega
      clear e1 e2
      go_wp2_with fail
      refine Calls.mono hcut ?_
      rintro e w2 ⟨a3, c3, x3, rfl, rfl, r1, r2, r3⟩
      go_wp2
      go_ret
      exact RetOwn.of (ownsRow_mono r1 hB.size) (hB.ext x3)
end Go.Proofs.Ytigkfdoeneemeaa
