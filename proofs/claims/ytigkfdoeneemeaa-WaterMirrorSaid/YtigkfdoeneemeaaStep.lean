/- append as a step of a region that draws its order: onto a slice of the call's own, of anything that can be read (nil too). -/
import Derived.Test.YtigkfdoeneemeaaApp
import Derived.Deep.AppendLies
import Derived.Deep.RegionLaw
namespace Go
open Go.RowKit
section
variable {P : Program} {ops : Array Oper} {o : Oper} {a : Act} {K : Act → World → Prop} {Q : Exit → Act → World → Prop} {E : Prop}
theorem step_app (w0 w : World) (hgd : o.guard = none) (s x : Operand) (t : TypeId) (ho : o.op = .call { callee := .builtin .append, args := #[s, x], argTypes := #[t, t] })
    {e : TypeId} {z : Value} {size bytes : Nat} (hT : SlT P t e z size bytes) (hb : Blw w0 w) (v : Value) (n : Nat) (xs : List Value) (hs : a.eval s = v) (hown : w.ownsRow w0.heap.size e size v n xs)
    (ad : Option Addr) (m c : Nat) (news : List Value) (hx : a.eval x = .slice ad m c) (hn : ad = none → c = 0) (hr : Arr w ad news) (hl : news.length = m * size) (h1 : ∀ u ∈ news, u.oneCell' = true)
    (h63 : n + m ≤ maxLen) (hbytes : (n + m) * bytes ≤ 140737488355328)
    (h : ∀ v' w', w'.ownsRow w0.heap.size e size v' (n + m) (xs ++ news) → Blw w0 w' → w.grownBy w' v.ownBlock → (v'.ownBlock = v.ownBlock ∨ v'.ownBlock = some w.heap.size) → K (a.put o.dst v') w') :
    if Region.wanted o (yielded ops a.tmps) = true then Oper.wp P o a w K Q else E := by
  have hw : Region.wanted o (yielded ops a.tmps) = true := by simp [Region.wanted, hgd]
  rw [if_pos hw]
  obtain ⟨i, hi, hz0, hz1, hz2⟩ := info_parts hT.info
  have hpos := hT.pos
  cases ad with
  | none =>
    have hnews : news = [] := by
      rcases hr with h | ⟨b, o, e, _⟩
      · exact h
      · cases e
    have hm : m = 0 := by
      rcases Nat.eq_zero_or_pos m with h | h
      · exact h
      · have := Nat.mul_pos h hpos; rw [hnews] at hl; simp at hl; omega
    subst hnews hm
    have hc := hn rfl
    subst hc
    have hrun := run_append_owned_none (P := P) (w := w) w0.heap.size t o.type e i size hT.under hi v n xs hown
    unfold Oper.wp
    simp [execOp, ho, resolve, invoke, builtin, hs, hx, hrun, Result.andThen]
    exact h v w (by simpa using hown) hb (World.grownBy.refl _ _) (.inl rfl)
  | some ad =>
    have hnews : ∀ j u, news[j]? = some u → w.cell? (ad.add j) = some u := by
      intro j u hj
      rcases hr with h | ⟨b, o, e, hbs, hc⟩
      · subst h; simp at hj
      · cases e
        have hjl : j < news.length := by rw [List.getElem?_eq_some_iff] at hj; exact hj.1
        have := hc j hjl
        rw [hj] at this
        have ea : (⟨b, o, none⟩ : Addr).add j = ⟨b, o + j, none⟩ := by unfold Addr.add; split <;> simp_all
        rw [ea]; exact this
    obtain ⟨v', w', hrun, g1, g2, _, g5⟩ := run_append_own_at (P := P) w w0.heap.size t o.type e i z size bytes hT.under hi hz0 hz1 hz2 hT.cells hpos v n xs hown ad m c news hl hnews h1 h63 hbytes hb.size
    unfold Oper.wp execOp
    simp only [ho, resolve, invoke, builtin, Sem.run_bind, Sem.run_pure, Result.andThen_ok, List.map_toArray, List.map_cons, List.map_nil, hs, hx, hrun]
    exact h v' w' g1 (hb.grown g2 (fun k hk => (World.ownsRow.lt hown k hk).1)) g2 g5
end
/-- The same for a plain region's list. -/
theorem wpList_app2 {P : Program} {ops : Array Oper} {rest : List Oper} {o : Oper} {a : Act} {Q : Exit → Act → World → Prop} (w0 w : World) (hgd : o.guard = none) (s x : Operand) (t : TypeId) (ho : o.op = .call { callee := .builtin .append, args := #[s, x], argTypes := #[t, t] })
    {e : TypeId} {z : Value} {size bytes : Nat} (hT : SlT P t e z size bytes) (hb : Blw w0 w) (v : Value) (n : Nat) (xs : List Value) (hs : a.eval s = v) (hown : w.ownsRow w0.heap.size e size v n xs)
    (ad : Option Addr) (m c : Nat) (news : List Value) (hx : a.eval x = .slice ad m c) (hn : ad = none → c = 0) (hr : Arr w ad news) (hl : news.length = m * size) (h1 : ∀ u ∈ news, u.oneCell' = true)
    (h63 : n + m ≤ maxLen) (hbytes : (n + m) * bytes ≤ 140737488355328)
    (h : ∀ v' w', w'.ownsRow w0.heap.size e size v' (n + m) (xs ++ news) → Blw w0 w' → w.grownBy w' v.ownBlock → (v'.ownBlock = v.ownBlock ∨ v'.ownBlock = some w.heap.size) → wpList P ops Q rest (a.put o.dst v') w') : wpList P ops Q (o :: rest) a w := by
  refine wpList_plain hgd fun K hK => ?_
  have hw : Region.wanted o (yielded ops a.tmps) = true := by simp [Region.wanted, hgd]
  have := step_app (ops := ops) (K := K) (Q := Q) (E := False) w0 w hgd s x t ho hT hb v n xs hs hown ad m c news hx hn hr hl h1 h63 hbytes (fun v' w' a1 a2 a3 a4 => hK _ _ (h v' w' a1 a2 a3 a4))
  rwa [if_pos hw] at this
theorem heap_alloc_at {w : World} {o : Obj} {k : Nat} (h : k = w.heap.size) : (w.alloc o).heap[k]? = some o := by rw [h]; exact heap_alloc_new _ _
theorem Arr.lit_at (w : World) (cs : Array Value) (t : TypeId) (fr : Nat × Nat) {k : Nat} (h : k = w.heap.size) : Arr (w.alloc (.cells cs t fr)) (some ⟨k, 0, none⟩) cs.toList := by rw [h]; exact Arr.lit w cs t fr
/-- A slice of no elements in a block of the call's own. -/
theorem ownsRow_empty {w : World} {B g : Nat} {e : TypeId} {size : Nat} {fr : Nat × Nat} (h : w.heap[g]? = some (.cells #[] e fr)) (hf : fr = (0, 0)) (hB : B ≤ g) : w.ownsRow B e size (.slice (some ⟨g, 0, none⟩) 0 0) 0 [] := by
  subst hf
  exact ⟨by simp, .inr ⟨g, 0, #[], rfl, hB, h, Nat.le_refl _, Nat.zero_le _, by simp, by simp⟩⟩
end Go
