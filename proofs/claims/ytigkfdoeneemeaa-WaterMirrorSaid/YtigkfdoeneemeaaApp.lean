/- Slices that a call makes itself: append, make and stores, as laws for the walk in worlds that agree below. -/
import Derived.Test.YtigkfdoeneemeaaArr
import Derived.Laws.AppendOwnNone
import Derived.Laws.MakeOwn
namespace Go
open Go.RowKit

/-- The rows of the tables on a slice type t of elements e: zero value, cells, bytes. -/
structure SlT (P : Program) (t e : TypeId) (z : Value) (size bytes : Nat) : Prop where
  under : P.underlying t = some (.slice e)
  info : (P.info? e).map (fun i => (i.zero, i.size, i.bytes)) = some (some z, size, bytes)
  cells : z.cells.size = size
  pos : 0 < size

theorem Blw.grown {w0 w w' : World} (h : Blw w0 w) {row : Option Nat} (hg : w.grownBy w' row) (hr : ∀ k, row = some k → w0.heap.size ≤ k) : Blw w0 w' :=
  Below.grown h hg h.size hr

theorem ownsRow_blw {w w' : World} {B : Nat} {e : TypeId} {size n : Nat} {v : Value} {cs : List Value} (h : w.ownsRow B e size v n cs) (k : Blw w w') : w'.ownsRow B e size v n cs := by
  obtain ⟨h1, h2⟩ := h
  refine ⟨h1, ?_⟩
  rcases h2 with h2 | ⟨g, cap, cur, hv, hg, hh, r⟩
  · exact .inl h2
  · refine .inr ⟨g, cap, cur, hv, hg, ?_, r⟩
    rw [Below.block k g (Array.getElem?_eq_some_iff.1 hh).1]; exact hh
theorem ownsRow_mono {w : World} {B B' : Nat} {e : TypeId} {size n : Nat} {v : Value} {cs : List Value} (h : w.ownsRow B e size v n cs) (k : B' ≤ B) : w.ownsRow B' e size v n cs := by
  obtain ⟨h1, h2⟩ := h
  refine ⟨h1, ?_⟩
  rcases h2 with h2 | ⟨g, cap, cur, hv, hg, hh, r⟩
  · exact .inl h2
  · exact .inr ⟨g, cap, cur, hv, by omega, hh, r⟩
/-- What is owned may be read. -/
theorem own_arr {w : World} {B : Nat} {e : TypeId} {size n : Nat} {v : Value} {cs : List Value} (h : w.ownsRow B e size v n cs) :
    ∃ a c, v = .slice a n c ∧ Arr w a cs ∧ cs.length = n * size ∧ n ≤ c ∧ c ≤ maxLen ∧ (a = none → n = 0 ∧ c = 0) := by
  obtain ⟨h1, h2⟩ := h
  rcases h2 with ⟨rfl, rfl⟩ | ⟨g, cap, cur, rfl, hg, hh, hn, hm, hs, ht⟩
  · have : cs = [] := List.eq_nil_of_length_eq_zero (by omega)
    exact ⟨none, 0, rfl, .inl this, h1, Nat.le_refl _, Nat.zero_le _, fun _ => ⟨rfl, rfl⟩⟩
  · refine ⟨some ⟨g, 0, none⟩, cap, rfl, .inr ⟨g, 0, rfl, (Array.getElem?_eq_some_iff.1 hh).1, fun i hi => ?_⟩, h1, hn, hm, fun h => by cases h⟩
    have e : w.cell? ⟨g, 0 + i, none⟩ = cur[i]? := by simp [World.cell?, hh]
    rw [e, ← ht, List.getElem?_take, if_pos (by omega)]
    simp

theorem own_cap {w : World} {B : Nat} {e : TypeId} {size n c : Nat} {a : Option Addr} {cs : List Value} (h : w.ownsRow B e size (.slice a n c) n cs) : n ≤ c := by
  obtain ⟨_, _, e, _, _, hc, _⟩ := own_arr h
  cases e; exact hc

theorem Arr.lit (w : World) (cs : Array Value) (t : TypeId) (fr : Nat × Nat) : Arr (w.alloc (.cells cs t fr)) (some ⟨w.heap.size, 0, none⟩) cs.toList := by
  refine .inr ⟨w.heap.size, 0, rfl, by simp, fun i hi => ?_⟩
  have e : (w.alloc (.cells cs t fr)).heap[w.heap.size]? = some (.cells cs t fr) := heap_alloc_new w _
  show (match (w.alloc (.cells cs t fr)).heap[w.heap.size]? with | some (.cells c _ _) => if (none : Option Nat).isSome then none else c[0 + i]? | _ => none) = _
  rw [e]; simp

section
variable {P : Program} {ops : Array Oper} {rest : List Oper} {o : Oper} {a : Act} {Q : Exit → Act → World → Prop}

/-- 'append(s, x...)', s the call's own, x anything that can be read. -/
theorem wpList_app (w0 w : World) (hgd : o.guard = none) (s x : Operand) (t : TypeId) (ho : o.op = .call { callee := .builtin .append, args := #[s, x], argTypes := #[t, t] })
    {e : TypeId} {z : Value} {size bytes : Nat} (hT : SlT P t e z size bytes) (hb : Blw w0 w) (v : Value) (n : Nat) (xs : List Value) (hs : a.eval s = v) (hown : w.ownsRow w0.heap.size e size v n xs)
    (ad : Option Addr) (m c : Nat) (news : List Value) (hx : a.eval x = .slice ad m c) (hn : ad = none → c = 0) (hr : Arr w ad news) (hl : news.length = m * size) (h1 : ∀ u ∈ news, u.oneCell' = true)
    (h63 : n + m ≤ maxLen) (hbytes : (n + m) * bytes ≤ 140737488355328)
    (h : ∀ v' w', w'.ownsRow w0.heap.size e size v' (n + m) (xs ++ news) → Blw w0 w' → w.grownBy w' v.ownBlock → (v' = .slice none 0 0 ↔ v = .slice none 0 0 ∧ m = 0) → wpList P ops Q rest (a.put o.dst v') w') : wpList P ops Q (o :: rest) a w := by
  obtain ⟨i, hi, hz0, hz1, hz2⟩ := info_parts hT.info
  have hpos := hT.pos
  cases ad with
  | none =>
    have hnews : news = [] := by
      rcases hr with h | ⟨b, o, e, _⟩
      · exact h
      · cases e
    have hm : m = 0 := by
      rcases Nat.eq_zero_or_pos m with h | h
      · exact h
      · have := Nat.mul_pos h hpos; rw [hnews] at hl; simp at hl; omega
    subst hnews hm
    have hc := hn rfl
    subst hc
    refine wpList_append_own_none hgd s x t ho w0.heap.size e i size hT.under hi v n xs hs hown hx ?_
    have := h v w (by simpa using hown) hb (World.grownBy.refl _ _) (by simp)
    simpa using this
  | some ad =>
    refine wpList_append_own (w := w) hgd s x t ho w0.heap.size e i z size bytes hT.under hi hz0 hz1 hz2 hT.cells hpos v n xs hs hown ad m c news hx hl ?_ h1 h63 hbytes hb.size ?_
    · intro j u hj
      rcases hr with h | ⟨b, o, e, hbs, hc⟩
      · subst h; simp at hj
      · cases e
        have hjl : j < news.length := by rw [List.getElem?_eq_some_iff] at hj; exact hj.1
        have := hc j hjl
        rw [hj] at this
        have ea : (⟨b, o, none⟩ : Addr).add j = ⟨b, o + j, none⟩ := by unfold Addr.add; split <;> simp_all
        rw [ea]; exact this
    · intro v' w' g1 g2 g3
      exact h v' w' g1 (hb.grown g2 (fun k hk => (World.ownsRow.lt hown k hk).1)) g2 g3
end
end Go
