/- Arguments that came in, opened by their types: bools, numbers, floats, strings, structs, slices of anything. -/
import Derived.Test.YtigkfdoeneemeaaOpen
namespace Go.Proofs.Ytigkfdoeneemeaa
open Go.RowKit Go.ChangeShapes Go.WideShapes Go.ChangeAt

/-- Cells that are elements, one behind the other. -/
theorem chunks {α : Type} (f : α → List Value) (k : Nat) (P : α → Prop) (len : Nat) : ∀ (cells : List Value), cells.length = len * k → (∀ i, i < len → ∃ x, P x ∧ (cells.drop (i * k)).take k = f x) →
    ∃ l : List α, l.length = len ∧ cells = l.flatMap f ∧ ∀ x ∈ l, P x := by
  induction len with
  | zero => intro cells hl _; exact ⟨[], rfl, List.eq_nil_of_length_eq_zero (by omega), by simp⟩
  | succ n ih =>
    intro cells hl h
    obtain ⟨x, hx, h0⟩ := h 0 (by omega)
    obtain ⟨l, h1, h2, h3⟩ := ih (cells.drop k) (by rw [List.length_drop, hl, Nat.add_mul]; omega) (fun i hi => by
      obtain ⟨y, hy, e⟩ := h (i + 1) (by omega)
      refine ⟨y, hy, ?_⟩
      rw [List.drop_drop, ← e, Nat.add_mul, Nat.one_mul, Nat.add_comm k])
    refine ⟨x :: l, by simp [h1], ?_, ?_⟩
    · rw [List.flatMap_cons, ← h0, ← h2]; simp
    · intro y hy
      rcases List.mem_cons.1 hy with rfl | hy
      · exact hx
      · exact h3 y hy

section
variable {H : Type} {enc : TypeId × Value → H} {P : Program} {w : World} {t e : TypeId} {cs : List Value}

/-- These cells read as data of this type. -/
def Rds (enc : TypeId × Value → H) (P : Program) (w : World) (t : TypeId) (cs : List Value) : Prop := ∃ fuel x, DataW.trod enc P w 0 (fun _ => true) true fuel t cs = some x
theorem Rds.of {v : Value} {d : DataW H} {p : List MemPlace} (h : DataW.Trod enc P w 0 (fun _ => true) true t v d p) : Rds enc P w t v.cells.toList := by
  obtain ⟨f, h⟩ := h; exact ⟨f, _, h⟩
theorem rds_bool (ht : P.underlying t = some .bool) (h : Rds enc P w t cs) : ∃ b, cs = [.bool b] := by
  obtain ⟨f, x, h⟩ := h
  obtain ⟨b, h, _⟩ := DataW.trod_bool ht h
  exact ⟨b, h⟩
theorem rds_int {k : IntKind} (ht : P.underlying t = some (.int k)) (h : Rds enc P w t cs) : ∃ n, cs = [.int k n] ∧ (Lit.int k n).wf = true := by
  obtain ⟨f, x, h⟩ := h
  obtain ⟨n, h, _, hw⟩ := DataW.trod_int ht h
  exact ⟨n, h, hw⟩
theorem rds_float {k : FloatKind} (ht : P.underlying t = some (.float k)) (h : Rds enc P w t cs) : ∃ n, cs = [.float k n] ∧ (Lit.float k n).wf = true := by
  obtain ⟨f, x, h⟩ := h
  cases f with
  | zero => simp [DataW.trod] at h
  | succ n =>
    unfold DataW.trod at h
    rw [ht] at h
    split at h <;> simp_all
theorem rds_string (ht : P.underlying t = some .string) (h : Rds enc P w t cs) : ∃ s : ByteArray, cs = [.string s] ∧ s.size ≤ maxLen := by
  obtain ⟨f, x, h⟩ := h
  obtain ⟨s, h, _, hs⟩ := DataW.trod_string ht h
  exact ⟨s, h, hs⟩
theorem rds_struct {fs : Array Field} (ht : P.underlying t = some (.struct fs)) (h : Rds enc P w t cs) :
    cs.length = P.cellsOf t ∧ ∀ (i : Nat) (f : Field), fs[i]? = some f → Rds enc P w f.type ((cs.drop f.offset).take (P.cellsOf f.type)) := by
  obtain ⟨f, x, h⟩ := h
  obtain ⟨xs, n, _, _, hl, hx, hf⟩ := DataW.trod_struct ht h
  refine ⟨hl, fun i f hi => ?_⟩
  have hi' : i < xs.length := by rw [hx]; exact (Array.getElem?_eq_some_iff.1 hi).1
  exact ⟨n, xs[i], by rw [hf i f hi, List.getElem?_eq_getElem hi']⟩
theorem add_add (b o i j : Nat) : ((⟨b, o, none⟩ : Addr).add i).add j = ⟨b, o + (i + j), none⟩ := by
  have ea : ∀ o j, (⟨b, o, none⟩ : Addr).add j = ⟨b, o + j, none⟩ := fun o j => by unfold Addr.add; split <;> simp_all
  rw [ea, ea, Nat.add_assoc]
theorem rds_slice (ht : P.underlying t = some (.slice e)) (k : Nat) (hk : P.cellsOf e = k) (hk0 : 0 < k) (h : Rds enc P w t cs) :
    ∃ (a : Option Addr) (len cap : Nat) (cells : List Value), cs = [.slice a len cap] ∧ (a = none → cap = 0) ∧ len ≤ cap ∧ cap ≤ maxLen ∧ cells.length = len * k ∧ Arr w a cells ∧
      ∀ i, i < len → Rds enc P w e ((cells.drop (i * k)).take k) := by
  obtain ⟨f, x, h⟩ := h
  rcases DataW.trod_slice ht h with ⟨h, _⟩ | ⟨a, len, cap, elems, rest, n, _, h, _, _, hl, hc, he, hel, _⟩
  · exact ⟨none, 0, 0, [], h, fun _ => rfl, Nat.le_refl _, Nat.zero_le _, by simp, .inl rfl, fun i hi => by omega⟩
  · rw [hk] at hel
    by_cases h0 : len = 0
    · subst h0
      exact ⟨some a, 0, cap, [], h, (fun h => by cases h), hl, hc, by simp, .inl rfl, fun i hi => by omega⟩
    have cell : ∀ i, i < len → ∃ ci, w.cells? 0 (a.add (i * k)) k = some ci ∧ ∃ y, DataW.trod enc P w 0 (fun _ => true) true n e ci = some y := by
      intro i hi
      have := hel i hi
      rw [List.getElem?_eq_getElem (by omega)] at this
      obtain ⟨ci, h1, h2⟩ := Option.bind_eq_some_iff.1 this
      exact ⟨ci, h1, _, h2⟩
    obtain ⟨c0, hc0, _⟩ := cell 0 (by omega)
    obtain ⟨_, hcl, hcc⟩ := World.cells?_some hc0
    have hsp0 := hcc 0 hk0
    rw [List.getElem?_eq_getElem (by omega)] at hsp0
    obtain ⟨b, o, s⟩ := a
    have hs : s = none := by
      have := World.cell?_spot hsp0
      simpa [Addr.add] using this
    subst hs
    rw [add_add] at hsp0
    have cellat : ∀ i, i < len → ∀ r, r < k → ∃ v, w.cell? ⟨b, o + (i * k + r), none⟩ = some v := by
      intro i hi r hr
      obtain ⟨ci, h1, _⟩ := cell i hi
      obtain ⟨_, h2, h3⟩ := World.cells?_some h1
      have := h3 r hr
      rw [add_add, List.getElem?_eq_getElem (by omega)] at this
      exact ⟨_, this⟩
    let cells := (List.range (len * k)).map fun j => (w.cell? ⟨b, o + j, none⟩).getD undef
    have hlen : cells.length = len * k := by simp [cells]
    have hat : ∀ j, j < len * k → w.cell? ⟨b, o + j, none⟩ = cells[j]? := by
      intro j hj
      have hi : j / k < len := Nat.div_lt_of_lt_mul (by rw [Nat.mul_comm]; exact hj)
      obtain ⟨v, hv⟩ := cellat (j / k) hi (j % k) (Nat.mod_lt _ hk0)
      have e1 : j / k * k + j % k = j := Nat.div_add_mod' j k
      rw [e1] at hv
      simp [cells, hj, hv]
    refine ⟨some ⟨b, o, none⟩, len, cap, cells, h, (fun h => by cases h), hl, hc, hlen, .inr ⟨b, o, rfl, block_lt_of_cell hsp0, fun i hi => hat i (by omega)⟩, fun i hi => ?_⟩
    obtain ⟨ci, h1, y, hy⟩ := cell i hi
    obtain ⟨_, h2, h3⟩ := World.cells?_some h1
    refine ⟨n, y, ?_⟩
    have : (cells.drop (i * k)).take k = ci := by
      have hb : i * k + k ≤ len * k := by
        have := Nat.mul_le_mul_right k (show i + 1 ≤ len from hi)
        rw [Nat.add_mul, Nat.one_mul] at this; exact this
      apply List.ext_getElem?
      intro r
      by_cases hr : r < k
      · rw [List.getElem?_take, if_pos hr, List.getElem?_drop, ← hat (i * k + r) (by omega), ← h3 r hr, add_add]
      · rw [List.getElem?_eq_none (by simp; omega), List.getElem?_eq_none (by omega)]
    rw [this]; exact hy
end
end Go.Proofs.Ytigkfdoeneemeaa
