/- A block of words that a call writes. -/
import Derived.Test.YtigkfdoeneemeaaKeptO
import Derived.Test.YtigkfdoeneemeaaNat2
import Derived.Deep.OwnRows
namespace Go.Proofs.Ytigkfdoeneemeaa
open Go.RowKit

/-- A block that holds words. -/
def Bk (w : World) (g : Nat) (l : List Nat) : Prop := w.heap[g]? = some (.cells (u32s l).toArray 135 (0, 0))

section
variable {w : World} {g : Nat} {l : List Nat}
theorem Bk.lt (h : Bk w g l) : g < w.heap.size := (Array.getElem?_eq_some_iff.1 h).1
theorem Bk.frozen (h : Bk w g l) (i : Nat) : w.frozen? ⟨g, i, none⟩ = false := frozen_of_row w g i _ _ h
theorem Bk.cell (h : Bk w g l) {k x : Nat} (hx : l[k]? = some x) : w.cell? ⟨g, k, none⟩ = some (.int .u32 x) := by
  unfold Bk at h
  simp [World.cell?, h, hx]
theorem Bk.elem (h : Bk w g l) {k : Nat} (hk : k < l.length) : ∃ x, Hid (l[k]? = some x) ∧ w.cell? ⟨g, k, none⟩ = some (.int .u32 x) ∧ w.frozen? ⟨g, k, none⟩ = false :=
  ⟨l[k], List.getElem?_eq_getElem hk, h.cell (List.getElem?_eq_getElem hk), h.frozen k⟩
theorem Bk.mk (h : w.heap[g]? = some (.cells (u32s l).toArray 135 (0, 0))) : Bk w g l := h
theorem Bk.alloc (h : Bk w g l) (o : Obj) : Bk (w.alloc o) g l := at_alloc o h
theorem Bk.drew (h : Bk w g l) : Bk w.drew g l := h
theorem Bk.drewN (h : Bk w g l) (n : Nat) : Bk (w.drewN n) g l := h
theorem Bk.ext (h : Bk w g l) (x : World) : Bk (w.ext x) g l := at_ext x h
theorem Bk.blw (h : Bk w g l) {w' : World} (k : Blw w w') : Bk w' g l := by
  unfold Bk; rw [Below.block k g h.lt]; exact h
theorem Bk.set (h : Bk w g l) (i : Nat) {v : Value} {n : Nat} (hv : v = .int .u32 (n : Int)) : Bk (w.setCell ⟨g, i, none⟩ v) g (l.set i n) := by
  have := at_set i v h
  unfold Bk
  rw [this, hv]
  congr 2
  apply Array.ext'
  simp [List.map_set]
theorem Bk.far (h : Bk w g l) {b : Nat} (i : Nat) (v : Value) (hne : g ≠ b) : Bk (w.setCell ⟨b, i, none⟩ v) g l := at_far v hne h
theorem Bk.keptO {O : Nat → Prop} {w' : World} (h : Bk w g l) (k : KeptO O w w') (ho : ¬ O g) : Bk w' g l := k.heap h ho
theorem Bk.arr (h : Bk w g l) : Arr w (some ⟨g, 0, none⟩) (u32s l) := .inr ⟨g, 0, rfl, h.lt, fun i hi => by
  have hi' : i < l.length := by simpa using hi
  rw [Nat.zero_add, h.cell (List.getElem?_eq_getElem hi')]; simp [hi']⟩
theorem Bk.part (h : Bk w g l) (o : Nat) {m : List Nat} (hm : m <+: l.drop o) : Arr w (some ⟨g, o, none⟩) (u32s m) := .inr ⟨g, o, rfl, h.lt, fun i hi => by
  have hi' : i < m.length := by simpa using hi
  obtain ⟨t, ht⟩ := hm
  have e : l[o + i]? = some m[i] := by rw [← List.getElem?_drop, ← ht, List.getElem?_append_left hi', List.getElem?_eq_getElem hi']
  rw [h.cell e]; simp [hi']⟩
theorem Bk.own (h : Bk w g l) {B : Nat} (hB : B ≤ g) (hl : l.length ≤ maxLen) : w.ownsRow B 135 1 (.slice (some ⟨g, 0, none⟩) l.length l.length) l.length (u32s l) :=
  ⟨by simp, .inr ⟨g, l.length, _, rfl, hB, h, Nat.le_refl _, hl, by simp, List.take_of_length_le (by simp)⟩⟩
end
theorem Bk.new (w : World) (l : List Nat) : Bk (w.alloc (.cells (u32s l).toArray 135 (0, 0))) w.heap.size l := heap_alloc_new w _
theorem made_words (n : Nat) : madeCells #[.int .u32 0] n = (u32s (List.replicate n 0)).toArray := by
  apply Array.ext'
  simp only [madeCells, Array.toList_map, Array.toList_range]
  apply List.ext_getElem
  · simp
  · intro i h1 h2
    simp [Nat.mod_one]

/-- A stretch of words in a block. -/
def Wn (w : World) (g : Nat) (pre : List Value) (l : List Nat) (post : List Value) : Prop := w.heap[g]? = some (.cells (pre ++ u32s l ++ post).toArray 135 (0, 0))
section
variable {w : World} {g : Nat} {pre post : List Value} {l : List Nat}
theorem Wn.lt (h : Wn w g pre l post) : g < w.heap.size := (Array.getElem?_eq_some_iff.1 h).1
theorem Wn.frozen (h : Wn w g pre l post) (i : Nat) : w.frozen? ⟨g, i, none⟩ = false := frozen_of_row w g i _ _ h
theorem Wn.cell (h : Wn w g pre l post) {k x : Nat} (hx : l[k]? = some x) : w.cell? ⟨g, pre.length + k, none⟩ = some (.int .u32 x) := by
  unfold Wn at h
  have hk : k < l.length := (List.getElem?_eq_some_iff.1 hx).1
  simp only [World.cell?, h]
  simp [List.getElem?_append, hk]
  exact congrArg Nat.cast (List.getElem?_eq_some_iff.1 hx).2
theorem Wn.elem (h : Wn w g pre l post) {k : Nat} (hk : k < l.length) : ∃ x, Hid (l[k]? = some x) ∧ w.cell? ⟨g, pre.length + k, none⟩ = some (.int .u32 x) ∧ w.frozen? ⟨g, pre.length + k, none⟩ = false :=
  ⟨l[k], List.getElem?_eq_getElem hk, h.cell (List.getElem?_eq_getElem hk), h.frozen _⟩
theorem Wn.blw (h : Wn w g pre l post) {w' : World} (k : Blw w w') : Wn w' g pre l post := by
  unfold Wn; rw [Below.block k g h.lt]; exact h
theorem Wn.alloc (h : Wn w g pre l post) (o : Obj) : Wn (w.alloc o) g pre l post := at_alloc o h
theorem Wn.set (h : Wn w g pre l post) {i : Nat} (hi : i < l.length) {v : Value} {n : Nat} (hv : v = .int .u32 (n : Int)) : Wn (w.setCell ⟨g, pre.length + i, none⟩ v) g pre (l.set i n) post := by
  have := at_set (pre.length + i) v h
  unfold Wn
  rw [this, hv]
  congr 2
  apply Array.ext'
  simp [List.map_set, hi]
theorem Wn.keptO {O : Nat → Prop} {w' : World} (h : Wn w g pre l post) (k : KeptO O w w') (ho : ¬ O g) : Wn w' g pre l post := k.heap h ho
theorem Wn.arr (h : Wn w g pre l post) : Arr w (some ⟨g, pre.length, none⟩) (u32s l) := .inr ⟨g, pre.length, rfl, h.lt, fun i hi => by
  have hi' : i < l.length := by simpa using hi
  rw [h.cell (List.getElem?_eq_getElem hi')]; simp [hi']⟩
theorem Wn.own (h : Wn w g [] l post) {B : Nat} (hB : B ≤ g) (hl : l.length + post.length ≤ maxLen) : w.ownsRow B 135 1 (.slice (some ⟨g, 0, none⟩) l.length (l.length + post.length)) l.length (u32s l) :=
  ⟨by simp, .inr ⟨g, l.length + post.length, _, rfl, hB, h, by omega, hl, by simp, by simp⟩⟩
theorem Wn.of_own {B n c : Nat} {a : Option Addr} (h : w.ownsRow B 135 1 (.slice a n c) n (u32s l)) (hn : 0 < n) : ∃ g post, a = some ⟨g, 0, none⟩ ∧ B ≤ g ∧ Wn w g [] l post ∧ n = l.length ∧ c = l.length + post.length ∧ c ≤ maxLen := by
  obtain ⟨h1, h2⟩ := h
  have hl : l.length = n := by simpa using h1
  rcases h2 with ⟨h3, h4⟩ | ⟨g, cap, cur, hv, hg, hh, hn, hm, hs, ht⟩
  · omega
  · injection hv with hv hv2 hv3
    subst hv hv3
    refine ⟨g, cur.toList.drop n, rfl, hg, ?_, hl.symm, ?_, hm⟩
    · unfold Wn
      rw [hh]
      congr 2
      apply Array.ext'
      rw [Nat.mul_one] at ht
      rw [← ht, List.nil_append, List.take_append_drop]
    · simp; omega
theorem Bk.wn (h : Bk w g l) : Wn w g [] l [] := by unfold Wn; unfold Bk at h; rw [h]; simp
/-- A part of a block of words. -/
theorem Bk.split {a b : List Nat} (h : Bk w g (a ++ l ++ b)) : Wn w g (u32s a) l (u32s b) := by
  unfold Wn; unfold Bk at h; rw [h]; simp
theorem Bk.join {a b : List Nat} (h : Wn w g (u32s a) l (u32s b)) : Bk w g (a ++ l ++ b) := by
  unfold Bk; unfold Wn at h; rw [h]; simp
end

/-- 'make([]uint32, n)'. -/
theorem wpList_words (w : World) {ops : Array Oper} {rest : List Oper} {o : Oper} {a : Act} {Q : Exit → Act → World → Prop}
    (hg : o.guard = none) (l c : Operand) (hop : o.op = Op.makeSlice 86 l c)
    (kl kc : IntKind) (L C : Int) (n : Nat) (hl : a.eval l = .int kl L) (hc : a.eval c = .int kc C) (hL : L = (n : Int)) (hC : C = (n : Int)) (h63 : n ≤ 1099511627776)
    (hK : ∀ w', Bk w' w.heap.size (List.replicate n 0) → Blw w w' → wpList Try.prog ops Q rest (a.put o.dst (.slice (some ⟨w.heap.size, 0, none⟩) n n)) w') :
    wpList Try.prog ops Q (o :: rest) a w := by
  subst hL hC
  obtain ⟨i, hi, hz0, hz1, hz2⟩ := info_parts sl_words.info
  refine wpList_make_row w hg l c 86 hop 135 i _ sl_words.under hi hz0 hz1 rfl kl kc n hl hc (by rw [hz2]; omega) (by omega) ?_
  rw [made_words]
  exact hK _ (Bk.new w _) ((Blw.refl w).alloc _)
end Go.Proofs.Ytigkfdoeneemeaa
