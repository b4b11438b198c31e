/- Arguments that came in, opened: slices of whole numbers as lists. -/
import Derived.Test.YtigkfdoeneemeaaVals
import Derived.ProofKit
import Derived.OpenShut
namespace Go.Proofs.Ytigkfdoeneemeaa
open Go.RowKit Go.ChangeShapes Go.WideShapes Go.ChangeAt

theorem open_list {H : Type} {enc : TypeId × Value → H} {P : Program} {W : World} {d : DataW H} {ps : List MemPlace} {T E : TypeId} {k : IntKind} {a : Option Addr} {len cap : Nat}
    (hT : P.underlying T = some (.slice E)) (hE : P.underlying E = some (.int k)) (hC : P.cellsOf E = 1)
    (h : DataW.Trod enc P W 0 (fun _ => true) true T (.slice a len cap) d ps) :
    ∃ l : List Int, l.length = len ∧ Arr W a (l.map (Value.int k)) ∧ (∀ z ∈ l, (Lit.int k z).wf = true) ∧ (a = none → cap = 0) ∧ len ≤ cap ∧ cap ≤ maxLen := by
  obtain ⟨fuel, hf⟩ := h
  rcases open_ints hT hE hC hf with ⟨hcs, _⟩ | ⟨x, l, c, zs, hcs, _, hl, hm, hz, _, hcell, hwz⟩
  · simp [Value.cells] at hcs
    obtain ⟨rfl, rfl, rfl⟩ := hcs
    exact ⟨[], rfl, .inl rfl, by simp, fun _ => rfl, Nat.le_refl _, Nat.zero_le _⟩
  · simp [Value.cells] at hcs
    obtain ⟨rfl, rfl, rfl⟩ := hcs
    have hz' : zs.length = cap := by simpa using hz
    refine ⟨zs.take len, by simp; omega, ?_, (fun z hz => hwz z (List.mem_of_mem_take hz)), (fun h => by cases h), hl, hm⟩
    by_cases h0 : len = 0
    · subst h0; exact .inl (by simp)
    obtain ⟨b, o, s⟩ := x
    have c0 := hcell 0 (by omega)
    have hs : s = none := by simpa [Addr.add] using World.cell?_spot c0
    subst hs
    have ea : ∀ j, (⟨b, o, none⟩ : Addr).add j = ⟨b, o + j, none⟩ := fun j => by unfold Addr.add; split <;> simp_all
    refine .inr ⟨b, o, rfl, block_lt_of_cell c0, fun i hi => ?_⟩
    have hi' : i < zs.length ∧ i < len := by simp at hi; omega
    rw [← ea i, hcell i hi'.1]
    simp [hi'.1, hi'.2]

theorem open_u64s {H : Type} {enc : TypeId × Value → H} {P : Program} {W : World} {d : DataW H} {ps : List MemPlace} {T E : TypeId} {a : Option Addr} {len cap : Nat}
    (hT : P.underlying T = some (.slice E)) (hE : P.underlying E = some (.int .u64)) (hC : P.cellsOf E = 1)
    (h : DataW.Trod enc P W 0 (fun _ => true) true T (.slice a len cap) d ps) :
    ∃ l : List Nat, l.length = len ∧ Arr W a (u64s l) ∧ (∀ z ∈ l, z < 2 ^ 64) ∧ (a = none → cap = 0) ∧ len ≤ cap ∧ cap ≤ maxLen := by
  obtain ⟨l, h1, h2, h3, h4, h5, h6⟩ := open_list hT hE hC h
  have hb : ∀ z ∈ l, 0 ≤ z ∧ z < 2 ^ 64 := fun z hz => by
    have := h3 z hz
    simp [Lit.wf, IntKind.min, IntKind.max, IntKind.signed, IntKind.bits] at this
    omega
  refine ⟨l.map Int.toNat, by simpa using h1, ?_, ?_, h4, h5, h6⟩
  · have e : u64s (l.map Int.toNat) = l.map (Value.int .u64) := by
      rw [u64s, List.map_map]
      apply List.map_congr_left
      intro z hz
      have := hb z hz
      simp; omega
    rw [e]; exact h2
  · intro z hz
    obtain ⟨y, hy, rfl⟩ := List.mem_map.1 hz
    have := hb y hy
    omega
theorem wf_u64 {n : Int} (h : (Lit.int .u64 n).wf = true) : ∃ m : Nat, n = m ∧ m < 2 ^ 64 := by
  simp [Lit.wf, IntKind.min, IntKind.max, IntKind.signed, IntKind.bits] at h
  exact ⟨n.toNat, by omega, by omega⟩
end Go.Proofs.Ytigkfdoeneemeaa
