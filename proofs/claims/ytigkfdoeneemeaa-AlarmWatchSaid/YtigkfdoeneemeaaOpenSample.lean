/- Samples handed in, opened. -/
import Derived.Test.YtigkfdoeneemeaaReads
import Derived.Test.YtigkfdoeneemeaaProg
namespace Go.Proofs.Ytigkfdoeneemeaa
open Go.RowKit Go.ChangeShapes Go.WideShapes Go.ChangeAt

theorem wf_f64 {x : Nat} (h : (Lit.float .f64 x).wf = true) : x < 2 ^ 64 := by simpa [Lit.wf] using h
theorem cellsInt : Try.prog.cellsOf 3 = 1 := by kernel_rfl
theorem cellsF64 : Try.prog.cellsOf 23 = 1 := by kernel_rfl
theorem cellsSample : Try.prog.cellsOf 43 = 2 := by kernel_rfl
def smp (p : Int × Nat) : List Value := [.int .i64 p.1, .float .f64 p.2]
abbrev smps (l : List (Int × Nat)) : List Value := l.flatMap smp
set_option maxRecDepth 100000 in
theorem rds_sample {H : Type} {enc : TypeId × Value → H} {W : World} {cs : List Value} (h : Rds enc Try.prog W 43 cs) : ∃ p : Int × Nat, p.2 < 2 ^ 64 ∧ cs = smp p := by
  obtain ⟨hl, hf⟩ := rds_struct Try.underlying43 h
  have f0 := hf 0 _ rfl
  have f1 := hf 1 _ rfl
  rw [cellsSample] at hl
  match cs, hl with
  | [c0, c1], _ =>
    simp [cellsInt, cellsF64] at f0 f1
    obtain ⟨x, hx, wx⟩ := rds_int Try.underlying3 f0
    obtain ⟨y, hy, wy⟩ := rds_float Try.underlying23 f1
    simp at hx hy
    exact ⟨(x, y), wf_f64 wy, by rw [hx, hy]; rfl⟩
set_option maxRecDepth 100000 in
theorem open_sample {H : Type} {enc : TypeId × Value → H} {W : World} {r : Reach} {b0 : Nat} {v : Value} {d : DataW H} {p : List MemPlace} (hv : Value.okWide Try.prog W r b0 43 v)
    (h : DataW.Trod enc Try.prog W 0 (fun _ => true) true 43 v d p) : ∃ (t : Int) (x : Nat), v = .agg #[.int .i64 t, .float .f64 x] ∧ x < 2 ^ 64 := by
  obtain ⟨cs, rfl, -⟩ := okWide_struct Try.underlying43 hv
  obtain ⟨⟨t, x⟩, hx, he⟩ := rds_sample (Rds.of h)
  exact ⟨t, x, by obtain ⟨l⟩ := cs; simp only [Value.cells] at he; rw [he]; rfl, hx⟩
set_option maxRecDepth 100000 in
theorem open_samples {H : Type} {enc : TypeId × Value → H} {W : World} {d : DataW H} {ps : List MemPlace} {a : Option Addr} {len cap : Nat}
    (h : DataW.Trod enc Try.prog W 0 (fun _ => true) true 55 (.slice a len cap) d ps) :
    ∃ l : List (Int × Nat), l.length = len ∧ Arr W a (smps l) ∧ (∀ p ∈ l, p.2 < 2 ^ 64) ∧ (a = none → cap = 0) ∧ len ≤ cap ∧ cap ≤ maxLen := by
  obtain ⟨a', len', cap', cells, he, hn, hl, hc, hcl, harr, hel⟩ := rds_slice Try.underlying55 2 cellsSample (by decide) (Rds.of h)
  simp [Value.cells] at he
  obtain ⟨rfl, rfl, rfl⟩ := he
  obtain ⟨l, h1, h2, h3⟩ := chunks smp 2 (fun p => p.2 < 2 ^ 64) len cells hcl (fun i hi => by
    obtain ⟨p, hp, e⟩ := rds_sample (hel i hi)
    exact ⟨p, hp, e⟩)
  exact ⟨l, h1, by rw [smps, ← h2]; exact harr, h3, hn, hl, hc⟩
end Go.Proofs.Ytigkfdoeneemeaa
