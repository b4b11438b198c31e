/- A number handed in by its parts' bits, opened. -/
import Derived.Test.YtigkfdoeneemeaaReads
import Derived.Test.YtigkfdoeneemeaaProg
namespace Go.Proofs.Ytigkfdoeneemeaa
open Go.RowKit Go.ChangeShapes Go.WideShapes Go.ChangeAt

theorem cellsU64 : Try.prog.cellsOf 22 = 1 := by kernel_rfl
theorem cellsNum : Try.prog.cellsOf 70 = 2 := by kernel_rfl
set_option maxRecDepth 100000 in
theorem open_num {H : Type} {enc : TypeId × Value → H} {W : World} {r : Reach} {b0 : Nat} {v : Value} {d : DataW H} {p : List MemPlace} (hv : Value.okWide Try.prog W r b0 70 v)
    (h : DataW.Trod enc Try.prog W 0 (fun _ => true) true 70 v d p) : ∃ a b : Nat, v = .agg #[.int .u64 a, .int .u64 b] ∧ a < 2 ^ 64 ∧ b < 2 ^ 64 := by
  obtain ⟨cs, rfl, -⟩ := okWide_struct Try.underlying70 hv
  obtain ⟨hl, hf⟩ := rds_struct Try.underlying70 (Rds.of h)
  have f0 := hf 0 _ rfl
  have f1 := hf 1 _ rfl
  rw [cellsNum] at hl
  simp only [Value.cells] at hl f0 f1
  obtain ⟨l⟩ := cs
  match l, hl with
  | [c0, c1], _ =>
    simp [cellsU64] at f0 f1
    obtain ⟨x, hx, wx⟩ := rds_int Try.underlying22 f0
    obtain ⟨y, hy, wy⟩ := rds_int Try.underlying22 f1
    obtain ⟨a, rfl, ha⟩ := wf_u64 wx
    obtain ⟨b, rfl, hb⟩ := wf_u64 wy
    simp at hx hy
    exact ⟨a, b, by rw [hx, hy], ha, hb⟩
end Go.Proofs.Ytigkfdoeneemeaa
