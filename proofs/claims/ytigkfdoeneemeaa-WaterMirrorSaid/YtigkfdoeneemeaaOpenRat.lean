/- Fractions handed in, opened. -/
import Derived.Test.YtigkfdoeneemeaaReads
import Derived.Test.YtigkfdoeneemeaaFl3
namespace Go.Proofs.Ytigkfdoeneemeaa
open Go.RowKit Go.ChangeShapes Go.WideShapes Go.ChangeAt

theorem cellsU32 : Try.prog.cellsOf 135 = 1 := by kernel_rfl
theorem cellsWords : Try.prog.cellsOf 86 = 1 := by kernel_rfl
theorem cellsBool : Try.prog.cellsOf 4 = 1 := by kernel_rfl
theorem cellsRatio : Try.prog.cellsOf 88 = 3 := by kernel_rfl
theorem wf_u32' {n : Int} (h : (Lit.int .u32 n).wf = true) : ∃ m : Nat, n = (m : Int) ∧ m < 4294967296 := by
  simp [Lit.wf, IntKind.min, IntKind.max, IntKind.signed, IntKind.bits] at h
  exact ⟨n.toNat, by omega, by omega⟩
set_option maxRecDepth 100000 in
theorem rds_words {H : Type} {enc : TypeId × Value → H} {w : World} {cs : List Value} (h : Rds enc Try.prog w 86 cs) :
    ∃ (a : Option Addr) (l : List Nat) (cap : Nat), cs = [.slice a l.length cap] ∧ (a = none → l.length = 0 ∧ cap = 0) ∧ l.length ≤ cap ∧ cap ≤ maxLen ∧ Arr w a (u32s l) ∧ W.WF l := by
  obtain ⟨a, len, cap, cells, he, hn, hl, hc, hcl, harr, hel⟩ := rds_slice Try.underlying86 1 cellsU32 (by decide) h
  obtain ⟨l, h1, h2, h3⟩ := chunks (fun n : Nat => [Value.int .u32 n]) 1 (fun n => n < 4294967296) len cells hcl (fun i hi => by
    obtain ⟨n, hn, hw⟩ := rds_int Try.underlying135 (hel i hi)
    obtain ⟨m, rfl, hm⟩ := wf_u32' hw
    exact ⟨m, hm, hn⟩)
  have e : cells = u32s l := by rw [h2]; clear h1 h2 h3; induction l with
    | nil => rfl
    | cons x l ih => rw [List.flatMap_cons, ih]; rfl
  subst h1
  exact ⟨a, l, cap, he, fun h => ⟨by have := hn h; omega, hn h⟩, hl, hc, by rw [← e]; exact harr, h3⟩
set_option maxRecDepth 100000 in
theorem rds_ratio {H : Type} {enc : TypeId × Value → H} {w : World} {cs : List Value} (h : Rds enc Try.prog w 88 cs) : ∃ x : FL, FL.In w x ∧ cs = x.cells := by
  obtain ⟨hl, hf⟩ := rds_struct Try.underlying88 h
  have f0 := hf 0 _ rfl
  have f1 := hf 1 _ rfl
  have f2 := hf 2 _ rfl
  rw [cellsRatio] at hl
  match cs, hl with
  | [c0, c1, c2], _ =>
    simp [cellsBool, cellsWords] at f0 f1 f2
    obtain ⟨b, hb⟩ := rds_bool Try.underlying4 f0
    obtain ⟨a1, l1, k1, e1, n1, m1, q1, r1, w1⟩ := rds_words f1
    obtain ⟨a2, l2, k2, e2, n2, m2, q2, r2, w2⟩ := rds_words f2
    simp at hb e1 e2
    unfold maxLen at q1 q2
    exact ⟨⟨⟨b, l1, l2⟩, a1, k1, a2, k2⟩, ⟨r1, r2, m1, q1, m2, q2, n1, n2, w1, w2⟩, by rw [hb, e1, e2]; rfl⟩
set_option maxRecDepth 100000 in
theorem open_ratio {H : Type} {enc : TypeId × Value → H} {w : World} {r : Reach} {b0 : Nat} {v : Value} {d : DataW H} {p : List MemPlace} (hv : Value.okWide Try.prog w r b0 88 v)
    (h : DataW.Trod enc Try.prog w 0 (fun _ => true) true 88 v d p) : ∃ x : FL, v = frV x.r x.a x.c x.b x.d ∧ FL.In w x := by
  obtain ⟨cs, rfl, -⟩ := okWide_struct Try.underlying88 hv
  obtain ⟨x, hx, he⟩ := rds_ratio (Rds.of h)
  exact ⟨x, by obtain ⟨l⟩ := cs; simp only [Value.cells] at he; rw [he]; rfl, hx⟩
set_option maxRecDepth 100000 in
theorem open_ratios {H : Type} {enc : TypeId × Value → H} {w : World} {d : DataW H} {ps : List MemPlace} {a : Option Addr} {len cap : Nat}
    (h : DataW.Trod enc Try.prog w 0 (fun _ => true) true 97 (.slice a len cap) d ps) :
    ∃ l : List FL, l.length = len ∧ Arr w a (fls l) ∧ (∀ x ∈ l, FL.In w x) ∧ (a = none → cap = 0) ∧ len ≤ cap ∧ cap ≤ maxLen := by
  obtain ⟨a', len', cap', cells, he, hn, hl, hc, hcl, harr, hel⟩ := rds_slice Try.underlying97 3 cellsRatio (by decide) (Rds.of h)
  simp [Value.cells] at he
  obtain ⟨rfl, rfl, rfl⟩ := he
  obtain ⟨l, h1, h2, h3⟩ := chunks FL.cells 3 (FL.In w) len cells hcl (fun i hi => by
    obtain ⟨p, hp, e⟩ := rds_ratio (hel i hi)
    exact ⟨p, hp, e⟩)
  exact ⟨l, h1, by rw [fls, ← h2]; exact harr, h3, hn, hl, hc⟩
end Go.Proofs.Ytigkfdoeneemeaa
