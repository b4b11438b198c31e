/- WaterMirror, in plain Lean: the waters of the negated heights and of those turned round. -/
import Derived.Test.YtigkfdoeneemeaaWat3
import Derived.Test.YtigkfdoeneemeaaMirP
import Derived.Test.YtigkfdoeneemeaaFrP
namespace Go.Proofs.Ytigkfdoeneemeaa

theorem sg_cases {l : List FL} (hok : ∀ x ∈ l, x.r.Ok) {i : Nat} (h0 : 0 < i) (hi : i < l.length) : sg l i = -1 ∨ sg l i = 0 ∨ sg l i = 1 := by
  unfold sg
  rw [rg_at (List.getElem?_eq_getElem hi), rg_at (List.getElem?_eq_getElem (show i - 1 < l.length by omega))]
  exact cmpF_cases (hok _ (List.getElem_mem hi)) (hok _ (List.getElem_mem _))
theorem sg_neg {l nl : List FL} (hok : ∀ x ∈ l, x.r.Ok) (h : nl.map (·.r) = l.map fun x => negF x.r) {i : Nat} (h0 : 0 < i) (hi : i < l.length) : sg nl i = - sg l i := by
  have hl : nl.length = l.length := by have := congrArg List.length h; simpa using this
  have at_ : ∀ j, (hj : j < l.length) → rg nl j = negF (l[j]).r := by
    intro j hj
    rw [rg_at (List.getElem?_eq_getElem (show j < nl.length by omega))]
    have := congrArg (fun m => m[j]?) h
    simp only [List.getElem?_map, List.getElem?_eq_getElem (show j < nl.length by omega), List.getElem?_eq_getElem hj, Option.map_some, Option.some.injEq] at this
    exact this
  unfold sg
  rw [at_ i hi, at_ (i - 1) (by omega), rg_at (List.getElem?_eq_getElem hi), rg_at (List.getElem?_eq_getElem (show i - 1 < l.length by omega))]
  exact cmpF_neg (hok _ (List.getElem_mem hi)) (hok _ (List.getElem_mem _))
theorem sg_round {l : List FL} (hok : ∀ x ∈ l, x.r.Ok) {i : Nat} (h0 : 0 < i) (hi : i < l.length) : sg l.reverse i = - sg l (l.length - i) := by
  have at_ : ∀ j, (hj : j < l.length) → rg l.reverse j = (l[l.length - 1 - j]).r := by
    intro j hj
    rw [rg_at (List.getElem?_eq_getElem (show j < l.reverse.length by simpa using hj))]
    rw [List.getElem_reverse]
  unfold sg
  rw [at_ i hi, at_ (i - 1) (by omega), rg_at (List.getElem?_eq_getElem (show l.length - i < l.length by omega)), rg_at (List.getElem?_eq_getElem (show l.length - i - 1 < l.length by omega))]
  have e1 : l.length - 1 - i = l.length - i - 1 := by omega
  have e2 : l.length - 1 - (i - 1) = l.length - i := by omega
  simp only [e1, e2]
  exact cmpF_swap (hok _ (List.getElem_mem _)) (hok _ (List.getElem_mem _))

theorem nextS_lt {f : Nat → Int} {n : Nat} : ∀ d m j, n - m = d → nextS f n m = some j → m ≤ j ∧ j < n := by
  intro d
  induction d with
  | zero => intro m j hd h; rw [nextS_out (by omega)] at h; cases h
  | succ d ih =>
    intro m j hd h
    by_cases h0 : f m = 0
    · rw [nextS_on (by omega) h0] at h
      have := ih (m + 1) j (by omega) h
      omega
    · rw [nextS_at (by omega) h0] at h
      cases h; omega
theorem wats_in {f : Nat → Int} {n i : Nat} {t : Nat × Nat × Bool} (h : t ∈ wats f n i) : 1 ≤ t.1 ∧ t.1 ≤ t.2.1 ∧ t.2.1 + 1 < n := by
  unfold wats at h
  rw [List.mem_filterMap] at h
  obtain ⟨a, -, h⟩ := h
  unfold wat at h
  split at h
  · cases h
  · rename_i h0
    split at h
    · cases h
    · rename_i k hk
      have := nextS_lt _ _ _ rfl hk
      split at h
      · cases h
      · cases h; simp; omega

/-- What the law asks of the three lists of waters, place by place. -/
theorem mirror_at {l nl : List FL} {wa wb wc : List WL} (hok : ∀ x ∈ l, x.r.Ok) (hn : nl.map (·.r) = l.map fun x => negF x.r)
    (ha : wa.map WL.key = (wats (sg l) l.length l.length).map (wkey l 0)) (hb : wb.map WL.key = (wats (sg nl) nl.length nl.length).map (wkey nl 0)) (hc : wc.map WL.key = (wats (sg l.reverse) l.reverse.length l.reverse.length).map (wkey l.reverse 0)) :
    wb.length = wa.length ∧ wc.length = wa.length ∧ ∀ i, i < wa.length → ∀ x y z, wa[i]? = some x → wb[i]? = some y → wc[wa.length - 1 - i]? = some z →
      y.tick = x.tick ∧ y.last = x.last ∧ y.top = !x.top ∧ z.tick = (l.length : Int) - 1 - x.last ∧ z.last = (l.length : Int) - 1 - x.tick ∧ z.top = x.top ∧ 0 ≤ x.tick ∧ x.tick ≤ l.length ∧ 0 ≤ x.last ∧ x.last ≤ l.length := by
  have hl : nl.length = l.length := by have := congrArg List.length hn; simpa using this
  rw [hl, wats_neg (f := sg l) (fun i h0 hi => sg_cases hok h0 hi) (fun i h0 hi => sg_neg hok hn h0 hi)] at hb
  rw [List.length_reverse, wats_round (f := sg l) (fun i h0 hi => sg_cases hok h0 hi) (fun i h0 hi => sg_round hok h0 hi)] at hc
  have hin : ∀ t ∈ wats (sg l) l.length l.length, 1 ≤ t.1 ∧ t.1 ≤ t.2.1 ∧ t.2.1 + 1 < l.length := fun t ht => wats_in ht
  generalize wats (sg l) l.length l.length = ws at *
  have la : wa.length = ws.length := by have := congrArg List.length ha; simpa using this
  have lb : wb.length = ws.length := by have := congrArg List.length hb; simpa using this
  have lc : wc.length = ws.length := by have := congrArg List.length hc; simpa using this
  refine ⟨by omega, by omega, fun i hi x y z hx hy hz => ?_⟩
  have hiw : i < ws.length := by omega
  have e1 := congrArg (fun m => m[i]?) ha
  have e2 := congrArg (fun m => m[i]?) hb
  have e3 := congrArg (fun m => m[wa.length - 1 - i]?) hc
  simp only [List.getElem?_map, hx, hy, hz, List.getElem?_eq_getElem hiw, Option.map_some, Option.some.injEq] at e1 e2 e3
  rw [List.getElem?_reverse (by simp; omega)] at e3
  have e4 : (List.map (fun p : Nat × Nat × Bool => (l.length - 1 - p.2.1, l.length - 1 - p.1, p.2.2)) ws).length - 1 - (wa.length - 1 - i) = i := by simp; omega
  rw [e4, List.getElem?_map, List.getElem?_eq_getElem hiw] at e3
  have hw := hin _ (List.getElem_mem hiw)
  simp only [Option.map_some, Option.some.injEq, WL.key, wkey, Prod.mk.injEq] at e1 e2 e3
  obtain ⟨x1, x2, x3, -⟩ := e1
  obtain ⟨y1, y2, y3, -⟩ := e2
  obtain ⟨z1, z2, z3, -⟩ := e3
  refine ⟨by omega, by omega, by rw [y3, x3], by omega, by omega, by rw [z3, x3], by omega, by omega, by omega, by omega⟩
end Go.Proofs.Ytigkfdoeneemeaa
