/- The walk of law 25's awake: the document's examples. -/
import Derived.Test.YtigkfdoeneemeaaAwk0
namespace Go.Proofs.Ytigkfdoeneemeaa
open Go.RowKit

theorem rg_map {l : List FL} {i : Nat} : rg l i = (l.map (·.r)).getD i ⟨false, [], []⟩ := by
  unfold rg
  rw [List.getD_eq_getElem?_getD, List.getD_eq_getElem?_getD, List.getElem?_map]
  cases l[i]? <;> rfl
theorem smallF_ok {n : Int} (h : n.natAbs < 18446744073709551616) : (smallF n 1).Ok := by
  have e1 : Int.natAbs 1 = 1 := rfl
  have l1 : (W.toW n.natAbs).length ≤ 2 := W.len_toW_le.2 (by rw [show W.pw 2 = 18446744073709551616 by decide]; exact h)
  have l2 : (W.toW 1).length = 1 := by decide +kernel
  refine ⟨?_, ?_, W.nrm_toW _, W.nrm_toW _, ?_, ?_, ?_⟩
  · show (W.toW (n.natAbs / Nat.gcd n.natAbs 1)).length ≤ _
    rw [Nat.gcd_one_right, Nat.div_one]; omega
  · show (W.toW (1 / Nat.gcd n.natAbs 1)).length ≤ _
    rw [Nat.gcd_one_right, Nat.div_one]; omega
  · show 0 < (W.toW (1 / Nat.gcd n.natAbs 1)).length
    rw [Nat.gcd_one_right, Nat.div_one]; omega
  · intro h
    have h' : (W.toW (n.natAbs / Nat.gcd n.natAbs 1)).length = 0 := h
    show (_ && decide (0 < (W.toW (n.natAbs / Nat.gcd n.natAbs 1)).length)) = false
    rw [h']; simp
  · show Nat.gcd (W.val (W.toW _)) (W.val (W.toW _)) = 1
    rw [W.val_toW, W.val_toW, e1, Nat.gcd_one_right, Nat.div_one, Nat.div_one, Nat.gcd_one_right]
theorem awk_two {l : List FL} {ws : List WL} (h : l.map (·.r) = wholeR [0, 1, 1, 0, 2, 2]) (k : ws.map WL.key = (wats (sg l) l.length l.length).map (wkey l 0)) :
    ∃ x0 x1, ws = [x0, x1] ∧ x0.tick = 1 ∧ x0.last = 2 ∧ x0.top = true ∧ x1.tick = 3 ∧ x1.last = 3 ∧ x1.top = false := by
  have hl : l.length = 6 := by have := congrArg List.length h; simpa [wholeR] using this
  have hs : sg l = awkS := by
    funext i
    unfold sg awkS
    rw [rg_map, rg_map, h]; rfl
  rw [hl, hs, awkW] at k
  match ws, k with
  | [x0, x1], k =>
    simp [WL.key, wkey] at k
    obtain ⟨⟨k1, k2, k3, -⟩, k4, k5, k6, -⟩ := k
    exact ⟨x0, x1, rfl, k1, k2, k3, k4, k5, k6⟩
  | [], k => simp at k
  | [_], k => simp at k
  | _ :: _ :: _ :: _, k => simp at k

set_option maxRecDepth 100000 in
set_option maxHeartbeats 4000000 in
theorem awake_any (w : World) : Calls Try.prog 88 #[] w fun e w' => e = .returned (.bool true) ∧ ∃ x, w' = w.ext x := by
  go_enter Try.func88, Try.ntmps88
  go_wp2_with fail
  refine Calls.mono (whole_any _ [0, 1, 1, 0, 2, 2] _ _ (Arr.lit _ _ _ _) (by decide) (by decide)) ?_
  rintro e w1 ⟨out, b, c, rfl, hb, hown, hio, hkey⟩
  have HIO := Lib.hid hio
  have HKEY := Lib.hid hkey
  have hl : out.length = 6 := by have := congrArg List.length hkey; simpa [wholeR] using this
  have HL := Lib.hid hl
  obtain ⟨_, _, he, A1, -, k1, k2, k3⟩ := own_arr hown
  cases he
  have OK := waterOf_ok b out c 0 w1 A1 (fun x hx => (hio x hx).in) (fun x hx => by
    have : x.r ∈ wholeR [0, 1, 1, 0, 2, 2] := by rw [← hkey]; exact List.mem_map_of_mem hx
    simp only [wholeR, List.mem_map] at this
    obtain ⟨n, hm, hn⟩ := this
    rw [← hn]; exact smallF_ok (by simp at hm; omega)) (by rw [hl]; decide)
  have HOKW := Lib.hid OK
  clear OK hio hkey hl A1 k1 k2 k3 hown
  go_wp2_with fail
  refine Calls.mono HOKW.out ?_
  rintro e w2 ⟨ws, a2, c2, rfl, hb2, hown2, -, hkey2⟩
  obtain ⟨x0, x1, rfl, t0, t1, t2, t3, t4, t5⟩ := awk_two HKEY.out hkey2
  obtain ⟨_, _, he, A2, -, j1, j2, j3⟩ := own_arr hown2
  cases he
  obtain ⟨y0, g, o, hy0, -, rfl, hg, d0, d1, d2, -⟩ := wl_at A2 (k := 0) (by simp)
  obtain ⟨y1, g', o', hy1, -, e2, -, d3, d4, d5, -⟩ := wl_at A2 (k := 1) (by simp)
  simp only [Option.some.injEq, Addr.mk.injEq] at e2
  obtain ⟨rfl, rfl, -⟩ := e2
  simp only [List.getElem?_cons_zero, List.getElem?_cons_succ, Option.some.injEq] at hy0 hy1
  subst hy0 hy1
  rw [t0] at d0
  rw [t1] at d1
  rw [t2] at d2
  rw [t3] at d3
  rw [t4] at d4
  rw [t5] at d5
  simp only [Nat.zero_mul, Nat.one_mul, Nat.add_zero] at d0 d1 d2 d3 d4 d5
  have d6 : w2.cell? ⟨g, o + 7, none⟩ = some (.int .i64 3) := d4
  have d7 : w2.cell? ⟨g, o + 8, none⟩ = some (.bool false) := d5
  clear hkey2 hown2 A2 j1 j2 j3 t0 t1 t2 t3 t4 t5 HOKW HIO HKEY HL
  go_wp2_with fail
  refine Calls.mono (sures_ok _ [(0, 4591870180066957722), (4607182418800017408, 4591870180066957722), (0, 4591870180066957722)] _ 7 _ (Arr.lit _ _ _ _) (by decide)) ?_
  rintro e w3 ⟨v1, v2, v3, rfl, hb3, o1, o2, o3, -, -, -⟩
  have e1 : tks (isTop [(0, 4591870180066957722), (4607182418800017408, 4591870180066957722), (0, 4591870180066957722)]) 7 [((0 : Nat), (4591870180066957722 : Nat)), (4607182418800017408, 4591870180066957722), (0, 4591870180066957722)].length = [8] := awkT.1
  have e2 : tks (isBot [(0, 4591870180066957722), (4607182418800017408, 4591870180066957722), (0, 4591870180066957722)]) 7 [((0 : Nat), (4591870180066957722 : Nat)), (4607182418800017408, 4591870180066957722), (0, 4591870180066957722)].length = [] := awkT.2.1
  have e3 : tks (isDbt [(0, 4591870180066957722), (4607182418800017408, 4591870180066957722), (0, 4591870180066957722)]) 7 [((0 : Nat), (4591870180066957722 : Nat)), (4607182418800017408, 4591870180066957722), (0, 4591870180066957722)].length = [] := awkT.2.2
  rw [e1] at o1
  rw [e2] at o2
  rw [e3] at o3
  clear e1 e2 e3
  obtain ⟨a1, c1, rfl, B1, -, -, -, -⟩ := own_arr o1
  obtain ⟨a2, c2, rfl, -, -, -, -, -⟩ := own_arr o2
  obtain ⟨a3, c3, rfl, -, -, -, -, -⟩ := own_arr o3
  have HB1 := Lib.hid (B1 : Arr w3 a1 (i64s [8]))
  have hg3 : g < w3.heap.size := Nat.lt_of_lt_of_le hg (((Blw.refl w2).alloc _).trans hb3).size
  have cc : ∀ k, w3.cell? ⟨g, k, none⟩ = w2.cell? ⟨g, k, none⟩ := fun k => Below.cell (((Blw.refl w2).alloc _).trans hb3) hg
  have d0 := (cc _).trans d0
  have d1 := (cc _).trans d1
  have d2 := (cc _).trans d2
  have d3 := (cc _).trans d3
  have d4 := (cc _).trans d4
  have d5 := (cc _).trans d5
  have d6 := (cc _).trans d6
  have d7 := (cc _).trans d7
  clear o1 o2 o3 B1 cc
  go_wp2_with fail
  refine Calls.mono (sameInts_refl_any _ _ [8] _ _ _ (HB1.out.blw (((Blw.refl _).alloc _).alloc _)) (Arr.lit_at _ _ _ _ (by simp)) (by decide)) ?_
  rintro e w4 ⟨rfl, x4, rfl⟩
  go_wp2
  go_ret
  exact ⟨rfl, Blw.is ((((((Blw.refl w).alloc _).trans hb).trans hb2 |>.alloc _).trans hb3 |>.alloc _).alloc _ |>.ext _)⟩
end Go.Proofs.Ytigkfdoeneemeaa
