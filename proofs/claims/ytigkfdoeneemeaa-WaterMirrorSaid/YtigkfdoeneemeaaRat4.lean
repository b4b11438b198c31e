/- Fractions copied and negated, walked. -/
import Derived.Test.YtigkfdoeneemeaaRat3
namespace Go.Proofs.Ytigkfdoeneemeaa
open Go.RowKit

/-- A fraction of the call's own. -/
def RetFr1 (w : World) (r : Fr) (e : Ending) (w' : World) : Prop :=
  ∃ (a : Option Addr) (c : Nat) (b : Option Addr) (d : Nat), e = .returned (frV r a c b d) ∧ Blw w w' ∧ w'.ownsRow w.heap.size 135 1 (.slice a r.num.length c) r.num.length (u32s r.num) ∧ w'.ownsRow w.heap.size 135 1 (.slice b r.den.length d) r.den.length (u32s r.den)

set_option maxRecDepth 100000 in
set_option maxHeartbeats 4000000 in
theorem ratioCopied_any (r : Fr) (a : Option Addr) (c : Nat) (b : Option Addr) (d : Nat) (w : World) (h : FrA w r a c b d) (hr : r.Ok) :
    Calls Try.prog 139 #[frV r a c b d] w (RetFr1 w r) := by
  obtain ⟨S, hS⟩ : ∃ S : World → Prop, S = fun W => w.heap.size + 1 < W.heap.size ∧ Blw w W ∧ W.cell? ⟨w.heap.size, 0, none⟩ = some (.bool r.neg) ∧ W.cell? ⟨w.heap.size, 1, none⟩ = some (.slice a r.num.length c) ∧ W.cell? ⟨w.heap.size, 2, none⟩ = some (.slice b r.den.length d) := ⟨_, rfl⟩
  have KS : ∀ W W' : World, S W → Blw W W' → S W' := by
    subst hS
    rintro W W' ⟨h1, h2, h3, h4, h5⟩ hb
    exact ⟨Nat.lt_of_lt_of_le h1 hb.size, h2.trans hb, (Below.cell hb (by show w.heap.size < _; omega)).trans h3, (Below.cell hb (by show w.heap.size < _; omega)).trans h4, (Below.cell hb (by show w.heap.size < _; omega)).trans h5⟩
  have KR : ∀ W W' : World, W.heap[w.heap.size + 1]? = some (.cells #[.bool false, .slice none 0 0, .slice none 0 0] 88 (0, 0)) → Blw W W' → W'.heap[w.heap.size + 1]? = some (.cells #[.bool false, .slice none 0 0, .slice none 0 0] 88 (0, 0)) :=
    fun W W' hF hb => (KeptO.of_blw (O := fun _ => False) hb).heap hF id
  have RR : ∀ W : World, W.heap[w.heap.size + 1]? = some (.cells #[.bool false, .slice none 0 0, .slice none 0 0] 88 (0, 0)) → (∀ i, W.frozen? ⟨w.heap.size + 1, i, none⟩ = false) ∧ W.cell? ⟨w.heap.size + 1, 0, none⟩ = some (.bool false) ∧ W.cell? ⟨w.heap.size + 1, 1, none⟩ = some (.slice none 0 0) ∧ W.cell? ⟨w.heap.size + 1, 2, none⟩ = some (.slice none 0 0) :=
    fun W hF => ⟨fun i => frozen_of_row W _ i _ _ hF, (cell_of_row W _ 0 _ _ _ hF).trans rfl, (cell_of_row W _ 1 _ _ _ hF).trans rfl, (cell_of_row W _ 2 _ _ _ hF).trans rfl⟩
  have SB : ∀ W : World, S W → Blw w W := by
    subst hS
    rintro W ⟨h1, h2, -⟩; exact h2
  have T1 := fun (W : World) (hb : S W) => natTrim_any a r.num c W (h.an.blw (SB W hb)) (fun e => (h.na e).2) h.cn h.cm (by have := hr.ln; omega) h.wn
  have T2 := fun (W : World) (hb : S W) => natTrim_any b r.den d W (h.ad.blw (SB W hb)) (fun e => (h.nb e).2) h.dn h.dm (by have := hr.ld; omega) h.wd
  rw [W.toW_val h.wn hr.nn] at T1
  rw [W.toW_val h.wd hr.nd] at T2
  have HT1 := Lib.hid T1
  have HT2 := Lib.hid T2
  have HKS := Lib.hid KS
  have HSB := Lib.hid SB
  have HKR := Lib.hid KR
  have HRR := Lib.hid RR
  obtain ⟨rn, rnum, rden⟩ := r
  simp only at hS HT1 HT2
  clear T1 T2 KS KR RR SB h hr
  go_enter Try.func139, Try.ntmps139
  go_wp2_with fail
  have hS0 : S ((w.alloc (.cells #[.bool rn, .slice a rnum.length c, .slice b rden.length d] 88 (0, 0))).alloc (.cells #[.bool false, .slice none 0 0, .slice none 0 0] 88 (0, 0))).drew := by
    rw [hS]
    exact ⟨by simp, (by repeat (first | exact Blw.refl _ | apply Blw.ext | apply Blw.alloc | apply Blw.drewN | apply Blw.drew | refine Blw.setCell ?_ _ _ (by simp))), by go_simp, by go_simp, by go_simp⟩
  have hR0 : ((w.alloc (.cells #[.bool rn, .slice a rnum.length c, .slice b rden.length d] 88 (0, 0))).alloc (.cells #[.bool false, .slice none 0 0, .slice none 0 0] 88 (0, 0))).drew.heap[w.heap.size + 1]? = some (.cells #[.bool false, .slice none 0 0, .slice none 0 0] 88 (0, 0)) := by
    have := heap_alloc_new (w.alloc (.cells #[.bool rn, .slice a rnum.length c, .slice b rden.length d] 88 (0, 0))) (.cells #[.bool false, .slice none 0 0, .slice none 0 0] 88 (0, 0))
    rw [show (w.alloc (.cells #[.bool rn, .slice a rnum.length c, .slice b rden.length d] 88 (0, 0))).heap.size = w.heap.size + 1 by simp] at this
    exact this
  have hsz : w.heap.size + 2 ≤ ((w.alloc (.cells #[.bool rn, .slice a rnum.length c, .slice b rden.length d] 88 (0, 0))).alloc (.cells #[.bool false, .slice none 0 0, .slice none 0 0] 88 (0, 0))).drew.heap.size := by simp
  subst hS
  go_region_held3 (fun W => w.heap.size + 1 < W.heap.size ∧ Blw w W ∧ W.cell? ⟨w.heap.size, 0, none⟩ = some (.bool rn) ∧ W.cell? ⟨w.heap.size, 1, none⟩ = some (.slice a rnum.length c) ∧ W.cell? ⟨w.heap.size, 2, none⟩ = some (.slice b rden.length d)) (first | assumption | (refine ⟨?_, blw_three (HSB.out _ (by assumption)) (Nat.le_succ _) _ _ _, ?_, ?_, ?_⟩ <;> go_keep) | go_keep) (first
    | (go_at_call 163; (with_reducible refine Calls.mono (HT1.out _ (by assumption)) ?_); rintro e w9 ⟨p1, q1, y1, rfl, rfl, o1, -, -⟩; have hS1 := HKS.out _ _ (by assumption) (World.blw_ext _ y1); have hR1 := HKR.out _ _ (by assumption) (World.blw_ext _ y1); have hRR := HRR.out _ hR1)
    | (go_at_call 163; (with_reducible refine Calls.mono (HT2.out _ (by assumption)) ?_); rintro e w9 ⟨p2, q2, y2, rfl, rfl, o2, -, -⟩; have hS2 := HKS.out _ _ (by assumption) (World.blw_ext _ y2); have hR2 := HKR.out _ _ (by assumption) (World.blw_ext _ y2); have hRR2 := HRR.out _ hR2))


  · clear HT1 HT2 HKS HKR HRR hS0 hR0 hS1 hS2 hRR hRR2
    obtain ⟨hfz, e0, e1, e2, r0, r1, r2⟩ := three hR2 (.bool rn) (.slice p1 rnum.length q1) (.slice p2 rden.length q2)
    have oF := ownsRow_mono (ownsRow_blw o1 (World.blw_ext _ y2)) hsz
    have oS := ownsRow_mono o2 (Nat.le_trans hsz (World.le_ext _ y1))
    go_wp2_with fail
    refine bodyPost_ret (v := .agg #[.bool rn, .slice p1 rnum.length q1, .slice p2 rden.length q2]) (by simp [results, Try.results139, go_sem, r0, r1, r2]) rfl ?_
    exact ⟨p1, q1, p2, q2, rfl, blw_three (by repeat (first | exact Blw.refl _ | apply Blw.ext | apply Blw.alloc | apply Blw.drewN | apply Blw.drew | refine Blw.setCell ?_ _ _ (by simp))) (Nat.le_succ _) _ _ _, own_three oF (Nat.lt_succ_self _) _ _ _ |> (ownsRow_mono · (by omega)), own_three oS (Nat.lt_succ_self _) _ _ _ |> (ownsRow_mono · (by omega))⟩

def negF (r : Fr) : Fr := ⟨!r.neg && decide (0 < r.num.length), r.num, r.den⟩
theorem negF_ok {r : Fr} (h : r.Ok) : (negF r).Ok :=
  ⟨h.ln, h.ld, h.nn, h.nd, h.d0, (fun k => by show (!r.neg && decide (0 < r.num.length)) = false; have k : r.num.length = 0 := k; rw [k]; simp), h.g⟩

set_option maxHeartbeats 1000000 in
theorem ratioTurned_any (r : Fr) (a : Option Addr) (c : Nat) (b : Option Addr) (d : Nat) (w : World) :
    Calls Try.prog 138 #[frV r a c b d] w fun e w' => e = .returned (frV (negF r) a c b d) ∧ ∃ x, w' = w.ext x := by
  obtain ⟨neg, num, den⟩ := r
  have hB0 : ((w.alloc (.cells #[.bool neg, .slice a num.length c, .slice b den.length d] 88 (0, 0))).alloc (.cells #[.bool false, .slice none 0 0, .slice none 0 0] 88 (0, 0))).heap[w.heap.size]? = some (.cells #[.bool neg, .slice a num.length c, .slice b den.length d] 88 (0, 0)) := at_alloc _ (heap_alloc_new _ _)
  have hR0 : ((w.alloc (.cells #[.bool neg, .slice a num.length c, .slice b den.length d] 88 (0, 0))).alloc (.cells #[.bool false, .slice none 0 0, .slice none 0 0] 88 (0, 0))).heap[w.heap.size + 1]? = some (.cells #[.bool false, .slice none 0 0, .slice none 0 0] 88 (0, 0)) := by
    have := heap_alloc_new (w.alloc (.cells #[.bool neg, .slice a num.length c, .slice b den.length d] 88 (0, 0))) (.cells #[.bool false, .slice none 0 0, .slice none 0 0] 88 (0, 0))
    rw [show (w.alloc (.cells #[.bool neg, .slice a num.length c, .slice b den.length d] 88 (0, 0))).heap.size = w.heap.size + 1 by simp] at this
    exact this
  cases neg
  · have hR1 := at_far (b := w.heap.size) (i := 0) (.bool (decide (0 < num.length))) (by omega) hR0
    obtain ⟨hfz, e0, e1, e2, r0, r1, r2⟩ := three hR1 (.bool (decide (0 < num.length))) (.slice a num.length c) (.slice b den.length d)
    have hb : Blw w ((w.alloc (.cells #[.bool false, .slice a num.length c, .slice b den.length d] 88 (0, 0))).alloc (.cells #[.bool false, .slice none 0 0, .slice none 0 0] 88 (0, 0))) := (by repeat (first | exact Blw.refl _ | apply Blw.ext | apply Blw.alloc | apply Blw.drewN | apply Blw.drew | refine Blw.setCell ?_ _ _ (by simp)))
    clear hR1 hR0 hB0
    go_enter Try.func138, Try.ntmps138
    go_wp2_with fail
    exact bodyPost_ret (v := .agg #[.bool (decide (0 < num.length)), .slice a num.length c, .slice b den.length d]) (by simp [results, Try.results138, go_sem, r0, r1, r2]) rfl ⟨rfl, Blw.is (by repeat (first | exact Blw.refl _ | apply Blw.ext | apply Blw.alloc | apply Blw.drewN | apply Blw.drew | refine Blw.setCell ?_ _ _ (by simp)))⟩
  · have hR1 := at_far (b := w.heap.size) (i := 0) (.bool (false)) (by omega) hR0
    obtain ⟨hfz, e0, e1, e2, r0, r1, r2⟩ := three hR1 (.bool (false)) (.slice a num.length c) (.slice b den.length d)
    have hb : Blw w ((w.alloc (.cells #[.bool true, .slice a num.length c, .slice b den.length d] 88 (0, 0))).alloc (.cells #[.bool false, .slice none 0 0, .slice none 0 0] 88 (0, 0))) := (by repeat (first | exact Blw.refl _ | apply Blw.ext | apply Blw.alloc | apply Blw.drewN | apply Blw.drew | refine Blw.setCell ?_ _ _ (by simp)))
    clear hR1 hR0 hB0
    go_enter Try.func138, Try.ntmps138
    go_wp2_with fail
    exact bodyPost_ret (v := .agg #[.bool (false), .slice a num.length c, .slice b den.length d]) (by simp [results, Try.results138, go_sem, r0, r1, r2]) rfl ⟨rfl, Blw.is (by repeat (first | exact Blw.refl _ | apply Blw.ext | apply Blw.alloc | apply Blw.drewN | apply Blw.drew | refine Blw.setCell ?_ _ _ (by simp)))⟩

set_option maxRecDepth 100000 in
set_option maxHeartbeats 1000000 in
theorem ratioNeg_ok (r : Fr) (a : Option Addr) (c : Nat) (b : Option Addr) (d : Nat) (w : World) (h : FrA w r a c b d) (hr : r.Ok) :
    Calls Try.prog 89 #[frV r a c b d] w (RetFr w (negF r) 0) := by
  have K1 := Lib.hid (fun (W : World) (hb : Blw w W) => ratioCheck_any r a c b d W (h.blw hb))
  rw [chkF_ok hr] at K1
  have K2 := Lib.hid (fun (W : World) (hb : Blw w W) => ratioCopied_any r a c b d W (h.blw hb) hr)
  have hF0 : ((w.alloc (.cells #[.bool r.neg, .slice a r.num.length c, .slice b r.den.length d] 88 (0, 0))).alloc (.cells #[.bool false, .slice none 0 0, .slice none 0 0] 88 (0, 0))).heap[w.heap.size + 1]? = some (.cells #[.bool false, .slice none 0 0, .slice none 0 0] 88 (0, 0)) := by
    have := heap_alloc_new (w.alloc (.cells #[.bool r.neg, .slice a r.num.length c, .slice b r.den.length d] 88 (0, 0))) (.cells #[.bool false, .slice none 0 0, .slice none 0 0] 88 (0, 0))
    rw [show (w.alloc (.cells #[.bool r.neg, .slice a r.num.length c, .slice b r.den.length d] 88 (0, 0))).heap.size = w.heap.size + 1 by simp] at this
    exact this
  clear h hr
  go_enter Try.func89, Try.ntmps89
  go_wp2_with fail
  refine Calls.mono (K1.out _ (by repeat (first | exact Blw.refl _ | apply Blw.ext | apply Blw.alloc | apply Blw.drewN | apply Blw.drew | refine Blw.setCell ?_ _ _ (by simp)))) ?_
  rintro e w1 ⟨rfl, x1, rfl⟩
  go_wp2_with fail
  refine Calls.mono (K2.out _ (by repeat (first | exact Blw.refl _ | apply Blw.ext | apply Blw.alloc | apply Blw.drewN | apply Blw.drew | refine Blw.setCell ?_ _ _ (by simp)))) ?_
  rintro e w2 ⟨p1, q1, p2, q2, rfl, hb2, oX, oY⟩
  go_wp2_with fail
  refine Calls.mono (ratioTurned_any r p1 q1 p2 q2 _) ?_
  rintro e w3 ⟨rfl, x3, rfl⟩
  have hF3 := at_ext x3 ((KeptO.of_blw (O := fun _ => False) (((Blw.refl _).ext x1).trans hb2)).heap hF0 id)
  have hs : w.heap.size + 2 ≤ (((w.alloc (.cells #[.bool r.neg, .slice a r.num.length c, .slice b r.den.length d] 88 (0, 0))).alloc (.cells #[.bool false, .slice none 0 0, .slice none 0 0] 88 (0, 0))).ext x1).heap.size := Nat.le_trans (by simp) (World.le_ext _ x1)
  have oX3 := ownsRow_mono (ownsRow_blw oX (World.blw_ext _ x3)) hs
  have oY3 := ownsRow_mono (ownsRow_blw oY (World.blw_ext _ x3)) hs
  have hbw : Blw w (w2.ext x3) := (Blw.trans (by repeat (first | exact Blw.refl _ | apply Blw.ext | apply Blw.alloc | apply Blw.drewN | apply Blw.drew | refine Blw.setCell ?_ _ _ (by simp))) hb2).ext x3
  clear oX oY hs hb2 hF0 K1 K2
  obtain ⟨rn, rnum, rden⟩ := r
  simp only at oX3 oY3
  generalize w2.ext x3 = w4 at *
  obtain ⟨hfz, e0, e1, e2, r0, r1, r2⟩ := three hF3 (.bool (negF ⟨rn, rnum, rden⟩).neg) (.slice p1 (negF ⟨rn, rnum, rden⟩).num.length q1) (.slice p2 (negF ⟨rn, rnum, rden⟩).den.length q2)
  go_wp2_with fail
  exact bodyPost_ret (v := .tuple #[.agg #[.bool (negF ⟨rn, rnum, rden⟩).neg, .slice p1 (negF ⟨rn, rnum, rden⟩).num.length q1, .slice p2 (negF ⟨rn, rnum, rden⟩).den.length q2], .int .i64 0]) (by simp [results, Try.results89, go_sem, r0, r1, r2]) rfl ⟨p1, q1, p2, q2, rfl, blw_three hbw (Nat.le_succ _) _ _ _, own_three oX3 (Nat.lt_succ_self _) _ _ _ |> (ownsRow_mono · (by omega)), own_three oY3 (Nat.lt_succ_self _) _ _ _ |> (ownsRow_mono · (by omega))⟩

set_option maxHeartbeats 1000000 in
theorem ratioNeg_bad (r : Fr) (a : Option Addr) (c : Nat) (b : Option Addr) (d : Nat) (w : World) (h : FrA w r a c b d) (hr : ¬ chkF r = 0) :
    Calls Try.prog 89 #[frV r a c b d] w fun e w' => e = .returned (.tuple #[frV ⟨false, [], []⟩ none 0 none 0, .int .i64 (chkF r)]) ∧ ∃ x, w' = w.ext x := by
  have K1 := Lib.hid (fun (W : World) (hb : Blw w W) => ratioCheck_any r a c b d W (h.blw hb))
  have hF0 : ((w.alloc (.cells #[.bool r.neg, .slice a r.num.length c, .slice b r.den.length d] 88 (0, 0))).alloc (.cells #[.bool false, .slice none 0 0, .slice none 0 0] 88 (0, 0))).heap[w.heap.size + 1]? = some (.cells #[.bool false, .slice none 0 0, .slice none 0 0] 88 (0, 0)) := by
    have := heap_alloc_new (w.alloc (.cells #[.bool r.neg, .slice a r.num.length c, .slice b r.den.length d] 88 (0, 0))) (.cells #[.bool false, .slice none 0 0, .slice none 0 0] 88 (0, 0))
    rw [show (w.alloc (.cells #[.bool r.neg, .slice a r.num.length c, .slice b r.den.length d] 88 (0, 0))).heap.size = w.heap.size + 1 by simp] at this
    exact this
  generalize chkF r = u at *
  have q : (u != 0) = true := by simpa using hr
  clear h hr
  go_enter Try.func89, Try.ntmps89
  go_wp2_with fail
  refine Calls.mono (K1.out _ (by repeat (first | exact Blw.refl _ | apply Blw.ext | apply Blw.alloc | apply Blw.drewN | apply Blw.drew | refine Blw.setCell ?_ _ _ (by simp)))) ?_
  rintro e w1 ⟨rfl, x1, rfl⟩
  have hF3 := at_ext x1 hF0
  have hbw : Blw w (((w.alloc (.cells #[.bool r.neg, .slice a r.num.length c, .slice b r.den.length d] 88 (0, 0))).alloc (.cells #[.bool false, .slice none 0 0, .slice none 0 0] 88 (0, 0))).ext x1) := (by repeat (first | exact Blw.refl _ | apply Blw.ext | apply Blw.alloc | apply Blw.drewN | apply Blw.drew | refine Blw.setCell ?_ _ _ (by simp)))
  clear hF0 K1
  obtain ⟨hfz, e0, e1, e2, r0, r1, r2⟩ := three hF3 (.bool false) (.slice none 0 0) (.slice none 0 0)
  go_wp2_with fail
  exact bodyPost_ret (v := .tuple #[.agg #[.bool false, .slice none 0 0, .slice none 0 0], .int .i64 u]) (by simp [results, Try.results89, go_sem, r0, r1, r2]) rfl ⟨rfl, (blw_three hbw (Nat.le_succ _) _ _ _).is⟩
end Go.Proofs.Ytigkfdoeneemeaa
