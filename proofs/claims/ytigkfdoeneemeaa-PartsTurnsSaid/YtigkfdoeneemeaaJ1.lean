/- Several texts, joined. -/
import Derived.Test.YtigkfdoeneemeaaJ0
import Derived.Deep.RegionHeld3
import Derived.Test.YtigkfdoeneemeaaProg
import Derived.Laws.Externs
import Derived.Deep.AppendLies
import Derived.Deep.RegionLaw
import Derived.WalkMore
import Derived.Deep.LoopGhost
import Derived.ProofKit
import Derived.OpenShut
set_option linter.unusedVariables false
set_option linter.unusedSimpArgs false
/- Fractions compared, walked. -/
namespace Go.Proofs.Ytigkfdoeneemeaa
open Go.RowKit

def chk2 (r s : Fr) : Int := if chkF r = 0 then chkF s else chkF r

set_option maxHeartbeats 1000000 in
theorem ratioChecks_any (r s : Fr) (a : Option Addr) (c : Nat) (b : Option Addr) (d : Nat) (a' : Option Addr) (c' : Nat) (b' : Option Addr) (d' : Nat) (w : World) (h : FrA w r a c b d) (k : FrA w s a' c' b' d') :
    Calls Try.prog 164 #[frV r a c b d, frV s a' c' b' d'] w fun e w' => e = .returned (.int .i64 (chk2 r s)) ∧ ∃ x, w' = w.ext x := by
  have K1 := fun (W : World) (hb : Blw w W) => ratioCheck_any r a c b d W (h.blw hb)
  have K2 := fun (W : World) (hb : Blw w W) => ratioCheck_any s a' c' b' d' W (k.blw hb)
  have he : chk2 r s = if chkF r = 0 then chkF s else chkF r := rfl
  generalize chkF r = u at *
  generalize chkF s = v at *
  have HE := Lib.hid he
  clear he
  have H1 := Lib.hid K1
  have H2 := Lib.hid K2
  clear K1 K2 h k
  by_cases hu : u = 0
  · subst hu
    rw [if_pos rfl] at HE
    go_enter Try.func164, Try.ntmps164
    go_wp2_with fail
    refine Calls.mono (H1.out _ (by repeat (first | exact Blw.refl _ | apply Blw.ext | apply Blw.alloc | apply Blw.drewN | apply Blw.drew | refine Blw.setCell ?_ _ _ (by simp)))) ?_
    rintro e w1 ⟨rfl, x1, rfl⟩
    go_wp2_with fail
    refine Calls.mono (H2.out _ (by repeat (first | exact Blw.refl _ | apply Blw.ext | apply Blw.alloc | apply Blw.drewN | apply Blw.drew | refine Blw.setCell ?_ _ _ (by simp)))) ?_
    rintro e w1 ⟨rfl, x2, rfl⟩
    go_wp2
    go_ret
    exact ⟨ret_i64 HE.out.symm, Blw.is (by repeat (first | exact Blw.refl _ | apply Blw.ext | apply Blw.alloc | apply Blw.drewN | apply Blw.drew | refine Blw.setCell ?_ _ _ (by simp)))⟩
  · rw [if_neg hu] at HE
    have q : (u != 0) = true := by simpa using hu
    go_enter Try.func164, Try.ntmps164
    go_wp2_with fail
    refine Calls.mono (H1.out _ (by repeat (first | exact Blw.refl _ | apply Blw.ext | apply Blw.alloc | apply Blw.drewN | apply Blw.drew | refine Blw.setCell ?_ _ _ (by simp)))) ?_
    rintro e w1 ⟨rfl, x1, rfl⟩
    go_wp2
    go_ret
    exact ⟨ret_i64 HE.out.symm, Blw.is (by repeat (first | exact Blw.refl _ | apply Blw.ext | apply Blw.alloc | apply Blw.drewN | apply Blw.drew | refine Blw.setCell ?_ _ _ (by simp)))⟩

set_option maxHeartbeats 400000 in
theorem ratioTimes_any (a b : Option Addr) (l m : List Nat) (c d : Nat) (w : World) (h : Arr w a (u32s l)) (k : Arr w b (u32s m)) (wl : W.WF l) (wm : W.WF m) (nl : W.Nrm l) (nm : W.Nrm m) (hs : l.length + m.length ≤ 8192) :
    Calls Try.prog 165 #[.slice a l.length c, .slice b m.length d] w (RetW w (W.val l * W.val m)) := by
  have hm := natMul_any a b l m c d w h k wl wm nl nm hs
  clear h k
  go_enter Try.func165, Try.ntmps165
  go_wp2_with fail
  refine Calls.mono hm ?_
  rintro e w1 ⟨a1, c1, rfl, hb, o1⟩
  clear hm
  go_wp2
  go_ret
  exact RetOwn.of o1 hb

def cmpF (r s : Fr) : Int := if r.neg = true ∧ s.neg = true then W.cmpN (W.val s.num * W.val r.den) (W.val r.num * W.val s.den) else if r.neg = true then -1 else if s.neg = true then 1 else W.cmpN (W.val r.num * W.val s.den) (W.val s.num * W.val r.den)

set_option maxHeartbeats 400000 in
theorem ratioCompare_bad (r s : Fr) (a : Option Addr) (c : Nat) (b : Option Addr) (d : Nat) (a' : Option Addr) (c' : Nat) (b' : Option Addr) (d' : Nat) (w : World) (h : FrA w r a c b d) (k : FrA w s a' c' b' d') (hu : ¬ chk2 r s = 0) :
    Calls Try.prog 140 #[frV r a c b d, frV s a' c' b' d'] w fun e w' => e = .returned (.tuple #[.int .i64 0, .int .i64 (chk2 r s)]) ∧ ∃ x, w' = w.ext x := by
  have K1 := fun (W : World) (hb : Blw w W) => ratioChecks_any r s a c b d a' c' b' d' W (h.blw hb) (k.blw hb)
  generalize chk2 r s = u at *
  have H1 := Lib.hid K1
  have q : (u != 0) = true := by simpa using hu
  clear K1 h k
  go_enter Try.func140, Try.ntmps140
  go_wp2_with fail
  refine Calls.mono (H1.out _ (by repeat (first | exact Blw.refl _ | apply Blw.ext | apply Blw.alloc | apply Blw.drewN | apply Blw.drew | refine Blw.setCell ?_ _ _ (by simp)))) ?_
  rintro e w1 ⟨rfl, x1, rfl⟩
  go_wp2
  go_ret2
  exact ⟨rfl, Blw.is (by repeat (first | exact Blw.refl _ | apply Blw.ext | apply Blw.alloc | apply Blw.drewN | apply Blw.drew | refine Blw.setCell ?_ _ _ (by simp)))⟩

theorem Fr.Ok.len {r s : Fr} (h : r.Ok) (k : s.Ok) : r.num.length + s.den.length ≤ 8192 ∧ s.num.length + r.den.length ≤ 8192 ∧ r.num.length + s.num.length ≤ 8192 ∧ r.den.length + s.den.length ≤ 8192 := by
  have := h.ln; have := h.ld; have := k.ln; have := k.ld
  omega

theorem cmp_words (X Y : Nat) (p1 : Option Addr) (q1 : Nat) (p2 : Option Addr) (q2 : Nat) (w : World) (h1 : Arr w p1 (u32s (W.toW X))) (h2 : Arr w p2 (u32s (W.toW Y))) (k1 : (W.toW X).length ≤ q1) (k2 : q1 ≤ maxLen) (j1 : (W.toW Y).length ≤ q2) (j2 : q2 ≤ maxLen) :
    Calls Try.prog 154 #[.slice p1 (W.toW X).length q1, .slice p2 (W.toW Y).length q2] w fun e w' => e = .returned (.int .i64 (W.cmpN X Y)) ∧ ∃ x, w' = w.ext x := by
  have := natCompare_any p1 p2 (W.toW X) (W.toW Y) q1 q2 w h1 h2 k1 j1 k2 j2 (W.wf_toW X) (W.wf_toW Y)
  rw [W.val_toW, W.val_toW] at this
  exact this
theorem cmp_words' (X Y : Nat) (p1 : Option Addr) (q1 : Nat) (p2 : Option Addr) (q2 : Nat) (w : World) (h1 : Arr w p1 (u32s (W.toW X))) (h2 : Arr w p2 (u32s (W.toW Y))) (k1 : (W.toW X).length ≤ q1) (k2 : q1 ≤ maxLen) (j1 : (W.toW Y).length ≤ q2) (j2 : q2 ≤ maxLen) :
    Calls Try.prog 154 #[.slice p2 (W.toW Y).length q2, .slice p1 (W.toW X).length q1] w fun e w' => e = .returned (.int .i64 (W.cmpN Y X)) ∧ ∃ x, w' = w.ext x :=
  cmp_words Y X p2 q2 p1 q1 w h2 h1 j1 j2 k1 k2

set_option maxRecDepth 100000 in
set_option maxHeartbeats 4000000 in
theorem ratioCompare_ok (r s : Fr) (a : Option Addr) (c : Nat) (b : Option Addr) (d : Nat) (a' : Option Addr) (c' : Nat) (b' : Option Addr) (d' : Nat) (w : World) (h : FrA w r a c b d) (k : FrA w s a' c' b' d') (hr : r.Ok) (hs : s.Ok) :
    Calls Try.prog 140 #[frV r a c b d, frV s a' c' b' d'] w fun e w' => e = .returned (.tuple #[.int .i64 (cmpF r s), .int .i64 0]) ∧ ∃ x, w' = w.ext x := by
  have K1 := fun (W : World) (hb : Blw w W) => ratioChecks_any r s a c b d a' c' b' d' W (h.blw hb) (k.blw hb)
  rw [show chk2 r s = 0 by unfold chk2; rw [chkF_ok hr, if_pos rfl, chkF_ok hs]] at K1
  have H1 := Lib.hid K1
  have HL := hr.len hs
  obtain ⟨S, hS⟩ : ∃ S : World → Prop, S = fun W => w.heap.size + 1 < W.heap.size ∧ Blw w W ∧ W.cell? ⟨w.heap.size, 0, none⟩ = some (.bool r.neg) ∧ W.cell? ⟨w.heap.size, 1, none⟩ = some (.slice a r.num.length c) ∧ W.cell? ⟨w.heap.size, 2, none⟩ = some (.slice b r.den.length d) ∧
      W.cell? ⟨w.heap.size + 1, 0, none⟩ = some (.bool s.neg) ∧ W.cell? ⟨w.heap.size + 1, 1, none⟩ = some (.slice a' s.num.length c') ∧ W.cell? ⟨w.heap.size + 1, 2, none⟩ = some (.slice b' s.den.length d') := ⟨_, rfl⟩
  have KS : ∀ W W' : World, S W → Blw W W' → S W' := by
    subst hS
    rintro W W' ⟨h1, h2, h3, h4, h5, h6, h7, h8⟩ hb
    exact ⟨Nat.lt_of_lt_of_le h1 hb.size, h2.trans hb, (Below.cell hb (by show w.heap.size < _; omega)).trans h3, (Below.cell hb (by show w.heap.size < _; omega)).trans h4, (Below.cell hb (by show w.heap.size < _; omega)).trans h5, (Below.cell hb h1).trans h6, (Below.cell hb h1).trans h7, (Below.cell hb h1).trans h8⟩
  have SB : ∀ W : World, S W → Blw w W := by
    subst hS
    rintro W ⟨h1, h2, -⟩; exact h2
  have T1 := Lib.hid (fun (W : World) (hb : S W) => ratioTimes_any a b' r.num s.den c d' W (h.an.blw (SB W hb)) (k.ad.blw (SB W hb)) h.wn k.wd hr.nn hs.nd HL.1)
  have T2 := Lib.hid (fun (W : World) (hb : S W) => ratioTimes_any a' b s.num r.den c' d W (k.an.blw (SB W hb)) (h.ad.blw (SB W hb)) k.wn h.wd hs.nn hr.nd HL.2.1)
  have hcm : cmpF r s = if r.neg = true ∧ s.neg = true then W.cmpN (W.val s.num * W.val r.den) (W.val r.num * W.val s.den) else if r.neg = true then -1 else if s.neg = true then 1 else W.cmpN (W.val r.num * W.val s.den) (W.val s.num * W.val r.den) := rfl
  obtain ⟨X, hX⟩ : ∃ X, X = W.val r.num * W.val s.den := ⟨_, rfl⟩
  obtain ⟨Y, hY⟩ : ∃ Y, Y = W.val s.num * W.val r.den := ⟨_, rfl⟩
  rw [← hX] at T1 hcm
  rw [← hY] at T2 hcm
  have HC := Lib.hid hcm
  obtain ⟨rn, rnum, rden⟩ := r
  obtain ⟨sn, snum, sden⟩ := s
  simp only at T1 T2 HC
  have HXY := Lib.hid (cmp_words X Y)
  have HYX := Lib.hid (cmp_words' X Y)
  have HKS := Lib.hid KS
  have HSB := Lib.hid SB
  clear K1 h k hr hs hX hY HL hcm KS SB
  simp only at hS
  go_enter Try.func140, Try.ntmps140
  go_wp2_with fail
  refine Calls.mono (H1.out _ (by repeat (first | exact Blw.refl _ | apply Blw.ext | apply Blw.alloc | apply Blw.drewN | apply Blw.drew | refine Blw.setCell ?_ _ _ (by simp)))) ?_
  rintro e w1 ⟨rfl, x1, rfl⟩
  go_wp2_with fail
  have hS0 : S (((w.alloc (.cells #[.bool rn, .slice a rnum.length c, .slice b rden.length d] 88 (0, 0))).alloc (.cells #[.bool sn, .slice a' snum.length c', .slice b' sden.length d'] 88 (0, 0))).ext x1).drew := by
    rw [hS]
    exact ⟨Nat.lt_of_lt_of_le (by simp) (World.le_ext _ x1), (by repeat (first | exact Blw.refl _ | apply Blw.ext | apply Blw.alloc | apply Blw.drewN | apply Blw.drew | refine Blw.setCell ?_ _ _ (by simp))), by go_simp, by go_simp, by go_simp, by go_simp, by go_simp, by go_simp⟩
  subst hS
  go_region_held3 (fun W => w.heap.size + 1 < W.heap.size ∧ Blw w W ∧ W.cell? ⟨w.heap.size, 0, none⟩ = some (.bool rn) ∧ W.cell? ⟨w.heap.size, 1, none⟩ = some (.slice a rnum.length c) ∧ W.cell? ⟨w.heap.size, 2, none⟩ = some (.slice b rden.length d) ∧
      W.cell? ⟨w.heap.size + 1, 0, none⟩ = some (.bool sn) ∧ W.cell? ⟨w.heap.size + 1, 1, none⟩ = some (.slice a' snum.length c') ∧ W.cell? ⟨w.heap.size + 1, 2, none⟩ = some (.slice b' sden.length d')) (first | assumption | go_keep) (first
    | (go_at_call 165; (with_reducible refine Calls.mono (T1.out _ (by assumption)) ?_); rintro e w9 ⟨p1, q1, y1, rfl, rfl, o1, -, -⟩; have hS1 := HKS.out _ _ (by assumption) (World.blw_ext _ y1))
    | (go_at_call 165; (with_reducible refine Calls.mono (T2.out _ (by assumption)) ?_); rintro e w9 ⟨p2, q2, y2, rfl, rfl, o2, -, -⟩; have hS2 := HKS.out _ _ (by assumption) (World.blw_ext _ y2)))
  all_goals
    obtain ⟨_, _, he, A1, -, k1, k2, -⟩ := own_arr o1
    cases he
    obtain ⟨_, _, he, A2, -, j1, j2, -⟩ := own_arr o2
    cases he
    clear T1 T2 HKS HSB H1 hS0 hS1 hS2 o1 o2
    cases rn <;> cases sn
    · have HV := HC.out
      rw [if_neg (by simp), if_neg (by simp), if_neg (by simp)] at HV
      go_wp2_with fail
      refine Calls.mono (HXY.out _ _ _ _ _ (by first | exact A1 | exact A1.ext _) (by first | exact A2 | exact A2.ext _) k1 k2 j1 j2) ?_
      rintro e w8 ⟨rfl, x8, rfl⟩
      go_wp2
      go_ret2
      exact ⟨by first | (rw [HV]; rfl) | rfl, Blw.is (by repeat (first | exact Blw.refl _ | apply Blw.ext | apply Blw.alloc | apply Blw.drewN | apply Blw.drew | refine Blw.setCell ?_ _ _ (by simp)))⟩
    · have HV := HC.out
      rw [if_neg (by simp), if_neg (by simp), if_pos rfl] at HV
      go_wp2
      go_ret2
      exact ⟨by first | (rw [HV]; rfl) | rfl, Blw.is (by repeat (first | exact Blw.refl _ | apply Blw.ext | apply Blw.alloc | apply Blw.drewN | apply Blw.drew | refine Blw.setCell ?_ _ _ (by simp)))⟩
    · have HV := HC.out
      rw [if_neg (by simp), if_pos rfl] at HV
      go_wp2
      go_ret2
      exact ⟨by first | (rw [HV]; rfl) | rfl, Blw.is (by repeat (first | exact Blw.refl _ | apply Blw.ext | apply Blw.alloc | apply Blw.drewN | apply Blw.drew | refine Blw.setCell ?_ _ _ (by simp)))⟩
    · have HV := HC.out
      rw [if_pos ⟨rfl, rfl⟩] at HV
      go_wp2_with fail
      refine Calls.mono (HYX.out _ _ _ _ _ (by first | exact A1 | exact A1.ext _) (by first | exact A2 | exact A2.ext _) k1 k2 j1 j2) ?_
      rintro e w8 ⟨rfl, x8, rfl⟩
      go_wp2
      go_ret2
      exact ⟨by first | (rw [HV]; rfl) | rfl, Blw.is (by repeat (first | exact Blw.refl _ | apply Blw.ext | apply Blw.alloc | apply Blw.drewN | apply Blw.drew | refine Blw.setCell ?_ _ _ (by simp)))⟩
end Go.Proofs.Ytigkfdoeneemeaa
/- Fractions made: lowest, size, Small, copied, turned, Neg, walked. -/
namespace Go.Proofs.Ytigkfdoeneemeaa
open Go.RowKit

/-- A fraction of the call's own, and an error. -/
def RetFr (w : World) (r : Fr) (er : Int) (e : Ending) (w' : World) : Prop :=
  ∃ (a : Option Addr) (c : Nat) (b : Option Addr) (d : Nat), e = .returned (.tuple #[frV r a c b d, .int .i64 er]) ∧ Blw w w' ∧ w'.ownsRow w.heap.size 135 1 (.slice a r.num.length c) r.num.length (u32s r.num) ∧ w'.ownsRow w.heap.size 135 1 (.slice b r.den.length d) r.den.length (u32s r.den)
theorem FrA.own {w : World} {B : Nat} {r : Fr} {a : Option Addr} {c : Nat} {b : Option Addr} {d : Nat} (h : w.ownsRow B 135 1 (.slice a r.num.length c) r.num.length (u32s r.num)) (k : w.ownsRow B 135 1 (.slice b r.den.length d) r.den.length (u32s r.den)) (wn : W.WF r.num) (wd : W.WF r.den) : FrA w r a c b d := by
  obtain ⟨a', c', e, h1, h2, h3, h4, h5⟩ := own_arr h
  cases e
  obtain ⟨b', d', e, k1, k2, k3, k4, k5⟩ := own_arr k
  cases e
  exact ⟨h1, k1, h3, h4, k3, k4, h5, k5, wn, wd⟩

/-- A block of three cells, written anew. -/
theorem three {w : World} {g : Nat} {v0 v1 v2 : Value} {t : TypeId} (h : w.heap[g]? = some (.cells #[v0, v1, v2] t (0, 0))) (u0 u1 u2 : Value) :
    (∀ i, w.frozen? ⟨g, i, none⟩ = false) ∧ w.cell? ⟨g, 0, none⟩ = some v0 ∧ w.cell? ⟨g, 1, none⟩ = some v1 ∧ w.cell? ⟨g, 2, none⟩ = some v2 ∧
    (w.setCell ⟨g, 0, none⟩ u0).cell? ⟨g, 0, none⟩ = some u0 ∧ ((w.setCell ⟨g, 0, none⟩ u0).setCell ⟨g, 1, none⟩ u1).cell? ⟨g, 1, none⟩ = some u1 ∧ (((w.setCell ⟨g, 0, none⟩ u0).setCell ⟨g, 1, none⟩ u1).setCell ⟨g, 2, none⟩ u2).cell? ⟨g, 2, none⟩ = some u2 :=
  ⟨fun i => frozen_of_row w g i _ _ h, (cell_of_row w g 0 _ _ _ h).trans rfl, (cell_of_row w g 1 _ _ _ h).trans rfl, (cell_of_row w g 2 _ _ _ h).trans rfl, (cell_of_row _ g 0 _ _ _ (at_set 0 u0 h)).trans (by simp), (cell_of_row _ g 1 _ _ _ (at_set 1 u1 (at_set 0 u0 h))).trans (by simp), (cell_of_row _ g 2 _ _ _ (at_set 2 u2 (at_set 1 u1 (at_set 0 u0 h)))).trans (by simp)⟩
theorem blw_three {w w' : World} {g : Nat} (h : Blw w w') (hg : w.heap.size ≤ g) (u0 u1 u2 : Value) : Blw w (((w'.setCell ⟨g, 0, none⟩ u0).setCell ⟨g, 1, none⟩ u1).setCell ⟨g, 2, none⟩ u2) :=
  ((h.setCell _ _ hg).setCell _ _ hg).setCell _ _ hg
theorem own_three {w : World} {B g : Nat} {e : TypeId} {size n : Nat} {v : Value} {cs : List Value} (h : w.ownsRow B e size v n cs) (hg : g < B) (u0 u1 u2 : Value) : (((w.setCell ⟨g, 0, none⟩ u0).setCell ⟨g, 1, none⟩ u1).setCell ⟨g, 2, none⟩ u2).ownsRow B e size v n cs :=
  KeptO.own (O := fun k => k = g) (((KeptO.setCell (KeptO.refl (O := fun k => k = g) w) ⟨g, 0, none⟩ u0 (.inl rfl)).setCell ⟨g, 1, none⟩ u1 (.inl rfl)).setCell ⟨g, 2, none⟩ u2 (.inl rfl)) h (fun k hk e => by have := (World.ownsRow.lt h k hk).1; omega)

set_option maxRecDepth 100000 in
set_option maxHeartbeats 4000000 in
theorem ratioLowest_any (neg : Bool) (a b : Option Addr) (l m : List Nat) (c d : Nat) (w : World) (h : Arr w a (u32s l)) (k : Arr w b (u32s m)) (hc : l.length ≤ c) (hd : m.length ≤ d) (hcm : c ≤ 9223372036854775807) (hdm : d ≤ 9223372036854775807) (ha : a = none → l.length = 0 ∧ c = 0) (hb : b = none → m.length = 0 ∧ d = 0)
    (wl : W.WF l) (wm : W.WF m) (nl : W.Nrm l) (nm : W.Nrm m) (hl : l.length ≤ 8192) (hm : m.length ≤ 8192) (hm0 : 0 < m.length) (hX : W.val l / Nat.gcd (W.val l) (W.val m) < W.pw 2048) (hY : W.val m / Nat.gcd (W.val l) (W.val m) < W.pw 2048) :
    Calls Try.prog 166 #[.bool neg, .slice a l.length c, .slice b m.length d] w (RetFr w ⟨neg && decide (0 < (W.toW (W.val l / Nat.gcd (W.val l) (W.val m))).length), W.toW (W.val l / Nat.gcd (W.val l) (W.val m)), W.toW (W.val m / Nat.gcd (W.val l) (W.val m))⟩ 0) := by
  have GC := fun (W : World) (hb' : Blw w W) => natGcd_any a b l m c d W (h.blw hb') (k.blw hb') ha hb wl wm nl nm hl hm
  have vm : 0 < W.val m := W.val_pos nm (by intro e; rw [e] at hm0; simp at hm0)
  obtain ⟨G, hG⟩ : ∃ G, Nat.gcd (W.val l) (W.val m) = G := ⟨_, rfl⟩
  have G0 : 0 < G := by rw [← hG]; exact Nat.gcd_pos_of_pos_right _ vm
  have GB : G ≤ W.val m := by rw [← hG]; exact Nat.gcd_le_right _ vm
  have gl : (W.toW G).length ≤ 8192 := by
    refine Nat.le_trans ?_ hm
    have := W.len_toW_le.2 (Nat.lt_of_le_of_lt GB (W.val_lt wm))
    exact this
  have g0 : 0 < (W.toW G).length := by
    rcases Nat.eq_zero_or_pos (W.toW G).length with e | e
    · have := W.toW_nil.1 (List.eq_nil_of_length_eq_zero e); omega
    · exact e
  rw [hG] at hX hY GC ⊢
  have lX := W.len_toW_le.2 hX
  have lY := W.len_toW_le.2 hY
  have D1 := fun (W' : World) (hb' : Blw w W') (a3 : Option Addr) (c3 : Nat) (o3 : Arr W' a3 (u32s (W.toW G))) (k3 : (W.toW G).length ≤ c3) (k4 : c3 ≤ 9223372036854775807) => natDivMod_any a a3 l (W.toW G) c c3 W' (h.blw hb') o3 hc k3 hcm k4 ha wl (W.wf_toW G) nl (W.nrm_toW G) hl g0 gl
  have D2 := fun (W' : World) (hb' : Blw w W') (a3 : Option Addr) (c3 : Nat) (o3 : Arr W' a3 (u32s (W.toW G))) (k3 : (W.toW G).length ≤ c3) (k4 : c3 ≤ 9223372036854775807) => natDivMod_any b a3 m (W.toW G) d c3 W' (k.blw hb') o3 hd k3 hdm k4 hb wm (W.wf_toW G) nm (W.nrm_toW G) hm g0 gl
  simp only [W.val_toW] at D1 D2
  generalize W.val l / G = X at *
  generalize W.val m / G = Y at *
  generalize W.val l % G = X2 at *
  generalize W.val m % G = Y2 at *
  have HG := Lib.hid GC
  have HD1 := Lib.hid D1
  have HD2 := Lib.hid D2
  clear GC D1 D2 hG GB G0 vm h k hX hY
  have f1 : decide ((2048 : Int) < ((W.toW X).length : Int)) = false := by simp; omega
  have f2 : decide ((2048 : Int) < ((W.toW Y).length : Int)) = false := by simp; omega
  have hF0 : (w.alloc (.cells #[.bool false, .slice none 0 0, .slice none 0 0] 88)).heap[w.heap.size]? = some (.cells #[.bool false, .slice none 0 0, .slice none 0 0] 88 (0, 0)) := heap_alloc_new _ _
  go_enter Try.func166, Try.ntmps166
  go_wp2_with fail
  refine Calls.mono (HG.out _ (by repeat (first | exact Blw.refl _ | apply Blw.ext | apply Blw.alloc | apply Blw.drewN | apply Blw.drew | refine Blw.setCell ?_ _ _ (by simp)))) ?_
  rintro e w2 ⟨a3, c3, rfl, hb2, o3⟩
  obtain ⟨a4, c4, he, k1, k2, k3, k4, k5⟩ := own_arr o3
  cases he
  have hbw2 : Blw w w2 := ((Blw.refl w).alloc _).trans hb2
  have hF2 := (KeptO.of_blw (O := fun _ => False) hb2).heap hF0 id
  clear o3 k2 k5 hF0
  go_wp2_with fail
  refine Calls.mono (HD1.out w2 hbw2 a3 c3 k1 k3 k4) ?_
  rintro e w3 ⟨p1, q1, p2, q2, rfl, hb3, oX, -⟩
  have hF3 := (KeptO.of_blw (O := fun _ => False) hb3).heap hF2 id
  go_wp2_with fail
  refine Calls.mono (HD2.out w3 (hbw2.trans hb3) a3 c3 (k1.blw hb3) k3 k4) ?_
  rintro e w4 ⟨p3, q3, p4, q4, rfl, hb4, oY, -⟩
  have hF4 := (KeptO.of_blw (O := fun _ => False) hb4).heap hF3 id
  have oX4 := ownsRow_mono (ownsRow_blw oX hb4) (show w.heap.size + 1 ≤ w2.heap.size from Nat.le_trans (by simp) hb2.size)
  have oY4 := ownsRow_mono oY (show w.heap.size + 1 ≤ w3.heap.size from Nat.le_trans (Nat.le_trans (by simp) hb2.size) hb3.size)
  have hbw4 := (hbw2.trans hb3).trans hb4
  have l1 : (W.toW X).length ≤ 9223372036854775807 := by omega
  have l2 : (W.toW Y).length ≤ 9223372036854775807 := by omega
  clear hF2 hF3 oX oY hb4 hb3 hb2 hbw2 k1
  cases neg
  · obtain ⟨hfz, d0, d1, d2, r0, r1, r2⟩ := three hF4 (.bool false) (.slice p1 (W.toW X).length q1) (.slice p3 (W.toW Y).length q3)
    go_wp2_with (go_at_call 151; refine (ratioLong_any _ _ _ _ (by omega)).mono ?_; rintro e w' ⟨rfl, h9⟩; subst h9)
    exact bodyPost_ret (v := .tuple #[.agg #[.bool false, .slice p1 (W.toW X).length q1, .slice p3 (W.toW Y).length q3], .int .i64 0]) (by simp [results, Try.results166, go_sem, r0, r1, r2]) rfl ⟨p1, q1, p3, q3, rfl, blw_three hbw4 (Nat.le_refl _) _ _ _, own_three (ownsRow_mono oX4 (Nat.le_refl _)) (Nat.lt_succ_self _) _ _ _ |> (ownsRow_mono · (Nat.le_succ _)), own_three oY4 (Nat.lt_succ_self _) _ _ _ |> (ownsRow_mono · (Nat.le_succ _))⟩
  · obtain ⟨hfz, d0, d1, d2, r0, r1, r2⟩ := three hF4 (.bool (decide (0 < (W.toW X).length))) (.slice p1 (W.toW X).length q1) (.slice p3 (W.toW Y).length q3)
    go_wp2_with (go_at_call 151; refine (ratioLong_any _ _ _ _ (by omega)).mono ?_; rintro e w' ⟨rfl, h9⟩; subst h9)
    exact bodyPost_ret (v := .tuple #[.agg #[.bool (decide (0 < (W.toW X).length)), .slice p1 (W.toW X).length q1, .slice p3 (W.toW Y).length q3], .int .i64 0]) (by simp [results, Try.results166, go_sem, r0, r1, r2]) rfl ⟨p1, q1, p3, q3, rfl, blw_three hbw4 (Nat.le_refl _) _ _ _, own_three oX4 (Nat.lt_succ_self _) _ _ _ |> (ownsRow_mono · (Nat.le_succ _)), own_three oY4 (Nat.lt_succ_self _) _ _ _ |> (ownsRow_mono · (Nat.le_succ _))⟩

set_option maxHeartbeats 400000 in
theorem ratioSize_any (n : Int) (w : World) (h0 : -9223372036854775808 ≤ n) (h1 : n ≤ 9223372036854775807) :
    Calls Try.prog 167 #[.int .i64 n] w (RetW w n.natAbs) := by
  have hO := natOf_any n.natAbs w (by omega)
  have e1 : IntKind.u64.wrap (-(IntKind.u64.wrap n)) = if n < 0 then (n.natAbs : Int) else IntKind.u64.wrap (-(IntKind.u64.wrap n)) := by
    split
    · rw [IntKind.wrap_u64, IntKind.wrap_u64]; omega
    · rfl
  go_enter Try.func167, Try.ntmps167
  by_cases hn : n < 0
  · rw [if_pos hn] at e1
    have e2 : (-(n % 18446744073709551616)) % 18446744073709551616 = (n.natAbs : Int) := by omega
    have e3 : (-n) % 18446744073709551616 = (n.natAbs : Int) := by omega
    go_wp2_with fail
    refine Calls.mono hO ?_
    rintro e w1 ⟨a1, c1, x1, rfl, rfl, o1, -, -⟩
    clear hO
    go_wp2
    go_ret
    exact RetOwn.of o1 (by repeat (first | exact Blw.refl _ | apply Blw.ext | apply Blw.alloc | apply Blw.drewN | apply Blw.drew | refine Blw.setCell ?_ _ _ (by simp)))
  · have e2 : n % 18446744073709551616 = (n.natAbs : Int) := by omega
    have e4 : IntKind.u64.wrap n = (n.natAbs : Int) := by rw [IntKind.wrap_u64]; omega
    go_wp2_with fail
    refine Calls.mono hO ?_
    rintro e w1 ⟨a1, c1, x1, rfl, rfl, o1, -, -⟩
    clear hO
    go_wp2
    go_ret
    exact RetOwn.of o1 (by repeat (first | exact Blw.refl _ | apply Blw.ext | apply Blw.alloc | apply Blw.drewN | apply Blw.drew | refine Blw.setCell ?_ _ _ (by simp)))

theorem pw_mono_any (a b : Nat) (h : a ≤ b) : W.pw a ≤ W.pw b := Nat.pow_le_pow_right (by decide) (by first | exact h | omega)
theorem u64_lt_pw {x : Nat} (h : x < 18446744073709551616) : x < W.pw 2048 :=
  Nat.lt_of_lt_of_le (show x < W.pw 2 by have : W.pw 2 = 18446744073709551616 := by decide
                                         omega) (pw_mono_any 2 2048 (by decide))

/-- n over d in its one form. -/
def smallF (n d : Int) : Fr :=
  ⟨(decide (n < 0) != decide (d < 0)) && decide (0 < (W.toW (n.natAbs / Nat.gcd n.natAbs d.natAbs)).length), W.toW (n.natAbs / Nat.gcd n.natAbs d.natAbs), W.toW (d.natAbs / Nat.gcd n.natAbs d.natAbs)⟩

theorem smallF_same {n d : Int} (h : decide (n < 0) = decide (d < 0)) : smallF n d = ⟨false, W.toW (n.natAbs / Nat.gcd n.natAbs d.natAbs), W.toW (d.natAbs / Nat.gcd n.natAbs d.natAbs)⟩ := by
  unfold smallF; rw [h]; simp
theorem smallF_diff {n d : Int} (h : decide (n < 0) = !decide (d < 0)) : smallF n d = ⟨decide (0 < (W.toW (n.natAbs / Nat.gcd n.natAbs d.natAbs)).length), W.toW (n.natAbs / Nat.gcd n.natAbs d.natAbs), W.toW (d.natAbs / Nat.gcd n.natAbs d.natAbs)⟩ := by
  unfold smallF; rw [h]; simp

set_option maxRecDepth 100000 in
set_option maxHeartbeats 4000000 in
theorem ratioSmall_any (n d : Int) (w : World) (n0 : -9223372036854775808 ≤ n) (n1 : n ≤ 9223372036854775807) (d0 : -9223372036854775808 ≤ d) (d1 : d ≤ 9223372036854775807) (hd : d ≠ 0) :
    Calls Try.prog 141 #[.int .i64 n, .int .i64 d] w (RetFr w (smallF n d) 0) := by
  have L := fun (neg : Bool) (a : Option Addr) (c : Nat) (b : Option Addr) (e : Nat) (W' : World) (h : Arr W' a (u32s (W.toW n.natAbs))) (k : Arr W' b (u32s (W.toW d.natAbs))) (hc : (W.toW n.natAbs).length ≤ c) (hcm : c ≤ 9223372036854775807) (ha : a = none → (W.toW n.natAbs).length = 0 ∧ c = 0) (he : (W.toW d.natAbs).length ≤ e) (hem : e ≤ 9223372036854775807) (hb : b = none → (W.toW d.natAbs).length = 0 ∧ e = 0) =>
    ratioLowest_any neg a b (W.toW n.natAbs) (W.toW d.natAbs) c e W' h k hc he hcm hem ha hb (W.wf_toW _) (W.wf_toW _) (W.nrm_toW _) (W.nrm_toW _)
      (Nat.le_trans (W.len_toW_le.2 (u64_lt_pw (by omega))) (by decide)) (Nat.le_trans (W.len_toW_le.2 (u64_lt_pw (by omega))) (by decide))
      (by
        rcases Nat.eq_zero_or_pos (W.toW d.natAbs).length with e | e
        · have := W.toW_nil.1 (List.eq_nil_of_length_eq_zero e); omega
        · exact e)
      (by rw [W.val_toW, W.val_toW]; exact u64_lt_pw (Nat.lt_of_le_of_lt (Nat.div_le_self _ _) (by omega)))
      (by rw [W.val_toW, W.val_toW]; exact u64_lt_pw (Nat.lt_of_le_of_lt (Nat.div_le_self _ _) (by omega)))
  simp only [W.val_toW] at L
  have HL := Lib.hid L
  clear L
  have q : (d == 0) = false := by simpa using hd
  have hF0 : (w.alloc (.cells #[.bool false, .slice none 0 0, .slice none 0 0] 88)).heap[w.heap.size]? = some (.cells #[.bool false, .slice none 0 0, .slice none 0 0] 88 (0, 0)) := heap_alloc_new _ _
  have hcs : (decide (n < 0) = false ∧ decide (d < 0) = false) ∨ (decide (n < 0) = true ∧ decide (d < 0) = true) ∨ (decide (n < 0) = false ∧ decide (d < 0) = true) ∨ (decide (n < 0) = true ∧ decide (d < 0) = false) := by
    cases decide (n < 0) <;> cases decide (d < 0) <;> simp
  rcases hcs with ⟨hn, hdd⟩ | ⟨hn, hdd⟩ | ⟨hn, hdd⟩ | ⟨hn, hdd⟩
  · go_enter Try.func141, Try.ntmps141
    go_wp2_with fail
    refine Calls.mono (ratioSize_any n _ n0 n1) ?_
    rintro e w1 ⟨a1, c1, x1, rfl, rfl, o1, -, -⟩
    go_wp2_with fail
    refine Calls.mono (ratioSize_any d _ d0 d1) ?_
    rintro e w1 ⟨a2, c2, x2, rfl, rfl, o2, -, -⟩
    obtain ⟨_, _, he, A1, -, k1, k2, k3⟩ := own_arr o1
    cases he
    obtain ⟨_, _, he, A2, -, j1, j2, j3⟩ := own_arr o2
    cases he
    go_wp2_with fail
    refine Calls.mono (HL.out _ a1 c1 a2 c2 _ (A1.ext x2) A2 k1 k2 k3 j1 j2 j3) ?_
    rintro e w5 ⟨p1, q1, p2, q2, rfl, hb5, oX, oY⟩
    have hF5 := (KeptO.of_blw (O := fun _ => False) ((((Blw.refl _).ext x1).ext x2).trans hb5)).heap hF0 id
    have hs5 : w.heap.size + 1 ≤ (((w.alloc (.cells #[.bool false, .slice none 0 0, .slice none 0 0] 88)).ext x1).ext x2).heap.size := Nat.le_trans (by simp) (Blw.size (((Blw.refl _).ext x1).ext x2))
    have hbw5 : Blw w w5 := Blw.trans (by repeat (first | exact Blw.refl _ | apply Blw.ext | apply Blw.alloc | apply Blw.drewN | apply Blw.drew | refine Blw.setCell ?_ _ _ (by simp))) hb5
    have oX5 := ownsRow_mono oX hs5
    have oY5 := ownsRow_mono oY hs5
    clear oX oY o1 o2 hb5 hs5 A1 A2 k3 j3 HL
    simp only at oX5 oY5
    obtain ⟨hfz, e0, e1, e2, r0, r1, r2⟩ := three hF5 (.bool (false)) (.slice p1 (W.toW (n.natAbs / Nat.gcd n.natAbs d.natAbs)).length q1) (.slice p2 (W.toW (d.natAbs / Nat.gcd n.natAbs d.natAbs)).length q2)
    have HSM := Lib.hid (smallF_same (n := n) (d := d) (by rw [hn, hdd]))
    generalize W.toW (n.natAbs / Nat.gcd n.natAbs d.natAbs) = nw at *
    generalize W.toW (d.natAbs / Nat.gcd n.natAbs d.natAbs) = dw at *
    go_wp2_with fail
    refine bodyPost_ret (v := .tuple #[.agg #[.bool (false), .slice p1 nw.length q1, .slice p2 dw.length q2], .int .i64 0]) (by simp [results, Try.results141, go_sem, r0, r1, r2]) rfl ?_
    rw [HSM.out]
    exact ⟨p1, q1, p2, q2, rfl, blw_three hbw5 (Nat.le_refl _) _ _ _, own_three oX5 (Nat.lt_succ_self _) _ _ _ |> (ownsRow_mono · (Nat.le_succ _)), own_three oY5 (Nat.lt_succ_self _) _ _ _ |> (ownsRow_mono · (Nat.le_succ _))⟩
  · go_enter Try.func141, Try.ntmps141
    go_wp2_with fail
    refine Calls.mono (ratioSize_any n _ n0 n1) ?_
    rintro e w1 ⟨a1, c1, x1, rfl, rfl, o1, -, -⟩
    go_wp2_with fail
    refine Calls.mono (ratioSize_any d _ d0 d1) ?_
    rintro e w1 ⟨a2, c2, x2, rfl, rfl, o2, -, -⟩
    obtain ⟨_, _, he, A1, -, k1, k2, k3⟩ := own_arr o1
    cases he
    obtain ⟨_, _, he, A2, -, j1, j2, j3⟩ := own_arr o2
    cases he
    go_wp2_with fail
    refine Calls.mono (HL.out _ a1 c1 a2 c2 _ (A1.ext x2) A2 k1 k2 k3 j1 j2 j3) ?_
    rintro e w5 ⟨p1, q1, p2, q2, rfl, hb5, oX, oY⟩
    have hF5 := (KeptO.of_blw (O := fun _ => False) ((((Blw.refl _).ext x1).ext x2).trans hb5)).heap hF0 id
    have hs5 : w.heap.size + 1 ≤ (((w.alloc (.cells #[.bool false, .slice none 0 0, .slice none 0 0] 88)).ext x1).ext x2).heap.size := Nat.le_trans (by simp) (Blw.size (((Blw.refl _).ext x1).ext x2))
    have hbw5 : Blw w w5 := Blw.trans (by repeat (first | exact Blw.refl _ | apply Blw.ext | apply Blw.alloc | apply Blw.drewN | apply Blw.drew | refine Blw.setCell ?_ _ _ (by simp))) hb5
    have oX5 := ownsRow_mono oX hs5
    have oY5 := ownsRow_mono oY hs5
    clear oX oY o1 o2 hb5 hs5 A1 A2 k3 j3 HL
    simp only at oX5 oY5
    obtain ⟨hfz, e0, e1, e2, r0, r1, r2⟩ := three hF5 (.bool (false)) (.slice p1 (W.toW (n.natAbs / Nat.gcd n.natAbs d.natAbs)).length q1) (.slice p2 (W.toW (d.natAbs / Nat.gcd n.natAbs d.natAbs)).length q2)
    have HSM := Lib.hid (smallF_same (n := n) (d := d) (by rw [hn, hdd]))
    generalize W.toW (n.natAbs / Nat.gcd n.natAbs d.natAbs) = nw at *
    generalize W.toW (d.natAbs / Nat.gcd n.natAbs d.natAbs) = dw at *
    go_wp2_with fail
    refine bodyPost_ret (v := .tuple #[.agg #[.bool (false), .slice p1 nw.length q1, .slice p2 dw.length q2], .int .i64 0]) (by simp [results, Try.results141, go_sem, r0, r1, r2]) rfl ?_
    rw [HSM.out]
    exact ⟨p1, q1, p2, q2, rfl, blw_three hbw5 (Nat.le_refl _) _ _ _, own_three oX5 (Nat.lt_succ_self _) _ _ _ |> (ownsRow_mono · (Nat.le_succ _)), own_three oY5 (Nat.lt_succ_self _) _ _ _ |> (ownsRow_mono · (Nat.le_succ _))⟩
  · go_enter Try.func141, Try.ntmps141
    go_wp2_with fail
    refine Calls.mono (ratioSize_any n _ n0 n1) ?_
    rintro e w1 ⟨a1, c1, x1, rfl, rfl, o1, -, -⟩
    go_wp2_with fail
    refine Calls.mono (ratioSize_any d _ d0 d1) ?_
    rintro e w1 ⟨a2, c2, x2, rfl, rfl, o2, -, -⟩
    obtain ⟨_, _, he, A1, -, k1, k2, k3⟩ := own_arr o1
    cases he
    obtain ⟨_, _, he, A2, -, j1, j2, j3⟩ := own_arr o2
    cases he
    go_wp2_with fail
    refine Calls.mono (HL.out _ a1 c1 a2 c2 _ (A1.ext x2) A2 k1 k2 k3 j1 j2 j3) ?_
    rintro e w5 ⟨p1, q1, p2, q2, rfl, hb5, oX, oY⟩
    have hF5 := (KeptO.of_blw (O := fun _ => False) ((((Blw.refl _).ext x1).ext x2).trans hb5)).heap hF0 id
    have hs5 : w.heap.size + 1 ≤ (((w.alloc (.cells #[.bool false, .slice none 0 0, .slice none 0 0] 88)).ext x1).ext x2).heap.size := Nat.le_trans (by simp) (Blw.size (((Blw.refl _).ext x1).ext x2))
    have hbw5 : Blw w w5 := Blw.trans (by repeat (first | exact Blw.refl _ | apply Blw.ext | apply Blw.alloc | apply Blw.drewN | apply Blw.drew | refine Blw.setCell ?_ _ _ (by simp))) hb5
    have oX5 := ownsRow_mono oX hs5
    have oY5 := ownsRow_mono oY hs5
    clear oX oY o1 o2 hb5 hs5 A1 A2 k3 j3 HL
    simp only at oX5 oY5
    obtain ⟨hfz, e0, e1, e2, r0, r1, r2⟩ := three hF5 (.bool (decide (0 < (W.toW (n.natAbs / Nat.gcd n.natAbs d.natAbs)).length))) (.slice p1 (W.toW (n.natAbs / Nat.gcd n.natAbs d.natAbs)).length q1) (.slice p2 (W.toW (d.natAbs / Nat.gcd n.natAbs d.natAbs)).length q2)
    have HSM := Lib.hid (smallF_diff (n := n) (d := d) (by rw [hn, hdd]; rfl))
    generalize W.toW (n.natAbs / Nat.gcd n.natAbs d.natAbs) = nw at *
    generalize W.toW (d.natAbs / Nat.gcd n.natAbs d.natAbs) = dw at *
    go_wp2_with fail
    refine bodyPost_ret (v := .tuple #[.agg #[.bool (decide (0 < nw.length)), .slice p1 nw.length q1, .slice p2 dw.length q2], .int .i64 0]) (by simp [results, Try.results141, go_sem, r0, r1, r2]) rfl ?_
    rw [HSM.out]
    exact ⟨p1, q1, p2, q2, rfl, blw_three hbw5 (Nat.le_refl _) _ _ _, own_three oX5 (Nat.lt_succ_self _) _ _ _ |> (ownsRow_mono · (Nat.le_succ _)), own_three oY5 (Nat.lt_succ_self _) _ _ _ |> (ownsRow_mono · (Nat.le_succ _))⟩
  · go_enter Try.func141, Try.ntmps141
    go_wp2_with fail
    refine Calls.mono (ratioSize_any n _ n0 n1) ?_
    rintro e w1 ⟨a1, c1, x1, rfl, rfl, o1, -, -⟩
    go_wp2_with fail
    refine Calls.mono (ratioSize_any d _ d0 d1) ?_
    rintro e w1 ⟨a2, c2, x2, rfl, rfl, o2, -, -⟩
    obtain ⟨_, _, he, A1, -, k1, k2, k3⟩ := own_arr o1
    cases he
    obtain ⟨_, _, he, A2, -, j1, j2, j3⟩ := own_arr o2
    cases he
    go_wp2_with fail
    refine Calls.mono (HL.out _ a1 c1 a2 c2 _ (A1.ext x2) A2 k1 k2 k3 j1 j2 j3) ?_
    rintro e w5 ⟨p1, q1, p2, q2, rfl, hb5, oX, oY⟩
    have hF5 := (KeptO.of_blw (O := fun _ => False) ((((Blw.refl _).ext x1).ext x2).trans hb5)).heap hF0 id
    have hs5 : w.heap.size + 1 ≤ (((w.alloc (.cells #[.bool false, .slice none 0 0, .slice none 0 0] 88)).ext x1).ext x2).heap.size := Nat.le_trans (by simp) (Blw.size (((Blw.refl _).ext x1).ext x2))
    have hbw5 : Blw w w5 := Blw.trans (by repeat (first | exact Blw.refl _ | apply Blw.ext | apply Blw.alloc | apply Blw.drewN | apply Blw.drew | refine Blw.setCell ?_ _ _ (by simp))) hb5
    have oX5 := ownsRow_mono oX hs5
    have oY5 := ownsRow_mono oY hs5
    clear oX oY o1 o2 hb5 hs5 A1 A2 k3 j3 HL
    simp only at oX5 oY5
    obtain ⟨hfz, e0, e1, e2, r0, r1, r2⟩ := three hF5 (.bool (decide (0 < (W.toW (n.natAbs / Nat.gcd n.natAbs d.natAbs)).length))) (.slice p1 (W.toW (n.natAbs / Nat.gcd n.natAbs d.natAbs)).length q1) (.slice p2 (W.toW (d.natAbs / Nat.gcd n.natAbs d.natAbs)).length q2)
    have HSM := Lib.hid (smallF_diff (n := n) (d := d) (by rw [hn, hdd]; rfl))
    generalize W.toW (n.natAbs / Nat.gcd n.natAbs d.natAbs) = nw at *
    generalize W.toW (d.natAbs / Nat.gcd n.natAbs d.natAbs) = dw at *
    go_wp2_with fail
    refine bodyPost_ret (v := .tuple #[.agg #[.bool (decide (0 < nw.length)), .slice p1 nw.length q1, .slice p2 dw.length q2], .int .i64 0]) (by simp [results, Try.results141, go_sem, r0, r1, r2]) rfl ?_
    rw [HSM.out]
    exact ⟨p1, q1, p2, q2, rfl, blw_three hbw5 (Nat.le_refl _) _ _ _, own_three oX5 (Nat.lt_succ_self _) _ _ _ |> (ownsRow_mono · (Nat.le_succ _)), own_three oY5 (Nat.lt_succ_self _) _ _ _ |> (ownsRow_mono · (Nat.le_succ _))⟩
end Go.Proofs.Ytigkfdoeneemeaa
/- The fraction that a double is, plain. -/
namespace Go.Proofs.Ytigkfdoeneemeaa
open Go Ieee

/-- r is the fraction that the finite double x is. -/
structure ExF (x : Nat) (r : Fr) : Prop where
  neg : r.neg = decide (Fl.Sv x < 0)
  ok : r.Ok
  wn : W.WF r.num
  wd : W.WF r.den
  val : ∀ K, K = 1074 → W.val r.num * 2 ^ K = Fl.V x * W.val r.den
theorem frac_eq {a b c d : Nat} (h1 : Nat.gcd a b = 1) (h2 : Nat.gcd c d = 1) (h : a * d = c * b) (hb : 0 < b) : a = c ∧ b = d := by
  have d1 : b ∣ d := by
    have : b ∣ a * d := ⟨c, by rw [h, Nat.mul_comm]⟩
    exact (Nat.Coprime.symm h1).dvd_of_dvd_mul_left this
  have d2 : d ∣ b := by
    have : d ∣ c * b := ⟨a, by rw [← h, Nat.mul_comm]⟩
    exact (Nat.Coprime.symm h2).dvd_of_dvd_mul_left this
  have e : b = d := Nat.dvd_antisymm d1 d2
  subst e
  exact ⟨Nat.eq_of_mul_eq_mul_right hb h, rfl⟩
/-- Two fractions in their one form, of one sign and value, are one. -/
theorem Fr.Ok.same {r s : Fr} (hr : r.Ok) (hs : s.Ok) (wr1 : W.WF r.num) (wr2 : W.WF r.den) (ws1 : W.WF s.num) (ws2 : W.WF s.den) (hn : r.neg = s.neg) (h : W.val r.num * W.val s.den = W.val s.num * W.val r.den) : r = s := by
  obtain ⟨rn, rnum, rden⟩ := r
  obtain ⟨sn, snum, sden⟩ := s
  simp only at *
  have hp : 0 < W.val rden := W.val_pos hr.nd (by intro e; have := hr.d0; simp only at this; rw [e] at this; simp at this)
  obtain ⟨e1, e2⟩ := frac_eq hr.g hs.g h hp
  rw [hn, W.val_inj wr1 hr.nn ws1 hs.nn e1, W.val_inj wr2 hr.nd ws2 hs.nd e2]
theorem ExF.uniq {x : Nat} {r s : Fr} (h : ExF x r) (k : ExF x s) : r = s := by
  refine h.ok.same k.ok h.wn h.wd k.wn k.wd (h.neg.trans k.neg.symm) ?_
  obtain ⟨K, hK⟩ : ∃ K, K = 1074 := ⟨_, rfl⟩
  have h1 := h.val K hK
  have h2 := k.val K hK
  refine Nat.eq_of_mul_eq_mul_right (Nat.two_pow_pos K) ?_
  rw [Nat.mul_right_comm (W.val r.num), h1, Nat.mul_right_comm (W.val s.num), h2]
  ac_rfl

namespace Fl
theorem mag_lt (x : Nat) : mag x < 2 ^ 53 := by
  unfold mag; split <;> omega
theorem plc_lt {x : Nat} (h : isFin x = true) : plc x ≤ 2045 := by
  have : x % 2 ^ 63 < infR := by simpa [isFin] using h
  unfold infR at this
  unfold plc; omega
theorem Sv_neg (x : Nat) : decide (Sv x < 0) = (fneg x && decide (mag x ≠ 0)) := by
  unfold Sv V
  have hp := Nat.two_pow_pos (plc x)
  by_cases m0 : mag x = 0
  · rw [m0]; cases fneg x <;> simp
  · have h1 : 0 < mag x * 2 ^ plc x := Nat.mul_pos (by omega) hp
    generalize mag x * 2 ^ plc x = P at *
    cases fneg x
    · simp only [Bool.false_eq_true, if_false, Bool.false_and, decide_eq_false_iff_not]; omega
    · simp only [if_true, Bool.true_and]
      exact decide_eq_decide.2 ⟨fun _ => m0, fun _ => by omega⟩
/-- x < 0. -/
theorem lt_zero {x : Nat} (h : isFin x = true) : (ord x 0 == some .lt) = decide (Sv x < 0) := by
  rw [ord_fin h (by decide)]
  have e : Sv 0 = 0 := by decide
  rw [e]
  by_cases c : Sv x < 0
  · have : compare (Sv x) 0 = .lt := by simp only [compare, compareOfLessAndEq, if_pos c]
    rw [this]; simpa using c
  · have : compare (Sv x) 0 ≠ .lt := by
      simp only [compare, compareOfLessAndEq, if_neg c]; split <;> simp
    rw [Bool.eq_iff_iff]; simp [this, c]
end Fl
theorem toW_len_pow {m q k : Nat} (hm : m < 2 ^ 64) (h : 64 + q ≤ 32 * k) : (W.toW (m * 2 ^ q)).length ≤ k := by
  rw [W.len_toW_le, W.pw_two]
  refine Nat.lt_of_lt_of_le (Nat.mul_lt_mul_of_pos_right hm (Nat.two_pow_pos q)) ?_
  rw [← Nat.pow_add]
  exact Nat.pow_le_pow_right (by omega) h
theorem odd_gcd {m q : Nat} (h : m % 2 = 1) : Nat.gcd m (2 ^ q) = 1 := by
  have : Nat.Coprime m 2 := by
    show Nat.gcd m 2 = 1
    have h1 : Nat.gcd m 2 ∣ 2 := Nat.gcd_dvd_right _ _
    have h2 : Nat.gcd m 2 ∣ m := Nat.gcd_dvd_left _ _
    have h3 : Nat.gcd m 2 ≤ 2 := Nat.le_of_dvd (by omega) h1
    have h4 : Nat.gcd m 2 ≠ 0 := by intro e; rw [e] at h1; omega
    rcases (by omega : Nat.gcd m 2 = 1 ∨ Nat.gcd m 2 = 2) with e | e
    · exact e
    · rw [e] at h2; omega
  exact Nat.Coprime.pow_right q this
theorem pos_len {n : Nat} (h : 0 < n) : 0 < (W.toW n).length := by
  rcases Nat.eq_zero_or_pos (W.toW n).length with e | e
  · have := W.toW_nil.1 (List.eq_nil_of_length_eq_zero e); omega
  · exact e
theorem nrm_one : W.Nrm [1] := by unfold W.Nrm; simp
theorem exF_zero {x : Nat} (h : Fl.mag x = 0) : ExF x ⟨false, [], [1]⟩ := by
  refine ⟨?_, ⟨Nat.zero_le _, by show (1 : Nat) ≤ 2048; omega, W.nrm_nil, nrm_one, Nat.one_pos, fun _ => rfl, rfl⟩, W.WF.nil, fun y hy => by simp at hy; omega, ?_⟩
  · rw [Fl.Sv_neg, h]; simp
  · intro K _
    unfold Fl.V
    rw [h]; simp [W.val]
/-- Where the place is below the point. -/
theorem exF_low {x m t q : Nat} (hm : m * 2 ^ t = Fl.mag x) (h0 : 0 < m) (h64 : m < 2 ^ 64) (ho : m % 2 = 1) (hq : t + Fl.plc x + q = 1074) : ExF x ⟨decide (Fl.Sv x < 0), W.toW m, W.toW (2 ^ q)⟩ := by
  have lm : (W.toW m).length ≤ 2 := by have := toW_len_pow (q := 0) (k := 2) h64 (by omega); simpa using this
  have lq : (W.toW (2 ^ q)).length ≤ 40 := by have := toW_len_pow (m := 1) (q := q) (k := 40) (by decide) (by omega); simpa using this
  have hp := Nat.two_pow_pos q
  refine ⟨rfl, ⟨by show (W.toW m).length ≤ _; omega, by show (W.toW (2 ^ q)).length ≤ _; omega, W.nrm_toW _, W.nrm_toW _, pos_len hp, fun h => absurd h (by have := pos_len h0; show ¬ (W.toW m).length = 0; omega), by rw [W.val_toW, W.val_toW]; exact odd_gcd ho⟩, W.wf_toW _, W.wf_toW _, ?_⟩
  intro K hK
  show W.val (W.toW m) * 2 ^ K = Fl.V x * W.val (W.toW (2 ^ q))
  rw [W.val_toW, W.val_toW]
  unfold Fl.V
  rw [← hm, show K = t + Fl.plc x + q by omega, Nat.pow_add, Nat.pow_add]
  ac_rfl
/-- Where it is not. -/
theorem exF_high {x m t q : Nat} (hm : m * 2 ^ t = Fl.mag x) (h0 : 0 < m) (h64 : m < 2 ^ 64) (hq : t + Fl.plc x = q + 1074) (hq2 : q ≤ 1000) : ExF x ⟨decide (Fl.Sv x < 0), W.toW (m * 2 ^ q), [1]⟩ := by
  have lm : (W.toW (m * 2 ^ q)).length ≤ 40 := toW_len_pow h64 (by omega)
  have hp : 0 < m * 2 ^ q := Nat.mul_pos h0 (Nat.two_pow_pos q)
  refine ⟨rfl, ⟨by show (W.toW (m * 2 ^ q)).length ≤ _; omega, by show (1 : Nat) ≤ 2048; omega, W.nrm_toW _, nrm_one, Nat.one_pos, fun h => absurd h (by have := pos_len hp; show ¬ (W.toW (m * 2 ^ q)).length = 0; omega), by show Nat.gcd _ (W.val [1]) = 1; simp [W.val]⟩, W.wf_toW _, fun y hy => by simp at hy; omega, ?_⟩
  intro K hK
  show W.val (W.toW (m * 2 ^ q)) * 2 ^ K = Fl.V x * W.val [1]
  rw [W.val_toW]
  unfold Fl.V
  have : W.val [1] = 1 := by decide
  rw [this, Nat.mul_one, ← hm, Nat.mul_assoc, Nat.mul_assoc, ← Nat.pow_add, ← Nat.pow_add, hq, hK]
end Go.Proofs.Ytigkfdoeneemeaa
/- nat.Shift upwards. -/
namespace Go.Proofs.Ytigkfdoeneemeaa
open Go.RowKit

/-- make([]uint32, n, m): n words of nought of the call's own, with room for m. -/
theorem wpList_words_cap (w : World) {ops : Array Oper} {rest : List Oper} {o : Oper} {a : Act} {Q : Exit → Act → World → Prop}
    (hg : o.guard = none) (l c : Operand) (hop : o.op = Op.makeSlice 86 l c)
    (kl kc : IntKind) (L C : Int) (n m : Nat) (hl : a.eval l = .int kl L) (hc : a.eval c = .int kc C) (hL : L = (n : Int)) (hC : C = (m : Int)) (hnm : n ≤ m) (h63 : m ≤ 1099511627776)
    (hK : ∀ w', w'.ownsRow w.heap.size 135 1 (.slice (some ⟨w.heap.size, 0, none⟩) n m) n (u32s (List.replicate n 0)) → Blw w w' → wpList Try.prog ops Q rest (a.put o.dst (.slice (some ⟨w.heap.size, 0, none⟩) n m)) w') :
    wpList Try.prog ops Q (o :: rest) a w := by
  subst hL hC
  obtain ⟨i, hi, hz0, hz1, hz2⟩ := info_parts sl_words.info
  refine wpList_plain hg fun K hK' => ?_
  have hrun := run_make (P := Try.prog) (w := w) 86 135 i _ sl_words.under hi hz0 kl kc n m (by omega) (by omega) (by rw [hz2]; omega) (by omega)
  simp only [Int.toNat_natCast, hz1, Nat.mul_one] at hrun
  unfold Oper.wp
  simp [execOp, hop, hl, hc, hrun, Result.andThen]
  refine hK' _ _ (hK _ ?_ ((Blw.refl w).alloc _))
  have e : List.replicate m 0 = [] ++ List.replicate n 0 ++ List.replicate (m - n) 0 := by
    rw [List.nil_append, List.replicate_append_replicate, show n + (m - n) = m by omega]
  have hb := Bk.new w (List.replicate m 0)
  have hw := Bk.split (a := []) (l := List.replicate n 0) (b := List.replicate (m - n) 0) (by rw [← e]; exact hb)
  have ho := hw.own (B := w.heap.size) (Nat.le_refl _) (by simp; unfold maxLen; omega)
  change (w.alloc (.cells (madeCells #[.int .u32 0] m) 135)).ownsRow _ _ _ _ _ _
  rw [made_words]
  have e2 : (List.replicate n 0).length + (u32s (List.replicate (m - n) 0)).length = m := by simp; omega
  rw [e2, List.length_replicate] at ho
  exact ho

set_option maxRecDepth 100000 in
set_option maxHeartbeats 1000000 in
theorem natShift_up (a : Option Addr) (l : List Nat) (cap n : Nat) (w : World) (h : Arr w a (u32s l)) (hc : l.length ≤ cap) (hcm : cap ≤ 9223372036854775807) (wl : W.WF l) (nl : W.Nrm l) (hl : l.length ≤ 4096) (hn : n ≤ 131000) :
    Calls Try.prog 183 #[.slice a l.length cap, .int .i64 n] w (RetOk w (W.val l * 2 ^ n)) := by
  have c1 := chk_zero (l := l) (by omega) nl
  have hck := natCheck_any a l cap w h (by omega)
  rw [c1] at hck
  by_cases h0 : l.length = 0
  · have l0 : l = [] := List.eq_nil_of_length_eq_zero h0
    subst l0
    have post : RetOk w (W.val [] * 2 ^ n) (.returned (.tuple #[.slice none 0 0, .int .i64 0])) w := by
      rw [W.val, Nat.zero_mul]
      refine ⟨none, 0, ?_, Blw.refl w, ?_⟩
      · rw [W.toW_zero]; rfl
      · rw [W.toW_zero]; exact World.ownsRow_nil _ _ _ _
    have hp := Lib.hid post
    clear post
    go_enter Try.func183, Try.ntmps183
    go_wp2_with fail
    refine Calls.mono hck ?_
    rintro e w' ⟨rfl, rfl⟩
    go_wp2
    go_ret2
    exact hp.out
  · go_enter Try.func183, Try.ntmps183
    go_wp2_with fail
    refine Calls.mono hck ?_
    rintro e w' ⟨rfl, rfl⟩
    have hbl := W.bl_words wl (x := l.getLast (by intro h; exact h0 (by rw [h]; rfl))) (List.getLast?_eq_some_getLast _) (fun e => nl (by rw [List.getLast?_eq_some_getLast (by intro h; exact h0 (by rw [h]; rfl)), e]))
    have hb32 : W.bl (l.getLast (by intro h; exact h0 (by rw [h]; rfl))) ≤ 32 := W.bl_le32 (wl _ (List.getLast_mem _))
    have hbits := natBits_any a l cap w' h hc hcm (by omega) wl
    generalize W.bl (W.val l) = bl at *
    have bl2 : bl ≤ 131072 := by omega
    clear hbl hb32
    have q : decide (262144 < (bl : Int) + (n : Int)) = false := by simp; omega
    go_wp2_with fail
    refine Calls.mono hbits ?_
    rintro e wB ⟨rfl, rfl⟩
    clear hbits hck
    obtain ⟨k, ek⟩ : ∃ k, n / 32 = k := ⟨_, rfl⟩
    obtain ⟨s, es⟩ : ∃ s, n % 32 = s := ⟨_, rfl⟩
    have ek' : Int.tdiv (n : Int) 32 = (k : Int) := by rw [← ek]; rfl
    have es' : Int.tmod (n : Int) 32 = (s : Int) := by rw [← es]; rfl
    have hs : s < 32 := by omega
    have hk : k ≤ 4094 := by omega
    have hn2 : n = 32 * k + s := by omega
    have HN := Lib.hid hn2
    clear ek es hn2
    go_wp2_with (refine wpList_words_cap _ rfl _ _ rfl .i64 .i64 _ _ k (k + l.length + 1) rfl rfl rfl (by omega) (by omega) (by omega) ?_; intro w1 hown1 hb1)
    refine Calls.mono (natUp_any a l cap s w1 (h.blw hb1) (by omega) wl hs) ?_
    rintro e w2 ⟨rfl, ds, hbk, hdl, hdw, hdv, hb2⟩
    have HDL := Lib.hid hdl
    have HDV := Lib.hid hdv
    clear hdl hdv
    go_wp2_with (at_builtin; refine wpList_app wB _ rfl _ _ 86 rfl sl_words (hb1.trans hb2) _ k _ rfl (ownsRow_blw hown1 hb2) (some ⟨w1.heap.size, 0, none⟩) (l.length + 1) _ (u32s ds) rfl (fun h => by cases h) hbk.arr (by rw [List.length_map, HDL.out, Nat.mul_one]) (u32s_one _) (by unfold maxLen; omega) (by omega) ?_; intro v3 w3 hown3 hb3 hg3 hn3)
    obtain ⟨a3, c3, rfl, har3, -, hn3c, hc3, -⟩ := own_arr hown3
    have e3 : u32s (List.replicate k 0) ++ u32s ds = u32s (List.replicate k 0 ++ ds) := by rw [← List.map_append]
    have l3 : (List.replicate k 0 ++ ds).length = k + (l.length + 1) := by rw [List.length_append, List.length_replicate, HDL.out]
    have w3f : W.WF (List.replicate k 0 ++ ds) := (W.WF.rep k).app hdw
    have v3 : W.val (List.replicate k 0 ++ ds) = W.val l * 2 ^ n := by
      rw [W.val_app, W.val_rep, Nat.zero_add, List.length_replicate, HDV.out, W.pw_two, HN.out, Nat.pow_add]
      rw [Nat.mul_left_comm]
    rw [e3] at har3 hown3
    have hle : (W.toW (W.val (List.replicate k 0 ++ ds))).length ≤ 8192 := Nat.le_trans (W.toW_len_le w3f) (by omega)
    have ht := natTold_any a3 (List.replicate k 0 ++ ds) c3 w3 har3 (by omega) (by unfold maxLen at hc3; omega) (by omega) w3f
    have hcut : w3.ownsRow wB.heap.size 135 1 (.slice a3 (W.toW (W.val (List.replicate k 0 ++ ds))).length c3) (W.toW (W.val (List.replicate k 0 ++ ds))).length (u32s (W.toW (W.val (List.replicate k 0 ++ ds)))) := own_cut (by rw [l3]; exact hown3) w3f
    rw [if_neg (by omega), l3] at ht
    rw [v3] at ht hcut
    have HT := Lib.hid ht
    have HCUT := Lib.hid hcut
    clear ht hcut hown3 har3 e3 l3 v3 hle hg3 hn3 hown1 hbk
    go_wp2_with fail
    refine Calls.mono HT.out ?_
    rintro e w4 ⟨rfl, rfl⟩
    go_wp2
    go_ret2
    exact ⟨a3, c3, rfl, hb3, HCUT.out⟩
end Go.Proofs.Ytigkfdoeneemeaa
/- The bodyless functions of package math that the program calls: what each call runs to. -/
namespace Go.Proofs.Ytigkfdoeneemeaa
open Go.RowKit

@[go_sem] theorem call_frombits (n : Int) (w : World) : (callFunc 15 #[.int .u64 n]).run Try.prog w = .ok (.value (.float .f64 n.toNat)) w := by
  rw [run_callFunc_extern (fn := Try.f15) (e := Extern.MathFloatBits.float64frombits) (by kernel_rfl) (by kernel_rfl) (by kernel_rfl) (by kernel_rfl) (by kernel_rfl)]; rfl
@[go_sem] theorem call_bits (n : Nat) (w : World) : (callFunc 107 #[.float .f64 n]).run Try.prog w = .ok (.value (.int .u64 n)) w := by
  rw [run_callFunc_extern (fn := Try.f107) (e := Extern.MathFloatBits.float64bits) (by kernel_rfl) (by kernel_rfl) (by kernel_rfl) (by kernel_rfl) (by kernel_rfl)]; rfl
end Go.Proofs.Ytigkfdoeneemeaa
/- Walks of the small functions on one float: which are finite, sizes. -/
namespace Go.Proofs.Ytigkfdoeneemeaa
open Go.RowKit

theorem ret_bool {a b : Bool} (h : a = b) : Ending.returned (.bool a) = .returned (.bool b) := by rw [h]
theorem ret_float {a b : Nat} (h : a = b) : Ending.returned (.float .f64 a) = .returned (.float .f64 b) := by rw [h]

set_option maxHeartbeats 400000 in
theorem abs_any (x : Nat) (w : World) (hx : x < 2 ^ 64) :
    Calls Try.prog 63 #[.float .f64 x] w fun e w' => e = .returned (.float .f64 (x % 2 ^ 63)) ∧ w' = w := by
  go_enter Try.func63, Try.ntmps63
  go_wp2
  go_ret
  exact ⟨ret_float (Fl.bits_abs x hx), rfl⟩

set_option maxHeartbeats 400000 in
theorem isNaN_any (x : Nat) (w : World) :
    Calls Try.prog 142 #[.float .f64 x] w fun e w' => e = .returned (.bool (Fl.isNaN x)) ∧ w' = w := by
  go_enter Try.func142, Try.ntmps142
  go_wp2
  go_ret
  exact ⟨ret_bool (Fl.ord_self_ne x), rfl⟩

set_option maxHeartbeats 400000 in
theorem isInf_any (x : Nat) (w : World) (hx : x < 2 ^ 64) :
    Calls Try.prog 64 #[.float .f64 x, .int .i64 0] w fun e w' => e = .returned (.bool (Fl.isInf x)) ∧ w' = w := by
  go_enter Try.func64, Try.ntmps64
  go_wp2_with (go_at_call 63; refine (abs_any _ _ hx).mono ?_; rintro e w' ⟨rfl, rfl⟩)
  go_ret
  exact ⟨ret_bool ((Fl.ord_max (Nat.mod_lt _ (by decide))).trans (Fl.isInf_mod x)), rfl⟩

set_option maxHeartbeats 400000 in
theorem realFinite_any (x : Nat) (w : World) (hx : x < 2 ^ 64) :
    Calls Try.prog 94 #[.float .f64 x] w fun e w' => e = .returned (.bool (Fl.isFin x)) ∧ w' = w := by
  go_enter Try.func94, Try.ntmps94
  cases hn : Fl.isNaN x
  all_goals
    go_wp2_with (first | (go_at_call 142; refine (isNaN_any _ _).mono ?_; rintro e w' ⟨rfl, rfl⟩) | (go_at_call 64; refine (isInf_any _ _ hx).mono ?_; rintro e w' ⟨rfl, rfl⟩))
    go_ret
    exact ⟨ret_bool (by rw [Fl.fin_not, hn]; simp), rfl⟩

set_option maxHeartbeats 400000 in
theorem alarmFinite_any (x : Nat) (w : World) (hx : x < 2 ^ 64) :
    Calls Try.prog 100 #[.float .f64 x] w fun e w' => e = .returned (.bool (Fl.isFin x)) ∧ w' = w := by
  go_enter Try.func100, Try.ntmps100
  cases hn : Fl.isInf x
  all_goals
    go_wp2_with (first | (go_at_call 142; refine (isNaN_any _ _).mono ?_; rintro e w' ⟨rfl, rfl⟩) | (go_at_call 64; refine (isInf_any _ _ hx).mono ?_; rintro e w' ⟨rfl, rfl⟩))
    go_ret
    exact ⟨ret_bool (by rw [Fl.fin_not, hn]; simp), rfl⟩

set_option maxHeartbeats 400000 in
theorem partsFinite_any (x : Nat) (w : World) (hx : x < 2 ^ 64) :
    Calls Try.prog 113 #[.float .f64 x] w fun e w' => e = .returned (.bool (Fl.isFin x)) ∧ w' = w := by
  go_enter Try.func113, Try.ntmps113
  cases hn : Fl.isInf x
  all_goals
    go_wp2_with (first | (go_at_call 64; refine (isInf_any _ _ hx).mono ?_; rintro e w' ⟨rfl, rfl⟩))
    go_ret
    exact ⟨ret_bool (by rw [Fl.fin_not, hn]; simp; try exact Fl.ord_self_eq x), rfl⟩

set_option maxHeartbeats 400000 in
theorem ref06Finite_any (x : Nat) (w : World) :
    Calls Try.prog 95 #[.float .f64 x] w fun e w' => e = .returned (.bool (Fl.isFin x)) ∧ w' = w := by
  go_enter Try.func95, Try.ntmps95
  go_wp2
  go_ret
  exact ⟨ret_bool (Fl.bits_fin x), rfl⟩

set_option maxHeartbeats 400000 in
theorem ref07Finite_any (x : Nat) (w : World) :
    Calls Try.prog 114 #[.float .f64 x] w fun e w' => e = .returned (.bool (Fl.isFin x)) ∧ ∃ n, w' = w.drewN n := by
  go_enter Try.func114, Try.ntmps114
  go_wp2
  go_ret
  exact ⟨ret_bool (Fl.sub_self_ord x w), _, rfl⟩

set_option maxHeartbeats 400000 in
theorem ref29Finite_any (x : Nat) (w : World) :
    Calls Try.prog 104 #[.float .f64 x] w fun e w' => e = .returned (.bool (Fl.isFin x)) ∧ ∃ n, w' = w.drewN n := by
  go_enter Try.func104, Try.ntmps104
  go_wp2
  go_ret
  exact ⟨ret_bool (Fl.sub_self_ord x w), _, rfl⟩
end Go.Proofs.Ytigkfdoeneemeaa
/- real.taken, shifted, Exact. -/
namespace Go.Proofs.Ytigkfdoeneemeaa
open Go.RowKit

namespace Fl
theorem and_mask (x : Nat) (hx : x < 2 ^ 64) : bits .and .u64 (x : Int) 4503599627370495 = ((x % 2 ^ 52 : Nat) : Int) := by
  unfold bits
  show IntKind.u64.wrap ((BitVec.ofInt 64 (x : Int) &&& BitVec.ofInt 64 4503599627370495).toNat : Int) = _
  have ha : (BitVec.ofInt 64 (x : Int)).toNat = x := by rw [BitVec.ofInt_natCast, BitVec.toNat_ofNat]; omega
  have hc : (BitVec.ofInt 64 4503599627370495).toNat = 2 ^ 52 - 1 := by decide
  rw [BitVec.toNat_and, ha, hc, Nat.and_two_pow_sub_one_eq_mod]
  simp only [IntKind.wrap, IntKind.bits, IntKind.signed]
  simp; omega
theorem and_exp (x : Nat) (hx : x < 2 ^ 64) : bits .and .u64 ((x : Int) / 4503599627370496) 2047 = ((x / 2 ^ 52 % 2048 : Nat) : Int) := by
  unfold bits
  have ha : (BitVec.ofInt 64 ((x : Int) / 4503599627370496)).toNat = x / 2 ^ 52 := by
    have : ((x : Int) / 4503599627370496) = ((x / 2 ^ 52 : Nat) : Int) := by omega
    rw [this, BitVec.ofInt_natCast, BitVec.toNat_ofNat]; omega
  show IntKind.u64.wrap ((BitVec.ofInt 64 ((x : Int) / 4503599627370496) &&& BitVec.ofInt 64 2047).toNat : Int) = _
  have hc : (BitVec.ofInt 64 2047).toNat = 2 ^ 11 - 1 := by decide
  rw [BitVec.toNat_and, ha, hc, Nat.and_two_pow_sub_one_eq_mod]
  simp only [IntKind.wrap, IntKind.bits, IntKind.signed]
  simp; omega
theorem or_hidden (m : Nat) (hm : m < 2 ^ 52) : bits .or .u64 (m : Int) 4503599627370496 = ((2 ^ 52 + m : Nat) : Int) := by
  unfold bits
  show IntKind.u64.wrap ((BitVec.ofInt 64 (m : Int) ||| BitVec.ofInt 64 4503599627370496).toNat : Int) = _
  have ha : (BitVec.ofInt 64 (m : Int)).toNat = m := by rw [BitVec.ofInt_natCast, BitVec.toNat_ofNat]; omega
  have hc : (BitVec.ofInt 64 4503599627370496).toNat = 2 ^ 52 := by decide
  have h2 := Nat.two_pow_add_eq_or_of_lt hm 1
  rw [Nat.mul_one] at h2
  rw [BitVec.toNat_or, ha, hc, Nat.or_comm, ← h2]
  simp only [IntKind.wrap, IntKind.bits, IntKind.signed]
  simp; omega
theorem and_one (m : Nat) (hm : m < 2 ^ 64) : bits .and .u64 (m : Int) 1 = ((m % 2 : Nat) : Int) := by
  unfold bits
  show IntKind.u64.wrap ((BitVec.ofInt 64 (m : Int) &&& BitVec.ofInt 64 1).toNat : Int) = _
  have ha : (BitVec.ofInt 64 (m : Int)).toNat = m := by rw [BitVec.ofInt_natCast, BitVec.toNat_ofNat]; omega
  have hc : (BitVec.ofInt 64 1).toNat = 2 ^ 1 - 1 := by decide
  rw [BitVec.toNat_and, ha, hc, Nat.and_two_pow_sub_one_eq_mod]
  simp only [IntKind.wrap, IntKind.bits, IntKind.signed]
  simp; omega
end Fl

set_option maxHeartbeats 1000000 in
theorem taken_any (x : Nat) (w : World) (hx : x < 2 ^ 64) :
    Calls Try.prog 168 #[.float .f64 x] w fun e w' => e = .returned (.tuple #[.int .u64 (Fl.mag x), .int .i64 ((Fl.plc x : Int) - 1074)]) ∧ w' = w := by
  have h1 := Fl.and_mask x hx
  have h2 := Fl.and_exp x hx
  have e1 : (x / 2 ^ 52 % 2048 : Nat) < 2048 := Nat.mod_lt _ (by decide)
  have e2 : (x % 2 ^ 52 : Nat) < 2 ^ 52 := Nat.mod_lt _ (by decide)
  by_cases c : x / 2 ^ 52 % 2048 = 0
  · have hm : Fl.mag x = x % 2 ^ 52 := by unfold Fl.mag; rw [if_pos (by omega)]; omega
    have hp : Fl.plc x = 0 := by unfold Fl.plc; omega
    rw [hm, hp]
    rw [c] at h2
    generalize x % 2 ^ 52 = m at *
    clear hm hp c
    go_enter Try.func168, Try.ntmps168
    go_wp2
    go_ret2
    exact ⟨rfl, rfl⟩
  · have hm : Fl.mag x = 2 ^ 52 + x % 2 ^ 52 := by unfold Fl.mag; rw [if_neg (by omega)]
    have hp : (Fl.plc x : Int) - 1074 = ((x / 2 ^ 52 % 2048 : Nat) : Int) - 1 + -1074 := by unfold Fl.plc; omega
    have h3 := Fl.or_hidden _ e2
    rw [hm, hp]
    generalize x % 2 ^ 52 = m at *
    generalize x / 2 ^ 52 % 2048 = k at *
    have q : ((k : Int) == 0) = false := by simp; omega
    clear hm hp c
    go_enter Try.func168, Try.ntmps168
    go_wp2
    go_ret2
    exact ⟨by rw [show ((2 ^ 52 + m : Nat) : Int) = 4503599627370496 + (m : Int) by omega]; rfl, rfl⟩

set_option maxHeartbeats 1000000 in
theorem shifted_any (a : Option Addr) (l : List Nat) (cap n : Nat) (w : World) (h : Arr w a (u32s l)) (hc : l.length ≤ cap) (hcm : cap ≤ 9223372036854775807) (wl : W.WF l) (nl : W.Nrm l) (hl : l.length ≤ 4096) (hn : n ≤ 131000) :
    Calls Try.prog 170 #[.slice a l.length cap, .int .i64 n] w (RetW w (W.val l * 2 ^ n)) := by
  have hs := natShift_up a l cap n w h hc hcm wl nl hl hn
  generalize W.val l * 2 ^ n = N at *
  clear h
  go_enter Try.func170, Try.ntmps170
  go_wp2_with fail
  refine Calls.mono hs ?_
  rintro e w1 ⟨a1, c1, rfl, hb, hown⟩
  go_wp2
  go_ret
  exact RetOwn.of hown hb

set_option maxRecDepth 100000 in
set_option maxHeartbeats 4000000 in
theorem realExact_bad (x : Nat) (w : World) (hx : x < 2 ^ 64) (hf : Fl.isFin x = false) :
    Calls Try.prog 147 #[.float .f64 x] w fun e w' => e = .returned (.tuple #[frV ⟨false, [], []⟩ none 0 none 0, .int .i64 8]) ∧ ∃ z, w' = w.ext z := by
  go_enter Try.func147, Try.ntmps147
  go_wp2_with fail
  refine (realFinite_any _ _ hx).mono ?_
  rintro e w1 ⟨rfl, rfl⟩
  rw [hf]
  go_wp2
  exact bodyPost_ret (v := .tuple #[.agg #[.bool false, .slice none 0 0, .slice none 0 0], .int .i64 8]) (by simp [results, Try.results147, go_sem]) rfl ⟨rfl, Blw.is (by repeat (first | exact Blw.refl _ | apply Blw.ext | apply Blw.alloc | apply Blw.drewN | apply Blw.drew | refine Blw.setCell ?_ _ _ (by simp)))⟩

/-- The fraction that the double is, in memory of the call's own. -/
def RetEx (x : Nat) (w : World) (e : Ending) (w' : World) : Prop := ∃ r : Fr, ExF x r ∧ RetFr w r 0 e w'
theorem one_val : W.val [1] = 1 := by decide

set_option maxRecDepth 100000 in
set_option maxHeartbeats 4000000 in
theorem realExact_ok (x : Nat) (w : World) (hx : x < 2 ^ 64) (hf : Fl.isFin x = true) :
    Calls Try.prog 147 #[.float .f64 x] w (RetEx x w) := by
  have hml := Fl.mag_lt x
  have hpl := Fl.plc_lt hf
  have hlz : (FloatKind.f64.format.order x 0 == some .lt) = decide (Fl.Sv x < 0) := Fl.lt_zero hf
  have hF0 : (w.alloc (.cells #[.bool false, .slice none 0 0, .slice none 0 0] 88)).heap[w.heap.size]? = some (.cells #[.bool false, .slice none 0 0, .slice none 0 0] 88 (0, 0)) := heap_alloc_new _ _
  go_enter Try.func147, Try.ntmps147
  go_wp2_with fail
  refine (realFinite_any _ _ hx).mono ?_
  rintro e w1 ⟨rfl, rfl⟩
  rw [hf]
  go_wp2_with fail
  refine (taken_any _ _ hx).mono ?_
  rintro e w1 ⟨rfl, rfl⟩
  go_wp2_with fail
  refine Calls.mono (natOf_any _ _ (by omega)) ?_
  rintro e W1 ⟨a, c, z2, rfl, hz2, hown, har, hna⟩
  rw [← hz2] at hown har
  have hb1 : Blw (w.alloc (.cells #[.bool false, .slice none 0 0, .slice none 0 0] 88)) W1 := by rw [hz2]; exact World.blw_ext _ z2
  clear hz2
  have hF1 := (KeptO.of_blw (O := fun _ => False) hb1).heap hF0 id
  have hbw : Blw w W1 := ((Blw.refl w).alloc _).trans hb1
  have hsz : w.heap.size + 1 ≤ W1.heap.size := by have := hb1.size; simpa using this
  have hB0 : (w.alloc (.cells #[.bool false, .slice none 0 0, .slice none 0 0] 88)).heap.size = w.heap.size + 1 := by simp
  rw [hB0] at hown
  have hol := own_lit W1 [1] (show 1 ≤ maxLen by decide)
  have hF2 := (KeptO.of_blw (O := fun _ => False) ((Blw.refl W1).alloc (.cells #[.int .u32 1] 135))).heap hF1 id
  clear hF0 hF1 hB0
  by_cases m0 : Fl.mag x = 0
  · have hex := exF_zero m0
    have HEX := Lib.hid hex
    rw [m0, W.toW_zero] at *
    obtain ⟨hfz, e0, e1, e2, r0, r1, r2⟩ := three hF2 (.bool false) (.slice none 0 0) (.slice (some ⟨W1.heap.size, 0, none⟩) 1 1)
    clear hown har hna hex
    go_wp2
    exact bodyPost_ret (v := .tuple #[.agg #[.bool false, .slice none 0 0, .slice (some ⟨W1.heap.size, 0, none⟩) 1 1], .int .i64 0]) (by simp [results, Try.results147, go_sem, r0, r1, r2]) rfl
      ⟨⟨false, [], [1]⟩, HEX.out, none, 0, some ⟨W1.heap.size, 0, none⟩, 1, rfl, blw_three (hbw.alloc _) (Nat.le_refl _) _ _ _, World.ownsRow_nil _ _ _ _, ownsRow_mono (own_three (ownsRow_mono hol hsz) (Nat.lt_succ_self _) _ _ _) (Nat.le_succ _)⟩
  · have mp : 0 < Fl.mag x := by omega
    have lp := pos_len mp
    have q0 : (((W.toW (Fl.mag x)).length : Int) == 0) = false := beq_false_of_ne (by omega)
    have hB2 := (Blw.refl W1).alloc (.cells #[.int .u32 1] 135)
    have S0 : ∃ (m t : Nat) (a' : Option Addr) (c' : Nat), Value.int .u64 (Fl.mag x : Int) = .int .u64 m ∧ Value.int .i64 ((Fl.plc x : Int) - 1074) = .int .i64 ((Fl.plc x : Int) - 1074 + t) ∧ Value.slice a (W.toW (Fl.mag x)).length c = .slice a' (W.toW m).length c' ∧ 0 < m ∧ m < 2 ^ 53 ∧ Hid (m * 2 ^ t = Fl.mag x) ∧ t ≤ 60 ∧ (t = 0 ∨ Fl.plc x + t ≤ 1074) ∧ (W1.alloc (.cells #[.int .u32 1] 135)).ownsRow (w.heap.size + 1) 135 1 (.slice a' (W.toW m).length c') (W.toW m).length (u32s (W.toW m)) ∧ Blw (W1.alloc (.cells #[.int .u32 1] 135)) (W1.alloc (.cells #[.int .u32 1] 135)) :=
      ⟨Fl.mag x, 0, a, c, rfl, by congr 1; omega, rfl, mp, hml, by (show _ = _; simp), by omega, .inl rfl, ownsRow_blw hown hB2, Blw.refl _⟩
    have HS0 := Lib.hid S0
    have HF2 := Lib.hid hF2
    have HOL := Lib.hid hol
    clear S0 hF2 hol hown har hna lp mp
    go_wp2
    go_loopw [4, 5, 6] (fun v4 v5 v6 wr => ∃ (m t : Nat) (a' : Option Addr) (c' : Nat), v4 = .int .u64 m ∧ v5 = .int .i64 ((Fl.plc x : Int) - 1074 + t) ∧ v6 = .slice a' (W.toW m).length c' ∧ 0 < m ∧ m < 2 ^ 53 ∧ Hid (m * 2 ^ t = Fl.mag x) ∧ t ≤ 60 ∧ (t = 0 ∨ Fl.plc x + t ≤ 1074) ∧ wr.ownsRow (w.heap.size + 1) 135 1 (.slice a' (W.toW m).length c') (W.toW m).length (u32s (W.toW m)) ∧ Blw (W1.alloc (.cells #[.int .u32 1] 135)) wr) (fun _ v5 _ _ => (-(intOf v5)).toNat)
    case atStart => exact HS0.out
    case round =>
      obtain ⟨m, t, a', c', rfl, rfl, rfl, hm0, hm53, hmt, ht, htp, hown, hb⟩ := hrel
      have h1 := Fl.and_one m (by omega)
      generalize hr : m % 2 = r at *
      have hr2 : r = 0 ∨ r = 1 := by omega
      rcases hr2 with rfl | rfl
      · by_cases hlow : Fl.plc x + t < 1074
        · obtain ⟨m2, hm2⟩ : ∃ m2, m = 2 * m2 := ⟨m / 2, by omega⟩
          subst hm2
          have e2 : ((2 * m2 : Nat) : Int) / 2 = (m2 : Int) := by omega
          have hmt2 : m2 * 2 ^ (t + 1) = Fl.mag x := by rw [← hmt.out, Nat.pow_succ]; ac_rfl
          have HMT2 := Lib.hid hmt2
          have tl : t + 1 ≤ 60 := by
            have h3 : 2 ^ (t + 1) ≤ m2 * 2 ^ (t + 1) := Nat.le_mul_of_pos_left _ (by omega)
            rw [hmt2] at h3
            have h4 : 2 ^ (t + 1) < 2 ^ 53 := by omega
            have := (Nat.pow_lt_pow_iff_right (by omega : 1 < 2)).1 h4
            omega
          clear hmt2 hr
          have q1 : decide ((Fl.plc x : Int) - 1074 + (t : Int) < 0) = true := by simp; omega
          go_wp2_with fail
          refine Calls.mono (natOf_any m2 wr (by omega)) ?_
          rintro e w3 ⟨a3, c3, z3, rfl, hz3, own3, ar3, na3⟩
          rw [← hz3] at own3
          have hb3 : Blw wr w3 := by rw [hz3]; exact World.blw_ext _ _
          clear hz3 ar3
          go_wp2
          go_roundw
          case rel => exact ⟨m2, t + 1, a3, c3, rfl, by congr 1; omega, rfl, by omega, by omega, HMT2.out, tl, .inr (by omega), ownsRow_mono own3 (by have := hb.size; simp at this; omega), hb.trans hb3⟩
          case measure => simp [intOf]; omega
        · clear hr
          have hq : ∃ q, t + Fl.plc x = q + 1074 := ⟨t + Fl.plc x - 1074, by omega⟩
          obtain ⟨q, hq⟩ := hq
          have eq : (Fl.plc x : Int) - 1074 + (t : Int) = (q : Int) := by omega
          have q1 : decide ((Fl.plc x : Int) - 1074 + (t : Int) < 0) = false := by simp; omega
          have q2 : decide ((q : Int) < 0) = false := by simp
          have ql : q ≤ 1000 := by omega
          have hex := exF_high hmt.out hm0 (by omega) hq ql
          have HEX := Lib.hid hex
          obtain ⟨_, _, ee, har, -, hnc, hcm, hna⟩ := own_arr hown
          cases ee
          have hsh := shifted_any a' (W.toW m) c' q wr har hnc hcm (W.wf_toW _) (W.nrm_toW _) (by have := toW_len_pow (m := m) (q := 0) (k := 2) (by omega) (by omega); simp at this; omega) (by omega)
          rw [W.val_toW] at hsh
          have HSH := Lib.hid hsh
          have HQ := Lib.hid hq
          clear hex hsh hq har hna hnc hcm
          generalize hN : m * 2 ^ q = N at *
          have HN := Lib.hid hN
          clear hN
          go_wp2_with fail
          refine Calls.mono HSH.out ?_
          rintro e w3 ⟨a3, c3, z3, rfl, hz3, own3, ar3, na3⟩
          rw [← hz3] at own3
          have hb3 : Blw wr w3 := by rw [hz3]; exact World.blw_ext _ _
          clear hz3 ar3
          have hF3 := (KeptO.of_blw (O := fun _ => False) (hb.trans hb3)).heap HF2.out id
          obtain ⟨hfz, e0, e1, e2, r0, r1, r2⟩ := three hF3 (.bool (decide (Fl.Sv x < 0))) (.slice a3 (W.toW N).length c3) (.slice (some ⟨W1.heap.size, 0, none⟩) 1 1)
          have hbw3 : Blw w w3 := (hbw.alloc _).trans (hb.trans hb3)
          have o3 := ownsRow_mono own3 (show w.heap.size + 1 ≤ wr.heap.size by have := hb.size; simp at this; omega)
          have ol := ownsRow_blw (ownsRow_mono HOL.out hsz) (hb.trans hb3)
          go_wp2
          exact bodyPost_ret (v := .tuple #[.agg #[.bool (decide (Fl.Sv x < 0)), .slice a3 (W.toW N).length c3, .slice (some ⟨W1.heap.size, 0, none⟩) 1 1], .int .i64 0]) (by simp [results, Try.results147, go_sem, r0, r1, r2]) rfl
            ⟨⟨decide (Fl.Sv x < 0), W.toW N, [1]⟩, HEX.out, a3, c3, some ⟨W1.heap.size, 0, none⟩, 1, rfl, blw_three hbw3 (Nat.le_refl _) _ _ _, ownsRow_mono (own_three o3 (Nat.lt_succ_self _) _ _ _) (Nat.le_succ _), ownsRow_mono (own_three ol (Nat.lt_succ_self _) _ _ _) (Nat.le_succ _)⟩
      · by_cases hlow : Fl.plc x + t < 1074
        · skip
          obtain ⟨q, hq⟩ : ∃ q, t + Fl.plc x + q = 1074 := ⟨1074 - (t + Fl.plc x), by omega⟩
          have eq : -((Fl.plc x : Int) - 1074 + (t : Int)) = (q : Int) := by omega
          have q1 : decide ((Fl.plc x : Int) - 1074 + (t : Int) < 0) = true := by simp; omega
          have hex := exF_low hmt.out hm0 (by omega) hr hq
          have HEX := Lib.hid hex
          have hsh := shifted_any (some ⟨W1.heap.size, 0, none⟩) [1] 1 q wr ((own_read HOL.out).blw hb) (Nat.le_refl 1) (by decide) (fun y hy => by simp at hy; omega) nrm_one (by show (1 : Nat) ≤ 4096; omega) (by omega)
          rw [one_val, Nat.one_mul] at hsh
          have HSH := Lib.hid hsh
          have HQ := Lib.hid hq
          clear hex hsh hq hr
          generalize hN : 2 ^ q = N at *
          have HN := Lib.hid hN
          clear hN
          go_wp2_with fail
          refine Calls.mono HSH.out ?_
          rintro e w3 ⟨a3, c3, z3, rfl, hz3, own3, ar3, na3⟩
          rw [← hz3] at own3
          have hb3 : Blw wr w3 := by rw [hz3]; exact World.blw_ext _ _
          clear hz3 ar3
          have hF3 := (KeptO.of_blw (O := fun _ => False) (hb.trans hb3)).heap HF2.out id
          obtain ⟨hfz, e0, e1, e2, r0, r1, r2⟩ := three hF3 (.bool (decide (Fl.Sv x < 0))) (.slice a' (W.toW m).length c') (.slice a3 (W.toW N).length c3)
          have hbw3 : Blw w w3 := (hbw.alloc _).trans (hb.trans hb3)
          have o3 := ownsRow_mono own3 (show w.heap.size + 1 ≤ wr.heap.size by have := hb.size; simp at this; omega)
          have om := ownsRow_blw hown hb3
          go_wp2
          exact bodyPost_ret (v := .tuple #[.agg #[.bool (decide (Fl.Sv x < 0)), .slice a' (W.toW m).length c', .slice a3 (W.toW N).length c3], .int .i64 0]) (by simp [results, Try.results147, go_sem, r0, r1, r2]) rfl
            ⟨⟨decide (Fl.Sv x < 0), W.toW m, W.toW N⟩, HEX.out, a', c', a3, c3, rfl, blw_three hbw3 (Nat.le_refl _) _ _ _, ownsRow_mono (own_three om (Nat.lt_succ_self _) _ _ _) (Nat.le_succ _), ownsRow_mono (own_three o3 (Nat.lt_succ_self _) _ _ _) (Nat.le_succ _)⟩
        · clear hr
          have hq : ∃ q, t + Fl.plc x = q + 1074 := ⟨t + Fl.plc x - 1074, by omega⟩
          obtain ⟨q, hq⟩ := hq
          have eq : (Fl.plc x : Int) - 1074 + (t : Int) = (q : Int) := by omega
          have q1 : decide ((Fl.plc x : Int) - 1074 + (t : Int) < 0) = false := by simp; omega
          have q2 : decide ((q : Int) < 0) = false := by simp
          have ql : q ≤ 1000 := by omega
          have hex := exF_high hmt.out hm0 (by omega) hq ql
          have HEX := Lib.hid hex
          obtain ⟨_, _, ee, har, -, hnc, hcm, hna⟩ := own_arr hown
          cases ee
          have hsh := shifted_any a' (W.toW m) c' q wr har hnc hcm (W.wf_toW _) (W.nrm_toW _) (by have := toW_len_pow (m := m) (q := 0) (k := 2) (by omega) (by omega); simp at this; omega) (by omega)
          rw [W.val_toW] at hsh
          have HSH := Lib.hid hsh
          have HQ := Lib.hid hq
          clear hex hsh hq har hna hnc hcm
          generalize hN : m * 2 ^ q = N at *
          have HN := Lib.hid hN
          clear hN
          go_wp2_with fail
          refine Calls.mono HSH.out ?_
          rintro e w3 ⟨a3, c3, z3, rfl, hz3, own3, ar3, na3⟩
          rw [← hz3] at own3
          have hb3 : Blw wr w3 := by rw [hz3]; exact World.blw_ext _ _
          clear hz3 ar3
          have hF3 := (KeptO.of_blw (O := fun _ => False) (hb.trans hb3)).heap HF2.out id
          obtain ⟨hfz, e0, e1, e2, r0, r1, r2⟩ := three hF3 (.bool (decide (Fl.Sv x < 0))) (.slice a3 (W.toW N).length c3) (.slice (some ⟨W1.heap.size, 0, none⟩) 1 1)
          have hbw3 : Blw w w3 := (hbw.alloc _).trans (hb.trans hb3)
          have o3 := ownsRow_mono own3 (show w.heap.size + 1 ≤ wr.heap.size by have := hb.size; simp at this; omega)
          have ol := ownsRow_blw (ownsRow_mono HOL.out hsz) (hb.trans hb3)
          go_wp2
          exact bodyPost_ret (v := .tuple #[.agg #[.bool (decide (Fl.Sv x < 0)), .slice a3 (W.toW N).length c3, .slice (some ⟨W1.heap.size, 0, none⟩) 1 1], .int .i64 0]) (by simp [results, Try.results147, go_sem, r0, r1, r2]) rfl
            ⟨⟨decide (Fl.Sv x < 0), W.toW N, [1]⟩, HEX.out, a3, c3, some ⟨W1.heap.size, 0, none⟩, 1, rfl, blw_three hbw3 (Nat.le_refl _) _ _ _, ownsRow_mono (own_three o3 (Nat.lt_succ_self _) _ _ _) (Nat.le_succ _), ownsRow_mono (own_three ol (Nat.lt_succ_self _) _ _ _) (Nat.le_succ _)⟩
end Go.Proofs.Ytigkfdoeneemeaa
/- Lists of fractions, and of waters, as cells. -/
namespace Go.Proofs.Ytigkfdoeneemeaa
open Go.RowKit

theorem cells_at {α : Type} (f : α → List Value) (n : Nat) (hf : ∀ x, (f x).length = n) (l : List α) (k j : Nat) (hk : k < l.length) (hj : j < n) : (l.flatMap f)[k * n + j]? = (f l[k])[j]? := by
  induction l generalizing k with
  | nil => simp at hk
  | cons a l ih =>
    rw [List.flatMap_cons]
    cases k with
    | zero =>
      rw [Nat.zero_mul, Nat.zero_add, List.getElem?_append_left (by rw [hf]; exact hj)]
      rfl
    | succ k =>
      have h := ih k (by simpa using hk)
      rw [List.getElem?_append_right (by rw [hf, Nat.succ_mul]; omega), hf, show (k + 1) * n + j - n = k * n + j by rw [Nat.succ_mul]; omega, h]
      rfl
theorem cells_len {α : Type} (f : α → List Value) (n : Nat) (hf : ∀ x, (f x).length = n) (l : List α) : (l.flatMap f).length = l.length * n := by
  induction l with
  | nil => simp
  | cons a l ih => rw [List.flatMap_cons, List.length_append, ih, hf, List.length_cons, Nat.succ_mul]; omega
/-- The cells of the element at a place. -/
theorem cells_arr {α : Type} (f : α → List Value) (n : Nat) (hf : ∀ x, (f x).length = n) (hn : 0 < n) {w : World} {A : Option Addr} {l : List α} (h : Arr w A (l.flatMap f)) {k : Nat} (hk : k < l.length) :
    ∃ (x : α) (b o : Nat), l[k]? = some x ∧ x ∈ l ∧ A = some ⟨b, o, none⟩ ∧ b < w.heap.size ∧ ∀ j, j < n → w.cell? ⟨b, o + k * n + j, none⟩ = (f x)[j]? := by
  have hl := cells_len f n hf l
  rcases h with h | ⟨b, o, e, hb, hc⟩
  · exfalso
    rw [h] at hl
    have := Nat.mul_pos (Nat.lt_of_le_of_lt (Nat.zero_le k) hk) hn
    simp at hl
    omega
  · refine ⟨l[k], b, o, List.getElem?_eq_getElem hk, List.getElem_mem hk, e, hb, fun j hj => ?_⟩
    have h2 : k * n + j < l.length * n := by
      have := Nat.mul_le_mul_right n (show k + 1 ≤ l.length from hk)
      rw [Nat.succ_mul] at this
      omega
    rw [Nat.add_assoc, hc _ (by rw [hl]; exact h2), cells_at f n hf l k j hk hj]

/-- A fraction in a list: its words and where they lie. -/
structure FL where
  r : Fr
  a : Option Addr
  c : Nat
  b : Option Addr
  d : Nat
def FL.cells (x : FL) : List Value := [.bool x.r.neg, .slice x.a x.r.num.length x.c, .slice x.b x.r.den.length x.d]
abbrev fls (l : List FL) : List Value := l.flatMap FL.cells
def FL.In (w : World) (x : FL) : Prop := FrA w x.r x.a x.c x.b x.d
theorem FL.In.blw {w w' : World} {x : FL} (h : FL.In w x) (k : Blw w w') : FL.In w' x := FrA.blw h k
theorem fl_at {w : World} {A : Option Addr} {l : List FL} (h : Arr w A (fls l)) {k : Nat} (hk : k < l.length) :
    ∃ (x : FL) (b o : Nat), l[k]? = some x ∧ x ∈ l ∧ A = some ⟨b, o, none⟩ ∧ b < w.heap.size ∧ w.cell? ⟨b, o + k * 3, none⟩ = some (.bool x.r.neg) ∧ w.cell? ⟨b, o + k * 3 + 1, none⟩ = some (.slice x.a x.r.num.length x.c) ∧ w.cell? ⟨b, o + k * 3 + 2, none⟩ = some (.slice x.b x.r.den.length x.d) := by
  obtain ⟨x, b, o, h1, h2, h3, h4, h5⟩ := cells_arr FL.cells 3 (fun _ => rfl) (by decide) h hk
  exact ⟨x, b, o, h1, h2, h3, h4, h5 0 (by decide), h5 1 (by decide), h5 2 (by decide)⟩

/-- A water in a list. -/
structure WL where
  tick : Int
  last : Int
  top : Bool
  h : FL
def WL.cells (x : WL) : List Value := [.int .i64 x.tick, .int .i64 x.last, .bool x.top, .bool x.h.r.neg, .slice x.h.a x.h.r.num.length x.h.c, .slice x.h.b x.h.r.den.length x.h.d]
abbrev wls (l : List WL) : List Value := l.flatMap WL.cells
theorem wl_at {w : World} {A : Option Addr} {l : List WL} (h : Arr w A (wls l)) {k : Nat} (hk : k < l.length) :
    ∃ (x : WL) (b o : Nat), l[k]? = some x ∧ x ∈ l ∧ A = some ⟨b, o, none⟩ ∧ b < w.heap.size ∧ w.cell? ⟨b, o + k * 6, none⟩ = some (.int .i64 x.tick) ∧ w.cell? ⟨b, o + k * 6 + 1, none⟩ = some (.int .i64 x.last) ∧ w.cell? ⟨b, o + k * 6 + 2, none⟩ = some (.bool x.top) ∧
      w.cell? ⟨b, o + k * 6 + 3, none⟩ = some (.bool x.h.r.neg) ∧ w.cell? ⟨b, o + k * 6 + 4, none⟩ = some (.slice x.h.a x.h.r.num.length x.h.c) ∧ w.cell? ⟨b, o + k * 6 + 5, none⟩ = some (.slice x.h.b x.h.r.den.length x.h.d) := by
  obtain ⟨x, b, o, h1, h2, h3, h4, h5⟩ := cells_arr WL.cells 6 (fun _ => rfl) (by decide) h hk
  exact ⟨x, b, o, h1, h2, h3, h4, h5 0 (by decide), h5 1 (by decide), h5 2 (by decide), h5 3 (by decide), h5 4 (by decide), h5 5 (by decide)⟩
def WL.key (x : WL) : Int × Int × Bool × Fr := (x.tick, x.last, x.top, x.h.r)
end Go.Proofs.Ytigkfdoeneemeaa
/- The waters of a list, in plain Lean: of the signs of its steps. -/
namespace Go.Proofs.Ytigkfdoeneemeaa

/-- The first step from k on that is none of 0. -/
def nextS (f : Nat → Int) (n k : Nat) : Option Nat := if k < n then (if f k = 0 then nextS f n (k + 1) else some k) else none
termination_by n - k

theorem nextS_out {f : Nat → Int} {n k : Nat} (h : ¬ k < n) : nextS f n k = none := by rw [nextS, if_neg h]
theorem nextS_on {f : Nat → Int} {n k : Nat} (h : k < n) (h0 : f k = 0) : nextS f n k = nextS f n (k + 1) := by rw [nextS, if_pos h, if_pos h0]
theorem nextS_at {f : Nat → Int} {n k : Nat} (h : k < n) (h0 : ¬ f k = 0) : nextS f n k = some k := by rw [nextS, if_pos h, if_neg h0]

/-- The water that begins at a place. -/
def wat (f : Nat → Int) (n i : Nat) : Option (Nat × Nat × Bool) :=
  if i = 0 ∨ f i = 0 then none else
  match nextS f n (i + 1) with
  | none => none
  | some k => if f k = f i then none else some (i, k - 1, f i == 1)
def wats (f : Nat → Int) (n i : Nat) : List (Nat × Nat × Bool) := (List.range i).filterMap (wat f n)

theorem wats_one (f : Nat → Int) (n : Nat) : wats f n 1 = [] := by simp [wats, wat]
theorem wats_none {f : Nat → Int} {n i : Nat} (h : wat f n i = none) : wats f n (i + 1) = wats f n i := by
  unfold wats; rw [List.range_succ, List.filterMap_append]; simp [h]
theorem wats_some {f : Nat → Int} {n i : Nat} {x : Nat × Nat × Bool} (h : wat f n i = some x) : wats f n (i + 1) = wats f n i ++ [x] := by
  unfold wats; rw [List.range_succ, List.filterMap_append]; simp [h]
theorem wat_zero {f : Nat → Int} {n i : Nat} (h : f i = 0) : wat f n i = none := by unfold wat; rw [if_pos (.inr h)]
theorem wat_next {f : Nat → Int} {n i : Nat} (hi : 0 < i) (h : ¬ f i = 0) : wat f n i = match nextS f n (i + 1) with | none => none | some k => if f k = f i then none else some (i, k - 1, f i == 1) := by
  unfold wat; rw [if_neg (by omega)]
theorem wat_out {f : Nat → Int} {n i : Nat} (hi : 0 < i) (h : ¬ f i = 0) (k : nextS f n (i + 1) = none) : wat f n i = none := by rw [wat_next hi h, k]
theorem wat_same {f : Nat → Int} {n i j : Nat} (hi : 0 < i) (h : ¬ f i = 0) (k : nextS f n (i + 1) = some j) (e : f j = f i) : wat f n i = none := by rw [wat_next hi h, k]; exact if_pos e
theorem wat_turn {f : Nat → Int} {n i j : Nat} (hi : 0 < i) (h : ¬ f i = 0) (k : nextS f n (i + 1) = some j) (e : ¬ f j = f i) : wat f n i = some (i, j - 1, f i == 1) := by rw [wat_next hi h, k]; exact if_neg e
end Go.Proofs.Ytigkfdoeneemeaa
/- The small functions of package water: counted, from, copied, walked. -/
namespace Go.Proofs.Ytigkfdoeneemeaa
open Go.RowKit

def cntd (n : Nat) (first : Int) : Int := if 4096 < n then 3 else if first < 0 ∨ 1048576 < first ∨ (0 < n ∧ 1048576 - (n : Int) + 1 < first) then 2 else 0

set_option maxHeartbeats 1000000 in
theorem counted_any (n : Nat) (first : Int) (w : World) (hn : n ≤ 9223372036854775807) :
    Calls Try.prog 126 #[.int .i64 n, .int .i64 first] w fun e w' => e = .returned (.int .i64 (cntd n first)) ∧ w' = w := by
  have he : cntd n first = if 4096 < n then 3 else if first < 0 ∨ 1048576 < first ∨ (0 < n ∧ 1048576 - (n : Int) + 1 < first) then 2 else 0 := rfl
  have HE := Lib.hid he
  clear he
  by_cases h1 : 4096 < n
  · rw [if_pos h1] at HE
    go_enter Try.func126, Try.ntmps126
    go_wp2
    go_ret
    exact ⟨ret_i64 HE.out.symm, rfl⟩
  rw [if_neg h1] at HE
  by_cases h2 : first < 0
  · rw [if_pos (.inl h2)] at HE
    have d1 : decide (first < 0) = true := by simpa using h2
    go_enter Try.func126, Try.ntmps126
    go_wp2
    go_ret
    exact ⟨ret_i64 HE.out.symm, rfl⟩
  have d1 : decide (first < 0) = false := by simpa using h2
  by_cases h3 : 1048576 < first
  · rw [if_pos (.inr (.inl h3))] at HE
    have d2 : decide (1048576 < first) = true := by simpa using h3
    go_enter Try.func126, Try.ntmps126
    go_wp2
    go_ret
    exact ⟨ret_i64 HE.out.symm, rfl⟩
  have d2 : decide (1048576 < first) = false := by simpa using h3
  by_cases h4 : 0 < n
  · have d3 : decide (0 < n) = true := by simpa using h4
    have e1 : IntKind.i64.wrap (IntKind.i64.wrap (1048576 - (n : Int)) + 1) = 1048576 - (n : Int) + 1 := by rw [IntKind.wrap_i64, IntKind.wrap_i64]; omega
    have e2 : IntKind.i64.wrap (1048576 - (n : Int)) = 1048576 - (n : Int) := by rw [IntKind.wrap_i64]; omega
    have e3 : IntKind.i64.wrap (1048576 - (n : Int) + 1) = 1048576 - (n : Int) + 1 := by rw [IntKind.wrap_i64]; omega
    by_cases h5 : 1048576 - (n : Int) + 1 < first
    · rw [if_pos (.inr (.inr ⟨h4, h5⟩))] at HE
      have d4 : decide (1048576 - (n : Int) + 1 < first) = true := by simpa using h5
      go_enter Try.func126, Try.ntmps126
      go_wp2
      go_ret
      exact ⟨ret_i64 HE.out.symm, rfl⟩
    · rw [if_neg (by omega)] at HE
      have d4 : decide (1048576 - (n : Int) + 1 < first) = false := by simpa using h5
      go_enter Try.func126, Try.ntmps126
      go_wp2
      go_ret
      exact ⟨ret_i64 HE.out.symm, rfl⟩
  · have d3 : decide (0 < n) = false := by simpa using h4
    rw [if_neg (by omega)] at HE
    go_enter Try.func126, Try.ntmps126
    go_wp2
    go_ret
    exact ⟨ret_i64 HE.out.symm, rfl⟩

set_option maxHeartbeats 400000 in
theorem from_ok (x y : FL) (w : World) (hx : FL.In w x) (hy : FL.In w y) (ox : x.r.Ok) (oy : y.r.Ok) :
    Calls Try.prog 128 #[frV x.r x.a x.c x.b x.d, frV y.r y.a y.c y.b y.d] w fun e w' => e = .returned (.int .i64 (cmpF y.r x.r)) ∧ ∃ z, w' = w.ext z := by
  have K := Lib.hid (fun (W : World) (hb : Blw w W) => ratioCompare_ok y.r x.r y.a y.c y.b y.d x.a x.c x.b x.d W (hy.blw hb) (hx.blw hb) oy ox)
  clear hx hy ox oy
  go_enter Try.func128, Try.ntmps128
  go_wp2_with fail
  refine Calls.mono (K.out _ (by repeat (first | exact Blw.refl _ | apply Blw.ext | apply Blw.alloc | apply Blw.drewN | apply Blw.drew | refine Blw.setCell ?_ _ _ (by simp)))) ?_
  rintro e w1 ⟨rfl, x1, rfl⟩
  go_wp2
  go_ret
  exact ⟨rfl, Blw.is (by repeat (first | exact Blw.refl _ | apply Blw.ext | apply Blw.alloc | apply Blw.drewN | apply Blw.drew | refine Blw.setCell ?_ _ _ (by simp)))⟩
end Go.Proofs.Ytigkfdoeneemeaa
/- Fractions copied and negated, walked. -/
namespace Go.Proofs.Ytigkfdoeneemeaa
open Go.RowKit

/-- A fraction of the call's own. -/
def RetFr1 (w : World) (r : Fr) (e : Ending) (w' : World) : Prop :=
  ∃ (a : Option Addr) (c : Nat) (b : Option Addr) (d : Nat), e = .returned (frV r a c b d) ∧ Blw w w' ∧ w'.ownsRow w.heap.size 135 1 (.slice a r.num.length c) r.num.length (u32s r.num) ∧ w'.ownsRow w.heap.size 135 1 (.slice b r.den.length d) r.den.length (u32s r.den)

set_option maxRecDepth 100000 in
set_option maxHeartbeats 4000000 in
theorem ratioCopied_any (r : Fr) (a : Option Addr) (c : Nat) (b : Option Addr) (d : Nat) (w : World) (h : FrA w r a c b d) (hr : r.Ok) :
    Calls Try.prog 139 #[frV r a c b d] w (RetFr1 w r) := by
  obtain ⟨S, hS⟩ : ∃ S : World → Prop, S = fun W => w.heap.size + 1 < W.heap.size ∧ Blw w W ∧ W.cell? ⟨w.heap.size, 0, none⟩ = some (.bool r.neg) ∧ W.cell? ⟨w.heap.size, 1, none⟩ = some (.slice a r.num.length c) ∧ W.cell? ⟨w.heap.size, 2, none⟩ = some (.slice b r.den.length d) := ⟨_, rfl⟩
  have KS : ∀ W W' : World, S W → Blw W W' → S W' := by
    subst hS
    rintro W W' ⟨h1, h2, h3, h4, h5⟩ hb
    exact ⟨Nat.lt_of_lt_of_le h1 hb.size, h2.trans hb, (Below.cell hb (by show w.heap.size < _; omega)).trans h3, (Below.cell hb (by show w.heap.size < _; omega)).trans h4, (Below.cell hb (by show w.heap.size < _; omega)).trans h5⟩
  have KR : ∀ W W' : World, W.heap[w.heap.size + 1]? = some (.cells #[.bool false, .slice none 0 0, .slice none 0 0] 88 (0, 0)) → Blw W W' → W'.heap[w.heap.size + 1]? = some (.cells #[.bool false, .slice none 0 0, .slice none 0 0] 88 (0, 0)) :=
    fun W W' hF hb => (KeptO.of_blw (O := fun _ => False) hb).heap hF id
  have RR : ∀ W : World, W.heap[w.heap.size + 1]? = some (.cells #[.bool false, .slice none 0 0, .slice none 0 0] 88 (0, 0)) → (∀ i, W.frozen? ⟨w.heap.size + 1, i, none⟩ = false) ∧ W.cell? ⟨w.heap.size + 1, 0, none⟩ = some (.bool false) ∧ W.cell? ⟨w.heap.size + 1, 1, none⟩ = some (.slice none 0 0) ∧ W.cell? ⟨w.heap.size + 1, 2, none⟩ = some (.slice none 0 0) :=
    fun W hF => ⟨fun i => frozen_of_row W _ i _ _ hF, (cell_of_row W _ 0 _ _ _ hF).trans rfl, (cell_of_row W _ 1 _ _ _ hF).trans rfl, (cell_of_row W _ 2 _ _ _ hF).trans rfl⟩
  have SB : ∀ W : World, S W → Blw w W := by
    subst hS
    rintro W ⟨h1, h2, -⟩; exact h2
  have T1 := fun (W : World) (hb : S W) => natTrim_any a r.num c W (h.an.blw (SB W hb)) (fun e => (h.na e).2) h.cn h.cm (by have := hr.ln; omega) h.wn
  have T2 := fun (W : World) (hb : S W) => natTrim_any b r.den d W (h.ad.blw (SB W hb)) (fun e => (h.nb e).2) h.dn h.dm (by have := hr.ld; omega) h.wd
  rw [W.toW_val h.wn hr.nn] at T1
  rw [W.toW_val h.wd hr.nd] at T2
  have HT1 := Lib.hid T1
  have HT2 := Lib.hid T2
  have HKS := Lib.hid KS
  have HSB := Lib.hid SB
  have HKR := Lib.hid KR
  have HRR := Lib.hid RR
  obtain ⟨rn, rnum, rden⟩ := r
  simp only at hS HT1 HT2
  clear T1 T2 KS KR RR SB h hr
  go_enter Try.func139, Try.ntmps139
  go_wp2_with fail
  have hS0 : S ((w.alloc (.cells #[.bool rn, .slice a rnum.length c, .slice b rden.length d] 88 (0, 0))).alloc (.cells #[.bool false, .slice none 0 0, .slice none 0 0] 88 (0, 0))).drew := by
    rw [hS]
    exact ⟨by simp, (by repeat (first | exact Blw.refl _ | apply Blw.ext | apply Blw.alloc | apply Blw.drewN | apply Blw.drew | refine Blw.setCell ?_ _ _ (by simp))), by go_simp, by go_simp, by go_simp⟩
  have hR0 : ((w.alloc (.cells #[.bool rn, .slice a rnum.length c, .slice b rden.length d] 88 (0, 0))).alloc (.cells #[.bool false, .slice none 0 0, .slice none 0 0] 88 (0, 0))).drew.heap[w.heap.size + 1]? = some (.cells #[.bool false, .slice none 0 0, .slice none 0 0] 88 (0, 0)) := by
    have := heap_alloc_new (w.alloc (.cells #[.bool rn, .slice a rnum.length c, .slice b rden.length d] 88 (0, 0))) (.cells #[.bool false, .slice none 0 0, .slice none 0 0] 88 (0, 0))
    rw [show (w.alloc (.cells #[.bool rn, .slice a rnum.length c, .slice b rden.length d] 88 (0, 0))).heap.size = w.heap.size + 1 by simp] at this
    exact this
  have hsz : w.heap.size + 2 ≤ ((w.alloc (.cells #[.bool rn, .slice a rnum.length c, .slice b rden.length d] 88 (0, 0))).alloc (.cells #[.bool false, .slice none 0 0, .slice none 0 0] 88 (0, 0))).drew.heap.size := by simp
  subst hS
  go_region_held3 (fun W => w.heap.size + 1 < W.heap.size ∧ Blw w W ∧ W.cell? ⟨w.heap.size, 0, none⟩ = some (.bool rn) ∧ W.cell? ⟨w.heap.size, 1, none⟩ = some (.slice a rnum.length c) ∧ W.cell? ⟨w.heap.size, 2, none⟩ = some (.slice b rden.length d)) (first | assumption | (refine ⟨?_, blw_three (HSB.out _ (by assumption)) (Nat.le_succ _) _ _ _, ?_, ?_, ?_⟩ <;> go_keep) | go_keep) (first
    | (go_at_call 163; (with_reducible refine Calls.mono (HT1.out _ (by assumption)) ?_); rintro e w9 ⟨p1, q1, y1, rfl, rfl, o1, -, -⟩; have hS1 := HKS.out _ _ (by assumption) (World.blw_ext _ y1); have hR1 := HKR.out _ _ (by assumption) (World.blw_ext _ y1); have hRR := HRR.out _ hR1)
    | (go_at_call 163; (with_reducible refine Calls.mono (HT2.out _ (by assumption)) ?_); rintro e w9 ⟨p2, q2, y2, rfl, rfl, o2, -, -⟩; have hS2 := HKS.out _ _ (by assumption) (World.blw_ext _ y2); have hR2 := HKR.out _ _ (by assumption) (World.blw_ext _ y2); have hRR2 := HRR.out _ hR2))


  · clear HT1 HT2 HKS HKR HRR hS0 hR0 hS1 hS2 hRR hRR2
    obtain ⟨hfz, e0, e1, e2, r0, r1, r2⟩ := three hR2 (.bool rn) (.slice p1 rnum.length q1) (.slice p2 rden.length q2)
    have oF := ownsRow_mono (ownsRow_blw o1 (World.blw_ext _ y2)) hsz
    have oS := ownsRow_mono o2 (Nat.le_trans hsz (World.le_ext _ y1))
    go_wp2_with fail
    refine bodyPost_ret (v := .agg #[.bool rn, .slice p1 rnum.length q1, .slice p2 rden.length q2]) (by simp [results, Try.results139, go_sem, r0, r1, r2]) rfl ?_
    exact ⟨p1, q1, p2, q2, rfl, blw_three (by repeat (first | exact Blw.refl _ | apply Blw.ext | apply Blw.alloc | apply Blw.drewN | apply Blw.drew | refine Blw.setCell ?_ _ _ (by simp))) (Nat.le_succ _) _ _ _, own_three oF (Nat.lt_succ_self _) _ _ _ |> (ownsRow_mono · (by omega)), own_three oS (Nat.lt_succ_self _) _ _ _ |> (ownsRow_mono · (by omega))⟩

def negF (r : Fr) : Fr := ⟨!r.neg && decide (0 < r.num.length), r.num, r.den⟩
theorem negF_ok {r : Fr} (h : r.Ok) : (negF r).Ok :=
  ⟨h.ln, h.ld, h.nn, h.nd, h.d0, (fun k => by show (!r.neg && decide (0 < r.num.length)) = false; have k : r.num.length = 0 := k; rw [k]; simp), h.g⟩

set_option maxHeartbeats 1000000 in
theorem ratioTurned_any (r : Fr) (a : Option Addr) (c : Nat) (b : Option Addr) (d : Nat) (w : World) :
    Calls Try.prog 138 #[frV r a c b d] w fun e w' => e = .returned (frV (negF r) a c b d) ∧ ∃ x, w' = w.ext x := by
  obtain ⟨neg, num, den⟩ := r
  have hB0 : ((w.alloc (.cells #[.bool neg, .slice a num.length c, .slice b den.length d] 88 (0, 0))).alloc (.cells #[.bool false, .slice none 0 0, .slice none 0 0] 88 (0, 0))).heap[w.heap.size]? = some (.cells #[.bool neg, .slice a num.length c, .slice b den.length d] 88 (0, 0)) := at_alloc _ (heap_alloc_new _ _)
  have hR0 : ((w.alloc (.cells #[.bool neg, .slice a num.length c, .slice b den.length d] 88 (0, 0))).alloc (.cells #[.bool false, .slice none 0 0, .slice none 0 0] 88 (0, 0))).heap[w.heap.size + 1]? = some (.cells #[.bool false, .slice none 0 0, .slice none 0 0] 88 (0, 0)) := by
    have := heap_alloc_new (w.alloc (.cells #[.bool neg, .slice a num.length c, .slice b den.length d] 88 (0, 0))) (.cells #[.bool false, .slice none 0 0, .slice none 0 0] 88 (0, 0))
    rw [show (w.alloc (.cells #[.bool neg, .slice a num.length c, .slice b den.length d] 88 (0, 0))).heap.size = w.heap.size + 1 by simp] at this
    exact this
  cases neg
  · have hR1 := at_far (b := w.heap.size) (i := 0) (.bool (decide (0 < num.length))) (by omega) hR0
    obtain ⟨hfz, e0, e1, e2, r0, r1, r2⟩ := three hR1 (.bool (decide (0 < num.length))) (.slice a num.length c) (.slice b den.length d)
    have hb : Blw w ((w.alloc (.cells #[.bool false, .slice a num.length c, .slice b den.length d] 88 (0, 0))).alloc (.cells #[.bool false, .slice none 0 0, .slice none 0 0] 88 (0, 0))) := (by repeat (first | exact Blw.refl _ | apply Blw.ext | apply Blw.alloc | apply Blw.drewN | apply Blw.drew | refine Blw.setCell ?_ _ _ (by simp)))
    clear hR1 hR0 hB0
    go_enter Try.func138, Try.ntmps138
    go_wp2_with fail
    exact bodyPost_ret (v := .agg #[.bool (decide (0 < num.length)), .slice a num.length c, .slice b den.length d]) (by simp [results, Try.results138, go_sem, r0, r1, r2]) rfl ⟨rfl, Blw.is (by repeat (first | exact Blw.refl _ | apply Blw.ext | apply Blw.alloc | apply Blw.drewN | apply Blw.drew | refine Blw.setCell ?_ _ _ (by simp)))⟩
  · have hR1 := at_far (b := w.heap.size) (i := 0) (.bool (false)) (by omega) hR0
    obtain ⟨hfz, e0, e1, e2, r0, r1, r2⟩ := three hR1 (.bool (false)) (.slice a num.length c) (.slice b den.length d)
    have hb : Blw w ((w.alloc (.cells #[.bool true, .slice a num.length c, .slice b den.length d] 88 (0, 0))).alloc (.cells #[.bool false, .slice none 0 0, .slice none 0 0] 88 (0, 0))) := (by repeat (first | exact Blw.refl _ | apply Blw.ext | apply Blw.alloc | apply Blw.drewN | apply Blw.drew | refine Blw.setCell ?_ _ _ (by simp)))
    clear hR1 hR0 hB0
    go_enter Try.func138, Try.ntmps138
    go_wp2_with fail
    exact bodyPost_ret (v := .agg #[.bool (false), .slice a num.length c, .slice b den.length d]) (by simp [results, Try.results138, go_sem, r0, r1, r2]) rfl ⟨rfl, Blw.is (by repeat (first | exact Blw.refl _ | apply Blw.ext | apply Blw.alloc | apply Blw.drewN | apply Blw.drew | refine Blw.setCell ?_ _ _ (by simp)))⟩

set_option maxRecDepth 100000 in
set_option maxHeartbeats 1000000 in
theorem ratioNeg_ok (r : Fr) (a : Option Addr) (c : Nat) (b : Option Addr) (d : Nat) (w : World) (h : FrA w r a c b d) (hr : r.Ok) :
    Calls Try.prog 89 #[frV r a c b d] w (RetFr w (negF r) 0) := by
  have K1 := Lib.hid (fun (W : World) (hb : Blw w W) => ratioCheck_any r a c b d W (h.blw hb))
  rw [chkF_ok hr] at K1
  have K2 := Lib.hid (fun (W : World) (hb : Blw w W) => ratioCopied_any r a c b d W (h.blw hb) hr)
  have hF0 : ((w.alloc (.cells #[.bool r.neg, .slice a r.num.length c, .slice b r.den.length d] 88 (0, 0))).alloc (.cells #[.bool false, .slice none 0 0, .slice none 0 0] 88 (0, 0))).heap[w.heap.size + 1]? = some (.cells #[.bool false, .slice none 0 0, .slice none 0 0] 88 (0, 0)) := by
    have := heap_alloc_new (w.alloc (.cells #[.bool r.neg, .slice a r.num.length c, .slice b r.den.length d] 88 (0, 0))) (.cells #[.bool false, .slice none 0 0, .slice none 0 0] 88 (0, 0))
    rw [show (w.alloc (.cells #[.bool r.neg, .slice a r.num.length c, .slice b r.den.length d] 88 (0, 0))).heap.size = w.heap.size + 1 by simp] at this
    exact this
  clear h hr
  go_enter Try.func89, Try.ntmps89
  go_wp2_with fail
  refine Calls.mono (K1.out _ (by repeat (first | exact Blw.refl _ | apply Blw.ext | apply Blw.alloc | apply Blw.drewN | apply Blw.drew | refine Blw.setCell ?_ _ _ (by simp)))) ?_
  rintro e w1 ⟨rfl, x1, rfl⟩
  go_wp2_with fail
  refine Calls.mono (K2.out _ (by repeat (first | exact Blw.refl _ | apply Blw.ext | apply Blw.alloc | apply Blw.drewN | apply Blw.drew | refine Blw.setCell ?_ _ _ (by simp)))) ?_
  rintro e w2 ⟨p1, q1, p2, q2, rfl, hb2, oX, oY⟩
  go_wp2_with fail
  refine Calls.mono (ratioTurned_any r p1 q1 p2 q2 _) ?_
  rintro e w3 ⟨rfl, x3, rfl⟩
  have hF3 := at_ext x3 ((KeptO.of_blw (O := fun _ => False) (((Blw.refl _).ext x1).trans hb2)).heap hF0 id)
  have hs : w.heap.size + 2 ≤ (((w.alloc (.cells #[.bool r.neg, .slice a r.num.length c, .slice b r.den.length d] 88 (0, 0))).alloc (.cells #[.bool false, .slice none 0 0, .slice none 0 0] 88 (0, 0))).ext x1).heap.size := Nat.le_trans (by simp) (World.le_ext _ x1)
  have oX3 := ownsRow_mono (ownsRow_blw oX (World.blw_ext _ x3)) hs
  have oY3 := ownsRow_mono (ownsRow_blw oY (World.blw_ext _ x3)) hs
  have hbw : Blw w (w2.ext x3) := (Blw.trans (by repeat (first | exact Blw.refl _ | apply Blw.ext | apply Blw.alloc | apply Blw.drewN | apply Blw.drew | refine Blw.setCell ?_ _ _ (by simp))) hb2).ext x3
  clear oX oY hs hb2 hF0 K1 K2
  obtain ⟨rn, rnum, rden⟩ := r
  simp only at oX3 oY3
  generalize w2.ext x3 = w4 at *
  obtain ⟨hfz, e0, e1, e2, r0, r1, r2⟩ := three hF3 (.bool (negF ⟨rn, rnum, rden⟩).neg) (.slice p1 (negF ⟨rn, rnum, rden⟩).num.length q1) (.slice p2 (negF ⟨rn, rnum, rden⟩).den.length q2)
  go_wp2_with fail
  exact bodyPost_ret (v := .tuple #[.agg #[.bool (negF ⟨rn, rnum, rden⟩).neg, .slice p1 (negF ⟨rn, rnum, rden⟩).num.length q1, .slice p2 (negF ⟨rn, rnum, rden⟩).den.length q2], .int .i64 0]) (by simp [results, Try.results89, go_sem, r0, r1, r2]) rfl ⟨p1, q1, p2, q2, rfl, blw_three hbw (Nat.le_succ _) _ _ _, own_three oX3 (Nat.lt_succ_self _) _ _ _ |> (ownsRow_mono · (by omega)), own_three oY3 (Nat.lt_succ_self _) _ _ _ |> (ownsRow_mono · (by omega))⟩

set_option maxHeartbeats 1000000 in
theorem ratioNeg_bad (r : Fr) (a : Option Addr) (c : Nat) (b : Option Addr) (d : Nat) (w : World) (h : FrA w r a c b d) (hr : ¬ chkF r = 0) :
    Calls Try.prog 89 #[frV r a c b d] w fun e w' => e = .returned (.tuple #[frV ⟨false, [], []⟩ none 0 none 0, .int .i64 (chkF r)]) ∧ ∃ x, w' = w.ext x := by
  have K1 := Lib.hid (fun (W : World) (hb : Blw w W) => ratioCheck_any r a c b d W (h.blw hb))
  have hF0 : ((w.alloc (.cells #[.bool r.neg, .slice a r.num.length c, .slice b r.den.length d] 88 (0, 0))).alloc (.cells #[.bool false, .slice none 0 0, .slice none 0 0] 88 (0, 0))).heap[w.heap.size + 1]? = some (.cells #[.bool false, .slice none 0 0, .slice none 0 0] 88 (0, 0)) := by
    have := heap_alloc_new (w.alloc (.cells #[.bool r.neg, .slice a r.num.length c, .slice b r.den.length d] 88 (0, 0))) (.cells #[.bool false, .slice none 0 0, .slice none 0 0] 88 (0, 0))
    rw [show (w.alloc (.cells #[.bool r.neg, .slice a r.num.length c, .slice b r.den.length d] 88 (0, 0))).heap.size = w.heap.size + 1 by simp] at this
    exact this
  generalize chkF r = u at *
  have q : (u != 0) = true := by simpa using hr
  clear h hr
  go_enter Try.func89, Try.ntmps89
  go_wp2_with fail
  refine Calls.mono (K1.out _ (by repeat (first | exact Blw.refl _ | apply Blw.ext | apply Blw.alloc | apply Blw.drewN | apply Blw.drew | refine Blw.setCell ?_ _ _ (by simp)))) ?_
  rintro e w1 ⟨rfl, x1, rfl⟩
  have hF3 := at_ext x1 hF0
  have hbw : Blw w (((w.alloc (.cells #[.bool r.neg, .slice a r.num.length c, .slice b r.den.length d] 88 (0, 0))).alloc (.cells #[.bool false, .slice none 0 0, .slice none 0 0] 88 (0, 0))).ext x1) := (by repeat (first | exact Blw.refl _ | apply Blw.ext | apply Blw.alloc | apply Blw.drewN | apply Blw.drew | refine Blw.setCell ?_ _ _ (by simp)))
  clear hF0 K1
  obtain ⟨hfz, e0, e1, e2, r0, r1, r2⟩ := three hF3 (.bool false) (.slice none 0 0) (.slice none 0 0)
  go_wp2_with fail
  exact bodyPost_ret (v := .tuple #[.agg #[.bool false, .slice none 0 0, .slice none 0 0], .int .i64 u]) (by simp [results, Try.results89, go_sem, r0, r1, r2]) rfl ⟨rfl, (blw_three hbw (Nat.le_succ _) _ _ _).is⟩
end Go.Proofs.Ytigkfdoeneemeaa
/- append as a step of a region that draws its order: onto a slice of the call's own, of anything that can be read (nil too). -/
namespace Go
open Go.RowKit
section
variable {P : Program} {ops : Array Oper} {o : Oper} {a : Act} {K : Act → World → Prop} {Q : Exit → Act → World → Prop} {E : Prop}
theorem step_app (w0 w : World) (hgd : o.guard = none) (s x : Operand) (t : TypeId) (ho : o.op = .call { callee := .builtin .append, args := #[s, x], argTypes := #[t, t] })
    {e : TypeId} {z : Value} {size bytes : Nat} (hT : SlT P t e z size bytes) (hb : Blw w0 w) (v : Value) (n : Nat) (xs : List Value) (hs : a.eval s = v) (hown : w.ownsRow w0.heap.size e size v n xs)
    (ad : Option Addr) (m c : Nat) (news : List Value) (hx : a.eval x = .slice ad m c) (hn : ad = none → c = 0) (hr : Arr w ad news) (hl : news.length = m * size) (h1 : ∀ u ∈ news, u.oneCell' = true)
    (h63 : n + m ≤ maxLen) (hbytes : (n + m) * bytes ≤ 140737488355328)
    (h : ∀ v' w', w'.ownsRow w0.heap.size e size v' (n + m) (xs ++ news) → Blw w0 w' → w.grownBy w' v.ownBlock → (v'.ownBlock = v.ownBlock ∨ v'.ownBlock = some w.heap.size) → K (a.put o.dst v') w') :
    if Region.wanted o (yielded ops a.tmps) = true then Oper.wp P o a w K Q else E := by
  have hw : Region.wanted o (yielded ops a.tmps) = true := by simp [Region.wanted, hgd]
  rw [if_pos hw]
  obtain ⟨i, hi, hz0, hz1, hz2⟩ := info_parts hT.info
  have hpos := hT.pos
  cases ad with
  | none =>
    have hnews : news = [] := by
      rcases hr with h | ⟨b, o, e, _⟩
      · exact h
      · cases e
    have hm : m = 0 := by
      rcases Nat.eq_zero_or_pos m with h | h
      · exact h
      · have := Nat.mul_pos h hpos; rw [hnews] at hl; simp at hl; omega
    subst hnews hm
    have hc := hn rfl
    subst hc
    have hrun := run_append_owned_none (P := P) (w := w) w0.heap.size t o.type e i size hT.under hi v n xs hown
    unfold Oper.wp
    simp [execOp, ho, resolve, invoke, builtin, hs, hx, hrun, Result.andThen]
    exact h v w (by simpa using hown) hb (World.grownBy.refl _ _) (.inl rfl)
  | some ad =>
    have hnews : ∀ j u, news[j]? = some u → w.cell? (ad.add j) = some u := by
      intro j u hj
      rcases hr with h | ⟨b, o, e, hbs, hc⟩
      · subst h; simp at hj
      · cases e
        have hjl : j < news.length := by rw [List.getElem?_eq_some_iff] at hj; exact hj.1
        have := hc j hjl
        rw [hj] at this
        have ea : (⟨b, o, none⟩ : Addr).add j = ⟨b, o + j, none⟩ := by unfold Addr.add; split <;> simp_all
        rw [ea]; exact this
    obtain ⟨v', w', hrun, g1, g2, _, g5⟩ := run_append_own_at (P := P) w w0.heap.size t o.type e i z size bytes hT.under hi hz0 hz1 hz2 hT.cells hpos v n xs hown ad m c news hl hnews h1 h63 hbytes hb.size
    unfold Oper.wp execOp
    simp only [ho, resolve, invoke, builtin, Sem.run_bind, Sem.run_pure, Result.andThen_ok, List.map_toArray, List.map_cons, List.map_nil, hs, hx, hrun]
    exact h v' w' g1 (hb.grown g2 (fun k hk => (World.ownsRow.lt hown k hk).1)) g2 g5
end
/-- The same for a plain region's list. -/
theorem wpList_app2 {P : Program} {ops : Array Oper} {rest : List Oper} {o : Oper} {a : Act} {Q : Exit → Act → World → Prop} (w0 w : World) (hgd : o.guard = none) (s x : Operand) (t : TypeId) (ho : o.op = .call { callee := .builtin .append, args := #[s, x], argTypes := #[t, t] })
    {e : TypeId} {z : Value} {size bytes : Nat} (hT : SlT P t e z size bytes) (hb : Blw w0 w) (v : Value) (n : Nat) (xs : List Value) (hs : a.eval s = v) (hown : w.ownsRow w0.heap.size e size v n xs)
    (ad : Option Addr) (m c : Nat) (news : List Value) (hx : a.eval x = .slice ad m c) (hn : ad = none → c = 0) (hr : Arr w ad news) (hl : news.length = m * size) (h1 : ∀ u ∈ news, u.oneCell' = true)
    (h63 : n + m ≤ maxLen) (hbytes : (n + m) * bytes ≤ 140737488355328)
    (h : ∀ v' w', w'.ownsRow w0.heap.size e size v' (n + m) (xs ++ news) → Blw w0 w' → w.grownBy w' v.ownBlock → (v'.ownBlock = v.ownBlock ∨ v'.ownBlock = some w.heap.size) → wpList P ops Q rest (a.put o.dst v') w') : wpList P ops Q (o :: rest) a w := by
  refine wpList_plain hgd fun K hK => ?_
  have hw : Region.wanted o (yielded ops a.tmps) = true := by simp [Region.wanted, hgd]
  have := step_app (ops := ops) (K := K) (Q := Q) (E := False) w0 w hgd s x t ho hT hb v n xs hs hown ad m c news hx hn hr hl h1 h63 hbytes (fun v' w' a1 a2 a3 a4 => hK _ _ (h v' w' a1 a2 a3 a4))
  rwa [if_pos hw] at this
theorem heap_alloc_at {w : World} {o : Obj} {k : Nat} (h : k = w.heap.size) : (w.alloc o).heap[k]? = some o := by rw [h]; exact heap_alloc_new _ _
theorem Arr.lit_at (w : World) (cs : Array Value) (t : TypeId) (fr : Nat × Nat) {k : Nat} (h : k = w.heap.size) : Arr (w.alloc (.cells cs t fr)) (some ⟨k, 0, none⟩) cs.toList := by rw [h]; exact Arr.lit w cs t fr
/-- A slice of no elements in a block of the call's own. -/
theorem ownsRow_empty {w : World} {B g : Nat} {e : TypeId} {size : Nat} {fr : Nat × Nat} (h : w.heap[g]? = some (.cells #[] e fr)) (hf : fr = (0, 0)) (hB : B ≤ g) : w.ownsRow B e size (.slice (some ⟨g, 0, none⟩) 0 0) 0 [] := by
  subst hf
  exact ⟨by simp, .inr ⟨g, 0, #[], rfl, hB, h, Nat.le_refl _, Nat.zero_le _, by simp, by simp⟩⟩
/-- The world at a place of the walk, named, with what is known of it. -/
theorem name_world {P : Program} {c : Code} {Q : Exit → Act → World → Prop} {a : Act} {w : World} (S : World → Prop) (h : S w) (k : ∀ W, S W → Code.wp P c Q a W) : Code.wp P c Q a w := k w h
/-- A block of six cells, and of three, that lies in a later world. -/
theorem box6 {w W : World} {T : TypeId} {u0 u1 u2 u3 u4 u5 : Value} (h : Blw (w.alloc (.cells #[u0, u1, u2, u3, u4, u5] T)) W) :
    w.heap.size < W.heap.size ∧ W.cell? ⟨w.heap.size, 0, none⟩ = some u0 ∧ W.cell? ⟨w.heap.size, 1, none⟩ = some u1 ∧ W.cell? ⟨w.heap.size, 2, none⟩ = some u2 ∧ W.cell? ⟨w.heap.size, 3, none⟩ = some u3 ∧ W.cell? ⟨w.heap.size, 4, none⟩ = some u4 ∧ W.cell? ⟨w.heap.size, 5, none⟩ = some u5 := by
  have hl : w.heap.size < (w.alloc (.cells #[u0, u1, u2, u3, u4, u5] T)).heap.size := by simp
  have hh : W.heap[w.heap.size]? = some (.cells #[u0, u1, u2, u3, u4, u5] T (0, 0)) := (Below.block h _ hl).trans (heap_alloc_new w _)
  exact ⟨Nat.lt_of_lt_of_le hl h.size, (cell_of_row W _ 0 _ _ _ hh).trans rfl, (cell_of_row W _ 1 _ _ _ hh).trans rfl, (cell_of_row W _ 2 _ _ _ hh).trans rfl, (cell_of_row W _ 3 _ _ _ hh).trans rfl, (cell_of_row W _ 4 _ _ _ hh).trans rfl, (cell_of_row W _ 5 _ _ _ hh).trans rfl⟩
theorem box3 {w W : World} {T : TypeId} {u0 u1 u2 : Value} (h : Blw (w.alloc (.cells #[u0, u1, u2] T)) W) :
    w.heap.size < W.heap.size ∧ W.cell? ⟨w.heap.size, 0, none⟩ = some u0 ∧ W.cell? ⟨w.heap.size, 1, none⟩ = some u1 ∧ W.cell? ⟨w.heap.size, 2, none⟩ = some u2 := by
  have hl : w.heap.size < (w.alloc (.cells #[u0, u1, u2] T)).heap.size := by simp
  have hh : W.heap[w.heap.size]? = some (.cells #[u0, u1, u2] T (0, 0)) := (Below.block h _ hl).trans (heap_alloc_new w _)
  exact ⟨Nat.lt_of_lt_of_le hl h.size, (cell_of_row W _ 0 _ _ _ hh).trans rfl, (cell_of_row W _ 1 _ _ _ hh).trans rfl, (cell_of_row W _ 2 _ _ _ hh).trans rfl⟩
end Go
/- The walk of water.copied. -/
namespace Go.Proofs.Ytigkfdoeneemeaa
open Go.RowKit

theorem own_past {W1 W9 w2 : World} {B n size : Nat} {e : TypeId} {v : Value} {cs : List Value} {g : Option Nat} (h : W1.ownsRow B e size v n cs) (k : Blw W1 W9) (hg : W9.grownBy w2 g) (hne : ∀ i, v.ownBlock = some i → g ≠ some i) : w2.ownsRow B e size v n cs :=
  KeptO.own (O := fun k => g = some k) (KeptO.grown (KeptO.of_blw k) hg (fun _ hk => .inl hk)) h (fun k hk e => hne k hk e)

/-- A fraction of the call's own, its two lists apart. -/
def RetFr1D (w : World) (r : Fr) (e : Ending) (w' : World) : Prop :=
  ∃ (a : Option Addr) (c : Nat) (b : Option Addr) (d : Nat), e = .returned (frV r a c b d) ∧ Blw w w' ∧ w'.ownsRow w.heap.size 135 1 (.slice a r.num.length c) r.num.length (u32s r.num) ∧ w'.ownsRow w.heap.size 135 1 (.slice b r.den.length d) r.den.length (u32s r.den) ∧
    ∀ i, (Value.slice a r.num.length c).ownBlock = some i → (Value.slice b r.den.length d).ownBlock ≠ some i

set_option maxRecDepth 100000 in
set_option maxHeartbeats 8000000 in
theorem waterCopied_anyD (r : Fr) (a : Option Addr) (c : Nat) (b : Option Addr) (d : Nat) (w : World) (h : FrA w r a c b d) (hr : r.Ok) :
    Calls Try.prog 129 #[frV r a c b d] w (RetFr1D w r) := by
  obtain ⟨rn, rnum, rden⟩ := r
  obtain ⟨W0, hW0⟩ : ∃ W0, W0 = ((w.alloc (.cells #[.bool rn, .slice a rnum.length c, .slice b rden.length d] 88 (0, 0))).alloc (.cells #[.bool false, .slice none 0 0, .slice none 0 0] 88 (0, 0))) := ⟨_, rfl⟩
  have hb0 : Blw w W0 := by rw [hW0]; exact (by repeat (first | exact Blw.refl _ | apply Blw.ext | apply Blw.alloc | apply Blw.drewN | apply Blw.drew | refine Blw.setCell ?_ _ _ (by simp)))
  have hs0 : W0.heap.size = w.heap.size + 2 := by rw [hW0]; simp
  have hR0 : W0.heap[w.heap.size + 1]? = some (.cells #[.bool false, .slice none 0 0, .slice none 0 0] 88 (0, 0)) := by
    have := heap_alloc_new (w.alloc (.cells #[.bool rn, .slice a rnum.length c, .slice b rden.length d] 88 (0, 0))) (.cells #[.bool false, .slice none 0 0, .slice none 0 0] 88 (0, 0))
    rw [show (w.alloc (.cells #[.bool rn, .slice a rnum.length c, .slice b rden.length d] 88 (0, 0))).heap.size = w.heap.size + 1 by simp] at this
    rw [hW0]; exact this
  have hB0 : W0.heap[w.heap.size]? = some (.cells #[.bool rn, .slice a rnum.length c, .slice b rden.length d] 88 (0, 0)) := by rw [hW0]; exact at_alloc _ (heap_alloc_new _ _)
  have hA := h.an.blw hb0
  have hD := h.ad.blw hb0
  have hl1 : (u32s rnum).length = rnum.length * 1 := by simp
  have hl2 : (u32s rden).length = rden.length * 1 := by simp
  have ln := hr.ln
  have ld := hr.ld
  have na := fun e => (h.na e).2
  have nb := fun e => (h.nb e).2
  simp only at ln ld na nb hA hD
  clear h hr
  go_enter Try.func129, Try.ntmps129
  go_wp2_with fail
  have hS0 : w.heap.size + 1 < W0.heap.size ∧ Blw w W0 ∧ W0.cell? ⟨w.heap.size, 0, none⟩ = some (.bool rn) ∧ W0.cell? ⟨w.heap.size, 1, none⟩ = some (.slice a rnum.length c) ∧ W0.cell? ⟨w.heap.size, 2, none⟩ = some (.slice b rden.length d) :=
    ⟨by omega, hb0, (cell_of_row W0 _ 0 _ _ _ hB0).trans rfl, (cell_of_row W0 _ 1 _ _ _ hB0).trans rfl, (cell_of_row W0 _ 2 _ _ _ hB0).trans rfl⟩
  have KS : ∀ W W' : World, (w.heap.size + 1 < W.heap.size ∧ Blw w W ∧ W.cell? ⟨w.heap.size, 0, none⟩ = some (.bool rn) ∧ W.cell? ⟨w.heap.size, 1, none⟩ = some (.slice a rnum.length c) ∧ W.cell? ⟨w.heap.size, 2, none⟩ = some (.slice b rden.length d)) → Blw W W' →
      (w.heap.size + 1 < W'.heap.size ∧ Blw w W' ∧ W'.cell? ⟨w.heap.size, 0, none⟩ = some (.bool rn) ∧ W'.cell? ⟨w.heap.size, 1, none⟩ = some (.slice a rnum.length c) ∧ W'.cell? ⟨w.heap.size, 2, none⟩ = some (.slice b rden.length d)) := by
    rintro W W' ⟨h1, h2, h3, h4, h5⟩ hb
    exact ⟨Nat.lt_of_lt_of_le h1 hb.size, h2.trans hb, (Below.cell hb (by show w.heap.size < _; omega)).trans h3, (Below.cell hb (by show w.heap.size < _; omega)).trans h4, (Below.cell hb (by show w.heap.size < _; omega)).trans h5⟩
  have KR : ∀ W W' : World, W.heap[w.heap.size + 1]? = some (.cells #[.bool false, .slice none 0 0, .slice none 0 0] 88 (0, 0)) → Blw W W' → W'.heap[w.heap.size + 1]? = some (.cells #[.bool false, .slice none 0 0, .slice none 0 0] 88 (0, 0)) :=
    fun W W' hF hb => (KeptO.of_blw (O := fun _ => False) hb).heap hF id
  have RR : ∀ W : World, W.heap[w.heap.size + 1]? = some (.cells #[.bool false, .slice none 0 0, .slice none 0 0] 88 (0, 0)) → (∀ i, W.frozen? ⟨w.heap.size + 1, i, none⟩ = false) ∧ W.cell? ⟨w.heap.size + 1, 0, none⟩ = some (.bool false) ∧ W.cell? ⟨w.heap.size + 1, 1, none⟩ = some (.slice none 0 0) ∧ W.cell? ⟨w.heap.size + 1, 2, none⟩ = some (.slice none 0 0) :=
    fun W hF => ⟨fun i => frozen_of_row W _ i _ _ hF, (cell_of_row W _ 0 _ _ _ hF).trans rfl, (cell_of_row W _ 1 _ _ _ hF).trans rfl, (cell_of_row W _ 2 _ _ _ hF).trans rfl⟩
  have HKS := Lib.hid KS
  have HKR := Lib.hid KR
  have HRR := Lib.hid RR
  clear KS KR RR
  subst hW0
  have hSd : w.heap.size + 1 < (((w.alloc (.cells #[.bool rn, .slice a rnum.length c, .slice b rden.length d] 88 (0, 0))).alloc (.cells #[.bool false, .slice none 0 0, .slice none 0 0] 88 (0, 0)))).drew.heap.size ∧ Blw w (((w.alloc (.cells #[.bool rn, .slice a rnum.length c, .slice b rden.length d] 88 (0, 0))).alloc (.cells #[.bool false, .slice none 0 0, .slice none 0 0] 88 (0, 0)))).drew ∧ (((w.alloc (.cells #[.bool rn, .slice a rnum.length c, .slice b rden.length d] 88 (0, 0))).alloc (.cells #[.bool false, .slice none 0 0, .slice none 0 0] 88 (0, 0)))).drew.cell? ⟨w.heap.size, 0, none⟩ = some (.bool rn) ∧ (((w.alloc (.cells #[.bool rn, .slice a rnum.length c, .slice b rden.length d] 88 (0, 0))).alloc (.cells #[.bool false, .slice none 0 0, .slice none 0 0] 88 (0, 0)))).drew.cell? ⟨w.heap.size, 1, none⟩ = some (.slice a rnum.length c) ∧ (((w.alloc (.cells #[.bool rn, .slice a rnum.length c, .slice b rden.length d] 88 (0, 0))).alloc (.cells #[.bool false, .slice none 0 0, .slice none 0 0] 88 (0, 0)))).drew.cell? ⟨w.heap.size, 2, none⟩ = some (.slice b rden.length d) := HKS.out _ _ hS0 ((Blw.refl _).drew)
  go_region_held3 (fun W => w.heap.size + 1 < W.heap.size ∧ Blw w W ∧ W.cell? ⟨w.heap.size, 0, none⟩ = some (.bool rn) ∧ W.cell? ⟨w.heap.size, 1, none⟩ = some (.slice a rnum.length c) ∧ W.cell? ⟨w.heap.size, 2, none⟩ = some (.slice b rden.length d)) (first | assumption | (exact HKS.out _ _ hS0 (((Blw.refl _).alloc _).drew)) | (exact HKS.out _ _ hS0 ((((Blw.refl _).alloc _).alloc _).drew)) | (exact HKS.out _ _ (by assumption) ((Blw.refl _).alloc _)) | (refine ⟨?_, blw_three (Blw.trans hb0 (by assumption)) (Nat.le_succ _) _ _ _, ?_, ?_, ?_⟩ <;> go_keep)) (first
    | (refine step_app ((w.alloc (.cells #[.bool rn, .slice a rnum.length c, .slice b rden.length d] 88 (0, 0))).alloc (.cells #[.bool false, .slice none 0 0, .slice none 0 0] 88 (0, 0))) _ (by rfl) _ _ 86 (by rfl) sl_words ?_ _ 0 [] (by rfl) (ownsRow_empty ?_ rfl ?_) a rnum.length c (u32s rnum) (by rfl) na (hA.blw ?_) hl1 (u32s_one _) (by unfold maxLen; omega) (by omega) ?_
       · (first | exact ((Blw.refl _).alloc _).drew | exact (((Blw.refl _).alloc _).alloc _).drew | exact Blw.alloc (by assumption) _ | assumption)
       · (first | (with_reducible refine at_drew (heap_alloc_at ?_); simp; done) | (with_reducible refine at_drew (at_alloc _ (heap_alloc_at ?_)); simp; done) | (with_reducible exact heap_alloc_at rfl) | (with_reducible refine heap_alloc_at ?_; simp; done) | (refine HD2.out _ ?_ _ ?_ <;> first | (with_reducible refine at_drew (heap_alloc_at ?_); simp; done) | (with_reducible refine at_drew (at_alloc _ (heap_alloc_at ?_)); simp; done) | (simp [Value.ownBlock]; done)))
       · (first | (simp; done) | (have hq := Blw.size b2; simp at hq; first | omega | (simp; omega)))
       · (first | exact ((Blw.refl _).alloc _).drew | exact (((Blw.refl _).alloc _).alloc _).drew | exact Blw.alloc (by assumption) _ | assumption)
       intro v1 w1 o1 b1 g1 t1
       rw [Nat.zero_add, List.nil_append] at o1
       obtain ⟨p1, q1, rfl, -, -, -, -, -⟩ := own_arr o1
       have hS1 := HKS.out _ _ hS0 b1
       have hRR1 := HRR.out _ (HKR.out _ _ hR0 b1)
       have HD1 := Lib.hid (fun (k : Nat) (hne : some k ≠ _) (x : Obj) (hk : _ = some x) => at_grown g1 hne hk))
    | (refine step_app ((w.alloc (.cells #[.bool rn, .slice a rnum.length c, .slice b rden.length d] 88 (0, 0))).alloc (.cells #[.bool false, .slice none 0 0, .slice none 0 0] 88 (0, 0))) _ (by rfl) _ _ 86 (by rfl) sl_words ?_ _ 0 [] (by rfl) (ownsRow_empty ?_ rfl ?_) b rden.length d (u32s rden) (by rfl) nb (hD.blw ?_) hl2 (u32s_one _) (by unfold maxLen; omega) (by omega) ?_
       · (first | exact ((Blw.refl _).alloc _).drew | exact (((Blw.refl _).alloc _).alloc _).drew | exact Blw.alloc (by assumption) _ | assumption)
       · (first | (with_reducible refine at_drew (heap_alloc_at ?_); simp; done) | (with_reducible refine at_drew (at_alloc _ (heap_alloc_at ?_)); simp; done) | (with_reducible exact heap_alloc_at rfl) | (with_reducible refine heap_alloc_at ?_; simp; done) | (refine HD1.out _ ?_ _ ?_ <;> first | (with_reducible refine at_drew (heap_alloc_at ?_); simp; done) | (with_reducible refine at_drew (at_alloc _ (heap_alloc_at ?_)); simp; done) | (simp [Value.ownBlock]; done)))
       · (first | (simp; done) | (have hq := Blw.size b1; simp at hq; first | omega | (simp; omega)))
       · (first | exact ((Blw.refl _).alloc _).drew | exact (((Blw.refl _).alloc _).alloc _).drew | exact Blw.alloc (by assumption) _ | assumption)
       intro v2 w2 o2 b2 g2 t2
       rw [Nat.zero_add, List.nil_append] at o2
       obtain ⟨p2, q2, rfl, -, -, -, -, -⟩ := own_arr o2
       have hS2 := HKS.out _ _ hS0 b2
       have hRR2 := HRR.out _ (HKR.out _ _ hR0 b2)
       have HD2 := Lib.hid (fun (k : Nat) (hne : some k ≠ _) (x : Obj) (hk : _ = some x) => at_grown g2 hne hk)))
  all_goals
    have hF2 := HKR.out _ _ hR0 b2
    obtain ⟨hfz, e0, e1, e2, r0, r1, r2⟩ := three hF2 (.bool rn) (.slice p1 rnum.length q1) (.slice p2 rden.length q2)
    have o12 : w2.ownsRow ((w.alloc (.cells #[.bool rn, .slice a rnum.length c, .slice b rden.length d] 88 (0, 0))).alloc (.cells #[.bool false, .slice none 0 0, .slice none 0 0] 88 (0, 0))).heap.size 135 1 (.slice p1 rnum.length q1) rnum.length (u32s rnum) := by
      first
      | (refine own_past o1 ((Blw.refl w1).alloc _) g2 ?_
         intro i hi e
         have h1 := World.ownsRow.lt o1 i hi
         simp [Value.ownBlock] at e
         omega)
      | (refine own_past o1 (Blw.refl w1) g2 ?_
         intro i hi e
         rw [hi] at t1
         simp [Value.ownBlock] at e t1
         omega)
    have hd : ∀ i, (Value.slice p1 rnum.length q1).ownBlock = some i → (Value.slice p2 rden.length q2).ownBlock ≠ some i := by
      intro i hi h2
      have hlt := World.ownsRow.lt o1 i hi
      rcases t2 with t | t
      · rw [h2] at t
        first
        | (simp [Value.ownBlock] at t; omega)
        | (rw [hi] at t1; simp [Value.ownBlock] at t t1; omega)
      · rw [h2] at t
        simp at t
        omega
    have hs3 : ((w.alloc (.cells #[.bool rn, .slice a rnum.length c, .slice b rden.length d] 88 (0, 0))).alloc (.cells #[.bool false, .slice none 0 0, .slice none 0 0] 88 (0, 0))).heap.size = w.heap.size + 2 := by simp
    rw [hs3] at o12 o2
    have hbw : Blw w w2 := Blw.trans hb0 b2
    clear hF2 hS1 hS2 hRR1 hRR2 HD1 HD2 t1 t2 g1 g2 b1 b2 o1 hS0 hSd HKS HKR HRR hR0 hB0 hA hD
    go_wp2_with fail
    exact bodyPost_ret (v := .agg #[.bool rn, .slice p1 rnum.length q1, .slice p2 rden.length q2]) (by simp [results, Try.results129, go_sem, r0, r1, r2]) rfl ⟨p1, q1, p2, q2, rfl, blw_three hbw (Nat.le_succ _) _ _ _, own_three o12 (Nat.lt_succ_self _) _ _ _ |> (ownsRow_mono · (by omega)), own_three o2 (Nat.lt_succ_self _) _ _ _ |> (ownsRow_mono · (by omega)), hd⟩
theorem waterCopied_any (r : Fr) (a : Option Addr) (c : Nat) (b : Option Addr) (d : Nat) (w : World) (h : FrA w r a c b d) (hr : r.Ok) :
    Calls Try.prog 129 #[frV r a c b d] w (RetFr1 w r) :=
  (waterCopied_anyD r a c b d w h hr).mono fun _ _ ⟨a, c, b, d, h1, h2, h3, h4, _⟩ => ⟨a, c, b, d, h1, h2, h3, h4⟩
end Go.Proofs.Ytigkfdoeneemeaa
/- Lists of words that lie apart. -/
namespace Go.Proofs.Ytigkfdoeneemeaa
open Go.RowKit

/-- A list of words and where it lies. -/
structure OW where
  a : Option Addr
  c : Nat
  l : List Nat
abbrev OW.val (o : OW) : Value := .slice o.a o.l.length o.c
abbrev ows (os : List OW) : List Value := os.map OW.val
/-- They lie in different blocks. -/
def OW.far (x y : OW) : Prop := ∀ i, x.val.ownBlock = some i → y.val.ownBlock ≠ some i
theorem OW.far.symm {x y : OW} (h : OW.far x y) : OW.far y x := fun i h1 h2 => h i h2 h1
def FL.ows (x : FL) : List OW := [⟨x.a, x.c, x.r.num⟩, ⟨x.b, x.d, x.r.den⟩]
/-- The words of fractions lie apart. -/
def apartF (l : List FL) : Prop := (l.flatMap FL.ows).Pairwise OW.far
theorem apartF_nil : apartF [] := List.Pairwise.nil
theorem apartF_app {l m : List FL} (h : apartF l) (k : apartF m) (hf : ∀ x ∈ l, ∀ y ∈ m, ∀ a ∈ x.ows, ∀ b ∈ y.ows, OW.far a b) : apartF (l ++ m) := by
  unfold apartF at *
  rw [List.flatMap_append, List.pairwise_append]
  refine ⟨h, k, fun a ha b hb => ?_⟩
  obtain ⟨x, hx, ha⟩ := List.mem_flatMap.1 ha
  obtain ⟨y, hy, hb⟩ := List.mem_flatMap.1 hb
  exact hf x hx y hy a ha b hb
theorem apartF_one {x : FL} (h : OW.far ⟨x.a, x.c, x.r.num⟩ ⟨x.b, x.d, x.r.den⟩) : apartF [x] := by
  unfold apartF
  simp only [List.flatMap_cons, List.flatMap_nil, List.append_nil, FL.ows]
  exact List.Pairwise.cons (fun b hb => by rw [List.mem_singleton] at hb; rw [hb]; exact h) (List.Pairwise.cons (fun b hb => by cases hb) List.Pairwise.nil)
/-- A row that was there, and one made later. -/
theorem far_new {w W : World} {B : Nat} {T : TypeId} {s n s2 n2 : Nat} {T2 : TypeId} {cs cs2 : List Value} {x y : OW} (h : w.ownsRow B T s x.val n cs) (k : W.ownsRow w.heap.size T2 s2 y.val n2 cs2) : OW.far x y := fun i h1 h2 => by
  have := (World.ownsRow.lt h i h1).2
  have := (World.ownsRow.lt k i h2).1
  omega
end Go.Proofs.Ytigkfdoeneemeaa
/- The walk of water.Of, of heights that may be. -/
namespace Go.Proofs.Ytigkfdoeneemeaa
open Go.RowKit

def fl0 : FL := ⟨⟨false, [], []⟩, none, 0, none, 0⟩
def rg (l : List FL) (i : Nat) : Fr := (l.getD i fl0).r
/-- How a height goes from the one ahead. -/
def sg (l : List FL) (i : Nat) : Int := cmpF (rg l i) (rg l (i - 1))
def wkey (l : List FL) (first : Int) (t : Nat × Nat × Bool) : Int × Int × Bool × Fr := (first + t.1, first + t.2.1, t.2.2, rg l t.1)
theorem rg_at {l : List FL} {i : Nat} {x : FL} (h : l[i]? = some x) : rg l i = x.r := by unfold rg; rw [List.getD_eq_getElem?_getD, h]; rfl

/-- The fraction's words lie in memory of the call's own. -/
def OwnFL (B : Nat) (w : World) (x : FL) : Prop :=
  w.ownsRow B 135 1 (.slice x.a x.r.num.length x.c) x.r.num.length (u32s x.r.num) ∧ w.ownsRow B 135 1 (.slice x.b x.r.den.length x.d) x.r.den.length (u32s x.r.den) ∧ W.WF x.r.num ∧ W.WF x.r.den
theorem OwnFL.blw {B : Nat} {w w' : World} {x : FL} (h : OwnFL B w x) (k : Blw w w') : OwnFL B w' x := ⟨ownsRow_blw h.1 k, ownsRow_blw h.2.1 k, h.2.2.1, h.2.2.2⟩
theorem OwnFL.in {B : Nat} {w : World} {x : FL} (h : OwnFL B w x) : FL.In w x := FrA.own h.1 h.2.1 h.2.2.1 h.2.2.2
/-- Rows of elements of different types lie in different blocks. -/
theorem own_types {w : World} {B B2 n n2 size size2 : Nat} {e e2 : TypeId} {v v2 : Value} {cs cs2 : List Value} (h : w.ownsRow B e size v n cs) (k : w.ownsRow B2 e2 size2 v2 n2 cs2) (hne : e ≠ e2) : ∀ i, v.ownBlock = some i → v2.ownBlock ≠ some i := by
  intro i h1 h2
  rcases h.2 with ⟨rfl, _⟩ | ⟨g, c, cur, rfl, _, hh, _⟩
  · cases h1
  · rcases k.2 with ⟨rfl, _⟩ | ⟨g2, c2, cur2, rfl, _, kk, _⟩
    · cases h2
    · simp [Value.ownBlock] at h1 h2
      rw [h1] at hh
      rw [h2, hh] at kk
      simp at kk
      exact hne kk.2
theorem OwnFL.past {B B2 n2 size2 : Nat} {e2 : TypeId} {w w' : World} {v2 : Value} {cs2 : List Value} {x : FL} (h : OwnFL B w x) (k : w.ownsRow B2 e2 size2 v2 n2 cs2) (hne : (135 : TypeId) ≠ e2) (hg : w.grownBy w' v2.ownBlock) : OwnFL B w' x :=
  ⟨own_past h.1 (Blw.refl w) hg (fun i hi => own_types h.1 k hne i hi), own_past h.2.1 (Blw.refl w) hg (fun i hi => own_types h.2.1 k hne i hi), h.2.2.1, h.2.2.2⟩

def OfOut (w : World) (l : List FL) (first : Int) (e : Ending) (w' : World) : Prop :=
  ∃ (out : List WL) (a : Option Addr) (c : Nat), e = .returned (.tuple #[.slice a out.length c, .int .i64 0]) ∧ Blw w w' ∧ w'.ownsRow w.heap.size 90 6 (.slice a out.length c) out.length (wls out) ∧ (∀ x ∈ out, OwnFL w.heap.size w' x.h) ∧
    out.map WL.key = (wats (sg l) l.length l.length).map (wkey l first)
/-- .. and the heights lie apart. -/
def OfOutD (w : World) (l : List FL) (first : Int) (e : Ending) (w' : World) : Prop :=
  ∃ (out : List WL) (a : Option Addr) (c : Nat), e = .returned (.tuple #[.slice a out.length c, .int .i64 0]) ∧ Blw w w' ∧ w'.ownsRow w.heap.size 90 6 (.slice a out.length c) out.length (wls out) ∧ (∀ x ∈ out, OwnFL w.heap.size w' x.h) ∧
    out.map WL.key = (wats (sg l) l.length l.length).map (wkey l first) ∧ apartF (out.map (·.h))
theorem sl_waters : SlT Try.prog 84 90 (.agg #[.int .i64 0, .int .i64 0, .bool false, .bool false, .slice none 0 0, .slice none 0 0]) 6 80 := ⟨Try.underlying84, by kernel_rfl, by kernel_rfl, by decide⟩
theorem cntd_zero {n : Nat} {first : Int} (h : cntd n first = 0) : n ≤ 4096 ∧ 0 ≤ first ∧ first ≤ 1048576 ∧ (0 < n → first + n ≤ 1048577) := by
  unfold cntd at h
  split at h
  · cases h
  · split at h
    · cases h
    · omega

set_option maxRecDepth 100000 in
set_option maxHeartbeats 8000000 in
theorem waterOf_okD (A : Option Addr) (l : List FL) (cap : Nat) (first : Int) (w : World) (hA : Arr w A (fls l)) (hin : ∀ x ∈ l, FL.In w x) (hok : ∀ x ∈ l, x.r.Ok) (hc : cntd l.length first = 0) :
    Calls Try.prog 76 #[.slice A l.length cap, .int .i64 first] w (OfOutD w l first) := by
  obtain ⟨hlen, hf0, hf1, hfn⟩ := cntd_zero hc
  have CN := fun W => counted_any l.length first W (by omega)
  rw [hc] at CN
  have HCN := Lib.hid CN
  have HIN := Lib.hid hin
  have HOK := Lib.hid hok
  clear CN hc hin hok
  go_enter Try.func76, Try.ntmps76
  go_wp2
  go_step3
  go_wp2_with (go_at_call 126; refine Calls.mono (HCN.out _) ?_; rintro e w1 ⟨rfl, rfl⟩)
  clear HCN
  go_loopw [24] (fun vi wr => ∃ k : Nat, k ≤ l.length ∧ vi = .int .i64 k ∧ Blw w1 wr) (fun i _ => l.length - (intOf i).toNat)
  case atStart => exact ⟨0, Nat.zero_le _, rfl, Blw.refl _⟩
  case round =>
    obtain ⟨k, hk, rfl, hb⟩ := hrel
    by_cases hlt : k < l.length
    · obtain ⟨x, b, o, hgk, hm, rfl, hbs, c0, c1, c2⟩ := fl_at (hA.blw hb) hlt
      have hx := (HIN.out x hm).blw hb
      have hck := fun W (hb : Blw wr W) => ratioCheck_any x.r x.a x.c x.b x.d W (FL.In.blw hx hb)
      rw [chkF_ok (HOK.out x hm)] at hck
      have HCK := Lib.hid hck
      clear hck hgk hm hx
      go_wp2_with fail
      refine Calls.mono (HCK.out _ (by repeat (first | exact Blw.refl _ | apply Blw.ext | apply Blw.alloc | apply Blw.drewN | apply Blw.drew | refine Blw.setCell ?_ _ _ (by simp)))) ?_
      rintro e w2 ⟨rfl, x2, rfl⟩
      go_wp2_with fail
      go_roundw
      case rel => exact ⟨k + 1, by omega, by go_num, (hb.alloc _).ext x2⟩
      case measure => simp [intOf]; omega
    · go_wp2
      go_step3
      go_wp2
      have hB0 := hb
      clear hlt hk hb
      go_loopg [10, 11] l.length (fun g vo vi wx => ∃ (i : Nat) (out : List WL) (a : Option Addr) (c : Nat), i + g = l.length + 1 ∧ (1 ≤ i ∧ (i ≤ l.length ∨ i = 1)) ∧ vi = .int .i64 i ∧ vo = .slice a out.length c ∧ wx.ownsRow w1.heap.size 90 6 (.slice a out.length c) out.length (wls out) ∧ (∀ x ∈ out, OwnFL w1.heap.size wx x.h) ∧
        Hid (out.map WL.key = (wats (sg l) l.length i).map (wkey l first)) ∧ out.length ≤ i ∧ Blw w1 wx ∧ Hid (apartF (out.map (·.h))))
      case atStart => exact ⟨1, [], none, 0, by omega, ⟨Nat.le_refl _, .inr rfl⟩, rfl, rfl, World.ownsRow_nil _ _ _ _, (fun x h => by simp at h), (by show _ = _; rw [wats_one]; rfl), by simp, hB0, apartF_nil⟩
      case round =>
        obtain ⟨i, out, a, c, hig, ⟨h1, h1'⟩, rfl, rfl, hown, hio, hkey, hol, hbx, hapt⟩ := hrel
        clear hB0
        have HIO := Lib.hid hio
        clear hio
        by_cases hlt : i < l.length
        · obtain ⟨j, rfl⟩ : ∃ j, i = j + 1 := ⟨i - 1, by omega⟩
          obtain ⟨g, rfl⟩ : ∃ g, gk = g + 1 := ⟨gk - 1, by omega⟩
          obtain ⟨x, b, o, hgx, hmx, rfl, hbs, c0, c1, c2⟩ := fl_at (k := j) (hA.blw hbx) (by omega)
          obtain ⟨y, b', o', hgy, hmy, e', -, d0, d1, d2⟩ := fl_at (k := j + 1) (hA.blw hbx) hlt
          simp only [Option.some.injEq, Addr.mk.injEq] at e'
          obtain ⟨rfl, rfl, -⟩ := e'
          obtain ⟨S, hS⟩ : ∃ S, S = sg l (j + 1) := ⟨_, rfl⟩
          have hSv : cmpF y.r x.r = S := by rw [hS]; unfold sg; rw [rg_at hgy, Nat.add_sub_cancel, rg_at hgx]
          have FR := fun W (hb : Blw wr W) => from_ok x y W (((HIN.out x hmx).blw hbx).blw hb) (((HIN.out y hmy).blw hbx).blw hb) (HOK.out x hmx) (HOK.out y hmy)
          rw [hSv] at FR
          have HFR := Lib.hid FR
          have CP := fun W (hb : Blw wr W) => waterCopied_anyD y.r y.a y.c y.b y.d W (FrA.blw ((HIN.out y hmy).blw hbx) hb) (HOK.out y hmy)
          have HCP := Lib.hid CP
          have HRY := Lib.hid (rg_at hgy)
          have HGY := Lib.hid hgy
          have HWY := Lib.hid ((HIN.out y hmy).wn)
          have HWZ := Lib.hid ((HIN.out y hmy).wd)
          have HS := Lib.hid hS
          clear FR CP hSv hS hgx hgy hmx hmy
          have i0 : (0 : Int) ≤ (j : Int) := by omega
          have i1 : (j : Int) < (l.length : Int) := by omega
          have i2 : (0 : Int) ≤ (j : Int) + 1 := by omega
          have i3 : (j : Int) + 1 < (l.length : Int) := by omega
          have i4 : IntKind.i64.wrap (j : Int) = (j : Int) := by rw [IntKind.wrap_i64]; omega
          have i5 : ((j : Int) + 1).toNat = j + 1 := by omega
          go_wp2_with fail
          refine wp_region_ext_lit (by kernel_rfl) (by kernel_rfl) ?_
          repeat (quiet_step ((go_at_call 128; exact Calls.ext_of (HFR.out _ (by repeat (first | exact Blw.refl _ | apply Blw.ext | apply Blw.alloc | apply Blw.drewN | apply Blw.drew | refine Blw.setCell ?_ _ _ (by simp)))))))
          refine wpQuiet_nil ?_
          rintro _ ⟨z, rfl⟩
          clear HFR c0 c1 c2 d0 d1 d2
          by_cases s0 : S = 0
          · have HK : Hid (out.map WL.key = (wats (sg l) l.length (j + 1 + 1)).map (wkey l first)) := by
              show _ = _
              rw [wats_none (wat_zero (HS.out.symm.trans s0))]; exact hkey.out
            subst s0
            have HIO2 := Lib.hid (fun x hx => (HIO.out x hx).blw (World.blw_ext wr z))
            go_wp2
            go_roundg g
            case measure => omega
            case rel => exact ⟨j + 1 + 1, out, a, c, by omega, ⟨by omega, .inl (by omega)⟩, by go_num, rfl, ownsRow_blw hown (World.blw_ext _ z), HIO2.out, HK, by omega, hbx.ext z, hapt⟩
          · have q0 : (S == 0) = false := by simpa using s0
            have hown2 := ownsRow_blw hown (World.blw_ext wr z)
            have HIO2 := Lib.hid (fun x hx => (HIO.out x hx).blw (World.blw_ext wr z))
            have hb2 := hbx.ext z
            have HCP2 := Lib.hid (fun W (hb : Blw (wr.ext z) W) => HCP.out W ((World.blw_ext wr z).trans hb))
            clear HCP HIO hown
            go_wp2_with fail
            go_loopg [10, 13] (l.length - (j + 2)) (fun g2 vo vk wy => ∃ k : Nat, vo = .slice a out.length c ∧ k + g2 = l.length ∧ j + 2 ≤ k ∧ vk = .int .i64 k ∧ Hid (nextS (sg l) l.length (j + 1 + 1) = nextS (sg l) l.length k) ∧ Blw (wr.ext z) wy)
            case atStart => exact ⟨j + 2, rfl, by omega, Nat.le_refl _, by go_num, rfl, Blw.refl _⟩
            case round =>
              obtain ⟨k, rfl, hkg, hk1, rfl, hnx, hby⟩ := hrel
              by_cases hlt2 : k < l.length
              · obtain ⟨m, rfl⟩ : ∃ m, k = m + 1 := ⟨k - 1, by omega⟩
                obtain ⟨g3, rfl⟩ : ∃ g3, gk = g3 + 1 := ⟨gk - 1, by omega⟩
                have hbw := hb2.trans hby
                obtain ⟨u, b2, o2, hgu, hmu, e2, hbs2, c0, c1, c2⟩ := fl_at (k := m) (hA.blw hbw) (by omega)
                obtain ⟨v, b3, o3, hgv, hmv, e3, -, d0, d1, d2⟩ := fl_at (k := m + 1) (hA.blw hbw) hlt2
                simp only [Option.some.injEq, Addr.mk.injEq] at e2 e3
                obtain ⟨rfl, rfl, -⟩ := e2
                obtain ⟨rfl, rfl, -⟩ := e3
                obtain ⟨S2, hS2⟩ : ∃ S2, S2 = sg l (m + 1) := ⟨_, rfl⟩
                have hSv : cmpF v.r u.r = S2 := by rw [hS2]; unfold sg; rw [rg_at hgv, Nat.add_sub_cancel, rg_at hgu]
                have FR := fun W (hb : Blw wr W) => from_ok u v W (((HIN.out u hmu).blw hbw).blw hb) (((HIN.out v hmv).blw hbw).blw hb) (HOK.out u hmu) (HOK.out v hmv)
                rw [hSv] at FR
                have HFR := Lib.hid FR
                have HS2 := Lib.hid hS2
                clear FR hSv hS2 hgu hgv hmu hmv
                have j0 : (0 : Int) ≤ (m : Int) := by omega
                have j1 : (m : Int) < (l.length : Int) := by omega
                have j2 : (0 : Int) ≤ (m : Int) + 1 := by omega
                have j3 : (m : Int) + 1 < (l.length : Int) := by omega
                have j4 : IntKind.i64.wrap (m : Int) = (m : Int) := by rw [IntKind.wrap_i64]; omega
                have j5 : ((m : Int) + 1).toNat = m + 1 := by omega
                go_wp2_with fail
                refine wp_region_ext_lit (by kernel_rfl) (by kernel_rfl) ?_
                repeat (quiet_step ((go_at_call 128; exact Calls.ext_of (HFR.out _ (by repeat (first | exact Blw.refl _ | apply Blw.ext | apply Blw.alloc | apply Blw.drewN | apply Blw.drew | refine Blw.setCell ?_ _ _ (by simp)))))))
                refine wpQuiet_nil ?_
                rintro _ ⟨z2, rfl⟩
                clear HFR c0 c1 c2 d0 d1 d2
                by_cases s2 : S2 = 0
                · have HN : Hid (nextS (sg l) l.length (j + 1 + 1) = nextS (sg l) l.length (m + 1 + 1)) := by
                    show _ = _
                    rw [hnx.out, nextS_on hlt2 (HS2.out.symm.trans s2)]
                  subst s2
                  go_wp2
                  go_roundg g3
                  case measure => omega
                  case rel => exact ⟨m + 1 + 1, rfl, by omega, by omega, by go_num, HN, hby.ext z2⟩
                · have q2 : (S2 == 0) = false := by simpa using s2
                  have HNX : Hid (nextS (sg l) l.length (j + 1 + 1) = some (m + 1)) := by
                    show _ = _
                    rw [hnx.out, nextS_at hlt2 (fun h => s2 (HS2.out.trans h))]
                  have hb5 := hb2.trans (hby.ext z2)
                  have hown5 := ownsRow_blw hown2 (hby.ext z2)
                  have HIO5 := Lib.hid (fun x hx => (HIO2.out x hx).blw (hby.ext z2))
                  by_cases s3 : S2 = S
                  · have HK : Hid (out.map WL.key = (wats (sg l) l.length (j + 1 + 1)).map (wkey l first)) := by
                      show _ = _
                      rw [wats_none (wat_same (by omega) (fun h => s0 (HS.out.trans h)) HNX.out (by rw [← HS.out, ← HS2.out]; exact s3))]; exact hkey.out
                    have q3 : (S2 != S) = false := by simpa using s3
                    clear hown2 hb2 s3
                    go_wp2_with fail
                    go_roundg g
                    case measure => omega
                    case rel => exact ⟨j + 1 + 1, out, a, c, by omega, ⟨by omega, .inl (by omega)⟩, by go_num, rfl, hown5, HIO5.out, HK, by omega, hb5, hapt⟩
                  · have q3 : (S2 != S) = true := by simpa using s3
                    have HW : Hid (wats (sg l) l.length (j + 1 + 1) = wats (sg l) l.length (j + 1) ++ [(j + 1, m, S == 1)]) := by
                      show _ = _
                      rw [wats_some (wat_turn (by omega) (fun h => s0 (HS.out.trans h)) HNX.out (by rw [← HS.out, ← HS2.out]; exact s3)), ← HS.out]; rfl
                    clear hown2 hb2
                    obtain ⟨y', b4, o4, hgy', -, e4, -, c0, c1, c2⟩ := fl_at (k := j + 1) (hA.blw hb5) hlt
                    simp only [Option.some.injEq, Addr.mk.injEq] at e4
                    obtain ⟨rfl, rfl, -⟩ := e4
                    obtain rfl : y = y' := by have := HGY.out.symm.trans hgy'; simpa using this
                    clear hgy'
                    have f1 : IntKind.i64.wrap (first + ((j : Int) + 1)) = first + ((j : Int) + 1) := by rw [IntKind.wrap_i64]; omega
                    have f2 : IntKind.i64.wrap (first + ((m : Int) + 1)) = first + ((m : Int) + 1) := by rw [IntKind.wrap_i64]; omega
                    have f3 : IntKind.i64.wrap (first + ((m : Int) + 1) - 1) = first + (m : Int) := by rw [IntKind.wrap_i64]; omega
                    go_wp2_with fail
                    refine Calls.mono (HCP2.out _ (hby.ext z2)) ?_
                    rintro e w5 ⟨p1, q1, p2, q2, rfl, hb6, oX, oY, hdXY⟩
                    have HAP : Hid (apartF ((out ++ [(⟨first + ((j : Int) + 1), first + (m : Int), S == 1, ⟨y.r, p1, q1, p2, q2⟩⟩ : WL)]).map (·.h))) := by
                      show apartF _
                      rw [List.map_append]
                      refine apartF_app hapt.out (apartF_one hdXY) ?_
                      intro x hx y' hy' a ha b hb
                      obtain ⟨x0, hx0, rfl⟩ := List.mem_map.1 hx
                      have hio0 := HIO5.out x0 hx0
                      simp only [List.map_cons, List.map_nil, List.mem_singleton] at hy'
                      subst hy'
                      simp only [FL.ows, List.mem_cons, List.mem_nil_iff, or_false] at ha hb
                      rcases ha with rfl | rfl <;> rcases hb with rfl | rfl
                      · exact far_new (x := ⟨x0.h.a, x0.h.c, x0.h.r.num⟩) (y := ⟨p1, q1, y.r.num⟩) hio0.1 oX
                      · exact far_new (x := ⟨x0.h.a, x0.h.c, x0.h.r.num⟩) (y := ⟨p2, q2, y.r.den⟩) hio0.1 oY
                      · exact far_new (x := ⟨x0.h.b, x0.h.d, x0.h.r.den⟩) (y := ⟨p1, q1, y.r.num⟩) hio0.2.1 oX
                      · exact far_new (x := ⟨x0.h.b, x0.h.d, x0.h.r.den⟩) (y := ⟨p2, q2, y.r.den⟩) hio0.2.1 oY
                    have oX5 := ownsRow_mono oX hb5.size
                    have oY5 := ownsRow_mono oY hb5.size
                    have hown6 := ownsRow_blw hown5 hb6
                    have HIO6 := Lib.hid (fun x hx => (HIO5.out x hx).blw hb6)
                    have hb8 := hb5.trans hb6
                    have HL := Lib.hid (cells_len WL.cells 6 (fun _ => rfl) out)
                    clear oX oY hown5 HIO5
                    go_wp2_with (at_builtin; refine wpList_app w1 _ rfl _ _ 84 rfl sl_waters (hb8.alloc _) _ out.length _ rfl (ownsRow_blw hown6 ((Blw.refl _).alloc _)) _ 1 1 [.int .i64 (first + ((j : Int) + 1)), .int .i64 (first + (m : Int)), .bool (S == 1), .bool y.r.neg, .slice p1 y.r.num.length q1, .slice p2 y.r.den.length q2] rfl (by simp) (Arr.lit _ _ _ _) (by simp) (by simp [Value.oneCell']) (by unfold maxLen; omega) (by omega) ?_; intro v7 w7 hown7 hb7 hg7 _)
                    obtain ⟨a7, c7, rfl, -, -, -, -, -⟩ := own_arr hown7
                    have HK : Hid ((out ++ [(⟨first + ((j : Int) + 1), first + (m : Int), S == 1, ⟨y.r, p1, q1, p2, q2⟩⟩ : WL)]).map WL.key = (wats (sg l) l.length (j + 1 + 1)).map (wkey l first)) := by
                      show _ = _
                      rw [HW.out, List.map_append, List.map_append, hkey.out]
                      simp [WL.key, wkey, HRY.out]
                    have HO : Hid (∀ x ∈ out ++ [(⟨first + ((j : Int) + 1), first + (m : Int), S == 1, ⟨y.r, p1, q1, p2, q2⟩⟩ : WL)], OwnFL w1.heap.size w7 x.h) := by
                      intro x hx
                      rw [List.mem_append, List.mem_singleton] at hx
                      rcases hx with hx | rfl
                      · exact OwnFL.past ((HIO6.out x hx).blw ((Blw.refl _).alloc _)) (ownsRow_blw hown6 ((Blw.refl _).alloc _)) (by decide) hg7
                      · exact OwnFL.past (OwnFL.blw ⟨oX5, oY5, HWY.out, HWZ.out⟩ ((Blw.refl _).alloc _)) (ownsRow_blw hown6 ((Blw.refl _).alloc _)) (by decide) hg7
                    have HWL : w7.ownsRow w1.heap.size 90 6 (.slice a7 (out ++ [(⟨first + ((j : Int) + 1), first + (m : Int), S == 1, ⟨y.r, p1, q1, p2, q2⟩⟩ : WL)]).length c7) (out ++ [(⟨first + ((j : Int) + 1), first + (m : Int), S == 1, ⟨y.r, p1, q1, p2, q2⟩⟩ : WL)]).length (wls (out ++ [(⟨first + ((j : Int) + 1), first + (m : Int), S == 1, ⟨y.r, p1, q1, p2, q2⟩⟩ : WL)])) := by
                      have e : wls (out ++ [(⟨first + ((j : Int) + 1), first + (m : Int), S == 1, ⟨y.r, p1, q1, p2, q2⟩⟩ : WL)]) = wls out ++ [.int .i64 (first + ((j : Int) + 1)), .int .i64 (first + (m : Int)), .bool (S == 1), .bool y.r.neg, .slice p1 y.r.num.length q1, .slice p2 y.r.den.length q2] := by
                        rw [wls, List.flatMap_append]; rfl
                      rw [e, List.length_append]
                      exact hown7
                    have HOL := Lib.hid HWL
                    clear hown7 HWL hg7
                    go_roundg g
                    case measure => omega
                    case rel => exact ⟨j + 1 + 1, _, a7, c7, by omega, ⟨by omega, .inl (by omega)⟩, by go_num, (by rw [List.length_append]; rfl), HOL.out, HO.out, HK, (by rw [List.length_append]; simp; omega), hb7, HAP⟩
              · have HK : Hid (out.map WL.key = (wats (sg l) l.length (j + 1 + 1)).map (wkey l first)) := by
                  show _ = _
                  rw [wats_none (wat_out (by omega) (fun h => s0 (HS.out.trans h)) (by rw [hnx.out, nextS_out hlt2]))]; exact hkey.out
                have hown5 := ownsRow_blw hown2 hby
                have HIO5 := Lib.hid (fun x hx => (HIO2.out x hx).blw hby)
                have hb5 := hb2.trans hby
                clear hown2 hb2
                go_wp2_with fail
                go_roundg g
                case measure => omega
                case rel => exact ⟨j + 1 + 1, out, a, c, by omega, ⟨by omega, .inl (by omega)⟩, by go_num, rfl, hown5, HIO5.out, HK, by omega, hb5, hapt⟩
        · have hlast : wats (sg l) l.length i = wats (sg l) l.length l.length := by
            rcases Nat.lt_or_ge 0 l.length with h | h
            · rw [show i = l.length by omega]
            · have h0 : l.length = 0 := by omega
              have hi1 : i = 1 := by omega
              rw [hi1, wats_one, h0]; rfl
          have HK := Lib.hid (hkey.out.trans (by rw [hlast]))
          clear hlast hkey
          go_wp2
          try rw [Exit.noGoto_ret]
          go_ret2
          exact ⟨out, a, c, rfl, hbx, hown, HIO.out, HK.out, hapt.out⟩
theorem waterOf_ok (A : Option Addr) (l : List FL) (cap : Nat) (first : Int) (w : World) (hA : Arr w A (fls l)) (hin : ∀ x ∈ l, FL.In w x) (hok : ∀ x ∈ l, x.r.Ok) (hc : cntd l.length first = 0) :
    Calls Try.prog 76 #[.slice A l.length cap, .int .i64 first] w (OfOut w l first) :=
  (waterOf_okD A l cap first w hA hin hok hc).mono fun _ _ ⟨out, a, c, h1, h2, h3, h4, h5, _⟩ => ⟨out, a, c, h1, h2, h3, h4, h5⟩
end Go.Proofs.Ytigkfdoeneemeaa
/- Walks of package parts and of the reference's: the same rounded operations, part by part. -/
namespace Go.Proofs.Ytigkfdoeneemeaa
open Go.RowKit

namespace Fl
theorem same.nan {x y : Nat} (h : same x y) : isNaN x = isNaN y := by
  rcases h with rfl | ⟨a, b⟩
  · rfl
  · rw [a, b]
def fsq (x : Nat) (w : World) : Nat := match FloatKind.f64.format.sqrt x with | some r => r | none => (Question.nanBits .f64 x x).cut (w.tape w.drawn (.nanBits .f64 x x))
def fsqd (x : Nat) : Nat := match FloatKind.f64.format.sqrt x with | some _ => 0 | none => 1
theorem same_sqrt {x y : Nat} (h : same x y) (w w' : World) : same (fsq x w) (fsq y w') := by
  rcases h with rfl | ⟨a, b⟩
  · unfold fsq
    split
    · exact .inl rfl
    · exact .inr ⟨cut_nan _ _ _, cut_nan _ _ _⟩
  · obtain ⟨s, t, e⟩ := read_nan x a
    obtain ⟨s', t', e'⟩ := read_nan y b
    have h1 : FloatKind.f64.format.sqrt x = none := by show Ieee.Format.sqrt Ieee.double x = none; simp [Ieee.Format.sqrt, e, Ieee.Datum.root]
    have h2 : FloatKind.f64.format.sqrt y = none := by show Ieee.Format.sqrt Ieee.double y = none; simp [Ieee.Format.sqrt, e', Ieee.Datum.root]
    unfold fsq
    rw [h1, h2]
    exact .inr ⟨cut_nan _ _ _, cut_nan _ _ _⟩
theorem fsq_lt (x : Nat) (w : World) : fsq x w < 2 ^ 64 := by
  unfold fsq
  split
  · rename_i r h; exact Ieee.Format.sqrt_lt _ h
  · exact cut_lt _ _ _
end Fl

@[go_sem] theorem call_sqrt (x : Nat) (w : World) : (callFunc 146 #[.float .f64 x]).run Try.prog w = .ok (.value (.float .f64 (Fl.fsq x w))) (w.drewN (Fl.fsqd x)) := by
  rw [run_callFunc_extern (fn := Try.f146) (e := Extern.MathSqrt.sqrt) (by kernel_rfl) (by kernel_rfl) (by kernel_rfl) (by kernel_rfl) (by kernel_rfl)]
  have e : Extern.MathSqrt.sqrt #[.float .f64 x] = (match FloatKind.f64.format.sqrt x with | some r => pure (.float .f64 r) | none => do pure (.float .f64 (← choose (.nanBits .f64 x x)))) := rfl
  rw [e]
  unfold Fl.fsq Fl.fsqd
  cases h : FloatKind.f64.format.sqrt x with
  | some r => simp; rfl
  | none => simp [Question.forced]; rfl

def sBits (x y : Nat) : Bool := x == y || (Fl.isNaN x && Fl.isNaN y)
theorem sBits_refl (x : Nat) : sBits x x = true := by simp [sBits]
theorem sBits_same {x y : Nat} (h : Fl.same x y) : sBits x y = true := by
  rcases h with rfl | ⟨a, b⟩
  · exact sBits_refl x
  · simp [sBits, a, b]
theorem sBits_same2 {x y z : Nat} (h : Fl.same x y) (k : Fl.same x z) : sBits y z = true := sBits_same (h.symm.trans k)

set_option maxHeartbeats 400000 in
theorem ref07SameReal_any (x y : Nat) (w : World) :
    Calls Try.prog 53 #[.float .f64 x, .float .f64 y] w fun e w' => e = .returned (.bool (sBits x y)) ∧ w' = w := by
  have ex : (FloatKind.f64.format.order x x != some .eq) = Fl.isNaN x := Fl.ord_self_ne x
  have ey : (FloatKind.f64.format.order y y != some .eq) = Fl.isNaN y := Fl.ord_self_ne y
  go_enter Try.func53, Try.ntmps53
  cases hx : Fl.isNaN x <;> cases hy : Fl.isNaN y
  all_goals
    rw [hx] at ex; rw [hy] at ey
    by_cases hxy : x = y
    · subst hxy
      go_wp2
      go_ret
      exact ⟨ret_bool (by simp [sBits, hx]), rfl⟩
    · have e1 : ((x : Int) == (y : Int)) = false := by simp; omega
      go_wp2
      go_ret
      exact ⟨ret_bool (by simp [sBits, hxy, hx, hy]), rfl⟩
set_option maxHeartbeats 400000 in
theorem ref07Same_any (a b c d : Nat) (w : World) :
    Calls Try.prog 40 #[.complex .f64 a b, .complex .f64 c d] w fun e w' => e = .returned (.bool (sBits a c && sBits b d)) ∧ w' = w := by
  go_enter Try.func40, Try.ntmps40
  cases h1 : sBits a c
  all_goals
    go_wp2_with (go_at_call 53; refine (ref07SameReal_any _ _ _).mono ?_; rintro e w' ⟨rfl, rfl⟩)
    go_ret
    exact ⟨ret_bool (by simp), rfl⟩
set_option maxHeartbeats 400000 in
theorem partsBits_any (x y : Nat) (w : World) :
    Calls Try.prog 112 #[.float .f64 x, .float .f64 y] w fun e w' => e = .returned (.bool (sBits x y)) ∧ w' = w := by
  have ex : (FloatKind.f64.format.order x x != some .eq) = Fl.isNaN x := Fl.ord_self_ne x
  have ey : (FloatKind.f64.format.order y y != some .eq) = Fl.isNaN y := Fl.ord_self_ne y
  go_enter Try.func112, Try.ntmps112
  cases hx : Fl.isNaN x <;> cases hy : Fl.isNaN y
  all_goals
    rw [hx] at ex; rw [hy] at ey
    by_cases hxy : x = y
    · subst hxy
      go_wp2
      go_ret
      exact ⟨ret_bool (by simp [sBits]), rfl⟩
    · have e1 : ((x : Int) == (y : Int)) = false := by simp; omega
      go_wp2
      go_ret
      exact ⟨ret_bool (by simp [sBits, hxy, hx, hy]), rfl⟩
set_option maxHeartbeats 400000 in
theorem partsSame_any (a b c d : Nat) (w : World) :
    Calls Try.prog 56 #[.complex .f64 a b, .complex .f64 c d] w fun e w' => e = .returned (.bool (sBits a c && sBits b d)) ∧ w' = w := by
  go_enter Try.func56, Try.ntmps56
  cases h1 : sBits a c
  all_goals
    go_wp2_with (go_at_call 112; refine (partsBits_any _ _ _).mono ?_; rintro e w' ⟨rfl, rfl⟩)
    go_ret
    exact ⟨ret_bool (by simp), rfl⟩
def eqB (a b c d : Nat) : Bool := (Fl.ord a c == some .eq) && (Fl.ord b d == some .eq)
set_option maxHeartbeats 400000 in
theorem partsEqual_any (a b c d : Nat) (w : World) :
    Calls Try.prog 57 #[.complex .f64 a b, .complex .f64 c d] w fun e w' => e = .returned (.bool (eqB a b c d)) ∧ w' = w := by
  go_enter Try.func57, Try.ntmps57
  cases h1 : (FloatKind.f64.format.order a c == some .eq)
  all_goals
    go_wp2
    go_ret
    exact ⟨ret_bool (by have h2 : (Fl.ord a c == some .eq) = _ := h1; unfold eqB; rw [h2]; first | rfl | simp), rfl⟩
set_option maxHeartbeats 400000 in
theorem ref07Equal_any (a b c d : Nat) (w : World) :
    Calls Try.prog 58 #[.complex .f64 a b, .complex .f64 c d] w fun e w' => e = .returned (.bool (eqB a b c d)) ∧ w' = w := by
  go_enter Try.func58, Try.ntmps58
  cases h1 : (FloatKind.f64.format.order a c == some .eq)
  all_goals
    go_wp2
    go_ret
    exact ⟨ret_bool (by have h2 : (Fl.ord a c == some .eq) = _ := h1; unfold eqB; rw [h2]; first | rfl | simp), rfl⟩
set_option maxHeartbeats 400000 in
theorem partsFiniteC_any (a b : Nat) (w : World) (ha : a < 2 ^ 64) (hb : b < 2 ^ 64) :
    Calls Try.prog 59 #[.complex .f64 a b] w fun e w' => e = .returned (.bool (Fl.isFin a && Fl.isFin b)) ∧ w' = w := by
  go_enter Try.func59, Try.ntmps59
  cases h1 : Fl.isFin a
  all_goals
    go_wp2_with (go_at_call 113; refine (partsFinite_any _ _ (by assumption)).mono ?_; rintro e w' ⟨rfl, rfl⟩)
    go_ret
    exact ⟨ret_bool (by simp), rfl⟩
set_option maxHeartbeats 400000 in
theorem ref07FiniteC_any (a b : Nat) (w : World) :
    Calls Try.prog 60 #[.complex .f64 a b] w fun e w' => e = .returned (.bool (Fl.isFin a && Fl.isFin b)) ∧ ∃ x, w' = w.ext x := by
  go_enter Try.func60, Try.ntmps60
  cases h1 : Fl.isFin a
  all_goals
    go_wp2_with (go_at_call 114; refine (ref07Finite_any _ _).mono ?_; rintro e w' ⟨rfl, n, rfl⟩)
    go_ret
    exact ⟨ret_bool (by simp), Blw.is (by repeat (first | exact Blw.refl _ | apply Blw.ext | apply Blw.alloc | apply Blw.drewN | apply Blw.drew | refine Blw.setCell ?_ _ _ (by simp)))⟩

/-- A complex result, up to a NaN's bits. -/
def CRes (re im : Nat) (w : World) (e : Ending) (w' : World) : Prop := ∃ (r i : Nat) (x : World), e = .returned (.complex .f64 r i) ∧ Hid (Fl.same re r) ∧ Hid (Fl.same im i) ∧ r < 2 ^ 64 ∧ i < 2 ^ 64 ∧ w' = w.ext x
theorem CRes.mk {re im r i : Nat} {w w' : World} (h : Fl.same re r) (k : Fl.same im i) (lr : r < 2 ^ 64) (li : i < 2 ^ 64) (b : Blw w w') : CRes re im w (.returned (.complex .f64 r i)) w' := by
  obtain ⟨x, rfl⟩ := b.is
  exact ⟨r, i, x, rfl, h, k, lr, li, rfl⟩
def fA (x y : Nat) : Nat := Fl.fop .add x y default
def fS (x y : Nat) : Nat := Fl.fop .sub x y default
def fM (x y : Nat) : Nat := Fl.fop .mul x y default
def fQ (x y : Nat) : Nat := Fl.fop .quo x y default
theorem neg_lt {x : Nat} (h : x < 2 ^ 64) : Op.negFloat .f64 x < 2 ^ 64 := Nat.xor_lt_two_pow h (by decide)

set_option maxHeartbeats 400000 in
theorem partsAdd_any (a b c d : Nat) (w : World) : Calls Try.prog 41 #[.complex .f64 a b, .complex .f64 c d] w (CRes (fA a c) (fA b d) w) := by
  go_enter Try.func41, Try.ntmps41
  go_wp2
  go_ret
  exact CRes.mk (Fl.same_add (.refl _) (.refl _) _ _) (Fl.same_add (.refl _) (.refl _) _ _) (Fl.fop_lt _ _ _ _) (Fl.fop_lt _ _ _ _) (by repeat (first | exact Blw.refl _ | apply Blw.ext | apply Blw.alloc | apply Blw.drewN | apply Blw.drew | refine Blw.setCell ?_ _ _ (by simp)))
set_option maxHeartbeats 400000 in
theorem ref07Add_any (a b c d : Nat) (w : World) : Calls Try.prog 42 #[.complex .f64 a b, .complex .f64 c d] w (CRes (fA a c) (fA b d) w) := by
  go_enter Try.func42, Try.ntmps42
  go_wp2
  go_ret
  exact CRes.mk (Fl.same_add (.refl _) (.refl _) _ _) (Fl.same_add (.refl _) (.refl _) _ _) (Fl.fop_lt _ _ _ _) (Fl.fop_lt _ _ _ _) (by repeat (first | exact Blw.refl _ | apply Blw.ext | apply Blw.alloc | apply Blw.drewN | apply Blw.drew | refine Blw.setCell ?_ _ _ (by simp)))
set_option maxHeartbeats 400000 in
theorem partsSub_any (a b c d : Nat) (w : World) : Calls Try.prog 43 #[.complex .f64 a b, .complex .f64 c d] w (CRes (fS a c) (fS b d) w) := by
  go_enter Try.func43, Try.ntmps43
  go_wp2
  go_ret
  exact CRes.mk (Fl.same_sub (.refl _) (.refl _) _ _) (Fl.same_sub (.refl _) (.refl _) _ _) (Fl.fop_lt _ _ _ _) (Fl.fop_lt _ _ _ _) (by repeat (first | exact Blw.refl _ | apply Blw.ext | apply Blw.alloc | apply Blw.drewN | apply Blw.drew | refine Blw.setCell ?_ _ _ (by simp)))
set_option maxHeartbeats 400000 in
theorem ref07Sub_any (a b c d : Nat) (w : World) : Calls Try.prog 44 #[.complex .f64 a b, .complex .f64 c d] w (CRes (fS a c) (fS b d) w) := by
  go_enter Try.func44, Try.ntmps44
  go_wp2
  go_ret
  exact CRes.mk (Fl.same_sub (.refl _) (.refl _) _ _) (Fl.same_sub (.refl _) (.refl _) _ _) (Fl.fop_lt _ _ _ _) (Fl.fop_lt _ _ _ _) (by repeat (first | exact Blw.refl _ | apply Blw.ext | apply Blw.alloc | apply Blw.drewN | apply Blw.drew | refine Blw.setCell ?_ _ _ (by simp)))
set_option maxHeartbeats 400000 in
theorem partsMul_any (a b c d : Nat) (w : World) : Calls Try.prog 45 #[.complex .f64 a b, .complex .f64 c d] w (CRes (fS (fM a c) (fM b d)) (fA (fM a d) (fM b c)) w) := by
  go_enter Try.func45, Try.ntmps45
  go_wp2
  go_ret
  exact CRes.mk (Fl.same_sub (Fl.same_mul (.refl _) (.refl _) _ _) (Fl.same_mul (.refl _) (.refl _) _ _) _ _) (Fl.same_add (Fl.same_mul (.refl _) (.refl _) _ _) (Fl.same_mul (.refl _) (.refl _) _ _) _ _) (Fl.fop_lt _ _ _ _) (Fl.fop_lt _ _ _ _) (by repeat (first | exact Blw.refl _ | apply Blw.ext | apply Blw.alloc | apply Blw.drewN | apply Blw.drew | refine Blw.setCell ?_ _ _ (by simp)))
set_option maxHeartbeats 400000 in
theorem ref07Mul_any (a b c d : Nat) (w : World) : Calls Try.prog 46 #[.complex .f64 a b, .complex .f64 c d] w (CRes (fS (fM a c) (fM b d)) (fA (fM a d) (fM b c)) w) := by
  go_enter Try.func46, Try.ntmps46
  go_wp2
  go_ret
  exact CRes.mk (Fl.same_sub (Fl.same_mul (.refl _) (.refl _) _ _) (Fl.same_mul (.refl _) (.refl _) _ _) _ _) (Fl.same_add (Fl.same_mul (.refl _) (.refl _) _ _) (Fl.same_mul (.refl _) (.refl _) _ _) _ _) (Fl.fop_lt _ _ _ _) (Fl.fop_lt _ _ _ _) (by repeat (first | exact Blw.refl _ | apply Blw.ext | apply Blw.alloc | apply Blw.drewN | apply Blw.drew | refine Blw.setCell ?_ _ _ (by simp)))
set_option maxHeartbeats 400000 in
theorem partsScale_any (x c d : Nat) (w : World) : Calls Try.prog 47 #[.float .f64 x, .complex .f64 c d] w (CRes (fM x c) (fM x d) w) := by
  go_enter Try.func47, Try.ntmps47
  go_wp2
  go_ret
  exact CRes.mk (Fl.same_mul (.refl _) (.refl _) _ _) (Fl.same_mul (.refl _) (.refl _) _ _) (Fl.fop_lt _ _ _ _) (Fl.fop_lt _ _ _ _) (by repeat (first | exact Blw.refl _ | apply Blw.ext | apply Blw.alloc | apply Blw.drewN | apply Blw.drew | refine Blw.setCell ?_ _ _ (by simp)))
set_option maxHeartbeats 400000 in
theorem ref07Scale_any (x c d : Nat) (w : World) : Calls Try.prog 48 #[.float .f64 x, .complex .f64 c d] w (CRes (fM x c) (fM x d) w) := by
  go_enter Try.func48, Try.ntmps48
  go_wp2
  go_ret
  exact CRes.mk (Fl.same_mul (.refl _) (.refl _) _ _) (Fl.same_mul (.refl _) (.refl _) _ _) (Fl.fop_lt _ _ _ _) (Fl.fop_lt _ _ _ _) (by repeat (first | exact Blw.refl _ | apply Blw.ext | apply Blw.alloc | apply Blw.drewN | apply Blw.drew | refine Blw.setCell ?_ _ _ (by simp)))
set_option maxHeartbeats 400000 in
theorem partsConj_any (a b : Nat) (w : World) : Calls Try.prog 49 #[.complex .f64 a b] w fun e w' => e = .returned (.complex .f64 a (Op.negFloat .f64 b)) ∧ w' = w := by
  go_enter Try.func49, Try.ntmps49
  go_wp2
  go_ret
  exact ⟨rfl, rfl⟩
set_option maxHeartbeats 400000 in
theorem ref07Conj_any (a b : Nat) (w : World) : Calls Try.prog 50 #[.complex .f64 a b] w fun e w' => e = .returned (.complex .f64 a (Op.negFloat .f64 b)) ∧ w' = w := by
  go_enter Try.func50, Try.ntmps50
  go_wp2
  go_ret
  exact ⟨rfl, rfl⟩
set_option maxHeartbeats 400000 in
theorem partsNeg_any (a b : Nat) (w : World) : Calls Try.prog 51 #[.complex .f64 a b] w fun e w' => e = .returned (.complex .f64 (Op.negFloat .f64 a) (Op.negFloat .f64 b)) ∧ w' = w := by
  go_enter Try.func51, Try.ntmps51
  go_wp2
  go_ret
  exact ⟨rfl, rfl⟩
set_option maxHeartbeats 400000 in
theorem ref07Neg_any (a b : Nat) (w : World) : Calls Try.prog 52 #[.complex .f64 a b] w fun e w' => e = .returned (.complex .f64 (Op.negFloat .f64 a) (Op.negFloat .f64 b)) ∧ w' = w := by
  go_enter Try.func52, Try.ntmps52
  go_wp2
  go_ret
  exact ⟨rfl, rfl⟩
end Go.Proofs.Ytigkfdoeneemeaa
/- parts.Exact: the complex fraction that a number is. -/
namespace Go.Proofs.Ytigkfdoeneemeaa
open Go.RowKit

/-- A complex fraction as a value. -/
abbrev gaV (x y : FL) : Value := .agg #[.bool x.r.neg, .slice x.a x.r.num.length x.c, .slice x.b x.r.den.length x.d, .bool y.r.neg, .slice y.a y.r.num.length y.c, .slice y.b y.r.den.length y.d]
/-- The result's block of six cells. -/
theorem sixR {w : World} {g : Nat} {v0 v1 v2 v3 v4 v5 : Value} {t : TypeId} (h : w.heap[g]? = some (.cells #[v0, v1, v2, v3, v4, v5] t (0, 0))) (u0 u1 u2 u3 u4 u5 : Value) :
    (∀ i, w.frozen? ⟨g, i, none⟩ = false) ∧ w.cell? ⟨g, 0, none⟩ = some v0 ∧ w.cell? ⟨g, 1, none⟩ = some v1 ∧ w.cell? ⟨g, 2, none⟩ = some v2 ∧ w.cell? ⟨g, 3, none⟩ = some v3 ∧ w.cell? ⟨g, 4, none⟩ = some v4 ∧ w.cell? ⟨g, 5, none⟩ = some v5 ∧
    (w.setCell ⟨g, 0, none⟩ u0).cell? ⟨g, 0, none⟩ = some u0 ∧ ((w.setCell ⟨g, 0, none⟩ u0).setCell ⟨g, 1, none⟩ u1).cell? ⟨g, 1, none⟩ = some u1 ∧ (((w.setCell ⟨g, 0, none⟩ u0).setCell ⟨g, 1, none⟩ u1).setCell ⟨g, 2, none⟩ u2).cell? ⟨g, 2, none⟩ = some u2 ∧
    ((((w.setCell ⟨g, 0, none⟩ u0).setCell ⟨g, 1, none⟩ u1).setCell ⟨g, 2, none⟩ u2).setCell ⟨g, 3, none⟩ u3).cell? ⟨g, 3, none⟩ = some u3 ∧ (((((w.setCell ⟨g, 0, none⟩ u0).setCell ⟨g, 1, none⟩ u1).setCell ⟨g, 2, none⟩ u2).setCell ⟨g, 3, none⟩ u3).setCell ⟨g, 4, none⟩ u4).cell? ⟨g, 4, none⟩ = some u4 ∧
    ((((((w.setCell ⟨g, 0, none⟩ u0).setCell ⟨g, 1, none⟩ u1).setCell ⟨g, 2, none⟩ u2).setCell ⟨g, 3, none⟩ u3).setCell ⟨g, 4, none⟩ u4).setCell ⟨g, 5, none⟩ u5).cell? ⟨g, 5, none⟩ = some u5 :=
  have a0 := at_set 0 u0 h
  have a1 := at_set 1 u1 a0
  have a2 := at_set 2 u2 a1
  have a3 := at_set 3 u3 a2
  have a4 := at_set 4 u4 a3
  have a5 := at_set 5 u5 a4
  ⟨fun i => frozen_of_row w g i _ _ h, (cell_of_row w g 0 _ _ _ h).trans rfl, (cell_of_row w g 1 _ _ _ h).trans rfl, (cell_of_row w g 2 _ _ _ h).trans rfl, (cell_of_row w g 3 _ _ _ h).trans rfl, (cell_of_row w g 4 _ _ _ h).trans rfl, (cell_of_row w g 5 _ _ _ h).trans rfl,
    (cell_of_row _ g 0 _ _ _ a0).trans (by simp), (cell_of_row _ g 1 _ _ _ a1).trans (by simp), (cell_of_row _ g 2 _ _ _ a2).trans (by simp), (cell_of_row _ g 3 _ _ _ a3).trans (by simp), (cell_of_row _ g 4 _ _ _ a4).trans (by simp), (cell_of_row _ g 5 _ _ _ a5).trans (by simp)⟩
theorem sixR_kept (w : World) (g : Nat) (u0 u1 u2 u3 u4 u5 : Value) : KeptO (· = g) w ((((((w.setCell ⟨g, 0, none⟩ u0).setCell ⟨g, 1, none⟩ u1).setCell ⟨g, 2, none⟩ u2).setCell ⟨g, 3, none⟩ u3).setCell ⟨g, 4, none⟩ u4).setCell ⟨g, 5, none⟩ u5) := by
  repeat (refine KeptO.setCell ?_ _ _ (.inl rfl))
  exact KeptO.refl w
theorem own_rng' {w : World} {B size n : Nat} {e : TypeId} {v : Value} {cs : List Value} (h : w.ownsRow B e size v n cs) : ∀ k, v.ownBlock = some k → B ≤ k ∧ k < w.heap.size := by
  intro k hk
  rcases h.2 with ⟨rfl, -⟩ | ⟨g, cap, cur, rfl, hg, hh, -⟩
  · cases hk
  · cases hk
    exact ⟨hg, (Array.getElem?_eq_some_iff.1 hh).1⟩
theorem OwnFL.kept' {B g : Nat} {w w' : World} {x : FL} (h : OwnFL B w x) (k : KeptO (· = g) w w') (hg : g < B ∨ w.heap.size ≤ g) : OwnFL B w' x :=
  ⟨k.own h.1 (fun i hi e => by have := own_rng' h.1 i hi; omega), k.own h.2.1 (fun i hi e => by have := own_rng' h.2.1 i hi; omega), h.2.2.1, h.2.2.2⟩
theorem OwnFL.mono' {B B' : Nat} {w : World} {x : FL} (h : OwnFL B w x) (k : B' ≤ B) : OwnFL B' w x := ⟨ownsRow_mono h.1 k, ownsRow_mono h.2.1 k, h.2.2.1, h.2.2.2⟩

/-- The complex fraction that the number is. -/
def RetGs (a b : Nat) (w : World) (e : Ending) (w' : World) : Prop :=
  ∃ x y : FL, ExF a x.r ∧ ExF b y.r ∧ e = .returned (.tuple #[gaV x y, .int .i64 0]) ∧ Blw w w' ∧ OwnFL w.heap.size w' x ∧ OwnFL w.heap.size w' y

set_option maxRecDepth 100000 in
set_option maxHeartbeats 4000000 in
theorem partsExact_bad (a b : Nat) (w : World) (ha : a < 2 ^ 64) (hb : b < 2 ^ 64) (hf : (Fl.isFin a && Fl.isFin b) = false) :
    Calls Try.prog 115 #[.complex .f64 a b] w fun e w' => e = .returned (.tuple #[gaV ⟨⟨false, [], []⟩, none, 0, none, 0⟩ ⟨⟨false, [], []⟩, none, 0, none, 0⟩, .int .i64 8]) ∧ ∃ z, w' = w.ext z := by
  go_enter Try.func115, Try.ntmps115
  go_wp2_with fail
  refine (partsFiniteC_any _ _ _ ha hb).mono ?_
  rintro e w1 ⟨rfl, rfl⟩
  rw [hf]
  go_wp2
  exact bodyPost_ret (v := .tuple #[.agg #[.bool false, .slice none 0 0, .slice none 0 0, .bool false, .slice none 0 0, .slice none 0 0], .int .i64 8]) (by simp [results, Try.results115, go_sem]) rfl ⟨rfl, Blw.is (by repeat (first | exact Blw.refl _ | apply Blw.ext | apply Blw.alloc | apply Blw.drewN | apply Blw.drew | refine Blw.setCell ?_ _ _ (by simp)))⟩

set_option maxRecDepth 100000 in
set_option maxHeartbeats 4000000 in
theorem partsExact_ok (a b : Nat) (w : World) (ha : a < 2 ^ 64) (hb : b < 2 ^ 64) (fa : Fl.isFin a = true) (fb : Fl.isFin b = true) :
    Calls Try.prog 115 #[.complex .f64 a b] w (RetGs a b w) := by
  have hF0 : (w.alloc (.cells #[.bool false, .slice none 0 0, .slice none 0 0, .bool false, .slice none 0 0, .slice none 0 0] 131)).heap[w.heap.size]? = some (.cells #[.bool false, .slice none 0 0, .slice none 0 0, .bool false, .slice none 0 0, .slice none 0 0] 131 (0, 0)) := heap_alloc_new _ _
  have hB0 : (w.alloc (.cells #[.bool false, .slice none 0 0, .slice none 0 0, .bool false, .slice none 0 0, .slice none 0 0] 131)).heap.size = w.heap.size + 1 := by simp
  go_enter Try.func115, Try.ntmps115
  go_wp2_with fail
  refine (partsFiniteC_any _ _ _ ha hb).mono ?_
  rintro e w1 ⟨rfl, rfl⟩
  rw [fa, fb]
  go_wp2_with fail
  refine Calls.mono (realExact_ok a _ ha fa) ?_
  rintro e W1 ⟨r, hr, p1, q1, p2, q2, rfl, hb1, o1, o2⟩
  rw [hB0] at o1 o2
  have HR := Lib.hid hr
  have hF1 := (KeptO.of_blw (O := fun _ => False) hb1).heap hF0 id
  clear hr
  obtain ⟨rn, rnum, rden⟩ := r
  go_wp2_with fail
  refine Calls.mono (realExact_ok b _ hb fb) ?_
  rintro e W2 ⟨s, hs, p3, q3, p4, q4, rfl, hb2, o3, o4⟩
  have HS := Lib.hid hs
  obtain ⟨k0, k1, k2, k3⟩ := box3 hb2
  have hF2 := (KeptO.of_blw (O := fun _ => False) hb2).heap ((KeptO.of_blw (O := fun _ => False) ((Blw.refl W1).alloc _)).heap hF1 id) id
  clear hs hF0 hF1
  obtain ⟨sn, snum, sden⟩ := s
  have hF3 := (KeptO.of_blw (O := fun _ => False) ((Blw.refl W2).alloc (.cells #[.bool sn, .slice p3 snum.length q3, .slice p4 sden.length q4] 88))).heap hF2 id
  have hb3 : Blw w (W2.alloc (.cells #[.bool sn, .slice p3 snum.length q3, .slice p4 sden.length q4] 88)) := ((((Blw.refl w).alloc _).trans hb1).trans (((Blw.refl W1).alloc _).trans hb2)).alloc _
  have z1 : w.heap.size + 1 ≤ W1.heap.size := by have := hb1.size; simpa using this
  obtain ⟨hfz, e0, e1, e2, e3, e4, e5, r0, r1, r2, r3, r4, r5⟩ := sixR hF3 (.bool rn) (.slice p1 rnum.length q1) (.slice p2 rden.length q2) (.bool sn) (.slice p3 snum.length q3) (.slice p4 sden.length q4)
  have hK := sixR_kept (W2.alloc (.cells #[.bool sn, .slice p3 snum.length q3, .slice p4 sden.length q4] 88)) w.heap.size (.bool rn) (.slice p1 rnum.length q1) (.slice p2 rden.length q2) (.bool sn) (.slice p3 snum.length q3) (.slice p4 sden.length q4)
  have O1 : OwnFL (w.heap.size + 1) (W2.alloc (.cells #[.bool sn, .slice p3 snum.length q3, .slice p4 sden.length q4] 88)) ⟨⟨rn, rnum, rden⟩, p1, q1, p2, q2⟩ := OwnFL.blw ⟨o1, o2, HR.out.wn, HR.out.wd⟩ ((((Blw.refl W1).alloc _).trans hb2).alloc _)
  have O2 : OwnFL (w.heap.size + 1) (W2.alloc (.cells #[.bool sn, .slice p3 snum.length q3, .slice p4 sden.length q4] 88)) ⟨⟨sn, snum, sden⟩, p3, q3, p4, q4⟩ := OwnFL.blw ⟨ownsRow_mono o3 (by simp; omega), ownsRow_mono o4 (by simp; omega), HS.out.wn, HS.out.wd⟩ ((Blw.refl W2).alloc _)
  have P1 := Lib.hid ((O1.kept' hK (.inl (Nat.lt_succ_self _))).mono' (Nat.le_succ _))
  have P2 := Lib.hid ((O2.kept' hK (.inl (Nat.lt_succ_self _))).mono' (Nat.le_succ _))
  have PB := Lib.hid (KeptO.blw hb3 hK (fun i hi => by subst hi; exact Nat.le_refl _))
  clear hF2 hF3 hK O1 O2 o1 o2 o3 o4 hb1 hb2 hb3
  go_wp2
  exact bodyPost_ret (v := .tuple #[.agg #[.bool rn, .slice p1 rnum.length q1, .slice p2 rden.length q2, .bool sn, .slice p3 snum.length q3, .slice p4 sden.length q4], .int .i64 0]) (by simp [results, Try.results115, go_sem, r0, r1, r2, r3, r4, r5]) rfl
    ⟨⟨⟨rn, rnum, rden⟩, p1, q1, p2, q2⟩, ⟨⟨sn, snum, sden⟩, p3, q3, p4, q4⟩, HR.out, HS.out, rfl, PB.out, P1.out, P2.out⟩
end Go.Proofs.Ytigkfdoeneemeaa
/- Walks of both Abs of a complex number. -/
namespace Go.Proofs.Ytigkfdoeneemeaa
open Go.RowKit

set_option maxHeartbeats 400000 in
theorem ref07Size_any (x : Nat) (w : World) (hx : x < 2 ^ 64) :
    Calls Try.prog 111 #[.float .f64 x] w fun e w' => e = .returned (.float .f64 (x % 2 ^ 63)) ∧ w' = w := by
  go_enter Try.func111, Try.ntmps111
  go_wp2_with (go_at_call 63; refine (abs_any _ _ hx).mono ?_; rintro e w' ⟨rfl, rfl⟩)
  go_ret
  exact ⟨by simp, rfl⟩

set_option maxHeartbeats 400000 in
theorem sqrt_any (x : Nat) (w : World) : Calls Try.prog 110 #[.float .f64 x] w fun e w' => e = .returned (.float .f64 (Fl.fsq x w)) ∧ ∃ n, w' = w.drewN n := by
  go_enter Try.func110, Try.ntmps110
  go_wp2
  go_ret
  exact ⟨rfl, _, rfl⟩
set_option maxHeartbeats 400000 in
theorem inf_any (w : World) : Calls Try.prog 109 #[.int .i64 1] w fun e w' => e = .returned (.float .f64 9218868437227405312) ∧ w' = w := by
  go_enter Try.func109, Try.ntmps109
  go_wp2
  go_ret
  exact ⟨rfl, rfl⟩
def hyp (m n : Nat) : Nat := fM m (Fl.fsq (fA 4607182418800017408 (fM (fQ n m) (fQ n m))) default)
/-- The size of a complex number, of its parts' sizes. -/
def absS (x y : Nat) : Nat :=
  if (Fl.isNaN x || Fl.isNaN y) = true then 9221120237041090561
  else if (Fl.isInf x || Fl.isInf y) = true then 9218868437227405312
  else if (Fl.ord x y == some .lt) = true then (if (Fl.ord y 0 == some .eq) = true then 0 else hyp y x)
  else (if (Fl.ord x 0 == some .eq) = true then 0 else hyp x y)
def FRes (r : Nat) (w : World) (e : Ending) (w' : World) : Prop := ∃ (s : Nat) (x : World), e = .returned (.float .f64 s) ∧ Hid (Fl.same r s) ∧ s < 2 ^ 64 ∧ w' = w.ext x
theorem FRes.mk {r s : Nat} {w w' : World} (h : Fl.same r s) (l : s < 2 ^ 64) (b : Blw w w') : FRes r w (.returned (.float .f64 s)) w' := by
  obtain ⟨x, rfl⟩ := b.is
  exact ⟨s, x, rfl, h, l, rfl⟩
theorem hyp_same (m n : Nat) (w1 w2 w3 w4 w5 : World) : Fl.same (hyp m n) (Fl.fop .mul m (Fl.fsq (Fl.fop .add 4607182418800017408 (Fl.fop .mul (Fl.fop .quo n m w1) (Fl.fop .quo n m w1) w2) w3) w4) w5) :=
  Fl.same_mul (.refl _) (Fl.same_sqrt (Fl.same_add (.refl _) (Fl.same_mul (Fl.same_quo (.refl _) (.refl _) _ _) (Fl.same_quo (.refl _) (.refl _) _ _) _ _) _ _) _ _) _ _
theorem abs_is (a x : Nat) (w : World) (ha : a < 2 ^ 64) (h : Hid (a % 2 ^ 63 = x)) : Calls Try.prog 63 #[.float .f64 a] w fun e w' => e = .returned (.float .f64 x) ∧ w' = w := by
  rw [← h.out]; exact abs_any a w ha
theorem size_is (a x : Nat) (w : World) (ha : a < 2 ^ 64) (h : Hid (a % 2 ^ 63 = x)) : Calls Try.prog 111 #[.float .f64 a] w fun e w' => e = .returned (.float .f64 x) ∧ w' = w := by
  rw [← h.out]; exact ref07Size_any a w ha
set_option maxHeartbeats 1000000 in
theorem partsAbs_any (a b : Nat) (w : World) (ha : a < 2 ^ 64) (hb : b < 2 ^ 64) : Calls Try.prog 54 #[.complex .f64 a b] w (FRes (absS (a % 2 ^ 63) (b % 2 ^ 63)) w) := by
  have lx : a % 2 ^ 63 < 2 ^ 64 := Nat.lt_of_lt_of_le (Nat.mod_lt _ (by decide)) (by decide)
  have ly : b % 2 ^ 63 < 2 ^ 64 := Nat.lt_of_lt_of_le (Nat.mod_lt _ (by decide)) (by decide)
  obtain ⟨x, ex⟩ := ex_hid (a % 2 ^ 63)
  obtain ⟨y, ey⟩ := ex_hid (b % 2 ^ 63)
  rw [ex.out] at lx; rw [ey.out] at ly
  have n1 : (FloatKind.f64.format.order x x != some .eq) = Fl.isNaN x := Fl.ord_self_ne x
  have n2 : (FloatKind.f64.format.order y y != some .eq) = Fl.isNaN y := Fl.ord_self_ne y
  rw [ex.out, ey.out]
  go_enter Try.func54, Try.ntmps54
  go_wp2_with fail
  refine (abs_is a x _ ha ex).mono ?_
  rintro e w' ⟨rfl, rfl⟩
  go_wp2_with fail
  refine (abs_is b y _ hb ey).mono ?_
  rintro e w' ⟨rfl, rfl⟩
  cases nx : Fl.isNaN x <;> cases ny : Fl.isNaN y <;> rw [nx] at n1 <;> rw [ny] at n2
  case false.false =>
    cases ix : Fl.isInf x <;> cases iy : Fl.isInf y
    case false.false =>
      cases hlt : (FloatKind.f64.format.order x y == some .lt)
      · cases h0 : (FloatKind.f64.format.order x 0 == some .eq)
        all_goals
          go_wp2_with (first | (go_at_call 64; (with_reducible refine (isInf_any x _ lx).mono ?_); rintro e w' ⟨rfl, rfl⟩) | (go_at_call 64; (with_reducible refine (isInf_any y _ ly).mono ?_); rintro e w' ⟨rfl, rfl⟩) | (go_at_call 110; refine (sqrt_any _ _).mono ?_; rintro e w' ⟨rfl, n, rfl⟩) | (go_at_call 109; refine (inf_any _).mono ?_; rintro e w' ⟨rfl, rfl⟩))
          go_ret
          refine FRes.mk ?_ ?_ (by repeat (first | exact Blw.refl _ | apply Blw.ext | apply Blw.alloc | apply Blw.drewN | apply Blw.drew | refine Blw.setCell ?_ _ _ (by simp)))
          · unfold absS; rw [if_neg (by simp [nx, ny]), if_neg (by simp [ix, iy]), if_neg (by show ¬ (FloatKind.f64.format.order x y == some .lt) = true; rw [hlt]; simp)]
            first | (rw [if_pos (by show (FloatKind.f64.format.order x 0 == some .eq) = true; rw [h0])]; exact .refl _) | (rw [if_neg (by show ¬ (FloatKind.f64.format.order x 0 == some .eq) = true; rw [h0]; simp)]; exact hyp_same _ _ _ _ _ _ _)
          · first | exact Fl.fop_lt _ _ _ _ | decide
      · cases h0 : (FloatKind.f64.format.order y 0 == some .eq)
        all_goals
          go_wp2_with (first | (go_at_call 64; (with_reducible refine (isInf_any x _ lx).mono ?_); rintro e w' ⟨rfl, rfl⟩) | (go_at_call 64; (with_reducible refine (isInf_any y _ ly).mono ?_); rintro e w' ⟨rfl, rfl⟩) | (go_at_call 110; refine (sqrt_any _ _).mono ?_; rintro e w' ⟨rfl, n, rfl⟩) | (go_at_call 109; refine (inf_any _).mono ?_; rintro e w' ⟨rfl, rfl⟩))
          go_ret
          refine FRes.mk ?_ ?_ (by repeat (first | exact Blw.refl _ | apply Blw.ext | apply Blw.alloc | apply Blw.drewN | apply Blw.drew | refine Blw.setCell ?_ _ _ (by simp)))
          · unfold absS; rw [if_neg (by simp [nx, ny]), if_neg (by simp [ix, iy]), if_pos (by show (FloatKind.f64.format.order x y == some .lt) = true; rw [hlt])]
            first | (rw [if_pos (by show (FloatKind.f64.format.order y 0 == some .eq) = true; rw [h0])]; exact .refl _) | (rw [if_neg (by show ¬ (FloatKind.f64.format.order y 0 == some .eq) = true; rw [h0]; simp)]; exact hyp_same _ _ _ _ _ _ _)
          · first | exact Fl.fop_lt _ _ _ _ | decide
    all_goals
      go_wp2_with (first | (go_at_call 64; (with_reducible refine (isInf_any x _ lx).mono ?_); rintro e w' ⟨rfl, rfl⟩) | (go_at_call 64; (with_reducible refine (isInf_any y _ ly).mono ?_); rintro e w' ⟨rfl, rfl⟩) | (go_at_call 110; refine (sqrt_any _ _).mono ?_; rintro e w' ⟨rfl, n, rfl⟩) | (go_at_call 109; refine (inf_any _).mono ?_; rintro e w' ⟨rfl, rfl⟩))
      go_ret
      exact FRes.mk (by unfold absS; rw [if_neg (by simp [nx, ny]), if_pos (by simp [ix, iy])]; exact .refl _) (by decide) (by repeat (first | exact Blw.refl _ | apply Blw.ext | apply Blw.alloc | apply Blw.drewN | apply Blw.drew | refine Blw.setCell ?_ _ _ (by simp)))
  all_goals
    go_wp2
    go_ret
    exact FRes.mk (by unfold absS; rw [if_pos (by simp [nx, ny])]; exact .refl _) (by decide) (by repeat (first | exact Blw.refl _ | apply Blw.ext | apply Blw.alloc | apply Blw.drewN | apply Blw.drew | refine Blw.setCell ?_ _ _ (by simp)))
set_option maxHeartbeats 1000000 in
theorem ref07Abs_any (a b : Nat) (w : World) (ha : a < 2 ^ 64) (hb : b < 2 ^ 64) : Calls Try.prog 55 #[.complex .f64 a b] w (FRes (absS (a % 2 ^ 63) (b % 2 ^ 63)) w) := by
  have lx : a % 2 ^ 63 < 2 ^ 64 := Nat.lt_of_lt_of_le (Nat.mod_lt _ (by decide)) (by decide)
  have ly : b % 2 ^ 63 < 2 ^ 64 := Nat.lt_of_lt_of_le (Nat.mod_lt _ (by decide)) (by decide)
  obtain ⟨x, ex⟩ := ex_hid (a % 2 ^ 63)
  obtain ⟨y, ey⟩ := ex_hid (b % 2 ^ 63)
  rw [ex.out] at lx; rw [ey.out] at ly
  have n1 : (FloatKind.f64.format.order x x != some .eq) = Fl.isNaN x := Fl.ord_self_ne x
  have n2 : (FloatKind.f64.format.order y y != some .eq) = Fl.isNaN y := Fl.ord_self_ne y
  rw [ex.out, ey.out]
  go_enter Try.func55, Try.ntmps55
  go_wp2_with fail
  refine (size_is a x _ ha ex).mono ?_
  rintro e w' ⟨rfl, rfl⟩
  go_wp2_with fail
  refine (size_is b y _ hb ey).mono ?_
  rintro e w' ⟨rfl, rfl⟩
  cases nx : Fl.isNaN x <;> cases ny : Fl.isNaN y <;> rw [nx] at n1 <;> rw [ny] at n2
  case false.false =>
    cases ix : Fl.isInf x <;> cases iy : Fl.isInf y
    case false.false =>
      cases hlt : (FloatKind.f64.format.order x y == some .lt)
      · cases h0 : (FloatKind.f64.format.order x 0 == some .eq)
        all_goals
          go_wp2_with (first | (go_at_call 64; (with_reducible refine (isInf_any x _ lx).mono ?_); rintro e w' ⟨rfl, rfl⟩) | (go_at_call 64; (with_reducible refine (isInf_any y _ ly).mono ?_); rintro e w' ⟨rfl, rfl⟩) | (go_at_call 110; refine (sqrt_any _ _).mono ?_; rintro e w' ⟨rfl, n, rfl⟩) | (go_at_call 109; refine (inf_any _).mono ?_; rintro e w' ⟨rfl, rfl⟩))
          go_ret
          refine FRes.mk ?_ ?_ (by repeat (first | exact Blw.refl _ | apply Blw.ext | apply Blw.alloc | apply Blw.drewN | apply Blw.drew | refine Blw.setCell ?_ _ _ (by simp)))
          · unfold absS; rw [if_neg (by simp [nx, ny]), if_neg (by simp [ix, iy]), if_neg (by show ¬ (FloatKind.f64.format.order x y == some .lt) = true; rw [hlt]; simp)]
            first | (rw [if_pos (by show (FloatKind.f64.format.order x 0 == some .eq) = true; rw [h0])]; exact .refl _) | (rw [if_neg (by show ¬ (FloatKind.f64.format.order x 0 == some .eq) = true; rw [h0]; simp)]; exact hyp_same _ _ _ _ _ _ _)
          · first | exact Fl.fop_lt _ _ _ _ | decide
      · cases h0 : (FloatKind.f64.format.order y 0 == some .eq)
        all_goals
          go_wp2_with (first | (go_at_call 64; (with_reducible refine (isInf_any x _ lx).mono ?_); rintro e w' ⟨rfl, rfl⟩) | (go_at_call 64; (with_reducible refine (isInf_any y _ ly).mono ?_); rintro e w' ⟨rfl, rfl⟩) | (go_at_call 110; refine (sqrt_any _ _).mono ?_; rintro e w' ⟨rfl, n, rfl⟩) | (go_at_call 109; refine (inf_any _).mono ?_; rintro e w' ⟨rfl, rfl⟩))
          go_ret
          refine FRes.mk ?_ ?_ (by repeat (first | exact Blw.refl _ | apply Blw.ext | apply Blw.alloc | apply Blw.drewN | apply Blw.drew | refine Blw.setCell ?_ _ _ (by simp)))
          · unfold absS; rw [if_neg (by simp [nx, ny]), if_neg (by simp [ix, iy]), if_pos (by show (FloatKind.f64.format.order x y == some .lt) = true; rw [hlt])]
            first | (rw [if_pos (by show (FloatKind.f64.format.order y 0 == some .eq) = true; rw [h0])]; exact .refl _) | (rw [if_neg (by show ¬ (FloatKind.f64.format.order y 0 == some .eq) = true; rw [h0]; simp)]; exact hyp_same _ _ _ _ _ _ _)
          · first | exact Fl.fop_lt _ _ _ _ | decide
    all_goals
      go_wp2_with (first | (go_at_call 64; (with_reducible refine (isInf_any x _ lx).mono ?_); rintro e w' ⟨rfl, rfl⟩) | (go_at_call 64; (with_reducible refine (isInf_any y _ ly).mono ?_); rintro e w' ⟨rfl, rfl⟩) | (go_at_call 110; refine (sqrt_any _ _).mono ?_; rintro e w' ⟨rfl, n, rfl⟩) | (go_at_call 109; refine (inf_any _).mono ?_; rintro e w' ⟨rfl, rfl⟩))
      go_ret
      exact FRes.mk (by unfold absS; rw [if_neg (by simp [nx, ny]), if_pos (by simp [ix, iy])]; exact .refl _) (by decide) (by repeat (first | exact Blw.refl _ | apply Blw.ext | apply Blw.alloc | apply Blw.drewN | apply Blw.drew | refine Blw.setCell ?_ _ _ (by simp)))
  all_goals
    go_wp2
    go_ret
    exact FRes.mk (by unfold absS; rw [if_pos (by simp [nx, ny])]; exact .refl _) (by decide) (by repeat (first | exact Blw.refl _ | apply Blw.ext | apply Blw.alloc | apply Blw.drewN | apply Blw.drew | refine Blw.setCell ?_ _ _ (by simp)))
end Go.Proofs.Ytigkfdoeneemeaa
/- PartsTurns, the plain part: products and sums do not hang on the order; signs; the size lies between the greater part and one and a half times it. -/
namespace Go.Proofs.Ytigkfdoeneemeaa
open Go Ieee

namespace Fl
theorem neg_is {x : Nat} (h : x < 2 ^ 64) : Op.negFloat .f64 x = if x < 2 ^ 63 then 2 ^ 63 + x else x - 2 ^ 63 := by
  have key : ∀ r, r < 2 ^ 63 → r ^^^ 2 ^ 63 = 2 ^ 63 + r := by
    intro r hr
    apply Nat.eq_of_testBit_eq
    intro i
    rw [Nat.testBit_xor, Nat.testBit_two_pow]
    rcases Nat.lt_trichotomy i 63 with c | c | c
    · rw [Nat.testBit_two_pow_add_gt c]
      have : decide (63 = i) = false := by simp; omega
      rw [this]; simp
    · subst c
      rw [Nat.testBit_two_pow_add_eq]
      simp
    · have e1 : r.testBit i = false := Nat.testBit_lt_two_pow (Nat.lt_of_lt_of_le hr (Nat.pow_le_pow_right (by omega) (by omega)))
      have e2 : (2 ^ 63 + r).testBit i = false := Nat.testBit_lt_two_pow (Nat.lt_of_lt_of_le (show 2 ^ 63 + r < 2 ^ 64 by omega) (Nat.pow_le_pow_right (by omega) (by omega)))
      have : decide (63 = i) = false := by simp; omega
      rw [e1, e2, this]; rfl
  show x ^^^ 2 ^ 63 = _
  by_cases c : x < 2 ^ 63
  · rw [if_pos c]; exact key x c
  · rw [if_neg c]
    have e := key (x - 2 ^ 63) (by omega)
    have : x = (x - 2 ^ 63) ^^^ 2 ^ 63 := by rw [e]; omega
    rw [this, Nat.xor_assoc, Nat.xor_self, Nat.xor_zero, ← this]
theorem neg_mod {x : Nat} (h : x < 2 ^ 64) : Op.negFloat .f64 x % 2 ^ 63 = x % 2 ^ 63 := by
  rw [neg_is h]; split <;> omega
theorem neg_fneg {x : Nat} (h : x < 2 ^ 64) : fneg (Op.negFloat .f64 x) = !fneg x := by
  rw [neg_is h]; unfold fneg
  by_cases c : x < 2 ^ 63
  · rw [if_pos c]
    have a : (2 ^ 63 + x) / 2 ^ 63 % 2 = 1 := by omega
    have b : x / 2 ^ 63 % 2 = 0 := by omega
    rw [a, b]; rfl
  · rw [if_neg c]
    have a : (x - 2 ^ 63) / 2 ^ 63 % 2 = 0 := by omega
    have b : x / 2 ^ 63 % 2 = 1 := by omega
    rw [a, b]; rfl
theorem neg_neg {x : Nat} (_ : x < 2 ^ 64) : Op.negFloat .f64 (Op.negFloat .f64 x) = x := by
  show x ^^^ 2 ^ 63 ^^^ 2 ^ 63 = x
  rw [Nat.xor_assoc, Nat.xor_self, Nat.xor_zero]
theorem fin_mod {x y : Nat} (h : x % 2 ^ 63 = y % 2 ^ 63) : isFin x = isFin y := by rw [← isFin_mod x, h, isFin_mod]
theorem nan_mod {x y : Nat} (h : x % 2 ^ 63 = y % 2 ^ 63) : isNaN x = isNaN y := by rw [← isNaN_mod x, h, isNaN_mod]
theorem inf_mod {x y : Nat} (h : x % 2 ^ 63 = y % 2 ^ 63) : isInf x = isInf y := by rw [← isInf_mod x, h, isInf_mod]
theorem same_neg {x y : Nat} (hx : x < 2 ^ 64) (hy : y < 2 ^ 64) (h : same x y) : same (Op.negFloat .f64 x) (Op.negFloat .f64 y) := by
  rcases h with rfl | ⟨a, b⟩
  · exact .inl rfl
  · exact .inr ⟨by rw [nan_mod (neg_mod hx)]; exact a, by rw [nan_mod (neg_mod hy)]; exact b⟩

/-- A double's opposite stands for the opposite. -/
theorem read_neg {x : Nat} (h : x < 2 ^ 64) : double.read (Op.negFloat .f64 x) = (double.read x).opposite := by
  have e := neg_mod h
  have f := neg_fneg h
  rw [read_eq, read_eq, e]
  have g1 : (Op.negFloat .f64 x / 2 ^ 63 % 2 == 1) = !(x / 2 ^ 63 % 2 == 1) := by
    have a : ∀ y, (y / 2 ^ 63 % 2 == 1) = fneg y := fun y => by unfold fneg; rw [Bool.eq_iff_iff]; simp
    rw [a, a, f]
  rw [g1]
  split
  · rfl
  · split
    · rfl
    · split <;> rfl

theorem sum_comm (x y : Datum) : x.sum y = y.sum x := by
  cases x <;> cases y <;> try rfl
  case infinity.infinity s t => cases s <;> cases t <;> rfl
  case number.number s m i t n j =>
    simp only [Datum.sum]
    rw [Int.min_comm i j, Int.add_comm (signed s m _), Bool.and_comm s t]
theorem product_comm (x y : Datum) : x.product y = y.product x := by
  cases x <;> cases y <;> try rfl
  case infinity.infinity s t => simp only [Datum.product]; rw [Bool.xor_comm]
  case number.number s m i t n j => simp only [Datum.product]; rw [Bool.xor_comm s t, Nat.mul_comm m n, Int.add_comm i j]
theorem fop_of {op op' : BinOp} {x y u v : Nat} (h : floatBits op .f64 x y = floatBits op' .f64 u v) (w w' : World) : same (fop op x y w) (fop op' u v w') := by
  cases e : floatBits op .f64 x y with
  | some r => rw [e] at h; rw [fop_some e, fop_some h.symm]; exact .inl rfl
  | none => rw [e] at h; exact .inr ⟨fop_none e w, fop_none h.symm w'⟩
theorem bits_add_comm (x y : Nat) : floatBits .add .f64 x y = floatBits .add .f64 y x := by
  show double.add x y = double.add y x
  unfold Format.add; rw [sum_comm]
theorem bits_mul_comm (x y : Nat) : floatBits .mul .f64 x y = floatBits .mul .f64 y x := by
  show double.mul x y = double.mul y x
  unfold Format.mul; rw [product_comm]
/-- Signs go through products. -/
theorem product_opp (x y : Datum) : x.product y.opposite = (x.product y).map Datum.opposite := by
  cases x <;> cases y <;> try rfl
  case infinity.infinity s t => cases s <;> cases t <;> rfl
  case infinity.number s t n j => simp only [Datum.product, Datum.opposite]; split <;> (cases s <;> cases t <;> rfl)
  case number.infinity s m i t => simp only [Datum.product, Datum.opposite]; split <;> (cases s <;> cases t <;> rfl)
  case number.number s m i t n j => cases s <;> cases t <;> rfl
theorem word_opp {r : Nat} (s : Bool) (h : r ≤ infR) : double.word (!s) r = Op.negFloat .f64 (double.word s r) := by
  have := infR_lt
  rw [neg_is (by rw [word_def]; cases s <;> simp <;> omega), word_def, word_def]
  cases s
  · simp only [Bool.not_false, if_true, Bool.false_eq_true, if_false]; rw [if_pos (by omega)]
  · simp only [Bool.not_true, if_true, Bool.false_eq_true, if_false]; rw [if_neg (by omega)]; omega
/-- A product's result: neither a NaN nor a word out of range. -/
theorem mul_opp {x y : Nat} (hy : y < 2 ^ 64) : floatBits .mul .f64 x (Op.negFloat .f64 y) = (floatBits .mul .f64 x y).map (Op.negFloat .f64) := by
  show double.mul x _ = (double.mul x y).map _
  unfold Format.mul
  rw [read_neg hy, product_opp]
  cases h : (double.read x).product (double.read y) with
  | none => rfl
  | some d =>
    simp only [Option.map_some]
    congr 1
    cases d with
    | number s m p =>
      obtain ⟨r, e, k⟩ := rn_nearest s m p (1074 + p.natAbs) (by omega)
      obtain ⟨r', e', k'⟩ := rn_nearest (!s) m p (1074 + p.natAbs) (by omega)
      show double.nearest (!s) m p = Op.negFloat .f64 (double.nearest s m p)
      rw [e, e', k.uniq k', word_opp s k'.le]
    | infinity s => exact word_opp s (Nat.le_refl _)
    | nan s t =>
      exfalso
      revert h
      cases double.read x <;> cases double.read y <;> simp [Datum.product] <;> split <;> simp
theorem same_mul_opp (x : Nat) {y : Nat} (hy : y < 2 ^ 64) (w w' : World) : same (fop .mul x (Op.negFloat .f64 y) w) (Op.negFloat .f64 (fop .mul x y w')) := by
  cases e : floatBits .mul .f64 x y with
  | some r =>
    have f := mul_opp (x := x) hy
    rw [e] at f
    rw [fop_some e, fop_some f]; exact .inl rfl
  | none =>
    have f := mul_opp (x := x) hy
    rw [e] at f
    refine .inr ⟨fop_none f w, ?_⟩
    rw [nan_mod (neg_mod (fop_lt _ _ _ _))]; exact fop_none e w'
theorem same_opp_mul {x : Nat} (y : Nat) (hx : x < 2 ^ 64) (w w' : World) : same (fop .mul (Op.negFloat .f64 x) y w) (Op.negFloat .f64 (fop .mul x y w')) :=
  (fop_of (bits_mul_comm _ _) w w).trans ((same_mul_opp y hx w w').trans (same_neg (fop_lt _ _ _ _) (fop_lt _ _ _ _) (fop_of (bits_mul_comm _ _) w' w')))
theorem opp_opp (d : Datum) : d.opposite.opposite = d := by cases d <;> simp [Datum.opposite]
theorem mul_opp2 {x y : Nat} (hx : x < 2 ^ 64) (hy : y < 2 ^ 64) : floatBits .mul .f64 (Op.negFloat .f64 x) (Op.negFloat .f64 y) = floatBits .mul .f64 x y := by
  show double.mul _ _ = double.mul x y
  unfold Format.mul
  rw [read_neg hy, product_opp, read_neg hx, product_comm, product_opp, product_comm]
  cases (double.read x).product (double.read y) with
  | none => rfl
  | some d => simp only [Option.map_some, opp_opp]

/-- Equal, as floats: not NaN, and the same word or two noughts. -/
theorem ord_eq_of {x y : Nat} (hx : isNaN x = false) (h : x = y ∨ (x % 2 ^ 63 = 0 ∧ y % 2 ^ 63 = 0)) : ord x y = some .eq := by
  rcases h with rfl | ⟨a, b⟩
  · exact ord_self hx
  · have fx : isFin x = true := by unfold isFin; rw [a]; rfl
    have fy : isFin y = true := by unfold isFin; rw [b]; rfl
    rw [ord_fin fx fy]
    have e : ∀ z, z % 2 ^ 63 = 0 → Sv z = 0 := by
      intro z hz
      unfold Sv; rw [V_U, hz, U_zero]; split <;> rfl
    rw [e x a, e y b]; rfl
theorem signed_not (s : Bool) (m k : Nat) : signed (!s) m k = - signed s m k := by unfold signed; cases s <;> simp
/-- A sum of opposites is the opposite, but for the sign of nought. -/
theorem add_opp {s t : Nat} (hs : s < 2 ^ 64) (ht : t < 2 ^ 64) (w w' : World) (n1 : isNaN (fop .add (Op.negFloat .f64 s) (Op.negFloat .f64 t) w) = false) :
    ord (Op.negFloat .f64 (fop .add s t w')) (fop .add (Op.negFloat .f64 s) (Op.negFloat .f64 t) w) = some .eq := by
  cases e' : floatBits .add .f64 (Op.negFloat .f64 s) (Op.negFloat .f64 t) with
  | none => rw [fop_none e' w] at n1; cases n1
  | some r' =>
  have goal : ∃ r, floatBits .add .f64 s t = some r ∧ r < 2 ^ 64 ∧ (Op.negFloat .f64 r = r' ∨ (r % 2 ^ 63 = 0 ∧ r' % 2 ^ 63 = 0)) := by
    have h1 : (((double.read s).opposite).sum ((double.read t).opposite)).map double.write = some r' := by rw [← read_neg hs, ← read_neg ht]; exact e'
    rcases tri s with fs | fs | fs
    · rcases tri t with ft | ft | ft
      · have fs' : isFin (Op.negFloat .f64 s) = true := by rw [fin_mod (neg_mod hs)]; exact fs
        have ft' : isFin (Op.negFloat .f64 t) = true := by rw [fin_mod (neg_mod ht)]; exact ft
        obtain ⟨r, a, k⟩ := add_fin fs ft
        obtain ⟨q, b, k'⟩ := add_fin fs' ft'
        have vs : ∀ z, z < 2 ^ 64 → Sv (Op.negFloat .f64 z) = - Sv z := by
          intro z hz
          unfold Sv; rw [neg_fneg hz, V_U, V_U, neg_mod hz]; cases fneg z <;> simp
        have et : Sv (Op.negFloat .f64 s) + Sv (Op.negFloat .f64 t) = -(Sv s + Sv t) := by rw [vs s hs, vs t ht]; omega
        rw [et] at b k'
        rw [Int.natAbs_neg] at k'
        have rq := k.uniq k'
        subst rq
        rw [e'] at b
        have lr := k.le
        have := infR_lt
        refine ⟨_, a, by rw [word_def]; generalize (if Sv s + Sv t = 0 then fneg s && fneg t else decide (Sv s + Sv t < 0)) = z; cases z <;> simp <;> omega, ?_⟩
        have b' := Option.some.inj b
        by_cases c : Sv s + Sv t = 0
        · right
          have r0 : r = 0 := by
            have h0 := Rn.exact 0 (show 0 ≤ infR by decide)
            rw [U_zero, Nat.zero_mul] at h0
            rw [c] at k
            exact k.uniq h0
          rw [b', r0]
          exact ⟨word_mod (by decide), word_mod (by decide)⟩
        · left
          rw [b', ← word_opp _ lr, if_neg c, if_neg (by omega)]
          congr 1
          rw [Bool.eq_iff_iff]; simp; omega
      · rw [read_fin s fs, read_inf t ft] at h1
        refine ⟨double.word (fneg t) infR, ?_, by rw [word_def]; unfold infR; split <;> decide, .inl ?_⟩
        · show double.add s t = _
          unfold Format.add; rw [read_fin s fs, read_inf t ft]; rfl
        · rw [← word_opp _ (Nat.le_refl _)]; exact Option.some.inj h1
      · obtain ⟨u, v, e⟩ := read_nan t ft
        rw [read_fin s fs, e] at h1; cases h1
    · rcases tri t with ft | ft | ft
      · rw [read_inf s fs, read_fin t ft] at h1
        refine ⟨double.word (fneg s) infR, ?_, by rw [word_def]; unfold infR; split <;> decide, .inl ?_⟩
        · show double.add s t = _
          unfold Format.add; rw [read_inf s fs, read_fin t ft]; rfl
        · rw [← word_opp _ (Nat.le_refl _)]; exact Option.some.inj h1
      · rw [read_inf s fs, read_inf t ft] at h1
        by_cases c : fneg s = fneg t
        · refine ⟨double.word (fneg s) infR, ?_, by rw [word_def]; unfold infR; split <;> decide, .inl ?_⟩
          · show double.add s t = _
            unfold Format.add; rw [read_inf s fs, read_inf t ft]; simp only [Datum.sum, if_pos c]; rfl
          · rw [← word_opp _ (Nat.le_refl _)]
            simp only [Datum.opposite, Datum.sum, c, if_true] at h1
            rw [c]; exact Option.some.inj h1
        · simp only [Datum.opposite, Datum.sum] at h1
          rw [if_neg (by revert c; cases fneg s <;> cases fneg t <;> simp)] at h1
          cases h1
      · obtain ⟨u, v, e⟩ := read_nan t ft
        rw [read_inf s fs, e] at h1; cases h1
    · obtain ⟨u, v, e⟩ := read_nan s fs
      rw [e] at h1; cases h1
  obtain ⟨r, a, lr, h⟩ := goal
  rw [fop_some a, fop_some e']
  rw [fop_some e'] at n1
  refine ord_eq_of ?_ ?_
  · rcases h with h | ⟨h, h'⟩
    · rw [h]; exact n1
    · rw [nan_mod (neg_mod lr)]; unfold isNaN; rw [h]; rfl
  · rcases h with h | ⟨h, h'⟩
    · exact .inl h
    · exact .inr ⟨by rw [neg_mod lr]; exact h, h'⟩

/-- Among sizes, infinity too, the order is that of the words. -/
theorem ord_size {x y : Nat} (hx : x ≤ infR) (hy : y ≤ infR) : ord x y = some (compare x y) := by
  have l := infR_lt
  by_cases a : x < infR
  · by_cases b : y < infR
    · exact ord_pos a b
    · have fx : isFin x = true := by unfold isFin; rw [Nat.mod_eq_of_lt (by omega)]; simpa using a
      have iy : isInf y = true := by unfold isInf; rw [Nat.mod_eq_of_lt (by omega)]; simp; omega
      simp only [ord, Format.order, read_fin x fx, read_inf y iy, Datum.order]
      rw [fneg_small (by omega : y < 2 ^ 63), Nat.compare_eq_lt.2 (by omega)]; rfl
  · have ix : isInf x = true := by unfold isInf; rw [Nat.mod_eq_of_lt (by omega)]; simp; omega
    by_cases b : y < infR
    · have fy : isFin y = true := by unfold isFin; rw [Nat.mod_eq_of_lt (by omega)]; simpa using b
      simp only [ord, Format.order, read_inf x ix, read_fin y fy, Datum.order]
      rw [fneg_small (by omega : x < 2 ^ 63), Nat.compare_eq_gt.2 (by omega)]; rfl
    · have iy : isInf y = true := by unfold isInf; rw [Nat.mod_eq_of_lt (by omega)]; simp; omega
      simp only [ord, Format.order, read_inf x ix, read_inf y iy, Datum.order]
      rw [fneg_small (by omega : x < 2 ^ 63), fneg_small (by omega : y < 2 ^ 63), show x = y by omega, (Nat.compare_eq_eq (a := y) (b := y)).2 rfl]; rfl

/-- A size's facts. -/
theorem size_V {x : Nat} (h : x ≤ infR) : V x = U x := by have := infR_lt; rw [V_U, Nat.mod_eq_of_lt (by omega)]
theorem size_fin {x : Nat} (h : x < infR) : isFin x = true := by have := infR_lt; unfold isFin; rw [Nat.mod_eq_of_lt (by omega)]; simpa using h
theorem size_neg {x : Nat} (h : x ≤ infR) : fneg x = false := fneg_small (by have := infR_lt; omega)
theorem word_false (r : Nat) : double.word false r = r := rfl

/-- The product of two sizes. -/
theorem mul_size {x y : Nat} (hx : x < infR) (hy : y < infR) : ∃ r, (∀ w, fop .mul x y w = r) ∧ ∀ K, K = 1074 → Rn (U x * U y) K r := by
  obtain ⟨r, e, k⟩ := mul_fin (size_fin hx) (size_fin hy)
  rw [size_V (Nat.le_of_lt hx), size_V (Nat.le_of_lt hy)] at k
  rw [size_neg (Nat.le_of_lt hx), size_neg (Nat.le_of_lt hy)] at e
  exact ⟨r, fun w => by rw [fop_some e]; rfl, k⟩

/-- The size of a number: m the greater part, n the lesser one. -/
theorem hyp_bounds {m n : Nat} (hm : m < infR) (m0 : 0 < m) (h : n ≤ m) (w : World) :
    ∃ r, hyp m n = r ∧ m ≤ r ∧ r ≤ infR ∧ r ≤ fop .mul 4609434218613702656 m w ∧ fop .mul 4609434218613702656 m w ≤ infR := by
  obtain ⟨K, hK⟩ : ∃ K, K = 1074 := ⟨_, rfl⟩
  obtain ⟨q, eq, hq⟩ := quo_le_one (show n < infR by omega) hm m0 h
  have lq : q < infR := by unfold infR; omega
  obtain ⟨p, ep, kp⟩ := mul_size lq lq
  have kp := kp K hK
  have u1 := U_one hK
  have u2 := U_two hK
  have h1074 : 0 < 2 ^ K := Nat.two_pow_pos K
  have hp : p ≤ 4607182418800017408 := by
    refine kp.mono (Rn.exact K (show 4607182418800017408 ≤ infR by decide)) ?_
    have : U q ≤ 2 ^ K := by rw [← u1]; exact U_le hq
    rw [u1]
    exact Nat.mul_le_mul this this
  have lp : p < infR := by unfold infR; omega
  have one : (4607182418800017408 : Nat) < infR := by decide
  obtain ⟨s, es, ks⟩ := add_fin (size_fin one) (size_fin lp)
  have e1 : Sv 4607182418800017408 = ((2 ^ K : Nat) : Int) := by rw [Sv_small (by decide), size_V (Nat.le_of_lt one), u1]
  have e2 : Sv p = (U p : Int) := by rw [Sv_small (by have := infR_lt; omega), size_V (Nat.le_of_lt lp)]
  have up : U p ≤ 2 ^ K := by rw [← u1]; exact U_le hp
  rw [e1, e2] at es ks
  have en : (((2 ^ K : Nat) : Int) + (U p : Int)).natAbs = 2 ^ K + U p := by rw [← Int.natCast_add, Int.natAbs_natCast]
  rw [en] at ks
  have ez : ¬ ((2 ^ K : Nat) : Int) + (U p : Int) = 0 := by omega
  have ey : decide (((2 ^ K : Nat) : Int) + (U p : Int) < 0) = false := by rw [decide_eq_false_iff_not]; omega
  rw [if_neg ez, ey, word_false] at es
  have s1 : 4607182418800017408 ≤ s := (Rn.exact 0 (show 4607182418800017408 ≤ infR by decide)).mono ks (by rw [u1, Nat.pow_zero, Nat.mul_one]; exact Nat.le_add_right _ _)
  have s2 : s ≤ 4611686018427387904 := ks.mono (Rn.exact 0 (show 4611686018427387904 ≤ infR by decide)) (by rw [u2, Nat.pow_zero, Nat.mul_one, Nat.two_mul]; exact Nat.add_le_add_left up _)
  obtain ⟨r, er, r1, r2⟩ := root_mid s1 s2
  have lr : r < infR := by unfold infR; omega
  obtain ⟨x, ex, kx⟩ := mul_size hm lr
  obtain ⟨y, ey, ky⟩ := mul_size (show 4609434218613702656 < infR by decide) hm
  have kx := kx K hK
  have ky := ky K hK
  have hh : hyp m n = x := by
    unfold hyp fM fQ fA
    rw [fop_some eq, ep, fop_some es]
    unfold fsq
    have : FloatKind.f64.format.sqrt s = some r := er
    rw [this]; exact ex _
  refine ⟨x, hh, ?_, kx.le, ?_, ?_⟩
  · refine (Rn.exact K (Nat.le_of_lt hm)).mono kx (Nat.mul_le_mul_left _ ?_)
    rw [← u1]; exact U_le r1
  · rw [ey]
    refine kx.mono ky ?_
    rw [Nat.mul_comm]; exact Nat.mul_le_mul_right _ (U_le r2)
  · rw [ey]; exact ky.le
end Fl
end Go.Proofs.Ytigkfdoeneemeaa
/- slackwaterkit's SameWords, SameRatio, walked. -/
namespace Go.Proofs.Ytigkfdoeneemeaa
open Go.RowKit

theorem ret_b {a b : Bool} (h : a = b) : Ending.returned (.bool a) = .returned (.bool b) := by rw [h]
def sameR (r s : Fr) : Bool := r.neg == s.neg && (r.num == s.num && r.den == s.den)
theorem sameR_iff {r s : Fr} : sameR r s = true ↔ r = s := by
  obtain ⟨a, b, c⟩ := r
  obtain ⟨d, e, f⟩ := s
  simp [sameR]
theorem sameR_refl (r : Fr) : sameR r r = true := sameR_iff.2 rfl

set_option maxHeartbeats 1600000 in
theorem sameWords_any (a b : Option Addr) (l m : List Nat) (c d : Nat) (w : World) (ha : Arr w a (u32s l)) (hb : Arr w b (u32s m)) (hl : l.length ≤ 1099511627776) (hm : m.length ≤ 1099511627776) :
    Calls Try.prog 116 #[.slice a l.length c, .slice b m.length d] w fun e w' => e = .returned (.bool (l == m)) ∧ ∃ x, w' = w.ext x := by
  by_cases hlm : l.length = m.length
  · have HLM := Lib.hid hlm
    have d1 : ((l.length : Int) != (m.length : Int)) = false := by simp; omega
    have d2 : ((l.length : Int) == (m.length : Int)) = true := by simp; omega
    clear hlm
    go_enter Try.func116, Try.ntmps116
    go_wp2
    clear d1 d2
    go_loopw [5] (fun i wr => ∃ k : Nat, k ≤ l.length ∧ i = .int .i64 k ∧ Blw w wr ∧ Hid (l.take k = m.take k)) (fun i _ => l.length - (intOf i).toNat)
    case atStart => exact ⟨0, Nat.zero_le _, rfl, Blw.refl _, rfl⟩
    case round =>
      obtain ⟨k, hk, rfl, hbw, htk⟩ := hrel
      have hlm := HLM.out
      by_cases hlt : k < l.length
      · obtain ⟨x, b1, o1, hd1, -, hgx, rfl, hb1, hc1⟩ := (ha.blw hbw).elem hlt
        obtain ⟨y, b2, o2, hd2, -, hgy, rfl, hb2, hc2⟩ := (hb.blw hbw).elem (show k < m.length by omega)
        have h0 : (0 : Int) ≤ (k : Int) := by omega
        have h1 : (k : Int) < (l.length : Int) := by omega
        have h2 : (k : Int) < (m.length : Int) := by omega
        have HX : Hid (l[k]? = some x) := hgx.out
        have HY : Hid (m[k]? = some y) := hgy.out
        clear hgx hgy hd1 hd2 hlm
        by_cases hxy : x = y
        · have HT : Hid (l.take (k + 1) = m.take (k + 1)) := by
            show _ = _
            rw [List.take_add_one, List.take_add_one, htk.out, HX.out, HY.out, hxy]
          subst hxy
          clear HX HY
          go_wp2_with fail
          go_quiet (fail)
          go_wp2
          go_roundw
          case rel => exact ⟨k + 1, by omega, by go_num, hbw.trans (by repeat (first | exact Blw.refl _ | apply Blw.ext | apply Blw.alloc | apply Blw.drewN | apply Blw.drew | refine Blw.setCell ?_ _ _ (by simp))), HT⟩
          case measure => simp [intOf]; omega
        · have HF : Hid ((l == m) = false) := by
            show _ = _
            simp only [beq_eq_false_iff_ne, ne_eq]
            intro e
            have := HX.out
            rw [e, HY.out] at this
            exact hxy (by injection this with this; exact this.symm)
          have q1 : ((x : Int) != (y : Int)) = true := by simp; omega
          have q2 : ((x : Int) == (y : Int)) = false := by simp; omega
          clear HX HY htk hxy
          go_wp2_with fail
          go_quiet (fail)
          go_wp2
          go_ret
          exact ⟨ret_b HF.out.symm, Blw.is (hbw.trans (by repeat (first | exact Blw.refl _ | apply Blw.ext | apply Blw.alloc | apply Blw.drewN | apply Blw.drew | refine Blw.setCell ?_ _ _ (by simp))))⟩
      · have HF : Hid ((l == m) = true) := by
          show _ = _
          have := htk.out
          rw [List.take_of_length_le (by omega), List.take_of_length_le (by omega)] at this
          simpa using this
        clear htk hlm
        go_wp2
        go_ret
        exact ⟨ret_b HF.out.symm, Blw.is hbw⟩
  · have HF : Hid ((l == m) = false) := by
      show _ = _
      simp only [beq_eq_false_iff_ne, ne_eq]
      intro e; exact hlm (by rw [e])
    have d1 : ((l.length : Int) != (m.length : Int)) = true := by simp; omega
    have d2 : ((l.length : Int) == (m.length : Int)) = false := by simp; omega
    clear hlm
    go_enter Try.func116, Try.ntmps116
    go_wp2
    go_ret
    exact ⟨ret_b HF.out.symm, Blw.is (Blw.refl _)⟩

set_option maxRecDepth 100000 in
set_option maxHeartbeats 1600000 in
theorem sameRatio_any (x y : FL) (w : World) (hx : FL.In w x) (hy : FL.In w y) (lx : x.r.num.length ≤ 1099511627776 ∧ x.r.den.length ≤ 1099511627776) (ly : y.r.num.length ≤ 1099511627776 ∧ y.r.den.length ≤ 1099511627776) :
    Calls Try.prog 91 #[frV x.r x.a x.c x.b x.d, frV y.r y.a y.c y.b y.d] w fun e w' => e = .returned (.bool (sameR x.r y.r)) ∧ ∃ z, w' = w.ext z := by
  have he : sameR x.r y.r = (x.r.neg == y.r.neg && (x.r.num == y.r.num && x.r.den == y.r.den)) := rfl
  have K1 := Lib.hid (fun (W : World) (hW : Blw w W) => sameWords_any x.a y.a x.r.num y.r.num x.c y.c W (hx.an.blw hW) (hy.an.blw hW) lx.1 ly.1)
  have K2 := Lib.hid (fun (W : World) (hW : Blw w W) => sameWords_any x.b y.b x.r.den y.r.den x.d y.d W (hx.ad.blw hW) (hy.ad.blw hW) lx.2 ly.2)
  clear hx hy lx ly
  obtain ⟨⟨xn, xu, xe⟩, xa, xc, xb, xd⟩ := x
  obtain ⟨⟨yn, yu, ye⟩, ya, yc, yb, yd⟩ := y
  simp only at he K1 K2
  generalize sameR _ _ = res at *
  generalize (xu == yu) = t1 at *
  generalize (xe == ye) = t2 at *
  have HE := Lib.hid he
  clear he
  go_enter Try.func91, Try.ntmps91
  cases xn <;> cases yn <;> cases t1 <;> cases t2
  all_goals
    go_wp2_with (go_at_call 116; (first | ((with_reducible refine (K1.out _ ?_).mono ?_); (· exact (by repeat (first | exact Blw.refl _ | apply Blw.ext | apply Blw.alloc | apply Blw.drewN | apply Blw.drew | refine Blw.setCell ?_ _ _ (by simp)))); rintro e w' ⟨rfl, z, rfl⟩) | ((with_reducible refine (K2.out _ ?_).mono ?_); (· exact (by repeat (first | exact Blw.refl _ | apply Blw.ext | apply Blw.alloc | apply Blw.drewN | apply Blw.drew | refine Blw.setCell ?_ _ _ (by simp)))); rintro e w' ⟨rfl, z, rfl⟩)))
    go_ret
    exact ⟨ret_b HE.out.symm, Blw.is (by repeat (first | exact Blw.refl _ | apply Blw.ext | apply Blw.alloc | apply Blw.drewN | apply Blw.drew | refine Blw.setCell ?_ _ _ (by simp)))⟩
end Go.Proofs.Ytigkfdoeneemeaa
/- The walk of the law PartsCalls. -/
namespace Go.Proofs.Ytigkfdoeneemeaa
open Go.RowKit

set_option maxHeartbeats 400000 in
theorem z_any (a b : Nat) (w : World) : Calls Try.prog 39 #[.agg #[.int .u64 a, .int .u64 b]] w fun e w' => e = .returned (.complex .f64 a b) ∧ ∃ x, w' = w.ext x := by
  go_enter Try.func39, Try.ntmps39
  go_wp2
  refine wp_region_ext_lit (by kernel_rfl) (by kernel_rfl) ?_
  repeat (quiet_step ((fail)))
  refine wpQuiet_nil ?_
  rintro _ ⟨x, rfl⟩
  go_wp2
  go_ret
  exact ⟨by simp, Blw.is (by repeat (first | exact Blw.refl _ | apply Blw.ext | apply Blw.alloc | apply Blw.drewN | apply Blw.drew | refine Blw.setCell ?_ _ _ (by simp)))⟩
theorem ref07Same_refl (a b : Nat) (w : World) : Calls Try.prog 40 #[.complex .f64 a b, .complex .f64 a b] w fun e w' => e = .returned (.bool true) ∧ w' = w :=
  (ref07Same_any a b a b w).mono fun _ _ ⟨h, k⟩ => ⟨by rw [h, sBits_refl, sBits_refl]; rfl, k⟩
theorem ref07Same_yes {re im a b c d : Nat} (w : World) (h1 : Hid (Fl.same re a)) (h2 : Hid (Fl.same im b)) (h3 : Hid (Fl.same re c)) (h4 : Hid (Fl.same im d)) : Calls Try.prog 40 #[.complex .f64 a b, .complex .f64 c d] w fun e w' => e = .returned (.bool true) ∧ w' = w :=
  (ref07Same_any a b c d w).mono fun _ _ ⟨h, k⟩ => ⟨by rw [h, sBits_same2 h1.out h3.out, sBits_same2 h2.out h4.out]; rfl, k⟩
theorem ref07SameReal_yes {r a c : Nat} (w : World) (h1 : Hid (Fl.same r a)) (h3 : Hid (Fl.same r c)) : Calls Try.prog 53 #[.float .f64 a, .float .f64 c] w fun e w' => e = .returned (.bool true) ∧ w' = w :=
  (ref07SameReal_any a c w).mono fun _ _ ⟨h, k⟩ => ⟨by rw [h, sBits_same2 h1.out h3.out], k⟩
set_option maxRecDepth 100000 in
set_option maxHeartbeats 2000000 in
theorem partsCalls_walk (a b c d x : Nat) (w : World) (ha : a < 2 ^ 64) (hb : b < 2 ^ 64) (_ : c < 2 ^ 64) (_ : d < 2 ^ 64) (_ : x < 2 ^ 64) :
    Calls Try.prog 8 #[.agg #[.int .u64 a, .int .u64 b], .agg #[.int .u64 c, .int .u64 d], .int .u64 x] w fun e w' => e = .returned (.bool true) ∧ ∃ x, w' = w.ext x := by
  go_enter Try.func8, Try.ntmps8
  go_wp2
  refine wp_region_ext_lit (by kernel_rfl) (by kernel_rfl) ?_
  repeat (quiet_step ((go_at_call 39; exact Calls.ext_of (z_any _ _ _))))
  refine wpQuiet_nil ?_
  rintro _ ⟨x, rfl⟩
  have s1 := sBits_refl a
  have s2 := sBits_refl b
  go_wp2_with (first | (go_at_call 41; refine (partsAdd_any _ _ _ _ _).mono ?_; rintro e w' ⟨r, i, x, rfl, hr, hi, lr, li, rfl⟩) | (go_at_call 43; refine (partsSub_any _ _ _ _ _).mono ?_; rintro e w' ⟨r, i, x, rfl, hr, hi, lr, li, rfl⟩) | (go_at_call 45; refine (partsMul_any _ _ _ _ _).mono ?_; rintro e w' ⟨r, i, x, rfl, hr, hi, lr, li, rfl⟩) | (go_at_call 47; refine (partsScale_any _ _ _ _).mono ?_; rintro e w' ⟨r, i, x, rfl, hr, hi, lr, li, rfl⟩) | (go_at_call 49; refine (partsConj_any _ _ _).mono ?_; rintro e w' ⟨rfl, rfl⟩) | (go_at_call 51; refine (partsNeg_any _ _ _).mono ?_; rintro e w' ⟨rfl, rfl⟩) | (go_at_call 54; refine (partsAbs_any a b _ ha hb).mono ?_; rintro e w' ⟨r, x, rfl, hr, lr, rfl⟩) | (go_at_call 57; refine (partsEqual_any _ _ _ _ _).mono ?_; rintro e w' ⟨rfl, rfl⟩) | (go_at_call 42; refine (ref07Add_any _ _ _ _ _).mono ?_; rintro e w' ⟨r, i, x, rfl, hr, hi, lr, li, rfl⟩) | (go_at_call 44; refine (ref07Sub_any _ _ _ _ _).mono ?_; rintro e w' ⟨r, i, x, rfl, hr, hi, lr, li, rfl⟩) | (go_at_call 46; refine (ref07Mul_any _ _ _ _ _).mono ?_; rintro e w' ⟨r, i, x, rfl, hr, hi, lr, li, rfl⟩) | (go_at_call 48; refine (ref07Scale_any _ _ _ _).mono ?_; rintro e w' ⟨r, i, x, rfl, hr, hi, lr, li, rfl⟩) | (go_at_call 50; refine (ref07Conj_any _ _ _).mono ?_; rintro e w' ⟨rfl, rfl⟩) | (go_at_call 52; refine (ref07Neg_any _ _ _).mono ?_; rintro e w' ⟨rfl, rfl⟩) | (go_at_call 55; refine (ref07Abs_any a b _ ha hb).mono ?_; rintro e w' ⟨r, x, rfl, hr, lr, rfl⟩) | (go_at_call 58; refine (ref07Equal_any _ _ _ _ _).mono ?_; rintro e w' ⟨rfl, rfl⟩) | (go_at_call 56; refine (partsSame_any _ _ _ _ _).mono ?_; rintro e w' ⟨rfl, rfl⟩) | (go_at_call 40; (with_reducible refine (ref07Same_refl _ _ _).mono ?_); rintro e w' ⟨rfl, rfl⟩) | (go_at_call 40; refine Calls.mono (ref07Same_yes _ (by assumption) (by assumption) (by assumption) (by assumption)) ?_; rintro e w' ⟨rfl, rfl⟩) | (go_at_call 40; refine (ref07Same_any _ _ _ _ _).mono ?_; rintro e w' ⟨rfl, rfl⟩) | (go_at_call 53; refine Calls.mono (ref07SameReal_yes _ (by assumption) (by assumption)) ?_; rintro e w' ⟨rfl, rfl⟩) | (go_at_call 59; refine (partsFiniteC_any a b _ ha hb).mono ?_; rintro e w' ⟨rfl, rfl⟩) | (go_at_call 60; refine (ref07FiniteC_any a b _).mono ?_; rintro e w' ⟨rfl, x, rfl⟩))
  go_ret
  exact ⟨by simp, Blw.is (by repeat (first | exact Blw.refl _ | apply Blw.ext | apply Blw.alloc | apply Blw.drewN | apply Blw.drew | refine Blw.setCell ?_ _ _ (by simp)))⟩
end Go.Proofs.Ytigkfdoeneemeaa
/- The law of PartsTurns: what the document's examples say. -/
namespace Go.Proofs.Ytigkfdoeneemeaa
open Go.RowKit

theorem toW_small {n : Nat} (h0 : n ≠ 0) (h : n < 4294967296) : W.toW n = [n] := by
  rw [W.toW_pos h0, Nat.mod_eq_of_lt h, Nat.div_eq_of_lt h, W.toW_zero]
theorem ex_half {r : Fr} (h : ExF 4602678819172646912 r) : r = ⟨false, [1], [2]⟩ := by
  have e : ExF 4602678819172646912 ⟨decide (Fl.Sv 4602678819172646912 < 0), W.toW 1, W.toW (2 ^ 1)⟩ := exF_low (m := 1) (t := 52) (q := 1) (by decide) (by decide) (by decide) (by decide) (by decide)
  rw [h.uniq e, Fl.Sv_neg, toW_small (by decide) (by decide), toW_small (by decide) (by decide)]
  rfl
theorem ex_minus {r : Fr} (h : ExF 13828302655841107968 r) : r = ⟨true, [3], [4]⟩ := by
  have e : ExF 13828302655841107968 ⟨decide (Fl.Sv 13828302655841107968 < 0), W.toW 3, W.toW (2 ^ 2)⟩ := exF_low (m := 3) (t := 51) (q := 2) (by decide) (by decide) (by decide) (by decide) (by decide)
  rw [h.uniq e, Fl.Sv_neg, toW_small (by decide) (by decide), toW_small (by decide) (by decide)]
  rfl
theorem five_re : fS (fM 4607182418800017408 4613937818241073152) (fM 4611686018427387904 13830554455654793216) = 4617315517961601024 := by decide +kernel
theorem five_im : fA (fM 4607182418800017408 13830554455654793216) (fM 4611686018427387904 4613937818241073152) = 4617315517961601024 := by decide +kernel
theorem five_abs : absS (4613937818241073152 % 2 ^ 63) (4616189618054758400 % 2 ^ 63) = 4617315517961601024 := by decide +kernel
theorem same_is {v r : Nat} (hv : Fl.isNaN v = false) (h : Fl.same v r) : r = v := by
  rcases h with h | ⟨h, -⟩
  · exact h.symm
  · rw [hv] at h; cases h

set_option maxRecDepth 100000 in
set_option maxHeartbeats 4000000 in
theorem awake7_any (w : World) : Calls Try.prog 61 #[] w fun e w' => e = .returned (.bool true) ∧ ∃ x, w' = w.ext x := by
  go_enter Try.func61, Try.ntmps61
  go_wp2_with fail
  refine Calls.mono (partsExact_ok _ _ _ (by decide) (by decide) (by decide) (by decide)) ?_
  rintro e W1 ⟨x, y, hx, hy, rfl, hb, o1, o2⟩
  have ex := ex_half hx
  have ey := ex_minus hy
  obtain ⟨xr, xa, xc, xb, xd⟩ := x
  obtain ⟨yr, ya, yc, yb, yd⟩ := y
  simp only at ex ey
  subst ex ey
  have a1 := own_read o1.2.1
  have a2 := own_read o2.1
  clear hx hy o1 o2
  have B0 : Blw W1 (W1.alloc (.cells #[.bool false, .slice xa 1 xc, .slice xb 1 xd, .bool true, .slice ya 1 yc, .slice yb 1 yd] 131)) := (Blw.refl W1).alloc _
  go_wp2_with fail
  refine Calls.mono (partsMul_any _ _ _ _ _) ?_
  rintro e w2 ⟨r, i, z2, rfl, hr, hi, -, -, hz2⟩
  have er := same_is (by decide) (five_re ▸ hr.out)
  have ei := same_is (by decide) (five_im ▸ hi.out)
  subst er ei
  have b2 : Blw (W1.alloc (.cells #[.bool false, .slice xa 1 xc, .slice xb 1 xd, .bool true, .slice ya 1 yc, .slice yb 1 yd] 131)) w2 := by rw [hz2]; exact World.blw_ext _ _
  clear hr hi hz2
  go_wp2_with fail
  refine Calls.mono (partsAbs_any _ _ _ (by decide) (by decide)) ?_
  rintro e w3 ⟨s, z3, rfl, hs, -, hz3⟩
  have es := same_is (by decide) (five_abs ▸ hs.out)
  subst es
  have b3 : Blw (W1.alloc (.cells #[.bool false, .slice xa 1 xc, .slice xb 1 xd, .bool true, .slice ya 1 yc, .slice yb 1 yd] 131)) w3 := b2.trans (by rw [hz3]; exact World.blw_ext _ _)
  clear hs hz3 b2
  obtain ⟨s0, c0, c1, c2, c3, c4, c5⟩ := box6 b3
  go_wp2_with fail
  refine Calls.mono (sameWords_any _ _ [2] [2] _ _ _ (a1.blw ?_) ?_ (by decide) (by decide)) ?_
  · exact (B0.trans b3).trans (by repeat (first | exact Blw.refl _ | apply Blw.ext | apply Blw.alloc | apply Blw.drewN | apply Blw.drew | refine Blw.setCell ?_ _ _ (by simp)))
  · exact Arr.lit_at _ #[.int .u32 2] _ _ (by first | rfl | simp)
  rintro e w4 ⟨rfl, z4, hz4⟩
  have b4 : Blw (W1.alloc (.cells #[.bool false, .slice xa 1 xc, .slice xb 1 xd, .bool true, .slice ya 1 yc, .slice yb 1 yd] 131)) w4 := b3.trans (by rw [hz4]; exact (by repeat (first | exact Blw.refl _ | apply Blw.ext | apply Blw.alloc | apply Blw.drewN | apply Blw.drew | refine Blw.setCell ?_ _ _ (by simp))))
  clear hz4 b3 s0 c0 c1 c2 c3 c4 c5
  obtain ⟨s0, c0, c1, c2, c3, c4, c5⟩ := box6 b4
  go_wp2_with fail
  refine Calls.mono (sameWords_any _ _ [3] [3] _ _ _ (a2.blw ?_) ?_ (by decide) (by decide)) ?_
  · exact (B0.trans b4).trans (by repeat (first | exact Blw.refl _ | apply Blw.ext | apply Blw.alloc | apply Blw.drewN | apply Blw.drew | refine Blw.setCell ?_ _ _ (by simp)))
  · exact Arr.lit_at _ #[.int .u32 3] _ _ (by first | rfl | simp)
  rintro e w5 ⟨rfl, z5, rfl⟩
  go_wp2
  go_ret
  exact ⟨rfl, Blw.is ((hb.trans B0).trans (b4.trans (by repeat (first | exact Blw.refl _ | apply Blw.ext | apply Blw.alloc | apply Blw.drewN | apply Blw.drew | refine Blw.setCell ?_ _ _ (by simp)))))⟩
end Go.Proofs.Ytigkfdoeneemeaa
/- PartsTurns: the plain part at the answers of the calls; math.Max of sizes. -/
namespace Go.Proofs.Ytigkfdoeneemeaa
open Go.RowKit

namespace Fl
theorem mul_re (a b c d : Nat) : same (fS (fM a c) (fM b d)) (fS (fM c a) (fM d b)) := same_sub (fop_of (bits_mul_comm a c) default default) (fop_of (bits_mul_comm b d) default default) default default
theorem mul_im (a b c d : Nat) : same (fA (fM a d) (fM b c)) (fA (fM c b) (fM d a)) :=
  (fop_of (bits_add_comm _ _) default default).trans (same_add (fop_of (bits_mul_comm b c) default default) (fop_of (bits_mul_comm a d) default default) default default)
theorem conj_re (a c : Nat) {b d : Nat} (hb : b < 2 ^ 64) (hd : d < 2 ^ 64) : same (fS (fM a c) (fM b d)) (fS (fM a c) (fM (Op.negFloat .f64 b) (Op.negFloat .f64 d))) := same_sub (.refl _) (fop_of (mul_opp2 hb hd).symm default default) default default
/-- The conjugates' product, at the answers. -/
theorem conj_eq {a b c d r i r2 i2 : Nat} (hb : b < 2 ^ 64) (hd : d < 2 ^ 64) (hr : same (fS (fM a c) (fM b d)) r) (hi : same (fA (fM a d) (fM b c)) i)
    (hr2 : same (fS (fM a c) (fM (Op.negFloat .f64 b) (Op.negFloat .f64 d))) r2) (hi2 : same (fA (fM a (Op.negFloat .f64 d)) (fM (Op.negFloat .f64 b) c)) i2)
    (n1 : isNaN r = false) (n2 : isNaN (Op.negFloat .f64 i) = false) (li : i < 2 ^ 64) (n3 : isNaN r2 = false) (n4 : isNaN i2 = false) : eqB r (Op.negFloat .f64 i) r2 i2 = true := by
  have e1 : r = r2 := by
    rcases hr.symm.trans ((conj_re a c hb hd).trans hr2) with h | ⟨h, -⟩
    · exact h
    · rw [n1] at h; cases h
  have n2' : isNaN i = false := by rw [← nan_mod (neg_mod li)]; exact n2
  have e2 : fA (fM a d) (fM b c) = i := by
    rcases hi with h | ⟨-, h⟩
    · exact h
    · rw [n2'] at h; cases h
  have s2 : same (fA (fM a (Op.negFloat .f64 d)) (fM (Op.negFloat .f64 b) c)) (fA (Op.negFloat .f64 (fM a d)) (Op.negFloat .f64 (fM b c))) := same_add (same_mul_opp a hd _ _) (same_opp_mul c hb _ _) _ _
  have e3 : fA (Op.negFloat .f64 (fM a d)) (Op.negFloat .f64 (fM b c)) = i2 := by
    rcases s2.symm.trans hi2 with h | ⟨-, h⟩
    · exact h
    · rw [n4] at h; cases h
  have h4 := add_opp (s := fM a d) (t := fM b c) (fop_lt _ _ _ _) (fop_lt _ _ _ _) default default (by show isNaN (fA _ _) = false; rw [e3]; exact n4)
  have h5 : ord (Op.negFloat .f64 i) i2 = some .eq := by rw [← e2, ← e3]; exact h4
  unfold eqB
  rw [e1, ord_self n3, h5]; rfl
theorem mul_zero (w : World) : fop .mul 4609434218613702656 0 w = 0 := by
  have : floatBits .mul .f64 4609434218613702656 0 = some 0 := by decide +kernel
  exact fop_some this w
/-- The size of a number whose parts are finite. -/
theorem abs_fin {x y : Nat} (hx : x < infR) (hy : y < infR) (w : World) :
    ∃ v, absS x y = v ∧ max x y ≤ v ∧ v ≤ infR ∧ v ≤ fop .mul 4609434218613702656 (max x y) w ∧ fop .mul 4609434218613702656 (max x y) w ≤ infR ∧ (v = 0 ↔ max x y = 0) := by
  have l := infR_lt
  have nn : ∀ z, z < infR → isNaN z = false ∧ isInf z = false := fun z hz => by
    unfold isNaN isInf; rw [Nat.mod_eq_of_lt (by omega)]; simp; omega
  obtain ⟨nx, ix⟩ := nn x hx
  obtain ⟨ny, iy⟩ := nn y hy
  have z0 : ∀ z, z < infR → (ord z 0 == some .eq) = decide (z = 0) := fun z hz => by
    rw [ord_pos hz (by decide)]
    by_cases c : z = 0
    · subst c; rfl
    · have : compare z 0 = .gt := Nat.compare_eq_gt.2 (by omega)
      rw [this]; simp [c]
  have lt : (ord x y == some .lt) = decide (x < y) := by
    rw [ord_pos hx hy]
    by_cases c : x < y
    · rw [Nat.compare_eq_lt.2 c]; simp [c]
    · rcases (by omega : y < x ∨ x = y) with h | h
      · rw [Nat.compare_eq_gt.2 h]; simp [c]
      · rw [(Nat.compare_eq_eq).2 h]; simp [c]
  unfold absS
  rw [nx, ny, ix, iy, if_neg (by simp), if_neg (by simp), lt]
  by_cases c : x < y
  · rw [if_pos (by simpa using c), z0 y hy, if_neg (by simp; omega), show max x y = y by omega]
    obtain ⟨r, e, a1, a2, a3, a4⟩ := hyp_bounds hy (by omega) (by omega : x ≤ y) w
    exact ⟨r, e, a1, a2, a3, a4, by omega⟩
  · rw [if_neg (by simpa using c), z0 x hx, show max x y = x by omega]
    by_cases h0 : x = 0
    · subst h0
      rw [if_pos (by simp)]
      exact ⟨0, rfl, Nat.le_refl _, Nat.zero_le _, by rw [mul_zero]; exact Nat.le_refl _, by rw [mul_zero]; exact Nat.zero_le _, by omega⟩
    · rw [if_neg (by simpa using h0)]
      obtain ⟨r, e, a1, a2, a3, a4⟩ := hyp_bounds hx (by omega) (by omega : y ≤ x) w
      exact ⟨r, e, a1, a2, a3, a4, by omega⟩
end Fl

theorem ord_not_gt {x y : Nat} (h : x ≤ y) (hy : y < Fl.infR) : (FloatKind.f64.format.order x y == some .gt) = false := by
  have : FloatKind.f64.format.order x y = some (compare x y) := Fl.ord_pos (Nat.lt_of_le_of_lt h hy) hy
  rw [this]
  rcases Nat.lt_or_eq_of_le h with h | h
  · rw [Nat.compare_eq_lt.2 h]; rfl
  · rw [Nat.compare_eq_eq.2 h]; rfl
theorem ord_gt {x y : Nat} (h : y < x) (hx : x < Fl.infR) : (FloatKind.f64.format.order x y == some .gt) = true := by
  have : FloatKind.f64.format.order x y = some (compare x y) := Fl.ord_pos hx (Nat.lt_trans h hx)
  rw [this, Nat.compare_eq_gt.2 h]; rfl
theorem ord_is {x y : Nat} (hx : x < Fl.infR) (hy : y < Fl.infR) : (FloatKind.f64.format.order x y == some .eq) = decide (x = y) := by
  have : FloatKind.f64.format.order x y = some (compare x y) := Fl.ord_pos hx hy
  rw [this]
  by_cases h : x = y
  · rw [Nat.compare_eq_eq.2 h]; simp [h]
  · rcases Nat.lt_or_gt_of_ne h with c | c
    · rw [Nat.compare_eq_lt.2 c]; simp [h]
    · rw [Nat.compare_eq_gt.2 c]; simp [h]
theorem mag_zero {x : Nat} (hx : x < Fl.infR) (h : Fl.mag x = 0) : x = 0 := by
  have l := Fl.infR_lt
  unfold Fl.mag at h
  split at h <;> omega
theorem arch_max {x y : Nat} (hx : x < Fl.infR) (hy : y < Fl.infR) : Extern.MathDim.pick "math.archMax" false .gt #[.float .f64 x, .float .f64 y] = pure (.float .f64 (max x y)) := by
  have rx : FloatKind.f64.decode x = .number (Fl.fneg x) (Fl.mag x) (-1074 + (Fl.plc x : Int)) := Fl.read_fin x (Fl.size_fin hx)
  have ry : FloatKind.f64.decode y = .number (Fl.fneg y) (Fl.mag y) (-1074 + (Fl.plc y : Int)) := Fl.read_fin y (Fl.size_fin hy)
  have o : (FloatKind.f64.decode x).order (FloatKind.f64.decode y) = some (compare x y) := Fl.ord_pos hx hy
  have zx : (FloatKind.f64.decode x).isZero = true → x = 0 := fun h => by
    rw [rx] at h
    refine mag_zero hx ?_
    cases hm : Fl.mag x with
    | zero => rfl
    | succ n => rw [hm] at h; cases h
  have zy : (FloatKind.f64.decode y).isZero = true → y = 0 := fun h => by
    rw [ry] at h
    refine mag_zero hy ?_
    cases hm : Fl.mag y with
    | zero => rfl
    | succ n => rw [hm] at h; cases h
  have ix : (FloatKind.f64.decode x == .infinity false) = false := by rw [rx]; rfl
  have iy : (FloatKind.f64.decode y == .infinity false) = false := by rw [ry]; rfl
  have nx : (FloatKind.f64.decode x).isNaN = false := by rw [rx]; rfl
  have ny : (FloatKind.f64.decode y).isNaN = false := by rw [ry]; rfl
  show (pure (.float .f64 (if FloatKind.f64.decode x == .infinity false || FloatKind.f64.decode y == .infinity false then FloatKind.f64.encode (.infinity false)
    else if (FloatKind.f64.decode x).isNaN || (FloatKind.f64.decode y).isNaN then 0x7FF8000000000001
    else if (FloatKind.f64.decode x).isZero && (FloatKind.f64.decode y).isZero then (if (FloatKind.f64.decode x).neg == false then x else y)
    else if (FloatKind.f64.decode x).order (FloatKind.f64.decode y) == some .gt then x else y)) : Sem Value) = _
  rw [ix, iy, nx, ny, o, if_neg (by decide), if_neg (by decide)]
  congr 2
  by_cases z : ((FloatKind.f64.decode x).isZero && (FloatKind.f64.decode y).isZero) = true
  · rw [if_pos z]
    rw [Bool.and_eq_true] at z
    rw [zx z.1, zy z.2]; split <;> rfl
  · rw [if_neg z]
    rcases Nat.lt_trichotomy x y with h | h | h
    · rw [Nat.compare_eq_lt.2 h, if_neg (by decide)]; omega
    · subst h; split <;> omega
    · rw [Nat.compare_eq_gt.2 h, if_pos (by decide)]; omega
theorem call_archMax {x y : Nat} (hx : x < Fl.infR) (hy : y < Fl.infR) (w : World) : (callFunc 117 #[.float .f64 x, .float .f64 y]).run Try.prog w = .ok (.value (.float .f64 (max x y))) w := by
  rw [run_callFunc_extern (fn := Try.f117) (e := Extern.MathDim.pick "math.archMax" false .gt) (by kernel_rfl) (by kernel_rfl) (by kernel_rfl) (by kernel_rfl) (by kernel_rfl), arch_max hx hy]; rfl
set_option maxHeartbeats 1000000 in
theorem maxSize_any (x y : Nat) (w : World) (hx : x < Fl.infR) (hy : y < Fl.infR) :
    Calls Try.prog 62 #[.float .f64 x, .float .f64 y] w fun e w' => e = .returned (.float .f64 (max x y)) ∧ w' = w := by
  have h := call_archMax hx hy
  go_enter Try.func62, Try.ntmps62
  go_wp2
  go_ret
  exact ⟨rfl, rfl⟩
end Go.Proofs.Ytigkfdoeneemeaa
/- The walk of the law PartsTurns. -/
namespace Go.Proofs.Ytigkfdoeneemeaa
open Go.RowKit

theorem CRes.of {re im re' im' : Nat} {w : World} {e : Ending} {w' : World} (h : CRes re im w e w') (k : Fl.same re' re) (k' : Fl.same im' im) : CRes re' im' w e w' := by
  obtain ⟨r, i, x, he, hr, hi, l⟩ := h
  exact ⟨r, i, x, he, k.trans hr.out, k'.trans hi.out, l⟩
theorem mul_swap (a b c d : Nat) (w : World) : Calls Try.prog 45 #[.complex .f64 c d, .complex .f64 a b] w (CRes (fS (fM a c) (fM b d)) (fA (fM a d) (fM b c)) w) :=
  (partsMul_any c d a b w).mono fun _ _ h => h.of (Fl.mul_re a b c d) (Fl.mul_im a b c d)
theorem conj_conj (a b : Nat) (w : World) (hb : b < 2 ^ 64) : Calls Try.prog 49 #[.complex .f64 a (Op.negFloat .f64 b)] w fun e w' => e = .returned (.complex .f64 a b) ∧ w' = w :=
  (partsConj_any a (Op.negFloat .f64 b) w).mono fun _ _ ⟨h, k⟩ => ⟨by rw [h, Fl.neg_neg hb], k⟩
theorem neg_two (a b : Nat) (w : World) (ha : a < 2 ^ 64) (hb : b < 2 ^ 64) : Calls Try.prog 51 #[.complex .f64 (Op.negFloat .f64 a) (Op.negFloat .f64 b)] w fun e w' => e = .returned (.complex .f64 a b) ∧ w' = w :=
  (partsNeg_any (Op.negFloat .f64 a) (Op.negFloat .f64 b) w).mono fun _ _ ⟨h, k⟩ => ⟨by rw [h, Fl.neg_neg ha, Fl.neg_neg hb], k⟩
theorem same_self (a b : Nat) (w : World) : Calls Try.prog 56 #[.complex .f64 a b, .complex .f64 a b] w fun e w' => e = .returned (.bool true) ∧ w' = w :=
  (partsSame_any a b a b w).mono fun _ _ ⟨h, k⟩ => ⟨by rw [h, sBits_refl, sBits_refl]; rfl, k⟩
theorem same_yes {re im a b c d : Nat} (w : World) (h1 : Hid (Fl.same re a)) (h2 : Hid (Fl.same im b)) (h3 : Hid (Fl.same re c)) (h4 : Hid (Fl.same im d)) : Calls Try.prog 56 #[.complex .f64 a b, .complex .f64 c d] w fun e w' => e = .returned (.bool true) ∧ w' = w :=
  (partsSame_any a b c d w).mono fun _ _ ⟨h, k⟩ => ⟨by rw [h, sBits_same2 h1.out h3.out, sBits_same2 h2.out h4.out]; rfl, k⟩
theorem abs_conj (a b : Nat) (w : World) (ha : a < 2 ^ 64) (hb : b < 2 ^ 64) : Calls Try.prog 54 #[.complex .f64 a (Op.negFloat .f64 b)] w (FRes (absS (a % 2 ^ 63) (b % 2 ^ 63)) w) := by
  have h := partsAbs_any a (Op.negFloat .f64 b) w ha (by rw [Fl.neg_is hb]; split <;> omega)
  rwa [Fl.neg_mod hb] at h

theorem box2 {w W : World} {T : TypeId} {u0 u1 : Value} (h : Blw (w.alloc (.cells #[u0, u1] T)) W) :
    w.heap.size < W.heap.size ∧ W.cell? ⟨w.heap.size, 0, none⟩ = some u0 ∧ W.cell? ⟨w.heap.size, 1, none⟩ = some u1 := by
  have hl : w.heap.size < (w.alloc (.cells #[u0, u1] T)).heap.size := by simp
  have hh : W.heap[w.heap.size]? = some (.cells #[u0, u1] T (0, 0)) := (Below.block h _ hl).trans (heap_alloc_new w _)
  exact ⟨Nat.lt_of_lt_of_le hl h.size, (cell_of_row W _ 0 _ _ _ hh).trans rfl, (cell_of_row W _ 1 _ _ _ hh).trans rfl⟩

theorem equal_yes {a b c d : Nat} (w : World) (h : eqB a b c d = true) : Calls Try.prog 57 #[.complex .f64 a b, .complex .f64 c d] w fun e w' => e = .returned (.bool true) ∧ w' = w :=
  (partsEqual_any a b c d w).mono fun _ _ ⟨h1, k⟩ => ⟨by rw [h1, h], k⟩
theorem not_nan {x : Nat} (h : FloatKind.f64.format.order x x = some .eq) : Fl.isNaN x = false := by
  have e : (FloatKind.f64.format.order x x != some .eq) = Fl.isNaN x := Fl.ord_self_ne x
  rw [h] at e; exact e.symm
theorem finite_no (a b : Nat) (w : World) (ha : a < 2 ^ 64) (hb : b < 2 ^ 64) (h : (Fl.isFin a && Fl.isFin b) = false) : Calls Try.prog 59 #[.complex .f64 a b] w fun e w' => e = .returned (.bool false) ∧ w' = w :=
  (partsFiniteC_any a b w ha hb).mono fun _ _ ⟨h1, k⟩ => ⟨by rw [h1, h], k⟩
theorem finite_yes (a b : Nat) (w : World) (ha : a < 2 ^ 64) (hb : b < 2 ^ 64) (h : (Fl.isFin a && Fl.isFin b) = true) : Calls Try.prog 59 #[.complex .f64 a b] w fun e w' => e = .returned (.bool true) ∧ w' = w :=
  (partsFiniteC_any a b w ha hb).mono fun _ _ ⟨h1, k⟩ => ⟨by rw [h1, h], k⟩
theorem nan_order {x : Nat} (y : Nat) (h : Fl.isNaN x = true) : FloatKind.f64.format.order x y = none := by
  obtain ⟨s, t, e⟩ := Fl.read_nan x h
  have e' : FloatKind.f64.format.read x = .nan s t := e
  unfold Ieee.Format.order
  rw [e']
  cases FloatKind.f64.format.read y <;> rfl
/-- What the two sizes' comparison rests on. -/
theorem abs_pair {v s t : Nat} (h : Fl.same v s) (k : Fl.same v t) :
    (s = v ∧ t = v ∧ FloatKind.f64.format.order v v = some .eq) ∨ (FloatKind.f64.format.order s t = none ∧ FloatKind.f64.format.order s s = none ∧ FloatKind.f64.format.order t t = none) := by
  cases n : Fl.isNaN v with
  | false => exact .inl ⟨same_is n h, same_is n k, Fl.ord_self n⟩
  | true =>
    have ns : Fl.isNaN s = true := h.elim (fun h => h ▸ n) (fun h => h.2)
    have nt : Fl.isNaN t = true := k.elim (fun h => h ▸ n) (fun h => h.2)
    exact .inr ⟨nan_order t ns, nan_order s ns, nan_order t nt⟩

theorem order_size {x y : Nat} (hx : x ≤ Fl.infR) (hy : y ≤ Fl.infR) : FloatKind.f64.format.order x y = some (compare x y) := Fl.ord_size hx hy
theorem ge_size {x y : Nat} (hx : x ≤ Fl.infR) (h : y ≤ x) : FloatKind.f64.format.order x y = some .gt ∨ FloatKind.f64.format.order x y = some .eq := by
  rw [order_size hx (Nat.le_trans h hx)]
  rcases Nat.lt_or_eq_of_le h with h | h
  · exact .inl (congrArg some (Nat.compare_eq_gt.2 h))
  · exact .inr (congrArg some (Nat.compare_eq_eq.2 h.symm))
theorem le_size {x y : Nat} (hy : y ≤ Fl.infR) (h : x ≤ y) : FloatKind.f64.format.order x y = some .lt ∨ FloatKind.f64.format.order x y = some .eq := by
  rw [order_size (Nat.le_trans h hy) hy]
  rcases Nat.lt_or_eq_of_le h with h | h
  · exact .inl (congrArg some (Nat.compare_eq_lt.2 h))
  · exact .inr (congrArg some (Nat.compare_eq_eq.2 h))
/-- What the finite part's comparisons rest on. -/
theorem fin_pack {x y s t : Nat} (hx : x < Fl.infR) (hy : y < Fl.infR) (h : (s = absS x y ∧ t = absS x y ∧ FloatKind.f64.format.order (absS x y) (absS x y) = some .eq) ∨ (FloatKind.f64.format.order s t = none ∧ FloatKind.f64.format.order s s = none ∧ FloatKind.f64.format.order t t = none)) (hs : Fl.same (absS x y) s) :
    ∃ r, s = t ∧ FloatKind.f64.format.order t t = some .eq ∧ (∀ w, Fl.fop .mul 4609434218613702656 (max x y) w = r) ∧ (FloatKind.f64.format.order t (max x y) = some .gt ∨ FloatKind.f64.format.order t (max x y) = some .eq) ∧
      (FloatKind.f64.format.order t r = some .lt ∨ FloatKind.f64.format.order t r = some .eq) ∧ ((FloatKind.f64.format.order t 0 = some .eq ∧ FloatKind.f64.format.order (max x y) 0 = some .eq) ∨ (FloatKind.f64.format.order t 0 = some .gt ∧ FloatKind.f64.format.order (max x y) 0 = some .gt)) := by
  obtain ⟨v, ev, g1, g2, g3, g4, g5⟩ := Fl.abs_fin hx hy default
  have hm : max x y < Fl.infR := by omega
  obtain ⟨r, hr, -⟩ := Fl.mul_size (x := 4609434218613702656) (y := max x y) (by decide) hm
  rw [hr] at g3 g4
  rw [ev] at h hs
  have ov := order_size g2 g2
  rw [Nat.compare_eq_eq.2 rfl] at ov
  have h' : s = v ∧ t = v := by
    rcases h with h | h
    · exact ⟨h.1, h.2.1⟩
    · have e : s = v := same_is (not_nan ov) hs
      rw [e, ov] at h
      cases h.2.1
  obtain ⟨e1, e2⟩ := h'
  subst e1
  subst e2
  refine ⟨r, rfl, ov, hr, ge_size g2 g1, le_size g4 g3, ?_⟩
  rw [order_size g2 (Nat.zero_le _), order_size (Nat.le_of_lt hm) (Nat.zero_le _)]
  by_cases z : max x y = 0
  · exact .inl ⟨congrArg some (Nat.compare_eq_eq.2 (g5.2 z)), congrArg some (Nat.compare_eq_eq.2 z)⟩
  · exact .inr ⟨congrArg some (Nat.compare_eq_gt.2 (by omega)), congrArg some (Nat.compare_eq_gt.2 (by omega))⟩

set_option maxRecDepth 100000 in
set_option maxHeartbeats 8000000 in
theorem partsTurns_walk (a b c d : Nat) (w : World) (ha : a < 2 ^ 64) (hb : b < 2 ^ 64) (_ : c < 2 ^ 64) (hd : d < 2 ^ 64) :
    Calls Try.prog 9 #[.agg #[.int .u64 a, .int .u64 b], .agg #[.int .u64 c, .int .u64 d]] w fun e w' => e = .returned (.bool true) ∧ ∃ x, w' = w.ext x := by
  go_enter Try.func9, Try.ntmps9
  go_wp2_with fail
  refine (awake7_any _).mono ?_
  rintro e W ⟨rfl, z, hz⟩
  have bw : Blw ((w.alloc (.cells #[.int .u64 a, .int .u64 b] 70)).alloc (.cells #[.int .u64 c, .int .u64 d] 70)) W := by rw [hz]; exact World.blw_ext _ _
  have bw1 : Blw (w.alloc (.cells #[.int .u64 a, .int .u64 b] 70)) W := ((Blw.refl _).alloc _).trans bw
  have hb0 : Blw w W := ((Blw.refl _).alloc _).trans bw1
  obtain ⟨s0, c0, c1⟩ := box2 bw1
  obtain ⟨s1, c2, c3⟩ := box2 bw
  rw [World.size_alloc] at s1 c2 c3
  clear hz bw bw1
  go_wp2_with fail
  refine wp_region_ext_lit (by kernel_rfl) (by kernel_rfl) ?_
  repeat (quiet_step ((go_at_call 39; exact Calls.ext_of (z_any _ _ _))))
  refine wpQuiet_nil ?_
  rintro _ ⟨x, rfl⟩
  go_wp2_with fail
  refine Calls.mono (partsMul_any a b c d _) ?_
  rintro e w1 ⟨r1, i1, x1, rfl, hr1, hi1, -, -, rfl⟩
  go_wp2_with fail
  refine Calls.mono (mul_swap a b c d _) ?_
  rintro e w2 ⟨r2, i2, x2, rfl, hr2, hi2, -, -, rfl⟩
  go_wp2_with fail
  refine Calls.mono (same_yes _ hr1 hi1 hr2 hi2) ?_
  rintro e w3 ⟨rfl, rfl⟩
  go_wp2_with fail
  refine Calls.mono (partsConj_any a b _) ?_
  rintro e w3 ⟨rfl, rfl⟩
  go_wp2_with fail
  refine Calls.mono (conj_conj a b _ hb) ?_
  rintro e w3 ⟨rfl, rfl⟩
  go_wp2_with fail
  refine Calls.mono (same_self a b _) ?_
  rintro e w3 ⟨rfl, rfl⟩
  go_wp2_with fail
  refine Calls.mono (partsNeg_any a b _) ?_
  rintro e w3 ⟨rfl, rfl⟩
  go_wp2_with fail
  refine Calls.mono (neg_two a b _ ha hb) ?_
  rintro e w3 ⟨rfl, rfl⟩
  go_wp2_with fail
  refine Calls.mono (same_self a b _) ?_
  rintro e w3 ⟨rfl, rfl⟩
  go_wp2_with fail
  clear hr1 hi1 hr2 hi2
  refine Calls.mono (partsMul_any a b c d _) ?_
  rintro e w4 ⟨r3, i3, x3, rfl, hr3, hi3, lr3, li3, rfl⟩
  go_wp2_with fail
  refine Calls.mono (partsConj_any r3 i3 _) ?_
  rintro e w5 ⟨rfl, rfl⟩
  go_wp2_with fail
  refine Calls.mono (partsConj_any a b _) ?_
  rintro e w5 ⟨rfl, rfl⟩
  go_wp2_with fail
  refine Calls.mono (partsConj_any c d _) ?_
  rintro e w5 ⟨rfl, rfl⟩
  go_wp2_with fail
  refine Calls.mono (partsMul_any a (Op.negFloat .f64 b) c (Op.negFloat .f64 d) _) ?_
  rintro e w5 ⟨r4, i4, x4, rfl, hr4, hi4, lr4, li4, rfl⟩
  have key : (FloatKind.f64.format.order r3 r3 = some .eq ∧ FloatKind.f64.format.order (Op.negFloat .f64 i3) (Op.negFloat .f64 i3) = some .eq) → (FloatKind.f64.format.order r4 r4 = some .eq ∧ FloatKind.f64.format.order i4 i4 = some .eq) → eqB r3 (Op.negFloat .f64 i3) r4 i4 = true :=
    fun h k => Fl.conj_eq (a := a) (c := c) hb hd hr3.out hi3.out hr4.out hi4.out (not_nan h.1) (not_nan h.2) li3 (not_nan k.1) (not_nan k.2)
  clear hr3 hi3 hr4 hi4
  go_wp2_with fail
  all_goals
    first
      | (refine Calls.mono (equal_yes _ (key (by assumption) (by assumption))) ?_
         rintro e w6 ⟨rfl, rfl⟩
         go_wp2_with fail)
      | skip
    clear key
    refine Calls.mono (partsAbs_any a b _ ha hb) ?_
    rintro e w6 ⟨s, x5, rfl, hs, ls, rfl⟩
    go_wp2_with fail
    refine Calls.mono (partsConj_any a b _) ?_
    rintro e w6 ⟨rfl, rfl⟩
    go_wp2_with fail
    refine Calls.mono (abs_conj a b _ ha hb) ?_
    rintro e w6 ⟨t, x6, rfl, ht, lt, rfl⟩
    have pair := abs_pair hs.out ht.out
    cases fin : (Fl.isFin a && Fl.isFin b)
    · rcases pair with ⟨e1, e2, o⟩ | ⟨o1, o2, o3⟩
      · rw [← e1] at o; have e3 := e2.trans e1.symm; clear e1 e2 hs ht; subst e3
        go_wp2_with (go_at_call 59; refine (finite_no a b _ ha hb fin).mono ?_; rintro e w7 ⟨rfl, rfl⟩)
        go_ret
        exact ⟨rfl, Blw.is (hb0.trans (by repeat (first | exact Blw.refl _ | apply Blw.ext | apply Blw.alloc | apply Blw.drewN | apply Blw.drew | refine Blw.setCell ?_ _ _ (by simp))))⟩
      · clear hs ht
        go_wp2_with (go_at_call 59; refine (finite_no a b _ ha hb fin).mono ?_; rintro e w7 ⟨rfl, rfl⟩)
        go_ret
        exact ⟨rfl, Blw.is (hb0.trans (by repeat (first | exact Blw.refl _ | apply Blw.ext | apply Blw.alloc | apply Blw.drewN | apply Blw.drew | refine Blw.setCell ?_ _ _ (by simp))))⟩
    · obtain ⟨fa, fb⟩ := Bool.and_eq_true .. ▸ fin
      have la : a % 2 ^ 63 < Fl.infR := by simpa [Fl.isFin] using fa
      have lb : b % 2 ^ 63 < Fl.infR := by simpa [Fl.isFin] using fb
      obtain ⟨r, e1, o1, o2, o3, o4, o5⟩ := fin_pack la lb pair hs.out
      clear hs ht pair
      subst e1
      rcases o3 with o3 | o3 <;> rcases o4 with o4 | o4 <;> rcases o5 with ⟨o5, o6⟩ | ⟨o5, o6⟩
      all_goals
        go_wp2_with (first | (go_at_call 59; refine (finite_yes a b _ ha hb fin).mono ?_; rintro e w7 ⟨rfl, rfl⟩) | (go_at_call 63; (with_reducible refine (abs_any a _ ha).mono ?_); rintro e w7 ⟨rfl, rfl⟩) | (go_at_call 63; (with_reducible refine (abs_any b _ hb).mono ?_); rintro e w7 ⟨rfl, rfl⟩) | (go_at_call 62; (with_reducible refine (maxSize_any _ _ _ la lb).mono ?_); rintro e w7 ⟨rfl, rfl⟩))
        go_ret
        exact ⟨by simp, Blw.is (hb0.trans (by repeat (first | exact Blw.refl _ | apply Blw.ext | apply Blw.alloc | apply Blw.drewN | apply Blw.drew | refine Blw.setCell ?_ _ _ (by simp))))⟩
end Go.Proofs.Ytigkfdoeneemeaa
/- Arguments that came in, opened: slices of whole numbers as lists. -/
namespace Go.Proofs.Ytigkfdoeneemeaa
open Go.RowKit Go.ChangeShapes Go.WideShapes Go.ChangeAt

theorem open_list {H : Type} {enc : TypeId × Value → H} {P : Program} {W : World} {d : DataW H} {ps : List MemPlace} {T E : TypeId} {k : IntKind} {a : Option Addr} {len cap : Nat}
    (hT : P.underlying T = some (.slice E)) (hE : P.underlying E = some (.int k)) (hC : P.cellsOf E = 1)
    (h : DataW.Trod enc P W 0 (fun _ => true) true T (.slice a len cap) d ps) :
    ∃ l : List Int, l.length = len ∧ Arr W a (l.map (Value.int k)) ∧ (∀ z ∈ l, (Lit.int k z).wf = true) ∧ (a = none → cap = 0) ∧ len ≤ cap ∧ cap ≤ maxLen := by
  obtain ⟨fuel, hf⟩ := h
  rcases open_ints hT hE hC hf with ⟨hcs, _⟩ | ⟨x, l, c, zs, hcs, _, hl, hm, hz, _, hcell, hwz⟩
  · simp [Value.cells] at hcs
    obtain ⟨rfl, rfl, rfl⟩ := hcs
    exact ⟨[], rfl, .inl rfl, by simp, fun _ => rfl, Nat.le_refl _, Nat.zero_le _⟩
  · simp [Value.cells] at hcs
    obtain ⟨rfl, rfl, rfl⟩ := hcs
    have hz' : zs.length = cap := by simpa using hz
    refine ⟨zs.take len, by simp; omega, ?_, (fun z hz => hwz z (List.mem_of_mem_take hz)), (fun h => by cases h), hl, hm⟩
    by_cases h0 : len = 0
    · subst h0; exact .inl (by simp)
    obtain ⟨b, o, s⟩ := x
    have c0 := hcell 0 (by omega)
    have hs : s = none := by simpa [Addr.add] using World.cell?_spot c0
    subst hs
    have ea : ∀ j, (⟨b, o, none⟩ : Addr).add j = ⟨b, o + j, none⟩ := fun j => by unfold Addr.add; split <;> simp_all
    refine .inr ⟨b, o, rfl, block_lt_of_cell c0, fun i hi => ?_⟩
    have hi' : i < zs.length ∧ i < len := by simp at hi; omega
    rw [← ea i, hcell i hi'.1]
    simp [hi'.1, hi'.2]

theorem open_u64s {H : Type} {enc : TypeId × Value → H} {P : Program} {W : World} {d : DataW H} {ps : List MemPlace} {T E : TypeId} {a : Option Addr} {len cap : Nat}
    (hT : P.underlying T = some (.slice E)) (hE : P.underlying E = some (.int .u64)) (hC : P.cellsOf E = 1)
    (h : DataW.Trod enc P W 0 (fun _ => true) true T (.slice a len cap) d ps) :
    ∃ l : List Nat, l.length = len ∧ Arr W a (u64s l) ∧ (∀ z ∈ l, z < 2 ^ 64) ∧ (a = none → cap = 0) ∧ len ≤ cap ∧ cap ≤ maxLen := by
  obtain ⟨l, h1, h2, h3, h4, h5, h6⟩ := open_list hT hE hC h
  have hb : ∀ z ∈ l, 0 ≤ z ∧ z < 2 ^ 64 := fun z hz => by
    have := h3 z hz
    simp [Lit.wf, IntKind.min, IntKind.max, IntKind.signed, IntKind.bits] at this
    omega
  refine ⟨l.map Int.toNat, by simpa using h1, ?_, ?_, h4, h5, h6⟩
  · have e : u64s (l.map Int.toNat) = l.map (Value.int .u64) := by
      rw [u64s, List.map_map]
      apply List.map_congr_left
      intro z hz
      have := hb z hz
      simp; omega
    rw [e]; exact h2
  · intro z hz
    obtain ⟨y, hy, rfl⟩ := List.mem_map.1 hz
    have := hb y hy
    omega
theorem wf_u64 {n : Int} (h : (Lit.int .u64 n).wf = true) : ∃ m : Nat, n = m ∧ m < 2 ^ 64 := by
  simp [Lit.wf, IntKind.min, IntKind.max, IntKind.signed, IntKind.bits] at h
  exact ⟨n.toNat, by omega, by omega⟩
end Go.Proofs.Ytigkfdoeneemeaa
/- Arguments that came in, opened by their types: bools, numbers, floats, strings, structs, slices of anything. -/
namespace Go.Proofs.Ytigkfdoeneemeaa
open Go.RowKit Go.ChangeShapes Go.WideShapes Go.ChangeAt

/-- Cells that are elements, one behind the other. -/
theorem chunks {α : Type} (f : α → List Value) (k : Nat) (P : α → Prop) (len : Nat) : ∀ (cells : List Value), cells.length = len * k → (∀ i, i < len → ∃ x, P x ∧ (cells.drop (i * k)).take k = f x) →
    ∃ l : List α, l.length = len ∧ cells = l.flatMap f ∧ ∀ x ∈ l, P x := by
  induction len with
  | zero => intro cells hl _; exact ⟨[], rfl, List.eq_nil_of_length_eq_zero (by omega), by simp⟩
  | succ n ih =>
    intro cells hl h
    obtain ⟨x, hx, h0⟩ := h 0 (by omega)
    obtain ⟨l, h1, h2, h3⟩ := ih (cells.drop k) (by rw [List.length_drop, hl, Nat.add_mul]; omega) (fun i hi => by
      obtain ⟨y, hy, e⟩ := h (i + 1) (by omega)
      refine ⟨y, hy, ?_⟩
      rw [List.drop_drop, ← e, Nat.add_mul, Nat.one_mul, Nat.add_comm k])
    refine ⟨x :: l, by simp [h1], ?_, ?_⟩
    · rw [List.flatMap_cons, ← h0, ← h2]; simp
    · intro y hy
      rcases List.mem_cons.1 hy with rfl | hy
      · exact hx
      · exact h3 y hy

section
variable {H : Type} {enc : TypeId × Value → H} {P : Program} {w : World} {t e : TypeId} {cs : List Value}

/-- These cells read as data of this type. -/
def Rds (enc : TypeId × Value → H) (P : Program) (w : World) (t : TypeId) (cs : List Value) : Prop := ∃ fuel x, DataW.trod enc P w 0 (fun _ => true) true fuel t cs = some x
theorem Rds.of {v : Value} {d : DataW H} {p : List MemPlace} (h : DataW.Trod enc P w 0 (fun _ => true) true t v d p) : Rds enc P w t v.cells.toList := by
  obtain ⟨f, h⟩ := h; exact ⟨f, _, h⟩
theorem rds_bool (ht : P.underlying t = some .bool) (h : Rds enc P w t cs) : ∃ b, cs = [.bool b] := by
  obtain ⟨f, x, h⟩ := h
  obtain ⟨b, h, _⟩ := DataW.trod_bool ht h
  exact ⟨b, h⟩
theorem rds_int {k : IntKind} (ht : P.underlying t = some (.int k)) (h : Rds enc P w t cs) : ∃ n, cs = [.int k n] ∧ (Lit.int k n).wf = true := by
  obtain ⟨f, x, h⟩ := h
  obtain ⟨n, h, _, hw⟩ := DataW.trod_int ht h
  exact ⟨n, h, hw⟩
theorem rds_float {k : FloatKind} (ht : P.underlying t = some (.float k)) (h : Rds enc P w t cs) : ∃ n, cs = [.float k n] ∧ (Lit.float k n).wf = true := by
  obtain ⟨f, x, h⟩ := h
  cases f with
  | zero => simp [DataW.trod] at h
  | succ n =>
    unfold DataW.trod at h
    rw [ht] at h
    split at h <;> simp_all
theorem rds_string (ht : P.underlying t = some .string) (h : Rds enc P w t cs) : ∃ s : ByteArray, cs = [.string s] ∧ s.size ≤ maxLen := by
  obtain ⟨f, x, h⟩ := h
  obtain ⟨s, h, _, hs⟩ := DataW.trod_string ht h
  exact ⟨s, h, hs⟩
theorem rds_struct {fs : Array Field} (ht : P.underlying t = some (.struct fs)) (h : Rds enc P w t cs) :
    cs.length = P.cellsOf t ∧ ∀ (i : Nat) (f : Field), fs[i]? = some f → Rds enc P w f.type ((cs.drop f.offset).take (P.cellsOf f.type)) := by
  obtain ⟨f, x, h⟩ := h
  obtain ⟨xs, n, _, _, hl, hx, hf⟩ := DataW.trod_struct ht h
  refine ⟨hl, fun i f hi => ?_⟩
  have hi' : i < xs.length := by rw [hx]; exact (Array.getElem?_eq_some_iff.1 hi).1
  exact ⟨n, xs[i], by rw [hf i f hi, List.getElem?_eq_getElem hi']⟩
theorem add_add (b o i j : Nat) : ((⟨b, o, none⟩ : Addr).add i).add j = ⟨b, o + (i + j), none⟩ := by
  have ea : ∀ o j, (⟨b, o, none⟩ : Addr).add j = ⟨b, o + j, none⟩ := fun o j => by unfold Addr.add; split <;> simp_all
  rw [ea, ea, Nat.add_assoc]
theorem rds_slice (ht : P.underlying t = some (.slice e)) (k : Nat) (hk : P.cellsOf e = k) (hk0 : 0 < k) (h : Rds enc P w t cs) :
    ∃ (a : Option Addr) (len cap : Nat) (cells : List Value), cs = [.slice a len cap] ∧ (a = none → cap = 0) ∧ len ≤ cap ∧ cap ≤ maxLen ∧ cells.length = len * k ∧ Arr w a cells ∧
      ∀ i, i < len → Rds enc P w e ((cells.drop (i * k)).take k) := by
  obtain ⟨f, x, h⟩ := h
  rcases DataW.trod_slice ht h with ⟨h, _⟩ | ⟨a, len, cap, elems, rest, n, _, h, _, _, hl, hc, he, hel, _⟩
  · exact ⟨none, 0, 0, [], h, fun _ => rfl, Nat.le_refl _, Nat.zero_le _, by simp, .inl rfl, fun i hi => by omega⟩
  · rw [hk] at hel
    by_cases h0 : len = 0
    · subst h0
      exact ⟨some a, 0, cap, [], h, (fun h => by cases h), hl, hc, by simp, .inl rfl, fun i hi => by omega⟩
    have cell : ∀ i, i < len → ∃ ci, w.cells? 0 (a.add (i * k)) k = some ci ∧ ∃ y, DataW.trod enc P w 0 (fun _ => true) true n e ci = some y := by
      intro i hi
      have := hel i hi
      rw [List.getElem?_eq_getElem (by omega)] at this
      obtain ⟨ci, h1, h2⟩ := Option.bind_eq_some_iff.1 this
      exact ⟨ci, h1, _, h2⟩
    obtain ⟨c0, hc0, _⟩ := cell 0 (by omega)
    obtain ⟨_, hcl, hcc⟩ := World.cells?_some hc0
    have hsp0 := hcc 0 hk0
    rw [List.getElem?_eq_getElem (by omega)] at hsp0
    obtain ⟨b, o, s⟩ := a
    have hs : s = none := by
      have := World.cell?_spot hsp0
      simpa [Addr.add] using this
    subst hs
    rw [add_add] at hsp0
    have cellat : ∀ i, i < len → ∀ r, r < k → ∃ v, w.cell? ⟨b, o + (i * k + r), none⟩ = some v := by
      intro i hi r hr
      obtain ⟨ci, h1, _⟩ := cell i hi
      obtain ⟨_, h2, h3⟩ := World.cells?_some h1
      have := h3 r hr
      rw [add_add, List.getElem?_eq_getElem (by omega)] at this
      exact ⟨_, this⟩
    let cells := (List.range (len * k)).map fun j => (w.cell? ⟨b, o + j, none⟩).getD undef
    have hlen : cells.length = len * k := by simp [cells]
    have hat : ∀ j, j < len * k → w.cell? ⟨b, o + j, none⟩ = cells[j]? := by
      intro j hj
      have hi : j / k < len := Nat.div_lt_of_lt_mul (by rw [Nat.mul_comm]; exact hj)
      obtain ⟨v, hv⟩ := cellat (j / k) hi (j % k) (Nat.mod_lt _ hk0)
      have e1 : j / k * k + j % k = j := Nat.div_add_mod' j k
      rw [e1] at hv
      simp [cells, hj, hv]
    refine ⟨some ⟨b, o, none⟩, len, cap, cells, h, (fun h => by cases h), hl, hc, hlen, .inr ⟨b, o, rfl, block_lt_of_cell hsp0, fun i hi => hat i (by omega)⟩, fun i hi => ?_⟩
    obtain ⟨ci, h1, y, hy⟩ := cell i hi
    obtain ⟨_, h2, h3⟩ := World.cells?_some h1
    refine ⟨n, y, ?_⟩
    have : (cells.drop (i * k)).take k = ci := by
      have hb : i * k + k ≤ len * k := by
        have := Nat.mul_le_mul_right k (show i + 1 ≤ len from hi)
        rw [Nat.add_mul, Nat.one_mul] at this; exact this
      apply List.ext_getElem?
      intro r
      by_cases hr : r < k
      · rw [List.getElem?_take, if_pos hr, List.getElem?_drop, ← hat (i * k + r) (by omega), ← h3 r hr, add_add]
      · rw [List.getElem?_eq_none (by simp; omega), List.getElem?_eq_none (by omega)]
    rw [this]; exact hy
end
end Go.Proofs.Ytigkfdoeneemeaa
/- A number handed in by its parts' bits, opened. -/
namespace Go.Proofs.Ytigkfdoeneemeaa
open Go.RowKit Go.ChangeShapes Go.WideShapes Go.ChangeAt

theorem cellsU64 : Try.prog.cellsOf 22 = 1 := by kernel_rfl
theorem cellsNum : Try.prog.cellsOf 70 = 2 := by kernel_rfl
set_option maxRecDepth 100000 in
theorem open_num {H : Type} {enc : TypeId × Value → H} {W : World} {r : Reach} {b0 : Nat} {v : Value} {d : DataW H} {p : List MemPlace} (hv : Value.okWide Try.prog W r b0 70 v)
    (h : DataW.Trod enc Try.prog W 0 (fun _ => true) true 70 v d p) : ∃ a b : Nat, v = .agg #[.int .u64 a, .int .u64 b] ∧ a < 2 ^ 64 ∧ b < 2 ^ 64 := by
  obtain ⟨cs, rfl, -⟩ := okWide_struct Try.underlying70 hv
  obtain ⟨hl, hf⟩ := rds_struct Try.underlying70 (Rds.of h)
  have f0 := hf 0 _ rfl
  have f1 := hf 1 _ rfl
  rw [cellsNum] at hl
  simp only [Value.cells] at hl f0 f1
  obtain ⟨l⟩ := cs
  match l, hl with
  | [c0, c1], _ =>
    simp [cellsU64] at f0 f1
    obtain ⟨x, hx, wx⟩ := rds_int Try.underlying22 f0
    obtain ⟨y, hy, wy⟩ := rds_int Try.underlying22 f1
    obtain ⟨a, rfl, ha⟩ := wf_u64 wx
    obtain ⟨b, rfl, hb⟩ := wf_u64 wy
    simp at hx hy
    exact ⟨a, b, by rw [hx, hy], ha, hb⟩
end Go.Proofs.Ytigkfdoeneemeaa
