/- Several texts, joined. -/
import Derived.Test.YtmeccjlopmjneaaJ0
import Derived.Deep.RegionHeld3
import Derived.Test.YtmeccjlopmjneaaProg
import Derived.Laws.Externs
import Derived.Deep.AppendLies
import Derived.Deep.RegionLaw
import Derived.WalkMore
import Derived.Deep.LoopGhost
set_option linter.unusedVariables false
set_option linter.unusedSimpArgs false
/- Fractions compared, walked. -/
namespace Go.Proofs.Ytmeccjlopmjneaa
open Go.RowKit

def chk2 (r s : Fr) : Int := if chkF r = 0 then chkF s else chkF r

set_option maxHeartbeats 1000000 in
theorem ratioChecks_any (r s : Fr) (a : Option Addr) (c : Nat) (b : Option Addr) (d : Nat) (a' : Option Addr) (c' : Nat) (b' : Option Addr) (d' : Nat) (w : World) (h : FrA w r a c b d) (k : FrA w s a' c' b' d') :
    Calls Try.prog 85 #[frV r a c b d, frV s a' c' b' d'] w fun e w' => e = .returned (.int .i64 (chk2 r s)) ∧ ∃ x, w' = w.ext x := by
  have K1 := fun (W : World) (hb : Blw w W) => ratioCheck_any r a c b d W (h.blw hb)
  have K2 := fun (W : World) (hb : Blw w W) => ratioCheck_any s a' c' b' d' W (k.blw hb)
  have he : chk2 r s = if chkF r = 0 then chkF s else chkF r := rfl
  generalize chkF r = u at *
  generalize chkF s = v at *
  have HE := Lib.hid he
  clear he
  have H1 := Lib.hid K1
  have H2 := Lib.hid K2
  clear K1 K2 h k
  by_cases hu : u = 0
  · subst hu
    rw [if_pos rfl] at HE
    go_enter Try.func85, Try.ntmps85
    go_wp2_with fail
    refine Calls.mono (H1.out _ (by repeat (first | exact Blw.refl _ | apply Blw.ext | apply Blw.alloc | apply Blw.drewN | apply Blw.drew | refine Blw.setCell ?_ _ _ (by simp)))) ?_
    rintro e w1 ⟨rfl, x1, rfl⟩
    go_wp2_with fail
    refine Calls.mono (H2.out _ (by repeat (first | exact Blw.refl _ | apply Blw.ext | apply Blw.alloc | apply Blw.drewN | apply Blw.drew | refine Blw.setCell ?_ _ _ (by simp)))) ?_
    rintro e w1 ⟨rfl, x2, rfl⟩
    go_wp2
    go_ret
    exact ⟨ret_i64 HE.out.symm, Blw.is (by repeat (first | exact Blw.refl _ | apply Blw.ext | apply Blw.alloc | apply Blw.drewN | apply Blw.drew | refine Blw.setCell ?_ _ _ (by simp)))⟩
  · rw [if_neg hu] at HE
    have q : (u != 0) = true := by simpa using hu
    go_enter Try.func85, Try.ntmps85
    go_wp2_with fail
    refine Calls.mono (H1.out _ (by repeat (first | exact Blw.refl _ | apply Blw.ext | apply Blw.alloc | apply Blw.drewN | apply Blw.drew | refine Blw.setCell ?_ _ _ (by simp)))) ?_
    rintro e w1 ⟨rfl, x1, rfl⟩
    go_wp2
    go_ret
    exact ⟨ret_i64 HE.out.symm, Blw.is (by repeat (first | exact Blw.refl _ | apply Blw.ext | apply Blw.alloc | apply Blw.drewN | apply Blw.drew | refine Blw.setCell ?_ _ _ (by simp)))⟩

set_option maxHeartbeats 400000 in
theorem ratioTimes_any (a b : Option Addr) (l m : List Nat) (c d : Nat) (w : World) (h : Arr w a (u32s l)) (k : Arr w b (u32s m)) (wl : W.WF l) (wm : W.WF m) (nl : W.Nrm l) (nm : W.Nrm m) (hs : l.length + m.length ≤ 8192) :
    Calls Try.prog 129 #[.slice a l.length c, .slice b m.length d] w (RetW w (W.val l * W.val m)) := by
  have hm := natMul_any a b l m c d w h k wl wm nl nm hs
  clear h k
  go_enter Try.func129, Try.ntmps129
  go_wp2_with fail
  refine Calls.mono hm ?_
  rintro e w1 ⟨a1, c1, rfl, hb, o1⟩
  clear hm
  go_wp2
  go_ret
  exact RetOwn.of o1 hb

def cmpF (r s : Fr) : Int := if r.neg = true ∧ s.neg = true then W.cmpN (W.val s.num * W.val r.den) (W.val r.num * W.val s.den) else if r.neg = true then -1 else if s.neg = true then 1 else W.cmpN (W.val r.num * W.val s.den) (W.val s.num * W.val r.den)

set_option maxHeartbeats 400000 in
theorem ratioCompare_bad (r s : Fr) (a : Option Addr) (c : Nat) (b : Option Addr) (d : Nat) (a' : Option Addr) (c' : Nat) (b' : Option Addr) (d' : Nat) (w : World) (h : FrA w r a c b d) (k : FrA w s a' c' b' d') (hu : ¬ chk2 r s = 0) :
    Calls Try.prog 124 #[frV r a c b d, frV s a' c' b' d'] w fun e w' => e = .returned (.tuple #[.int .i64 0, .int .i64 (chk2 r s)]) ∧ ∃ x, w' = w.ext x := by
  have K1 := fun (W : World) (hb : Blw w W) => ratioChecks_any r s a c b d a' c' b' d' W (h.blw hb) (k.blw hb)
  generalize chk2 r s = u at *
  have H1 := Lib.hid K1
  have q : (u != 0) = true := by simpa using hu
  clear K1 h k
  go_enter Try.func124, Try.ntmps124
  go_wp2_with fail
  refine Calls.mono (H1.out _ (by repeat (first | exact Blw.refl _ | apply Blw.ext | apply Blw.alloc | apply Blw.drewN | apply Blw.drew | refine Blw.setCell ?_ _ _ (by simp)))) ?_
  rintro e w1 ⟨rfl, x1, rfl⟩
  go_wp2
  go_ret2
  exact ⟨rfl, Blw.is (by repeat (first | exact Blw.refl _ | apply Blw.ext | apply Blw.alloc | apply Blw.drewN | apply Blw.drew | refine Blw.setCell ?_ _ _ (by simp)))⟩

theorem Fr.Ok.len {r s : Fr} (h : r.Ok) (k : s.Ok) : r.num.length + s.den.length ≤ 8192 ∧ s.num.length + r.den.length ≤ 8192 ∧ r.num.length + s.num.length ≤ 8192 ∧ r.den.length + s.den.length ≤ 8192 := by
  have := h.ln; have := h.ld; have := k.ln; have := k.ld
  omega

theorem cmp_words (X Y : Nat) (p1 : Option Addr) (q1 : Nat) (p2 : Option Addr) (q2 : Nat) (w : World) (h1 : Arr w p1 (u32s (W.toW X))) (h2 : Arr w p2 (u32s (W.toW Y))) (k1 : (W.toW X).length ≤ q1) (k2 : q1 ≤ maxLen) (j1 : (W.toW Y).length ≤ q2) (j2 : q2 ≤ maxLen) :
    Calls Try.prog 117 #[.slice p1 (W.toW X).length q1, .slice p2 (W.toW Y).length q2] w fun e w' => e = .returned (.int .i64 (W.cmpN X Y)) ∧ ∃ x, w' = w.ext x := by
  have := natCompare_any p1 p2 (W.toW X) (W.toW Y) q1 q2 w h1 h2 k1 j1 k2 j2 (W.wf_toW X) (W.wf_toW Y)
  rw [W.val_toW, W.val_toW] at this
  exact this
theorem cmp_words' (X Y : Nat) (p1 : Option Addr) (q1 : Nat) (p2 : Option Addr) (q2 : Nat) (w : World) (h1 : Arr w p1 (u32s (W.toW X))) (h2 : Arr w p2 (u32s (W.toW Y))) (k1 : (W.toW X).length ≤ q1) (k2 : q1 ≤ maxLen) (j1 : (W.toW Y).length ≤ q2) (j2 : q2 ≤ maxLen) :
    Calls Try.prog 117 #[.slice p2 (W.toW Y).length q2, .slice p1 (W.toW X).length q1] w fun e w' => e = .returned (.int .i64 (W.cmpN Y X)) ∧ ∃ x, w' = w.ext x :=
  cmp_words Y X p2 q2 p1 q1 w h2 h1 j1 j2 k1 k2

set_option maxRecDepth 100000 in
set_option maxHeartbeats 4000000 in
theorem ratioCompare_ok (r s : Fr) (a : Option Addr) (c : Nat) (b : Option Addr) (d : Nat) (a' : Option Addr) (c' : Nat) (b' : Option Addr) (d' : Nat) (w : World) (h : FrA w r a c b d) (k : FrA w s a' c' b' d') (hr : r.Ok) (hs : s.Ok) :
    Calls Try.prog 124 #[frV r a c b d, frV s a' c' b' d'] w fun e w' => e = .returned (.tuple #[.int .i64 (cmpF r s), .int .i64 0]) ∧ ∃ x, w' = w.ext x := by
  have K1 := fun (W : World) (hb : Blw w W) => ratioChecks_any r s a c b d a' c' b' d' W (h.blw hb) (k.blw hb)
  rw [show chk2 r s = 0 by unfold chk2; rw [chkF_ok hr, if_pos rfl, chkF_ok hs]] at K1
  have H1 := Lib.hid K1
  have HL := hr.len hs
  obtain ⟨S, hS⟩ : ∃ S : World → Prop, S = fun W => w.heap.size + 1 < W.heap.size ∧ Blw w W ∧ W.cell? ⟨w.heap.size, 0, none⟩ = some (.bool r.neg) ∧ W.cell? ⟨w.heap.size, 1, none⟩ = some (.slice a r.num.length c) ∧ W.cell? ⟨w.heap.size, 2, none⟩ = some (.slice b r.den.length d) ∧
      W.cell? ⟨w.heap.size + 1, 0, none⟩ = some (.bool s.neg) ∧ W.cell? ⟨w.heap.size + 1, 1, none⟩ = some (.slice a' s.num.length c') ∧ W.cell? ⟨w.heap.size + 1, 2, none⟩ = some (.slice b' s.den.length d') := ⟨_, rfl⟩
  have KS : ∀ W W' : World, S W → Blw W W' → S W' := by
    subst hS
    rintro W W' ⟨h1, h2, h3, h4, h5, h6, h7, h8⟩ hb
    exact ⟨Nat.lt_of_lt_of_le h1 hb.size, h2.trans hb, (Below.cell hb (by show w.heap.size < _; omega)).trans h3, (Below.cell hb (by show w.heap.size < _; omega)).trans h4, (Below.cell hb (by show w.heap.size < _; omega)).trans h5, (Below.cell hb h1).trans h6, (Below.cell hb h1).trans h7, (Below.cell hb h1).trans h8⟩
  have SB : ∀ W : World, S W → Blw w W := by
    subst hS
    rintro W ⟨h1, h2, -⟩; exact h2
  have T1 := Lib.hid (fun (W : World) (hb : S W) => ratioTimes_any a b' r.num s.den c d' W (h.an.blw (SB W hb)) (k.ad.blw (SB W hb)) h.wn k.wd hr.nn hs.nd HL.1)
  have T2 := Lib.hid (fun (W : World) (hb : S W) => ratioTimes_any a' b s.num r.den c' d W (k.an.blw (SB W hb)) (h.ad.blw (SB W hb)) k.wn h.wd hs.nn hr.nd HL.2.1)
  have hcm : cmpF r s = if r.neg = true ∧ s.neg = true then W.cmpN (W.val s.num * W.val r.den) (W.val r.num * W.val s.den) else if r.neg = true then -1 else if s.neg = true then 1 else W.cmpN (W.val r.num * W.val s.den) (W.val s.num * W.val r.den) := rfl
  obtain ⟨X, hX⟩ : ∃ X, X = W.val r.num * W.val s.den := ⟨_, rfl⟩
  obtain ⟨Y, hY⟩ : ∃ Y, Y = W.val s.num * W.val r.den := ⟨_, rfl⟩
  rw [← hX] at T1 hcm
  rw [← hY] at T2 hcm
  have HC := Lib.hid hcm
  obtain ⟨rn, rnum, rden⟩ := r
  obtain ⟨sn, snum, sden⟩ := s
  simp only at T1 T2 HC
  have HXY := Lib.hid (cmp_words X Y)
  have HYX := Lib.hid (cmp_words' X Y)
  have HKS := Lib.hid KS
  have HSB := Lib.hid SB
  clear K1 h k hr hs hX hY HL hcm KS SB
  simp only at hS
  go_enter Try.func124, Try.ntmps124
  go_wp2_with fail
  refine Calls.mono (H1.out _ (by repeat (first | exact Blw.refl _ | apply Blw.ext | apply Blw.alloc | apply Blw.drewN | apply Blw.drew | refine Blw.setCell ?_ _ _ (by simp)))) ?_
  rintro e w1 ⟨rfl, x1, rfl⟩
  go_wp2_with fail
  have hS0 : S (((w.alloc (.cells #[.bool rn, .slice a rnum.length c, .slice b rden.length d] 34 (0, 0))).alloc (.cells #[.bool sn, .slice a' snum.length c', .slice b' sden.length d'] 34 (0, 0))).ext x1).drew := by
    rw [hS]
    exact ⟨Nat.lt_of_lt_of_le (by simp) (World.le_ext _ x1), (by repeat (first | exact Blw.refl _ | apply Blw.ext | apply Blw.alloc | apply Blw.drewN | apply Blw.drew | refine Blw.setCell ?_ _ _ (by simp))), by go_simp, by go_simp, by go_simp, by go_simp, by go_simp, by go_simp⟩
  subst hS
  go_region_held3 (fun W => w.heap.size + 1 < W.heap.size ∧ Blw w W ∧ W.cell? ⟨w.heap.size, 0, none⟩ = some (.bool rn) ∧ W.cell? ⟨w.heap.size, 1, none⟩ = some (.slice a rnum.length c) ∧ W.cell? ⟨w.heap.size, 2, none⟩ = some (.slice b rden.length d) ∧
      W.cell? ⟨w.heap.size + 1, 0, none⟩ = some (.bool sn) ∧ W.cell? ⟨w.heap.size + 1, 1, none⟩ = some (.slice a' snum.length c') ∧ W.cell? ⟨w.heap.size + 1, 2, none⟩ = some (.slice b' sden.length d')) (first | assumption | go_keep) (first
    | (go_at_call 129; (with_reducible refine Calls.mono (T1.out _ (by assumption)) ?_); rintro e w9 ⟨p1, q1, y1, rfl, rfl, o1, -, -⟩; have hS1 := HKS.out _ _ (by assumption) (World.blw_ext _ y1))
    | (go_at_call 129; (with_reducible refine Calls.mono (T2.out _ (by assumption)) ?_); rintro e w9 ⟨p2, q2, y2, rfl, rfl, o2, -, -⟩; have hS2 := HKS.out _ _ (by assumption) (World.blw_ext _ y2)))
  all_goals
    obtain ⟨_, _, he, A1, -, k1, k2, -⟩ := own_arr o1
    cases he
    obtain ⟨_, _, he, A2, -, j1, j2, -⟩ := own_arr o2
    cases he
    clear T1 T2 HKS HSB H1 hS0 hS1 hS2 o1 o2
    cases rn <;> cases sn
    · have HV := HC.out
      rw [if_neg (by simp), if_neg (by simp), if_neg (by simp)] at HV
      go_wp2_with fail
      refine Calls.mono (HXY.out _ _ _ _ _ (by first | exact A1 | exact A1.ext _) (by first | exact A2 | exact A2.ext _) k1 k2 j1 j2) ?_
      rintro e w8 ⟨rfl, x8, rfl⟩
      go_wp2
      go_ret2
      exact ⟨by first | (rw [HV]; rfl) | rfl, Blw.is (by repeat (first | exact Blw.refl _ | apply Blw.ext | apply Blw.alloc | apply Blw.drewN | apply Blw.drew | refine Blw.setCell ?_ _ _ (by simp)))⟩
    · have HV := HC.out
      rw [if_neg (by simp), if_neg (by simp), if_pos rfl] at HV
      go_wp2
      go_ret2
      exact ⟨by first | (rw [HV]; rfl) | rfl, Blw.is (by repeat (first | exact Blw.refl _ | apply Blw.ext | apply Blw.alloc | apply Blw.drewN | apply Blw.drew | refine Blw.setCell ?_ _ _ (by simp)))⟩
    · have HV := HC.out
      rw [if_neg (by simp), if_pos rfl] at HV
      go_wp2
      go_ret2
      exact ⟨by first | (rw [HV]; rfl) | rfl, Blw.is (by repeat (first | exact Blw.refl _ | apply Blw.ext | apply Blw.alloc | apply Blw.drewN | apply Blw.drew | refine Blw.setCell ?_ _ _ (by simp)))⟩
    · have HV := HC.out
      rw [if_pos ⟨rfl, rfl⟩] at HV
      go_wp2_with fail
      refine Calls.mono (HYX.out _ _ _ _ _ (by first | exact A1 | exact A1.ext _) (by first | exact A2 | exact A2.ext _) k1 k2 j1 j2) ?_
      rintro e w8 ⟨rfl, x8, rfl⟩
      go_wp2
      go_ret2
      exact ⟨by first | (rw [HV]; rfl) | rfl, Blw.is (by repeat (first | exact Blw.refl _ | apply Blw.ext | apply Blw.alloc | apply Blw.drewN | apply Blw.drew | refine Blw.setCell ?_ _ _ (by simp)))⟩
end Go.Proofs.Ytmeccjlopmjneaa
/- Fractions made: lowest, size, Small, copied, turned, Neg, walked. -/
namespace Go.Proofs.Ytmeccjlopmjneaa
open Go.RowKit

/-- A fraction of the call's own, and an error. -/
def RetFr (w : World) (r : Fr) (er : Int) (e : Ending) (w' : World) : Prop :=
  ∃ (a : Option Addr) (c : Nat) (b : Option Addr) (d : Nat), e = .returned (.tuple #[frV r a c b d, .int .i64 er]) ∧ Blw w w' ∧ w'.ownsRow w.heap.size 44 1 (.slice a r.num.length c) r.num.length (u32s r.num) ∧ w'.ownsRow w.heap.size 44 1 (.slice b r.den.length d) r.den.length (u32s r.den)
theorem FrA.own {w : World} {B : Nat} {r : Fr} {a : Option Addr} {c : Nat} {b : Option Addr} {d : Nat} (h : w.ownsRow B 44 1 (.slice a r.num.length c) r.num.length (u32s r.num)) (k : w.ownsRow B 44 1 (.slice b r.den.length d) r.den.length (u32s r.den)) (wn : W.WF r.num) (wd : W.WF r.den) : FrA w r a c b d := by
  obtain ⟨a', c', e, h1, h2, h3, h4, h5⟩ := own_arr h
  cases e
  obtain ⟨b', d', e, k1, k2, k3, k4, k5⟩ := own_arr k
  cases e
  exact ⟨h1, k1, h3, h4, k3, k4, h5, k5, wn, wd⟩

/-- A block of three cells, written anew. -/
theorem three {w : World} {g : Nat} {v0 v1 v2 : Value} {t : TypeId} (h : w.heap[g]? = some (.cells #[v0, v1, v2] t (0, 0))) (u0 u1 u2 : Value) :
    (∀ i, w.frozen? ⟨g, i, none⟩ = false) ∧ w.cell? ⟨g, 0, none⟩ = some v0 ∧ w.cell? ⟨g, 1, none⟩ = some v1 ∧ w.cell? ⟨g, 2, none⟩ = some v2 ∧
    (w.setCell ⟨g, 0, none⟩ u0).cell? ⟨g, 0, none⟩ = some u0 ∧ ((w.setCell ⟨g, 0, none⟩ u0).setCell ⟨g, 1, none⟩ u1).cell? ⟨g, 1, none⟩ = some u1 ∧ (((w.setCell ⟨g, 0, none⟩ u0).setCell ⟨g, 1, none⟩ u1).setCell ⟨g, 2, none⟩ u2).cell? ⟨g, 2, none⟩ = some u2 :=
  ⟨fun i => frozen_of_row w g i _ _ h, (cell_of_row w g 0 _ _ _ h).trans rfl, (cell_of_row w g 1 _ _ _ h).trans rfl, (cell_of_row w g 2 _ _ _ h).trans rfl, (cell_of_row _ g 0 _ _ _ (at_set 0 u0 h)).trans (by simp), (cell_of_row _ g 1 _ _ _ (at_set 1 u1 (at_set 0 u0 h))).trans (by simp), (cell_of_row _ g 2 _ _ _ (at_set 2 u2 (at_set 1 u1 (at_set 0 u0 h)))).trans (by simp)⟩
theorem blw_three {w w' : World} {g : Nat} (h : Blw w w') (hg : w.heap.size ≤ g) (u0 u1 u2 : Value) : Blw w (((w'.setCell ⟨g, 0, none⟩ u0).setCell ⟨g, 1, none⟩ u1).setCell ⟨g, 2, none⟩ u2) :=
  ((h.setCell _ _ hg).setCell _ _ hg).setCell _ _ hg
theorem own_three {w : World} {B g : Nat} {e : TypeId} {size n : Nat} {v : Value} {cs : List Value} (h : w.ownsRow B e size v n cs) (hg : g < B) (u0 u1 u2 : Value) : (((w.setCell ⟨g, 0, none⟩ u0).setCell ⟨g, 1, none⟩ u1).setCell ⟨g, 2, none⟩ u2).ownsRow B e size v n cs :=
  KeptO.own (O := fun k => k = g) (((KeptO.setCell (KeptO.refl (O := fun k => k = g) w) ⟨g, 0, none⟩ u0 (.inl rfl)).setCell ⟨g, 1, none⟩ u1 (.inl rfl)).setCell ⟨g, 2, none⟩ u2 (.inl rfl)) h (fun k hk e => by have := (World.ownsRow.lt h k hk).1; omega)

set_option maxRecDepth 100000 in
set_option maxHeartbeats 4000000 in
theorem ratioLowest_any (neg : Bool) (a b : Option Addr) (l m : List Nat) (c d : Nat) (w : World) (h : Arr w a (u32s l)) (k : Arr w b (u32s m)) (hc : l.length ≤ c) (hd : m.length ≤ d) (hcm : c ≤ 9223372036854775807) (hdm : d ≤ 9223372036854775807) (ha : a = none → l.length = 0 ∧ c = 0) (hb : b = none → m.length = 0 ∧ d = 0)
    (wl : W.WF l) (wm : W.WF m) (nl : W.Nrm l) (nm : W.Nrm m) (hl : l.length ≤ 8192) (hm : m.length ≤ 8192) (hm0 : 0 < m.length) (hX : W.val l / Nat.gcd (W.val l) (W.val m) < W.pw 2048) (hY : W.val m / Nat.gcd (W.val l) (W.val m) < W.pw 2048) :
    Calls Try.prog 80 #[.bool neg, .slice a l.length c, .slice b m.length d] w (RetFr w ⟨neg && decide (0 < (W.toW (W.val l / Nat.gcd (W.val l) (W.val m))).length), W.toW (W.val l / Nat.gcd (W.val l) (W.val m)), W.toW (W.val m / Nat.gcd (W.val l) (W.val m))⟩ 0) := by
  have GC := fun (W : World) (hb' : Blw w W) => natGcd_any a b l m c d W (h.blw hb') (k.blw hb') ha hb wl wm nl nm hl hm
  have vm : 0 < W.val m := W.val_pos nm (by intro e; rw [e] at hm0; simp at hm0)
  obtain ⟨G, hG⟩ : ∃ G, Nat.gcd (W.val l) (W.val m) = G := ⟨_, rfl⟩
  have G0 : 0 < G := by rw [← hG]; exact Nat.gcd_pos_of_pos_right _ vm
  have GB : G ≤ W.val m := by rw [← hG]; exact Nat.gcd_le_right _ vm
  have gl : (W.toW G).length ≤ 8192 := by
    refine Nat.le_trans ?_ hm
    have := W.len_toW_le.2 (Nat.lt_of_le_of_lt GB (W.val_lt wm))
    exact this
  have g0 : 0 < (W.toW G).length := by
    rcases Nat.eq_zero_or_pos (W.toW G).length with e | e
    · have := W.toW_nil.1 (List.eq_nil_of_length_eq_zero e); omega
    · exact e
  rw [hG] at hX hY GC ⊢
  have lX := W.len_toW_le.2 hX
  have lY := W.len_toW_le.2 hY
  have D1 := fun (W' : World) (hb' : Blw w W') (a3 : Option Addr) (c3 : Nat) (o3 : Arr W' a3 (u32s (W.toW G))) (k3 : (W.toW G).length ≤ c3) (k4 : c3 ≤ 9223372036854775807) => natDivMod_any a a3 l (W.toW G) c c3 W' (h.blw hb') o3 hc k3 hcm k4 ha wl (W.wf_toW G) nl (W.nrm_toW G) hl g0 gl
  have D2 := fun (W' : World) (hb' : Blw w W') (a3 : Option Addr) (c3 : Nat) (o3 : Arr W' a3 (u32s (W.toW G))) (k3 : (W.toW G).length ≤ c3) (k4 : c3 ≤ 9223372036854775807) => natDivMod_any b a3 m (W.toW G) d c3 W' (k.blw hb') o3 hd k3 hdm k4 hb wm (W.wf_toW G) nm (W.nrm_toW G) hm g0 gl
  simp only [W.val_toW] at D1 D2
  generalize W.val l / G = X at *
  generalize W.val m / G = Y at *
  generalize W.val l % G = X2 at *
  generalize W.val m % G = Y2 at *
  have HG := Lib.hid GC
  have HD1 := Lib.hid D1
  have HD2 := Lib.hid D2
  clear GC D1 D2 hG GB G0 vm h k hX hY
  have f1 : decide ((2048 : Int) < ((W.toW X).length : Int)) = false := by simp; omega
  have f2 : decide ((2048 : Int) < ((W.toW Y).length : Int)) = false := by simp; omega
  have hF0 : (w.alloc (.cells #[.bool false, .slice none 0 0, .slice none 0 0] 34)).heap[w.heap.size]? = some (.cells #[.bool false, .slice none 0 0, .slice none 0 0] 34 (0, 0)) := heap_alloc_new _ _
  go_enter Try.func80, Try.ntmps80
  go_wp2_with fail
  refine Calls.mono (HG.out _ (by repeat (first | exact Blw.refl _ | apply Blw.ext | apply Blw.alloc | apply Blw.drewN | apply Blw.drew | refine Blw.setCell ?_ _ _ (by simp)))) ?_
  rintro e w2 ⟨a3, c3, rfl, hb2, o3⟩
  obtain ⟨a4, c4, he, k1, k2, k3, k4, k5⟩ := own_arr o3
  cases he
  have hbw2 : Blw w w2 := ((Blw.refl w).alloc _).trans hb2
  have hF2 := (KeptO.of_blw (O := fun _ => False) hb2).heap hF0 id
  clear o3 k2 k5 hF0
  go_wp2_with fail
  refine Calls.mono (HD1.out w2 hbw2 a3 c3 k1 k3 k4) ?_
  rintro e w3 ⟨p1, q1, p2, q2, rfl, hb3, oX, -⟩
  have hF3 := (KeptO.of_blw (O := fun _ => False) hb3).heap hF2 id
  go_wp2_with fail
  refine Calls.mono (HD2.out w3 (hbw2.trans hb3) a3 c3 (k1.blw hb3) k3 k4) ?_
  rintro e w4 ⟨p3, q3, p4, q4, rfl, hb4, oY, -⟩
  have hF4 := (KeptO.of_blw (O := fun _ => False) hb4).heap hF3 id
  have oX4 := ownsRow_mono (ownsRow_blw oX hb4) (show w.heap.size + 1 ≤ w2.heap.size from Nat.le_trans (by simp) hb2.size)
  have oY4 := ownsRow_mono oY (show w.heap.size + 1 ≤ w3.heap.size from Nat.le_trans (Nat.le_trans (by simp) hb2.size) hb3.size)
  have hbw4 := (hbw2.trans hb3).trans hb4
  have l1 : (W.toW X).length ≤ 9223372036854775807 := by omega
  have l2 : (W.toW Y).length ≤ 9223372036854775807 := by omega
  clear hF2 hF3 oX oY hb4 hb3 hb2 hbw2 k1
  cases neg
  · obtain ⟨hfz, d0, d1, d2, r0, r1, r2⟩ := three hF4 (.bool false) (.slice p1 (W.toW X).length q1) (.slice p3 (W.toW Y).length q3)
    go_wp2_with (go_at_call 119; refine (ratioLong_any _ _ _ _ (by omega)).mono ?_; rintro e w' ⟨rfl, h9⟩; subst h9)
    exact bodyPost_ret (v := .tuple #[.agg #[.bool false, .slice p1 (W.toW X).length q1, .slice p3 (W.toW Y).length q3], .int .i64 0]) (by simp [results, Try.results80, go_sem, r0, r1, r2]) rfl ⟨p1, q1, p3, q3, rfl, blw_three hbw4 (Nat.le_refl _) _ _ _, own_three (ownsRow_mono oX4 (Nat.le_refl _)) (Nat.lt_succ_self _) _ _ _ |> (ownsRow_mono · (Nat.le_succ _)), own_three oY4 (Nat.lt_succ_self _) _ _ _ |> (ownsRow_mono · (Nat.le_succ _))⟩
  · obtain ⟨hfz, d0, d1, d2, r0, r1, r2⟩ := three hF4 (.bool (decide (0 < (W.toW X).length))) (.slice p1 (W.toW X).length q1) (.slice p3 (W.toW Y).length q3)
    go_wp2_with (go_at_call 119; refine (ratioLong_any _ _ _ _ (by omega)).mono ?_; rintro e w' ⟨rfl, h9⟩; subst h9)
    exact bodyPost_ret (v := .tuple #[.agg #[.bool (decide (0 < (W.toW X).length)), .slice p1 (W.toW X).length q1, .slice p3 (W.toW Y).length q3], .int .i64 0]) (by simp [results, Try.results80, go_sem, r0, r1, r2]) rfl ⟨p1, q1, p3, q3, rfl, blw_three hbw4 (Nat.le_refl _) _ _ _, own_three oX4 (Nat.lt_succ_self _) _ _ _ |> (ownsRow_mono · (Nat.le_succ _)), own_three oY4 (Nat.lt_succ_self _) _ _ _ |> (ownsRow_mono · (Nat.le_succ _))⟩

set_option maxHeartbeats 400000 in
theorem ratioSize_any (n : Int) (w : World) (h0 : -9223372036854775808 ≤ n) (h1 : n ≤ 9223372036854775807) :
    Calls Try.prog 81 #[.int .i64 n] w (RetW w n.natAbs) := by
  have hO := natOf_any n.natAbs w (by omega)
  have e1 : IntKind.u64.wrap (-(IntKind.u64.wrap n)) = if n < 0 then (n.natAbs : Int) else IntKind.u64.wrap (-(IntKind.u64.wrap n)) := by
    split
    · rw [IntKind.wrap_u64, IntKind.wrap_u64]; omega
    · rfl
  go_enter Try.func81, Try.ntmps81
  by_cases hn : n < 0
  · rw [if_pos hn] at e1
    have e2 : (-(n % 18446744073709551616)) % 18446744073709551616 = (n.natAbs : Int) := by omega
    have e3 : (-n) % 18446744073709551616 = (n.natAbs : Int) := by omega
    go_wp2_with fail
    refine Calls.mono hO ?_
    rintro e w1 ⟨a1, c1, x1, rfl, rfl, o1, -, -⟩
    clear hO
    go_wp2
    go_ret
    exact RetOwn.of o1 (by repeat (first | exact Blw.refl _ | apply Blw.ext | apply Blw.alloc | apply Blw.drewN | apply Blw.drew | refine Blw.setCell ?_ _ _ (by simp)))
  · have e2 : n % 18446744073709551616 = (n.natAbs : Int) := by omega
    have e4 : IntKind.u64.wrap n = (n.natAbs : Int) := by rw [IntKind.wrap_u64]; omega
    go_wp2_with fail
    refine Calls.mono hO ?_
    rintro e w1 ⟨a1, c1, x1, rfl, rfl, o1, -, -⟩
    clear hO
    go_wp2
    go_ret
    exact RetOwn.of o1 (by repeat (first | exact Blw.refl _ | apply Blw.ext | apply Blw.alloc | apply Blw.drewN | apply Blw.drew | refine Blw.setCell ?_ _ _ (by simp)))

theorem pw_mono_any (a b : Nat) (h : a ≤ b) : W.pw a ≤ W.pw b := Nat.pow_le_pow_right (by decide) (by first | exact h | omega)
theorem u64_lt_pw {x : Nat} (h : x < 18446744073709551616) : x < W.pw 2048 :=
  Nat.lt_of_lt_of_le (show x < W.pw 2 by have : W.pw 2 = 18446744073709551616 := by decide
                                         omega) (pw_mono_any 2 2048 (by decide))

/-- n over d in its one form. -/
def smallF (n d : Int) : Fr :=
  ⟨(decide (n < 0) != decide (d < 0)) && decide (0 < (W.toW (n.natAbs / Nat.gcd n.natAbs d.natAbs)).length), W.toW (n.natAbs / Nat.gcd n.natAbs d.natAbs), W.toW (d.natAbs / Nat.gcd n.natAbs d.natAbs)⟩

theorem smallF_same {n d : Int} (h : decide (n < 0) = decide (d < 0)) : smallF n d = ⟨false, W.toW (n.natAbs / Nat.gcd n.natAbs d.natAbs), W.toW (d.natAbs / Nat.gcd n.natAbs d.natAbs)⟩ := by
  unfold smallF; rw [h]; simp
theorem smallF_diff {n d : Int} (h : decide (n < 0) = !decide (d < 0)) : smallF n d = ⟨decide (0 < (W.toW (n.natAbs / Nat.gcd n.natAbs d.natAbs)).length), W.toW (n.natAbs / Nat.gcd n.natAbs d.natAbs), W.toW (d.natAbs / Nat.gcd n.natAbs d.natAbs)⟩ := by
  unfold smallF; rw [h]; simp

set_option maxRecDepth 100000 in
set_option maxHeartbeats 4000000 in
theorem ratioSmall_any (n d : Int) (w : World) (n0 : -9223372036854775808 ≤ n) (n1 : n ≤ 9223372036854775807) (d0 : -9223372036854775808 ≤ d) (d1 : d ≤ 9223372036854775807) (hd : d ≠ 0) :
    Calls Try.prog 24 #[.int .i64 n, .int .i64 d] w (RetFr w (smallF n d) 0) := by
  have L := fun (neg : Bool) (a : Option Addr) (c : Nat) (b : Option Addr) (e : Nat) (W' : World) (h : Arr W' a (u32s (W.toW n.natAbs))) (k : Arr W' b (u32s (W.toW d.natAbs))) (hc : (W.toW n.natAbs).length ≤ c) (hcm : c ≤ 9223372036854775807) (ha : a = none → (W.toW n.natAbs).length = 0 ∧ c = 0) (he : (W.toW d.natAbs).length ≤ e) (hem : e ≤ 9223372036854775807) (hb : b = none → (W.toW d.natAbs).length = 0 ∧ e = 0) =>
    ratioLowest_any neg a b (W.toW n.natAbs) (W.toW d.natAbs) c e W' h k hc he hcm hem ha hb (W.wf_toW _) (W.wf_toW _) (W.nrm_toW _) (W.nrm_toW _)
      (Nat.le_trans (W.len_toW_le.2 (u64_lt_pw (by omega))) (by decide)) (Nat.le_trans (W.len_toW_le.2 (u64_lt_pw (by omega))) (by decide))
      (by
        rcases Nat.eq_zero_or_pos (W.toW d.natAbs).length with e | e
        · have := W.toW_nil.1 (List.eq_nil_of_length_eq_zero e); omega
        · exact e)
      (by rw [W.val_toW, W.val_toW]; exact u64_lt_pw (Nat.lt_of_le_of_lt (Nat.div_le_self _ _) (by omega)))
      (by rw [W.val_toW, W.val_toW]; exact u64_lt_pw (Nat.lt_of_le_of_lt (Nat.div_le_self _ _) (by omega)))
  simp only [W.val_toW] at L
  have HL := Lib.hid L
  clear L
  have q : (d == 0) = false := by simpa using hd
  have hF0 : (w.alloc (.cells #[.bool false, .slice none 0 0, .slice none 0 0] 34)).heap[w.heap.size]? = some (.cells #[.bool false, .slice none 0 0, .slice none 0 0] 34 (0, 0)) := heap_alloc_new _ _
  have hcs : (decide (n < 0) = false ∧ decide (d < 0) = false) ∨ (decide (n < 0) = true ∧ decide (d < 0) = true) ∨ (decide (n < 0) = false ∧ decide (d < 0) = true) ∨ (decide (n < 0) = true ∧ decide (d < 0) = false) := by
    cases decide (n < 0) <;> cases decide (d < 0) <;> simp
  rcases hcs with ⟨hn, hdd⟩ | ⟨hn, hdd⟩ | ⟨hn, hdd⟩ | ⟨hn, hdd⟩
  · go_enter Try.func24, Try.ntmps24
    go_wp2_with fail
    refine Calls.mono (ratioSize_any n _ n0 n1) ?_
    rintro e w1 ⟨a1, c1, x1, rfl, rfl, o1, -, -⟩
    go_wp2_with fail
    refine Calls.mono (ratioSize_any d _ d0 d1) ?_
    rintro e w1 ⟨a2, c2, x2, rfl, rfl, o2, -, -⟩
    obtain ⟨_, _, he, A1, -, k1, k2, k3⟩ := own_arr o1
    cases he
    obtain ⟨_, _, he, A2, -, j1, j2, j3⟩ := own_arr o2
    cases he
    go_wp2_with fail
    refine Calls.mono (HL.out _ a1 c1 a2 c2 _ (A1.ext x2) A2 k1 k2 k3 j1 j2 j3) ?_
    rintro e w5 ⟨p1, q1, p2, q2, rfl, hb5, oX, oY⟩
    have hF5 := (KeptO.of_blw (O := fun _ => False) ((((Blw.refl _).ext x1).ext x2).trans hb5)).heap hF0 id
    have hs5 : w.heap.size + 1 ≤ (((w.alloc (.cells #[.bool false, .slice none 0 0, .slice none 0 0] 34)).ext x1).ext x2).heap.size := Nat.le_trans (by simp) (Blw.size (((Blw.refl _).ext x1).ext x2))
    have hbw5 : Blw w w5 := Blw.trans (by repeat (first | exact Blw.refl _ | apply Blw.ext | apply Blw.alloc | apply Blw.drewN | apply Blw.drew | refine Blw.setCell ?_ _ _ (by simp))) hb5
    have oX5 := ownsRow_mono oX hs5
    have oY5 := ownsRow_mono oY hs5
    clear oX oY o1 o2 hb5 hs5 A1 A2 k3 j3 HL
    simp only at oX5 oY5
    obtain ⟨hfz, e0, e1, e2, r0, r1, r2⟩ := three hF5 (.bool (false)) (.slice p1 (W.toW (n.natAbs / Nat.gcd n.natAbs d.natAbs)).length q1) (.slice p2 (W.toW (d.natAbs / Nat.gcd n.natAbs d.natAbs)).length q2)
    have HSM := Lib.hid (smallF_same (n := n) (d := d) (by rw [hn, hdd]))
    generalize W.toW (n.natAbs / Nat.gcd n.natAbs d.natAbs) = nw at *
    generalize W.toW (d.natAbs / Nat.gcd n.natAbs d.natAbs) = dw at *
    go_wp2_with fail
    refine bodyPost_ret (v := .tuple #[.agg #[.bool (false), .slice p1 nw.length q1, .slice p2 dw.length q2], .int .i64 0]) (by simp [results, Try.results24, go_sem, r0, r1, r2]) rfl ?_
    rw [HSM.out]
    exact ⟨p1, q1, p2, q2, rfl, blw_three hbw5 (Nat.le_refl _) _ _ _, own_three oX5 (Nat.lt_succ_self _) _ _ _ |> (ownsRow_mono · (Nat.le_succ _)), own_three oY5 (Nat.lt_succ_self _) _ _ _ |> (ownsRow_mono · (Nat.le_succ _))⟩
  · go_enter Try.func24, Try.ntmps24
    go_wp2_with fail
    refine Calls.mono (ratioSize_any n _ n0 n1) ?_
    rintro e w1 ⟨a1, c1, x1, rfl, rfl, o1, -, -⟩
    go_wp2_with fail
    refine Calls.mono (ratioSize_any d _ d0 d1) ?_
    rintro e w1 ⟨a2, c2, x2, rfl, rfl, o2, -, -⟩
    obtain ⟨_, _, he, A1, -, k1, k2, k3⟩ := own_arr o1
    cases he
    obtain ⟨_, _, he, A2, -, j1, j2, j3⟩ := own_arr o2
    cases he
    go_wp2_with fail
    refine Calls.mono (HL.out _ a1 c1 a2 c2 _ (A1.ext x2) A2 k1 k2 k3 j1 j2 j3) ?_
    rintro e w5 ⟨p1, q1, p2, q2, rfl, hb5, oX, oY⟩
    have hF5 := (KeptO.of_blw (O := fun _ => False) ((((Blw.refl _).ext x1).ext x2).trans hb5)).heap hF0 id
    have hs5 : w.heap.size + 1 ≤ (((w.alloc (.cells #[.bool false, .slice none 0 0, .slice none 0 0] 34)).ext x1).ext x2).heap.size := Nat.le_trans (by simp) (Blw.size (((Blw.refl _).ext x1).ext x2))
    have hbw5 : Blw w w5 := Blw.trans (by repeat (first | exact Blw.refl _ | apply Blw.ext | apply Blw.alloc | apply Blw.drewN | apply Blw.drew | refine Blw.setCell ?_ _ _ (by simp))) hb5
    have oX5 := ownsRow_mono oX hs5
    have oY5 := ownsRow_mono oY hs5
    clear oX oY o1 o2 hb5 hs5 A1 A2 k3 j3 HL
    simp only at oX5 oY5
    obtain ⟨hfz, e0, e1, e2, r0, r1, r2⟩ := three hF5 (.bool (false)) (.slice p1 (W.toW (n.natAbs / Nat.gcd n.natAbs d.natAbs)).length q1) (.slice p2 (W.toW (d.natAbs / Nat.gcd n.natAbs d.natAbs)).length q2)
    have HSM := Lib.hid (smallF_same (n := n) (d := d) (by rw [hn, hdd]))
    generalize W.toW (n.natAbs / Nat.gcd n.natAbs d.natAbs) = nw at *
    generalize W.toW (d.natAbs / Nat.gcd n.natAbs d.natAbs) = dw at *
    go_wp2_with fail
    refine bodyPost_ret (v := .tuple #[.agg #[.bool (false), .slice p1 nw.length q1, .slice p2 dw.length q2], .int .i64 0]) (by simp [results, Try.results24, go_sem, r0, r1, r2]) rfl ?_
    rw [HSM.out]
    exact ⟨p1, q1, p2, q2, rfl, blw_three hbw5 (Nat.le_refl _) _ _ _, own_three oX5 (Nat.lt_succ_self _) _ _ _ |> (ownsRow_mono · (Nat.le_succ _)), own_three oY5 (Nat.lt_succ_self _) _ _ _ |> (ownsRow_mono · (Nat.le_succ _))⟩
  · go_enter Try.func24, Try.ntmps24
    go_wp2_with fail
    refine Calls.mono (ratioSize_any n _ n0 n1) ?_
    rintro e w1 ⟨a1, c1, x1, rfl, rfl, o1, -, -⟩
    go_wp2_with fail
    refine Calls.mono (ratioSize_any d _ d0 d1) ?_
    rintro e w1 ⟨a2, c2, x2, rfl, rfl, o2, -, -⟩
    obtain ⟨_, _, he, A1, -, k1, k2, k3⟩ := own_arr o1
    cases he
    obtain ⟨_, _, he, A2, -, j1, j2, j3⟩ := own_arr o2
    cases he
    go_wp2_with fail
    refine Calls.mono (HL.out _ a1 c1 a2 c2 _ (A1.ext x2) A2 k1 k2 k3 j1 j2 j3) ?_
    rintro e w5 ⟨p1, q1, p2, q2, rfl, hb5, oX, oY⟩
    have hF5 := (KeptO.of_blw (O := fun _ => False) ((((Blw.refl _).ext x1).ext x2).trans hb5)).heap hF0 id
    have hs5 : w.heap.size + 1 ≤ (((w.alloc (.cells #[.bool false, .slice none 0 0, .slice none 0 0] 34)).ext x1).ext x2).heap.size := Nat.le_trans (by simp) (Blw.size (((Blw.refl _).ext x1).ext x2))
    have hbw5 : Blw w w5 := Blw.trans (by repeat (first | exact Blw.refl _ | apply Blw.ext | apply Blw.alloc | apply Blw.drewN | apply Blw.drew | refine Blw.setCell ?_ _ _ (by simp))) hb5
    have oX5 := ownsRow_mono oX hs5
    have oY5 := ownsRow_mono oY hs5
    clear oX oY o1 o2 hb5 hs5 A1 A2 k3 j3 HL
    simp only at oX5 oY5
    obtain ⟨hfz, e0, e1, e2, r0, r1, r2⟩ := three hF5 (.bool (decide (0 < (W.toW (n.natAbs / Nat.gcd n.natAbs d.natAbs)).length))) (.slice p1 (W.toW (n.natAbs / Nat.gcd n.natAbs d.natAbs)).length q1) (.slice p2 (W.toW (d.natAbs / Nat.gcd n.natAbs d.natAbs)).length q2)
    have HSM := Lib.hid (smallF_diff (n := n) (d := d) (by rw [hn, hdd]; rfl))
    generalize W.toW (n.natAbs / Nat.gcd n.natAbs d.natAbs) = nw at *
    generalize W.toW (d.natAbs / Nat.gcd n.natAbs d.natAbs) = dw at *
    go_wp2_with fail
    refine bodyPost_ret (v := .tuple #[.agg #[.bool (decide (0 < nw.length)), .slice p1 nw.length q1, .slice p2 dw.length q2], .int .i64 0]) (by simp [results, Try.results24, go_sem, r0, r1, r2]) rfl ?_
    rw [HSM.out]
    exact ⟨p1, q1, p2, q2, rfl, blw_three hbw5 (Nat.le_refl _) _ _ _, own_three oX5 (Nat.lt_succ_self _) _ _ _ |> (ownsRow_mono · (Nat.le_succ _)), own_three oY5 (Nat.lt_succ_self _) _ _ _ |> (ownsRow_mono · (Nat.le_succ _))⟩
  · go_enter Try.func24, Try.ntmps24
    go_wp2_with fail
    refine Calls.mono (ratioSize_any n _ n0 n1) ?_
    rintro e w1 ⟨a1, c1, x1, rfl, rfl, o1, -, -⟩
    go_wp2_with fail
    refine Calls.mono (ratioSize_any d _ d0 d1) ?_
    rintro e w1 ⟨a2, c2, x2, rfl, rfl, o2, -, -⟩
    obtain ⟨_, _, he, A1, -, k1, k2, k3⟩ := own_arr o1
    cases he
    obtain ⟨_, _, he, A2, -, j1, j2, j3⟩ := own_arr o2
    cases he
    go_wp2_with fail
    refine Calls.mono (HL.out _ a1 c1 a2 c2 _ (A1.ext x2) A2 k1 k2 k3 j1 j2 j3) ?_
    rintro e w5 ⟨p1, q1, p2, q2, rfl, hb5, oX, oY⟩
    have hF5 := (KeptO.of_blw (O := fun _ => False) ((((Blw.refl _).ext x1).ext x2).trans hb5)).heap hF0 id
    have hs5 : w.heap.size + 1 ≤ (((w.alloc (.cells #[.bool false, .slice none 0 0, .slice none 0 0] 34)).ext x1).ext x2).heap.size := Nat.le_trans (by simp) (Blw.size (((Blw.refl _).ext x1).ext x2))
    have hbw5 : Blw w w5 := Blw.trans (by repeat (first | exact Blw.refl _ | apply Blw.ext | apply Blw.alloc | apply Blw.drewN | apply Blw.drew | refine Blw.setCell ?_ _ _ (by simp))) hb5
    have oX5 := ownsRow_mono oX hs5
    have oY5 := ownsRow_mono oY hs5
    clear oX oY o1 o2 hb5 hs5 A1 A2 k3 j3 HL
    simp only at oX5 oY5
    obtain ⟨hfz, e0, e1, e2, r0, r1, r2⟩ := three hF5 (.bool (decide (0 < (W.toW (n.natAbs / Nat.gcd n.natAbs d.natAbs)).length))) (.slice p1 (W.toW (n.natAbs / Nat.gcd n.natAbs d.natAbs)).length q1) (.slice p2 (W.toW (d.natAbs / Nat.gcd n.natAbs d.natAbs)).length q2)
    have HSM := Lib.hid (smallF_diff (n := n) (d := d) (by rw [hn, hdd]; rfl))
    generalize W.toW (n.natAbs / Nat.gcd n.natAbs d.natAbs) = nw at *
    generalize W.toW (d.natAbs / Nat.gcd n.natAbs d.natAbs) = dw at *
    go_wp2_with fail
    refine bodyPost_ret (v := .tuple #[.agg #[.bool (decide (0 < nw.length)), .slice p1 nw.length q1, .slice p2 dw.length q2], .int .i64 0]) (by simp [results, Try.results24, go_sem, r0, r1, r2]) rfl ?_
    rw [HSM.out]
    exact ⟨p1, q1, p2, q2, rfl, blw_three hbw5 (Nat.le_refl _) _ _ _, own_three oX5 (Nat.lt_succ_self _) _ _ _ |> (ownsRow_mono · (Nat.le_succ _)), own_three oY5 (Nat.lt_succ_self _) _ _ _ |> (ownsRow_mono · (Nat.le_succ _))⟩
end Go.Proofs.Ytmeccjlopmjneaa
/- The fraction that a double is, plain. -/
namespace Go.Proofs.Ytmeccjlopmjneaa
open Go Ieee

/-- r is the fraction that the finite double x is. -/
structure ExF (x : Nat) (r : Fr) : Prop where
  neg : r.neg = decide (Fl.Sv x < 0)
  ok : r.Ok
  wn : W.WF r.num
  wd : W.WF r.den
  val : ∀ K, K = 1074 → W.val r.num * 2 ^ K = Fl.V x * W.val r.den
theorem frac_eq {a b c d : Nat} (h1 : Nat.gcd a b = 1) (h2 : Nat.gcd c d = 1) (h : a * d = c * b) (hb : 0 < b) : a = c ∧ b = d := by
  have d1 : b ∣ d := by
    have : b ∣ a * d := ⟨c, by rw [h, Nat.mul_comm]⟩
    exact (Nat.Coprime.symm h1).dvd_of_dvd_mul_left this
  have d2 : d ∣ b := by
    have : d ∣ c * b := ⟨a, by rw [← h, Nat.mul_comm]⟩
    exact (Nat.Coprime.symm h2).dvd_of_dvd_mul_left this
  have e : b = d := Nat.dvd_antisymm d1 d2
  subst e
  exact ⟨Nat.eq_of_mul_eq_mul_right hb h, rfl⟩
/-- Two fractions in their one form, of one sign and value, are one. -/
theorem Fr.Ok.same {r s : Fr} (hr : r.Ok) (hs : s.Ok) (wr1 : W.WF r.num) (wr2 : W.WF r.den) (ws1 : W.WF s.num) (ws2 : W.WF s.den) (hn : r.neg = s.neg) (h : W.val r.num * W.val s.den = W.val s.num * W.val r.den) : r = s := by
  obtain ⟨rn, rnum, rden⟩ := r
  obtain ⟨sn, snum, sden⟩ := s
  simp only at *
  have hp : 0 < W.val rden := W.val_pos hr.nd (by intro e; have := hr.d0; simp only at this; rw [e] at this; simp at this)
  obtain ⟨e1, e2⟩ := frac_eq hr.g hs.g h hp
  rw [hn, W.val_inj wr1 hr.nn ws1 hs.nn e1, W.val_inj wr2 hr.nd ws2 hs.nd e2]
theorem ExF.uniq {x : Nat} {r s : Fr} (h : ExF x r) (k : ExF x s) : r = s := by
  refine h.ok.same k.ok h.wn h.wd k.wn k.wd (h.neg.trans k.neg.symm) ?_
  obtain ⟨K, hK⟩ : ∃ K, K = 1074 := ⟨_, rfl⟩
  have h1 := h.val K hK
  have h2 := k.val K hK
  refine Nat.eq_of_mul_eq_mul_right (Nat.two_pow_pos K) ?_
  rw [Nat.mul_right_comm (W.val r.num), h1, Nat.mul_right_comm (W.val s.num), h2]
  ac_rfl

namespace Fl
theorem mag_lt (x : Nat) : mag x < 2 ^ 53 := by
  unfold mag; split <;> omega
theorem plc_lt {x : Nat} (h : isFin x = true) : plc x ≤ 2045 := by
  have : x % 2 ^ 63 < infR := by simpa [isFin] using h
  unfold infR at this
  unfold plc; omega
theorem Sv_neg (x : Nat) : decide (Sv x < 0) = (fneg x && decide (mag x ≠ 0)) := by
  unfold Sv V
  have hp := Nat.two_pow_pos (plc x)
  by_cases m0 : mag x = 0
  · rw [m0]; cases fneg x <;> simp
  · have h1 : 0 < mag x * 2 ^ plc x := Nat.mul_pos (by omega) hp
    generalize mag x * 2 ^ plc x = P at *
    cases fneg x
    · simp only [Bool.false_eq_true, if_false, Bool.false_and, decide_eq_false_iff_not]; omega
    · simp only [if_true, Bool.true_and]
      exact decide_eq_decide.2 ⟨fun _ => m0, fun _ => by omega⟩
/-- x < 0. -/
theorem lt_zero {x : Nat} (h : isFin x = true) : (ord x 0 == some .lt) = decide (Sv x < 0) := by
  rw [ord_fin h (by decide)]
  have e : Sv 0 = 0 := by decide
  rw [e]
  by_cases c : Sv x < 0
  · have : compare (Sv x) 0 = .lt := by simp only [compare, compareOfLessAndEq, if_pos c]
    rw [this]; simpa using c
  · have : compare (Sv x) 0 ≠ .lt := by
      simp only [compare, compareOfLessAndEq, if_neg c]; split <;> simp
    rw [Bool.eq_iff_iff]; simp [this, c]
end Fl
theorem toW_len_pow {m q k : Nat} (hm : m < 2 ^ 64) (h : 64 + q ≤ 32 * k) : (W.toW (m * 2 ^ q)).length ≤ k := by
  rw [W.len_toW_le, W.pw_two]
  refine Nat.lt_of_lt_of_le (Nat.mul_lt_mul_of_pos_right hm (Nat.two_pow_pos q)) ?_
  rw [← Nat.pow_add]
  exact Nat.pow_le_pow_right (by omega) h
theorem odd_gcd {m q : Nat} (h : m % 2 = 1) : Nat.gcd m (2 ^ q) = 1 := by
  have : Nat.Coprime m 2 := by
    show Nat.gcd m 2 = 1
    have h1 : Nat.gcd m 2 ∣ 2 := Nat.gcd_dvd_right _ _
    have h2 : Nat.gcd m 2 ∣ m := Nat.gcd_dvd_left _ _
    have h3 : Nat.gcd m 2 ≤ 2 := Nat.le_of_dvd (by omega) h1
    have h4 : Nat.gcd m 2 ≠ 0 := by intro e; rw [e] at h1; omega
    rcases (by omega : Nat.gcd m 2 = 1 ∨ Nat.gcd m 2 = 2) with e | e
    · exact e
    · rw [e] at h2; omega
  exact Nat.Coprime.pow_right q this
theorem pos_len {n : Nat} (h : 0 < n) : 0 < (W.toW n).length := by
  rcases Nat.eq_zero_or_pos (W.toW n).length with e | e
  · have := W.toW_nil.1 (List.eq_nil_of_length_eq_zero e); omega
  · exact e
theorem nrm_one : W.Nrm [1] := by unfold W.Nrm; simp
theorem exF_zero {x : Nat} (h : Fl.mag x = 0) : ExF x ⟨false, [], [1]⟩ := by
  refine ⟨?_, ⟨Nat.zero_le _, by show (1 : Nat) ≤ 2048; omega, W.nrm_nil, nrm_one, Nat.one_pos, fun _ => rfl, rfl⟩, W.WF.nil, fun y hy => by simp at hy; omega, ?_⟩
  · rw [Fl.Sv_neg, h]; simp
  · intro K _
    unfold Fl.V
    rw [h]; simp [W.val]
/-- Where the place is below the point. -/
theorem exF_low {x m t q : Nat} (hm : m * 2 ^ t = Fl.mag x) (h0 : 0 < m) (h64 : m < 2 ^ 64) (ho : m % 2 = 1) (hq : t + Fl.plc x + q = 1074) : ExF x ⟨decide (Fl.Sv x < 0), W.toW m, W.toW (2 ^ q)⟩ := by
  have lm : (W.toW m).length ≤ 2 := by have := toW_len_pow (q := 0) (k := 2) h64 (by omega); simpa using this
  have lq : (W.toW (2 ^ q)).length ≤ 40 := by have := toW_len_pow (m := 1) (q := q) (k := 40) (by decide) (by omega); simpa using this
  have hp := Nat.two_pow_pos q
  refine ⟨rfl, ⟨by show (W.toW m).length ≤ _; omega, by show (W.toW (2 ^ q)).length ≤ _; omega, W.nrm_toW _, W.nrm_toW _, pos_len hp, fun h => absurd h (by have := pos_len h0; show ¬ (W.toW m).length = 0; omega), by rw [W.val_toW, W.val_toW]; exact odd_gcd ho⟩, W.wf_toW _, W.wf_toW _, ?_⟩
  intro K hK
  show W.val (W.toW m) * 2 ^ K = Fl.V x * W.val (W.toW (2 ^ q))
  rw [W.val_toW, W.val_toW]
  unfold Fl.V
  rw [← hm, show K = t + Fl.plc x + q by omega, Nat.pow_add, Nat.pow_add]
  ac_rfl
/-- Where it is not. -/
theorem exF_high {x m t q : Nat} (hm : m * 2 ^ t = Fl.mag x) (h0 : 0 < m) (h64 : m < 2 ^ 64) (hq : t + Fl.plc x = q + 1074) (hq2 : q ≤ 1000) : ExF x ⟨decide (Fl.Sv x < 0), W.toW (m * 2 ^ q), [1]⟩ := by
  have lm : (W.toW (m * 2 ^ q)).length ≤ 40 := toW_len_pow h64 (by omega)
  have hp : 0 < m * 2 ^ q := Nat.mul_pos h0 (Nat.two_pow_pos q)
  refine ⟨rfl, ⟨by show (W.toW (m * 2 ^ q)).length ≤ _; omega, by show (1 : Nat) ≤ 2048; omega, W.nrm_toW _, nrm_one, Nat.one_pos, fun h => absurd h (by have := pos_len hp; show ¬ (W.toW (m * 2 ^ q)).length = 0; omega), by show Nat.gcd _ (W.val [1]) = 1; simp [W.val]⟩, W.wf_toW _, fun y hy => by simp at hy; omega, ?_⟩
  intro K hK
  show W.val (W.toW (m * 2 ^ q)) * 2 ^ K = Fl.V x * W.val [1]
  rw [W.val_toW]
  unfold Fl.V
  have : W.val [1] = 1 := by decide
  rw [this, Nat.mul_one, ← hm, Nat.mul_assoc, Nat.mul_assoc, ← Nat.pow_add, ← Nat.pow_add, hq, hK]
end Go.Proofs.Ytmeccjlopmjneaa
/- nat.Shift upwards. -/
namespace Go.Proofs.Ytmeccjlopmjneaa
open Go.RowKit

/-- make([]uint32, n, m): n words of nought of the call's own, with room for m. -/
theorem wpList_words_cap (w : World) {ops : Array Oper} {rest : List Oper} {o : Oper} {a : Act} {Q : Exit → Act → World → Prop}
    (hg : o.guard = none) (l c : Operand) (hop : o.op = Op.makeSlice 32 l c)
    (kl kc : IntKind) (L C : Int) (n m : Nat) (hl : a.eval l = .int kl L) (hc : a.eval c = .int kc C) (hL : L = (n : Int)) (hC : C = (m : Int)) (hnm : n ≤ m) (h63 : m ≤ 1099511627776)
    (hK : ∀ w', w'.ownsRow w.heap.size 44 1 (.slice (some ⟨w.heap.size, 0, none⟩) n m) n (u32s (List.replicate n 0)) → Blw w w' → wpList Try.prog ops Q rest (a.put o.dst (.slice (some ⟨w.heap.size, 0, none⟩) n m)) w') :
    wpList Try.prog ops Q (o :: rest) a w := by
  subst hL hC
  obtain ⟨i, hi, hz0, hz1, hz2⟩ := info_parts sl_words.info
  refine wpList_plain hg fun K hK' => ?_
  have hrun := run_make (P := Try.prog) (w := w) 32 44 i _ sl_words.under hi hz0 kl kc n m (by omega) (by omega) (by rw [hz2]; omega) (by omega)
  simp only [Int.toNat_natCast, hz1, Nat.mul_one] at hrun
  unfold Oper.wp
  simp [execOp, hop, hl, hc, hrun, Result.andThen]
  refine hK' _ _ (hK _ ?_ ((Blw.refl w).alloc _))
  have e : List.replicate m 0 = [] ++ List.replicate n 0 ++ List.replicate (m - n) 0 := by
    rw [List.nil_append, List.replicate_append_replicate, show n + (m - n) = m by omega]
  have hb := Bk.new w (List.replicate m 0)
  have hw := Bk.split (a := []) (l := List.replicate n 0) (b := List.replicate (m - n) 0) (by rw [← e]; exact hb)
  have ho := hw.own (B := w.heap.size) (Nat.le_refl _) (by simp; unfold maxLen; omega)
  change (w.alloc (.cells (madeCells #[.int .u32 0] m) 44)).ownsRow _ _ _ _ _ _
  rw [made_words]
  have e2 : (List.replicate n 0).length + (u32s (List.replicate (m - n) 0)).length = m := by simp; omega
  rw [e2, List.length_replicate] at ho
  exact ho

set_option maxRecDepth 100000 in
set_option maxHeartbeats 1000000 in
theorem natShift_up (a : Option Addr) (l : List Nat) (cap n : Nat) (w : World) (h : Arr w a (u32s l)) (hc : l.length ≤ cap) (hcm : cap ≤ 9223372036854775807) (wl : W.WF l) (nl : W.Nrm l) (hl : l.length ≤ 4096) (hn : n ≤ 131000) :
    Calls Try.prog 154 #[.slice a l.length cap, .int .i64 n] w (RetOk w (W.val l * 2 ^ n)) := by
  have c1 := chk_zero (l := l) (by omega) nl
  have hck := natCheck_any a l cap w h (by omega)
  rw [c1] at hck
  by_cases h0 : l.length = 0
  · have l0 : l = [] := List.eq_nil_of_length_eq_zero h0
    subst l0
    have post : RetOk w (W.val [] * 2 ^ n) (.returned (.tuple #[.slice none 0 0, .int .i64 0])) w := by
      rw [W.val, Nat.zero_mul]
      refine ⟨none, 0, ?_, Blw.refl w, ?_⟩
      · rw [W.toW_zero]; rfl
      · rw [W.toW_zero]; exact World.ownsRow_nil _ _ _ _
    have hp := Lib.hid post
    clear post
    go_enter Try.func154, Try.ntmps154
    go_wp2_with fail
    refine Calls.mono hck ?_
    rintro e w' ⟨rfl, rfl⟩
    go_wp2
    go_ret2
    exact hp.out
  · go_enter Try.func154, Try.ntmps154
    go_wp2_with fail
    refine Calls.mono hck ?_
    rintro e w' ⟨rfl, rfl⟩
    have hbl := W.bl_words wl (x := l.getLast (by intro h; exact h0 (by rw [h]; rfl))) (List.getLast?_eq_some_getLast _) (fun e => nl (by rw [List.getLast?_eq_some_getLast (by intro h; exact h0 (by rw [h]; rfl)), e]))
    have hb32 : W.bl (l.getLast (by intro h; exact h0 (by rw [h]; rfl))) ≤ 32 := W.bl_le32 (wl _ (List.getLast_mem _))
    have hbits := natBits_any a l cap w' h hc hcm (by omega) wl
    generalize W.bl (W.val l) = bl at *
    have bl2 : bl ≤ 131072 := by omega
    clear hbl hb32
    have q : decide (262144 < (bl : Int) + (n : Int)) = false := by simp; omega
    go_wp2_with fail
    refine Calls.mono hbits ?_
    rintro e wB ⟨rfl, rfl⟩
    clear hbits hck
    obtain ⟨k, ek⟩ : ∃ k, n / 32 = k := ⟨_, rfl⟩
    obtain ⟨s, es⟩ : ∃ s, n % 32 = s := ⟨_, rfl⟩
    have ek' : Int.tdiv (n : Int) 32 = (k : Int) := by rw [← ek]; rfl
    have es' : Int.tmod (n : Int) 32 = (s : Int) := by rw [← es]; rfl
    have hs : s < 32 := by omega
    have hk : k ≤ 4094 := by omega
    have hn2 : n = 32 * k + s := by omega
    have HN := Lib.hid hn2
    clear ek es hn2
    go_wp2_with (refine wpList_words_cap _ rfl _ _ rfl .i64 .i64 _ _ k (k + l.length + 1) rfl rfl rfl (by omega) (by omega) (by omega) ?_; intro w1 hown1 hb1)
    refine Calls.mono (natUp_any a l cap s w1 (h.blw hb1) (by omega) wl hs) ?_
    rintro e w2 ⟨rfl, ds, hbk, hdl, hdw, hdv, hb2⟩
    have HDL := Lib.hid hdl
    have HDV := Lib.hid hdv
    clear hdl hdv
    go_wp2_with (at_builtin; refine wpList_app wB _ rfl _ _ 32 rfl sl_words (hb1.trans hb2) _ k _ rfl (ownsRow_blw hown1 hb2) (some ⟨w1.heap.size, 0, none⟩) (l.length + 1) _ (u32s ds) rfl (fun h => by cases h) hbk.arr (by rw [List.length_map, HDL.out, Nat.mul_one]) (u32s_one _) (by unfold maxLen; omega) (by omega) ?_; intro v3 w3 hown3 hb3 hg3 hn3)
    obtain ⟨a3, c3, rfl, har3, -, hn3c, hc3, -⟩ := own_arr hown3
    have e3 : u32s (List.replicate k 0) ++ u32s ds = u32s (List.replicate k 0 ++ ds) := by rw [← List.map_append]
    have l3 : (List.replicate k 0 ++ ds).length = k + (l.length + 1) := by rw [List.length_append, List.length_replicate, HDL.out]
    have w3f : W.WF (List.replicate k 0 ++ ds) := (W.WF.rep k).app hdw
    have v3 : W.val (List.replicate k 0 ++ ds) = W.val l * 2 ^ n := by
      rw [W.val_app, W.val_rep, Nat.zero_add, List.length_replicate, HDV.out, W.pw_two, HN.out, Nat.pow_add]
      rw [Nat.mul_left_comm]
    rw [e3] at har3 hown3
    have hle : (W.toW (W.val (List.replicate k 0 ++ ds))).length ≤ 8192 := Nat.le_trans (W.toW_len_le w3f) (by omega)
    have ht := natTold_any a3 (List.replicate k 0 ++ ds) c3 w3 har3 (by omega) (by unfold maxLen at hc3; omega) (by omega) w3f
    have hcut : w3.ownsRow wB.heap.size 44 1 (.slice a3 (W.toW (W.val (List.replicate k 0 ++ ds))).length c3) (W.toW (W.val (List.replicate k 0 ++ ds))).length (u32s (W.toW (W.val (List.replicate k 0 ++ ds)))) := own_cut (by rw [l3]; exact hown3) w3f
    rw [if_neg (by omega), l3] at ht
    rw [v3] at ht hcut
    have HT := Lib.hid ht
    have HCUT := Lib.hid hcut
    clear ht hcut hown3 har3 e3 l3 v3 hle hg3 hn3 hown1 hbk
    go_wp2_with fail
    refine Calls.mono HT.out ?_
    rintro e w4 ⟨rfl, rfl⟩
    go_wp2
    go_ret2
    exact ⟨a3, c3, rfl, hb3, HCUT.out⟩
end Go.Proofs.Ytmeccjlopmjneaa
/- The bodyless functions of package math that the program calls: what each call runs to. -/
namespace Go.Proofs.Ytmeccjlopmjneaa
open Go.RowKit

@[go_sem] theorem call_frombits (n : Int) (w : World) : (callFunc 30 #[.int .u64 n]).run Try.prog w = .ok (.value (.float .f64 n.toNat)) w := by
  rw [run_callFunc_extern (fn := Try.f30) (e := Extern.MathFloatBits.float64frombits) (by kernel_rfl) (by kernel_rfl) (by kernel_rfl) (by kernel_rfl) (by kernel_rfl)]; rfl
@[go_sem] theorem call_bits (n : Nat) (w : World) : (callFunc 27 #[.float .f64 n]).run Try.prog w = .ok (.value (.int .u64 n)) w := by
  rw [run_callFunc_extern (fn := Try.f27) (e := Extern.MathFloatBits.float64bits) (by kernel_rfl) (by kernel_rfl) (by kernel_rfl) (by kernel_rfl) (by kernel_rfl)]; rfl
end Go.Proofs.Ytmeccjlopmjneaa
/- Walks of the small functions on one float: which are finite, sizes. -/
namespace Go.Proofs.Ytmeccjlopmjneaa
open Go.RowKit

theorem ret_bool {a b : Bool} (h : a = b) : Ending.returned (.bool a) = .returned (.bool b) := by rw [h]
theorem ret_float {a b : Nat} (h : a = b) : Ending.returned (.float .f64 a) = .returned (.float .f64 b) := by rw [h]

set_option maxHeartbeats 400000 in
theorem abs_any (x : Nat) (w : World) (hx : x < 2 ^ 64) :
    Calls Try.prog 31 #[.float .f64 x] w fun e w' => e = .returned (.float .f64 (x % 2 ^ 63)) ∧ w' = w := by
  go_enter Try.func31, Try.ntmps31
  go_wp2
  go_ret
  exact ⟨ret_float (Fl.bits_abs x hx), rfl⟩

set_option maxHeartbeats 400000 in
theorem isNaN_any (x : Nat) (w : World) :
    Calls Try.prog 19 #[.float .f64 x] w fun e w' => e = .returned (.bool (Fl.isNaN x)) ∧ w' = w := by
  go_enter Try.func19, Try.ntmps19
  go_wp2
  go_ret
  exact ⟨ret_bool (Fl.ord_self_ne x), rfl⟩

set_option maxHeartbeats 400000 in
theorem isInf_any (x : Nat) (w : World) (hx : x < 2 ^ 64) :
    Calls Try.prog 20 #[.float .f64 x, .int .i64 0] w fun e w' => e = .returned (.bool (Fl.isInf x)) ∧ w' = w := by
  go_enter Try.func20, Try.ntmps20
  go_wp2_with (go_at_call 31; refine (abs_any _ _ hx).mono ?_; rintro e w' ⟨rfl, rfl⟩)
  go_ret
  exact ⟨ret_bool ((Fl.ord_max (Nat.mod_lt _ (by decide))).trans (Fl.isInf_mod x)), rfl⟩

set_option maxHeartbeats 400000 in
theorem realFinite_any (x : Nat) (w : World) (hx : x < 2 ^ 64) :
    Calls Try.prog 84 #[.float .f64 x] w fun e w' => e = .returned (.bool (Fl.isFin x)) ∧ w' = w := by
  go_enter Try.func84, Try.ntmps84
  cases hn : Fl.isNaN x
  all_goals
    go_wp2_with (first | (go_at_call 19; refine (isNaN_any _ _).mono ?_; rintro e w' ⟨rfl, rfl⟩) | (go_at_call 20; refine (isInf_any _ _ hx).mono ?_; rintro e w' ⟨rfl, rfl⟩))
    go_ret
    exact ⟨ret_bool (by rw [Fl.fin_not, hn]; simp), rfl⟩


set_option maxHeartbeats 400000 in
theorem partsFinite_any (x : Nat) (w : World) (hx : x < 2 ^ 64) :
    Calls Try.prog 132 #[.float .f64 x] w fun e w' => e = .returned (.bool (Fl.isFin x)) ∧ w' = w := by
  go_enter Try.func132, Try.ntmps132
  cases hn : Fl.isInf x
  all_goals
    go_wp2_with (first | (go_at_call 20; refine (isInf_any _ _ hx).mono ?_; rintro e w' ⟨rfl, rfl⟩))
    go_ret
    exact ⟨ret_bool (by rw [Fl.fin_not, hn]; simp; try exact Fl.ord_self_eq x), rfl⟩



end Go.Proofs.Ytmeccjlopmjneaa
/- real.taken, shifted, Exact. -/
namespace Go.Proofs.Ytmeccjlopmjneaa
open Go.RowKit

namespace Fl
theorem and_mask (x : Nat) (hx : x < 2 ^ 64) : bits .and .u64 (x : Int) 4503599627370495 = ((x % 2 ^ 52 : Nat) : Int) := by
  unfold bits
  show IntKind.u64.wrap ((BitVec.ofInt 64 (x : Int) &&& BitVec.ofInt 64 4503599627370495).toNat : Int) = _
  have ha : (BitVec.ofInt 64 (x : Int)).toNat = x := by rw [BitVec.ofInt_natCast, BitVec.toNat_ofNat]; omega
  have hc : (BitVec.ofInt 64 4503599627370495).toNat = 2 ^ 52 - 1 := by decide
  rw [BitVec.toNat_and, ha, hc, Nat.and_two_pow_sub_one_eq_mod]
  simp only [IntKind.wrap, IntKind.bits, IntKind.signed]
  simp; omega
theorem and_exp (x : Nat) (hx : x < 2 ^ 64) : bits .and .u64 ((x : Int) / 4503599627370496) 2047 = ((x / 2 ^ 52 % 2048 : Nat) : Int) := by
  unfold bits
  have ha : (BitVec.ofInt 64 ((x : Int) / 4503599627370496)).toNat = x / 2 ^ 52 := by
    have : ((x : Int) / 4503599627370496) = ((x / 2 ^ 52 : Nat) : Int) := by omega
    rw [this, BitVec.ofInt_natCast, BitVec.toNat_ofNat]; omega
  show IntKind.u64.wrap ((BitVec.ofInt 64 ((x : Int) / 4503599627370496) &&& BitVec.ofInt 64 2047).toNat : Int) = _
  have hc : (BitVec.ofInt 64 2047).toNat = 2 ^ 11 - 1 := by decide
  rw [BitVec.toNat_and, ha, hc, Nat.and_two_pow_sub_one_eq_mod]
  simp only [IntKind.wrap, IntKind.bits, IntKind.signed]
  simp; omega
theorem or_hidden (m : Nat) (hm : m < 2 ^ 52) : bits .or .u64 (m : Int) 4503599627370496 = ((2 ^ 52 + m : Nat) : Int) := by
  unfold bits
  show IntKind.u64.wrap ((BitVec.ofInt 64 (m : Int) ||| BitVec.ofInt 64 4503599627370496).toNat : Int) = _
  have ha : (BitVec.ofInt 64 (m : Int)).toNat = m := by rw [BitVec.ofInt_natCast, BitVec.toNat_ofNat]; omega
  have hc : (BitVec.ofInt 64 4503599627370496).toNat = 2 ^ 52 := by decide
  have h2 := Nat.two_pow_add_eq_or_of_lt hm 1
  rw [Nat.mul_one] at h2
  rw [BitVec.toNat_or, ha, hc, Nat.or_comm, ← h2]
  simp only [IntKind.wrap, IntKind.bits, IntKind.signed]
  simp; omega
theorem and_one (m : Nat) (hm : m < 2 ^ 64) : bits .and .u64 (m : Int) 1 = ((m % 2 : Nat) : Int) := by
  unfold bits
  show IntKind.u64.wrap ((BitVec.ofInt 64 (m : Int) &&& BitVec.ofInt 64 1).toNat : Int) = _
  have ha : (BitVec.ofInt 64 (m : Int)).toNat = m := by rw [BitVec.ofInt_natCast, BitVec.toNat_ofNat]; omega
  have hc : (BitVec.ofInt 64 1).toNat = 2 ^ 1 - 1 := by decide
  rw [BitVec.toNat_and, ha, hc, Nat.and_two_pow_sub_one_eq_mod]
  simp only [IntKind.wrap, IntKind.bits, IntKind.signed]
  simp; omega
end Fl

set_option maxHeartbeats 1000000 in
theorem taken_any (x : Nat) (w : World) (hx : x < 2 ^ 64) :
    Calls Try.prog 127 #[.float .f64 x] w fun e w' => e = .returned (.tuple #[.int .u64 (Fl.mag x), .int .i64 ((Fl.plc x : Int) - 1074)]) ∧ w' = w := by
  have h1 := Fl.and_mask x hx
  have h2 := Fl.and_exp x hx
  have e1 : (x / 2 ^ 52 % 2048 : Nat) < 2048 := Nat.mod_lt _ (by decide)
  have e2 : (x % 2 ^ 52 : Nat) < 2 ^ 52 := Nat.mod_lt _ (by decide)
  by_cases c : x / 2 ^ 52 % 2048 = 0
  · have hm : Fl.mag x = x % 2 ^ 52 := by unfold Fl.mag; rw [if_pos (by omega)]; omega
    have hp : Fl.plc x = 0 := by unfold Fl.plc; omega
    rw [hm, hp]
    rw [c] at h2
    generalize x % 2 ^ 52 = m at *
    clear hm hp c
    go_enter Try.func127, Try.ntmps127
    go_wp2
    go_ret2
    exact ⟨rfl, rfl⟩
  · have hm : Fl.mag x = 2 ^ 52 + x % 2 ^ 52 := by unfold Fl.mag; rw [if_neg (by omega)]
    have hp : (Fl.plc x : Int) - 1074 = ((x / 2 ^ 52 % 2048 : Nat) : Int) - 1 + -1074 := by unfold Fl.plc; omega
    have h3 := Fl.or_hidden _ e2
    rw [hm, hp]
    generalize x % 2 ^ 52 = m at *
    generalize x / 2 ^ 52 % 2048 = k at *
    have q : ((k : Int) == 0) = false := by simp; omega
    clear hm hp c
    go_enter Try.func127, Try.ntmps127
    go_wp2
    go_ret2
    exact ⟨by rw [show ((2 ^ 52 + m : Nat) : Int) = 4503599627370496 + (m : Int) by omega]; rfl, rfl⟩

set_option maxHeartbeats 1000000 in
theorem shifted_any (a : Option Addr) (l : List Nat) (cap n : Nat) (w : World) (h : Arr w a (u32s l)) (hc : l.length ≤ cap) (hcm : cap ≤ 9223372036854775807) (wl : W.WF l) (nl : W.Nrm l) (hl : l.length ≤ 4096) (hn : n ≤ 131000) :
    Calls Try.prog 114 #[.slice a l.length cap, .int .i64 n] w (RetW w (W.val l * 2 ^ n)) := by
  have hs := natShift_up a l cap n w h hc hcm wl nl hl hn
  generalize W.val l * 2 ^ n = N at *
  clear h
  go_enter Try.func114, Try.ntmps114
  go_wp2_with fail
  refine Calls.mono hs ?_
  rintro e w1 ⟨a1, c1, rfl, hb, hown⟩
  go_wp2
  go_ret
  exact RetOwn.of hown hb

set_option maxRecDepth 100000 in
set_option maxHeartbeats 4000000 in
theorem realExact_bad (x : Nat) (w : World) (hx : x < 2 ^ 64) (hf : Fl.isFin x = false) :
    Calls Try.prog 67 #[.float .f64 x] w fun e w' => e = .returned (.tuple #[frV ⟨false, [], []⟩ none 0 none 0, .int .i64 8]) ∧ ∃ z, w' = w.ext z := by
  go_enter Try.func67, Try.ntmps67
  go_wp2_with fail
  refine (realFinite_any _ _ hx).mono ?_
  rintro e w1 ⟨rfl, rfl⟩
  rw [hf]
  go_wp2
  exact bodyPost_ret (v := .tuple #[.agg #[.bool false, .slice none 0 0, .slice none 0 0], .int .i64 8]) (by simp [results, Try.results67, go_sem]) rfl ⟨rfl, Blw.is (by repeat (first | exact Blw.refl _ | apply Blw.ext | apply Blw.alloc | apply Blw.drewN | apply Blw.drew | refine Blw.setCell ?_ _ _ (by simp)))⟩

/-- The fraction that the double is, in memory of the call's own. -/
def RetEx (x : Nat) (w : World) (e : Ending) (w' : World) : Prop := ∃ r : Fr, ExF x r ∧ RetFr w r 0 e w'
theorem one_val : W.val [1] = 1 := by decide

set_option maxRecDepth 100000 in
set_option maxHeartbeats 4000000 in
theorem realExact_ok (x : Nat) (w : World) (hx : x < 2 ^ 64) (hf : Fl.isFin x = true) :
    Calls Try.prog 67 #[.float .f64 x] w (RetEx x w) := by
  have hml := Fl.mag_lt x
  have hpl := Fl.plc_lt hf
  have hlz : (FloatKind.f64.format.order x 0 == some .lt) = decide (Fl.Sv x < 0) := Fl.lt_zero hf
  have hF0 : (w.alloc (.cells #[.bool false, .slice none 0 0, .slice none 0 0] 34)).heap[w.heap.size]? = some (.cells #[.bool false, .slice none 0 0, .slice none 0 0] 34 (0, 0)) := heap_alloc_new _ _
  go_enter Try.func67, Try.ntmps67
  go_wp2_with fail
  refine (realFinite_any _ _ hx).mono ?_
  rintro e w1 ⟨rfl, rfl⟩
  rw [hf]
  go_wp2_with fail
  refine (taken_any _ _ hx).mono ?_
  rintro e w1 ⟨rfl, rfl⟩
  go_wp2_with fail
  refine Calls.mono (natOf_any _ _ (by omega)) ?_
  rintro e W1 ⟨a, c, z2, rfl, hz2, hown, har, hna⟩
  rw [← hz2] at hown har
  have hb1 : Blw (w.alloc (.cells #[.bool false, .slice none 0 0, .slice none 0 0] 34)) W1 := by rw [hz2]; exact World.blw_ext _ z2
  clear hz2
  have hF1 := (KeptO.of_blw (O := fun _ => False) hb1).heap hF0 id
  have hbw : Blw w W1 := ((Blw.refl w).alloc _).trans hb1
  have hsz : w.heap.size + 1 ≤ W1.heap.size := by have := hb1.size; simpa using this
  have hB0 : (w.alloc (.cells #[.bool false, .slice none 0 0, .slice none 0 0] 34)).heap.size = w.heap.size + 1 := by simp
  rw [hB0] at hown
  have hol := own_lit W1 [1] (show 1 ≤ maxLen by decide)
  have hF2 := (KeptO.of_blw (O := fun _ => False) ((Blw.refl W1).alloc (.cells #[.int .u32 1] 44))).heap hF1 id
  clear hF0 hF1 hB0
  by_cases m0 : Fl.mag x = 0
  · have hex := exF_zero m0
    have HEX := Lib.hid hex
    rw [m0, W.toW_zero] at *
    obtain ⟨hfz, e0, e1, e2, r0, r1, r2⟩ := three hF2 (.bool false) (.slice none 0 0) (.slice (some ⟨W1.heap.size, 0, none⟩) 1 1)
    clear hown har hna hex
    go_wp2
    exact bodyPost_ret (v := .tuple #[.agg #[.bool false, .slice none 0 0, .slice (some ⟨W1.heap.size, 0, none⟩) 1 1], .int .i64 0]) (by simp [results, Try.results67, go_sem, r0, r1, r2]) rfl
      ⟨⟨false, [], [1]⟩, HEX.out, none, 0, some ⟨W1.heap.size, 0, none⟩, 1, rfl, blw_three (hbw.alloc _) (Nat.le_refl _) _ _ _, World.ownsRow_nil _ _ _ _, ownsRow_mono (own_three (ownsRow_mono hol hsz) (Nat.lt_succ_self _) _ _ _) (Nat.le_succ _)⟩
  · have mp : 0 < Fl.mag x := by omega
    have lp := pos_len mp
    have q0 : (((W.toW (Fl.mag x)).length : Int) == 0) = false := beq_false_of_ne (by omega)
    have hB2 := (Blw.refl W1).alloc (.cells #[.int .u32 1] 44)
    have S0 : ∃ (m t : Nat) (a' : Option Addr) (c' : Nat), Value.int .u64 (Fl.mag x : Int) = .int .u64 m ∧ Value.int .i64 ((Fl.plc x : Int) - 1074) = .int .i64 ((Fl.plc x : Int) - 1074 + t) ∧ Value.slice a (W.toW (Fl.mag x)).length c = .slice a' (W.toW m).length c' ∧ 0 < m ∧ m < 2 ^ 53 ∧ Hid (m * 2 ^ t = Fl.mag x) ∧ t ≤ 60 ∧ (t = 0 ∨ Fl.plc x + t ≤ 1074) ∧ (W1.alloc (.cells #[.int .u32 1] 44)).ownsRow (w.heap.size + 1) 44 1 (.slice a' (W.toW m).length c') (W.toW m).length (u32s (W.toW m)) ∧ Blw (W1.alloc (.cells #[.int .u32 1] 44)) (W1.alloc (.cells #[.int .u32 1] 44)) :=
      ⟨Fl.mag x, 0, a, c, rfl, by congr 1; omega, rfl, mp, hml, by (show _ = _; simp), by omega, .inl rfl, ownsRow_blw hown hB2, Blw.refl _⟩
    have HS0 := Lib.hid S0
    have HF2 := Lib.hid hF2
    have HOL := Lib.hid hol
    clear S0 hF2 hol hown har hna lp mp
    go_wp2
    go_loopw [4, 5, 6] (fun v4 v5 v6 wr => ∃ (m t : Nat) (a' : Option Addr) (c' : Nat), v4 = .int .u64 m ∧ v5 = .int .i64 ((Fl.plc x : Int) - 1074 + t) ∧ v6 = .slice a' (W.toW m).length c' ∧ 0 < m ∧ m < 2 ^ 53 ∧ Hid (m * 2 ^ t = Fl.mag x) ∧ t ≤ 60 ∧ (t = 0 ∨ Fl.plc x + t ≤ 1074) ∧ wr.ownsRow (w.heap.size + 1) 44 1 (.slice a' (W.toW m).length c') (W.toW m).length (u32s (W.toW m)) ∧ Blw (W1.alloc (.cells #[.int .u32 1] 44)) wr) (fun _ v5 _ _ => (-(intOf v5)).toNat)
    case atStart => exact HS0.out
    case round =>
      obtain ⟨m, t, a', c', rfl, rfl, rfl, hm0, hm53, hmt, ht, htp, hown, hb⟩ := hrel
      have h1 := Fl.and_one m (by omega)
      generalize hr : m % 2 = r at *
      have hr2 : r = 0 ∨ r = 1 := by omega
      rcases hr2 with rfl | rfl
      · by_cases hlow : Fl.plc x + t < 1074
        · obtain ⟨m2, hm2⟩ : ∃ m2, m = 2 * m2 := ⟨m / 2, by omega⟩
          subst hm2
          have e2 : ((2 * m2 : Nat) : Int) / 2 = (m2 : Int) := by omega
          have hmt2 : m2 * 2 ^ (t + 1) = Fl.mag x := by rw [← hmt.out, Nat.pow_succ]; ac_rfl
          have HMT2 := Lib.hid hmt2
          have tl : t + 1 ≤ 60 := by
            have h3 : 2 ^ (t + 1) ≤ m2 * 2 ^ (t + 1) := Nat.le_mul_of_pos_left _ (by omega)
            rw [hmt2] at h3
            have h4 : 2 ^ (t + 1) < 2 ^ 53 := by omega
            have := (Nat.pow_lt_pow_iff_right (by omega : 1 < 2)).1 h4
            omega
          clear hmt2 hr
          have q1 : decide ((Fl.plc x : Int) - 1074 + (t : Int) < 0) = true := by simp; omega
          go_wp2_with fail
          refine Calls.mono (natOf_any m2 wr (by omega)) ?_
          rintro e w3 ⟨a3, c3, z3, rfl, hz3, own3, ar3, na3⟩
          rw [← hz3] at own3
          have hb3 : Blw wr w3 := by rw [hz3]; exact World.blw_ext _ _
          clear hz3 ar3
          go_wp2
          go_roundw
          case rel => exact ⟨m2, t + 1, a3, c3, rfl, by congr 1; omega, rfl, by omega, by omega, HMT2.out, tl, .inr (by omega), ownsRow_mono own3 (by have := hb.size; simp at this; omega), hb.trans hb3⟩
          case measure => simp [intOf]; omega
        · clear hr
          have hq : ∃ q, t + Fl.plc x = q + 1074 := ⟨t + Fl.plc x - 1074, by omega⟩
          obtain ⟨q, hq⟩ := hq
          have eq : (Fl.plc x : Int) - 1074 + (t : Int) = (q : Int) := by omega
          have q1 : decide ((Fl.plc x : Int) - 1074 + (t : Int) < 0) = false := by simp; omega
          have q2 : decide ((q : Int) < 0) = false := by simp
          have ql : q ≤ 1000 := by omega
          have hex := exF_high hmt.out hm0 (by omega) hq ql
          have HEX := Lib.hid hex
          obtain ⟨_, _, ee, har, -, hnc, hcm, hna⟩ := own_arr hown
          cases ee
          have hsh := shifted_any a' (W.toW m) c' q wr har hnc hcm (W.wf_toW _) (W.nrm_toW _) (by have := toW_len_pow (m := m) (q := 0) (k := 2) (by omega) (by omega); simp at this; omega) (by omega)
          rw [W.val_toW] at hsh
          have HSH := Lib.hid hsh
          have HQ := Lib.hid hq
          clear hex hsh hq har hna hnc hcm
          generalize hN : m * 2 ^ q = N at *
          have HN := Lib.hid hN
          clear hN
          go_wp2_with fail
          refine Calls.mono HSH.out ?_
          rintro e w3 ⟨a3, c3, z3, rfl, hz3, own3, ar3, na3⟩
          rw [← hz3] at own3
          have hb3 : Blw wr w3 := by rw [hz3]; exact World.blw_ext _ _
          clear hz3 ar3
          have hF3 := (KeptO.of_blw (O := fun _ => False) (hb.trans hb3)).heap HF2.out id
          obtain ⟨hfz, e0, e1, e2, r0, r1, r2⟩ := three hF3 (.bool (decide (Fl.Sv x < 0))) (.slice a3 (W.toW N).length c3) (.slice (some ⟨W1.heap.size, 0, none⟩) 1 1)
          have hbw3 : Blw w w3 := (hbw.alloc _).trans (hb.trans hb3)
          have o3 := ownsRow_mono own3 (show w.heap.size + 1 ≤ wr.heap.size by have := hb.size; simp at this; omega)
          have ol := ownsRow_blw (ownsRow_mono HOL.out hsz) (hb.trans hb3)
          go_wp2
          exact bodyPost_ret (v := .tuple #[.agg #[.bool (decide (Fl.Sv x < 0)), .slice a3 (W.toW N).length c3, .slice (some ⟨W1.heap.size, 0, none⟩) 1 1], .int .i64 0]) (by simp [results, Try.results67, go_sem, r0, r1, r2]) rfl
            ⟨⟨decide (Fl.Sv x < 0), W.toW N, [1]⟩, HEX.out, a3, c3, some ⟨W1.heap.size, 0, none⟩, 1, rfl, blw_three hbw3 (Nat.le_refl _) _ _ _, ownsRow_mono (own_three o3 (Nat.lt_succ_self _) _ _ _) (Nat.le_succ _), ownsRow_mono (own_three ol (Nat.lt_succ_self _) _ _ _) (Nat.le_succ _)⟩
      · by_cases hlow : Fl.plc x + t < 1074
        · skip
          obtain ⟨q, hq⟩ : ∃ q, t + Fl.plc x + q = 1074 := ⟨1074 - (t + Fl.plc x), by omega⟩
          have eq : -((Fl.plc x : Int) - 1074 + (t : Int)) = (q : Int) := by omega
          have q1 : decide ((Fl.plc x : Int) - 1074 + (t : Int) < 0) = true := by simp; omega
          have hex := exF_low hmt.out hm0 (by omega) hr hq
          have HEX := Lib.hid hex
          have hsh := shifted_any (some ⟨W1.heap.size, 0, none⟩) [1] 1 q wr ((own_read HOL.out).blw hb) (Nat.le_refl 1) (by decide) (fun y hy => by simp at hy; omega) nrm_one (by show (1 : Nat) ≤ 4096; omega) (by omega)
          rw [one_val, Nat.one_mul] at hsh
          have HSH := Lib.hid hsh
          have HQ := Lib.hid hq
          clear hex hsh hq hr
          generalize hN : 2 ^ q = N at *
          have HN := Lib.hid hN
          clear hN
          go_wp2_with fail
          refine Calls.mono HSH.out ?_
          rintro e w3 ⟨a3, c3, z3, rfl, hz3, own3, ar3, na3⟩
          rw [← hz3] at own3
          have hb3 : Blw wr w3 := by rw [hz3]; exact World.blw_ext _ _
          clear hz3 ar3
          have hF3 := (KeptO.of_blw (O := fun _ => False) (hb.trans hb3)).heap HF2.out id
          obtain ⟨hfz, e0, e1, e2, r0, r1, r2⟩ := three hF3 (.bool (decide (Fl.Sv x < 0))) (.slice a' (W.toW m).length c') (.slice a3 (W.toW N).length c3)
          have hbw3 : Blw w w3 := (hbw.alloc _).trans (hb.trans hb3)
          have o3 := ownsRow_mono own3 (show w.heap.size + 1 ≤ wr.heap.size by have := hb.size; simp at this; omega)
          have om := ownsRow_blw hown hb3
          go_wp2
          exact bodyPost_ret (v := .tuple #[.agg #[.bool (decide (Fl.Sv x < 0)), .slice a' (W.toW m).length c', .slice a3 (W.toW N).length c3], .int .i64 0]) (by simp [results, Try.results67, go_sem, r0, r1, r2]) rfl
            ⟨⟨decide (Fl.Sv x < 0), W.toW m, W.toW N⟩, HEX.out, a', c', a3, c3, rfl, blw_three hbw3 (Nat.le_refl _) _ _ _, ownsRow_mono (own_three om (Nat.lt_succ_self _) _ _ _) (Nat.le_succ _), ownsRow_mono (own_three o3 (Nat.lt_succ_self _) _ _ _) (Nat.le_succ _)⟩
        · clear hr
          have hq : ∃ q, t + Fl.plc x = q + 1074 := ⟨t + Fl.plc x - 1074, by omega⟩
          obtain ⟨q, hq⟩ := hq
          have eq : (Fl.plc x : Int) - 1074 + (t : Int) = (q : Int) := by omega
          have q1 : decide ((Fl.plc x : Int) - 1074 + (t : Int) < 0) = false := by simp; omega
          have q2 : decide ((q : Int) < 0) = false := by simp
          have ql : q ≤ 1000 := by omega
          have hex := exF_high hmt.out hm0 (by omega) hq ql
          have HEX := Lib.hid hex
          obtain ⟨_, _, ee, har, -, hnc, hcm, hna⟩ := own_arr hown
          cases ee
          have hsh := shifted_any a' (W.toW m) c' q wr har hnc hcm (W.wf_toW _) (W.nrm_toW _) (by have := toW_len_pow (m := m) (q := 0) (k := 2) (by omega) (by omega); simp at this; omega) (by omega)
          rw [W.val_toW] at hsh
          have HSH := Lib.hid hsh
          have HQ := Lib.hid hq
          clear hex hsh hq har hna hnc hcm
          generalize hN : m * 2 ^ q = N at *
          have HN := Lib.hid hN
          clear hN
          go_wp2_with fail
          refine Calls.mono HSH.out ?_
          rintro e w3 ⟨a3, c3, z3, rfl, hz3, own3, ar3, na3⟩
          rw [← hz3] at own3
          have hb3 : Blw wr w3 := by rw [hz3]; exact World.blw_ext _ _
          clear hz3 ar3
          have hF3 := (KeptO.of_blw (O := fun _ => False) (hb.trans hb3)).heap HF2.out id
          obtain ⟨hfz, e0, e1, e2, r0, r1, r2⟩ := three hF3 (.bool (decide (Fl.Sv x < 0))) (.slice a3 (W.toW N).length c3) (.slice (some ⟨W1.heap.size, 0, none⟩) 1 1)
          have hbw3 : Blw w w3 := (hbw.alloc _).trans (hb.trans hb3)
          have o3 := ownsRow_mono own3 (show w.heap.size + 1 ≤ wr.heap.size by have := hb.size; simp at this; omega)
          have ol := ownsRow_blw (ownsRow_mono HOL.out hsz) (hb.trans hb3)
          go_wp2
          exact bodyPost_ret (v := .tuple #[.agg #[.bool (decide (Fl.Sv x < 0)), .slice a3 (W.toW N).length c3, .slice (some ⟨W1.heap.size, 0, none⟩) 1 1], .int .i64 0]) (by simp [results, Try.results67, go_sem, r0, r1, r2]) rfl
            ⟨⟨decide (Fl.Sv x < 0), W.toW N, [1]⟩, HEX.out, a3, c3, some ⟨W1.heap.size, 0, none⟩, 1, rfl, blw_three hbw3 (Nat.le_refl _) _ _ _, ownsRow_mono (own_three o3 (Nat.lt_succ_self _) _ _ _) (Nat.le_succ _), ownsRow_mono (own_three ol (Nat.lt_succ_self _) _ _ _) (Nat.le_succ _)⟩
end Go.Proofs.Ytmeccjlopmjneaa
/- Walks of package parts and of the reference's: the same rounded operations, part by part. -/
namespace Go.Proofs.Ytmeccjlopmjneaa
open Go.RowKit

namespace Fl
theorem same.nan {x y : Nat} (h : same x y) : isNaN x = isNaN y := by
  rcases h with rfl | ⟨a, b⟩
  · rfl
  · rw [a, b]
def fsq (x : Nat) (w : World) : Nat := match FloatKind.f64.format.sqrt x with | some r => r | none => (Question.nanBits .f64 x x).cut (w.tape w.drawn (.nanBits .f64 x x))
def fsqd (x : Nat) : Nat := match FloatKind.f64.format.sqrt x with | some _ => 0 | none => 1
theorem same_sqrt {x y : Nat} (h : same x y) (w w' : World) : same (fsq x w) (fsq y w') := by
  rcases h with rfl | ⟨a, b⟩
  · unfold fsq
    split
    · exact .inl rfl
    · exact .inr ⟨cut_nan _ _ _, cut_nan _ _ _⟩
  · obtain ⟨s, t, e⟩ := read_nan x a
    obtain ⟨s', t', e'⟩ := read_nan y b
    have h1 : FloatKind.f64.format.sqrt x = none := by show Ieee.Format.sqrt Ieee.double x = none; simp [Ieee.Format.sqrt, e, Ieee.Datum.root]
    have h2 : FloatKind.f64.format.sqrt y = none := by show Ieee.Format.sqrt Ieee.double y = none; simp [Ieee.Format.sqrt, e', Ieee.Datum.root]
    unfold fsq
    rw [h1, h2]
    exact .inr ⟨cut_nan _ _ _, cut_nan _ _ _⟩
theorem fsq_lt (x : Nat) (w : World) : fsq x w < 2 ^ 64 := by
  unfold fsq
  split
  · rename_i r h; exact Ieee.Format.sqrt_lt _ h
  · exact cut_lt _ _ _
end Fl

@[go_sem] theorem call_sqrt (x : Nat) (w : World) : (callFunc 135 #[.float .f64 x]).run Try.prog w = .ok (.value (.float .f64 (Fl.fsq x w))) (w.drewN (Fl.fsqd x)) := by
  rw [run_callFunc_extern (fn := Try.f135) (e := Extern.MathSqrt.sqrt) (by kernel_rfl) (by kernel_rfl) (by kernel_rfl) (by kernel_rfl) (by kernel_rfl)]
  have e : Extern.MathSqrt.sqrt #[.float .f64 x] = (match FloatKind.f64.format.sqrt x with | some r => pure (.float .f64 r) | none => do pure (.float .f64 (← choose (.nanBits .f64 x x)))) := rfl
  rw [e]
  unfold Fl.fsq Fl.fsqd
  cases h : FloatKind.f64.format.sqrt x with
  | some r => simp; rfl
  | none => simp [Question.forced]; rfl

def sBits (x y : Nat) : Bool := x == y || (Fl.isNaN x && Fl.isNaN y)
theorem sBits_refl (x : Nat) : sBits x x = true := by simp [sBits]
theorem sBits_same {x y : Nat} (h : Fl.same x y) : sBits x y = true := by
  rcases h with rfl | ⟨a, b⟩
  · exact sBits_refl x
  · simp [sBits, a, b]
theorem sBits_same2 {x y z : Nat} (h : Fl.same x y) (k : Fl.same x z) : sBits y z = true := sBits_same (h.symm.trans k)

set_option maxHeartbeats 400000 in
theorem partsBits_any (x y : Nat) (w : World) :
    Calls Try.prog 79 #[.float .f64 x, .float .f64 y] w fun e w' => e = .returned (.bool (sBits x y)) ∧ w' = w := by
  have ex : (FloatKind.f64.format.order x x != some .eq) = Fl.isNaN x := Fl.ord_self_ne x
  have ey : (FloatKind.f64.format.order y y != some .eq) = Fl.isNaN y := Fl.ord_self_ne y
  go_enter Try.func79, Try.ntmps79
  cases hx : Fl.isNaN x <;> cases hy : Fl.isNaN y
  all_goals
    rw [hx] at ex; rw [hy] at ey
    by_cases hxy : x = y
    · subst hxy
      go_wp2
      go_ret
      exact ⟨ret_bool (by simp [sBits]), rfl⟩
    · have e1 : ((x : Int) == (y : Int)) = false := by simp; omega
      go_wp2
      go_ret
      exact ⟨ret_bool (by simp [sBits, hxy, hx, hy]), rfl⟩
set_option maxHeartbeats 400000 in
theorem partsSame_any (a b c d : Nat) (w : World) :
    Calls Try.prog 21 #[.complex .f64 a b, .complex .f64 c d] w fun e w' => e = .returned (.bool (sBits a c && sBits b d)) ∧ w' = w := by
  go_enter Try.func21, Try.ntmps21
  cases h1 : sBits a c
  all_goals
    go_wp2_with (go_at_call 79; refine (partsBits_any _ _ _).mono ?_; rintro e w' ⟨rfl, rfl⟩)
    go_ret
    exact ⟨ret_bool (by simp), rfl⟩
def eqB (a b c d : Nat) : Bool := (Fl.ord a c == some .eq) && (Fl.ord b d == some .eq)
set_option maxHeartbeats 400000 in
theorem partsEqual_any (a b c d : Nat) (w : World) :
    Calls Try.prog 22 #[.complex .f64 a b, .complex .f64 c d] w fun e w' => e = .returned (.bool (eqB a b c d)) ∧ w' = w := by
  go_enter Try.func22, Try.ntmps22
  cases h1 : (FloatKind.f64.format.order a c == some .eq)
  all_goals
    go_wp2
    go_ret
    exact ⟨ret_bool (by have h2 : (Fl.ord a c == some .eq) = _ := h1; unfold eqB; rw [h2]; first | rfl | simp), rfl⟩
set_option maxHeartbeats 400000 in
theorem partsFiniteC_any (a b : Nat) (w : World) (ha : a < 2 ^ 64) (hb : b < 2 ^ 64) :
    Calls Try.prog 75 #[.complex .f64 a b] w fun e w' => e = .returned (.bool (Fl.isFin a && Fl.isFin b)) ∧ w' = w := by
  go_enter Try.func75, Try.ntmps75
  cases h1 : Fl.isFin a
  all_goals
    go_wp2_with (go_at_call 132; refine (partsFinite_any _ _ (by assumption)).mono ?_; rintro e w' ⟨rfl, rfl⟩)
    go_ret
    exact ⟨ret_bool (by simp), rfl⟩

/-- A complex result, up to a NaN's bits. -/
def CRes (re im : Nat) (w : World) (e : Ending) (w' : World) : Prop := ∃ (r i : Nat) (x : World), e = .returned (.complex .f64 r i) ∧ Hid (Fl.same re r) ∧ Hid (Fl.same im i) ∧ r < 2 ^ 64 ∧ i < 2 ^ 64 ∧ w' = w.ext x
theorem CRes.mk {re im r i : Nat} {w w' : World} (h : Fl.same re r) (k : Fl.same im i) (lr : r < 2 ^ 64) (li : i < 2 ^ 64) (b : Blw w w') : CRes re im w (.returned (.complex .f64 r i)) w' := by
  obtain ⟨x, rfl⟩ := b.is
  exact ⟨r, i, x, rfl, h, k, lr, li, rfl⟩
def fA (x y : Nat) : Nat := Fl.fop .add x y default
def fS (x y : Nat) : Nat := Fl.fop .sub x y default
def fM (x y : Nat) : Nat := Fl.fop .mul x y default
def fQ (x y : Nat) : Nat := Fl.fop .quo x y default
theorem neg_lt {x : Nat} (h : x < 2 ^ 64) : Op.negFloat .f64 x < 2 ^ 64 := Nat.xor_lt_two_pow h (by decide)

set_option maxHeartbeats 400000 in
theorem partsMul_any (a b c d : Nat) (w : World) : Calls Try.prog 14 #[.complex .f64 a b, .complex .f64 c d] w (CRes (fS (fM a c) (fM b d)) (fA (fM a d) (fM b c)) w) := by
  go_enter Try.func14, Try.ntmps14
  go_wp2
  go_ret
  exact CRes.mk (Fl.same_sub (Fl.same_mul (.refl _) (.refl _) _ _) (Fl.same_mul (.refl _) (.refl _) _ _) _ _) (Fl.same_add (Fl.same_mul (.refl _) (.refl _) _ _) (Fl.same_mul (.refl _) (.refl _) _ _) _ _) (Fl.fop_lt _ _ _ _) (Fl.fop_lt _ _ _ _) (by repeat (first | exact Blw.refl _ | apply Blw.ext | apply Blw.alloc | apply Blw.drewN | apply Blw.drew | refine Blw.setCell ?_ _ _ (by simp)))
set_option maxHeartbeats 400000 in
theorem partsConj_any (a b : Nat) (w : World) : Calls Try.prog 16 #[.complex .f64 a b] w fun e w' => e = .returned (.complex .f64 a (Op.negFloat .f64 b)) ∧ w' = w := by
  go_enter Try.func16, Try.ntmps16
  go_wp2
  go_ret
  exact ⟨rfl, rfl⟩
set_option maxHeartbeats 400000 in
theorem partsNeg_any (a b : Nat) (w : World) : Calls Try.prog 15 #[.complex .f64 a b] w fun e w' => e = .returned (.complex .f64 (Op.negFloat .f64 a) (Op.negFloat .f64 b)) ∧ w' = w := by
  go_enter Try.func15, Try.ntmps15
  go_wp2
  go_ret
  exact ⟨rfl, rfl⟩
end Go.Proofs.Ytmeccjlopmjneaa
/- Walks of both Abs of a complex number. -/
namespace Go.Proofs.Ytmeccjlopmjneaa
open Go.RowKit


set_option maxHeartbeats 400000 in
theorem sqrt_any (x : Nat) (w : World) : Calls Try.prog 78 #[.float .f64 x] w fun e w' => e = .returned (.float .f64 (Fl.fsq x w)) ∧ ∃ n, w' = w.drewN n := by
  go_enter Try.func78, Try.ntmps78
  go_wp2
  go_ret
  exact ⟨rfl, _, rfl⟩
set_option maxHeartbeats 400000 in
theorem inf_any (w : World) : Calls Try.prog 12 #[.int .i64 1] w fun e w' => e = .returned (.float .f64 9218868437227405312) ∧ w' = w := by
  go_enter Try.func12, Try.ntmps12
  go_wp2
  go_ret
  exact ⟨rfl, rfl⟩
def hyp (m n : Nat) : Nat := fM m (Fl.fsq (fA 4607182418800017408 (fM (fQ n m) (fQ n m))) default)
/-- The size of a complex number, of its parts' sizes. -/
def absS (x y : Nat) : Nat :=
  if (Fl.isNaN x || Fl.isNaN y) = true then 9221120237041090561
  else if (Fl.isInf x || Fl.isInf y) = true then 9218868437227405312
  else if (Fl.ord x y == some .lt) = true then (if (Fl.ord y 0 == some .eq) = true then 0 else hyp y x)
  else (if (Fl.ord x 0 == some .eq) = true then 0 else hyp x y)
def FRes (r : Nat) (w : World) (e : Ending) (w' : World) : Prop := ∃ (s : Nat) (x : World), e = .returned (.float .f64 s) ∧ Hid (Fl.same r s) ∧ s < 2 ^ 64 ∧ w' = w.ext x
theorem FRes.mk {r s : Nat} {w w' : World} (h : Fl.same r s) (l : s < 2 ^ 64) (b : Blw w w') : FRes r w (.returned (.float .f64 s)) w' := by
  obtain ⟨x, rfl⟩ := b.is
  exact ⟨s, x, rfl, h, l, rfl⟩
theorem hyp_same (m n : Nat) (w1 w2 w3 w4 w5 : World) : Fl.same (hyp m n) (Fl.fop .mul m (Fl.fsq (Fl.fop .add 4607182418800017408 (Fl.fop .mul (Fl.fop .quo n m w1) (Fl.fop .quo n m w1) w2) w3) w4) w5) :=
  Fl.same_mul (.refl _) (Fl.same_sqrt (Fl.same_add (.refl _) (Fl.same_mul (Fl.same_quo (.refl _) (.refl _) _ _) (Fl.same_quo (.refl _) (.refl _) _ _) _ _) _ _) _ _) _ _
theorem abs_is (a x : Nat) (w : World) (ha : a < 2 ^ 64) (h : Hid (a % 2 ^ 63 = x)) : Calls Try.prog 31 #[.float .f64 a] w fun e w' => e = .returned (.float .f64 x) ∧ w' = w := by
  rw [← h.out]; exact abs_any a w ha
set_option maxHeartbeats 1000000 in
theorem partsAbs_any (a b : Nat) (w : World) (ha : a < 2 ^ 64) (hb : b < 2 ^ 64) : Calls Try.prog 17 #[.complex .f64 a b] w (FRes (absS (a % 2 ^ 63) (b % 2 ^ 63)) w) := by
  have lx : a % 2 ^ 63 < 2 ^ 64 := Nat.lt_of_lt_of_le (Nat.mod_lt _ (by decide)) (by decide)
  have ly : b % 2 ^ 63 < 2 ^ 64 := Nat.lt_of_lt_of_le (Nat.mod_lt _ (by decide)) (by decide)
  obtain ⟨x, ex⟩ := ex_hid (a % 2 ^ 63)
  obtain ⟨y, ey⟩ := ex_hid (b % 2 ^ 63)
  rw [ex.out] at lx; rw [ey.out] at ly
  have n1 : (FloatKind.f64.format.order x x != some .eq) = Fl.isNaN x := Fl.ord_self_ne x
  have n2 : (FloatKind.f64.format.order y y != some .eq) = Fl.isNaN y := Fl.ord_self_ne y
  rw [ex.out, ey.out]
  go_enter Try.func17, Try.ntmps17
  go_wp2_with fail
  refine (abs_is a x _ ha ex).mono ?_
  rintro e w' ⟨rfl, rfl⟩
  go_wp2_with fail
  refine (abs_is b y _ hb ey).mono ?_
  rintro e w' ⟨rfl, rfl⟩
  cases nx : Fl.isNaN x <;> cases ny : Fl.isNaN y <;> rw [nx] at n1 <;> rw [ny] at n2
  case false.false =>
    cases ix : Fl.isInf x <;> cases iy : Fl.isInf y
    case false.false =>
      cases hlt : (FloatKind.f64.format.order x y == some .lt)
      · cases h0 : (FloatKind.f64.format.order x 0 == some .eq)
        all_goals
          go_wp2_with (first | (go_at_call 20; (with_reducible refine (isInf_any x _ lx).mono ?_); rintro e w' ⟨rfl, rfl⟩) | (go_at_call 20; (with_reducible refine (isInf_any y _ ly).mono ?_); rintro e w' ⟨rfl, rfl⟩) | (go_at_call 78; refine (sqrt_any _ _).mono ?_; rintro e w' ⟨rfl, n, rfl⟩) | (go_at_call 12; refine (inf_any _).mono ?_; rintro e w' ⟨rfl, rfl⟩))
          go_ret
          refine FRes.mk ?_ ?_ (by repeat (first | exact Blw.refl _ | apply Blw.ext | apply Blw.alloc | apply Blw.drewN | apply Blw.drew | refine Blw.setCell ?_ _ _ (by simp)))
          · unfold absS; rw [if_neg (by simp [nx, ny]), if_neg (by simp [ix, iy]), if_neg (by show ¬ (FloatKind.f64.format.order x y == some .lt) = true; rw [hlt]; simp)]
            first | (rw [if_pos (by show (FloatKind.f64.format.order x 0 == some .eq) = true; rw [h0])]; exact .refl _) | (rw [if_neg (by show ¬ (FloatKind.f64.format.order x 0 == some .eq) = true; rw [h0]; simp)]; exact hyp_same _ _ _ _ _ _ _)
          · first | exact Fl.fop_lt _ _ _ _ | decide
      · cases h0 : (FloatKind.f64.format.order y 0 == some .eq)
        all_goals
          go_wp2_with (first | (go_at_call 20; (with_reducible refine (isInf_any x _ lx).mono ?_); rintro e w' ⟨rfl, rfl⟩) | (go_at_call 20; (with_reducible refine (isInf_any y _ ly).mono ?_); rintro e w' ⟨rfl, rfl⟩) | (go_at_call 78; refine (sqrt_any _ _).mono ?_; rintro e w' ⟨rfl, n, rfl⟩) | (go_at_call 12; refine (inf_any _).mono ?_; rintro e w' ⟨rfl, rfl⟩))
          go_ret
          refine FRes.mk ?_ ?_ (by repeat (first | exact Blw.refl _ | apply Blw.ext | apply Blw.alloc | apply Blw.drewN | apply Blw.drew | refine Blw.setCell ?_ _ _ (by simp)))
          · unfold absS; rw [if_neg (by simp [nx, ny]), if_neg (by simp [ix, iy]), if_pos (by show (FloatKind.f64.format.order x y == some .lt) = true; rw [hlt])]
            first | (rw [if_pos (by show (FloatKind.f64.format.order y 0 == some .eq) = true; rw [h0])]; exact .refl _) | (rw [if_neg (by show ¬ (FloatKind.f64.format.order y 0 == some .eq) = true; rw [h0]; simp)]; exact hyp_same _ _ _ _ _ _ _)
          · first | exact Fl.fop_lt _ _ _ _ | decide
    all_goals
      go_wp2_with (first | (go_at_call 20; (with_reducible refine (isInf_any x _ lx).mono ?_); rintro e w' ⟨rfl, rfl⟩) | (go_at_call 20; (with_reducible refine (isInf_any y _ ly).mono ?_); rintro e w' ⟨rfl, rfl⟩) | (go_at_call 78; refine (sqrt_any _ _).mono ?_; rintro e w' ⟨rfl, n, rfl⟩) | (go_at_call 12; refine (inf_any _).mono ?_; rintro e w' ⟨rfl, rfl⟩))
      go_ret
      exact FRes.mk (by unfold absS; rw [if_neg (by simp [nx, ny]), if_pos (by simp [ix, iy])]; exact .refl _) (by decide) (by repeat (first | exact Blw.refl _ | apply Blw.ext | apply Blw.alloc | apply Blw.drewN | apply Blw.drew | refine Blw.setCell ?_ _ _ (by simp)))
  all_goals
    go_wp2
    go_ret
    exact FRes.mk (by unfold absS; rw [if_pos (by simp [nx, ny])]; exact .refl _) (by decide) (by repeat (first | exact Blw.refl _ | apply Blw.ext | apply Blw.alloc | apply Blw.drewN | apply Blw.drew | refine Blw.setCell ?_ _ _ (by simp)))
end Go.Proofs.Ytmeccjlopmjneaa
/- PartsTurns, the plain part: products and sums do not hang on the order; signs; the size lies between the greater part and one and a half times it. -/
namespace Go.Proofs.Ytmeccjlopmjneaa
open Go Ieee

namespace Fl
theorem neg_is {x : Nat} (h : x < 2 ^ 64) : Op.negFloat .f64 x = if x < 2 ^ 63 then 2 ^ 63 + x else x - 2 ^ 63 := by
  have key : ∀ r, r < 2 ^ 63 → r ^^^ 2 ^ 63 = 2 ^ 63 + r := by
    intro r hr
    apply Nat.eq_of_testBit_eq
    intro i
    rw [Nat.testBit_xor, Nat.testBit_two_pow]
    rcases Nat.lt_trichotomy i 63 with c | c | c
    · rw [Nat.testBit_two_pow_add_gt c]
      have : decide (63 = i) = false := by simp; omega
      rw [this]; simp
    · subst c
      rw [Nat.testBit_two_pow_add_eq]
      simp
    · have e1 : r.testBit i = false := Nat.testBit_lt_two_pow (Nat.lt_of_lt_of_le hr (Nat.pow_le_pow_right (by omega) (by omega)))
      have e2 : (2 ^ 63 + r).testBit i = false := Nat.testBit_lt_two_pow (Nat.lt_of_lt_of_le (show 2 ^ 63 + r < 2 ^ 64 by omega) (Nat.pow_le_pow_right (by omega) (by omega)))
      have : decide (63 = i) = false := by simp; omega
      rw [e1, e2, this]; rfl
  show x ^^^ 2 ^ 63 = _
  by_cases c : x < 2 ^ 63
  · rw [if_pos c]; exact key x c
  · rw [if_neg c]
    have e := key (x - 2 ^ 63) (by omega)
    have : x = (x - 2 ^ 63) ^^^ 2 ^ 63 := by rw [e]; omega
    rw [this, Nat.xor_assoc, Nat.xor_self, Nat.xor_zero, ← this]
theorem neg_mod {x : Nat} (h : x < 2 ^ 64) : Op.negFloat .f64 x % 2 ^ 63 = x % 2 ^ 63 := by
  rw [neg_is h]; split <;> omega
theorem neg_fneg {x : Nat} (h : x < 2 ^ 64) : fneg (Op.negFloat .f64 x) = !fneg x := by
  rw [neg_is h]; unfold fneg
  by_cases c : x < 2 ^ 63
  · rw [if_pos c]
    have a : (2 ^ 63 + x) / 2 ^ 63 % 2 = 1 := by omega
    have b : x / 2 ^ 63 % 2 = 0 := by omega
    rw [a, b]; rfl
  · rw [if_neg c]
    have a : (x - 2 ^ 63) / 2 ^ 63 % 2 = 0 := by omega
    have b : x / 2 ^ 63 % 2 = 1 := by omega
    rw [a, b]; rfl
theorem neg_neg {x : Nat} (_ : x < 2 ^ 64) : Op.negFloat .f64 (Op.negFloat .f64 x) = x := by
  show x ^^^ 2 ^ 63 ^^^ 2 ^ 63 = x
  rw [Nat.xor_assoc, Nat.xor_self, Nat.xor_zero]
theorem fin_mod {x y : Nat} (h : x % 2 ^ 63 = y % 2 ^ 63) : isFin x = isFin y := by rw [← isFin_mod x, h, isFin_mod]
theorem nan_mod {x y : Nat} (h : x % 2 ^ 63 = y % 2 ^ 63) : isNaN x = isNaN y := by rw [← isNaN_mod x, h, isNaN_mod]
theorem inf_mod {x y : Nat} (h : x % 2 ^ 63 = y % 2 ^ 63) : isInf x = isInf y := by rw [← isInf_mod x, h, isInf_mod]
theorem same_neg {x y : Nat} (hx : x < 2 ^ 64) (hy : y < 2 ^ 64) (h : same x y) : same (Op.negFloat .f64 x) (Op.negFloat .f64 y) := by
  rcases h with rfl | ⟨a, b⟩
  · exact .inl rfl
  · exact .inr ⟨by rw [nan_mod (neg_mod hx)]; exact a, by rw [nan_mod (neg_mod hy)]; exact b⟩

/-- A double's opposite stands for the opposite. -/
theorem read_neg {x : Nat} (h : x < 2 ^ 64) : double.read (Op.negFloat .f64 x) = (double.read x).opposite := by
  have e := neg_mod h
  have f := neg_fneg h
  rw [read_eq, read_eq, e]
  have g1 : (Op.negFloat .f64 x / 2 ^ 63 % 2 == 1) = !(x / 2 ^ 63 % 2 == 1) := by
    have a : ∀ y, (y / 2 ^ 63 % 2 == 1) = fneg y := fun y => by unfold fneg; rw [Bool.eq_iff_iff]; simp
    rw [a, a, f]
  rw [g1]
  split
  · rfl
  · split
    · rfl
    · split <;> rfl

theorem sum_comm (x y : Datum) : x.sum y = y.sum x := by
  cases x <;> cases y <;> try rfl
  case infinity.infinity s t => cases s <;> cases t <;> rfl
  case number.number s m i t n j =>
    simp only [Datum.sum]
    rw [Int.min_comm i j, Int.add_comm (signed s m _), Bool.and_comm s t]
theorem product_comm (x y : Datum) : x.product y = y.product x := by
  cases x <;> cases y <;> try rfl
  case infinity.infinity s t => simp only [Datum.product]; rw [Bool.xor_comm]
  case number.number s m i t n j => simp only [Datum.product]; rw [Bool.xor_comm s t, Nat.mul_comm m n, Int.add_comm i j]
theorem fop_of {op op' : BinOp} {x y u v : Nat} (h : floatBits op .f64 x y = floatBits op' .f64 u v) (w w' : World) : same (fop op x y w) (fop op' u v w') := by
  cases e : floatBits op .f64 x y with
  | some r => rw [e] at h; rw [fop_some e, fop_some h.symm]; exact .inl rfl
  | none => rw [e] at h; exact .inr ⟨fop_none e w, fop_none h.symm w'⟩
theorem bits_add_comm (x y : Nat) : floatBits .add .f64 x y = floatBits .add .f64 y x := by
  show double.add x y = double.add y x
  unfold Format.add; rw [sum_comm]
theorem bits_mul_comm (x y : Nat) : floatBits .mul .f64 x y = floatBits .mul .f64 y x := by
  show double.mul x y = double.mul y x
  unfold Format.mul; rw [product_comm]
/-- Signs go through products. -/
theorem product_opp (x y : Datum) : x.product y.opposite = (x.product y).map Datum.opposite := by
  cases x <;> cases y <;> try rfl
  case infinity.infinity s t => cases s <;> cases t <;> rfl
  case infinity.number s t n j => simp only [Datum.product, Datum.opposite]; split <;> (cases s <;> cases t <;> rfl)
  case number.infinity s m i t => simp only [Datum.product, Datum.opposite]; split <;> (cases s <;> cases t <;> rfl)
  case number.number s m i t n j => cases s <;> cases t <;> rfl
theorem word_opp {r : Nat} (s : Bool) (h : r ≤ infR) : double.word (!s) r = Op.negFloat .f64 (double.word s r) := by
  have := infR_lt
  rw [neg_is (by rw [word_def]; cases s <;> simp <;> omega), word_def, word_def]
  cases s
  · simp only [Bool.not_false, if_true, Bool.false_eq_true, if_false]; rw [if_pos (by omega)]
  · simp only [Bool.not_true, if_true, Bool.false_eq_true, if_false]; rw [if_neg (by omega)]; omega
/-- A product's result: neither a NaN nor a word out of range. -/
theorem mul_opp {x y : Nat} (hy : y < 2 ^ 64) : floatBits .mul .f64 x (Op.negFloat .f64 y) = (floatBits .mul .f64 x y).map (Op.negFloat .f64) := by
  show double.mul x _ = (double.mul x y).map _
  unfold Format.mul
  rw [read_neg hy, product_opp]
  cases h : (double.read x).product (double.read y) with
  | none => rfl
  | some d =>
    simp only [Option.map_some]
    congr 1
    cases d with
    | number s m p =>
      obtain ⟨r, e, k⟩ := rn_nearest s m p (1074 + p.natAbs) (by omega)
      obtain ⟨r', e', k'⟩ := rn_nearest (!s) m p (1074 + p.natAbs) (by omega)
      show double.nearest (!s) m p = Op.negFloat .f64 (double.nearest s m p)
      rw [e, e', k.uniq k', word_opp s k'.le]
    | infinity s => exact word_opp s (Nat.le_refl _)
    | nan s t =>
      exfalso
      revert h
      cases double.read x <;> cases double.read y <;> simp [Datum.product] <;> split <;> simp
theorem same_mul_opp (x : Nat) {y : Nat} (hy : y < 2 ^ 64) (w w' : World) : same (fop .mul x (Op.negFloat .f64 y) w) (Op.negFloat .f64 (fop .mul x y w')) := by
  cases e : floatBits .mul .f64 x y with
  | some r =>
    have f := mul_opp (x := x) hy
    rw [e] at f
    rw [fop_some e, fop_some f]; exact .inl rfl
  | none =>
    have f := mul_opp (x := x) hy
    rw [e] at f
    refine .inr ⟨fop_none f w, ?_⟩
    rw [nan_mod (neg_mod (fop_lt _ _ _ _))]; exact fop_none e w'
theorem same_opp_mul {x : Nat} (y : Nat) (hx : x < 2 ^ 64) (w w' : World) : same (fop .mul (Op.negFloat .f64 x) y w) (Op.negFloat .f64 (fop .mul x y w')) :=
  (fop_of (bits_mul_comm _ _) w w).trans ((same_mul_opp y hx w w').trans (same_neg (fop_lt _ _ _ _) (fop_lt _ _ _ _) (fop_of (bits_mul_comm _ _) w' w')))
theorem opp_opp (d : Datum) : d.opposite.opposite = d := by cases d <;> simp [Datum.opposite]
theorem mul_opp2 {x y : Nat} (hx : x < 2 ^ 64) (hy : y < 2 ^ 64) : floatBits .mul .f64 (Op.negFloat .f64 x) (Op.negFloat .f64 y) = floatBits .mul .f64 x y := by
  show double.mul _ _ = double.mul x y
  unfold Format.mul
  rw [read_neg hy, product_opp, read_neg hx, product_comm, product_opp, product_comm]
  cases (double.read x).product (double.read y) with
  | none => rfl
  | some d => simp only [Option.map_some, opp_opp]

/-- Equal, as floats: not NaN, and the same word or two noughts. -/
theorem ord_eq_of {x y : Nat} (hx : isNaN x = false) (h : x = y ∨ (x % 2 ^ 63 = 0 ∧ y % 2 ^ 63 = 0)) : ord x y = some .eq := by
  rcases h with rfl | ⟨a, b⟩
  · exact ord_self hx
  · have fx : isFin x = true := by unfold isFin; rw [a]; rfl
    have fy : isFin y = true := by unfold isFin; rw [b]; rfl
    rw [ord_fin fx fy]
    have e : ∀ z, z % 2 ^ 63 = 0 → Sv z = 0 := by
      intro z hz
      unfold Sv; rw [V_U, hz, U_zero]; split <;> rfl
    rw [e x a, e y b]; rfl
theorem signed_not (s : Bool) (m k : Nat) : signed (!s) m k = - signed s m k := by unfold signed; cases s <;> simp
/-- A sum of opposites is the opposite, but for the sign of nought. -/
theorem add_opp {s t : Nat} (hs : s < 2 ^ 64) (ht : t < 2 ^ 64) (w w' : World) (n1 : isNaN (fop .add (Op.negFloat .f64 s) (Op.negFloat .f64 t) w) = false) :
    ord (Op.negFloat .f64 (fop .add s t w')) (fop .add (Op.negFloat .f64 s) (Op.negFloat .f64 t) w) = some .eq := by
  cases e' : floatBits .add .f64 (Op.negFloat .f64 s) (Op.negFloat .f64 t) with
  | none => rw [fop_none e' w] at n1; cases n1
  | some r' =>
  have goal : ∃ r, floatBits .add .f64 s t = some r ∧ r < 2 ^ 64 ∧ (Op.negFloat .f64 r = r' ∨ (r % 2 ^ 63 = 0 ∧ r' % 2 ^ 63 = 0)) := by
    have h1 : (((double.read s).opposite).sum ((double.read t).opposite)).map double.write = some r' := by rw [← read_neg hs, ← read_neg ht]; exact e'
    rcases tri s with fs | fs | fs
    · rcases tri t with ft | ft | ft
      · have fs' : isFin (Op.negFloat .f64 s) = true := by rw [fin_mod (neg_mod hs)]; exact fs
        have ft' : isFin (Op.negFloat .f64 t) = true := by rw [fin_mod (neg_mod ht)]; exact ft
        obtain ⟨r, a, k⟩ := add_fin fs ft
        obtain ⟨q, b, k'⟩ := add_fin fs' ft'
        have vs : ∀ z, z < 2 ^ 64 → Sv (Op.negFloat .f64 z) = - Sv z := by
          intro z hz
          unfold Sv; rw [neg_fneg hz, V_U, V_U, neg_mod hz]; cases fneg z <;> simp
        have et : Sv (Op.negFloat .f64 s) + Sv (Op.negFloat .f64 t) = -(Sv s + Sv t) := by rw [vs s hs, vs t ht]; omega
        rw [et] at b k'
        rw [Int.natAbs_neg] at k'
        have rq := k.uniq k'
        subst rq
        rw [e'] at b
        have lr := k.le
        have := infR_lt
        refine ⟨_, a, by rw [word_def]; generalize (if Sv s + Sv t = 0 then fneg s && fneg t else decide (Sv s + Sv t < 0)) = z; cases z <;> simp <;> omega, ?_⟩
        have b' := Option.some.inj b
        by_cases c : Sv s + Sv t = 0
        · right
          have r0 : r = 0 := by
            have h0 := Rn.exact 0 (show 0 ≤ infR by decide)
            rw [U_zero, Nat.zero_mul] at h0
            rw [c] at k
            exact k.uniq h0
          rw [b', r0]
          exact ⟨word_mod (by decide), word_mod (by decide)⟩
        · left
          rw [b', ← word_opp _ lr, if_neg c, if_neg (by omega)]
          congr 1
          rw [Bool.eq_iff_iff]; simp; omega
      · rw [read_fin s fs, read_inf t ft] at h1
        refine ⟨double.word (fneg t) infR, ?_, by rw [word_def]; unfold infR; split <;> decide, .inl ?_⟩
        · show double.add s t = _
          unfold Format.add; rw [read_fin s fs, read_inf t ft]; rfl
        · rw [← word_opp _ (Nat.le_refl _)]; exact Option.some.inj h1
      · obtain ⟨u, v, e⟩ := read_nan t ft
        rw [read_fin s fs, e] at h1; cases h1
    · rcases tri t with ft | ft | ft
      · rw [read_inf s fs, read_fin t ft] at h1
        refine ⟨double.word (fneg s) infR, ?_, by rw [word_def]; unfold infR; split <;> decide, .inl ?_⟩
        · show double.add s t = _
          unfold Format.add; rw [read_inf s fs, read_fin t ft]; rfl
        · rw [← word_opp _ (Nat.le_refl _)]; exact Option.some.inj h1
      · rw [read_inf s fs, read_inf t ft] at h1
        by_cases c : fneg s = fneg t
        · refine ⟨double.word (fneg s) infR, ?_, by rw [word_def]; unfold infR; split <;> decide, .inl ?_⟩
          · show double.add s t = _
            unfold Format.add; rw [read_inf s fs, read_inf t ft]; simp only [Datum.sum, if_pos c]; rfl
          · rw [← word_opp _ (Nat.le_refl _)]
            simp only [Datum.opposite, Datum.sum, c, if_true] at h1
            rw [c]; exact Option.some.inj h1
        · simp only [Datum.opposite, Datum.sum] at h1
          rw [if_neg (by revert c; cases fneg s <;> cases fneg t <;> simp)] at h1
          cases h1
      · obtain ⟨u, v, e⟩ := read_nan t ft
        rw [read_inf s fs, e] at h1; cases h1
    · obtain ⟨u, v, e⟩ := read_nan s fs
      rw [e] at h1; cases h1
  obtain ⟨r, a, lr, h⟩ := goal
  rw [fop_some a, fop_some e']
  rw [fop_some e'] at n1
  refine ord_eq_of ?_ ?_
  · rcases h with h | ⟨h, h'⟩
    · rw [h]; exact n1
    · rw [nan_mod (neg_mod lr)]; unfold isNaN; rw [h]; rfl
  · rcases h with h | ⟨h, h'⟩
    · exact .inl h
    · exact .inr ⟨by rw [neg_mod lr]; exact h, h'⟩

/-- Among sizes, infinity too, the order is that of the words. -/
theorem ord_size {x y : Nat} (hx : x ≤ infR) (hy : y ≤ infR) : ord x y = some (compare x y) := by
  have l := infR_lt
  by_cases a : x < infR
  · by_cases b : y < infR
    · exact ord_pos a b
    · have fx : isFin x = true := by unfold isFin; rw [Nat.mod_eq_of_lt (by omega)]; simpa using a
      have iy : isInf y = true := by unfold isInf; rw [Nat.mod_eq_of_lt (by omega)]; simp; omega
      simp only [ord, Format.order, read_fin x fx, read_inf y iy, Datum.order]
      rw [fneg_small (by omega : y < 2 ^ 63), Nat.compare_eq_lt.2 (by omega)]; rfl
  · have ix : isInf x = true := by unfold isInf; rw [Nat.mod_eq_of_lt (by omega)]; simp; omega
    by_cases b : y < infR
    · have fy : isFin y = true := by unfold isFin; rw [Nat.mod_eq_of_lt (by omega)]; simpa using b
      simp only [ord, Format.order, read_inf x ix, read_fin y fy, Datum.order]
      rw [fneg_small (by omega : x < 2 ^ 63), Nat.compare_eq_gt.2 (by omega)]; rfl
    · have iy : isInf y = true := by unfold isInf; rw [Nat.mod_eq_of_lt (by omega)]; simp; omega
      simp only [ord, Format.order, read_inf x ix, read_inf y iy, Datum.order]
      rw [fneg_small (by omega : x < 2 ^ 63), fneg_small (by omega : y < 2 ^ 63), show x = y by omega, (Nat.compare_eq_eq (a := y) (b := y)).2 rfl]; rfl

/-- A size's facts. -/
theorem size_V {x : Nat} (h : x ≤ infR) : V x = U x := by have := infR_lt; rw [V_U, Nat.mod_eq_of_lt (by omega)]
theorem size_fin {x : Nat} (h : x < infR) : isFin x = true := by have := infR_lt; unfold isFin; rw [Nat.mod_eq_of_lt (by omega)]; simpa using h
theorem size_neg {x : Nat} (h : x ≤ infR) : fneg x = false := fneg_small (by have := infR_lt; omega)
theorem word_false (r : Nat) : double.word false r = r := rfl

/-- The product of two sizes. -/
theorem mul_size {x y : Nat} (hx : x < infR) (hy : y < infR) : ∃ r, (∀ w, fop .mul x y w = r) ∧ ∀ K, K = 1074 → Rn (U x * U y) K r := by
  obtain ⟨r, e, k⟩ := mul_fin (size_fin hx) (size_fin hy)
  rw [size_V (Nat.le_of_lt hx), size_V (Nat.le_of_lt hy)] at k
  rw [size_neg (Nat.le_of_lt hx), size_neg (Nat.le_of_lt hy)] at e
  exact ⟨r, fun w => by rw [fop_some e]; rfl, k⟩

/-- The size of a number: m the greater part, n the lesser one. -/
theorem hyp_bounds {m n : Nat} (hm : m < infR) (m0 : 0 < m) (h : n ≤ m) (w : World) :
    ∃ r, hyp m n = r ∧ m ≤ r ∧ r ≤ infR ∧ r ≤ fop .mul 4609434218613702656 m w ∧ fop .mul 4609434218613702656 m w ≤ infR := by
  obtain ⟨K, hK⟩ : ∃ K, K = 1074 := ⟨_, rfl⟩
  obtain ⟨q, eq, hq⟩ := quo_le_one (show n < infR by omega) hm m0 h
  have lq : q < infR := by unfold infR; omega
  obtain ⟨p, ep, kp⟩ := mul_size lq lq
  have kp := kp K hK
  have u1 := U_one hK
  have u2 := U_two hK
  have h1074 : 0 < 2 ^ K := Nat.two_pow_pos K
  have hp : p ≤ 4607182418800017408 := by
    refine kp.mono (Rn.exact K (show 4607182418800017408 ≤ infR by decide)) ?_
    have : U q ≤ 2 ^ K := by rw [← u1]; exact U_le hq
    rw [u1]
    exact Nat.mul_le_mul this this
  have lp : p < infR := by unfold infR; omega
  have one : (4607182418800017408 : Nat) < infR := by decide
  obtain ⟨s, es, ks⟩ := add_fin (size_fin one) (size_fin lp)
  have e1 : Sv 4607182418800017408 = ((2 ^ K : Nat) : Int) := by rw [Sv_small (by decide), size_V (Nat.le_of_lt one), u1]
  have e2 : Sv p = (U p : Int) := by rw [Sv_small (by have := infR_lt; omega), size_V (Nat.le_of_lt lp)]
  have up : U p ≤ 2 ^ K := by rw [← u1]; exact U_le hp
  rw [e1, e2] at es ks
  have en : (((2 ^ K : Nat) : Int) + (U p : Int)).natAbs = 2 ^ K + U p := by rw [← Int.natCast_add, Int.natAbs_natCast]
  rw [en] at ks
  have ez : ¬ ((2 ^ K : Nat) : Int) + (U p : Int) = 0 := by omega
  have ey : decide (((2 ^ K : Nat) : Int) + (U p : Int) < 0) = false := by rw [decide_eq_false_iff_not]; omega
  rw [if_neg ez, ey, word_false] at es
  have s1 : 4607182418800017408 ≤ s := (Rn.exact 0 (show 4607182418800017408 ≤ infR by decide)).mono ks (by rw [u1, Nat.pow_zero, Nat.mul_one]; exact Nat.le_add_right _ _)
  have s2 : s ≤ 4611686018427387904 := ks.mono (Rn.exact 0 (show 4611686018427387904 ≤ infR by decide)) (by rw [u2, Nat.pow_zero, Nat.mul_one, Nat.two_mul]; exact Nat.add_le_add_left up _)
  obtain ⟨r, er, r1, r2⟩ := root_mid s1 s2
  have lr : r < infR := by unfold infR; omega
  obtain ⟨x, ex, kx⟩ := mul_size hm lr
  obtain ⟨y, ey, ky⟩ := mul_size (show 4609434218613702656 < infR by decide) hm
  have kx := kx K hK
  have ky := ky K hK
  have hh : hyp m n = x := by
    unfold hyp fM fQ fA
    rw [fop_some eq, ep, fop_some es]
    unfold fsq
    have : FloatKind.f64.format.sqrt s = some r := er
    rw [this]; exact ex _
  refine ⟨x, hh, ?_, kx.le, ?_, ?_⟩
  · refine (Rn.exact K (Nat.le_of_lt hm)).mono kx (Nat.mul_le_mul_left _ ?_)
    rw [← u1]; exact U_le r1
  · rw [ey]
    refine kx.mono ky ?_
    rw [Nat.mul_comm]; exact Nat.mul_le_mul_right _ (U_le r2)
  · rw [ey]; exact ky.le
end Fl
end Go.Proofs.Ytmeccjlopmjneaa
/- Whole numbers as doubles, and products by 1 and by 2^-53: what math.Ldexp does to a whole number. -/
namespace Go.Proofs.Ytmeccjlopmjneaa.Fl
open Go Ieee

/-- The word of a whole number up to 2^53. -/
def flo (m : Nat) : Nat := if m = 0 then 0 else (1022 + m.log2) * 2 ^ 52 + m * 2 ^ 52 / 2 ^ m.log2
/-- A whole number's digits, put at a double's place. -/
def flm (m : Nat) : Nat := m * 2 ^ 52 / 2 ^ m.log2

theorem log_le {m : Nat} (h : m ≤ 2 ^ 53) : m.log2 ≤ 53 := by
  by_cases z : m = 0
  · subst z; decide
  · have := (Nat.log2_lt z).2 (show m < 2 ^ 54 by omega); omega
theorem flm_eq {m : Nat} (h0 : m ≠ 0) (h : m ≤ 2 ^ 53) : flm m * 2 ^ m.log2 = m * 2 ^ 52 := by
  unfold flm
  refine Nat.div_mul_cancel ?_
  by_cases c : m.log2 ≤ 52
  · exact Nat.dvd_mul_left_of_dvd (Nat.pow_dvd_pow 2 c) m
  · have l : m.log2 = 53 := by have := log_le h; omega
    have := Nat.log2_self_le h0
    rw [l] at this
    have e : m = 2 ^ 53 := by omega
    rw [e]
    exact ⟨2 ^ 52, by decide⟩
theorem flm_ge {m : Nat} (h0 : m ≠ 0) (h : m ≤ 2 ^ 53) : 2 ^ 52 ≤ flm m := by
  have e := flm_eq h0 h
  have l := Nat.log2_self_le h0
  refine Nat.le_of_mul_le_mul_right ?_ (Nat.two_pow_pos m.log2)
  rw [e, Nat.mul_comm]
  exact Nat.mul_le_mul_right _ l
theorem flm_lt {m : Nat} (h0 : m ≠ 0) (h : m ≤ 2 ^ 53) : flm m < 2 ^ 53 := by
  have e := flm_eq h0 h
  have l : m < 2 ^ (m.log2 + 1) := Nat.lt_log2_self
  refine Nat.lt_of_mul_lt_mul_right (a := 2 ^ m.log2) ?_
  rw [e]
  have p : 2 ^ (m.log2 + 1) = 2 ^ m.log2 * 2 := Nat.pow_succ ..
  rw [p] at l
  generalize 2 ^ m.log2 = g at l ⊢
  omega
theorem flo_pos {m : Nat} (h0 : m ≠ 0) : flo m = (1022 + m.log2) * 2 ^ 52 + flm m := by unfold flo flm; rw [if_neg h0]
theorem flo_lt {m : Nat} (h : m ≤ 2 ^ 53) : flo m < infR := by
  by_cases h0 : m = 0
  · subst h0; decide
  · rw [flo_pos h0]
    have := flm_lt h0 h
    have := log_le h
    unfold infR; omega
theorem flo_ge {m : Nat} (h0 : m ≠ 0) (h : m ≤ 2 ^ 53) : 4607182418800017408 ≤ flo m := by
  rw [flo_pos h0]
  have := flm_ge h0 h
  omega
theorem pow_put {g m L E K : Nat} (h : g * 2 ^ L = m * 2 ^ 52) (hK : 52 + E = K) : g * 2 ^ (E + L) = m * 2 ^ K := by
  rw [Nat.add_comm E, Nat.pow_add, ← Nat.mul_assoc, h, Nat.mul_assoc, ← Nat.pow_add, hK]
theorem U_put {r g m L E K : Nat} (hr : r = (E + L) * 2 ^ 52 + g) (h1 : 2 ^ 52 ≤ g) (h2 : g ≤ 2 ^ 53) (h : g * 2 ^ L = m * 2 ^ 52) (hK : 52 + E = K) : U r = m * 2 ^ K := by
  rw [hr, U_kept _ _ h2 (.inr h1)]; exact pow_put h hK
theorem flo_zero : flo 0 = 0 := if_pos rfl
theorem U_flo_pos {m : Nat} (h0 : m ≠ 0) (h : m ≤ 2 ^ 53) {K : Nat} (hK : 52 + 1022 = K) : U (flo m) = m * 2 ^ K := U_put (flo_pos h0) (flm_ge h0 h) (Nat.le_of_lt (flm_lt h0 h)) (flm_eq h0 h) hK
theorem U_flo_zero (K : Nat) : U (flo 0) = 0 * 2 ^ K := by rw [flo_zero, U_zero, Nat.zero_mul]
theorem U_flo {m : Nat} (h : m ≤ 2 ^ 53) {K : Nat} (hK : K = 1074) : U (flo m) = m * 2 ^ K :=
  (Decidable.em (m = 0)).elim (fun h0 => by subst h0; exact U_flo_zero K) fun h0 => U_flo_pos h0 h hK.symm
theorem nearest_put {m r K : Nat} (hK : ((0 : Int) + 1074 + ((0 : Nat) : Int)).toNat = K) (l : r ≤ infR) (h : U r = m * 2 ^ K) : double.nearest false m 0 = r := by
  obtain ⟨s, e, k⟩ := rn_nearest false m 0 0 (by decide)
  rw [hK] at k
  have k2 := Rn.exact (r := r) 0 l
  rw [h, Nat.pow_zero, Nat.mul_one] at k2
  rw [e, k.uniq k2]
  exact word_false r
theorem nearest_def (n : Int) : FloatKind.f64.nearest n = double.nearest (decide (n < 0)) n.natAbs 0 := by
  unfold FloatKind.nearest FloatKind.encode
  rfl
theorem nearest_nat {m : Nat} (h : m ≤ 2 ^ 53) : FloatKind.f64.nearest (m : Int) = flo m := by
  rw [nearest_def, show decide ((m : Int) < 0) = false by simp, Int.natAbs_natCast]
  exact nearest_put rfl (Nat.le_of_lt (flo_lt h)) (U_flo h (by decide))
theorem mul_one_fop {x : Nat} (hx : x < infR) (w : World) : fop .mul 4607182418800017408 x w = x := by
  obtain ⟨K, hK⟩ : ∃ K, K = 1074 := ⟨_, rfl⟩
  obtain ⟨r, e, k⟩ := mul_size (x := 4607182418800017408) (by decide) hx
  rw [e w]
  have k1 := k K hK
  rw [U_one hK, Nat.mul_comm] at k1
  exact k1.uniq (Rn.exact K (Nat.le_of_lt hx))
theorem U_tiny {K : Nat} (h : K = 1021) : U 4368491638549381120 = 2 ^ K := U_at1 (e := 969) (k := 2 ^ 52) (j := 52) (by decide) (by decide) (.inr (by decide)) rfl (by omega)
/-- A product by 2^-53 that is a double is exact. -/
theorem mul_tiny_fop {x r : Nat} (hx : x < infR) (hr : r ≤ infR) (h : U x = U r * 2 ^ 53) (w : World) : fop .mul 4368491638549381120 x w = r := by
  obtain ⟨K, hK⟩ : ∃ K, K = 1074 := ⟨_, rfl⟩
  obtain ⟨J, hJ⟩ : ∃ J, J = 1021 := ⟨_, rfl⟩
  obtain ⟨s, e, k⟩ := mul_size (x := 4368491638549381120) (by decide) hx
  rw [e w]
  have k1 := k K hK
  rw [U_tiny hJ, h, Nat.mul_comm, Nat.mul_assoc, ← Nat.pow_add, show 53 + J = K by omega] at k1
  exact k1.uniq (Rn.exact K hr)

/-- A whole number times 2^k, by its rung: k counts from the least place. -/
def rung (m e : Nat) : Nat := e * 2 ^ 52 + m
theorem rung_U {m e : Nat} (h : m ≤ 2 ^ 53) (he : e = 0 ∨ 2 ^ 52 ≤ m) : U (rung m e) = m * 2 ^ e := U_kept e m h he
theorem rung_le {m e : Nat} (h : m ≤ 2 ^ 53) (he : e ≤ 2045) : rung m e ≤ infR := by unfold rung infR; omega
end Go.Proofs.Ytmeccjlopmjneaa.Fl
/- The nearest double to a fraction, by its place and its digits: plain. -/
namespace Go.Proofs.Ytmeccjlopmjneaa.Nq
open Go

/-- Of N/D the nearest whole number, of two the even one. -/
def rne (N D : Nat) : Nat := N / D + (decide (D < 2 * (N % D)) || (decide (2 * (N % D) = D) && decide (N / D % 2 = 1))).toNat
theorem rne_cases (N D : Nat) : (rne N D = N / D ∧ 2 * (N % D) ≤ D) ∨ (rne N D = N / D + 1 ∧ D ≤ 2 * (N % D)) := by
  unfold rne
  by_cases a : D < 2 * (N % D)
  · right; simp [a]; omega
  · by_cases b : 2 * (N % D) = D
    · by_cases c : N / D % 2 = 1
      · right; simp [b, c]
      · left; simp [b, c]
    · left; simp [a, b]; omega
theorem rne_le {N D k : Nat} (hD : 0 < D) (h : N < k * D) : rne N D ≤ k := by
  have : N / D < k := (Nat.div_lt_iff_lt_mul hD).2 h
  rcases rne_cases N D with h | h <;> omega
theorem rne_ge {N D k : Nat} (hD : 0 < D) (h : k * D ≤ N) : k ≤ rne N D := by
  have : k ≤ N / D := (Nat.le_div_iff_mul_le hD).2 h
  rcases rne_cases N D with h | h <;> omega
theorem rne_zero {N D : Nat} (h : 2 * N < D) : rne N D = 0 := by
  have d : N / D = 0 := Nat.div_eq_of_lt (by omega)
  have m : N % D = N := Nat.mod_eq_of_lt (by omega)
  rcases rne_cases N D with h | h <;> omega

/-- A comparison of N/D with 2^e, e of any sign, put into whole numbers. -/
theorem put {N D S : Nat} {e : Int} (h : 0 ≤ e + S) : ∃ j, N * 2 ^ S = N * 2 ^ (-e).toNat * 2 ^ j ∧ D * 2 ^ (e + S).toNat = D * 2 ^ e.toNat * 2 ^ j := by
  refine ⟨S - (-e).toNat, ?_, ?_⟩
  · rw [Nat.mul_assoc, ← Nat.pow_add]; congr 2; omega
  · rw [Nat.mul_assoc, ← Nat.pow_add]; congr 2; omega
theorem put_le {N D S : Nat} {e : Int} (h : 0 ≤ e + S) : D * 2 ^ e.toNat ≤ N * 2 ^ (-e).toNat ↔ D * 2 ^ (e + S).toNat ≤ N * 2 ^ S := by
  obtain ⟨j, h1, h2⟩ := put (N := N) (D := D) h
  rw [h1, h2]
  exact ⟨fun k => Nat.mul_le_mul_right _ k, fun k => Nat.le_of_mul_le_mul_right k (Nat.two_pow_pos j)⟩
theorem put_lt {N D S : Nat} {e : Int} (h : 0 ≤ e + S) : N * 2 ^ (-e).toNat < D * 2 ^ e.toNat ↔ N * 2 ^ S < D * 2 ^ (e + S).toNat := by
  rw [← Nat.not_le, put_le h, Nat.not_le]

/-- The power of two at a fraction: 2^ex ≤ N/D < 2^(ex+1). -/
def ex (N D : Nat) : Int :=
  if N * 2 ^ (-((W.bl N : Int) - (W.bl D : Int))).toNat < D * 2 ^ ((W.bl N : Int) - (W.bl D : Int)).toNat then (W.bl N : Int) - (W.bl D : Int) - 1 else (W.bl N : Int) - (W.bl D : Int)
theorem bl_lo {n : Nat} (h : n ≠ 0) : 2 ^ W.bl n ≤ 2 * n := by
  have := W.bl_ge h
  have p := W.bl_pos h
  rw [p] at this ⊢
  rw [Nat.pow_succ]
  simp only [Nat.add_sub_cancel] at this
  omega
theorem ex_range (N D : Nat) : (W.bl N : Int) - W.bl D - 1 ≤ ex N D ∧ ex N D ≤ (W.bl N : Int) - W.bl D := by
  unfold ex; split <;> omega
theorem ex_spec {N D S : Nat} (hN : N ≠ 0) (hD : D ≠ 0) (hS : W.bl D + 1 ≤ S) : D * 2 ^ (ex N D + S).toNat ≤ N * 2 ^ S ∧ N * 2 ^ S < D * 2 ^ (ex N D + 1 + S).toNat := by
  have h1 := W.bl_lt_pow N
  have h2 := W.bl_lt_pow D
  have h3 := bl_lo hN
  have h4 := bl_lo hD
  unfold ex
  generalize he : (W.bl N : Int) - (W.bl D : Int) = e
  split
  · rename_i c
    rw [put_lt (S := S) (by omega)] at c
    refine ⟨?_, by rw [show e - 1 + 1 + (S : Int) = e + S by omega]; exact c⟩
    -- D < 2^bD, 2 N >= 2^bN
    have e1 : D * 2 ^ (e - 1 + S).toNat * 2 ≤ 2 ^ W.bl D * 2 ^ (e - 1 + S).toNat * 2 := Nat.mul_le_mul_right _ (Nat.mul_le_mul_right _ (Nat.le_of_lt h2))
    have e2 : 2 ^ W.bl D * 2 ^ (e - 1 + S).toNat * 2 = 2 ^ W.bl N * 2 ^ S := by
      rw [← Nat.pow_add, ← Nat.pow_succ, ← Nat.pow_add]; congr 1; omega
    have e3 : 2 ^ W.bl N * 2 ^ S ≤ 2 * N * 2 ^ S := Nat.mul_le_mul_right _ h3
    have e4 : 2 * N * 2 ^ S = N * 2 ^ S * 2 := by rw [Nat.mul_comm 2 N, Nat.mul_assoc, Nat.mul_comm 2, ← Nat.mul_assoc]
    omega
  · rename_i c
    rw [Nat.not_lt, put_le (S := S) (by omega)] at c
    refine ⟨c, ?_⟩
    have e1 : N * 2 ^ S < 2 ^ W.bl N * 2 ^ S := Nat.mul_lt_mul_of_pos_right h1 (Nat.two_pow_pos _)
    have e2 : 2 ^ W.bl N * 2 ^ S * 2 = 2 ^ W.bl D * 2 ^ (e + 1 + S).toNat := by
      rw [← Nat.pow_add, ← Nat.pow_succ, ← Nat.pow_add]; congr 1; omega
    have e3 : 2 ^ W.bl D * 2 ^ (e + 1 + S).toNat ≤ 2 * D * 2 ^ (e + 1 + S).toNat := Nat.mul_le_mul_right _ h4
    have e4 : 2 * D * 2 ^ (e + 1 + S).toNat = D * 2 ^ (e + 1 + S).toNat * 2 := by rw [Nat.mul_comm 2 D, Nat.mul_assoc, Nat.mul_comm 2, ← Nat.mul_assoc]
    omega
theorem ex_nn {N D p : Nat} (h : (W.bl N : Int) - W.bl D = (p : Int)) : ex N D = if N < D * 2 ^ p then (p : Int) - 1 else p := by
  unfold ex
  rw [h, show (-(p : Int)).toNat = 0 by omega, Int.toNat_natCast, Nat.pow_zero, Nat.mul_one]
theorem ex_neg {N D p : Nat} (h : (W.bl N : Int) - W.bl D = -(p : Int)) : ex N D = if N * 2 ^ p < D then -(p : Int) - 1 else -(p : Int) := by
  unfold ex
  rw [h, show (-(p : Int)).toNat = 0 by omega, Int.neg_neg, Int.toNat_natCast, Nat.pow_zero, Nat.mul_one]
theorem bl_len {l : List Nat} {k : Nat} (w : W.WF l) (h : l.length ≤ k) : W.bl (W.val l) ≤ 32 * k := by
  refine W.bl_le.2 (Nat.lt_of_lt_of_le (W.val_lt w) ?_)
  rw [W.pw_two]; exact Nat.pow_le_pow_right (by decide) (Nat.mul_le_mul_left _ h)
theorem cmp_neg (x y : Nat) : decide (W.cmpN x y < 0) = decide (x < y) := by
  rcases Nat.lt_trichotomy x y with h | h | h
  · rw [W.cmpN_lt h]; simp [h]
  · subst h; rw [W.cmpN_eq]; simp
  · rw [W.cmpN_gt h]; simp; omega
/-- The place of the last digit that is kept. -/
def kk (N D : Nat) : Int := max (ex N D - 52) (-1074)
/-- The digits that are kept. -/
def mm (N D : Nat) : Nat := rne (N * 2 ^ (-kk N D).toNat) (D * 2 ^ (kk N D).toNat)
theorem kk_pos (D : Nat) (k : Int) (h : D ≠ 0) : 0 < D * 2 ^ k.toNat := Nat.mul_pos (by omega) (Nat.two_pow_pos _)
theorem pow_mono {D a b : Nat} (h : a ≤ b) : D * 2 ^ a ≤ D * 2 ^ b := Nat.mul_le_mul_left _ (Nat.pow_le_pow_right (by decide) h)
theorem mm_le {N D : Nat} (hN : N ≠ 0) (hD : D ≠ 0) : mm N D ≤ 2 ^ 53 := by
  refine rne_le (kk_pos D _ hD) ?_
  obtain ⟨S, hS1, hS2⟩ : ∃ S : Nat, W.bl D + 1 ≤ S ∧ 1074 ≤ S := ⟨W.bl D + 1074, by omega, by omega⟩
  have hk : 0 ≤ kk N D + S := by unfold kk; omega
  obtain ⟨-, h⟩ := ex_spec hN hD hS1
  obtain ⟨j, h1, h2⟩ := put (N := N) (D := D) hk
  have e : (ex N D + 1 + S).toNat ≤ (kk N D + S).toNat + 53 := by unfold kk; omega
  have := Nat.lt_of_lt_of_le h (pow_mono (D := D) e)
  rw [Nat.pow_add, ← Nat.mul_assoc, h1, h2] at this
  refine Nat.lt_of_mul_lt_mul_right (a := 2 ^ j) ?_
  calc _ < _ := this
    _ = _ := by ac_rfl
theorem mm_ge {N D : Nat} (hN : N ≠ 0) (hD : D ≠ 0) (h : -1074 < kk N D) : 2 ^ 52 ≤ mm N D := by
  refine rne_ge (kk_pos D _ hD) ?_
  obtain ⟨S, hS1, hS2⟩ : ∃ S : Nat, W.bl D + 1 ≤ S ∧ 1074 ≤ S := ⟨W.bl D + 1074, by omega, by omega⟩
  have hk : 0 ≤ kk N D + S := by omega
  obtain ⟨h3, -⟩ := ex_spec hN hD hS1
  obtain ⟨j, h1, h2⟩ := put (N := N) (D := D) hk
  have e : (kk N D + S).toNat + 52 ≤ (ex N D + S).toNat := by unfold kk at h hk ⊢; omega
  have := Nat.le_trans (pow_mono (D := D) e) h3
  rw [Nat.pow_add, ← Nat.mul_assoc, h1, h2] at this
  refine Nat.le_of_mul_le_mul_right (c := 2 ^ j) ?_ (Nat.two_pow_pos j)
  calc _ = _ := by ac_rfl
    _ ≤ _ := this
theorem mm_nn {N D p : Nat} (h : kk N D = (p : Int)) : mm N D = rne N (D * 2 ^ p) := by
  unfold mm
  rw [h, show (-(p : Int)).toNat = 0 by omega, Int.toNat_natCast, Nat.pow_zero, Nat.mul_one]
theorem mm_neg {N D p : Nat} (h : kk N D = -(p : Int)) : mm N D = rne (N * 2 ^ p) D := by
  unfold mm
  rw [h, show (-(p : Int)).toNat = 0 by omega, Int.neg_neg, Int.toNat_natCast, Nat.pow_zero, Nat.mul_one]
theorem div_le_rne (N D : Nat) : N / D ≤ rne N D := by rcases rne_cases N D with h | h <;> omega
theorem rne_lt {N D : Nat} (h : N % D * 2 ^ 1 < D) : rne N D = N / D := by unfold rne; simp; omega
theorem rne_gt {N D : Nat} (h : D < N % D * 2 ^ 1) : rne N D = N / D + 1 := by
  unfold rne
  rw [show decide (D < 2 * (N % D)) = true by simp; omega]; rfl
theorem rne_mid {N D : Nat} (h : N % D * 2 ^ 1 = D) : rne N D = N / D + N / D % 2 := by
  unfold rne
  rw [show decide (D < 2 * (N % D)) = false by simp; omega, show decide (2 * (N % D) = D) = true by simp; omega]
  by_cases c : N / D % 2 = 1
  · rw [c]; rfl
  · rw [show N / D % 2 = 0 by omega]; rfl
theorem kk_low {N D : Nat} (h : ex N D < -1075) : kk N D = -1074 := by unfold kk; omega
theorem mm_zero {N D : Nat} (hN : N ≠ 0) (hD : D ≠ 0) (h : ex N D < -1075) : mm N D = 0 := by
  have e0 := kk_low h
  unfold mm
  refine rne_zero ?_
  obtain ⟨S, hS1, hS2⟩ : ∃ S : Nat, W.bl D + 1 ≤ S ∧ (W.bl D + W.bl N + 1075 ≤ S) := ⟨W.bl D + W.bl N + 1075, by omega, by omega⟩
  have r := ex_range N D
  have hk : 0 ≤ kk N D + S := by omega
  obtain ⟨-, h3⟩ := ex_spec hN hD hS1
  obtain ⟨j, h1, h2⟩ := put (N := N) (D := D) hk
  have e : (ex N D + 1 + S).toNat + 1 ≤ (kk N D + S).toNat := by omega
  have := pow_mono (D := D) e
  rw [Nat.pow_succ, ← Nat.mul_assoc] at this
  refine Nat.lt_of_mul_lt_mul_right (a := 2 ^ j) ?_
  have e4 : 2 * (N * 2 ^ (-kk N D).toNat) * 2 ^ j = 2 * (N * 2 ^ S) := by rw [h1, Nat.mul_assoc]
  rw [e4, ← h2]
  omega
theorem kk_range {N D : Nat} : -1074 ≤ kk N D := by unfold kk; omega
theorem kk_high {N D : Nat} (h : ex N D ≤ 1023) : kk N D ≤ 971 := by unfold kk; omega
/-- The rung of the nearest double (or infinity's). -/
def nr (N D : Nat) : Nat := Fl.rung (mm N D) (kk N D + 1074).toNat
theorem nr_low {N D : Nat} (hN : N ≠ 0) (hD : D ≠ 0) (h : ex N D < -1075) : nr N D = 0 := by
  unfold nr
  rw [mm_zero hN hD h, kk_low h]; rfl
theorem nr_kept {N D : Nat} (hN : N ≠ 0) (hD : D ≠ 0) : (kk N D + 1074).toNat = 0 ∨ 2 ^ 52 ≤ mm N D := by
  by_cases c : kk N D = -1074
  · left; omega
  · right; exact mm_ge hN hD (by have := @kk_range N D; omega)
theorem nr_le {N D : Nat} (hN : N ≠ 0) (hD : D ≠ 0) (h : ex N D ≤ 1023) : nr N D ≤ Fl.infR := Fl.rung_le (mm_le hN hD) (by have := kk_high h; omega)
theorem nr_inf {N D : Nat} (hN : N ≠ 0) (hD : D ≠ 0) (h : ex N D ≤ 1023) : nr N D = Fl.infR ↔ kk N D = 971 ∧ mm N D = 2 ^ 53 := by
  have h1 := mm_le hN hD
  have h2 := kk_high h
  have h3 := @kk_range N D
  unfold nr Fl.rung Fl.infR
  constructor <;> intro k <;> omega
end Go.Proofs.Ytmeccjlopmjneaa.Nq
/- The bits of math.Ldexp's steps, and what they come to. -/
namespace Go.Proofs.Ytmeccjlopmjneaa.Fl
open Go Ieee

theorem cut_low (x : Nat) (hx : x < 2 ^ 63) : bits .andNot .u64 (x : Int) 9218868437227405312 = ((x % 2 ^ 52 : Nat) : Int) := by
  unfold bits
  have hb : ~~~(BitVec.ofInt 64 9218868437227405312) = BitVec.ofNat 64 (2 ^ 63 + (2 ^ 52 - 1)) := by decide
  show IntKind.u64.wrap ((BitVec.ofInt 64 (x : Int) &&& ~~~(BitVec.ofInt 64 9218868437227405312)).toNat : Int) = _
  have ha : (BitVec.ofInt 64 (x : Int)).toNat = x := by rw [BitVec.ofInt_natCast, BitVec.toNat_ofNat]; omega
  have hc : (BitVec.ofNat 64 (2 ^ 63 + (2 ^ 52 - 1))).toNat = 2 ^ 63 + (2 ^ 52 - 1) := by decide
  rw [hb, BitVec.toNat_and, ha, hc]
  have hd : x &&& (2 ^ 63 + (2 ^ 52 - 1)) = x % 2 ^ 52 := by
    have e1 : x = x &&& (2 ^ 63 - 1) := by rw [Nat.and_two_pow_sub_one_eq_mod, Nat.mod_eq_of_lt hx]
    rw [e1, Nat.and_assoc, show (2 ^ 63 - 1) &&& (2 ^ 63 + (2 ^ 52 - 1)) = 2 ^ 52 - 1 by decide, Nat.and_two_pow_sub_one_eq_mod, ← e1]
  rw [hd]
  simp only [IntKind.wrap, IntKind.bits, IntKind.signed]
  simp; omega
theorem and_exp64 (y : Nat) (hy : y < 2048) : bits .and .i64 (y : Int) 2047 = (y : Int) := by
  unfold bits
  show IntKind.i64.wrap ((BitVec.ofInt 64 (y : Int) &&& BitVec.ofInt 64 2047).toNat : Int) = _
  have ha : (BitVec.ofInt 64 (y : Int)).toNat = y := by rw [BitVec.ofInt_natCast, BitVec.toNat_ofNat]; omega
  have hc : (BitVec.ofInt 64 2047).toNat = 2 ^ 11 - 1 := by decide
  rw [BitVec.toNat_and, ha, hc, Nat.and_two_pow_sub_one_eq_mod]
  simp only [IntKind.wrap, IntKind.bits, IntKind.signed]
  simp; omega
theorem and_exp_of {x y : Nat} (h : x / 2 ^ 52 = y) (hy : y < 2048) : bits .and .i64 ((x : Int) / 4503599627370496) 2047 = (y : Int) := by
  rw [show (x : Int) / 4503599627370496 = (y : Int) by omega]; exact and_exp64 y hy
theorem or_exp (m n : Nat) (hm : m < 2 ^ 52) (hn : n < 2048) : bits .or .u64 (m : Int) ((n : Int) * 4503599627370496) = ((n * 2 ^ 52 + m : Nat) : Int) := by
  unfold bits
  show IntKind.u64.wrap ((BitVec.ofInt 64 (m : Int) ||| BitVec.ofInt 64 ((n : Int) * 4503599627370496)).toNat : Int) = _
  have ha : (BitVec.ofInt 64 (m : Int)).toNat = m := by rw [BitVec.ofInt_natCast, BitVec.toNat_ofNat]; omega
  have hc : (BitVec.ofInt 64 ((n : Int) * 4503599627370496)).toNat = 2 ^ 52 * n := by
    have : ((n : Int) * 4503599627370496) = ((2 ^ 52 * n : Nat) : Int) := by omega
    rw [this, BitVec.ofInt_natCast, BitVec.toNat_ofNat]; omega
  have h2 := Nat.two_pow_add_eq_or_of_lt hm n
  rw [BitVec.toNat_or, ha, hc, Nat.or_comm, ← h2]
  simp only [IntKind.wrap, IntKind.bits, IntKind.signed]
  simp; omega

/-- The word that is put together. -/
theorem word_put {x n : Nat} {k : Int} (hx : x < 2 ^ 63) (hk : k = (n : Int)) (hn : n < 2048) : (bits .or .u64 (bits .andNot .u64 (x : Int) 9218868437227405312) (k * 4503599627370496)).toNat = n * 2 ^ 52 + x % 2 ^ 52 := by
  rw [cut_low x hx, hk, or_exp (x % 2 ^ 52) n (Nat.mod_lt _ (by decide)) hn]; rfl
theorem flo_div {m : Nat} (h0 : m ≠ 0) (h : m ≤ 2 ^ 53) : flo m / 2 ^ 52 = 1023 + m.log2 := by
  rw [flo_pos h0]; have := flm_ge h0 h; have := flm_lt h0 h; omega
theorem flo_mod {m : Nat} (h0 : m ≠ 0) (h : m ≤ 2 ^ 53) : flo m % 2 ^ 52 = flm m - 2 ^ 52 := by
  rw [flo_pos h0]; have := flm_ge h0 h; have := flm_lt h0 h; omega
theorem log_ge {m : Nat} (h : 2 ^ 52 ≤ m) : 52 ≤ m.log2 := (Nat.le_log2 (by omega)).2 h
/-- The word that math.Ldexp puts together, where the number is not below the normal ones. -/
theorem put_normal {m e : Nat} (h0 : m ≠ 0) (h : m ≤ 2 ^ 53) (he : e = 0 ∨ 2 ^ 52 ≤ m) (h52 : 52 ≤ e + m.log2) : (e + m.log2 - 51) * 2 ^ 52 + flo m % 2 ^ 52 = rung m e := by
  have g1 := flm_ge h0 h
  have g2 := flm_lt h0 h
  rw [flo_mod h0 h, show (e + m.log2 - 51) * 2 ^ 52 + (flm m - 2 ^ 52) = (e + m.log2 - 52) * 2 ^ 52 + flm m by omega]
  refine U_inj ?_
  rw [rung_U h he, U_kept _ _ (Nat.le_of_lt g2) (.inr g1)]
  have e1 := flm_eq h0 h
  refine Nat.eq_of_mul_eq_mul_right (Nat.two_pow_pos 52) ?_
  rw [Nat.mul_assoc, ← Nat.pow_add, show e + m.log2 - 52 + 52 = m.log2 + e by omega, Nat.pow_add, ← Nat.mul_assoc, e1, Nat.mul_assoc, Nat.mul_assoc, Nat.mul_comm (2 ^ 52)]
/-- The word below the normal ones, ahead of the product by 2^-53. -/
theorem put_tiny {m : Nat} (h0 : m ≠ 0) (h : m ≤ 2 ^ 53) : U ((m.log2 + 2) * 2 ^ 52 + flo m % 2 ^ 52) = U (rung m 0) * 2 ^ 53 := by
  have g1 := flm_ge h0 h
  have g2 := flm_lt h0 h
  rw [flo_mod h0 h, show (m.log2 + 2) * 2 ^ 52 + (flm m - 2 ^ 52) = (m.log2 + 1) * 2 ^ 52 + flm m by omega]
  rw [rung_U h (.inl rfl), U_kept _ _ (Nat.le_of_lt g2) (.inr g1), Nat.pow_succ, ← Nat.mul_assoc, flm_eq h0 h, Nat.pow_zero, Nat.mul_one, Nat.mul_assoc]
theorem tiny_lt {m : Nat} (h : m ≤ 2 ^ 53) : (m.log2 + 2) * 2 ^ 52 + flo m % 2 ^ 52 < infR := by
  have := log_le h; unfold infR; omega
theorem rung_zero (e : Nat) (he : e = 0 ∨ 2 ^ 52 ≤ 0) : rung 0 e = 0 := by
  have : e = 0 := by omega
  subst this; rfl
/-- Infinity's rung: the greatest place and one digit more. -/
theorem rung_inf {m e : Nat} (h : m ≤ 2 ^ 53) (he : e ≤ 2045) (hm : m ≠ 0) (h2 : 2097 < e + m.log2) : rung m e = infR := by
  have l := log_le h
  have l53 : m.log2 = 53 := by omega
  have := Nat.log2_self_le hm
  rw [l53] at this
  unfold rung infR; omega
theorem rung_fin {m e : Nat} (h : m ≤ 2 ^ 53) (he : e ≤ 2045) (hm : m ≠ 0) (h2 : e + m.log2 ≤ 2097) : rung m e < infR := by
  have l : m < 2 ^ (m.log2 + 1) := Nat.lt_log2_self
  unfold rung infR
  by_cases c : e = 2045
  · have p : 2 ^ (m.log2 + 1) ≤ 2 ^ 53 := Nat.pow_le_pow_right (by decide) (by omega)
    omega
  · omega
end Go.Proofs.Ytmeccjlopmjneaa.Fl
/- Walks of math.Ldexp at whole numbers. -/
namespace Go.Proofs.Ytmeccjlopmjneaa
open Go.RowKit

theorem order_szs {x y : Nat} (hx : x ≤ Fl.infR) (hy : y ≤ Fl.infR) : FloatKind.f64.format.order x y = some (compare x y) := Fl.ord_size hx hy
theorem sz_nan {x : Nat} (h : x ≤ Fl.infR) : Fl.isNaN x = false := by
  have l := Fl.infR_lt
  unfold Fl.isNaN; rw [Nat.mod_eq_of_lt (by omega)]; simp; omega
theorem sz_inf {x : Nat} (h : x ≤ Fl.infR) : Fl.isInf x = decide (x = Fl.infR) := by
  have l := Fl.infR_lt
  unfold Fl.isInf; rw [Nat.mod_eq_of_lt (by omega)]
theorem isInf_sz (x : Nat) (w : World) (hx : x < Fl.infR) : Calls Try.prog 20 #[.float .f64 x, .int .i64 0] w fun e w' => e = .returned (.bool false) ∧ w' = w :=
  (isInf_any x w (by have := Fl.infR_lt; omega)).mono fun _ _ ⟨h, k⟩ => ⟨by rw [h, sz_inf (Nat.le_of_lt hx), decide_eq_false (by omega)], k⟩
theorem isNaN_sz (x : Nat) (w : World) (hx : x < Fl.infR) : Calls Try.prog 19 #[.float .f64 x] w fun e w' => e = .returned (.bool false) ∧ w' = w :=
  (isNaN_any x w).mono fun _ _ ⟨h, k⟩ => ⟨by rw [h, sz_nan (Nat.le_of_lt hx)], k⟩
theorem abs_sz (x : Nat) (w : World) (hx : x < Fl.infR) : Calls Try.prog 31 #[.float .f64 x] w fun e w' => e = .returned (.float .f64 x) ∧ w' = w :=
  (abs_any x w (by have := Fl.infR_lt; omega)).mono fun _ _ ⟨h, k⟩ => ⟨by have := Fl.infR_lt; rw [h, Nat.mod_eq_of_lt (by omega)], k⟩

set_option maxHeartbeats 1000000 in
theorem normalize_sz (x : Nat) (w : World) (hx : x < Fl.infR) (h1 : 4503599627370496 ≤ x) :
    Calls Try.prog 176 #[.float .f64 x] w fun e w' => e = .returned (.tuple #[.float .f64 x, .int .i64 0]) ∧ w' = w := by
  have o : FloatKind.f64.format.order x 4503599627370496 = some .gt ∨ FloatKind.f64.format.order x 4503599627370496 = some .eq := by
    rw [order_szs (Nat.le_of_lt hx) (by decide)]
    rcases Nat.lt_or_eq_of_le h1 with h | h
    · exact .inl (congrArg some (Nat.compare_eq_gt.2 h))
    · exact .inr (congrArg some (Nat.compare_eq_eq.2 h.symm))
  rcases o with o | o
  all_goals
    go_enter Try.func176, Try.ntmps176
    go_wp2_with (go_at_call 31; refine (abs_sz x _ hx).mono ?_; rintro e w' ⟨rfl, rfl⟩)
    go_ret2
    exact ⟨rfl, rfl⟩

set_option maxHeartbeats 4000000 in
theorem ldexpLow_any (m e : Nat) (w : World) (hm : m ≤ 2 ^ 53) (he : e ≤ 2045) (hk : e = 0 ∨ 2 ^ 52 ≤ m) :
    Calls Try.prog 159 #[.float .f64 (Fl.flo m), .int .i64 ((e : Int) - 1074)] w fun f w' => f = .returned (.float .f64 (Fl.rung m e)) ∧ ∃ x, w' = w.ext x := by
  by_cases h0 : m = 0
  · subst h0
    rw [Fl.flo_zero, Fl.rung_zero e hk]
    have o : FloatKind.f64.format.order 0 0 = some .eq := by decide
    go_enter Try.func159, Try.ntmps159
    go_wp2
    go_ret
    exact ⟨rfl, Blw.is (by repeat (first | exact Blw.refl _ | apply Blw.ext | apply Blw.alloc | apply Blw.drewN | apply Blw.drew | refine Blw.setCell ?_ _ _ (by simp)))⟩
  · have hx := Fl.flo_lt hm
    have h1 := Fl.flo_ge h0 hm
    have hd := Fl.flo_div h0 hm
    have hl := Fl.log_le hm
    have hl2 : e ≠ 0 → 52 ≤ m.log2 := fun h => Fl.log_ge (by omega)
    have o : FloatKind.f64.format.order (Fl.flo m) 0 = some .gt := by
      rw [order_szs (Nat.le_of_lt hx) (Nat.zero_le _)]; exact congrArg some (Nat.compare_eq_gt.2 (by omega))
    have pn := Fl.put_normal h0 hm hk
    have pt := Fl.put_tiny h0 hm
    have ptl := Fl.tiny_lt hm
    have ri := Fl.rung_inf hm he h0
    have rn := Fl.rung_fin hm he h0
    have rl := Fl.rung_le hm he
    have rz : e = 0 → Fl.rung m 0 = Fl.rung m e := fun h => by rw [h]
    generalize hL : m.log2 = L at *
    generalize hX : Fl.flo m = x at *
    generalize hR : Fl.rung m e = r at *
    have ax : bits .and .i64 ((x : Int) / 4503599627370496) 2047 = ((1023 + L : Nat) : Int) := Fl.and_exp_of hd (by omega)
    have hx63 : x < 2 ^ 63 := Nat.lt_trans hx Fl.infR_lt
    go_enter Try.func159, Try.ntmps159
    go_wp2_with (first | (go_at_call 20; (with_reducible refine (isInf_sz x _ hx).mono ?_); rintro e w' ⟨rfl, rfl⟩) | (go_at_call 19; (with_reducible refine (isNaN_sz x _ hx).mono ?_); rintro e w' ⟨rfl, rfl⟩) | (go_at_call 176; (with_reducible refine (normalize_sz x _ hx (by omega)).mono ?_); rintro e w' ⟨rfl, rfl⟩) | (go_at_call 12; (with_reducible refine (inf_any _).mono ?_); rintro e w' ⟨rfl, rfl⟩))
    · go_ret
      exact ⟨ret_float (ri (by omega)).symm, Blw.is (by repeat (first | exact Blw.refl _ | apply Blw.ext | apply Blw.alloc | apply Blw.drewN | apply Blw.drew | refine Blw.setCell ?_ _ _ (by simp)))⟩
    · go_ret
      have e0 : e = 0 := by
        by_cases z : e = 0
        · exact z
        · have := hl2 z; omega
      refine ⟨ret_float ?_, Blw.is (by repeat (first | exact Blw.refl _ | apply Blw.ext | apply Blw.alloc | apply Blw.drewN | apply Blw.drew | refine Blw.setCell ?_ _ _ (by simp)))⟩
      rw [Fl.word_put hx63 (show _ = ((L + 2 : Nat) : Int) by omega) (by omega)]
      rw [Fl.mul_tiny_fop ptl (by rw [rz e0]; exact rl) pt]
      exact rz e0
    · go_ret
      refine ⟨ret_float ?_, Blw.is (by repeat (first | exact Blw.refl _ | apply Blw.ext | apply Blw.alloc | apply Blw.drewN | apply Blw.drew | refine Blw.setCell ?_ _ _ (by simp)))⟩
      rw [Fl.word_put hx63 (show _ = ((e + L - 51 : Nat) : Int) by omega) (by omega), pn (by omega)]
      exact Fl.mul_one_fop (rn (by omega)) _
set_option maxHeartbeats 1000000 in
theorem ldexp_any (m e : Nat) (w : World) (hm : m ≤ 2 ^ 53) (he : e ≤ 2045) (hk : e = 0 ∨ 2 ^ 52 ≤ m) :
    Calls Try.prog 118 #[.float .f64 (Fl.flo m), .int .i64 ((e : Int) - 1074)] w fun f w' => f = .returned (.float .f64 (Fl.rung m e)) ∧ ∃ x, w' = w.ext x := by
  go_enter Try.func118, Try.ntmps118
  go_wp2_with (go_at_call 159; (with_reducible refine (ldexpLow_any m e _ hm he hk).mono ?_); rintro f w' ⟨rfl, x, rfl⟩)
  go_ret
  exact ⟨rfl, Blw.is (by repeat (first | exact Blw.refl _ | apply Blw.ext | apply Blw.alloc | apply Blw.drewN | apply Blw.drew | refine Blw.setCell ?_ _ _ (by simp)))⟩
end Go.Proofs.Ytmeccjlopmjneaa
/- The walk of real.power: the power of two at a fraction. -/
namespace Go.Proofs.Ytmeccjlopmjneaa
open Go.RowKit

set_option maxRecDepth 100000 in
set_option maxHeartbeats 2000000 in
theorem power_any (a b : Option Addr) (l m : List Nat) (c d : Nat) (w : World) (h : Arr w a (u32s l)) (k : Arr w b (u32s m)) (hc : l.length ≤ c) (hd : m.length ≤ d) (hcm : c ≤ 9223372036854775807) (hdm : d ≤ 9223372036854775807)
    (wl : W.WF l) (wm : W.WF m) (nl : W.Nrm l) (nm : W.Nrm m) (hl : l.length ≤ 2048) (hm : m.length ≤ 2048) :
    Calls Try.prog 113 #[.slice a l.length c, .slice b m.length d] w fun e w' => e = .returned (.int .i64 (Nq.ex (W.val l) (W.val m))) ∧ ∃ x, w' = w.ext x := by
  have bl1 := Nq.bl_len wl hl
  have bl2 := Nq.bl_len wm hm
  have hbl := natBits_any a l c w h hc hcm (by omega) wl
  have hbm := natBits_any b m d w k hd hdm (by omega) wm
  obtain ⟨p, hp⟩ : ∃ p : Nat, (W.bl (W.val l) : Int) - W.bl (W.val m) = (p : Int) ∨ (0 < p ∧ (W.bl (W.val l) : Int) - W.bl (W.val m) = -(p : Int)) := ⟨((W.bl (W.val l) : Int) - W.bl (W.val m)).natAbs, by omega⟩
  have HBL := Lib.hid hbl
  have HBM := Lib.hid hbm
  rcases hp with hp | ⟨p0, hp⟩
  · have hsh := shifted_any b m d p w k hd hdm wm nm (by omega) (by omega)
    have HSH := Lib.hid hsh
    have hex := Nq.ex_nn hp
    have HEX := Lib.hid hex
    have q0 : decide ((0 : Int) ≤ (p : Int)) = true := by simp
    have hcs : decide (W.cmpN (W.val l) (W.val m * 2 ^ p) < 0) = decide (W.val l < W.val m * 2 ^ p) := Nq.cmp_neg _ _
    generalize hE : Nq.ex (W.val l) (W.val m) = E at *
    clear hbl hbm hsh hex hE
    generalize hN : W.val m * 2 ^ p = N at *
    clear hN
    by_cases lt : W.val l < N
    all_goals
      have hc2 : ∀ (a3 : Option Addr) (c3 : Nat) (w3 : World), Arr w3 a (u32s l) → Arr w3 a3 (u32s (W.toW N)) → (W.toW N).length ≤ c3 → c3 ≤ 9223372036854775807 → Calls Try.prog 117 #[.slice a l.length c, .slice a3 (W.toW N).length c3] w3 fun e w' => e = .returned (.int .i64 (W.cmpN (W.val l) N)) ∧ ∃ x, w' = w3.ext x := by
        intro a3 c3 w3 i1 i2 i3 i4
        have := natCompare_any a a3 l (W.toW N) c c3 w3 i1 i2 hc i3 hcm i4 wl (W.wf_toW _)
        rwa [W.val_toW] at this
      have HC2 := Lib.hid hc2
      rw [show decide (W.val l < N) = _ from by first | exact decide_eq_true lt | exact decide_eq_false lt] at hcs
      have HCS := Lib.hid hcs
      have HLT := Lib.hid lt
      clear hc2 hcs lt
      go_enter Try.func113, Try.ntmps113
      go_wp2_with (first | (go_at_call 153; (with_reducible refine Calls.mono HBL.out ?_); rintro e w' ⟨rfl, hw⟩; have hw := hw.symm; subst hw) | (go_at_call 153; (with_reducible refine Calls.mono HBM.out ?_); rintro e w' ⟨rfl, hw⟩; have hw := hw.symm; subst hw))
      refine Calls.mono HSH.out ?_
      rintro e w3 ⟨a3, c3, z3, rfl, hz3, own3, ar3, na3⟩
      rw [← hz3] at own3 ar3
      have hb3 : Blw w w3 := by rw [hz3]; exact World.blw_ext _ z3
      obtain ⟨_, _, ee, har, -, hnc, hcm3, hna⟩ := own_arr own3
      cases ee
      have al := h.blw hb3
      have hcc := HC2.out a3 c3 w3 al ar3 hnc hcm3
      have HCC := Lib.hid hcc
      clear hz3 own3 ar3 na3 hcc har hna al
      go_wp2_with fail
      refine Calls.mono HCC.out ?_
      rintro e w4 ⟨rfl, z4, rfl⟩
      have hcs := HCS.out
      go_wp2
      go_ret
      have e := HEX.out
      first | rw [if_pos HLT.out] at e | rw [if_neg HLT.out] at e
      subst e
      exact ⟨rfl, Blw.is (hb3.trans (by repeat (first | exact Blw.refl _ | apply Blw.ext | apply Blw.alloc | apply Blw.drewN | apply Blw.drew | refine Blw.setCell ?_ _ _ (by simp))))⟩
  · have hsh := shifted_any a l c p w h hc hcm wl nl (by omega) (by omega)
    have HSH := Lib.hid hsh
    have hex := Nq.ex_neg hp
    have q2 : -(-(p : Int)) = (p : Int) := by omega
    have HEX := Lib.hid hex
    have q0 : decide ((0 : Int) ≤ -(p : Int)) = false := by simp; omega
    have hcs : decide (W.cmpN (W.val l * 2 ^ p) (W.val m) < 0) = decide (W.val l * 2 ^ p < W.val m) := Nq.cmp_neg _ _
    generalize hE : Nq.ex (W.val l) (W.val m) = E at *
    clear hbl hbm hsh hex hE
    generalize hN : W.val l * 2 ^ p = N at *
    clear hN
    by_cases lt : N < W.val m
    all_goals
      have hc2 : ∀ (a3 : Option Addr) (c3 : Nat) (w3 : World), Arr w3 b (u32s m) → Arr w3 a3 (u32s (W.toW N)) → (W.toW N).length ≤ c3 → c3 ≤ 9223372036854775807 → Calls Try.prog 117 #[.slice a3 (W.toW N).length c3, .slice b m.length d] w3 fun e w' => e = .returned (.int .i64 (W.cmpN N (W.val m))) ∧ ∃ x, w' = w3.ext x := by
        intro a3 c3 w3 i1 i2 i3 i4
        have := natCompare_any a3 b (W.toW N) m c3 d w3 i2 i1 i3 hd i4 hdm (W.wf_toW _) wm
        rwa [W.val_toW] at this
      have HC2 := Lib.hid hc2
      rw [show decide (N < W.val m) = _ from by first | exact decide_eq_true lt | exact decide_eq_false lt] at hcs
      have HCS := Lib.hid hcs
      have HLT := Lib.hid lt
      clear hc2 hcs lt
      go_enter Try.func113, Try.ntmps113
      go_wp2_with (first | (go_at_call 153; (with_reducible refine Calls.mono HBL.out ?_); rintro e w' ⟨rfl, hw⟩; have hw := hw.symm; subst hw) | (go_at_call 153; (with_reducible refine Calls.mono HBM.out ?_); rintro e w' ⟨rfl, hw⟩; have hw := hw.symm; subst hw))
      refine Calls.mono HSH.out ?_
      rintro e w3 ⟨a3, c3, z3, rfl, hz3, own3, ar3, na3⟩
      rw [← hz3] at own3 ar3
      have hb3 : Blw w w3 := by rw [hz3]; exact World.blw_ext _ z3
      obtain ⟨_, _, ee, har, -, hnc, hcm3, hna⟩ := own_arr own3
      cases ee
      have al := k.blw hb3
      have hcc := HC2.out a3 c3 w3 al ar3 hnc hcm3
      have HCC := Lib.hid hcc
      clear hz3 own3 ar3 na3 hcc har hna al
      go_wp2_with fail
      refine Calls.mono HCC.out ?_
      rintro e w4 ⟨rfl, z4, rfl⟩
      have hcs := HCS.out
      go_wp2
      go_ret
      have e := HEX.out
      first | rw [if_pos HLT.out] at e | rw [if_neg HLT.out] at e
      subst e
      exact ⟨rfl, Blw.is (hb3.trans (by repeat (first | exact Blw.refl _ | apply Blw.ext | apply Blw.alloc | apply Blw.drewN | apply Blw.drew | refine Blw.setCell ?_ _ _ (by simp))))⟩
end Go.Proofs.Ytmeccjlopmjneaa
/- append as a step of a region that draws its order: onto a slice of the call's own, of anything that can be read (nil too). -/
namespace Go
open Go.RowKit
section
variable {P : Program} {ops : Array Oper} {o : Oper} {a : Act} {K : Act → World → Prop} {Q : Exit → Act → World → Prop} {E : Prop}
theorem step_app (w0 w : World) (hgd : o.guard = none) (s x : Operand) (t : TypeId) (ho : o.op = .call { callee := .builtin .append, args := #[s, x], argTypes := #[t, t] })
    {e : TypeId} {z : Value} {size bytes : Nat} (hT : SlT P t e z size bytes) (hb : Blw w0 w) (v : Value) (n : Nat) (xs : List Value) (hs : a.eval s = v) (hown : w.ownsRow w0.heap.size e size v n xs)
    (ad : Option Addr) (m c : Nat) (news : List Value) (hx : a.eval x = .slice ad m c) (hn : ad = none → c = 0) (hr : Arr w ad news) (hl : news.length = m * size) (h1 : ∀ u ∈ news, u.oneCell' = true)
    (h63 : n + m ≤ maxLen) (hbytes : (n + m) * bytes ≤ 140737488355328)
    (h : ∀ v' w', w'.ownsRow w0.heap.size e size v' (n + m) (xs ++ news) → Blw w0 w' → w.grownBy w' v.ownBlock → (v'.ownBlock = v.ownBlock ∨ v'.ownBlock = some w.heap.size) → K (a.put o.dst v') w') :
    if Region.wanted o (yielded ops a.tmps) = true then Oper.wp P o a w K Q else E := by
  have hw : Region.wanted o (yielded ops a.tmps) = true := by simp [Region.wanted, hgd]
  rw [if_pos hw]
  obtain ⟨i, hi, hz0, hz1, hz2⟩ := info_parts hT.info
  have hpos := hT.pos
  cases ad with
  | none =>
    have hnews : news = [] := by
      rcases hr with h | ⟨b, o, e, _⟩
      · exact h
      · cases e
    have hm : m = 0 := by
      rcases Nat.eq_zero_or_pos m with h | h
      · exact h
      · have := Nat.mul_pos h hpos; rw [hnews] at hl; simp at hl; omega
    subst hnews hm
    have hc := hn rfl
    subst hc
    have hrun := run_append_owned_none (P := P) (w := w) w0.heap.size t o.type e i size hT.under hi v n xs hown
    unfold Oper.wp
    simp [execOp, ho, resolve, invoke, builtin, hs, hx, hrun, Result.andThen]
    exact h v w (by simpa using hown) hb (World.grownBy.refl _ _) (.inl rfl)
  | some ad =>
    have hnews : ∀ j u, news[j]? = some u → w.cell? (ad.add j) = some u := by
      intro j u hj
      rcases hr with h | ⟨b, o, e, hbs, hc⟩
      · subst h; simp at hj
      · cases e
        have hjl : j < news.length := by rw [List.getElem?_eq_some_iff] at hj; exact hj.1
        have := hc j hjl
        rw [hj] at this
        have ea : (⟨b, o, none⟩ : Addr).add j = ⟨b, o + j, none⟩ := by unfold Addr.add; split <;> simp_all
        rw [ea]; exact this
    obtain ⟨v', w', hrun, g1, g2, _, g5⟩ := run_append_own_at (P := P) w w0.heap.size t o.type e i z size bytes hT.under hi hz0 hz1 hz2 hT.cells hpos v n xs hown ad m c news hl hnews h1 h63 hbytes hb.size
    unfold Oper.wp execOp
    simp only [ho, resolve, invoke, builtin, Sem.run_bind, Sem.run_pure, Result.andThen_ok, List.map_toArray, List.map_cons, List.map_nil, hs, hx, hrun]
    exact h v' w' g1 (hb.grown g2 (fun k hk => (World.ownsRow.lt hown k hk).1)) g2 g5
end
/-- The same for a plain region's list. -/
theorem wpList_app2 {P : Program} {ops : Array Oper} {rest : List Oper} {o : Oper} {a : Act} {Q : Exit → Act → World → Prop} (w0 w : World) (hgd : o.guard = none) (s x : Operand) (t : TypeId) (ho : o.op = .call { callee := .builtin .append, args := #[s, x], argTypes := #[t, t] })
    {e : TypeId} {z : Value} {size bytes : Nat} (hT : SlT P t e z size bytes) (hb : Blw w0 w) (v : Value) (n : Nat) (xs : List Value) (hs : a.eval s = v) (hown : w.ownsRow w0.heap.size e size v n xs)
    (ad : Option Addr) (m c : Nat) (news : List Value) (hx : a.eval x = .slice ad m c) (hn : ad = none → c = 0) (hr : Arr w ad news) (hl : news.length = m * size) (h1 : ∀ u ∈ news, u.oneCell' = true)
    (h63 : n + m ≤ maxLen) (hbytes : (n + m) * bytes ≤ 140737488355328)
    (h : ∀ v' w', w'.ownsRow w0.heap.size e size v' (n + m) (xs ++ news) → Blw w0 w' → w.grownBy w' v.ownBlock → (v'.ownBlock = v.ownBlock ∨ v'.ownBlock = some w.heap.size) → wpList P ops Q rest (a.put o.dst v') w') : wpList P ops Q (o :: rest) a w := by
  refine wpList_plain hgd fun K hK => ?_
  have hw : Region.wanted o (yielded ops a.tmps) = true := by simp [Region.wanted, hgd]
  have := step_app (ops := ops) (K := K) (Q := Q) (E := False) w0 w hgd s x t ho hT hb v n xs hs hown ad m c news hx hn hr hl h1 h63 hbytes (fun v' w' a1 a2 a3 a4 => hK _ _ (h v' w' a1 a2 a3 a4))
  rwa [if_pos hw] at this
theorem heap_alloc_at {w : World} {o : Obj} {k : Nat} (h : k = w.heap.size) : (w.alloc o).heap[k]? = some o := by rw [h]; exact heap_alloc_new _ _
theorem Arr.lit_at (w : World) (cs : Array Value) (t : TypeId) (fr : Nat × Nat) {k : Nat} (h : k = w.heap.size) : Arr (w.alloc (.cells cs t fr)) (some ⟨k, 0, none⟩) cs.toList := by rw [h]; exact Arr.lit w cs t fr
/-- A slice of no elements in a block of the call's own. -/
theorem ownsRow_empty {w : World} {B g : Nat} {e : TypeId} {size : Nat} {fr : Nat × Nat} (h : w.heap[g]? = some (.cells #[] e fr)) (hf : fr = (0, 0)) (hB : B ≤ g) : w.ownsRow B e size (.slice (some ⟨g, 0, none⟩) 0 0) 0 [] := by
  subst hf
  exact ⟨by simp, .inr ⟨g, 0, #[], rfl, hB, h, Nat.le_refl _, Nat.zero_le _, by simp, by simp⟩⟩
/-- The world at a place of the walk, named, with what is known of it. -/
theorem name_world {P : Program} {c : Code} {Q : Exit → Act → World → Prop} {a : Act} {w : World} (S : World → Prop) (h : S w) (k : ∀ W, S W → Code.wp P c Q a W) : Code.wp P c Q a w := k w h
/-- A block of six cells, and of three, that lies in a later world. -/
theorem box6 {w W : World} {T : TypeId} {u0 u1 u2 u3 u4 u5 : Value} (h : Blw (w.alloc (.cells #[u0, u1, u2, u3, u4, u5] T)) W) :
    w.heap.size < W.heap.size ∧ W.cell? ⟨w.heap.size, 0, none⟩ = some u0 ∧ W.cell? ⟨w.heap.size, 1, none⟩ = some u1 ∧ W.cell? ⟨w.heap.size, 2, none⟩ = some u2 ∧ W.cell? ⟨w.heap.size, 3, none⟩ = some u3 ∧ W.cell? ⟨w.heap.size, 4, none⟩ = some u4 ∧ W.cell? ⟨w.heap.size, 5, none⟩ = some u5 := by
  have hl : w.heap.size < (w.alloc (.cells #[u0, u1, u2, u3, u4, u5] T)).heap.size := by simp
  have hh : W.heap[w.heap.size]? = some (.cells #[u0, u1, u2, u3, u4, u5] T (0, 0)) := (Below.block h _ hl).trans (heap_alloc_new w _)
  exact ⟨Nat.lt_of_lt_of_le hl h.size, (cell_of_row W _ 0 _ _ _ hh).trans rfl, (cell_of_row W _ 1 _ _ _ hh).trans rfl, (cell_of_row W _ 2 _ _ _ hh).trans rfl, (cell_of_row W _ 3 _ _ _ hh).trans rfl, (cell_of_row W _ 4 _ _ _ hh).trans rfl, (cell_of_row W _ 5 _ _ _ hh).trans rfl⟩
theorem box3 {w W : World} {T : TypeId} {u0 u1 u2 : Value} (h : Blw (w.alloc (.cells #[u0, u1, u2] T)) W) :
    w.heap.size < W.heap.size ∧ W.cell? ⟨w.heap.size, 0, none⟩ = some u0 ∧ W.cell? ⟨w.heap.size, 1, none⟩ = some u1 ∧ W.cell? ⟨w.heap.size, 2, none⟩ = some u2 := by
  have hl : w.heap.size < (w.alloc (.cells #[u0, u1, u2] T)).heap.size := by simp
  have hh : W.heap[w.heap.size]? = some (.cells #[u0, u1, u2] T (0, 0)) := (Below.block h _ hl).trans (heap_alloc_new w _)
  exact ⟨Nat.lt_of_lt_of_le hl h.size, (cell_of_row W _ 0 _ _ _ hh).trans rfl, (cell_of_row W _ 1 _ _ _ hh).trans rfl, (cell_of_row W _ 2 _ _ _ hh).trans rfl⟩
end Go
/- The walk of real.Nearest: the nearest double of a fraction. -/
namespace Go.Proofs.Ytmeccjlopmjneaa
open Go.RowKit

/-- What real.Nearest tells: the word and the error. -/
def nrF (r : Fr) : Nat × Int :=
  if chkF r ≠ 0 then (0, chkF r)
  else if r.num.length = 0 then (0, 0)
  else if 1023 < Nq.ex (W.val r.num) (W.val r.den) then (0, 9)
  else if Nq.nr (W.val r.num) (W.val r.den) = Fl.infR then (0, 9)
  else (if r.neg = true ∧ Nq.nr (W.val r.num) (W.val r.den) ≠ 0 then Op.negFloat .f64 (Nq.nr (W.val r.num) (W.val r.den)) else Nq.nr (W.val r.num) (W.val r.den), 0)
theorem shift_len {l : List Nat} {k p j : Nat} (w : W.WF l) (h : l.length ≤ k) (hp : p ≤ 32 * j) : (W.toW (W.val l * 2 ^ p)).length ≤ k + j := by
  rw [W.len_toW_le, W.pw_two, Nat.mul_add, Nat.pow_add]
  have h1 := W.val_lt w
  rw [W.pw_two] at h1
  have h2 : 2 ^ (32 * l.length) ≤ 2 ^ (32 * k) := Nat.pow_le_pow_right (by decide) (by omega)
  have h3 : 2 ^ p ≤ 2 ^ (32 * j) := Nat.pow_le_pow_right (by decide) hp
  exact Nat.lt_of_lt_of_le (Nat.mul_lt_mul_of_pos_right (Nat.lt_of_lt_of_le h1 h2) (Nat.two_pow_pos p)) (Nat.mul_le_mul_left _ h3)
theorem val_ne {l : List Nat} (n : W.Nrm l) (h : ¬ l.length = 0) : W.val l ≠ 0 := by
  have := W.val_pos n (by intro e; rw [e] at h; exact h rfl)
  omega

set_option maxRecDepth 100000 in
set_option maxHeartbeats 4000000 in
theorem realNearest_any (r : Fr) (a : Option Addr) (c : Nat) (b : Option Addr) (d : Nat) (w : World) (hF : FrA w r a c b d) :
    Calls Try.prog 59 #[frV r a c b d] w fun e w' => e = .returned (.tuple #[.float .f64 (nrF r).1, .int .i64 (nrF r).2]) ∧ ∃ x, w' = w.ext x := by
  obtain ⟨sg, num, den⟩ := r
  have hnr : nrF ⟨sg, num, den⟩ = nrF ⟨sg, num, den⟩ := rfl
  conv at hnr => rhs; unfold nrF
  have HNR := Lib.hid hnr
  clear hnr
  generalize nrF ⟨sg, num, den⟩ = R at *
  have hck := ratioCheck_any ⟨sg, num, den⟩ a c b d (w.alloc (.cells #[.bool sg, .slice a num.length c, .slice b den.length d] 34)) (hF.blw (by repeat (first | exact Blw.refl _ | apply Blw.ext | apply Blw.alloc | apply Blw.drewN | apply Blw.drew | refine Blw.setCell ?_ _ _ (by simp))))
  go_enter Try.func59, Try.ntmps59
  go_wp2_with fail
  refine Calls.mono hck ?_
  rintro e V ⟨rfl, z, hz⟩
  have bw : Blw (w.alloc (.cells #[.bool sg, .slice a num.length c, .slice b den.length d] 34)) V := by rw [hz]; exact World.blw_ext _ _
  have hb0 : Blw w V := ((Blw.refl _).alloc _).trans bw
  obtain ⟨s0, c0, c1, c2⟩ := box3 bw
  clear hz hck
  rcases chkF_cases ⟨sg, num, den⟩ with ck | ck | ck
  case inr.inl =>
    have e := HNR.out
    rw [ck] at *
    rw [if_pos (by decide)] at e
    subst e
    go_wp2
    go_ret2
    exact ⟨rfl, Blw.is (hb0.trans (by repeat (first | exact Blw.refl _ | apply Blw.ext | apply Blw.alloc | apply Blw.drewN | apply Blw.drew | refine Blw.setCell ?_ _ _ (by simp))))⟩
  case inr.inr =>
    have e := HNR.out
    rw [ck] at *
    rw [if_pos (by decide)] at e
    subst e
    go_wp2
    go_ret2
    exact ⟨rfl, Blw.is (hb0.trans (by repeat (first | exact Blw.refl _ | apply Blw.ext | apply Blw.alloc | apply Blw.drewN | apply Blw.drew | refine Blw.setCell ?_ _ _ (by simp))))⟩
  have ok := ok_chkF ck
  have HNR2 := HNR.out
  rw [if_neg (by rw [ck]; decide)] at HNR2
  rw [ck]
  clear HNR ck
  by_cases z0 : num.length = 0
  · rw [if_pos z0] at HNR2
    have q0 : (((num.length : Nat) : Int) == 0) = true := by simp [z0]
    subst HNR2
    go_wp2
    go_ret2
    exact ⟨rfl, Blw.is (hb0.trans (by repeat (first | exact Blw.refl _ | apply Blw.ext | apply Blw.alloc | apply Blw.drewN | apply Blw.drew | refine Blw.setCell ?_ _ _ (by simp))))⟩
  rw [if_neg z0] at HNR2
  have q0 : (((num.length : Nat) : Int) == 0) = false := by simp [z0]
  have okn : num.length ≤ 2048 := ok.ln
  have okd : den.length ≤ 2048 := ok.ld
  have okd0 : 0 < den.length := ok.d0
  have hN : W.val num ≠ 0 := val_ne ok.nn z0
  have hD : W.val den ≠ 0 := val_ne ok.nd (by omega)
  have hpw := power_any a b num den c d V (hF.an.blw hb0) (hF.ad.blw hb0) hF.cn hF.dn hF.cm hF.dm hF.wn hF.wd ok.nn ok.nd ok.ln ok.ld
  have HNR := Lib.hid HNR2
  clear HNR2
  go_wp2_with fail
  refine Calls.mono hpw ?_
  rintro e W2 ⟨rfl, z, hz⟩
  have bw2 : Blw (w.alloc (.cells #[.bool sg, .slice a num.length c, .slice b den.length d] 34)) W2 := bw.trans (by rw [hz]; exact World.blw_ext _ _)
  have hb2 : Blw w W2 := ((Blw.refl _).alloc _).trans bw2
  clear hz hpw s0 c0 c1 c2 hb0 bw
  obtain ⟨s0, c0, c1, c2⟩ := box3 bw2
  go_wp2_with fail
  · have e := HNR.out
    rw [if_pos (by assumption)] at e
    subst e
    go_ret2
    exact ⟨rfl, Blw.is (hb2.trans (by repeat (first | exact Blw.refl _ | apply Blw.ext | apply Blw.alloc | apply Blw.drewN | apply Blw.drew | refine Blw.setCell ?_ _ _ (by simp))))⟩
  · have e := HNR.out
    rw [if_neg (by omega), Nq.nr_low hN hD (by assumption), if_neg (by decide), if_neg (by simp)] at e
    subst e
    go_ret2
    exact ⟨rfl, Blw.is (hb2.trans (by repeat (first | exact Blw.refl _ | apply Blw.ext | apply Blw.alloc | apply Blw.drewN | apply Blw.drew | refine Blw.setCell ?_ _ _ (by simp))))⟩
  have HNR2 := HNR.out
  rw [if_neg (by omega)] at HNR2
  have HNR := Lib.hid HNR2
  clear HNR2
  have hex : Nq.ex (W.val num) (W.val den) ≤ 1023 := by assumption
  refine wp_region_ext_lit (by kernel_rfl) (by kernel_rfl) ?_
  repeat (quiet_step ((fail)))
  refine wpQuiet_nil ?_
  rintro _ ⟨x, rfl⟩
  have hkk : max (Nq.ex (W.val num) (W.val den) - 52) (-1074) = Nq.kk (W.val num) (W.val den) := rfl
  rw [hkk]
  have hk1 := @Nq.kk_range (W.val num) (W.val den)
  have hk2 := Nq.kk_high hex
  have hm1 := Nq.mm_le hN hD
  have hkp := Nq.nr_kept hN hD
  have hinf := Nq.nr_inf hN hD hex
  have b4 : Blw W2 (W2.ext x) := World.blw_ext _ _
  generalize W2.ext x = W4 at *
  have bw4 := bw2.trans b4
  have hb4 := hb2.trans b4
  clear s0 c0 c1 c2 bw2 hb2 b4 hkk
  obtain ⟨s0, c0, c1, c2⟩ := box3 bw4
  obtain ⟨p, hp⟩ : ∃ p : Nat, Nq.kk (W.val num) (W.val den) = (p : Int) ∨ (0 < p ∧ Nq.kk (W.val num) (W.val den) = -(p : Int)) := ⟨(Nq.kk (W.val num) (W.val den)).natAbs, by omega⟩
  obtain ⟨ev, hev⟩ : ∃ ev : Nat, Nq.kk (W.val num) (W.val den) = (ev : Int) - 1074 := ⟨(Nq.kk (W.val num) (W.val den) + 1074).toNat, by omega⟩
  have hev2 : (Nq.kk (W.val num) (W.val den) + 1074).toNat = ev := by omega
  have hevl : ev ≤ 2045 := by omega
  have hnrm : Nq.nr (W.val num) (W.val den) = Fl.rung (Nq.mm (W.val num) (W.val den)) ev := by unfold Nq.nr; rw [hev2]
  rw [hev2] at hkp
  have hnrl := Nq.nr_le hN hD hex
  rw [hnrm] at hnrl
  have HNR2 := HNR.out
  rw [hnrm] at HNR2
  clear hinf hev2 hnrm HNR
  have HNQ := Lib.hid HNR2
  clear HNR2
  rcases hp with hp | ⟨p0, hp⟩
  case' inl =>
    have hmm := Nq.mm_nn hp
    have hsh := shifted_any b den d p W4 (hF.ad.blw hb4) hF.dn hF.dm hF.wd ok.nd (by omega) (by omega)
    have ll := shift_len (j := 40) hF.wd okd (show p ≤ 32 * 40 by omega)
    have ki : (p : Int) = (ev : Int) - 1074 := by omega
    have q1 : decide ((0 : Int) ≤ (p : Int)) = true := by simp
    generalize hDD : W.val den * 2 ^ p = DD at *
    have DDne : DD ≠ 0 := by rw [← hDD]; exact Nat.pos_iff_ne_zero.1 (Nat.mul_pos (by omega) (Nat.two_pow_pos p))
  case' inr =>
    have hmm := Nq.mm_neg hp
    have hsh := shifted_any a num c p W4 (hF.an.blw hb4) hF.cn hF.cm hF.wn ok.nn (by omega) (by omega)
    have ll := shift_len (j := 40) hF.wn okn (show p ≤ 32 * 40 by omega)
    have ki : -(p : Int) = (ev : Int) - 1074 := by omega
    have q1 : decide ((0 : Int) ≤ -(p : Int)) = false := by simp; omega
    have q2 : -(-(p : Int)) = (p : Int) := by omega
    generalize hDD : W.val num * 2 ^ p = DD at *
  all_goals
    rw [hp]
    have pl : p ≤ 1280 := by omega
    clear hp hDD hev
    have HKI := Lib.hid ki
    clear ki
    generalize hM : Nq.mm (W.val num) (W.val den) = M at *
    obtain ⟨L3, hL3⟩ : ∃ L, L = W.toW DD := ⟨_, rfl⟩
    have vL : W.val L3 = DD := by rw [hL3, W.val_toW]
    have wL : W.WF L3 := by rw [hL3]; exact W.wf_toW _
    have rL : W.Nrm L3 := by rw [hL3]; exact W.nrm_toW _
    have zL : DD ≠ 0 → 0 < L3.length := fun h => by rw [hL3]; exact pos_len (by omega)
    rw [← hL3] at ll
    rw [← vL] at hmm
    go_wp2_with fail
    with_reducible refine Calls.mono hsh ?_
    rintro e W5 ⟨a3, c3, z, rfl, hz, own, -, -⟩
    rw [← hz] at own
    have bw5 : Blw W4 W5 := by rw [hz]; exact World.blw_ext _ _
    obtain ⟨_, _, ee, ar3, -, hnc, hcm3, hna⟩ := own_arr own
    cases ee
    rw [← hL3] at ar3 hnc hna
    rw [← hL3]
    clear hz own hsh hL3
  focus
    have hna' : a3 = none → L3.length = 0 ∧ c3 = 0 := by first | exact hF.na | exact hna
    have i1 : Arr W5 a3 (u32s L3) := by first | exact ar3 | exact hF.an.blw (hb4.trans bw5)
    have i2 : Arr W5 b (u32s den) := by first | exact ar3 | exact hF.ad.blw (hb4.trans bw5)
    have n1 : L3.length ≤ c3 := by first | exact hnc | exact hF.cn
    have n2 : den.length ≤ d := by first | exact hnc | exact hF.dn
    have m1 : c3 ≤ 9223372036854775807 := by first | exact hcm3 | exact hF.cm
    have m2 : d ≤ 9223372036854775807 := by first | exact hcm3 | exact hF.dm
    have w1 : W.WF L3 := by first | exact wL | exact hF.wn
    have w2 : W.WF den := by first | exact wL | exact hF.wd
    have r1 : W.Nrm L3 := by first | exact rL | exact ok.nn
    have r2 : W.Nrm den := by first | exact rL | exact ok.nd
    have z2 : 0 < den.length := by first | exact okd0 | exact zL DDne
    have hdm := natDivMod_any a3 b L3 den c3 d W5 i1 i2 n1 n2 m1 m2 hna' w1 w2 r1 r2 (by omega) z2 (by omega)
    obtain ⟨k4, hk4⟩ : ∃ k, k = 4096 := ⟨_, rfl⟩
    have hmd : W.val L3 % W.val den < W.pw k4 := Nat.lt_of_lt_of_le (Nat.mod_lt _ (by have := val_ne r2 (by omega); omega)) (Nat.le_trans (Nat.le_of_lt (W.val_lt w2)) (Nat.pow_le_pow_right (by decide) (by omega)))
    have hqm : W.val L3 / W.val den ≤ 2 ^ 53 := Nat.le_trans (Nq.div_le_rne _ _) (by rw [← hmm]; exact hm1)
    have g1 : W.val L3 % W.val den * 2 ^ 1 < W.val den → M = W.val L3 / W.val den := fun h => by rw [hmm]; exact Nq.rne_lt h
    have g2 : W.val den < W.val L3 % W.val den * 2 ^ 1 → M = W.val L3 / W.val den + 1 := fun h => by rw [hmm]; exact Nq.rne_gt h
    have g3 : W.val L3 % W.val den * 2 ^ 1 = W.val den → M = W.val L3 / W.val den + W.val L3 / W.val den % 2 := fun h => by rw [hmm]; exact Nq.rne_mid h
    generalize W.val L3 / W.val den = q at *
    generalize W.val L3 % W.val den = Rr at *
    clear hmm hna' i1 m1 n1 w1 r1
    go_wp2_with fail
    with_reducible refine Calls.mono hdm ?_
    rintro e W6 ⟨a1, k1, a2, k2, rfl, b6, o1, o2⟩
    obtain ⟨_, _, ee, ar1, -, nc1, cm1, -⟩ := own_arr o1
    cases ee
    obtain ⟨_, _, ee, ar2, -, nc2, cm2, -⟩ := own_arr o2
    cases ee
    have lq : (W.toW q).length ≤ 2 := by rw [W.len_toW_le, W.pw_two]; exact Nat.lt_of_le_of_lt hqm (by decide)
    have lr : (W.toW Rr).length ≤ 4096 := by rw [← hk4]; exact W.len_toW_le.2 hmd
    clear hk4
    have hu := natUint64_any a1 (W.toW q) k1 W6 ar1 nc1 cm1 (by omega) (W.wf_toW _)
    rw [W.val_toW, if_neg (by omega)] at hu
    have hs := shifted_any a2 (W.toW Rr) k2 1 W6 ar2 nc2 cm2 (W.wf_toW _) (W.nrm_toW _) lr (by omega)
    rw [W.val_toW] at hs
    have HS := Lib.hid hs
    clear hdm o1 o2 ar1 ar2 hmd hs
    go_wp2_with fail
    with_reducible refine Calls.mono hu ?_
    rintro e w' ⟨rfl, hw⟩
    have hw := hw.symm
    subst hw
    go_wp2_with fail
    with_reducible refine Calls.mono HS.out ?_
    rintro e W7 ⟨a7, k7, z7, rfl, hz7, own7, -, -⟩
    rw [← hz7] at own7
    have b7 : Blw W6 W7 := by rw [hz7]; exact World.blw_ext _ _
    obtain ⟨_, _, ee, ar7, -, nc7, cm7, -⟩ := own_arr own7
    cases ee
    have hc := natCompare_any a7 b (W.toW (Rr * 2 ^ 1)) den k7 d W7 ar7 (i2.blw (b6.trans b7)) nc7 n2 cm7 m2 (W.wf_toW _) w2
    rw [W.val_toW] at hc
    have bw7 := bw4.trans (bw5.trans (b6.trans b7))
    have hb7 := hb4.trans (bw5.trans (b6.trans b7))
    generalize W.val den = Dz at *
    generalize Rr * 2 ^ 1 = R2 at *
    have hld := fun w0 => ldexp_any M ev w0 hm1 hevl hkp
    rw [← HKI.out] at hld
    have HLD := Lib.hid hld
    have tri : (W.cmpN R2 Dz = -1 ∧ True ∧ floatOfInt .f64 (q : Int) = Fl.flo M) ∨ (W.cmpN R2 Dz = 0 ∧ bits .and .u64 (q : Int) 1 = 0 ∧ floatOfInt .f64 (q : Int) = Fl.flo M) ∨ (W.cmpN R2 Dz = 0 ∧ bits .and .u64 (q : Int) 1 = 1 ∧ floatOfInt .f64 ((q : Int) + 1) = Fl.flo M) ∨ (W.cmpN R2 Dz = 1 ∧ True ∧ floatOfInt .f64 ((q : Int) + 1) = Fl.flo M) := by
      have hb := Fl.and_one q (by omega)
      have f0 : M = q → floatOfInt .f64 (q : Int) = Fl.flo M := fun h => by rw [h]; exact Fl.nearest_nat hqm
      have f1 : M = q + 1 → floatOfInt .f64 ((q : Int) + 1) = Fl.flo M := fun h => by rw [h]; exact Fl.nearest_nat (m := q + 1) (by omega)
      rcases Nat.lt_trichotomy R2 Dz with h | h | h
      · exact .inl ⟨W.cmpN_lt h, trivial, f0 (g1 h)⟩
      · have h3 := g3 h
        have hc0 : W.cmpN R2 Dz = 0 := by rw [h]; exact W.cmpN_eq _
        by_cases pr : q % 2 = 0
        · exact .inr (.inl ⟨hc0, by rw [hb, pr]; rfl, f0 (by omega)⟩)
        · exact .inr (.inr (.inl ⟨hc0, by rw [hb, show q % 2 = 1 by omega]; rfl, f1 (by omega)⟩))
      · exact .inr (.inr (.inr ⟨W.cmpN_gt h, trivial, f1 (g2 h)⟩))
    clear hz7 own7 ar7 hu HS nc1 nc2 cm1 cm2 nc7 cm7 i2 n2 m2 w2 r2 z2 s0 c0 c1 c2 bw4 hb4 bw5 b6 b7 q1 g1 g2 g3 hld
    rcases tri with ⟨tc, tb, tf⟩ | ⟨tc, tb, tf⟩ | ⟨tc, tb, tf⟩ | ⟨tc, tb, tf⟩
    all_goals
      rw [tc] at hc
      have HC := Lib.hid hc
      clear hc tc
      go_wp2_with fail
      with_reducible refine Calls.mono HC.out ?_
      rintro e W8 ⟨rfl, z8, hz8⟩
      have bw8 := bw7.trans (show Blw W7 W8 by rw [hz8]; exact World.blw_ext _ _)
      have hb8 := hb7.trans (show Blw W7 W8 by rw [hz8]; exact World.blw_ext _ _)
      clear hz8 HC bw7 hb7
      go_wp2_with fail
      first | rw [tf] | skip
      with_reducible refine Calls.mono (HLD.out _) ?_
      rintro e W9 ⟨rfl, z9, hz9⟩
      have bw9 := bw8.trans (show Blw W8 W9 by rw [hz9]; exact World.blw_ext _ _)
      have hb9 := hb8.trans (show Blw W8 W9 by rw [hz9]; exact World.blw_ext _ _)
      clear hz9 HLD bw8 hb8 HKI hm1 hkp tf
      obtain ⟨s0, c0, c1, c2⟩ := box3 bw9
      generalize Fl.rung M ev = Q at *
      have his := isInf_any Q W9 (by have := Fl.infR_lt; omega)
      rw [sz_inf hnrl] at his
      have HQ := HNQ.out
      by_cases qi : Q = Fl.infR
      · rw [decide_eq_true qi] at his
        rw [if_pos qi] at HQ
        subst HQ
        subst qi
        go_wp2_with fail
        with_reducible refine Calls.mono his ?_
        rintro e w' ⟨rfl, hw⟩
        have hw := hw.symm
        subst hw
        go_wp2
        go_ret2
        exact ⟨rfl, Blw.is hb9⟩
      · rw [decide_eq_false qi] at his
        rw [if_neg qi] at HQ
        have HQ := Lib.hid HQ
        go_wp2_with fail
        with_reducible refine Calls.mono his ?_
        rintro e w' ⟨rfl, hw⟩
        have hw := hw.symm
        subst hw
        have o0 : FloatKind.f64.format.order Q 0 = some (compare Q 0) := order_szs hnrl (Nat.zero_le _)
        by_cases qz : Q = 0
        · subst qz
          rw [Nat.compare_eq_eq.2 rfl] at o0
          have HQ2 := HQ.out
          rw [if_neg (by simp)] at HQ2
          subst HQ2
          cases sg
          all_goals
            go_wp2
            go_ret2
            exact ⟨rfl, Blw.is hb9⟩
        · rw [Nat.compare_eq_gt.2 (Nat.pos_of_ne_zero qz)] at o0
          have HQ2 := HQ.out
          cases sg
          · rw [if_neg (by simp)] at HQ2
            subst HQ2
            go_wp2
            go_ret2
            exact ⟨rfl, Blw.is hb9⟩
          · rw [if_pos ⟨rfl, qz⟩] at HQ2
            subst HQ2
            go_wp2
            go_ret2
            exact ⟨rfl, Blw.is hb9⟩
  focus
    have hna' : a = none → num.length = 0 ∧ c = 0 := by first | exact hF.na | exact hna
    have i1 : Arr W5 a (u32s num) := by first | exact ar3 | exact hF.an.blw (hb4.trans bw5)
    have i2 : Arr W5 a3 (u32s L3) := by first | exact ar3 | exact hF.ad.blw (hb4.trans bw5)
    have n1 : num.length ≤ c := by first | exact hnc | exact hF.cn
    have n2 : L3.length ≤ c3 := by first | exact hnc | exact hF.dn
    have m1 : c ≤ 9223372036854775807 := by first | exact hcm3 | exact hF.cm
    have m2 : c3 ≤ 9223372036854775807 := by first | exact hcm3 | exact hF.dm
    have w1 : W.WF num := by first | exact wL | exact hF.wn
    have w2 : W.WF L3 := by first | exact wL | exact hF.wd
    have r1 : W.Nrm num := by first | exact rL | exact ok.nn
    have r2 : W.Nrm L3 := by first | exact rL | exact ok.nd
    have z2 : 0 < L3.length := by first | exact okd0 | exact zL DDne
    have hdm := natDivMod_any a a3 num L3 c c3 W5 i1 i2 n1 n2 m1 m2 hna' w1 w2 r1 r2 (by omega) z2 (by omega)
    obtain ⟨k4, hk4⟩ : ∃ k, k = 4096 := ⟨_, rfl⟩
    have hmd : W.val num % W.val L3 < W.pw k4 := Nat.lt_of_lt_of_le (Nat.mod_lt _ (by have := val_ne r2 (by omega); omega)) (Nat.le_trans (Nat.le_of_lt (W.val_lt w2)) (Nat.pow_le_pow_right (by decide) (by omega)))
    have hqm : W.val num / W.val L3 ≤ 2 ^ 53 := Nat.le_trans (Nq.div_le_rne _ _) (by rw [← hmm]; exact hm1)
    have g1 : W.val num % W.val L3 * 2 ^ 1 < W.val L3 → M = W.val num / W.val L3 := fun h => by rw [hmm]; exact Nq.rne_lt h
    have g2 : W.val L3 < W.val num % W.val L3 * 2 ^ 1 → M = W.val num / W.val L3 + 1 := fun h => by rw [hmm]; exact Nq.rne_gt h
    have g3 : W.val num % W.val L3 * 2 ^ 1 = W.val L3 → M = W.val num / W.val L3 + W.val num / W.val L3 % 2 := fun h => by rw [hmm]; exact Nq.rne_mid h
    generalize W.val num / W.val L3 = q at *
    generalize W.val num % W.val L3 = Rr at *
    clear hmm hna' i1 m1 n1 w1 r1
    go_wp2_with fail
    with_reducible refine Calls.mono hdm ?_
    rintro e W6 ⟨a1, k1, a2, k2, rfl, b6, o1, o2⟩
    obtain ⟨_, _, ee, ar1, -, nc1, cm1, -⟩ := own_arr o1
    cases ee
    obtain ⟨_, _, ee, ar2, -, nc2, cm2, -⟩ := own_arr o2
    cases ee
    have lq : (W.toW q).length ≤ 2 := by rw [W.len_toW_le, W.pw_two]; exact Nat.lt_of_le_of_lt hqm (by decide)
    have lr : (W.toW Rr).length ≤ 4096 := by rw [← hk4]; exact W.len_toW_le.2 hmd
    clear hk4
    have hu := natUint64_any a1 (W.toW q) k1 W6 ar1 nc1 cm1 (by omega) (W.wf_toW _)
    rw [W.val_toW, if_neg (by omega)] at hu
    have hs := shifted_any a2 (W.toW Rr) k2 1 W6 ar2 nc2 cm2 (W.wf_toW _) (W.nrm_toW _) lr (by omega)
    rw [W.val_toW] at hs
    have HS := Lib.hid hs
    clear hdm o1 o2 ar1 ar2 hmd hs
    go_wp2_with fail
    with_reducible refine Calls.mono hu ?_
    rintro e w' ⟨rfl, hw⟩
    have hw := hw.symm
    subst hw
    go_wp2_with fail
    with_reducible refine Calls.mono HS.out ?_
    rintro e W7 ⟨a7, k7, z7, rfl, hz7, own7, -, -⟩
    rw [← hz7] at own7
    have b7 : Blw W6 W7 := by rw [hz7]; exact World.blw_ext _ _
    obtain ⟨_, _, ee, ar7, -, nc7, cm7, -⟩ := own_arr own7
    cases ee
    have hc := natCompare_any a7 a3 (W.toW (Rr * 2 ^ 1)) L3 k7 c3 W7 ar7 (i2.blw (b6.trans b7)) nc7 n2 cm7 m2 (W.wf_toW _) w2
    rw [W.val_toW] at hc
    have bw7 := bw4.trans (bw5.trans (b6.trans b7))
    have hb7 := hb4.trans (bw5.trans (b6.trans b7))
    generalize W.val L3 = Dz at *
    generalize Rr * 2 ^ 1 = R2 at *
    have hld := fun w0 => ldexp_any M ev w0 hm1 hevl hkp
    rw [← HKI.out] at hld
    have HLD := Lib.hid hld
    have tri : (W.cmpN R2 Dz = -1 ∧ True ∧ floatOfInt .f64 (q : Int) = Fl.flo M) ∨ (W.cmpN R2 Dz = 0 ∧ bits .and .u64 (q : Int) 1 = 0 ∧ floatOfInt .f64 (q : Int) = Fl.flo M) ∨ (W.cmpN R2 Dz = 0 ∧ bits .and .u64 (q : Int) 1 = 1 ∧ floatOfInt .f64 ((q : Int) + 1) = Fl.flo M) ∨ (W.cmpN R2 Dz = 1 ∧ True ∧ floatOfInt .f64 ((q : Int) + 1) = Fl.flo M) := by
      have hb := Fl.and_one q (by omega)
      have f0 : M = q → floatOfInt .f64 (q : Int) = Fl.flo M := fun h => by rw [h]; exact Fl.nearest_nat hqm
      have f1 : M = q + 1 → floatOfInt .f64 ((q : Int) + 1) = Fl.flo M := fun h => by rw [h]; exact Fl.nearest_nat (m := q + 1) (by omega)
      rcases Nat.lt_trichotomy R2 Dz with h | h | h
      · exact .inl ⟨W.cmpN_lt h, trivial, f0 (g1 h)⟩
      · have h3 := g3 h
        have hc0 : W.cmpN R2 Dz = 0 := by rw [h]; exact W.cmpN_eq _
        by_cases pr : q % 2 = 0
        · exact .inr (.inl ⟨hc0, by rw [hb, pr]; rfl, f0 (by omega)⟩)
        · exact .inr (.inr (.inl ⟨hc0, by rw [hb, show q % 2 = 1 by omega]; rfl, f1 (by omega)⟩))
      · exact .inr (.inr (.inr ⟨W.cmpN_gt h, trivial, f1 (g2 h)⟩))
    clear hz7 own7 ar7 hu HS nc1 nc2 cm1 cm2 nc7 cm7 i2 n2 m2 w2 r2 z2 s0 c0 c1 c2 bw4 hb4 bw5 b6 b7 q1 g1 g2 g3 hld
    rcases tri with ⟨tc, tb, tf⟩ | ⟨tc, tb, tf⟩ | ⟨tc, tb, tf⟩ | ⟨tc, tb, tf⟩
    all_goals
      rw [tc] at hc
      have HC := Lib.hid hc
      clear hc tc
      go_wp2_with fail
      with_reducible refine Calls.mono HC.out ?_
      rintro e W8 ⟨rfl, z8, hz8⟩
      have bw8 := bw7.trans (show Blw W7 W8 by rw [hz8]; exact World.blw_ext _ _)
      have hb8 := hb7.trans (show Blw W7 W8 by rw [hz8]; exact World.blw_ext _ _)
      clear hz8 HC bw7 hb7
      go_wp2_with fail
      first | rw [tf] | skip
      with_reducible refine Calls.mono (HLD.out _) ?_
      rintro e W9 ⟨rfl, z9, hz9⟩
      have bw9 := bw8.trans (show Blw W8 W9 by rw [hz9]; exact World.blw_ext _ _)
      have hb9 := hb8.trans (show Blw W8 W9 by rw [hz9]; exact World.blw_ext _ _)
      clear hz9 HLD bw8 hb8 HKI hm1 hkp tf
      obtain ⟨s0, c0, c1, c2⟩ := box3 bw9
      generalize Fl.rung M ev = Q at *
      have his := isInf_any Q W9 (by have := Fl.infR_lt; omega)
      rw [sz_inf hnrl] at his
      have HQ := HNQ.out
      by_cases qi : Q = Fl.infR
      · rw [decide_eq_true qi] at his
        rw [if_pos qi] at HQ
        subst HQ
        subst qi
        go_wp2_with fail
        with_reducible refine Calls.mono his ?_
        rintro e w' ⟨rfl, hw⟩
        have hw := hw.symm
        subst hw
        go_wp2
        go_ret2
        exact ⟨rfl, Blw.is hb9⟩
      · rw [decide_eq_false qi] at his
        rw [if_neg qi] at HQ
        have HQ := Lib.hid HQ
        go_wp2_with fail
        with_reducible refine Calls.mono his ?_
        rintro e w' ⟨rfl, hw⟩
        have hw := hw.symm
        subst hw
        have o0 : FloatKind.f64.format.order Q 0 = some (compare Q 0) := order_szs hnrl (Nat.zero_le _)
        by_cases qz : Q = 0
        · subst qz
          rw [Nat.compare_eq_eq.2 rfl] at o0
          have HQ2 := HQ.out
          rw [if_neg (by simp)] at HQ2
          subst HQ2
          cases sg
          all_goals
            go_wp2
            go_ret2
            exact ⟨rfl, Blw.is hb9⟩
        · rw [Nat.compare_eq_gt.2 (Nat.pos_of_ne_zero qz)] at o0
          have HQ2 := HQ.out
          cases sg
          · rw [if_neg (by simp)] at HQ2
            subst HQ2
            go_wp2
            go_ret2
            exact ⟨rfl, Blw.is hb9⟩
          · rw [if_pos ⟨rfl, qz⟩] at HQ2
            subst HQ2
            go_wp2
            go_ret2
            exact ⟨rfl, Blw.is hb9⟩
end Go.Proofs.Ytmeccjlopmjneaa
/- Fractions copied and negated, walked. -/
namespace Go.Proofs.Ytmeccjlopmjneaa
open Go.RowKit

/-- A fraction of the call's own. -/
def RetFr1 (w : World) (r : Fr) (e : Ending) (w' : World) : Prop :=
  ∃ (a : Option Addr) (c : Nat) (b : Option Addr) (d : Nat), e = .returned (frV r a c b d) ∧ Blw w w' ∧ w'.ownsRow w.heap.size 44 1 (.slice a r.num.length c) r.num.length (u32s r.num) ∧ w'.ownsRow w.heap.size 44 1 (.slice b r.den.length d) r.den.length (u32s r.den)

set_option maxRecDepth 100000 in
set_option maxHeartbeats 4000000 in
theorem ratioCopied_any (r : Fr) (a : Option Addr) (c : Nat) (b : Option Addr) (d : Nat) (w : World) (h : FrA w r a c b d) (hr : r.Ok) :
    Calls Try.prog 144 #[frV r a c b d] w (RetFr1 w r) := by
  obtain ⟨S, hS⟩ : ∃ S : World → Prop, S = fun W => w.heap.size + 1 < W.heap.size ∧ Blw w W ∧ W.cell? ⟨w.heap.size, 0, none⟩ = some (.bool r.neg) ∧ W.cell? ⟨w.heap.size, 1, none⟩ = some (.slice a r.num.length c) ∧ W.cell? ⟨w.heap.size, 2, none⟩ = some (.slice b r.den.length d) := ⟨_, rfl⟩
  have KS : ∀ W W' : World, S W → Blw W W' → S W' := by
    subst hS
    rintro W W' ⟨h1, h2, h3, h4, h5⟩ hb
    exact ⟨Nat.lt_of_lt_of_le h1 hb.size, h2.trans hb, (Below.cell hb (by show w.heap.size < _; omega)).trans h3, (Below.cell hb (by show w.heap.size < _; omega)).trans h4, (Below.cell hb (by show w.heap.size < _; omega)).trans h5⟩
  have KR : ∀ W W' : World, W.heap[w.heap.size + 1]? = some (.cells #[.bool false, .slice none 0 0, .slice none 0 0] 34 (0, 0)) → Blw W W' → W'.heap[w.heap.size + 1]? = some (.cells #[.bool false, .slice none 0 0, .slice none 0 0] 34 (0, 0)) :=
    fun W W' hF hb => (KeptO.of_blw (O := fun _ => False) hb).heap hF id
  have RR : ∀ W : World, W.heap[w.heap.size + 1]? = some (.cells #[.bool false, .slice none 0 0, .slice none 0 0] 34 (0, 0)) → (∀ i, W.frozen? ⟨w.heap.size + 1, i, none⟩ = false) ∧ W.cell? ⟨w.heap.size + 1, 0, none⟩ = some (.bool false) ∧ W.cell? ⟨w.heap.size + 1, 1, none⟩ = some (.slice none 0 0) ∧ W.cell? ⟨w.heap.size + 1, 2, none⟩ = some (.slice none 0 0) :=
    fun W hF => ⟨fun i => frozen_of_row W _ i _ _ hF, (cell_of_row W _ 0 _ _ _ hF).trans rfl, (cell_of_row W _ 1 _ _ _ hF).trans rfl, (cell_of_row W _ 2 _ _ _ hF).trans rfl⟩
  have SB : ∀ W : World, S W → Blw w W := by
    subst hS
    rintro W ⟨h1, h2, -⟩; exact h2
  have T1 := fun (W : World) (hb : S W) => natTrim_any a r.num c W (h.an.blw (SB W hb)) (fun e => (h.na e).2) h.cn h.cm (by have := hr.ln; omega) h.wn
  have T2 := fun (W : World) (hb : S W) => natTrim_any b r.den d W (h.ad.blw (SB W hb)) (fun e => (h.nb e).2) h.dn h.dm (by have := hr.ld; omega) h.wd
  rw [W.toW_val h.wn hr.nn] at T1
  rw [W.toW_val h.wd hr.nd] at T2
  have HT1 := Lib.hid T1
  have HT2 := Lib.hid T2
  have HKS := Lib.hid KS
  have HSB := Lib.hid SB
  have HKR := Lib.hid KR
  have HRR := Lib.hid RR
  obtain ⟨rn, rnum, rden⟩ := r
  simp only at hS HT1 HT2
  clear T1 T2 KS KR RR SB h hr
  go_enter Try.func144, Try.ntmps144
  go_wp2_with fail
  have hS0 : S ((w.alloc (.cells #[.bool rn, .slice a rnum.length c, .slice b rden.length d] 34 (0, 0))).alloc (.cells #[.bool false, .slice none 0 0, .slice none 0 0] 34 (0, 0))).drew := by
    rw [hS]
    exact ⟨by simp, (by repeat (first | exact Blw.refl _ | apply Blw.ext | apply Blw.alloc | apply Blw.drewN | apply Blw.drew | refine Blw.setCell ?_ _ _ (by simp))), by go_simp, by go_simp, by go_simp⟩
  have hR0 : ((w.alloc (.cells #[.bool rn, .slice a rnum.length c, .slice b rden.length d] 34 (0, 0))).alloc (.cells #[.bool false, .slice none 0 0, .slice none 0 0] 34 (0, 0))).drew.heap[w.heap.size + 1]? = some (.cells #[.bool false, .slice none 0 0, .slice none 0 0] 34 (0, 0)) := by
    have := heap_alloc_new (w.alloc (.cells #[.bool rn, .slice a rnum.length c, .slice b rden.length d] 34 (0, 0))) (.cells #[.bool false, .slice none 0 0, .slice none 0 0] 34 (0, 0))
    rw [show (w.alloc (.cells #[.bool rn, .slice a rnum.length c, .slice b rden.length d] 34 (0, 0))).heap.size = w.heap.size + 1 by simp] at this
    exact this
  have hsz : w.heap.size + 2 ≤ ((w.alloc (.cells #[.bool rn, .slice a rnum.length c, .slice b rden.length d] 34 (0, 0))).alloc (.cells #[.bool false, .slice none 0 0, .slice none 0 0] 34 (0, 0))).drew.heap.size := by simp
  subst hS
  go_region_held3 (fun W => w.heap.size + 1 < W.heap.size ∧ Blw w W ∧ W.cell? ⟨w.heap.size, 0, none⟩ = some (.bool rn) ∧ W.cell? ⟨w.heap.size, 1, none⟩ = some (.slice a rnum.length c) ∧ W.cell? ⟨w.heap.size, 2, none⟩ = some (.slice b rden.length d)) (first | assumption | (refine ⟨?_, blw_three (HSB.out _ (by assumption)) (Nat.le_succ _) _ _ _, ?_, ?_, ?_⟩ <;> go_keep) | go_keep) (first
    | (go_at_call 164; (with_reducible refine Calls.mono (HT1.out _ (by assumption)) ?_); rintro e w9 ⟨p1, q1, y1, rfl, rfl, o1, -, -⟩; have hS1 := HKS.out _ _ (by assumption) (World.blw_ext _ y1); have hR1 := HKR.out _ _ (by assumption) (World.blw_ext _ y1); have hRR := HRR.out _ hR1)
    | (go_at_call 164; (with_reducible refine Calls.mono (HT2.out _ (by assumption)) ?_); rintro e w9 ⟨p2, q2, y2, rfl, rfl, o2, -, -⟩; have hS2 := HKS.out _ _ (by assumption) (World.blw_ext _ y2); have hR2 := HKR.out _ _ (by assumption) (World.blw_ext _ y2); have hRR2 := HRR.out _ hR2))


  · clear HT1 HT2 HKS HKR HRR hS0 hR0 hS1 hS2 hRR hRR2
    obtain ⟨hfz, e0, e1, e2, r0, r1, r2⟩ := three hR2 (.bool rn) (.slice p1 rnum.length q1) (.slice p2 rden.length q2)
    have oF := ownsRow_mono (ownsRow_blw o1 (World.blw_ext _ y2)) hsz
    have oS := ownsRow_mono o2 (Nat.le_trans hsz (World.le_ext _ y1))
    go_wp2_with fail
    refine bodyPost_ret (v := .agg #[.bool rn, .slice p1 rnum.length q1, .slice p2 rden.length q2]) (by simp [results, Try.results144, go_sem, r0, r1, r2]) rfl ?_
    exact ⟨p1, q1, p2, q2, rfl, blw_three (by repeat (first | exact Blw.refl _ | apply Blw.ext | apply Blw.alloc | apply Blw.drewN | apply Blw.drew | refine Blw.setCell ?_ _ _ (by simp))) (Nat.le_succ _) _ _ _, own_three oF (Nat.lt_succ_self _) _ _ _ |> (ownsRow_mono · (by omega)), own_three oS (Nat.lt_succ_self _) _ _ _ |> (ownsRow_mono · (by omega))⟩

def negF (r : Fr) : Fr := ⟨!r.neg && decide (0 < r.num.length), r.num, r.den⟩
theorem negF_ok {r : Fr} (h : r.Ok) : (negF r).Ok :=
  ⟨h.ln, h.ld, h.nn, h.nd, h.d0, (fun k => by show (!r.neg && decide (0 < r.num.length)) = false; have k : r.num.length = 0 := k; rw [k]; simp), h.g⟩

set_option maxHeartbeats 1000000 in
theorem ratioTurned_any (r : Fr) (a : Option Addr) (c : Nat) (b : Option Addr) (d : Nat) (w : World) :
    Calls Try.prog 143 #[frV r a c b d] w fun e w' => e = .returned (frV (negF r) a c b d) ∧ ∃ x, w' = w.ext x := by
  obtain ⟨neg, num, den⟩ := r
  have hB0 : ((w.alloc (.cells #[.bool neg, .slice a num.length c, .slice b den.length d] 34 (0, 0))).alloc (.cells #[.bool false, .slice none 0 0, .slice none 0 0] 34 (0, 0))).heap[w.heap.size]? = some (.cells #[.bool neg, .slice a num.length c, .slice b den.length d] 34 (0, 0)) := at_alloc _ (heap_alloc_new _ _)
  have hR0 : ((w.alloc (.cells #[.bool neg, .slice a num.length c, .slice b den.length d] 34 (0, 0))).alloc (.cells #[.bool false, .slice none 0 0, .slice none 0 0] 34 (0, 0))).heap[w.heap.size + 1]? = some (.cells #[.bool false, .slice none 0 0, .slice none 0 0] 34 (0, 0)) := by
    have := heap_alloc_new (w.alloc (.cells #[.bool neg, .slice a num.length c, .slice b den.length d] 34 (0, 0))) (.cells #[.bool false, .slice none 0 0, .slice none 0 0] 34 (0, 0))
    rw [show (w.alloc (.cells #[.bool neg, .slice a num.length c, .slice b den.length d] 34 (0, 0))).heap.size = w.heap.size + 1 by simp] at this
    exact this
  cases neg
  · have hR1 := at_far (b := w.heap.size) (i := 0) (.bool (decide (0 < num.length))) (by omega) hR0
    obtain ⟨hfz, e0, e1, e2, r0, r1, r2⟩ := three hR1 (.bool (decide (0 < num.length))) (.slice a num.length c) (.slice b den.length d)
    have hb : Blw w ((w.alloc (.cells #[.bool false, .slice a num.length c, .slice b den.length d] 34 (0, 0))).alloc (.cells #[.bool false, .slice none 0 0, .slice none 0 0] 34 (0, 0))) := (by repeat (first | exact Blw.refl _ | apply Blw.ext | apply Blw.alloc | apply Blw.drewN | apply Blw.drew | refine Blw.setCell ?_ _ _ (by simp)))
    clear hR1 hR0 hB0
    go_enter Try.func143, Try.ntmps143
    go_wp2_with fail
    exact bodyPost_ret (v := .agg #[.bool (decide (0 < num.length)), .slice a num.length c, .slice b den.length d]) (by simp [results, Try.results143, go_sem, r0, r1, r2]) rfl ⟨rfl, Blw.is (by repeat (first | exact Blw.refl _ | apply Blw.ext | apply Blw.alloc | apply Blw.drewN | apply Blw.drew | refine Blw.setCell ?_ _ _ (by simp)))⟩
  · have hR1 := at_far (b := w.heap.size) (i := 0) (.bool (false)) (by omega) hR0
    obtain ⟨hfz, e0, e1, e2, r0, r1, r2⟩ := three hR1 (.bool (false)) (.slice a num.length c) (.slice b den.length d)
    have hb : Blw w ((w.alloc (.cells #[.bool true, .slice a num.length c, .slice b den.length d] 34 (0, 0))).alloc (.cells #[.bool false, .slice none 0 0, .slice none 0 0] 34 (0, 0))) := (by repeat (first | exact Blw.refl _ | apply Blw.ext | apply Blw.alloc | apply Blw.drewN | apply Blw.drew | refine Blw.setCell ?_ _ _ (by simp)))
    clear hR1 hR0 hB0
    go_enter Try.func143, Try.ntmps143
    go_wp2_with fail
    exact bodyPost_ret (v := .agg #[.bool (false), .slice a num.length c, .slice b den.length d]) (by simp [results, Try.results143, go_sem, r0, r1, r2]) rfl ⟨rfl, Blw.is (by repeat (first | exact Blw.refl _ | apply Blw.ext | apply Blw.alloc | apply Blw.drewN | apply Blw.drew | refine Blw.setCell ?_ _ _ (by simp)))⟩

set_option maxRecDepth 100000 in
set_option maxHeartbeats 1000000 in
theorem ratioNeg_ok (r : Fr) (a : Option Addr) (c : Nat) (b : Option Addr) (d : Nat) (w : World) (h : FrA w r a c b d) (hr : r.Ok) :
    Calls Try.prog 97 #[frV r a c b d] w (RetFr w (negF r) 0) := by
  have K1 := Lib.hid (fun (W : World) (hb : Blw w W) => ratioCheck_any r a c b d W (h.blw hb))
  rw [chkF_ok hr] at K1
  have K2 := Lib.hid (fun (W : World) (hb : Blw w W) => ratioCopied_any r a c b d W (h.blw hb) hr)
  have hF0 : ((w.alloc (.cells #[.bool r.neg, .slice a r.num.length c, .slice b r.den.length d] 34 (0, 0))).alloc (.cells #[.bool false, .slice none 0 0, .slice none 0 0] 34 (0, 0))).heap[w.heap.size + 1]? = some (.cells #[.bool false, .slice none 0 0, .slice none 0 0] 34 (0, 0)) := by
    have := heap_alloc_new (w.alloc (.cells #[.bool r.neg, .slice a r.num.length c, .slice b r.den.length d] 34 (0, 0))) (.cells #[.bool false, .slice none 0 0, .slice none 0 0] 34 (0, 0))
    rw [show (w.alloc (.cells #[.bool r.neg, .slice a r.num.length c, .slice b r.den.length d] 34 (0, 0))).heap.size = w.heap.size + 1 by simp] at this
    exact this
  clear h hr
  go_enter Try.func97, Try.ntmps97
  go_wp2_with fail
  refine Calls.mono (K1.out _ (by repeat (first | exact Blw.refl _ | apply Blw.ext | apply Blw.alloc | apply Blw.drewN | apply Blw.drew | refine Blw.setCell ?_ _ _ (by simp)))) ?_
  rintro e w1 ⟨rfl, x1, rfl⟩
  go_wp2_with fail
  refine Calls.mono (K2.out _ (by repeat (first | exact Blw.refl _ | apply Blw.ext | apply Blw.alloc | apply Blw.drewN | apply Blw.drew | refine Blw.setCell ?_ _ _ (by simp)))) ?_
  rintro e w2 ⟨p1, q1, p2, q2, rfl, hb2, oX, oY⟩
  go_wp2_with fail
  refine Calls.mono (ratioTurned_any r p1 q1 p2 q2 _) ?_
  rintro e w3 ⟨rfl, x3, rfl⟩
  have hF3 := at_ext x3 ((KeptO.of_blw (O := fun _ => False) (((Blw.refl _).ext x1).trans hb2)).heap hF0 id)
  have hs : w.heap.size + 2 ≤ (((w.alloc (.cells #[.bool r.neg, .slice a r.num.length c, .slice b r.den.length d] 34 (0, 0))).alloc (.cells #[.bool false, .slice none 0 0, .slice none 0 0] 34 (0, 0))).ext x1).heap.size := Nat.le_trans (by simp) (World.le_ext _ x1)
  have oX3 := ownsRow_mono (ownsRow_blw oX (World.blw_ext _ x3)) hs
  have oY3 := ownsRow_mono (ownsRow_blw oY (World.blw_ext _ x3)) hs
  have hbw : Blw w (w2.ext x3) := (Blw.trans (by repeat (first | exact Blw.refl _ | apply Blw.ext | apply Blw.alloc | apply Blw.drewN | apply Blw.drew | refine Blw.setCell ?_ _ _ (by simp))) hb2).ext x3
  clear oX oY hs hb2 hF0 K1 K2
  obtain ⟨rn, rnum, rden⟩ := r
  simp only at oX3 oY3
  generalize w2.ext x3 = w4 at *
  obtain ⟨hfz, e0, e1, e2, r0, r1, r2⟩ := three hF3 (.bool (negF ⟨rn, rnum, rden⟩).neg) (.slice p1 (negF ⟨rn, rnum, rden⟩).num.length q1) (.slice p2 (negF ⟨rn, rnum, rden⟩).den.length q2)
  go_wp2_with fail
  exact bodyPost_ret (v := .tuple #[.agg #[.bool (negF ⟨rn, rnum, rden⟩).neg, .slice p1 (negF ⟨rn, rnum, rden⟩).num.length q1, .slice p2 (negF ⟨rn, rnum, rden⟩).den.length q2], .int .i64 0]) (by simp [results, Try.results97, go_sem, r0, r1, r2]) rfl ⟨p1, q1, p2, q2, rfl, blw_three hbw (Nat.le_succ _) _ _ _, own_three oX3 (Nat.lt_succ_self _) _ _ _ |> (ownsRow_mono · (by omega)), own_three oY3 (Nat.lt_succ_self _) _ _ _ |> (ownsRow_mono · (by omega))⟩

set_option maxHeartbeats 1000000 in
theorem ratioNeg_bad (r : Fr) (a : Option Addr) (c : Nat) (b : Option Addr) (d : Nat) (w : World) (h : FrA w r a c b d) (hr : ¬ chkF r = 0) :
    Calls Try.prog 97 #[frV r a c b d] w fun e w' => e = .returned (.tuple #[frV ⟨false, [], []⟩ none 0 none 0, .int .i64 (chkF r)]) ∧ ∃ x, w' = w.ext x := by
  have K1 := Lib.hid (fun (W : World) (hb : Blw w W) => ratioCheck_any r a c b d W (h.blw hb))
  have hF0 : ((w.alloc (.cells #[.bool r.neg, .slice a r.num.length c, .slice b r.den.length d] 34 (0, 0))).alloc (.cells #[.bool false, .slice none 0 0, .slice none 0 0] 34 (0, 0))).heap[w.heap.size + 1]? = some (.cells #[.bool false, .slice none 0 0, .slice none 0 0] 34 (0, 0)) := by
    have := heap_alloc_new (w.alloc (.cells #[.bool r.neg, .slice a r.num.length c, .slice b r.den.length d] 34 (0, 0))) (.cells #[.bool false, .slice none 0 0, .slice none 0 0] 34 (0, 0))
    rw [show (w.alloc (.cells #[.bool r.neg, .slice a r.num.length c, .slice b r.den.length d] 34 (0, 0))).heap.size = w.heap.size + 1 by simp] at this
    exact this
  generalize chkF r = u at *
  have q : (u != 0) = true := by simpa using hr
  clear h hr
  go_enter Try.func97, Try.ntmps97
  go_wp2_with fail
  refine Calls.mono (K1.out _ (by repeat (first | exact Blw.refl _ | apply Blw.ext | apply Blw.alloc | apply Blw.drewN | apply Blw.drew | refine Blw.setCell ?_ _ _ (by simp)))) ?_
  rintro e w1 ⟨rfl, x1, rfl⟩
  have hF3 := at_ext x1 hF0
  have hbw : Blw w (((w.alloc (.cells #[.bool r.neg, .slice a r.num.length c, .slice b r.den.length d] 34 (0, 0))).alloc (.cells #[.bool false, .slice none 0 0, .slice none 0 0] 34 (0, 0))).ext x1) := (by repeat (first | exact Blw.refl _ | apply Blw.ext | apply Blw.alloc | apply Blw.drewN | apply Blw.drew | refine Blw.setCell ?_ _ _ (by simp)))
  clear hF0 K1
  obtain ⟨hfz, e0, e1, e2, r0, r1, r2⟩ := three hF3 (.bool false) (.slice none 0 0) (.slice none 0 0)
  go_wp2_with fail
  exact bodyPost_ret (v := .tuple #[.agg #[.bool false, .slice none 0 0, .slice none 0 0], .int .i64 u]) (by simp [results, Try.results97, go_sem, r0, r1, r2]) rfl ⟨rfl, (blw_three hbw (Nat.le_succ _) _ _ _).is⟩
end Go.Proofs.Ytmeccjlopmjneaa
/- Lists of fractions, and of waters, as cells. -/
namespace Go.Proofs.Ytmeccjlopmjneaa
open Go.RowKit

theorem cells_at {α : Type} (f : α → List Value) (n : Nat) (hf : ∀ x, (f x).length = n) (l : List α) (k j : Nat) (hk : k < l.length) (hj : j < n) : (l.flatMap f)[k * n + j]? = (f l[k])[j]? := by
  induction l generalizing k with
  | nil => simp at hk
  | cons a l ih =>
    rw [List.flatMap_cons]
    cases k with
    | zero =>
      rw [Nat.zero_mul, Nat.zero_add, List.getElem?_append_left (by rw [hf]; exact hj)]
      rfl
    | succ k =>
      have h := ih k (by simpa using hk)
      rw [List.getElem?_append_right (by rw [hf, Nat.succ_mul]; omega), hf, show (k + 1) * n + j - n = k * n + j by rw [Nat.succ_mul]; omega, h]
      rfl
theorem cells_len {α : Type} (f : α → List Value) (n : Nat) (hf : ∀ x, (f x).length = n) (l : List α) : (l.flatMap f).length = l.length * n := by
  induction l with
  | nil => simp
  | cons a l ih => rw [List.flatMap_cons, List.length_append, ih, hf, List.length_cons, Nat.succ_mul]; omega
/-- The cells of the element at a place. -/
theorem cells_arr {α : Type} (f : α → List Value) (n : Nat) (hf : ∀ x, (f x).length = n) (hn : 0 < n) {w : World} {A : Option Addr} {l : List α} (h : Arr w A (l.flatMap f)) {k : Nat} (hk : k < l.length) :
    ∃ (x : α) (b o : Nat), l[k]? = some x ∧ x ∈ l ∧ A = some ⟨b, o, none⟩ ∧ b < w.heap.size ∧ ∀ j, j < n → w.cell? ⟨b, o + k * n + j, none⟩ = (f x)[j]? := by
  have hl := cells_len f n hf l
  rcases h with h | ⟨b, o, e, hb, hc⟩
  · exfalso
    rw [h] at hl
    have := Nat.mul_pos (Nat.lt_of_le_of_lt (Nat.zero_le k) hk) hn
    simp at hl
    omega
  · refine ⟨l[k], b, o, List.getElem?_eq_getElem hk, List.getElem_mem hk, e, hb, fun j hj => ?_⟩
    have h2 : k * n + j < l.length * n := by
      have := Nat.mul_le_mul_right n (show k + 1 ≤ l.length from hk)
      rw [Nat.succ_mul] at this
      omega
    rw [Nat.add_assoc, hc _ (by rw [hl]; exact h2), cells_at f n hf l k j hk hj]

/-- A fraction in a list: its words and where they lie. -/
structure FL where
  r : Fr
  a : Option Addr
  c : Nat
  b : Option Addr
  d : Nat
def FL.cells (x : FL) : List Value := [.bool x.r.neg, .slice x.a x.r.num.length x.c, .slice x.b x.r.den.length x.d]
abbrev fls (l : List FL) : List Value := l.flatMap FL.cells
def FL.In (w : World) (x : FL) : Prop := FrA w x.r x.a x.c x.b x.d
theorem FL.In.blw {w w' : World} {x : FL} (h : FL.In w x) (k : Blw w w') : FL.In w' x := FrA.blw h k
theorem fl_at {w : World} {A : Option Addr} {l : List FL} (h : Arr w A (fls l)) {k : Nat} (hk : k < l.length) :
    ∃ (x : FL) (b o : Nat), l[k]? = some x ∧ x ∈ l ∧ A = some ⟨b, o, none⟩ ∧ b < w.heap.size ∧ w.cell? ⟨b, o + k * 3, none⟩ = some (.bool x.r.neg) ∧ w.cell? ⟨b, o + k * 3 + 1, none⟩ = some (.slice x.a x.r.num.length x.c) ∧ w.cell? ⟨b, o + k * 3 + 2, none⟩ = some (.slice x.b x.r.den.length x.d) := by
  obtain ⟨x, b, o, h1, h2, h3, h4, h5⟩ := cells_arr FL.cells 3 (fun _ => rfl) (by decide) h hk
  exact ⟨x, b, o, h1, h2, h3, h4, h5 0 (by decide), h5 1 (by decide), h5 2 (by decide)⟩

/-- A water in a list. -/
structure WL where
  tick : Int
  last : Int
  top : Bool
  h : FL
def WL.cells (x : WL) : List Value := [.int .i64 x.tick, .int .i64 x.last, .bool x.top, .bool x.h.r.neg, .slice x.h.a x.h.r.num.length x.h.c, .slice x.h.b x.h.r.den.length x.h.d]
abbrev wls (l : List WL) : List Value := l.flatMap WL.cells
theorem wl_at {w : World} {A : Option Addr} {l : List WL} (h : Arr w A (wls l)) {k : Nat} (hk : k < l.length) :
    ∃ (x : WL) (b o : Nat), l[k]? = some x ∧ x ∈ l ∧ A = some ⟨b, o, none⟩ ∧ b < w.heap.size ∧ w.cell? ⟨b, o + k * 6, none⟩ = some (.int .i64 x.tick) ∧ w.cell? ⟨b, o + k * 6 + 1, none⟩ = some (.int .i64 x.last) ∧ w.cell? ⟨b, o + k * 6 + 2, none⟩ = some (.bool x.top) ∧
      w.cell? ⟨b, o + k * 6 + 3, none⟩ = some (.bool x.h.r.neg) ∧ w.cell? ⟨b, o + k * 6 + 4, none⟩ = some (.slice x.h.a x.h.r.num.length x.h.c) ∧ w.cell? ⟨b, o + k * 6 + 5, none⟩ = some (.slice x.h.b x.h.r.den.length x.h.d) := by
  obtain ⟨x, b, o, h1, h2, h3, h4, h5⟩ := cells_arr WL.cells 6 (fun _ => rfl) (by decide) h hk
  exact ⟨x, b, o, h1, h2, h3, h4, h5 0 (by decide), h5 1 (by decide), h5 2 (by decide), h5 3 (by decide), h5 4 (by decide), h5 5 (by decide)⟩
def WL.key (x : WL) : Int × Int × Bool × Fr := (x.tick, x.last, x.top, x.h.r)
end Go.Proofs.Ytmeccjlopmjneaa
/- The waters of a list, in plain Lean: of the signs of its steps. -/
namespace Go.Proofs.Ytmeccjlopmjneaa

/-- The first step from k on that is none of 0. -/
def nextS (f : Nat → Int) (n k : Nat) : Option Nat := if k < n then (if f k = 0 then nextS f n (k + 1) else some k) else none
termination_by n - k

theorem nextS_out {f : Nat → Int} {n k : Nat} (h : ¬ k < n) : nextS f n k = none := by rw [nextS, if_neg h]
theorem nextS_on {f : Nat → Int} {n k : Nat} (h : k < n) (h0 : f k = 0) : nextS f n k = nextS f n (k + 1) := by rw [nextS, if_pos h, if_pos h0]
theorem nextS_at {f : Nat → Int} {n k : Nat} (h : k < n) (h0 : ¬ f k = 0) : nextS f n k = some k := by rw [nextS, if_pos h, if_neg h0]

/-- The water that begins at a place. -/
def wat (f : Nat → Int) (n i : Nat) : Option (Nat × Nat × Bool) :=
  if i = 0 ∨ f i = 0 then none else
  match nextS f n (i + 1) with
  | none => none
  | some k => if f k = f i then none else some (i, k - 1, f i == 1)
def wats (f : Nat → Int) (n i : Nat) : List (Nat × Nat × Bool) := (List.range i).filterMap (wat f n)

theorem wats_one (f : Nat → Int) (n : Nat) : wats f n 1 = [] := by simp [wats, wat]
theorem wats_none {f : Nat → Int} {n i : Nat} (h : wat f n i = none) : wats f n (i + 1) = wats f n i := by
  unfold wats; rw [List.range_succ, List.filterMap_append]; simp [h]
theorem wats_some {f : Nat → Int} {n i : Nat} {x : Nat × Nat × Bool} (h : wat f n i = some x) : wats f n (i + 1) = wats f n i ++ [x] := by
  unfold wats; rw [List.range_succ, List.filterMap_append]; simp [h]
theorem wat_zero {f : Nat → Int} {n i : Nat} (h : f i = 0) : wat f n i = none := by unfold wat; rw [if_pos (.inr h)]
theorem wat_next {f : Nat → Int} {n i : Nat} (hi : 0 < i) (h : ¬ f i = 0) : wat f n i = match nextS f n (i + 1) with | none => none | some k => if f k = f i then none else some (i, k - 1, f i == 1) := by
  unfold wat; rw [if_neg (by omega)]
theorem wat_out {f : Nat → Int} {n i : Nat} (hi : 0 < i) (h : ¬ f i = 0) (k : nextS f n (i + 1) = none) : wat f n i = none := by rw [wat_next hi h, k]
theorem wat_same {f : Nat → Int} {n i j : Nat} (hi : 0 < i) (h : ¬ f i = 0) (k : nextS f n (i + 1) = some j) (e : f j = f i) : wat f n i = none := by rw [wat_next hi h, k]; exact if_pos e
theorem wat_turn {f : Nat → Int} {n i j : Nat} (hi : 0 < i) (h : ¬ f i = 0) (k : nextS f n (i + 1) = some j) (e : ¬ f j = f i) : wat f n i = some (i, j - 1, f i == 1) := by rw [wat_next hi h, k]; exact if_neg e
end Go.Proofs.Ytmeccjlopmjneaa
/- The waters of a list that is negated, and of one that is turned round: plain Lean. -/
namespace Go.Proofs.Ytmeccjlopmjneaa

/-- Each with the one behind. -/
def cons2 {α : Type} : List α → List (α × α)
  | a :: b :: r => (a, b) :: cons2 (b :: r)
  | _ => []
theorem cons2_snoc {α : Type} (l : List α) (a b : α) : cons2 (l ++ [a, b]) = cons2 (l ++ [a]) ++ [(a, b)] := by
  induction l with
  | nil => rfl
  | cons x t ih =>
    cases t with
    | nil => rfl
    | cons y t => simp only [List.cons_append, cons2] at ih ⊢; rw [ih]
theorem cons2_reverse {α : Type} (l : List α) : cons2 l.reverse = ((cons2 l).map fun p => (p.2, p.1)).reverse := by
  induction l with
  | nil => rfl
  | cons a t ih =>
    cases t with
    | nil => rfl
    | cons b r =>
      have e : (a :: b :: r).reverse = r.reverse ++ [b, a] := by simp
      rw [e, cons2_snoc, show r.reverse ++ [b] = (b :: r).reverse by simp, ih]
      simp [cons2]
theorem cons2_map {α β : Type} (h : α → β) (l : List α) : cons2 (l.map h) = (cons2 l).map fun p => (h p.1, h p.2) := by
  induction l with
  | nil => rfl
  | cons a t ih =>
    cases t with
    | nil => rfl
    | cons b r => simp only [List.map_cons, cons2] at ih ⊢; rw [ih]
theorem cons2_mem {α : Type} (l : List α) : ∀ p ∈ cons2 l, p.1 ∈ l ∧ p.2 ∈ l := by
  induction l with
  | nil => intro p h; cases h
  | cons a t ih =>
    cases t with
    | nil => intro p h; cases h
    | cons b r =>
      intro p h
      simp only [cons2, List.mem_cons] at h
      rcases h with rfl | h
      · simp
      · have := ih p (by simpa [cons2] using h)
        exact ⟨List.mem_cons_of_mem _ this.1, List.mem_cons_of_mem _ this.2⟩

/-- The places from m on where the list goes up or down. -/
def plc (f : Nat → Int) (n m : Nat) : List Nat := (List.range' m (n - m)).filter fun i => f i != 0
def wat2 (f : Nat → Int) (p : Nat × Nat) : Option (Nat × Nat × Bool) := if f p.2 = f p.1 then none else some (p.1, p.2 - 1, f p.1 == 1)

theorem range_step {n m : Nat} (h : m < n) : List.range' m (n - m) = m :: List.range' (m + 1) (n - (m + 1)) := by
  obtain ⟨d, hd⟩ : ∃ d, n - m = d + 1 := ⟨n - m - 1, by omega⟩
  rw [hd, show n - (m + 1) = d by omega]
  rfl
theorem plc_on {f : Nat → Int} {n m : Nat} (h : m < n) (h0 : f m = 0) : plc f n m = plc f n (m + 1) := by
  unfold plc; rw [range_step h, List.filter_cons, if_neg (by simp [h0])]
theorem plc_at {f : Nat → Int} {n m : Nat} (h : m < n) (h0 : ¬ f m = 0) : plc f n m = m :: plc f n (m + 1) := by
  unfold plc; rw [range_step h, List.filter_cons, if_pos (by simp [h0])]
theorem plc_out {f : Nat → Int} {n m : Nat} (h : ¬ m < n) : plc f n m = [] := by
  unfold plc; rw [show n - m = 0 by omega]; rfl

theorem nextS_plc (f : Nat → Int) (n : Nat) : ∀ d m, n - m = d → nextS f n m = (plc f n m).head? := by
  intro d
  induction d with
  | zero => intro m h; rw [nextS_out (by omega), plc_out (by omega)]; rfl
  | succ d ih =>
    intro m h
    by_cases h0 : f m = 0
    · rw [nextS_on (by omega) h0, plc_on (by omega) h0]; exact ih (m + 1) (by omega)
    · rw [nextS_at (by omega) h0, plc_at (by omega) h0]; rfl

theorem wats_from (f : Nat → Int) (n : Nat) : ∀ d m, n - m = d → 0 < m → (List.range' m (n - m)).filterMap (wat f n) = (cons2 (plc f n m)).filterMap (wat2 f) := by
  intro d
  induction d with
  | zero => intro m h _; rw [plc_out (by omega), h]; rfl
  | succ d ih =>
    intro m h hm
    rw [range_step (by omega), List.filterMap_cons]
    by_cases h0 : f m = 0
    · rw [wat_zero h0, plc_on (by omega) h0]; exact ih (m + 1) (by omega) (by omega)
    · have hn := nextS_plc f n d (m + 1) (by omega)
      have hi := ih (m + 1) (by omega) (by omega)
      rw [plc_at (by omega) h0]
      cases hp : plc f n (m + 1) with
      | nil =>
        rw [hp] at hn hi
        rw [wat_out hm h0 hn, hi]; rfl
      | cons k r =>
        rw [hp] at hn hi
        by_cases e : f k = f m
        · rw [wat_same hm h0 hn e, hi]
          simp [cons2, wat2, e]
        · rw [wat_turn hm h0 hn e, hi]
          simp [cons2, wat2, e]

theorem wats_plc (f : Nat → Int) (n : Nat) : wats f n n = (cons2 (plc f n 1)).filterMap (wat2 f) := by
  rw [← wats_from f n (n - 1) 1 rfl (by omega)]
  unfold wats
  cases n with
  | zero => rfl
  | succ n =>
    rw [List.range_eq_range', show n + 1 - 1 = n by omega, List.range'_succ]
    rw [List.filterMap_cons]
    have : wat f (n + 1) 0 = none := by unfold wat; rw [if_pos (.inl rfl)]
    rw [this]

theorem fm_congr {α β : Type} {l : List α} {f g : α → Option β} (h : ∀ x ∈ l, f x = g x) : l.filterMap f = l.filterMap g := by
  induction l with
  | nil => rfl
  | cons a l ih =>
    rw [List.filterMap_cons, List.filterMap_cons, h a (by simp), ih (fun x hx => h x (by simp [hx]))]
/-- Negated: the same waters, tops and bottoms changed about. -/
theorem wats_neg {f g : Nat → Int} {n : Nat} (hf : ∀ i, 0 < i → i < n → f i = -1 ∨ f i = 0 ∨ f i = 1) (hg : ∀ i, 0 < i → i < n → g i = - f i) :
    wats g n n = (wats f n n).map fun p => (p.1, p.2.1, !p.2.2) := by
  have hz : plc g n 1 = plc f n 1 := by
    unfold plc
    apply List.filter_congr
    intro i hi
    simp only [List.mem_range'_1] at hi
    have := hg i (by omega) (by omega)
    rw [this, Bool.eq_iff_iff, bne_iff_ne, bne_iff_ne]
    omega
  rw [wats_plc, wats_plc, hz, List.map_filterMap]
  apply fm_congr
  intro p hp
  obtain ⟨h1, h2⟩ := cons2_mem _ p hp
  simp only [plc, List.mem_filter, List.mem_range'_1, bne_iff_ne] at h1 h2
  have a1 := hf p.1 (by omega) (by omega)
  have a2 := hf p.2 (by omega) (by omega)
  have b1 := hg p.1 (by omega) (by omega)
  have b2 := hg p.2 (by omega) (by omega)
  unfold wat2
  rw [b1, b2]
  by_cases e : f p.2 = f p.1
  · rw [if_pos e, if_pos (by omega)]; rfl
  · rw [if_neg e, if_neg (by omega)]
    simp only [Option.map_some]
    congr 2
    rcases a1 with a | a | a
    · rw [a]; rfl
    · exact absurd a h1.2
    · rw [a]; rfl

theorem range_turn (n : Nat) : ((List.range' 1 (n - 1)).map fun i => n - i).reverse = List.range' 1 (n - 1) := by
  apply List.ext_getElem
  · simp
  · intro i h1 h2
    simp at h1 h2
    simp [List.getElem_reverse]
    omega

theorem plc_round {f g : Nat → Int} {n : Nat} (hg : ∀ i, 0 < i → i < n → g i = - f (n - i)) : plc g n 1 = ((plc f n 1).map fun i => n - i).reverse := by
  unfold plc
  rw [← range_turn n, List.filter_reverse, List.filter_map]
  congr 2
  rw [range_turn n]
  apply List.filter_congr
  intro i hi
  simp only [List.mem_range'_1] at hi
  have h := hg (n - i) (by omega) (by omega)
  rw [show n - (n - i) = i by omega] at h
  show (g (n - i) != 0) = (f i != 0)
  rw [h, Bool.eq_iff_iff, bne_iff_ne, bne_iff_ne]
  omega

/-- Turned round: the same waters, turned round. -/
theorem wats_round {f g : Nat → Int} {n : Nat} (hf : ∀ i, 0 < i → i < n → f i = -1 ∨ f i = 0 ∨ f i = 1) (hg : ∀ i, 0 < i → i < n → g i = - f (n - i)) :
    wats g n n = ((wats f n n).map fun p => (n - 1 - p.2.1, n - 1 - p.1, p.2.2)).reverse := by
  rw [wats_plc, wats_plc, plc_round hg, cons2_reverse, cons2_map, List.filterMap_reverse, List.map_map, List.filterMap_map, List.map_filterMap]
  congr 1
  apply fm_congr
  intro p hp
  obtain ⟨h1, h2⟩ := cons2_mem _ p hp
  simp only [plc, List.mem_filter, List.mem_range'_1, bne_iff_ne] at h1 h2
  have a1 := hf p.1 (by omega) (by omega)
  have a2 := hf p.2 (by omega) (by omega)
  have b1 := hg (n - p.1) (by omega) (by omega)
  have b2 := hg (n - p.2) (by omega) (by omega)
  rw [show n - (n - p.1) = p.1 by omega] at b1
  rw [show n - (n - p.2) = p.2 by omega] at b2
  show wat2 g (n - p.2, n - p.1) = _
  unfold wat2
  simp only [b1, b2]
  by_cases e : f p.2 = f p.1
  · rw [if_pos e, if_pos (by omega)]; rfl
  · rw [if_neg e, if_neg (by omega)]
    simp only [Option.map_some]
    have k1 : n - 1 - (p.2 - 1) = n - p.2 := by omega
    have k2 : n - p.1 - 1 = n - 1 - p.1 := by omega
    have k3 : (-f p.2 == 1) = (f p.1 == 1) := by
      rw [Bool.eq_iff_iff, beq_iff_eq, beq_iff_eq]
      have := h1.2
      have := h2.2
      omega
    rw [k1, k2, k3]
end Go.Proofs.Ytmeccjlopmjneaa
/- The small functions of package water: counted, from, copied, walked. -/
namespace Go.Proofs.Ytmeccjlopmjneaa
open Go.RowKit

def cntd (n : Nat) (first : Int) : Int := if 4096 < n then 3 else if first < 0 ∨ 1048576 < first ∨ (0 < n ∧ 1048576 - (n : Int) + 1 < first) then 2 else 0

set_option maxHeartbeats 1000000 in
theorem counted_any (n : Nat) (first : Int) (w : World) (hn : n ≤ 9223372036854775807) :
    Calls Try.prog 108 #[.int .i64 n, .int .i64 first] w fun e w' => e = .returned (.int .i64 (cntd n first)) ∧ w' = w := by
  have he : cntd n first = if 4096 < n then 3 else if first < 0 ∨ 1048576 < first ∨ (0 < n ∧ 1048576 - (n : Int) + 1 < first) then 2 else 0 := rfl
  have HE := Lib.hid he
  clear he
  by_cases h1 : 4096 < n
  · rw [if_pos h1] at HE
    go_enter Try.func108, Try.ntmps108
    go_wp2
    go_ret
    exact ⟨ret_i64 HE.out.symm, rfl⟩
  rw [if_neg h1] at HE
  by_cases h2 : first < 0
  · rw [if_pos (.inl h2)] at HE
    have d1 : decide (first < 0) = true := by simpa using h2
    go_enter Try.func108, Try.ntmps108
    go_wp2
    go_ret
    exact ⟨ret_i64 HE.out.symm, rfl⟩
  have d1 : decide (first < 0) = false := by simpa using h2
  by_cases h3 : 1048576 < first
  · rw [if_pos (.inr (.inl h3))] at HE
    have d2 : decide (1048576 < first) = true := by simpa using h3
    go_enter Try.func108, Try.ntmps108
    go_wp2
    go_ret
    exact ⟨ret_i64 HE.out.symm, rfl⟩
  have d2 : decide (1048576 < first) = false := by simpa using h3
  by_cases h4 : 0 < n
  · have d3 : decide (0 < n) = true := by simpa using h4
    have e1 : IntKind.i64.wrap (IntKind.i64.wrap (1048576 - (n : Int)) + 1) = 1048576 - (n : Int) + 1 := by rw [IntKind.wrap_i64, IntKind.wrap_i64]; omega
    have e2 : IntKind.i64.wrap (1048576 - (n : Int)) = 1048576 - (n : Int) := by rw [IntKind.wrap_i64]; omega
    have e3 : IntKind.i64.wrap (1048576 - (n : Int) + 1) = 1048576 - (n : Int) + 1 := by rw [IntKind.wrap_i64]; omega
    by_cases h5 : 1048576 - (n : Int) + 1 < first
    · rw [if_pos (.inr (.inr ⟨h4, h5⟩))] at HE
      have d4 : decide (1048576 - (n : Int) + 1 < first) = true := by simpa using h5
      go_enter Try.func108, Try.ntmps108
      go_wp2
      go_ret
      exact ⟨ret_i64 HE.out.symm, rfl⟩
    · rw [if_neg (by omega)] at HE
      have d4 : decide (1048576 - (n : Int) + 1 < first) = false := by simpa using h5
      go_enter Try.func108, Try.ntmps108
      go_wp2
      go_ret
      exact ⟨ret_i64 HE.out.symm, rfl⟩
  · have d3 : decide (0 < n) = false := by simpa using h4
    rw [if_neg (by omega)] at HE
    go_enter Try.func108, Try.ntmps108
    go_wp2
    go_ret
    exact ⟨ret_i64 HE.out.symm, rfl⟩

set_option maxHeartbeats 400000 in
theorem from_ok (x y : FL) (w : World) (hx : FL.In w x) (hy : FL.In w y) (ox : x.r.Ok) (oy : y.r.Ok) :
    Calls Try.prog 109 #[frV x.r x.a x.c x.b x.d, frV y.r y.a y.c y.b y.d] w fun e w' => e = .returned (.int .i64 (cmpF y.r x.r)) ∧ ∃ z, w' = w.ext z := by
  have K := Lib.hid (fun (W : World) (hb : Blw w W) => ratioCompare_ok y.r x.r y.a y.c y.b y.d x.a x.c x.b x.d W (hy.blw hb) (hx.blw hb) oy ox)
  clear hx hy ox oy
  go_enter Try.func109, Try.ntmps109
  go_wp2_with fail
  refine Calls.mono (K.out _ (by repeat (first | exact Blw.refl _ | apply Blw.ext | apply Blw.alloc | apply Blw.drewN | apply Blw.drew | refine Blw.setCell ?_ _ _ (by simp)))) ?_
  rintro e w1 ⟨rfl, x1, rfl⟩
  go_wp2
  go_ret
  exact ⟨rfl, Blw.is (by repeat (first | exact Blw.refl _ | apply Blw.ext | apply Blw.alloc | apply Blw.drewN | apply Blw.drew | refine Blw.setCell ?_ _ _ (by simp)))⟩
end Go.Proofs.Ytmeccjlopmjneaa
/- The walk of water.copied. -/
namespace Go.Proofs.Ytmeccjlopmjneaa
open Go.RowKit

theorem own_past {W1 W9 w2 : World} {B n size : Nat} {e : TypeId} {v : Value} {cs : List Value} {g : Option Nat} (h : W1.ownsRow B e size v n cs) (k : Blw W1 W9) (hg : W9.grownBy w2 g) (hne : ∀ i, v.ownBlock = some i → g ≠ some i) : w2.ownsRow B e size v n cs :=
  KeptO.own (O := fun k => g = some k) (KeptO.grown (KeptO.of_blw k) hg (fun _ hk => .inl hk)) h (fun k hk e => hne k hk e)

/-- A fraction of the call's own, its two lists apart. -/
def RetFr1D (w : World) (r : Fr) (e : Ending) (w' : World) : Prop :=
  ∃ (a : Option Addr) (c : Nat) (b : Option Addr) (d : Nat), e = .returned (frV r a c b d) ∧ Blw w w' ∧ w'.ownsRow w.heap.size 44 1 (.slice a r.num.length c) r.num.length (u32s r.num) ∧ w'.ownsRow w.heap.size 44 1 (.slice b r.den.length d) r.den.length (u32s r.den) ∧
    ∀ i, (Value.slice a r.num.length c).ownBlock = some i → (Value.slice b r.den.length d).ownBlock ≠ some i

set_option maxRecDepth 100000 in
set_option maxHeartbeats 8000000 in
theorem waterCopied_anyD (r : Fr) (a : Option Addr) (c : Nat) (b : Option Addr) (d : Nat) (w : World) (h : FrA w r a c b d) (hr : r.Ok) :
    Calls Try.prog 110 #[frV r a c b d] w (RetFr1D w r) := by
  obtain ⟨rn, rnum, rden⟩ := r
  obtain ⟨W0, hW0⟩ : ∃ W0, W0 = ((w.alloc (.cells #[.bool rn, .slice a rnum.length c, .slice b rden.length d] 34 (0, 0))).alloc (.cells #[.bool false, .slice none 0 0, .slice none 0 0] 34 (0, 0))) := ⟨_, rfl⟩
  have hb0 : Blw w W0 := by rw [hW0]; exact (by repeat (first | exact Blw.refl _ | apply Blw.ext | apply Blw.alloc | apply Blw.drewN | apply Blw.drew | refine Blw.setCell ?_ _ _ (by simp)))
  have hs0 : W0.heap.size = w.heap.size + 2 := by rw [hW0]; simp
  have hR0 : W0.heap[w.heap.size + 1]? = some (.cells #[.bool false, .slice none 0 0, .slice none 0 0] 34 (0, 0)) := by
    have := heap_alloc_new (w.alloc (.cells #[.bool rn, .slice a rnum.length c, .slice b rden.length d] 34 (0, 0))) (.cells #[.bool false, .slice none 0 0, .slice none 0 0] 34 (0, 0))
    rw [show (w.alloc (.cells #[.bool rn, .slice a rnum.length c, .slice b rden.length d] 34 (0, 0))).heap.size = w.heap.size + 1 by simp] at this
    rw [hW0]; exact this
  have hB0 : W0.heap[w.heap.size]? = some (.cells #[.bool rn, .slice a rnum.length c, .slice b rden.length d] 34 (0, 0)) := by rw [hW0]; exact at_alloc _ (heap_alloc_new _ _)
  have hA := h.an.blw hb0
  have hD := h.ad.blw hb0
  have hl1 : (u32s rnum).length = rnum.length * 1 := by simp
  have hl2 : (u32s rden).length = rden.length * 1 := by simp
  have ln := hr.ln
  have ld := hr.ld
  have na := fun e => (h.na e).2
  have nb := fun e => (h.nb e).2
  simp only at ln ld na nb hA hD
  clear h hr
  go_enter Try.func110, Try.ntmps110
  go_wp2_with fail
  have hS0 : w.heap.size + 1 < W0.heap.size ∧ Blw w W0 ∧ W0.cell? ⟨w.heap.size, 0, none⟩ = some (.bool rn) ∧ W0.cell? ⟨w.heap.size, 1, none⟩ = some (.slice a rnum.length c) ∧ W0.cell? ⟨w.heap.size, 2, none⟩ = some (.slice b rden.length d) :=
    ⟨by omega, hb0, (cell_of_row W0 _ 0 _ _ _ hB0).trans rfl, (cell_of_row W0 _ 1 _ _ _ hB0).trans rfl, (cell_of_row W0 _ 2 _ _ _ hB0).trans rfl⟩
  have KS : ∀ W W' : World, (w.heap.size + 1 < W.heap.size ∧ Blw w W ∧ W.cell? ⟨w.heap.size, 0, none⟩ = some (.bool rn) ∧ W.cell? ⟨w.heap.size, 1, none⟩ = some (.slice a rnum.length c) ∧ W.cell? ⟨w.heap.size, 2, none⟩ = some (.slice b rden.length d)) → Blw W W' →
      (w.heap.size + 1 < W'.heap.size ∧ Blw w W' ∧ W'.cell? ⟨w.heap.size, 0, none⟩ = some (.bool rn) ∧ W'.cell? ⟨w.heap.size, 1, none⟩ = some (.slice a rnum.length c) ∧ W'.cell? ⟨w.heap.size, 2, none⟩ = some (.slice b rden.length d)) := by
    rintro W W' ⟨h1, h2, h3, h4, h5⟩ hb
    exact ⟨Nat.lt_of_lt_of_le h1 hb.size, h2.trans hb, (Below.cell hb (by show w.heap.size < _; omega)).trans h3, (Below.cell hb (by show w.heap.size < _; omega)).trans h4, (Below.cell hb (by show w.heap.size < _; omega)).trans h5⟩
  have KR : ∀ W W' : World, W.heap[w.heap.size + 1]? = some (.cells #[.bool false, .slice none 0 0, .slice none 0 0] 34 (0, 0)) → Blw W W' → W'.heap[w.heap.size + 1]? = some (.cells #[.bool false, .slice none 0 0, .slice none 0 0] 34 (0, 0)) :=
    fun W W' hF hb => (KeptO.of_blw (O := fun _ => False) hb).heap hF id
  have RR : ∀ W : World, W.heap[w.heap.size + 1]? = some (.cells #[.bool false, .slice none 0 0, .slice none 0 0] 34 (0, 0)) → (∀ i, W.frozen? ⟨w.heap.size + 1, i, none⟩ = false) ∧ W.cell? ⟨w.heap.size + 1, 0, none⟩ = some (.bool false) ∧ W.cell? ⟨w.heap.size + 1, 1, none⟩ = some (.slice none 0 0) ∧ W.cell? ⟨w.heap.size + 1, 2, none⟩ = some (.slice none 0 0) :=
    fun W hF => ⟨fun i => frozen_of_row W _ i _ _ hF, (cell_of_row W _ 0 _ _ _ hF).trans rfl, (cell_of_row W _ 1 _ _ _ hF).trans rfl, (cell_of_row W _ 2 _ _ _ hF).trans rfl⟩
  have HKS := Lib.hid KS
  have HKR := Lib.hid KR
  have HRR := Lib.hid RR
  clear KS KR RR
  subst hW0
  have hSd : w.heap.size + 1 < (((w.alloc (.cells #[.bool rn, .slice a rnum.length c, .slice b rden.length d] 34 (0, 0))).alloc (.cells #[.bool false, .slice none 0 0, .slice none 0 0] 34 (0, 0)))).drew.heap.size ∧ Blw w (((w.alloc (.cells #[.bool rn, .slice a rnum.length c, .slice b rden.length d] 34 (0, 0))).alloc (.cells #[.bool false, .slice none 0 0, .slice none 0 0] 34 (0, 0)))).drew ∧ (((w.alloc (.cells #[.bool rn, .slice a rnum.length c, .slice b rden.length d] 34 (0, 0))).alloc (.cells #[.bool false, .slice none 0 0, .slice none 0 0] 34 (0, 0)))).drew.cell? ⟨w.heap.size, 0, none⟩ = some (.bool rn) ∧ (((w.alloc (.cells #[.bool rn, .slice a rnum.length c, .slice b rden.length d] 34 (0, 0))).alloc (.cells #[.bool false, .slice none 0 0, .slice none 0 0] 34 (0, 0)))).drew.cell? ⟨w.heap.size, 1, none⟩ = some (.slice a rnum.length c) ∧ (((w.alloc (.cells #[.bool rn, .slice a rnum.length c, .slice b rden.length d] 34 (0, 0))).alloc (.cells #[.bool false, .slice none 0 0, .slice none 0 0] 34 (0, 0)))).drew.cell? ⟨w.heap.size, 2, none⟩ = some (.slice b rden.length d) := HKS.out _ _ hS0 ((Blw.refl _).drew)
  go_region_held3 (fun W => w.heap.size + 1 < W.heap.size ∧ Blw w W ∧ W.cell? ⟨w.heap.size, 0, none⟩ = some (.bool rn) ∧ W.cell? ⟨w.heap.size, 1, none⟩ = some (.slice a rnum.length c) ∧ W.cell? ⟨w.heap.size, 2, none⟩ = some (.slice b rden.length d)) (first | assumption | (exact HKS.out _ _ hS0 (((Blw.refl _).alloc _).drew)) | (exact HKS.out _ _ hS0 ((((Blw.refl _).alloc _).alloc _).drew)) | (exact HKS.out _ _ (by assumption) ((Blw.refl _).alloc _)) | (refine ⟨?_, blw_three (Blw.trans hb0 (by assumption)) (Nat.le_succ _) _ _ _, ?_, ?_, ?_⟩ <;> go_keep)) (first
    | (refine step_app ((w.alloc (.cells #[.bool rn, .slice a rnum.length c, .slice b rden.length d] 34 (0, 0))).alloc (.cells #[.bool false, .slice none 0 0, .slice none 0 0] 34 (0, 0))) _ (by rfl) _ _ 32 (by rfl) sl_words ?_ _ 0 [] (by rfl) (ownsRow_empty ?_ rfl ?_) a rnum.length c (u32s rnum) (by rfl) na (hA.blw ?_) hl1 (u32s_one _) (by unfold maxLen; omega) (by omega) ?_
       · (first | exact ((Blw.refl _).alloc _).drew | exact (((Blw.refl _).alloc _).alloc _).drew | exact Blw.alloc (by assumption) _ | assumption)
       · (first | (with_reducible refine at_drew (heap_alloc_at ?_); simp; done) | (with_reducible refine at_drew (at_alloc _ (heap_alloc_at ?_)); simp; done) | (with_reducible exact heap_alloc_at rfl) | (with_reducible refine heap_alloc_at ?_; simp; done) | (refine HD2.out _ ?_ _ ?_ <;> first | (with_reducible refine at_drew (heap_alloc_at ?_); simp; done) | (with_reducible refine at_drew (at_alloc _ (heap_alloc_at ?_)); simp; done) | (simp [Value.ownBlock]; done)))
       · (first | (simp; done) | (have hq := Blw.size b2; simp at hq; first | omega | (simp; omega)))
       · (first | exact ((Blw.refl _).alloc _).drew | exact (((Blw.refl _).alloc _).alloc _).drew | exact Blw.alloc (by assumption) _ | assumption)
       intro v1 w1 o1 b1 g1 t1
       rw [Nat.zero_add, List.nil_append] at o1
       obtain ⟨p1, q1, rfl, -, -, -, -, -⟩ := own_arr o1
       have hS1 := HKS.out _ _ hS0 b1
       have hRR1 := HRR.out _ (HKR.out _ _ hR0 b1)
       have HD1 := Lib.hid (fun (k : Nat) (hne : some k ≠ _) (x : Obj) (hk : _ = some x) => at_grown g1 hne hk))
    | (refine step_app ((w.alloc (.cells #[.bool rn, .slice a rnum.length c, .slice b rden.length d] 34 (0, 0))).alloc (.cells #[.bool false, .slice none 0 0, .slice none 0 0] 34 (0, 0))) _ (by rfl) _ _ 32 (by rfl) sl_words ?_ _ 0 [] (by rfl) (ownsRow_empty ?_ rfl ?_) b rden.length d (u32s rden) (by rfl) nb (hD.blw ?_) hl2 (u32s_one _) (by unfold maxLen; omega) (by omega) ?_
       · (first | exact ((Blw.refl _).alloc _).drew | exact (((Blw.refl _).alloc _).alloc _).drew | exact Blw.alloc (by assumption) _ | assumption)
       · (first | (with_reducible refine at_drew (heap_alloc_at ?_); simp; done) | (with_reducible refine at_drew (at_alloc _ (heap_alloc_at ?_)); simp; done) | (with_reducible exact heap_alloc_at rfl) | (with_reducible refine heap_alloc_at ?_; simp; done) | (refine HD1.out _ ?_ _ ?_ <;> first | (with_reducible refine at_drew (heap_alloc_at ?_); simp; done) | (with_reducible refine at_drew (at_alloc _ (heap_alloc_at ?_)); simp; done) | (simp [Value.ownBlock]; done)))
       · (first | (simp; done) | (have hq := Blw.size b1; simp at hq; first | omega | (simp; omega)))
       · (first | exact ((Blw.refl _).alloc _).drew | exact (((Blw.refl _).alloc _).alloc _).drew | exact Blw.alloc (by assumption) _ | assumption)
       intro v2 w2 o2 b2 g2 t2
       rw [Nat.zero_add, List.nil_append] at o2
       obtain ⟨p2, q2, rfl, -, -, -, -, -⟩ := own_arr o2
       have hS2 := HKS.out _ _ hS0 b2
       have hRR2 := HRR.out _ (HKR.out _ _ hR0 b2)
       have HD2 := Lib.hid (fun (k : Nat) (hne : some k ≠ _) (x : Obj) (hk : _ = some x) => at_grown g2 hne hk)))
  all_goals
    have hF2 := HKR.out _ _ hR0 b2
    obtain ⟨hfz, e0, e1, e2, r0, r1, r2⟩ := three hF2 (.bool rn) (.slice p1 rnum.length q1) (.slice p2 rden.length q2)
    have o12 : w2.ownsRow ((w.alloc (.cells #[.bool rn, .slice a rnum.length c, .slice b rden.length d] 34 (0, 0))).alloc (.cells #[.bool false, .slice none 0 0, .slice none 0 0] 34 (0, 0))).heap.size 44 1 (.slice p1 rnum.length q1) rnum.length (u32s rnum) := by
      first
      | (refine own_past o1 ((Blw.refl w1).alloc _) g2 ?_
         intro i hi e
         have h1 := World.ownsRow.lt o1 i hi
         simp [Value.ownBlock] at e
         omega)
      | (refine own_past o1 (Blw.refl w1) g2 ?_
         intro i hi e
         rw [hi] at t1
         simp [Value.ownBlock] at e t1
         omega)
    have hd : ∀ i, (Value.slice p1 rnum.length q1).ownBlock = some i → (Value.slice p2 rden.length q2).ownBlock ≠ some i := by
      intro i hi h2
      have hlt := World.ownsRow.lt o1 i hi
      rcases t2 with t | t
      · rw [h2] at t
        first
        | (simp [Value.ownBlock] at t; omega)
        | (rw [hi] at t1; simp [Value.ownBlock] at t t1; omega)
      · rw [h2] at t
        simp at t
        omega
    have hs3 : ((w.alloc (.cells #[.bool rn, .slice a rnum.length c, .slice b rden.length d] 34 (0, 0))).alloc (.cells #[.bool false, .slice none 0 0, .slice none 0 0] 34 (0, 0))).heap.size = w.heap.size + 2 := by simp
    rw [hs3] at o12 o2
    have hbw : Blw w w2 := Blw.trans hb0 b2
    clear hF2 hS1 hS2 hRR1 hRR2 HD1 HD2 t1 t2 g1 g2 b1 b2 o1 hS0 hSd HKS HKR HRR hR0 hB0 hA hD
    go_wp2_with fail
    exact bodyPost_ret (v := .agg #[.bool rn, .slice p1 rnum.length q1, .slice p2 rden.length q2]) (by simp [results, Try.results110, go_sem, r0, r1, r2]) rfl ⟨p1, q1, p2, q2, rfl, blw_three hbw (Nat.le_succ _) _ _ _, own_three o12 (Nat.lt_succ_self _) _ _ _ |> (ownsRow_mono · (by omega)), own_three o2 (Nat.lt_succ_self _) _ _ _ |> (ownsRow_mono · (by omega)), hd⟩
theorem waterCopied_any (r : Fr) (a : Option Addr) (c : Nat) (b : Option Addr) (d : Nat) (w : World) (h : FrA w r a c b d) (hr : r.Ok) :
    Calls Try.prog 110 #[frV r a c b d] w (RetFr1 w r) :=
  (waterCopied_anyD r a c b d w h hr).mono fun _ _ ⟨a, c, b, d, h1, h2, h3, h4, _⟩ => ⟨a, c, b, d, h1, h2, h3, h4⟩
end Go.Proofs.Ytmeccjlopmjneaa
/- Lists of words that lie apart. -/
namespace Go.Proofs.Ytmeccjlopmjneaa
open Go.RowKit

/-- A list of words and where it lies. -/
structure OW where
  a : Option Addr
  c : Nat
  l : List Nat
abbrev OW.val (o : OW) : Value := .slice o.a o.l.length o.c
abbrev ows (os : List OW) : List Value := os.map OW.val
/-- They lie in different blocks. -/
def OW.far (x y : OW) : Prop := ∀ i, x.val.ownBlock = some i → y.val.ownBlock ≠ some i
theorem OW.far.symm {x y : OW} (h : OW.far x y) : OW.far y x := fun i h1 h2 => h i h2 h1
def FL.ows (x : FL) : List OW := [⟨x.a, x.c, x.r.num⟩, ⟨x.b, x.d, x.r.den⟩]
/-- The words of fractions lie apart. -/
def apartF (l : List FL) : Prop := (l.flatMap FL.ows).Pairwise OW.far
theorem apartF_nil : apartF [] := List.Pairwise.nil
theorem apartF_app {l m : List FL} (h : apartF l) (k : apartF m) (hf : ∀ x ∈ l, ∀ y ∈ m, ∀ a ∈ x.ows, ∀ b ∈ y.ows, OW.far a b) : apartF (l ++ m) := by
  unfold apartF at *
  rw [List.flatMap_append, List.pairwise_append]
  refine ⟨h, k, fun a ha b hb => ?_⟩
  obtain ⟨x, hx, ha⟩ := List.mem_flatMap.1 ha
  obtain ⟨y, hy, hb⟩ := List.mem_flatMap.1 hb
  exact hf x hx y hy a ha b hb
theorem apartF_one {x : FL} (h : OW.far ⟨x.a, x.c, x.r.num⟩ ⟨x.b, x.d, x.r.den⟩) : apartF [x] := by
  unfold apartF
  simp only [List.flatMap_cons, List.flatMap_nil, List.append_nil, FL.ows]
  exact List.Pairwise.cons (fun b hb => by rw [List.mem_singleton] at hb; rw [hb]; exact h) (List.Pairwise.cons (fun b hb => by cases hb) List.Pairwise.nil)
/-- A row that was there, and one made later. -/
theorem far_new {w W : World} {B : Nat} {T : TypeId} {s n s2 n2 : Nat} {T2 : TypeId} {cs cs2 : List Value} {x y : OW} (h : w.ownsRow B T s x.val n cs) (k : W.ownsRow w.heap.size T2 s2 y.val n2 cs2) : OW.far x y := fun i h1 h2 => by
  have := (World.ownsRow.lt h i h1).2
  have := (World.ownsRow.lt k i h2).1
  omega
end Go.Proofs.Ytmeccjlopmjneaa
/- The walk of water.Of, of heights that may be. -/
namespace Go.Proofs.Ytmeccjlopmjneaa
open Go.RowKit

def fl0 : FL := ⟨⟨false, [], []⟩, none, 0, none, 0⟩
def rg (l : List FL) (i : Nat) : Fr := (l.getD i fl0).r
/-- How a height goes from the one ahead. -/
def sg (l : List FL) (i : Nat) : Int := cmpF (rg l i) (rg l (i - 1))
def wkey (l : List FL) (first : Int) (t : Nat × Nat × Bool) : Int × Int × Bool × Fr := (first + t.1, first + t.2.1, t.2.2, rg l t.1)
theorem rg_at {l : List FL} {i : Nat} {x : FL} (h : l[i]? = some x) : rg l i = x.r := by unfold rg; rw [List.getD_eq_getElem?_getD, h]; rfl

/-- The fraction's words lie in memory of the call's own. -/
def OwnFL (B : Nat) (w : World) (x : FL) : Prop :=
  w.ownsRow B 44 1 (.slice x.a x.r.num.length x.c) x.r.num.length (u32s x.r.num) ∧ w.ownsRow B 44 1 (.slice x.b x.r.den.length x.d) x.r.den.length (u32s x.r.den) ∧ W.WF x.r.num ∧ W.WF x.r.den
theorem OwnFL.blw {B : Nat} {w w' : World} {x : FL} (h : OwnFL B w x) (k : Blw w w') : OwnFL B w' x := ⟨ownsRow_blw h.1 k, ownsRow_blw h.2.1 k, h.2.2.1, h.2.2.2⟩
theorem OwnFL.in {B : Nat} {w : World} {x : FL} (h : OwnFL B w x) : FL.In w x := FrA.own h.1 h.2.1 h.2.2.1 h.2.2.2
/-- Rows of elements of different types lie in different blocks. -/
theorem own_types {w : World} {B B2 n n2 size size2 : Nat} {e e2 : TypeId} {v v2 : Value} {cs cs2 : List Value} (h : w.ownsRow B e size v n cs) (k : w.ownsRow B2 e2 size2 v2 n2 cs2) (hne : e ≠ e2) : ∀ i, v.ownBlock = some i → v2.ownBlock ≠ some i := by
  intro i h1 h2
  rcases h.2 with ⟨rfl, _⟩ | ⟨g, c, cur, rfl, _, hh, _⟩
  · cases h1
  · rcases k.2 with ⟨rfl, _⟩ | ⟨g2, c2, cur2, rfl, _, kk, _⟩
    · cases h2
    · simp [Value.ownBlock] at h1 h2
      rw [h1] at hh
      rw [h2, hh] at kk
      simp at kk
      exact hne kk.2
theorem OwnFL.past {B B2 n2 size2 : Nat} {e2 : TypeId} {w w' : World} {v2 : Value} {cs2 : List Value} {x : FL} (h : OwnFL B w x) (k : w.ownsRow B2 e2 size2 v2 n2 cs2) (hne : (44 : TypeId) ≠ e2) (hg : w.grownBy w' v2.ownBlock) : OwnFL B w' x :=
  ⟨own_past h.1 (Blw.refl w) hg (fun i hi => own_types h.1 k hne i hi), own_past h.2.1 (Blw.refl w) hg (fun i hi => own_types h.2.1 k hne i hi), h.2.2.1, h.2.2.2⟩

def OfOut (w : World) (l : List FL) (first : Int) (e : Ending) (w' : World) : Prop :=
  ∃ (out : List WL) (a : Option Addr) (c : Nat), e = .returned (.tuple #[.slice a out.length c, .int .i64 0]) ∧ Blw w w' ∧ w'.ownsRow w.heap.size 90 6 (.slice a out.length c) out.length (wls out) ∧ (∀ x ∈ out, OwnFL w.heap.size w' x.h) ∧
    out.map WL.key = (wats (sg l) l.length l.length).map (wkey l first)
/-- .. and the heights lie apart. -/
def OfOutD (w : World) (l : List FL) (first : Int) (e : Ending) (w' : World) : Prop :=
  ∃ (out : List WL) (a : Option Addr) (c : Nat), e = .returned (.tuple #[.slice a out.length c, .int .i64 0]) ∧ Blw w w' ∧ w'.ownsRow w.heap.size 90 6 (.slice a out.length c) out.length (wls out) ∧ (∀ x ∈ out, OwnFL w.heap.size w' x.h) ∧
    out.map WL.key = (wats (sg l) l.length l.length).map (wkey l first) ∧ apartF (out.map (·.h))
theorem sl_waters : SlT Try.prog 80 90 (.agg #[.int .i64 0, .int .i64 0, .bool false, .bool false, .slice none 0 0, .slice none 0 0]) 6 80 := ⟨Try.underlying80, by kernel_rfl, by kernel_rfl, by decide⟩
theorem cntd_zero {n : Nat} {first : Int} (h : cntd n first = 0) : n ≤ 4096 ∧ 0 ≤ first ∧ first ≤ 1048576 ∧ (0 < n → first + n ≤ 1048577) := by
  unfold cntd at h
  split at h
  · cases h
  · split at h
    · cases h
    · omega

set_option maxRecDepth 100000 in
set_option maxHeartbeats 8000000 in
theorem waterOf_okD (A : Option Addr) (l : List FL) (cap : Nat) (first : Int) (w : World) (hA : Arr w A (fls l)) (hin : ∀ x ∈ l, FL.In w x) (hok : ∀ x ∈ l, x.r.Ok) (hc : cntd l.length first = 0) :
    Calls Try.prog 55 #[.slice A l.length cap, .int .i64 first] w (OfOutD w l first) := by
  obtain ⟨hlen, hf0, hf1, hfn⟩ := cntd_zero hc
  have CN := fun W => counted_any l.length first W (by omega)
  rw [hc] at CN
  have HCN := Lib.hid CN
  have HIN := Lib.hid hin
  have HOK := Lib.hid hok
  clear CN hc hin hok
  go_enter Try.func55, Try.ntmps55
  go_wp2
  go_step3
  go_wp2_with (go_at_call 108; refine Calls.mono (HCN.out _) ?_; rintro e w1 ⟨rfl, rfl⟩)
  clear HCN
  go_loopw [24] (fun vi wr => ∃ k : Nat, k ≤ l.length ∧ vi = .int .i64 k ∧ Blw w1 wr) (fun i _ => l.length - (intOf i).toNat)
  case atStart => exact ⟨0, Nat.zero_le _, rfl, Blw.refl _⟩
  case round =>
    obtain ⟨k, hk, rfl, hb⟩ := hrel
    by_cases hlt : k < l.length
    · obtain ⟨x, b, o, hgk, hm, rfl, hbs, c0, c1, c2⟩ := fl_at (hA.blw hb) hlt
      have hx := (HIN.out x hm).blw hb
      have hck := fun W (hb : Blw wr W) => ratioCheck_any x.r x.a x.c x.b x.d W (FL.In.blw hx hb)
      rw [chkF_ok (HOK.out x hm)] at hck
      have HCK := Lib.hid hck
      clear hck hgk hm hx
      go_wp2_with fail
      refine Calls.mono (HCK.out _ (by repeat (first | exact Blw.refl _ | apply Blw.ext | apply Blw.alloc | apply Blw.drewN | apply Blw.drew | refine Blw.setCell ?_ _ _ (by simp)))) ?_
      rintro e w2 ⟨rfl, x2, rfl⟩
      go_wp2_with fail
      go_roundw
      case rel => exact ⟨k + 1, by omega, by go_num, (hb.alloc _).ext x2⟩
      case measure => simp [intOf]; omega
    · go_wp2
      go_step3
      go_wp2
      have hB0 := hb
      clear hlt hk hb
      go_loopg [10, 11] l.length (fun g vo vi wx => ∃ (i : Nat) (out : List WL) (a : Option Addr) (c : Nat), i + g = l.length + 1 ∧ (1 ≤ i ∧ (i ≤ l.length ∨ i = 1)) ∧ vi = .int .i64 i ∧ vo = .slice a out.length c ∧ wx.ownsRow w1.heap.size 90 6 (.slice a out.length c) out.length (wls out) ∧ (∀ x ∈ out, OwnFL w1.heap.size wx x.h) ∧
        Hid (out.map WL.key = (wats (sg l) l.length i).map (wkey l first)) ∧ out.length ≤ i ∧ Blw w1 wx ∧ Hid (apartF (out.map (·.h))))
      case atStart => exact ⟨1, [], none, 0, by omega, ⟨Nat.le_refl _, .inr rfl⟩, rfl, rfl, World.ownsRow_nil _ _ _ _, (fun x h => by simp at h), (by show _ = _; rw [wats_one]; rfl), by simp, hB0, apartF_nil⟩
      case round =>
        obtain ⟨i, out, a, c, hig, ⟨h1, h1'⟩, rfl, rfl, hown, hio, hkey, hol, hbx, hapt⟩ := hrel
        clear hB0
        have HIO := Lib.hid hio
        clear hio
        by_cases hlt : i < l.length
        · obtain ⟨j, rfl⟩ : ∃ j, i = j + 1 := ⟨i - 1, by omega⟩
          obtain ⟨g, rfl⟩ : ∃ g, gk = g + 1 := ⟨gk - 1, by omega⟩
          obtain ⟨x, b, o, hgx, hmx, rfl, hbs, c0, c1, c2⟩ := fl_at (k := j) (hA.blw hbx) (by omega)
          obtain ⟨y, b', o', hgy, hmy, e', -, d0, d1, d2⟩ := fl_at (k := j + 1) (hA.blw hbx) hlt
          simp only [Option.some.injEq, Addr.mk.injEq] at e'
          obtain ⟨rfl, rfl, -⟩ := e'
          obtain ⟨S, hS⟩ : ∃ S, S = sg l (j + 1) := ⟨_, rfl⟩
          have hSv : cmpF y.r x.r = S := by rw [hS]; unfold sg; rw [rg_at hgy, Nat.add_sub_cancel, rg_at hgx]
          have FR := fun W (hb : Blw wr W) => from_ok x y W (((HIN.out x hmx).blw hbx).blw hb) (((HIN.out y hmy).blw hbx).blw hb) (HOK.out x hmx) (HOK.out y hmy)
          rw [hSv] at FR
          have HFR := Lib.hid FR
          have CP := fun W (hb : Blw wr W) => waterCopied_anyD y.r y.a y.c y.b y.d W (FrA.blw ((HIN.out y hmy).blw hbx) hb) (HOK.out y hmy)
          have HCP := Lib.hid CP
          have HRY := Lib.hid (rg_at hgy)
          have HGY := Lib.hid hgy
          have HWY := Lib.hid ((HIN.out y hmy).wn)
          have HWZ := Lib.hid ((HIN.out y hmy).wd)
          have HS := Lib.hid hS
          clear FR CP hSv hS hgx hgy hmx hmy
          have i0 : (0 : Int) ≤ (j : Int) := by omega
          have i1 : (j : Int) < (l.length : Int) := by omega
          have i2 : (0 : Int) ≤ (j : Int) + 1 := by omega
          have i3 : (j : Int) + 1 < (l.length : Int) := by omega
          have i4 : IntKind.i64.wrap (j : Int) = (j : Int) := by rw [IntKind.wrap_i64]; omega
          have i5 : ((j : Int) + 1).toNat = j + 1 := by omega
          go_wp2_with fail
          refine wp_region_ext_lit (by kernel_rfl) (by kernel_rfl) ?_
          repeat (quiet_step ((go_at_call 109; exact Calls.ext_of (HFR.out _ (by repeat (first | exact Blw.refl _ | apply Blw.ext | apply Blw.alloc | apply Blw.drewN | apply Blw.drew | refine Blw.setCell ?_ _ _ (by simp)))))))
          refine wpQuiet_nil ?_
          rintro _ ⟨z, rfl⟩
          clear HFR c0 c1 c2 d0 d1 d2
          by_cases s0 : S = 0
          · have HK : Hid (out.map WL.key = (wats (sg l) l.length (j + 1 + 1)).map (wkey l first)) := by
              show _ = _
              rw [wats_none (wat_zero (HS.out.symm.trans s0))]; exact hkey.out
            subst s0
            have HIO2 := Lib.hid (fun x hx => (HIO.out x hx).blw (World.blw_ext wr z))
            go_wp2
            go_roundg g
            case measure => omega
            case rel => exact ⟨j + 1 + 1, out, a, c, by omega, ⟨by omega, .inl (by omega)⟩, by go_num, rfl, ownsRow_blw hown (World.blw_ext _ z), HIO2.out, HK, by omega, hbx.ext z, hapt⟩
          · have q0 : (S == 0) = false := by simpa using s0
            have hown2 := ownsRow_blw hown (World.blw_ext wr z)
            have HIO2 := Lib.hid (fun x hx => (HIO.out x hx).blw (World.blw_ext wr z))
            have hb2 := hbx.ext z
            have HCP2 := Lib.hid (fun W (hb : Blw (wr.ext z) W) => HCP.out W ((World.blw_ext wr z).trans hb))
            clear HCP HIO hown
            go_wp2_with fail
            go_loopg [10, 13] (l.length - (j + 2)) (fun g2 vo vk wy => ∃ k : Nat, vo = .slice a out.length c ∧ k + g2 = l.length ∧ j + 2 ≤ k ∧ vk = .int .i64 k ∧ Hid (nextS (sg l) l.length (j + 1 + 1) = nextS (sg l) l.length k) ∧ Blw (wr.ext z) wy)
            case atStart => exact ⟨j + 2, rfl, by omega, Nat.le_refl _, by go_num, rfl, Blw.refl _⟩
            case round =>
              obtain ⟨k, rfl, hkg, hk1, rfl, hnx, hby⟩ := hrel
              by_cases hlt2 : k < l.length
              · obtain ⟨m, rfl⟩ : ∃ m, k = m + 1 := ⟨k - 1, by omega⟩
                obtain ⟨g3, rfl⟩ : ∃ g3, gk = g3 + 1 := ⟨gk - 1, by omega⟩
                have hbw := hb2.trans hby
                obtain ⟨u, b2, o2, hgu, hmu, e2, hbs2, c0, c1, c2⟩ := fl_at (k := m) (hA.blw hbw) (by omega)
                obtain ⟨v, b3, o3, hgv, hmv, e3, -, d0, d1, d2⟩ := fl_at (k := m + 1) (hA.blw hbw) hlt2
                simp only [Option.some.injEq, Addr.mk.injEq] at e2 e3
                obtain ⟨rfl, rfl, -⟩ := e2
                obtain ⟨rfl, rfl, -⟩ := e3
                obtain ⟨S2, hS2⟩ : ∃ S2, S2 = sg l (m + 1) := ⟨_, rfl⟩
                have hSv : cmpF v.r u.r = S2 := by rw [hS2]; unfold sg; rw [rg_at hgv, Nat.add_sub_cancel, rg_at hgu]
                have FR := fun W (hb : Blw wr W) => from_ok u v W (((HIN.out u hmu).blw hbw).blw hb) (((HIN.out v hmv).blw hbw).blw hb) (HOK.out u hmu) (HOK.out v hmv)
                rw [hSv] at FR
                have HFR := Lib.hid FR
                have HS2 := Lib.hid hS2
                clear FR hSv hS2 hgu hgv hmu hmv
                have j0 : (0 : Int) ≤ (m : Int) := by omega
                have j1 : (m : Int) < (l.length : Int) := by omega
                have j2 : (0 : Int) ≤ (m : Int) + 1 := by omega
                have j3 : (m : Int) + 1 < (l.length : Int) := by omega
                have j4 : IntKind.i64.wrap (m : Int) = (m : Int) := by rw [IntKind.wrap_i64]; omega
                have j5 : ((m : Int) + 1).toNat = m + 1 := by omega
                go_wp2_with fail
                refine wp_region_ext_lit (by kernel_rfl) (by kernel_rfl) ?_
                repeat (quiet_step ((go_at_call 109; exact Calls.ext_of (HFR.out _ (by repeat (first | exact Blw.refl _ | apply Blw.ext | apply Blw.alloc | apply Blw.drewN | apply Blw.drew | refine Blw.setCell ?_ _ _ (by simp)))))))
                refine wpQuiet_nil ?_
                rintro _ ⟨z2, rfl⟩
                clear HFR c0 c1 c2 d0 d1 d2
                by_cases s2 : S2 = 0
                · have HN : Hid (nextS (sg l) l.length (j + 1 + 1) = nextS (sg l) l.length (m + 1 + 1)) := by
                    show _ = _
                    rw [hnx.out, nextS_on hlt2 (HS2.out.symm.trans s2)]
                  subst s2
                  go_wp2
                  go_roundg g3
                  case measure => omega
                  case rel => exact ⟨m + 1 + 1, rfl, by omega, by omega, by go_num, HN, hby.ext z2⟩
                · have q2 : (S2 == 0) = false := by simpa using s2
                  have HNX : Hid (nextS (sg l) l.length (j + 1 + 1) = some (m + 1)) := by
                    show _ = _
                    rw [hnx.out, nextS_at hlt2 (fun h => s2 (HS2.out.trans h))]
                  have hb5 := hb2.trans (hby.ext z2)
                  have hown5 := ownsRow_blw hown2 (hby.ext z2)
                  have HIO5 := Lib.hid (fun x hx => (HIO2.out x hx).blw (hby.ext z2))
                  by_cases s3 : S2 = S
                  · have HK : Hid (out.map WL.key = (wats (sg l) l.length (j + 1 + 1)).map (wkey l first)) := by
                      show _ = _
                      rw [wats_none (wat_same (by omega) (fun h => s0 (HS.out.trans h)) HNX.out (by rw [← HS.out, ← HS2.out]; exact s3))]; exact hkey.out
                    have q3 : (S2 != S) = false := by simpa using s3
                    clear hown2 hb2 s3
                    go_wp2_with fail
                    go_roundg g
                    case measure => omega
                    case rel => exact ⟨j + 1 + 1, out, a, c, by omega, ⟨by omega, .inl (by omega)⟩, by go_num, rfl, hown5, HIO5.out, HK, by omega, hb5, hapt⟩
                  · have q3 : (S2 != S) = true := by simpa using s3
                    have HW : Hid (wats (sg l) l.length (j + 1 + 1) = wats (sg l) l.length (j + 1) ++ [(j + 1, m, S == 1)]) := by
                      show _ = _
                      rw [wats_some (wat_turn (by omega) (fun h => s0 (HS.out.trans h)) HNX.out (by rw [← HS.out, ← HS2.out]; exact s3)), ← HS.out]; rfl
                    clear hown2 hb2
                    obtain ⟨y', b4, o4, hgy', -, e4, -, c0, c1, c2⟩ := fl_at (k := j + 1) (hA.blw hb5) hlt
                    simp only [Option.some.injEq, Addr.mk.injEq] at e4
                    obtain ⟨rfl, rfl, -⟩ := e4
                    obtain rfl : y = y' := by have := HGY.out.symm.trans hgy'; simpa using this
                    clear hgy'
                    have f1 : IntKind.i64.wrap (first + ((j : Int) + 1)) = first + ((j : Int) + 1) := by rw [IntKind.wrap_i64]; omega
                    have f2 : IntKind.i64.wrap (first + ((m : Int) + 1)) = first + ((m : Int) + 1) := by rw [IntKind.wrap_i64]; omega
                    have f3 : IntKind.i64.wrap (first + ((m : Int) + 1) - 1) = first + (m : Int) := by rw [IntKind.wrap_i64]; omega
                    go_wp2_with fail
                    refine Calls.mono (HCP2.out _ (hby.ext z2)) ?_
                    rintro e w5 ⟨p1, q1, p2, q2, rfl, hb6, oX, oY, hdXY⟩
                    have HAP : Hid (apartF ((out ++ [(⟨first + ((j : Int) + 1), first + (m : Int), S == 1, ⟨y.r, p1, q1, p2, q2⟩⟩ : WL)]).map (·.h))) := by
                      show apartF _
                      rw [List.map_append]
                      refine apartF_app hapt.out (apartF_one hdXY) ?_
                      intro x hx y' hy' a ha b hb
                      obtain ⟨x0, hx0, rfl⟩ := List.mem_map.1 hx
                      have hio0 := HIO5.out x0 hx0
                      simp only [List.map_cons, List.map_nil, List.mem_singleton] at hy'
                      subst hy'
                      simp only [FL.ows, List.mem_cons, List.mem_nil_iff, or_false] at ha hb
                      rcases ha with rfl | rfl <;> rcases hb with rfl | rfl
                      · exact far_new (x := ⟨x0.h.a, x0.h.c, x0.h.r.num⟩) (y := ⟨p1, q1, y.r.num⟩) hio0.1 oX
                      · exact far_new (x := ⟨x0.h.a, x0.h.c, x0.h.r.num⟩) (y := ⟨p2, q2, y.r.den⟩) hio0.1 oY
                      · exact far_new (x := ⟨x0.h.b, x0.h.d, x0.h.r.den⟩) (y := ⟨p1, q1, y.r.num⟩) hio0.2.1 oX
                      · exact far_new (x := ⟨x0.h.b, x0.h.d, x0.h.r.den⟩) (y := ⟨p2, q2, y.r.den⟩) hio0.2.1 oY
                    have oX5 := ownsRow_mono oX hb5.size
                    have oY5 := ownsRow_mono oY hb5.size
                    have hown6 := ownsRow_blw hown5 hb6
                    have HIO6 := Lib.hid (fun x hx => (HIO5.out x hx).blw hb6)
                    have hb8 := hb5.trans hb6
                    have HL := Lib.hid (cells_len WL.cells 6 (fun _ => rfl) out)
                    clear oX oY hown5 HIO5
                    go_wp2_with (at_builtin; refine wpList_app w1 _ rfl _ _ 80 rfl sl_waters (hb8.alloc _) _ out.length _ rfl (ownsRow_blw hown6 ((Blw.refl _).alloc _)) _ 1 1 [.int .i64 (first + ((j : Int) + 1)), .int .i64 (first + (m : Int)), .bool (S == 1), .bool y.r.neg, .slice p1 y.r.num.length q1, .slice p2 y.r.den.length q2] rfl (by simp) (Arr.lit _ _ _ _) (by simp) (by simp [Value.oneCell']) (by unfold maxLen; omega) (by omega) ?_; intro v7 w7 hown7 hb7 hg7 _)
                    obtain ⟨a7, c7, rfl, -, -, -, -, -⟩ := own_arr hown7
                    have HK : Hid ((out ++ [(⟨first + ((j : Int) + 1), first + (m : Int), S == 1, ⟨y.r, p1, q1, p2, q2⟩⟩ : WL)]).map WL.key = (wats (sg l) l.length (j + 1 + 1)).map (wkey l first)) := by
                      show _ = _
                      rw [HW.out, List.map_append, List.map_append, hkey.out]
                      simp [WL.key, wkey, HRY.out]
                    have HO : Hid (∀ x ∈ out ++ [(⟨first + ((j : Int) + 1), first + (m : Int), S == 1, ⟨y.r, p1, q1, p2, q2⟩⟩ : WL)], OwnFL w1.heap.size w7 x.h) := by
                      intro x hx
                      rw [List.mem_append, List.mem_singleton] at hx
                      rcases hx with hx | rfl
                      · exact OwnFL.past ((HIO6.out x hx).blw ((Blw.refl _).alloc _)) (ownsRow_blw hown6 ((Blw.refl _).alloc _)) (by decide) hg7
                      · exact OwnFL.past (OwnFL.blw ⟨oX5, oY5, HWY.out, HWZ.out⟩ ((Blw.refl _).alloc _)) (ownsRow_blw hown6 ((Blw.refl _).alloc _)) (by decide) hg7
                    have HWL : w7.ownsRow w1.heap.size 90 6 (.slice a7 (out ++ [(⟨first + ((j : Int) + 1), first + (m : Int), S == 1, ⟨y.r, p1, q1, p2, q2⟩⟩ : WL)]).length c7) (out ++ [(⟨first + ((j : Int) + 1), first + (m : Int), S == 1, ⟨y.r, p1, q1, p2, q2⟩⟩ : WL)]).length (wls (out ++ [(⟨first + ((j : Int) + 1), first + (m : Int), S == 1, ⟨y.r, p1, q1, p2, q2⟩⟩ : WL)])) := by
                      have e : wls (out ++ [(⟨first + ((j : Int) + 1), first + (m : Int), S == 1, ⟨y.r, p1, q1, p2, q2⟩⟩ : WL)]) = wls out ++ [.int .i64 (first + ((j : Int) + 1)), .int .i64 (first + (m : Int)), .bool (S == 1), .bool y.r.neg, .slice p1 y.r.num.length q1, .slice p2 y.r.den.length q2] := by
                        rw [wls, List.flatMap_append]; rfl
                      rw [e, List.length_append]
                      exact hown7
                    have HOL := Lib.hid HWL
                    clear hown7 HWL hg7
                    go_roundg g
                    case measure => omega
                    case rel => exact ⟨j + 1 + 1, _, a7, c7, by omega, ⟨by omega, .inl (by omega)⟩, by go_num, (by rw [List.length_append]; rfl), HOL.out, HO.out, HK, (by rw [List.length_append]; simp; omega), hb7, HAP⟩
              · have HK : Hid (out.map WL.key = (wats (sg l) l.length (j + 1 + 1)).map (wkey l first)) := by
                  show _ = _
                  rw [wats_none (wat_out (by omega) (fun h => s0 (HS.out.trans h)) (by rw [hnx.out, nextS_out hlt2]))]; exact hkey.out
                have hown5 := ownsRow_blw hown2 hby
                have HIO5 := Lib.hid (fun x hx => (HIO2.out x hx).blw hby)
                have hb5 := hb2.trans hby
                clear hown2 hb2
                go_wp2_with fail
                go_roundg g
                case measure => omega
                case rel => exact ⟨j + 1 + 1, out, a, c, by omega, ⟨by omega, .inl (by omega)⟩, by go_num, rfl, hown5, HIO5.out, HK, by omega, hb5, hapt⟩
        · have hlast : wats (sg l) l.length i = wats (sg l) l.length l.length := by
            rcases Nat.lt_or_ge 0 l.length with h | h
            · rw [show i = l.length by omega]
            · have h0 : l.length = 0 := by omega
              have hi1 : i = 1 := by omega
              rw [hi1, wats_one, h0]; rfl
          have HK := Lib.hid (hkey.out.trans (by rw [hlast]))
          clear hlast hkey
          go_wp2
          try rw [Exit.noGoto_ret]
          go_ret2
          exact ⟨out, a, c, rfl, hbx, hown, HIO.out, HK.out, hapt.out⟩
theorem waterOf_ok (A : Option Addr) (l : List FL) (cap : Nat) (first : Int) (w : World) (hA : Arr w A (fls l)) (hin : ∀ x ∈ l, FL.In w x) (hok : ∀ x ∈ l, x.r.Ok) (hc : cntd l.length first = 0) :
    Calls Try.prog 55 #[.slice A l.length cap, .int .i64 first] w (OfOut w l first) :=
  (waterOf_okD A l cap first w hA hin hok hc).mono fun _ _ ⟨out, a, c, h1, h2, h3, h4, h5, _⟩ => ⟨out, a, c, h1, h2, h3, h4, h5⟩
end Go.Proofs.Ytmeccjlopmjneaa
/- Fractions compared: as whole numbers, plain Lean. -/
namespace Go.Proofs.Ytmeccjlopmjneaa

def cmpI (x y : Int) : Int := if x < y then -1 else if y < x then 1 else 0
theorem cmpI_cases (x y : Int) : cmpI x y = -1 ∨ cmpI x y = 0 ∨ cmpI x y = 1 := by
  unfold cmpI; split
  · simp
  · split <;> simp
theorem cmpI_swap (x y : Int) : cmpI y x = - cmpI x y := by
  unfold cmpI
  rcases Int.lt_trichotomy x y with h | h | h
  · rw [if_neg (by omega), if_pos h, if_pos h]; rfl
  · subst h; simp
  · rw [if_pos h, if_neg (by omega), if_pos h]
theorem cmpI_neg (x y : Int) : cmpI (-x) (-y) = - cmpI x y := by
  rw [← cmpI_swap]
  unfold cmpI
  rcases Int.lt_trichotomy x y with h | h | h
  · rw [if_neg (by omega), if_pos (by omega), if_neg (by omega), if_pos h]
  · subst h; simp
  · rw [if_pos (by omega), if_pos h]
theorem cmpN_int (a b : Nat) : W.cmpN a b = cmpI a b := by
  rcases Nat.lt_trichotomy a b with h | h | h
  · rw [W.cmpN_lt h]; unfold cmpI; rw [if_pos (by omega)]
  · subst h; rw [W.cmpN_eq]; unfold cmpI; simp
  · rw [W.cmpN_gt h]; unfold cmpI; rw [if_neg (by omega), if_pos (by omega)]

/-- The sign's whole number over the line. -/
def Fr.p (r : Fr) : Int := if r.neg = true then -(W.val r.num : Int) else (W.val r.num : Int)
theorem Fr.Ok.den_pos {r : Fr} (h : r.Ok) : 0 < W.val r.den := W.val_pos h.nd (by intro e; have := h.d0; rw [e] at this; simp at this)
theorem Fr.Ok.num_pos {r : Fr} (h : r.Ok) (hn : r.neg = true) : 0 < W.val r.num := W.val_pos h.nn (by
  intro e
  have := h.ns (by rw [e]; rfl)
  rw [hn] at this; cases this)
theorem cmpF_is {r s : Fr} (hr : r.Ok) (hs : s.Ok) : cmpF r s = cmpI (r.p * (W.val s.den : Int)) (s.p * (W.val r.den : Int)) := by
  have q1 := hr.den_pos
  have q2 := hs.den_pos
  have n1 := hr.num_pos
  have n2 := hs.num_pos
  unfold cmpF Fr.p
  obtain ⟨rn, rnum, rden⟩ := r
  obtain ⟨sn, snum, sden⟩ := s
  simp only at q1 q2 n1 n2 ⊢
  generalize W.val rnum = a at *
  generalize W.val rden = b at *
  generalize W.val snum = c at *
  generalize W.val sden = d at *
  clear hr hs
  cases rn <;> cases sn
  · rw [if_neg (by simp), if_neg (by simp), if_neg (by simp), if_neg (by simp), if_neg (by simp), cmpN_int, Int.natCast_mul, Int.natCast_mul]
  · rw [if_neg (by simp), if_neg (by simp), if_pos rfl, if_neg (by simp), if_pos rfl]
    have h1 : 0 < c * b := Nat.mul_pos (n2 rfl) q1
    have e1 : -(c : Int) * (b : Int) = -((c * b : Nat) : Int) := by rw [Int.natCast_mul, Int.neg_mul]
    have e2 : (a : Int) * (d : Int) = ((a * d : Nat) : Int) := by rw [Int.natCast_mul]
    rw [e1, e2]
    unfold cmpI
    rw [if_neg (by omega), if_pos (by omega)]
  · rw [if_neg (by simp), if_pos rfl, if_pos rfl, if_neg (by simp)]
    have h1 : 0 < a * d := Nat.mul_pos (n1 rfl) q2
    have e1 : -(a : Int) * (d : Int) = -((a * d : Nat) : Int) := by rw [Int.natCast_mul, Int.neg_mul]
    have e2 : (c : Int) * (b : Int) = ((c * b : Nat) : Int) := by rw [Int.natCast_mul]
    rw [e1, e2]
    unfold cmpI
    rw [if_pos (by omega)]
  · rw [if_pos ⟨rfl, rfl⟩, if_pos rfl, if_pos rfl, cmpN_int]
    have e1 : -(a : Int) * (d : Int) = -((a * d : Nat) : Int) := by rw [Int.natCast_mul, Int.neg_mul]
    have e2 : -(c : Int) * (b : Int) = -((c * b : Nat) : Int) := by rw [Int.natCast_mul, Int.neg_mul]
    rw [e1, e2, cmpI_neg, ← cmpI_swap]
theorem cmpF_cases {r s : Fr} (hr : r.Ok) (hs : s.Ok) : cmpF r s = -1 ∨ cmpF r s = 0 ∨ cmpF r s = 1 := by rw [cmpF_is hr hs]; exact cmpI_cases _ _
theorem cmpF_swap {r s : Fr} (hr : r.Ok) (hs : s.Ok) : cmpF s r = - cmpF r s := by rw [cmpF_is hr hs, cmpF_is hs hr]; exact cmpI_swap _ _
theorem negF_p {r : Fr} (hr : r.Ok) : (negF r).p = - r.p := by
  unfold Fr.p negF
  simp only
  by_cases h0 : r.num.length = 0
  · have hn := hr.ns h0
    have : r.num = [] := List.eq_nil_of_length_eq_zero h0
    rw [hn, this]; simp [W.val]
  · have hp : decide (0 < r.num.length) = true := by simp; omega
    rw [hp, Bool.and_true]
    cases r.neg <;> simp
theorem cmpF_neg {r s : Fr} (hr : r.Ok) (hs : s.Ok) : cmpF (negF r) (negF s) = - cmpF r s := by
  rw [cmpF_is hr hs, cmpF_is (negF_ok hr) (negF_ok hs), negF_p hr, negF_p hs]
  show cmpI (-r.p * (W.val s.den : Int)) (-s.p * (W.val r.den : Int)) = _
  rw [Int.neg_mul, Int.neg_mul, cmpI_neg]
end Go.Proofs.Ytmeccjlopmjneaa
/- Fractions as rational numbers: what a fraction's words say, plain. -/
namespace Go.Proofs.Ytmeccjlopmjneaa

/-- The rational number of a fraction. -/
def Fr.q (r : Fr) : Rat := mkRat r.p (W.val r.den)
/-- The one form of a rational number. -/
def frQ (x : Rat) : Fr := ⟨decide (x.num < 0), W.toW x.num.natAbs, W.toW x.den⟩
/-- It has room. -/
def fits (x : Rat) : Bool := decide ((W.toW x.num.natAbs).length ≤ 2048) && decide ((W.toW x.den).length ≤ 2048)
abbrev zF : Fr := ⟨false, [], []⟩
/-- What is told of a rational number: its form, or that it is too long. -/
def resQ (x : Rat) : Fr × Int := if fits x = true then (frQ x, 0) else (zF, 3)

theorem fits_iff {x : Rat} : fits x = true ↔ (W.toW x.num.natAbs).length ≤ 2048 ∧ (W.toW x.den).length ≤ 2048 := by
  unfold fits; simp
theorem frQ_p (x : Rat) : (frQ x).p = x.num := by
  unfold Fr.p frQ
  simp only [decide_eq_true_eq, W.val_toW]
  split <;> omega
theorem frQ_q (x : Rat) : (frQ x).q = x := by
  unfold Fr.q
  rw [frQ_p]
  show mkRat x.num (W.val (W.toW x.den)) = x
  rw [W.val_toW, Rat.mkRat_self]
theorem frQ_wn (x : Rat) : W.WF (frQ x).num := W.wf_toW _
theorem frQ_wd (x : Rat) : W.WF (frQ x).den := W.wf_toW _
theorem frQ_inj {x y : Rat} (h : frQ x = frQ y) : x = y := by rw [← frQ_q x, h, frQ_q]
theorem frQ_ok {x : Rat} (h : fits x = true) : (frQ x).Ok := by
  obtain ⟨h1, h2⟩ := fits_iff.1 h
  refine ⟨h1, h2, W.nrm_toW _, W.nrm_toW _, ?_, ?_, ?_⟩
  · show 0 < (W.toW x.den).length
    rcases Nat.eq_zero_or_pos (W.toW x.den).length with e | e
    · exact absurd (W.toW_nil.1 (List.eq_nil_of_length_eq_zero e)) x.den_nz
    · exact e
  · intro e
    have e : (W.toW x.num.natAbs).length = 0 := e
    have := W.toW_nil.1 (List.eq_nil_of_length_eq_zero e)
    show decide (x.num < 0) = false
    rw [decide_eq_false]; omega
  · show Nat.gcd (W.val (W.toW _)) (W.val (W.toW _)) = 1
    rw [W.val_toW, W.val_toW]; exact x.reduced
theorem Fr.p_abs (r : Fr) : r.p.natAbs = W.val r.num := by unfold Fr.p; split <;> omega
theorem Fr.Ok.q_num {r : Fr} (h : r.Ok) : r.q.num = r.p ∧ r.q.den = W.val r.den := by
  have hd := h.den_pos
  unfold Fr.q
  have hg : Nat.gcd r.p.natAbs (W.val r.den) = 1 := by rw [Fr.p_abs]; exact h.g
  rw [← Rat.normalize_eq_mkRat (by omega), Rat.normalize_eq_mk' _ _ (by omega) hg]
  exact ⟨rfl, rfl⟩
theorem Fr.Ok.eq {r : Fr} (h : r.Ok) (wn : W.WF r.num) (wd : W.WF r.den) : frQ r.q = r := by
  obtain ⟨h1, h2⟩ := h.q_num
  unfold frQ
  rw [h1, h2, Fr.p_abs, W.toW_val wn h.nn, W.toW_val wd h.nd]
  obtain ⟨neg, num, den⟩ := r
  congr 1
  cases neg
  · unfold Fr.p; simp
  · have := h.num_pos rfl
    unfold Fr.p; simp
    have : 0 < W.val num := this
    omega
theorem Fr.Ok.fits {r : Fr} (h : r.Ok) (wn : W.WF r.num) (wd : W.WF r.den) : fits r.q = true := by
  rw [fits_iff]
  have e := h.eq wn wd
  exact ⟨by have : (frQ r.q).num.length ≤ 2048 := by rw [e]; exact h.ln
            exact this, by have : (frQ r.q).den.length ≤ 2048 := by rw [e]; exact h.ld
                           exact this⟩
theorem Fr.Ok.len_q {r : Fr} (h : r.Ok) : (0 < r.num.length) = (r.q ≠ 0) := by
  have e := h.q_num.1
  apply propext
  constructor
  · intro k z
    rw [z] at e
    have := W.val_pos h.nn (by intro x; rw [x] at k; simp at k)
    have := Fr.p_abs r
    rw [← e] at this
    simp at this; omega
  · intro k
    rcases Nat.eq_zero_or_pos r.num.length with z | z
    · exfalso; apply k
      rw [← Rat.num_eq_zero, e]
      have := Fr.p_abs r
      rw [List.eq_nil_of_length_eq_zero z] at this
      simp [W.val] at this; exact this
    · exact z

/-- What lowest makes, as a rational number. -/
theorem low_q (neg : Bool) (l m : Nat) (hm : m ≠ 0) : (⟨neg && decide (0 < (W.toW (l / Nat.gcd l m)).length), W.toW (l / Nat.gcd l m), W.toW (m / Nat.gcd l m)⟩ : Fr) = frQ (mkRat (if neg = true then -(l : Int) else l) m) := by
  have ha : (if neg = true then -(l : Int) else (l : Int)).natAbs = l := by split <;> omega
  unfold frQ
  rw [← Rat.normalize_eq_mkRat hm, Rat.num_normalize, Rat.den_normalize, ha]
  have hg : 0 < Nat.gcd l m := Nat.gcd_pos_of_pos_right _ (by omega)
  have hn : ((if neg = true then -(l : Int) else (l : Int)) / (Nat.gcd l m : Int)).natAbs = l / Nat.gcd l m := by
    rw [Int.natAbs_ediv_of_dvd]
    · rw [ha]; rfl
    · rw [← Int.natAbs_dvd_natAbs, ha]; exact Nat.gcd_dvd_left _ _
  rw [hn]
  congr 1
  cases neg
  · simp
    exact Int.ediv_nonneg (by omega) (by omega)
  · simp only [Bool.true_and, if_true]
    by_cases z : l = 0
    · subst z; simp [W.toW_zero]
    · have h0 : 0 < l / Nat.gcd l m := Nat.div_pos (Nat.le_of_dvd (by omega) (Nat.gcd_dvd_left _ _)) hg
      rw [decide_eq_true, decide_eq_true]
      · have h1 : (-(l : Int)) / (Nat.gcd l m : Int) ≤ 0 := by
          have := Int.ediv_le_ediv (c := (Nat.gcd l m : Int)) (by omega) (show -(l : Int) ≤ 0 by omega)
          simpa using this
        rw [if_pos rfl] at hn
        omega
      · rcases Nat.eq_zero_or_pos (W.toW (l / Nat.gcd l m)).length with e | e
        · have := W.toW_nil.1 (List.eq_nil_of_length_eq_zero e); omega
        · exact e

/-- Comparing. -/
def cmpQ (x y : Rat) : Int := if x < y then -1 else if y < x then 1 else 0
theorem cmpF_q {r s : Fr} (hr : r.Ok) (hs : s.Ok) : cmpF r s = cmpQ r.q s.q := by
  rw [cmpF_is hr hs]
  obtain ⟨a1, a2⟩ := hr.q_num
  obtain ⟨b1, b2⟩ := hs.q_num
  unfold cmpI cmpQ
  simp only [Rat.lt_iff, a1, a2, b1, b2]
theorem Fr.Ok.inj {r s : Fr} (hr : r.Ok) (hs : s.Ok) (w1 : W.WF r.num) (w2 : W.WF r.den) (w3 : W.WF s.num) (w4 : W.WF s.den) (h : r.q = s.q) : r = s := by
  rw [← hr.eq w1 w2, ← hs.eq w3 w4, h]

theorem Fr.q_add {r s : Fr} (hr : r.Ok) (hs : s.Ok) : r.q + s.q = mkRat (r.p * (W.val s.den : Int) + s.p * (W.val r.den : Int)) (W.val r.den * W.val s.den) := by
  unfold Fr.q
  exact Rat.mkRat_add_mkRat _ _ (by have := hr.den_pos; omega) (by have := hs.den_pos; omega)
theorem Fr.q_mul (r s : Fr) : r.q * s.q = mkRat (r.p * s.p) (W.val r.den * W.val s.den) := by
  unfold Fr.q
  exact Rat.mkRat_mul_mkRat ..
theorem Fr.q_neg {r : Fr} (hr : r.Ok) : (negF r).q = - r.q := by
  unfold Fr.q
  rw [negF_p hr, Rat.neg_mkRat]; rfl
theorem Fr.q_quo {r s : Fr} (hr : r.Ok) (hs : s.Ok) (h0 : 0 < s.num.length) (neg : Bool) (hn : neg = (r.neg != s.neg)) : r.q / s.q = mkRat (if neg = true then -((W.val r.num * W.val s.den : Nat) : Int) else ((W.val r.num * W.val s.den : Nat) : Int)) (W.val r.den * W.val s.num) := by
  have hd := hr.den_pos
  have he := hs.den_pos
  have hv : 0 < W.val s.num := W.val_pos hs.nn (by intro e; rw [e] at h0; simp at h0)
  have hq : s.q ≠ 0 := by
    unfold Fr.q
    rw [Rat.mkRat_ne_zero (by omega)]
    have := Fr.p_abs s
    omega
  have key : mkRat (if neg = true then -((W.val r.num * W.val s.den : Nat) : Int) else ((W.val r.num * W.val s.den : Nat) : Int)) (W.val r.den * W.val s.num) * s.q = r.q := by
    unfold Fr.q
    rw [Rat.mkRat_mul_mkRat, Rat.mkRat_eq_iff (Nat.ne_of_gt (Nat.mul_pos (Nat.mul_pos hd hv) he)) (by omega)]
    unfold Fr.p
    subst hn
    cases r.neg <;> cases s.neg <;> simp <;> grind
  rw [← key]
  exact Rat.mul_div_cancel hq
end Go.Proofs.Ytmeccjlopmjneaa
