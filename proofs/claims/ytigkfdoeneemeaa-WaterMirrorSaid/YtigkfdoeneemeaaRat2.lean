/- Fractions compared, walked. -/
import Derived.Test.YtigkfdoeneemeaaRat1
import Derived.Deep.RegionHeld3
namespace Go.Proofs.Ytigkfdoeneemeaa
open Go.RowKit

def chk2 (r s : Fr) : Int := if chkF r = 0 then chkF s else chkF r

set_option maxHeartbeats 1000000 in
theorem ratioChecks_any (r s : Fr) (a : Option Addr) (c : Nat) (b : Option Addr) (d : Nat) (a' : Option Addr) (c' : Nat) (b' : Option Addr) (d' : Nat) (w : World) (h : FrA w r a c b d) (k : FrA w s a' c' b' d') :
    Calls Try.prog 164 #[frV r a c b d, frV s a' c' b' d'] w fun e w' => e = .returned (.int .i64 (chk2 r s)) ∧ ∃ x, w' = w.ext x := by
  have K1 := fun (W : World) (hb : Blw w W) => ratioCheck_any r a c b d W (h.blw hb)
  have K2 := fun (W : World) (hb : Blw w W) => ratioCheck_any s a' c' b' d' W (k.blw hb)
  have he : chk2 r s = if chkF r = 0 then chkF s else chkF r := rfl
  generalize chkF r = u at *
  generalize chkF s = v at *
  have HE := Lib.hid he
  clear he
  have H1 := Lib.hid K1
  have H2 := Lib.hid K2
  clear K1 K2 h k
  by_cases hu : u = 0
  · subst hu
    rw [if_pos rfl] at HE
    go_enter Try.func164, Try.ntmps164
    go_wp2_with fail
    refine Calls.mono (H1.out _ (by repeat (first | exact Blw.refl _ | apply Blw.ext | apply Blw.alloc | apply Blw.drewN | apply Blw.drew | refine Blw.setCell ?_ _ _ (by simp)))) ?_
    rintro e w1 ⟨rfl, x1, rfl⟩
    go_wp2_with fail
    refine Calls.mono (H2.out _ (by repeat (first | exact Blw.refl _ | apply Blw.ext | apply Blw.alloc | apply Blw.drewN | apply Blw.drew | refine Blw.setCell ?_ _ _ (by simp)))) ?_
    rintro e w1 ⟨rfl, x2, rfl⟩
    go_wp2
    go_ret
    exact ⟨ret_i64 HE.out.symm, Blw.is (by repeat (first | exact Blw.refl _ | apply Blw.ext | apply Blw.alloc | apply Blw.drewN | apply Blw.drew | refine Blw.setCell ?_ _ _ (by simp)))⟩
  · rw [if_neg hu] at HE
    have q : (u != 0) = true := by simpa using hu
    go_enter Try.func164, Try.ntmps164
    go_wp2_with fail
    refine Calls.mono (H1.out _ (by repeat (first | exact Blw.refl _ | apply Blw.ext | apply Blw.alloc | apply Blw.drewN | apply Blw.drew | refine Blw.setCell ?_ _ _ (by simp)))) ?_
    rintro e w1 ⟨rfl, x1, rfl⟩
    go_wp2
    go_ret
    exact ⟨ret_i64 HE.out.symm, Blw.is (by repeat (first | exact Blw.refl _ | apply Blw.ext | apply Blw.alloc | apply Blw.drewN | apply Blw.drew | refine Blw.setCell ?_ _ _ (by simp)))⟩

set_option maxHeartbeats 400000 in
theorem ratioTimes_any (a b : Option Addr) (l m : List Nat) (c d : Nat) (w : World) (h : Arr w a (u32s l)) (k : Arr w b (u32s m)) (wl : W.WF l) (wm : W.WF m) (nl : W.Nrm l) (nm : W.Nrm m) (hs : l.length + m.length ≤ 8192) :
    Calls Try.prog 165 #[.slice a l.length c, .slice b m.length d] w (RetW w (W.val l * W.val m)) := by
  have hm := natMul_any a b l m c d w h k wl wm nl nm hs
  clear h k
  go_enter Try.func165, Try.ntmps165
  go_wp2_with fail
  refine Calls.mono hm ?_
  rintro e w1 ⟨a1, c1, rfl, hb, o1⟩
  clear hm
  go_wp2
  go_ret
  exact RetOwn.of o1 hb

def cmpF (r s : Fr) : Int := if r.neg = true ∧ s.neg = true then W.cmpN (W.val s.num * W.val r.den) (W.val r.num * W.val s.den) else if r.neg = true then -1 else if s.neg = true then 1 else W.cmpN (W.val r.num * W.val s.den) (W.val s.num * W.val r.den)

set_option maxHeartbeats 400000 in
theorem ratioCompare_bad (r s : Fr) (a : Option Addr) (c : Nat) (b : Option Addr) (d : Nat) (a' : Option Addr) (c' : Nat) (b' : Option Addr) (d' : Nat) (w : World) (h : FrA w r a c b d) (k : FrA w s a' c' b' d') (hu : ¬ chk2 r s = 0) :
    Calls Try.prog 140 #[frV r a c b d, frV s a' c' b' d'] w fun e w' => e = .returned (.tuple #[.int .i64 0, .int .i64 (chk2 r s)]) ∧ ∃ x, w' = w.ext x := by
  have K1 := fun (W : World) (hb : Blw w W) => ratioChecks_any r s a c b d a' c' b' d' W (h.blw hb) (k.blw hb)
  generalize chk2 r s = u at *
  have H1 := Lib.hid K1
  have q : (u != 0) = true := by simpa using hu
  clear K1 h k
  go_enter Try.func140, Try.ntmps140
  go_wp2_with fail
  refine Calls.mono (H1.out _ (by repeat (first | exact Blw.refl _ | apply Blw.ext | apply Blw.alloc | apply Blw.drewN | apply Blw.drew | refine Blw.setCell ?_ _ _ (by simp)))) ?_
  rintro e w1 ⟨rfl, x1, rfl⟩
  go_wp2
  go_ret2
  exact ⟨rfl, Blw.is (by repeat (first | exact Blw.refl _ | apply Blw.ext | apply Blw.alloc | apply Blw.drewN | apply Blw.drew | refine Blw.setCell ?_ _ _ (by simp)))⟩

theorem Fr.Ok.len {r s : Fr} (h : r.Ok) (k : s.Ok) : r.num.length + s.den.length ≤ 8192 ∧ s.num.length + r.den.length ≤ 8192 ∧ r.num.length + s.num.length ≤ 8192 ∧ r.den.length + s.den.length ≤ 8192 := by
  have := h.ln; have := h.ld; have := k.ln; have := k.ld
  omega

theorem cmp_words (X Y : Nat) (p1 : Option Addr) (q1 : Nat) (p2 : Option Addr) (q2 : Nat) (w : World) (h1 : Arr w p1 (u32s (W.toW X))) (h2 : Arr w p2 (u32s (W.toW Y))) (k1 : (W.toW X).length ≤ q1) (k2 : q1 ≤ maxLen) (j1 : (W.toW Y).length ≤ q2) (j2 : q2 ≤ maxLen) :
    Calls Try.prog 154 #[.slice p1 (W.toW X).length q1, .slice p2 (W.toW Y).length q2] w fun e w' => e = .returned (.int .i64 (W.cmpN X Y)) ∧ ∃ x, w' = w.ext x := by
  have := natCompare_any p1 p2 (W.toW X) (W.toW Y) q1 q2 w h1 h2 k1 j1 k2 j2 (W.wf_toW X) (W.wf_toW Y)
  rw [W.val_toW, W.val_toW] at this
  exact this
theorem cmp_words' (X Y : Nat) (p1 : Option Addr) (q1 : Nat) (p2 : Option Addr) (q2 : Nat) (w : World) (h1 : Arr w p1 (u32s (W.toW X))) (h2 : Arr w p2 (u32s (W.toW Y))) (k1 : (W.toW X).length ≤ q1) (k2 : q1 ≤ maxLen) (j1 : (W.toW Y).length ≤ q2) (j2 : q2 ≤ maxLen) :
    Calls Try.prog 154 #[.slice p2 (W.toW Y).length q2, .slice p1 (W.toW X).length q1] w fun e w' => e = .returned (.int .i64 (W.cmpN Y X)) ∧ ∃ x, w' = w.ext x :=
  cmp_words Y X p2 q2 p1 q1 w h2 h1 j1 j2 k1 k2

set_option maxRecDepth 100000 in
set_option maxHeartbeats 4000000 in
theorem ratioCompare_ok (r s : Fr) (a : Option Addr) (c : Nat) (b : Option Addr) (d : Nat) (a' : Option Addr) (c' : Nat) (b' : Option Addr) (d' : Nat) (w : World) (h : FrA w r a c b d) (k : FrA w s a' c' b' d') (hr : r.Ok) (hs : s.Ok) :
    Calls Try.prog 140 #[frV r a c b d, frV s a' c' b' d'] w fun e w' => e = .returned (.tuple #[.int .i64 (cmpF r s), .int .i64 0]) ∧ ∃ x, w' = w.ext x := by
  have K1 := fun (W : World) (hb : Blw w W) => ratioChecks_any r s a c b d a' c' b' d' W (h.blw hb) (k.blw hb)
  rw [show chk2 r s = 0 by unfold chk2; rw [chkF_ok hr, if_pos rfl, chkF_ok hs]] at K1
  have H1 := Lib.hid K1
  have HL := hr.len hs
  obtain ⟨S, hS⟩ : ∃ S : World → Prop, S = fun W => w.heap.size + 1 < W.heap.size ∧ Blw w W ∧ W.cell? ⟨w.heap.size, 0, none⟩ = some (.bool r.neg) ∧ W.cell? ⟨w.heap.size, 1, none⟩ = some (.slice a r.num.length c) ∧ W.cell? ⟨w.heap.size, 2, none⟩ = some (.slice b r.den.length d) ∧
      W.cell? ⟨w.heap.size + 1, 0, none⟩ = some (.bool s.neg) ∧ W.cell? ⟨w.heap.size + 1, 1, none⟩ = some (.slice a' s.num.length c') ∧ W.cell? ⟨w.heap.size + 1, 2, none⟩ = some (.slice b' s.den.length d') := ⟨_, rfl⟩
  have KS : ∀ W W' : World, S W → Blw W W' → S W' := by
    subst hS
    rintro W W' ⟨h1, h2, h3, h4, h5, h6, h7, h8⟩ hb
    exact ⟨Nat.lt_of_lt_of_le h1 hb.size, h2.trans hb, (Below.cell hb (by show w.heap.size < _; omega)).trans h3, (Below.cell hb (by show w.heap.size < _; omega)).trans h4, (Below.cell hb (by show w.heap.size < _; omega)).trans h5, (Below.cell hb h1).trans h6, (Below.cell hb h1).trans h7, (Below.cell hb h1).trans h8⟩
  have SB : ∀ W : World, S W → Blw w W := by
    subst hS
    rintro W ⟨h1, h2, -⟩; exact h2
  have T1 := Lib.hid (fun (W : World) (hb : S W) => ratioTimes_any a b' r.num s.den c d' W (h.an.blw (SB W hb)) (k.ad.blw (SB W hb)) h.wn k.wd hr.nn hs.nd HL.1)
  have T2 := Lib.hid (fun (W : World) (hb : S W) => ratioTimes_any a' b s.num r.den c' d W (k.an.blw (SB W hb)) (h.ad.blw (SB W hb)) k.wn h.wd hs.nn hr.nd HL.2.1)
  have hcm : cmpF r s = if r.neg = true ∧ s.neg = true then W.cmpN (W.val s.num * W.val r.den) (W.val r.num * W.val s.den) else if r.neg = true then -1 else if s.neg = true then 1 else W.cmpN (W.val r.num * W.val s.den) (W.val s.num * W.val r.den) := rfl
  obtain ⟨X, hX⟩ : ∃ X, X = W.val r.num * W.val s.den := ⟨_, rfl⟩
  obtain ⟨Y, hY⟩ : ∃ Y, Y = W.val s.num * W.val r.den := ⟨_, rfl⟩
  rw [← hX] at T1 hcm
  rw [← hY] at T2 hcm
  have HC := Lib.hid hcm
  obtain ⟨rn, rnum, rden⟩ := r
  obtain ⟨sn, snum, sden⟩ := s
  simp only at T1 T2 HC
  have HXY := Lib.hid (cmp_words X Y)
  have HYX := Lib.hid (cmp_words' X Y)
  have HKS := Lib.hid KS
  have HSB := Lib.hid SB
  clear K1 h k hr hs hX hY HL hcm KS SB
  simp only at hS
  go_enter Try.func140, Try.ntmps140
  go_wp2_with fail
  refine Calls.mono (H1.out _ (by repeat (first | exact Blw.refl _ | apply Blw.ext | apply Blw.alloc | apply Blw.drewN | apply Blw.drew | refine Blw.setCell ?_ _ _ (by simp)))) ?_
  rintro e w1 ⟨rfl, x1, rfl⟩
  go_wp2_with fail
  have hS0 : S (((w.alloc (.cells #[.bool rn, .slice a rnum.length c, .slice b rden.length d] 88 (0, 0))).alloc (.cells #[.bool sn, .slice a' snum.length c', .slice b' sden.length d'] 88 (0, 0))).ext x1).drew := by
    rw [hS]
    exact ⟨Nat.lt_of_lt_of_le (by simp) (World.le_ext _ x1), (by repeat (first | exact Blw.refl _ | apply Blw.ext | apply Blw.alloc | apply Blw.drewN | apply Blw.drew | refine Blw.setCell ?_ _ _ (by simp))), by go_simp, by go_simp, by go_simp, by go_simp, by go_simp, by go_simp⟩
  subst hS
  go_region_held3 (fun W => w.heap.size + 1 < W.heap.size ∧ Blw w W ∧ W.cell? ⟨w.heap.size, 0, none⟩ = some (.bool rn) ∧ W.cell? ⟨w.heap.size, 1, none⟩ = some (.slice a rnum.length c) ∧ W.cell? ⟨w.heap.size, 2, none⟩ = some (.slice b rden.length d) ∧
      W.cell? ⟨w.heap.size + 1, 0, none⟩ = some (.bool sn) ∧ W.cell? ⟨w.heap.size + 1, 1, none⟩ = some (.slice a' snum.length c') ∧ W.cell? ⟨w.heap.size + 1, 2, none⟩ = some (.slice b' sden.length d')) (first | assumption | go_keep) (first
    | (go_at_call 165; (with_reducible refine Calls.mono (T1.out _ (by assumption)) ?_); rintro e w9 ⟨p1, q1, y1, rfl, rfl, o1, -, -⟩; have hS1 := HKS.out _ _ (by assumption) (World.blw_ext _ y1))
    | (go_at_call 165; (with_reducible refine Calls.mono (T2.out _ (by assumption)) ?_); rintro e w9 ⟨p2, q2, y2, rfl, rfl, o2, -, -⟩; have hS2 := HKS.out _ _ (by assumption) (World.blw_ext _ y2)))
  all_goals
    obtain ⟨_, _, he, A1, -, k1, k2, -⟩ := own_arr o1
    cases he
    obtain ⟨_, _, he, A2, -, j1, j2, -⟩ := own_arr o2
    cases he
    clear T1 T2 HKS HSB H1 hS0 hS1 hS2 o1 o2
    cases rn <;> cases sn
    · have HV := HC.out
      rw [if_neg (by simp), if_neg (by simp), if_neg (by simp)] at HV
      go_wp2_with fail
      refine Calls.mono (HXY.out _ _ _ _ _ (by first | exact A1 | exact A1.ext _) (by first | exact A2 | exact A2.ext _) k1 k2 j1 j2) ?_
      rintro e w8 ⟨rfl, x8, rfl⟩
      go_wp2
      go_ret2
      exact ⟨by first | (rw [HV]; rfl) | rfl, Blw.is (by repeat (first | exact Blw.refl _ | apply Blw.ext | apply Blw.alloc | apply Blw.drewN | apply Blw.drew | refine Blw.setCell ?_ _ _ (by simp)))⟩
    · have HV := HC.out
      rw [if_neg (by simp), if_neg (by simp), if_pos rfl] at HV
      go_wp2
      go_ret2
      exact ⟨by first | (rw [HV]; rfl) | rfl, Blw.is (by repeat (first | exact Blw.refl _ | apply Blw.ext | apply Blw.alloc | apply Blw.drewN | apply Blw.drew | refine Blw.setCell ?_ _ _ (by simp)))⟩
    · have HV := HC.out
      rw [if_neg (by simp), if_pos rfl] at HV
      go_wp2
      go_ret2
      exact ⟨by first | (rw [HV]; rfl) | rfl, Blw.is (by repeat (first | exact Blw.refl _ | apply Blw.ext | apply Blw.alloc | apply Blw.drewN | apply Blw.drew | refine Blw.setCell ?_ _ _ (by simp)))⟩
    · have HV := HC.out
      rw [if_pos ⟨rfl, rfl⟩] at HV
      go_wp2_with fail
      refine Calls.mono (HYX.out _ _ _ _ _ (by first | exact A1 | exact A1.ext _) (by first | exact A2 | exact A2.ext _) k1 k2 j1 j2) ?_
      rintro e w8 ⟨rfl, x8, rfl⟩
      go_wp2
      go_ret2
      exact ⟨by first | (rw [HV]; rfl) | rfl, Blw.is (by repeat (first | exact Blw.refl _ | apply Blw.ext | apply Blw.alloc | apply Blw.drewN | apply Blw.drew | refine Blw.setCell ?_ _ _ (by simp)))⟩
end Go.Proofs.Ytigkfdoeneemeaa
