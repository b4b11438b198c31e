/- Several texts, joined. -/
import Derived.Test.YtmeccjlopmjneaaJ1
import Derived.Test.YtmeccjlopmjneaaJ0
import Derived.Deep.DeepCutAuto
set_option linter.unusedVariables false
set_option linter.unusedSimpArgs false
/- Fractions made: lowest, told as a rational number, too long or not. -/
namespace Go.Proofs.Ytmeccjlopmjneaa
open Go.RowKit

/-- A refusal: the fraction of nothing, and the error. -/
theorem RetFr.zero {w w' : World} {er : Int} {e : Ending} (he : e = .returned (.tuple #[frV zF none 0 none 0, .int .i64 er])) (h : Blw w w') : RetFr w zF er e w' :=
  ⟨none, 0, none, 0, he, h, World.ownsRow_nil _ _ _ _, World.ownsRow_nil _ _ _ _⟩

set_option maxRecDepth 100000 in
set_option maxHeartbeats 4000000 in
theorem ratioLowest_long (neg : Bool) (a b : Option Addr) (l m : List Nat) (c d : Nat) (w : World) (h : Arr w a (u32s l)) (k : Arr w b (u32s m)) (hc : l.length ≤ c) (hd : m.length ≤ d) (hcm : c ≤ 9223372036854775807) (hdm : d ≤ 9223372036854775807) (ha : a = none → l.length = 0 ∧ c = 0) (hb : b = none → m.length = 0 ∧ d = 0)
    (wl : W.WF l) (wm : W.WF m) (nl : W.Nrm l) (nm : W.Nrm m) (hl : l.length ≤ 8192) (hm : m.length ≤ 8192) (hm0 : 0 < m.length) (hX : ¬ ((W.toW (W.val l / Nat.gcd (W.val l) (W.val m))).length ≤ 2048 ∧ (W.toW (W.val m / Nat.gcd (W.val l) (W.val m))).length ≤ 2048)) :
    Calls Try.prog 80 #[.bool neg, .slice a l.length c, .slice b m.length d] w (RetFr w zF 3) := by
  have GC := fun (W : World) (hb' : Blw w W) => natGcd_any a b l m c d W (h.blw hb') (k.blw hb') ha hb wl wm nl nm hl hm
  have vm : 0 < W.val m := W.val_pos nm (by intro e; rw [e] at hm0; simp at hm0)
  obtain ⟨G, hG⟩ : ∃ G, Nat.gcd (W.val l) (W.val m) = G := ⟨_, rfl⟩
  have G0 : 0 < G := by rw [← hG]; exact Nat.gcd_pos_of_pos_right _ vm
  have GB : G ≤ W.val m := by rw [← hG]; exact Nat.gcd_le_right _ vm
  have gl : (W.toW G).length ≤ 8192 := by
    refine Nat.le_trans ?_ hm
    have := W.len_toW_le.2 (Nat.lt_of_le_of_lt GB (W.val_lt wm))
    exact this
  have g0 : 0 < (W.toW G).length := by
    rcases Nat.eq_zero_or_pos (W.toW G).length with e | e
    · have := W.toW_nil.1 (List.eq_nil_of_length_eq_zero e); omega
    · exact e
  rw [hG] at hX GC
  have xl : (W.toW (W.val l / G)).length ≤ 8192 := Nat.le_trans (W.len_toW_le.2 (Nat.lt_of_le_of_lt (Nat.div_le_self _ _) (W.val_lt wl))) hl
  have yl : (W.toW (W.val m / G)).length ≤ 8192 := Nat.le_trans (W.len_toW_le.2 (Nat.lt_of_le_of_lt (Nat.div_le_self _ _) (W.val_lt wm))) hm
  have D1 := fun (W' : World) (hb' : Blw w W') (a3 : Option Addr) (c3 : Nat) (o3 : Arr W' a3 (u32s (W.toW G))) (k3 : (W.toW G).length ≤ c3) (k4 : c3 ≤ 9223372036854775807) => natDivMod_any a a3 l (W.toW G) c c3 W' (h.blw hb') o3 hc k3 hcm k4 ha wl (W.wf_toW G) nl (W.nrm_toW G) hl g0 gl
  have D2 := fun (W' : World) (hb' : Blw w W') (a3 : Option Addr) (c3 : Nat) (o3 : Arr W' a3 (u32s (W.toW G))) (k3 : (W.toW G).length ≤ c3) (k4 : c3 ≤ 9223372036854775807) => natDivMod_any b a3 m (W.toW G) d c3 W' (k.blw hb') o3 hd k3 hdm k4 hb wm (W.wf_toW G) nm (W.nrm_toW G) hm g0 gl
  simp only [W.val_toW] at D1 D2
  generalize W.val l / G = X at *
  generalize W.val m / G = Y at *
  generalize W.val l % G = X2 at *
  generalize W.val m % G = Y2 at *
  have HG := Lib.hid GC
  have HD1 := Lib.hid D1
  have HD2 := Lib.hid D2
  clear GC D1 D2 hG GB G0 vm h k
  have hF0 : (w.alloc (.cells #[.bool false, .slice none 0 0, .slice none 0 0] 34)).heap[w.heap.size]? = some (.cells #[.bool false, .slice none 0 0, .slice none 0 0] 34 (0, 0)) := heap_alloc_new _ _
  have l1 : (W.toW X).length ≤ 9223372036854775807 := by omega
  have l2 : (W.toW Y).length ≤ 9223372036854775807 := by omega
  by_cases f : 2048 < (W.toW X).length
  case' pos => have f1 : decide ((2048 : Int) < ((W.toW X).length : Int)) = true := by simp; omega
  case' neg =>
    have f1 : decide ((2048 : Int) < ((W.toW X).length : Int)) = false := by simp; omega
    have f2 : decide ((2048 : Int) < ((W.toW Y).length : Int)) = true := by simp; omega
  all_goals
    clear hX f
    go_enter Try.func80, Try.ntmps80
    go_wp2_with fail
    refine Calls.mono (HG.out _ (by repeat (first | exact Blw.refl _ | apply Blw.ext | apply Blw.alloc | apply Blw.drewN | apply Blw.drew | refine Blw.setCell ?_ _ _ (by simp)))) ?_
    rintro e w2 ⟨a3, c3, rfl, hb2, o3⟩
    obtain ⟨a4, c4, he, k1, k2, k3, k4, k5⟩ := own_arr o3
    cases he
    have hbw2 : Blw w w2 := ((Blw.refl w).alloc _).trans hb2
    have hF2 := (KeptO.of_blw (O := fun _ => False) hb2).heap hF0 id
    clear o3 k2 k5 hF0
    go_wp2_with fail
    refine Calls.mono (HD1.out w2 hbw2 a3 c3 k1 k3 k4) ?_
    rintro e w3 ⟨p1, q1, p2, q2, rfl, hb3, oX, -⟩
    have hF3 := (KeptO.of_blw (O := fun _ => False) hb3).heap hF2 id
    go_wp2_with fail
    refine Calls.mono (HD2.out w3 (hbw2.trans hb3) a3 c3 (k1.blw hb3) k3 k4) ?_
    rintro e w4 ⟨p3, q3, p4, q4, rfl, hb4, oY, -⟩
    have hF4 := (KeptO.of_blw (O := fun _ => False) hb4).heap hF3 id
    have hbw4 := (hbw2.trans hb3).trans hb4
    clear hF2 hF3 oX oY hb4 hb3 hb2 hbw2 k1
    obtain ⟨hfz, d0, d1, d2, r0, r1, r2⟩ := three hF4 (.bool false) (.slice none 0 0) (.slice none 0 0)
    go_wp2_with (go_at_call 119; refine (ratioLong_any _ _ _ _ (by omega)).mono ?_; rintro e w' ⟨rfl, h9⟩; subst h9)
    exact bodyPost_ret (v := .tuple #[.agg #[.bool false, .slice none 0 0, .slice none 0 0], .int .i64 3]) (by simp [results, Try.results80, go_sem, r0, r1, r2]) rfl (RetFr.zero rfl (blw_three hbw4 (Nat.le_refl _) _ _ _))

/-- lowest, as a rational number. -/
theorem ratioLowest_q (neg : Bool) (a b : Option Addr) (l m : List Nat) (c d : Nat) (w : World) (h : Arr w a (u32s l)) (k : Arr w b (u32s m)) (hc : l.length ≤ c) (hd : m.length ≤ d) (hcm : c ≤ 9223372036854775807) (hdm : d ≤ 9223372036854775807) (ha : a = none → l.length = 0 ∧ c = 0) (hb : b = none → m.length = 0 ∧ d = 0)
    (wl : W.WF l) (wm : W.WF m) (nl : W.Nrm l) (nm : W.Nrm m) (hl : l.length ≤ 8192) (hm : m.length ≤ 8192) (hm0 : W.val m ≠ 0) (x : Rat) (hx : x = mkRat (if neg = true then -(W.val l : Int) else W.val l) (W.val m)) :
    Calls Try.prog 80 #[.bool neg, .slice a l.length c, .slice b m.length d] w (RetFr w (resQ x).1 (resQ x).2) := by
  have lq := low_q neg (W.val l) (W.val m) hm0
  rw [← hx] at lq
  have m0 : 0 < m.length := by
    cases m with
    | nil => exact absurd rfl hm0
    | cons => simp
  have e1 : (frQ x).num = W.toW (W.val l / Nat.gcd (W.val l) (W.val m)) := by rw [← lq]
  have e2 : (frQ x).den = W.toW (W.val m / Nat.gcd (W.val l) (W.val m)) := by rw [← lq]
  by_cases f : fits x = true
  · have e0 : resQ x = (frQ x, 0) := by unfold resQ; rw [if_pos f]
    rw [e0]
    obtain ⟨f1, f2⟩ := fits_iff.1 f
    have f1 : (frQ x).num.length ≤ 2048 := f1
    have f2 : (frQ x).den.length ≤ 2048 := f2
    have := ratioLowest_any neg a b l m c d w h k hc hd hcm hdm ha hb wl wm nl nm hl hm m0 (by rw [← W.len_toW_le, ← e1]; exact f1) (by rw [← W.len_toW_le, ← e2]; exact f2)
    rw [lq] at this
    exact this
  · have e0 : resQ x = (zF, 3) := by unfold resQ; rw [if_neg f]
    rw [e0]
    refine ratioLowest_long neg a b l m c d w h k hc hd hcm hdm ha hb wl wm nl nm hl hm m0 ?_
    rw [← e1, ← e2]
    exact fun q => f (fits_iff.2 q)
end Go.Proofs.Ytmeccjlopmjneaa
/- Walks of the reference's natural numbers (slackwaterref01): checks, words. -/
namespace Go.Proofs.Ytmeccjlopmjneaa
open Go.RowKit

end Go.Proofs.Ytmeccjlopmjneaa
/- The walk of slackwaterref01.Times. -/
namespace Go.Proofs.Ytmeccjlopmjneaa
open Go.RowKit

end Go.Proofs.Ytmeccjlopmjneaa
/- The walk of slackwaterref01.Compare, told. -/
namespace Go.Proofs.Ytmeccjlopmjneaa
open Go.RowKit

theorem W.val_split' (l : List Nat) (k : Nat) : W.val l = W.val (l.take k) + W.pw k * W.val (l.drop k) := by
  rcases Nat.lt_or_ge l.length k with h | h
  · rw [List.take_of_length_le (by omega), List.drop_eq_nil_of_le (by omega), W.val, Nat.mul_zero, Nat.add_zero]
  · exact W.val_split l k h
theorem W.val_take_lt {l : List Nat} (h : W.WF l) (k : Nat) : W.val (l.take k) < W.pw k := by
  have h1 := W.val_lt (h.take k)
  exact Nat.lt_of_lt_of_le h1 (Nat.pow_le_pow_right (by decide) (by simp; omega))
theorem W.val_drop' (l : List Nat) (k : Nat) : W.val (l.drop k) = l.getD k 0 + 4294967296 * W.val (l.drop (k + 1)) := by
  rcases Nat.lt_or_ge k l.length with h | h
  · have e : l[k]? = some l[k] := List.getElem?_eq_getElem h
    rw [val_drop e, List.getD_eq_getElem?_getD, e]; rfl
  · rw [List.drop_eq_nil_of_le h, List.drop_eq_nil_of_le (by omega), List.getD_eq_getElem?_getD, List.getElem?_eq_none h]; rfl
theorem W.cmp_at {a b : List Nat} (ha : W.WF a) (k : Nat) (hd : W.val (a.drop (k + 1)) = W.val (b.drop (k + 1))) (h : a.getD k 0 < b.getD k 0) : W.val a < W.val b := by
  rw [W.val_split' a k, W.val_split' b k, W.val_drop' a k, W.val_drop' b k, hd]
  have h1 := W.val_take_lt ha k
  generalize a.getD k 0 = x at *
  generalize b.getD k 0 = y at *
  generalize W.val (b.drop (k + 1)) = t
  have h2 : W.pw k * (x + 4294967296 * t + 1) ≤ W.pw k * (y + 4294967296 * t) := Nat.mul_le_mul_left _ (by omega)
  rw [Nat.mul_add _ _ 1, Nat.mul_one] at h2
  omega

end Go.Proofs.Ytmeccjlopmjneaa
/- Walks of slackwaterref01: Of, Plus. -/
namespace Go.Proofs.Ytmeccjlopmjneaa
open Go.RowKit

theorem W.val_take_succ' (l : List Nat) (k : Nat) : W.val (l.take (k + 1)) = W.val (l.take k) + W.pw k * l.getD k 0 := by
  rcases Nat.lt_or_ge k l.length with h | h
  · have e : l[k]? = some l[k] := List.getElem?_eq_getElem h
    rw [W.val_take_succ e, List.getD_eq_getElem?_getD, e]; rfl
  · rw [List.take_of_length_le (by omega), List.take_of_length_le h, List.getD_eq_getElem?_getD, List.getElem?_eq_none h]; simp only [Option.getD_none, Nat.mul_zero, Nat.add_zero]
theorem W.getD_lt {l : List Nat} (h : W.WF l) (k : Nat) : l.getD k 0 < 4294967296 := by
  rw [List.getD_eq_getElem?_getD]
  rcases e : l[k]? with _ | x
  · decide
  · exact h.at e
end Go.Proofs.Ytmeccjlopmjneaa
/- Walks of package nat: Add, less, Sub. -/
namespace Go.Proofs.Ytmeccjlopmjneaa
open Go.RowKit
abbrev ISge : Bool := false
abbrev ISlt : Bool := true
set_option maxRecDepth 100000 in
set_option maxHeartbeats 2000000 in
theorem natAdd_ge (a b : Option Addr) (l m : List Nat) (c d : Nat) (w : World) (h : Arr w a (u32s l)) (k : Arr w b (u32s m)) (wl : W.WF l) (wm : W.WF m) (nl : W.Nrm l) (nm : W.Nrm m) (hl : l.length ≤ 8191) (hm : m.length ≤ 8191) (hge : decide (l.length < m.length) = ISge) :
    Calls Try.prog 137 #[.slice a l.length c, .slice b m.length d] w (RetOk w (W.val l + W.val m)) := by
  have hNm : m.length ≤ l.length := by first | (have := of_decide_eq_true hge; omega) | (have := of_decide_eq_false hge; omega)
  have hN8 : l.length ≤ 8191 := by omega
  have c1 := chk_zero (l := l) (by omega) nl
  have c2 := chk_zero (l := m) (by omega) nm
  have hck := natChecked_any a b l m c d w h k (by omega) (by omega)
  rw [c1, if_pos rfl, c2] at hck
  have h8 := @Nat.le_trans l.length 8191 9223372036854775807 hN8 (by decide)
  go_enter Try.func137, Try.ntmps137
  go_wp2_with (first | (with_reducible refine Calls.mono hck ?_; rintro e w' ⟨rfl, hw⟩; have hw := hw.symm; subst hw) | (refine wpList_words _ rfl _ _ rfl .i64 .i64 _ _ (l.length + 1) rfl rfl (by omega) (by omega) (by omega) ?_; intro w1 hbk hb1))
  go_loopw [8, 30] (fun cr i wr => ∃ (j c' : Nat) (ds : List Nat), j ≤ l.length ∧ i = .int .i64 j ∧ cr = .int .u64 c' ∧ c' ≤ 1 ∧ Bk wr w.heap.size ds ∧ Blw w wr ∧ Hid (ds.length = l.length + 1) ∧ Hid (W.WF ds) ∧ Hid (W.val (ds.take j) + W.pw j * c' = W.val (l.take j) + W.val (m.take j))) (fun _ i _ => (l.length - intOf i).toNat)
  case atStart => exact ⟨0, 0, _, by omega, rfl, rfl, by decide, hbk, hb1, List.length_replicate, W.WF.rep _, by (show _ = _; rw [List.take_zero, List.take_zero, List.take_zero, W.val, Nat.mul_zero])⟩
  case round =>
    obtain ⟨j, cr, ds, hj, rfl, rfl, hc, hg, hB, hdl, hdw, hdv⟩ := hrel
    by_cases h0 : j < l.length
    · have hjd : j < ds.length := by rw [hdl.out]; omega
      obtain ⟨z, hz, hz1, hz2⟩ := hg.elem (k := j) hjd
      obtain ⟨x, b2, o2, -, -, hx, ha2, hr1, hr2⟩ := (h.blw hB).elem (k := j) h0
      have T1 := Lib.hid (W.val_take_succ' l j)
      have T2 := Lib.hid (W.val_take_succ' m j)
      have gx : Hid (l.getD j 0 = x) := by show _ = _; rw [List.getD_eq_getElem?_getD, hx.out]; rfl
      have xl : x < 4294967296 := by first | exact wl.at hx.out | exact wm.at hx.out
      by_cases h1 : j < m.length
      · obtain ⟨y, b3, o3, -, -, hy, ha3, hr3, hr4⟩ := (k.blw hB).elem (k := j) h1
        have yl : y < 4294967296 := by first | exact wl.at hy.out | exact wm.at hy.out
        have gy : Hid (m.getD j 0 = y) := by show _ = _; rw [List.getD_eq_getElem?_getD, hy.out]; rfl
        have c1 : decide ((j : Int) < (l.length : Int)) = true := by simp; omega
        have c2 : decide ((j : Int) < (m.length : Int)) = true := by simp; omega
        have KEY : Hid (∀ u' c' : Nat, u' + 4294967296 * c' = cr + x + y → W.val (ds.take j) + W.pw j * u' + W.pw (j + 1) * c' = W.val (l.take (j + 1)) + W.val (m.take (j + 1))) := fun u' c' f5 => by rw [T1.out, T2.out, gx.out, gy.out]; exact back_step hdv.out f5
        subst ha2 ha3
        clear T1 T2 gx gy
        go_wp2
        go_roundw
        case rel => exact ⟨j + 1, (x + y + cr) / 4294967296, ds.set j ((x + y + cr) % 4294967296), by omega, by go_num, u64_of (by omega), by omega, hg.set _ (u32_of (by omega)), hB.setCell _ _ (Nat.le_refl _), by (show _ = _; rw [List.length_set]; exact hdl.out), hdw.out.set _ (by omega), by
          show _ = _
          rw [W.val_take_set_end _ hjd]
          exact KEY.out _ _ (by omega)⟩
        case measure => (first | (simp [intOf]; done) | (simp [intOf]; omega))
      · have gy : Hid (m.getD j 0 = 0) := by show _ = _; rw [List.getD_eq_getElem?_getD, List.getElem?_eq_none (by omega)]; rfl
        have c1 : decide ((j : Int) < (l.length : Int)) = true := by simp; omega
        have c2 : decide ((j : Int) < (m.length : Int)) = false := by simp; omega
        have KEY : Hid (∀ u' c' : Nat, u' + 4294967296 * c' = cr + x + 0 → W.val (ds.take j) + W.pw j * u' + W.pw (j + 1) * c' = W.val (l.take (j + 1)) + W.val (m.take (j + 1))) := fun u' c' f5 => by rw [T1.out, T2.out, gx.out, gy.out]; exact back_step hdv.out f5
        subst ha2
        clear T1 T2 gx gy
        go_wp2
        go_roundw
        case rel => exact ⟨j + 1, (x + cr) / 4294967296, ds.set j ((x + cr) % 4294967296), by omega, by go_num, u64_of (by omega), by omega, hg.set _ (u32_of (by omega)), hB.setCell _ _ (Nat.le_refl _), by (show _ = _; rw [List.length_set]; exact hdl.out), hdw.out.set _ (by omega), by
          show _ = _
          rw [W.val_take_set_end _ hjd]
          exact KEY.out _ _ (by omega)⟩
        case measure => (first | (simp [intOf]; done) | (simp [intOf]; omega))
    · have : j = l.length := by omega
      subst this
      have c1 : decide (((l.length : Nat) : Int) < (l.length : Int)) = false := by simp
      have hjd : l.length < ds.length := by rw [hdl.out]; omega
      obtain ⟨z, hz, hz1, hz2⟩ := hg.elem (k := l.length) hjd
      have e1 : W.val (ds.set l.length cr) = W.val l + W.val m := by
        have e0 := W.val_take_set_end cr hjd
        rw [List.take_of_length_le (by rw [List.length_set, hdl.out]; omega)] at e0
        rw [e0, hdv.out, List.take_of_length_le (Nat.le_refl _), List.take_of_length_le hNm]
        try omega
      have g2 : Bk (wr.setCell ⟨w.heap.size, l.length, none⟩ (.int .u32 (cr : Int))) w.heap.size (ds.set l.length cr) := hg.set _ rfl
      have ll : (ds.set l.length cr).length = l.length + 1 := by rw [List.length_set]; exact hdl.out
      have wf2 : W.WF (ds.set l.length cr) := hdw.out.set _ (by omega)
      have hB2 : Blw w (wr.setCell ⟨w.heap.size, l.length, none⟩ (.int .u32 (cr : Int))) := hB.setCell _ _ (Nat.le_refl _)
      have htd := natTold_any (some ⟨w.heap.size, 0, none⟩) (ds.set l.length cr) (l.length + 1) (wr.setCell ⟨w.heap.size, l.length, none⟩ (.int .u32 (cr : Int))) g2.arr (by omega) (by omega) (by omega) wf2
      have hle := W.toW_len_le wf2
      rw [if_neg (by omega), e1, ll] at htd
      have own := own_cut (c := l.length + 1) (a := some ⟨w.heap.size, 0, none⟩) (by have := g2.own (Nat.le_refl _) (by rw [ll]; exact Nat.le_trans (Nat.succ_le_succ hN8) (by decide)); rw [ll] at this; rw [ll]; exact this) wf2
      rw [e1] at own
      have cm : IntKind.u32.wrap (cr : Int) = (cr : Int) := by rw [IntKind.wrap_u32]; omega
      have HT := Lib.hid htd
      have H1 := Lib.hid e1
      clear e1 htd hle
      go_wp2_with fail
      refine Calls.mono HT.out ?_
      rintro e w2 ⟨rfl, rfl⟩
      go_wp2
      go_ret2
      exact ⟨_, _, rfl, hB2, own⟩
set_option maxRecDepth 100000 in
set_option maxHeartbeats 2000000 in
theorem natAdd_lt (a b : Option Addr) (l m : List Nat) (c d : Nat) (w : World) (h : Arr w a (u32s l)) (k : Arr w b (u32s m)) (wl : W.WF l) (wm : W.WF m) (nl : W.Nrm l) (nm : W.Nrm m) (hl : l.length ≤ 8191) (hm : m.length ≤ 8191) (hge : decide (l.length < m.length) = ISlt) :
    Calls Try.prog 137 #[.slice a l.length c, .slice b m.length d] w (RetOk w (W.val l + W.val m)) := by
  have hNm : l.length ≤ m.length := by first | (have := of_decide_eq_true hge; omega) | (have := of_decide_eq_false hge; omega)
  have hN8 : m.length ≤ 8191 := by omega
  have c1 := chk_zero (l := l) (by omega) nl
  have c2 := chk_zero (l := m) (by omega) nm
  have hck := natChecked_any a b l m c d w h k (by omega) (by omega)
  rw [c1, if_pos rfl, c2] at hck
  have h8 := @Nat.le_trans m.length 8191 9223372036854775807 hN8 (by decide)
  go_enter Try.func137, Try.ntmps137
  go_wp2_with (first | (with_reducible refine Calls.mono hck ?_; rintro e w' ⟨rfl, hw⟩; have hw := hw.symm; subst hw) | (refine wpList_words _ rfl _ _ rfl .i64 .i64 _ _ (m.length + 1) rfl rfl (by omega) (by omega) (by omega) ?_; intro w1 hbk hb1))
  go_loopw [8, 30] (fun cr i wr => ∃ (j c' : Nat) (ds : List Nat), j ≤ m.length ∧ i = .int .i64 j ∧ cr = .int .u64 c' ∧ c' ≤ 1 ∧ Bk wr w.heap.size ds ∧ Blw w wr ∧ Hid (ds.length = m.length + 1) ∧ Hid (W.WF ds) ∧ Hid (W.val (ds.take j) + W.pw j * c' = W.val (m.take j) + W.val (l.take j))) (fun _ i _ => (m.length - intOf i).toNat)
  case atStart => exact ⟨0, 0, _, by omega, rfl, rfl, by decide, hbk, hb1, List.length_replicate, W.WF.rep _, by (show _ = _; rw [List.take_zero, List.take_zero, List.take_zero, W.val, Nat.mul_zero])⟩
  case round =>
    obtain ⟨j, cr, ds, hj, rfl, rfl, hc, hg, hB, hdl, hdw, hdv⟩ := hrel
    by_cases h0 : j < m.length
    · have hjd : j < ds.length := by rw [hdl.out]; omega
      obtain ⟨z, hz, hz1, hz2⟩ := hg.elem (k := j) hjd
      obtain ⟨x, b2, o2, -, -, hx, ha2, hr1, hr2⟩ := (k.blw hB).elem (k := j) h0
      have T1 := Lib.hid (W.val_take_succ' m j)
      have T2 := Lib.hid (W.val_take_succ' l j)
      have gx : Hid (m.getD j 0 = x) := by show _ = _; rw [List.getD_eq_getElem?_getD, hx.out]; rfl
      have xl : x < 4294967296 := by first | exact wl.at hx.out | exact wm.at hx.out
      by_cases h1 : j < l.length
      · obtain ⟨y, b3, o3, -, -, hy, ha3, hr3, hr4⟩ := (h.blw hB).elem (k := j) h1
        have yl : y < 4294967296 := by first | exact wl.at hy.out | exact wm.at hy.out
        have gy : Hid (l.getD j 0 = y) := by show _ = _; rw [List.getD_eq_getElem?_getD, hy.out]; rfl
        have c1 : decide ((j : Int) < (m.length : Int)) = true := by simp; omega
        have c2 : decide ((j : Int) < (l.length : Int)) = true := by simp; omega
        have KEY : Hid (∀ u' c' : Nat, u' + 4294967296 * c' = cr + x + y → W.val (ds.take j) + W.pw j * u' + W.pw (j + 1) * c' = W.val (m.take (j + 1)) + W.val (l.take (j + 1))) := fun u' c' f5 => by rw [T1.out, T2.out, gx.out, gy.out]; exact back_step hdv.out f5
        subst ha2 ha3
        clear T1 T2 gx gy
        go_wp2
        go_roundw
        case rel => exact ⟨j + 1, (x + y + cr) / 4294967296, ds.set j ((x + y + cr) % 4294967296), by omega, by go_num, u64_of (by omega), by omega, hg.set _ (u32_of (by omega)), hB.setCell _ _ (Nat.le_refl _), by (show _ = _; rw [List.length_set]; exact hdl.out), hdw.out.set _ (by omega), by
          show _ = _
          rw [W.val_take_set_end _ hjd]
          exact KEY.out _ _ (by omega)⟩
        case measure => (first | (simp [intOf]; done) | (simp [intOf]; omega))
      · have gy : Hid (l.getD j 0 = 0) := by show _ = _; rw [List.getD_eq_getElem?_getD, List.getElem?_eq_none (by omega)]; rfl
        have c1 : decide ((j : Int) < (m.length : Int)) = true := by simp; omega
        have c2 : decide ((j : Int) < (l.length : Int)) = false := by simp; omega
        have KEY : Hid (∀ u' c' : Nat, u' + 4294967296 * c' = cr + x + 0 → W.val (ds.take j) + W.pw j * u' + W.pw (j + 1) * c' = W.val (m.take (j + 1)) + W.val (l.take (j + 1))) := fun u' c' f5 => by rw [T1.out, T2.out, gx.out, gy.out]; exact back_step hdv.out f5
        subst ha2
        clear T1 T2 gx gy
        go_wp2
        go_roundw
        case rel => exact ⟨j + 1, (x + cr) / 4294967296, ds.set j ((x + cr) % 4294967296), by omega, by go_num, u64_of (by omega), by omega, hg.set _ (u32_of (by omega)), hB.setCell _ _ (Nat.le_refl _), by (show _ = _; rw [List.length_set]; exact hdl.out), hdw.out.set _ (by omega), by
          show _ = _
          rw [W.val_take_set_end _ hjd]
          exact KEY.out _ _ (by omega)⟩
        case measure => (first | (simp [intOf]; done) | (simp [intOf]; omega))
    · have : j = m.length := by omega
      subst this
      have c1 : decide (((m.length : Nat) : Int) < (m.length : Int)) = false := by simp
      have hjd : m.length < ds.length := by rw [hdl.out]; omega
      obtain ⟨z, hz, hz1, hz2⟩ := hg.elem (k := m.length) hjd
      have e1 : W.val (ds.set m.length cr) = W.val l + W.val m := by
        have e0 := W.val_take_set_end cr hjd
        rw [List.take_of_length_le (by rw [List.length_set, hdl.out]; omega)] at e0
        rw [e0, hdv.out, List.take_of_length_le (Nat.le_refl _), List.take_of_length_le hNm]
        try omega
      have g2 : Bk (wr.setCell ⟨w.heap.size, m.length, none⟩ (.int .u32 (cr : Int))) w.heap.size (ds.set m.length cr) := hg.set _ rfl
      have ll : (ds.set m.length cr).length = m.length + 1 := by rw [List.length_set]; exact hdl.out
      have wf2 : W.WF (ds.set m.length cr) := hdw.out.set _ (by omega)
      have hB2 : Blw w (wr.setCell ⟨w.heap.size, m.length, none⟩ (.int .u32 (cr : Int))) := hB.setCell _ _ (Nat.le_refl _)
      have htd := natTold_any (some ⟨w.heap.size, 0, none⟩) (ds.set m.length cr) (m.length + 1) (wr.setCell ⟨w.heap.size, m.length, none⟩ (.int .u32 (cr : Int))) g2.arr (by omega) (by omega) (by omega) wf2
      have hle := W.toW_len_le wf2
      rw [if_neg (by omega), e1, ll] at htd
      have own := own_cut (c := m.length + 1) (a := some ⟨w.heap.size, 0, none⟩) (by have := g2.own (Nat.le_refl _) (by rw [ll]; exact Nat.le_trans (Nat.succ_le_succ hN8) (by decide)); rw [ll] at this; rw [ll]; exact this) wf2
      rw [e1] at own
      have cm : IntKind.u32.wrap (cr : Int) = (cr : Int) := by rw [IntKind.wrap_u32]; omega
      have HT := Lib.hid htd
      have H1 := Lib.hid e1
      clear e1 htd hle
      go_wp2_with fail
      refine Calls.mono HT.out ?_
      rintro e w2 ⟨rfl, rfl⟩
      go_wp2
      go_ret2
      exact ⟨_, _, rfl, hB2, own⟩

theorem natAdd_any (a b : Option Addr) (l m : List Nat) (c d : Nat) (w : World) (h : Arr w a (u32s l)) (k : Arr w b (u32s m)) (wl : W.WF l) (wm : W.WF m) (nl : W.Nrm l) (nm : W.Nrm m) (hl : l.length ≤ 8191) (hm : m.length ≤ 8191) :
    Calls Try.prog 137 #[.slice a l.length c, .slice b m.length d] w (RetOk w (W.val l + W.val m)) := by
  by_cases q : l.length < m.length
  · exact natAdd_lt a b l m c d w h k wl wm nl nm hl hm (decide_eq_true q)
  · exact natAdd_ge a b l m c d w h k wl wm nl nm hl hm (decide_eq_false q)
end Go.Proofs.Ytmeccjlopmjneaa
/- Walks of package nat: less, Sub. -/
namespace Go.Proofs.Ytmeccjlopmjneaa
open Go.RowKit

theorem less_word (u t b : Nat) (hu : u < 4294967296) (ht : t < 4294967296) (hb : b ≤ 1) :
    ∃ u' b' : Nat, IntKind.u64.wrap (IntKind.u64.wrap ((u : Int) - (b : Int)) - (t : Int)) % 4294967296 = (u' : Int) ∧ IntKind.u64.wrap (IntKind.u64.wrap ((u : Int) - (b : Int)) - (t : Int)) / 9223372036854775808 = (b' : Int) ∧
      u' < 4294967296 ∧ b' ≤ 1 ∧ u' + t + b = u + 4294967296 * b' := by
  by_cases h : t + b ≤ u
  · refine ⟨u - t - b, 0, ?_, ?_, ?_, ?_, ?_⟩
    · rw [IntKind.wrap_u64, IntKind.wrap_u64]; omega
    · rw [IntKind.wrap_u64, IntKind.wrap_u64]; omega
    · omega
    · omega
    · omega
  · refine ⟨u + 4294967296 - t - b, 1, ?_, ?_, ?_, ?_, ?_⟩
    · rw [IntKind.wrap_u64, IntKind.wrap_u64]; omega
    · rw [IntKind.wrap_u64, IntKind.wrap_u64]; omega
    · omega
    · omega
    · omega
theorem less_step {A A0 Vk k b y u u' b' : Nat} (h : A + Vk = A0 + W.pw k * b) (e : u' + y + b = u + 4294967296 * b') :
    (A + W.pw k * u') + (Vk + W.pw k * y) = (A0 + W.pw k * u) + W.pw (k + 1) * b' := by
  have := off_step (A := A) (A0 := A0) (Vk := Vk) (k := k) (c := 0) (b := b) (q := 1) (y := y) (u := u) (u' := u') (c' := 0) (b' := b') (by rw [Nat.one_mul, Nat.zero_add]; exact h) (by omega)
  rw [Nat.one_mul, Nat.zero_add] at this
  exact this

set_option maxRecDepth 100000 in
set_option maxHeartbeats 2000000 in
theorem natLess_any (g o : Nat) (pre post : List Value) (l v : List Nat) (bv : Option Addr) (cap cv : Nat) (w : World) (ho : pre.length = o) (h : Wn w g pre l post) (hv : Arr w bv (u32s v)) (hne : 0 < v.length → ∀ a, bv = some a → a.block ≠ g)
    (hl : l.length ≤ 1000000) (hvl : v.length ≤ l.length) (wl : W.WF l) (wv : W.WF v) (hge : W.val v ≤ W.val l) (hc : l.length ≤ cap) (hcm : cap ≤ 9223372036854775807) :
    Calls Try.prog 163 #[.slice (some ⟨g, o, none⟩) l.length cap, .slice bv v.length cv] w fun e w' => ∃ u : List Nat, e = .returned (.slice (some ⟨g, o, none⟩) (W.toW (W.val l - W.val v)).length cap) ∧
      Wn w' g pre u post ∧ W.WF u ∧ u.length = l.length ∧ W.val u = W.val l - W.val v ∧ KeptO (· = g) w w' := by
  subst ho
  have HGE := Lib.hid hge
  clear hge
  go_enter Try.func163, Try.ntmps163
  go_wp2_with fail
  go_loopw [5, 10] (fun b i wr => ∃ (k b' : Nat) (ds : List Nat), k ≤ l.length ∧ i = .int .i64 k ∧ b = .int .u64 b' ∧ b' ≤ 1 ∧ Wn wr g pre ds post ∧ KeptO (· = g) w wr ∧ Hid (ds.length = l.length) ∧ Hid (W.WF ds) ∧ Hid (ds.drop k = l.drop k) ∧
    Hid (W.val (ds.take k) + W.val (v.take k) = W.val (l.take k) + W.pw k * b')) (fun _ i _ => (l.length - intOf i).toNat)
  case atStart => exact ⟨0, 0, l, Nat.zero_le _, rfl, rfl, by decide, h, KeptO.refl w, rfl, wl, rfl, by (show _ = _; rw [List.take_zero, List.take_zero, W.val, Nat.mul_zero])⟩
  case round =>
    obtain ⟨k, b, ds, hk, rfl, rfl, hb, hg, hw, hdl, hdw, hdd, hdv⟩ := hrel
    by_cases h0 : k < l.length
    · have hkd : k < ds.length := by rw [hdl.out]; omega
      obtain ⟨x, hx, hx1, hx2⟩ := hg.elem (k := k) hkd
      have hxl := hdw.out.at hx.out
      have hlx : Hid (l[k]? = some x) := by
        show l[k]? = some x
        have := congrArg (fun t : List Nat => t[0]?) hdd.out
        simp only [List.getElem?_drop, Nat.add_zero] at this
        rw [← this]; exact hx.out
      have hdd2 : Hid (ds.drop (k + 1) = l.drop (k + 1)) := by
        show _ = _
        have := congrArg (List.drop 1) hdd.out
        rwa [List.drop_drop, List.drop_drop] at this
      by_cases h1 : k < v.length
      · obtain ⟨y, b2, o2, -, -, hy, rfl, hr1, hr2⟩ := (hw.arr hv (fun a ha => hne (by omega) a ha)).elem (k := k) h1
        have hyl := wv.at hy.out
        have i1 : (k : Int) < (v.length : Int) := by omega
        go_wp2_with fail
        obtain ⟨u', b', f1, f2, f3, f4, f5⟩ := less_word x y b hxl hyl hb
        rw [f1, f2]
        have key := less_step hdv.out f5
        rw [← W.val_take_succ hy.out, ← W.val_take_succ hlx.out, ← W.val_take_set_end _ hkd] at key
        clear f1 f2 f5
        go_roundw
        case rel => exact ⟨k + 1, b', ds.set k u', h0, by go_num, u64_of (by omega), f4, hg.set hkd rfl, hw.setCell _ _ (.inl rfl), by (show _ = _; rw [List.length_set]; exact hdl.out), hdw.out.set _ f3, by (show _ = _; rw [List.drop_set_of_lt (Nat.lt_succ_self k)]; exact hdd2.out), key⟩
        case measure => (first | (simp [intOf]; done) | (simp [intOf]; omega))
      · have i1 : decide ((k : Int) < (v.length : Int)) = false := by simp; omega
        go_wp2_with fail
        have key : ∃ u' b' : Nat, IntKind.u64.wrap ((x : Int) - (b : Int)) % 4294967296 = (u' : Int) ∧ IntKind.u64.wrap ((x : Int) - (b : Int)) / 9223372036854775808 = (b' : Int) ∧
            u' < 4294967296 ∧ b' ≤ 1 ∧ u' + 0 + b = x + 4294967296 * b' := by
          obtain ⟨u', b', f1, f2, f3, f4, f5⟩ := less_word x 0 b hxl (by decide) hb
          rw [IntKind.wrap_u64] at f1 f2
          rw [show (IntKind.u64.wrap ((x : Int) - (b : Int)) - ((0 : Nat) : Int)) = IntKind.u64.wrap ((x : Int) - (b : Int)) by simp, ] at f1 f2
          rw [IntKind.wrap_u64] at f1 f2
          refine ⟨u', b', ?_, ?_, f3, f4, f5⟩
          · rw [IntKind.wrap_u64]; omega
          · rw [IntKind.wrap_u64]; omega
        obtain ⟨u', b', f1, f2, f3, f4, f5⟩ := key
        rw [f1, f2]
        have key := less_step hdv.out f5
        have evt : v.take k = v.take (k + 1) := by rw [List.take_of_length_le (by omega), List.take_of_length_le (by omega)]
        rw [Nat.mul_zero, Nat.add_zero, evt, ← W.val_take_succ hlx.out, ← W.val_take_set_end _ hkd] at key
        go_roundw
        case rel => exact ⟨k + 1, b', ds.set k u', h0, by go_num, u64_of (by omega), f4, hg.set hkd rfl, hw.setCell _ _ (.inl rfl), by (show _ = _; rw [List.length_set]; exact hdl.out), hdw.out.set _ f3, by (show _ = _; rw [List.drop_set_of_lt (Nat.lt_succ_self k)]; exact hdd2.out), key⟩
        case measure => (first | (simp [intOf]; done) | (simp [intOf]; omega))
    · have : k = l.length := by omega
      subst this
      have e1 : W.val ds + W.val v = W.val l + W.pw l.length * b := by
        have := hdv.out
        rw [List.take_length, ← hdl.out, List.take_length, List.take_of_length_le (by rw [hdl.out]; omega), hdl.out] at this
        exact this
      have hb0 : b = 0 := by
        have h1 := W.val_lt hdw.out
        rw [hdl.out] at h1
        have := HGE.out
        rcases Nat.lt_or_ge b 1 with e | e
        · omega
        · exfalso
          have e : b = 1 := by omega
          rw [e, Nat.mul_one] at e1
          omega
      subst hb0
      have e2 : W.val ds = W.val l - W.val v := by rw [Nat.mul_zero] at e1; omega
      have i1 : decide (((l.length : Nat) : Int) < (l.length : Int)) = false := by simp
      have hcut := natCut_any (some ⟨g, pre.length, none⟩) ds cap wr hg.arr (by rw [hdl.out]; exact hc) hcm hdw.out
      rw [e2, hdl.out] at hcut
      clear e1 e2
      go_wp2_with fail
      refine Calls.mono hcut ?_
      rintro e w2 ⟨rfl, rfl⟩
      go_wp2
      go_ret
      refine ⟨ds, rfl, hg, hdw.out, hdl.out, ?_, hw⟩
      have e1 := hdv.out
      rw [Nat.mul_zero, List.take_length, ← hdl.out, List.take_length, List.take_of_length_le (by rw [hdl.out]; omega)] at e1
      omega

set_option maxRecDepth 100000 in
set_option maxHeartbeats 1000000 in
theorem natLess_nil (a : Option Addr) (cap : Nat) (bv : Option Addr) (cv : Nat) (w : World) (h : Arr w a (u32s [])) (hcm : cap ≤ 9223372036854775807) :
    Calls Try.prog 163 #[.slice a 0 cap, .slice bv 0 cv] w fun e w' => e = .returned (.slice a 0 cap) ∧ w' = w := by
  have hcut := natCut_any a [] cap w h (Nat.zero_le _) hcm W.WF.nil
  rw [show W.val [] = 0 from rfl, W.toW_zero] at hcut
  have hcut : Calls Try.prog 157 #[.slice a 0 cap] w fun e w' => e = .returned (.slice a 0 cap) ∧ w' = w := hcut
  go_enter Try.func163, Try.ntmps163
  go_wp2_with fail
  go_loopw [10] (fun i wr => i = .int .i64 0 ∧ wr = w) (fun _ _ => 0)
  case atStart => exact ⟨rfl, rfl⟩
  case round =>
    obtain ⟨rfl, rfl⟩ := hrel
    go_wp2_with fail
    refine Calls.mono hcut ?_
    rintro e w2 ⟨rfl, rfl⟩
    go_wp2
    go_ret
    exact ⟨rfl, rfl⟩
end Go.Proofs.Ytmeccjlopmjneaa
/- The walk of nat.Sub. -/
namespace Go.Proofs.Ytmeccjlopmjneaa
open Go.RowKit

set_option maxRecDepth 100000 in
set_option maxHeartbeats 2000000 in
theorem natSub_any (a b : Option Addr) (l m : List Nat) (c d : Nat) (w : World) (h : Arr w a (u32s l)) (k : Arr w b (u32s m)) (hc : l.length ≤ c) (hd : m.length ≤ d) (hcm : c ≤ 9223372036854775807) (hdm : d ≤ 9223372036854775807) (ha : a = none → l.length = 0 ∧ c = 0)
    (wl : W.WF l) (wm : W.WF m) (nl : W.Nrm l) (nm : W.Nrm m) (hl : l.length ≤ 8192) (hm : m.length ≤ 8192) (hge : W.val m ≤ W.val l) :
    Calls Try.prog 138 #[.slice a l.length c, .slice b m.length d] w (RetOk w (W.val l - W.val m)) := by
  have c1 := chk_zero (l := l) (by omega) nl
  have c2 := chk_zero (l := m) (by omega) nm
  have hck := natChecked_any a b l m c d w h k (by omega) (by omega)
  rw [c1, if_pos rfl, c2] at hck
  have hcp := natCompare_any a b l m c d w h k hc hd hcm hdm wl wm
  have g1 : decide (W.cmpN (W.val l) (W.val m) < 0) = false := by rw [cmp_lt]; simpa using hge
  have hlen : m.length ≤ l.length := by
    rcases Nat.lt_or_ge l.length m.length with e | e
    · have := W.val_lt_len wl nm e; omega
    · exact e
  have HGE := Lib.hid hge
  have HCP := Lib.hid hcp
  clear hcp hge
  by_cases h0 : l.length = 0
  · have e1 : l = [] := List.eq_nil_of_length_eq_zero h0
    have e2 : m = [] := List.eq_nil_of_length_eq_zero (by omega)
    have K0 := fun (W : World) => cloneWords_any a l c W
    subst e1 e2
    go_enter Try.func138, Try.ntmps138
    go_wp2_with fail
    refine Calls.mono hck ?_
    rintro e w' ⟨rfl, hw⟩
    have hw := hw.symm
    subst hw
    go_wp2_with fail
    refine Calls.mono HCP.out ?_
    rintro e w1 ⟨rfl, x1, rfl⟩
    go_wp2_with fail
    refine Calls.mono (K0 _ (h.ext x1) ha (by simp)) ?_
    rintro e w2 ⟨a2, k2, x2, rfl, rfl, o2, r2, z2⟩
    obtain ⟨_, _, ee, ar2, -, nc2, cm2, -⟩ := own_arr o2
    cases ee
    go_wp2_with fail
    refine Calls.mono (natLess_nil a2 k2 b d _ ar2 cm2) ?_
    rintro e w3 ⟨rfl, rfl⟩
    go_wp2
    go_ret2
    refine ⟨a2, k2, ?_, ((Blw.refl w).ext x1).ext x2, ?_⟩
    · rw [show W.val ([] : List Nat) = 0 from rfl, Nat.sub_zero, W.toW_zero]; rfl
    · rw [show W.val ([] : List Nat) = 0 from rfl, Nat.sub_zero, W.toW_zero]; exact ownsRow_mono o2 (w.le_ext x1)
  · have K0 := fun (W : World) (q : Arr W a (u32s l)) => cloneWords_new a l c W q (by omega) (by omega)
    go_enter Try.func138, Try.ntmps138
    go_wp2_with fail
    refine Calls.mono hck ?_
    rintro e w' ⟨rfl, hw⟩
    have hw := hw.symm
    subst hw
    go_wp2_with fail
    refine Calls.mono HCP.out ?_
    rintro e w1 ⟨rfl, x1, rfl⟩
    go_wp2_with fail
    refine Calls.mono (K0 _ (h.ext x1)) ?_
    rintro e w2 ⟨g, post, x2, rfl, rfl, hg, hW, hml⟩
    have hne : 0 < m.length → ∀ q, b = some q → q.block ≠ g := by
      rintro m0 q rfl
      rcases k with hk | ⟨b1, o1, e, hb, -⟩
      · exfalso
        have : m = [] := by simpa using hk
        rw [this] at m0
        simp at m0
      · cases e
        have := w.le_ext x1
        show b1 ≠ g
        omega
    have hls := natLess_any g 0 [] post l m b (l.length + post.length) d _ rfl hW ((k.ext x1).ext x2) hne (by omega) hlen wl wm HGE.out (by omega) hml
    have HLS := Lib.hid hls
    clear hls
    go_wp2_with fail
    refine Calls.mono HLS.out ?_
    rintro e w3 ⟨u, rfl, hWu, wu, lu, vu, hk3⟩
    have hb3 : Blw w w3 := KeptO.blw (((Blw.refl w).ext x1).ext x2) hk3 (fun i e => by subst e; exact Nat.le_trans (w.le_ext x1) hg)
    have own := own_cut (c := l.length + post.length) (a := some ⟨g, 0, none⟩) (by have := hWu.own (B := w.heap.size) (Nat.le_trans (w.le_ext x1) hg) (by rw [lu]; exact hml); rw [lu] at this; rw [lu]; exact this) wu
    rw [vu] at own
    go_wp2
    go_ret2
    exact ⟨_, _, rfl, hb3, own⟩
end Go.Proofs.Ytmeccjlopmjneaa
/- The walk of ratio.plus. -/
namespace Go.Proofs.Ytmeccjlopmjneaa
open Go.RowKit

/-- A natural number in memory, in its one form. -/
structure NatA (w : World) (n : Nat) (p : Option Addr) (q : Nat) : Prop where
  arr : Arr w p (u32s (W.toW n))
  ln : (W.toW n).length ≤ q
  mx : q ≤ 9223372036854775807
  nn : p = none → (W.toW n).length = 0 ∧ q = 0
theorem NatA.blw {w w' : World} {n : Nat} {p : Option Addr} {q : Nat} (h : NatA w n p q) (k : Blw w w') : NatA w' n p q := ⟨h.arr.blw k, h.ln, h.mx, h.nn⟩
theorem NatA.own {w : World} {B n : Nat} {p : Option Addr} {q : Nat} (h : w.ownsRow B 44 1 (.slice p (W.toW n).length q) (W.toW n).length (u32s (W.toW n))) : NatA w n p q := by
  obtain ⟨a', c', e, h1, h2, h3, h4, h5⟩ := own_arr h
  cases e
  exact ⟨h1, h3, h4, h5⟩

theorem lowestN (neg : Bool) (X D : Nat) (p : Option Addr) (q : Nat) (p' : Option Addr) (q' : Nat) (w : World) (h : NatA w X p q) (k : NatA w D p' q') (hD : D ≠ 0) (lx : (W.toW X).length ≤ 8192) (ld : (W.toW D).length ≤ 8192) (x : Rat) (hx : x = mkRat (if neg = true then -(X : Int) else X) D) :
    Calls Try.prog 80 #[.bool neg, .slice p (W.toW X).length q, .slice p' (W.toW D).length q'] w (RetFr w (resQ x).1 (resQ x).2) :=
  ratioLowest_q neg p p' (W.toW X) (W.toW D) q q' w h.arr k.arr h.ln k.ln h.mx k.mx h.nn k.nn (W.wf_toW _) (W.wf_toW _) (W.nrm_toW _) (W.nrm_toW _) lx ld (by rw [W.val_toW]; exact hD) x (by rw [W.val_toW, W.val_toW]; exact hx)
theorem addN (X Y : Nat) (p : Option Addr) (q : Nat) (p' : Option Addr) (q' : Nat) (w : World) (h : NatA w X p q) (k : NatA w Y p' q') (lx : (W.toW X).length ≤ 8191) (ly : (W.toW Y).length ≤ 8191) :
    Calls Try.prog 137 #[.slice p (W.toW X).length q, .slice p' (W.toW Y).length q'] w (RetOk w (X + Y)) := by
  have := natAdd_any p p' (W.toW X) (W.toW Y) q q' w h.arr k.arr (W.wf_toW _) (W.wf_toW _) (W.nrm_toW _) (W.nrm_toW _) lx ly
  rwa [W.val_toW, W.val_toW] at this
theorem subN (X Y : Nat) (p : Option Addr) (q : Nat) (p' : Option Addr) (q' : Nat) (w : World) (h : NatA w X p q) (k : NatA w Y p' q') (lx : (W.toW X).length ≤ 8192) (ly : (W.toW Y).length ≤ 8192) (hle : Y ≤ X) :
    Calls Try.prog 138 #[.slice p (W.toW X).length q, .slice p' (W.toW Y).length q'] w (RetOk w (X - Y)) := by
  have := natSub_any p p' (W.toW X) (W.toW Y) q q' w h.arr k.arr h.ln k.ln h.mx k.mx h.nn (W.wf_toW _) (W.wf_toW _) (W.nrm_toW _) (W.nrm_toW _) lx ly (by rw [W.val_toW, W.val_toW]; exact hle)
  rwa [W.val_toW, W.val_toW] at this
theorem cmpNat (X Y : Nat) (p : Option Addr) (q : Nat) (p' : Option Addr) (q' : Nat) (w : World) (h : NatA w X p q) (k : NatA w Y p' q') :
    Calls Try.prog 117 #[.slice p (W.toW X).length q, .slice p' (W.toW Y).length q'] w fun e w' => e = .returned (.int .i64 (W.cmpN X Y)) ∧ ∃ x, w' = w.ext x :=
  cmp_words X Y p q p' q' w h.arr k.arr h.ln h.mx k.ln k.mx
/-- A product, as a number in memory. -/
def RetNat (w : World) (n : Nat) (e : Ending) (w' : World) : Prop := ∃ (p : Option Addr) (q : Nat), e = .returned (.slice p (W.toW n).length q) ∧ NatA w' n p q ∧ Blw w w'
theorem timesN (a b : Option Addr) (l m : List Nat) (c d : Nat) (w : World) (h : Arr w a (u32s l)) (k : Arr w b (u32s m)) (wl : W.WF l) (wm : W.WF m) (nl : W.Nrm l) (nm : W.Nrm m) (hs : l.length + m.length ≤ 8192) :
    Calls Try.prog 129 #[.slice a l.length c, .slice b m.length d] w (RetNat w (W.val l * W.val m)) :=
  (ratioTimes_any a b l m c d w h k wl wm nl nm hs).mono fun e w' ⟨p, q, x, e1, e2, o, _⟩ => by subst e2; exact ⟨p, q, e1, NatA.own o, World.blw_ext _ x⟩

theorem mul_len {l m : List Nat} (wl : W.WF l) (wm : W.WF m) {j k : Nat} (hl : l.length ≤ j) (hm : m.length ≤ k) : (W.toW (W.val l * W.val m)).length ≤ j + k := by
  rw [W.len_toW_le, W.pw_add]
  have h1 := W.val_lt wl
  have h2 := W.val_lt wm
  have h3 : W.pw l.length ≤ W.pw j := Nat.pow_le_pow_right (by decide) hl
  have h4 : W.pw m.length ≤ W.pw k := Nat.pow_le_pow_right (by decide) hm
  exact Nat.lt_of_lt_of_le (Nat.mul_lt_mul'' h1 h2) (Nat.mul_le_mul h3 h4)
theorem add_len {X Y j : Nat} (hx : (W.toW X).length ≤ j) (hy : (W.toW Y).length ≤ j) : (W.toW (X + Y)).length ≤ j + 1 := by
  rw [W.len_toW_le, W.pw_succ]
  rw [W.len_toW_le] at hx hy
  omega
theorem sub_len {X Y j : Nat} (hx : (W.toW X).length ≤ j) : (W.toW (X - Y)).length ≤ j := by
  rw [W.len_toW_le] at hx ⊢
  omega
theorem Fr.p_mul (r : Fr) (m : Nat) : r.p * (m : Int) = if r.neg = true then -((W.val r.num * m : Nat) : Int) else ((W.val r.num * m : Nat) : Int) := by
  unfold Fr.p
  split
  · rw [Int.neg_mul, Int.natCast_mul]
  · rw [Int.natCast_mul]
/-- The sum's numerator, by its signs. -/
theorem plus_sum {r s : Fr} (hr : r.Ok) (hs : s.Ok) : r.q + s.q = mkRat ((if r.neg = true then -((W.val r.num * W.val s.den : Nat) : Int) else ((W.val r.num * W.val s.den : Nat) : Int)) + (if s.neg = true then -((W.val s.num * W.val r.den : Nat) : Int) else ((W.val s.num * W.val r.den : Nat) : Int))) (W.val r.den * W.val s.den) := by
  rw [Fr.q_add hr hs, Fr.p_mul, Fr.p_mul]

theorem heap3 (w : World) (o1 o2 o3 : Obj) : ((((w.alloc o1).alloc o2).alloc o3).drew).heap[w.heap.size + 2]? = some o3 := by
  have := heap_alloc_new ((w.alloc o1).alloc o2) o3
  rw [show ((w.alloc o1).alloc o2).heap.size = w.heap.size + 2 by simp] at this
  exact this
/-- What lies behind two fractions and a result. -/
abbrev Box2 (w W : World) (rn : Bool) (a : Option Addr) (ln c : Nat) (b : Option Addr) (ld d : Nat) (sn : Bool) (a' : Option Addr) (ln' c' : Nat) (b' : Option Addr) (ld' d' : Nat) : Prop :=
  w.heap.size + 2 < W.heap.size ∧ Blw w W ∧ W.cell? ⟨w.heap.size, 0, none⟩ = some (.bool rn) ∧ W.cell? ⟨w.heap.size, 1, none⟩ = some (.slice a ln c) ∧ W.cell? ⟨w.heap.size, 2, none⟩ = some (.slice b ld d) ∧
      W.cell? ⟨w.heap.size + 1, 0, none⟩ = some (.bool sn) ∧ W.cell? ⟨w.heap.size + 1, 1, none⟩ = some (.slice a' ln' c') ∧ W.cell? ⟨w.heap.size + 1, 2, none⟩ = some (.slice b' ld' d') ∧ W.heap[w.heap.size + 2]? = some (.cells #[.bool false, .slice none 0 0, .slice none 0 0] 34 (0, 0))
theorem Box2.blw {w W W' : World} {rn : Bool} {a : Option Addr} {ln c : Nat} {b : Option Addr} {ld d : Nat} {sn : Bool} {a' : Option Addr} {ln' c' : Nat} {b' : Option Addr} {ld' d' : Nat} (h : Box2 w W rn a ln c b ld d sn a' ln' c' b' ld' d') (hb : Blw W W') : Box2 w W' rn a ln c b ld d sn a' ln' c' b' ld' d' := by
  obtain ⟨h1, h2, h3, h4, h5, h6, h7, h8, h9⟩ := h
  have e0 : w.heap.size < W.heap.size := by omega
  have e1 : w.heap.size + 1 < W.heap.size := by omega
  exact ⟨Nat.lt_of_lt_of_le h1 hb.size, h2.trans hb, (Below.cell hb e0).trans h3, (Below.cell hb e0).trans h4, (Below.cell hb e0).trans h5, (Below.cell hb e1).trans h6, (Below.cell hb e1).trans h7, (Below.cell hb e1).trans h8, (KeptO.of_blw (O := fun _ => False) hb).heap h9 id⟩

theorem Box2.b {w W : World} {rn : Bool} {a : Option Addr} {ln c : Nat} {b : Option Addr} {ld d : Nat} {sn : Bool} {a' : Option Addr} {ln' c' : Nat} {b' : Option Addr} {ld' d' : Nat} (h : Box2 w W rn a ln c b ld d sn a' ln' c' b' ld' d') : Blw w W := h.2.1

set_option maxRecDepth 100000 in
set_option maxHeartbeats 4000000 in
theorem ratioPlus_ok (r s : Fr) (a : Option Addr) (c : Nat) (b : Option Addr) (d : Nat) (a' : Option Addr) (c' : Nat) (b' : Option Addr) (d' : Nat) (w : World) (h : FrA w r a c b d) (k : FrA w s a' c' b' d') (hr : r.Ok) (hs : s.Ok) :
    Calls Try.prog 86 #[frV r a c b d, frV s a' c' b' d'] w (RetFr w (resQ (r.q + s.q)).1 (resQ (r.q + s.q)).2) := by
  have l1 := hr.ln; have l2 := hr.ld; have l3 := hs.ln; have l4 := hs.ld
  have T1 := Lib.hid (fun (W : World) (hb : Blw w W) => timesN a b' r.num s.den c d' W (h.an.blw hb) (k.ad.blw hb) h.wn k.wd hr.nn hs.nd (by omega))
  have T2 := Lib.hid (fun (W : World) (hb : Blw w W) => timesN a' b s.num r.den c' d W (k.an.blw hb) (h.ad.blw hb) k.wn h.wd hs.nn hr.nd (by omega))
  have T3 := Lib.hid (fun (W : World) (hb : Blw w W) => timesN b b' r.den s.den d d' W (h.ad.blw hb) (k.ad.blw hb) h.wd k.wd hr.nd hs.nd (by omega))
  have lX : (W.toW (W.val r.num * W.val s.den)).length ≤ 4096 := mul_len (j := 2048) (k := 2048) h.wn k.wd l1 l4
  have lY : (W.toW (W.val s.num * W.val r.den)).length ≤ 4096 := mul_len (j := 2048) (k := 2048) k.wn h.wd l3 l2
  have lD : (W.toW (W.val r.den * W.val s.den)).length ≤ 4096 := mul_len (j := 2048) (k := 2048) h.wd k.wd l2 l4
  have D0 : W.val r.den * W.val s.den ≠ 0 := Nat.ne_of_gt (Nat.mul_pos hr.den_pos hs.den_pos)
  have HQ := Lib.hid (plus_sum hr hs)
  generalize r.q + s.q = x at *
  obtain ⟨rn, rnum, rden⟩ := r
  obtain ⟨sn, snum, sden⟩ := s
  simp only at T1 T2 T3 lX lY lD D0 HQ l1 l2 l3 l4
  generalize W.val rnum * W.val sden = X at *
  generalize W.val snum * W.val rden = Y at *
  generalize W.val rden * W.val sden = D at *
  clear h k hr hs
  go_enter Try.func86, Try.ntmps86
  go_upto_region 1 with fail
  go_cut [6, 7, 8] (fun s6 s7 s8 wx => ∃ (p1 : Option Addr) (q1 : Nat) (p2 : Option Addr) (q2 : Nat) (p3 : Option Addr) (q3 : Nat), s6 = .slice p1 (W.toW X).length q1 ∧ s7 = .slice p2 (W.toW Y).length q2 ∧ s8 = .slice p3 (W.toW D).length q3 ∧ NatA wx X p1 q1 ∧ NatA wx Y p2 q2 ∧ NatA wx D p3 q3 ∧ Box2 w wx rn a rnum.length c b rden.length d sn a' snum.length c' b' sden.length d')
  case first =>
    have hS0 : Box2 w ((((w.alloc (.cells #[.bool rn, .slice a rnum.length c, .slice b rden.length d] 34 (0, 0))).alloc (.cells #[.bool sn, .slice a' snum.length c', .slice b' sden.length d'] 34 (0, 0))).alloc (.cells #[.bool false, .slice none 0 0, .slice none 0 0] 34 (0, 0))).drew) rn a rnum.length c b rden.length d sn a' snum.length c' b' sden.length d' :=
      ⟨by simp, (by repeat (first | exact Blw.refl _ | apply Blw.ext | apply Blw.alloc | apply Blw.drewN | apply Blw.drew | refine Blw.setCell ?_ _ _ (by simp))), by go_simp, by go_simp, by go_simp, by go_simp, by go_simp, by go_simp, heap3 _ _ _ _⟩
    go_region_held3 (fun wx => w.heap.size + 2 < wx.heap.size ∧ Blw w wx ∧ wx.cell? ⟨w.heap.size, 0, none⟩ = some (.bool rn) ∧ wx.cell? ⟨w.heap.size, 1, none⟩ = some (.slice a rnum.length c) ∧ wx.cell? ⟨w.heap.size, 2, none⟩ = some (.slice b rden.length d) ∧
      wx.cell? ⟨w.heap.size + 1, 0, none⟩ = some (.bool sn) ∧ wx.cell? ⟨w.heap.size + 1, 1, none⟩ = some (.slice a' snum.length c') ∧ wx.cell? ⟨w.heap.size + 1, 2, none⟩ = some (.slice b' sden.length d') ∧ wx.heap[w.heap.size + 2]? = some (.cells #[.bool false, .slice none 0 0, .slice none 0 0] 34 (0, 0))) (first | assumption | go_keep) (first
      | (go_at_call 129; (with_reducible refine Calls.mono (T1.out _ (Box2.b (by assumption))) ?_); rintro e w9 ⟨p1, q1, rfl, n1, b1⟩; have hS1 := Box2.blw (by assumption) b1)
      | (go_at_call 129; (with_reducible refine Calls.mono (T2.out _ (Box2.b (by assumption))) ?_); rintro e w9 ⟨p2, q2, rfl, n2, b2⟩; have hS2 := Box2.blw (by assumption) b2)
      | (go_at_call 129; (with_reducible refine Calls.mono (T3.out _ (Box2.b (by assumption))) ?_); rintro e w9 ⟨p3, q3, rfl, n3, b3⟩; have hS3 := Box2.blw (by assumption) b3))
    all_goals
      go_wp2_with fail
      go_meet
      exact ⟨p1, q1, p2, q2, p3, q3, rfl, rfl, rfl, by first | exact n1 | exact n1.blw b2 | exact n1.blw b3 | exact (n1.blw b2).blw b3 | exact (n1.blw b3).blw b2, by first | exact n2 | exact n2.blw b1 | exact n2.blw b3 | exact (n2.blw b1).blw b3 | exact (n2.blw b3).blw b1, by first | exact n3 | exact n3.blw b2 | exact n3.blw b1 | exact (n3.blw b2).blw b1 | exact (n3.blw b1).blw b2, by first | exact hS1 | exact hS2 | exact hS3⟩
  case rest =>
    obtain ⟨p1, q1, p2, q2, p3, q3, rfl, rfl, rfl, n1, n2, n3, hB⟩ := hcut
    clear T1 T2 T3
    obtain ⟨hs, hb, c0, c1, c2, c3, c4, c5, hF⟩ := hB
    cases rn <;> cases sn
    case false.false =>
      have hq := HQ.out
      go_wp2_with fail
      refine Calls.mono (addN X Y p1 q1 p2 q2 _ n1 n2 (by omega) (by omega)) ?_
      rintro e w4 ⟨p4, q4, rfl, b4, o4⟩
      have n4 := NatA.own o4
      have n3 := n3.blw b4
      have l4 := add_len (j := 4096) lX lY
      obtain ⟨hs, hb, c0, c1, c2, c3, c4, c5, hF⟩ := Box2.blw ⟨hs, hb, c0, c1, c2, c3, c4, c5, hF⟩ b4
      clear o4 b4 n1 n2
      go_wp2_with fail
      refine Calls.mono (lowestN false (X + Y) D p4 q4 p3 q3 _ n4 n3 D0 (by omega) (by omega) x (hq.trans (congrArg (fun z => mkRat z D) (by first | (simp; omega) | simp | omega)))) ?_
      rintro e w5 ⟨pa, qa, pb, qb, rfl, b5, oA, oB⟩
      obtain ⟨-, hb6, -, -, -, -, -, -, hF6⟩ := Box2.blw ⟨hs, hb, c0, c1, c2, c3, c4, c5, hF⟩ b5
      have oA := ownsRow_mono oA (show w.heap.size + 3 ≤ _ from hs)
      have oB := ownsRow_mono oB (show w.heap.size + 3 ≤ _ from hs)
      clear hq HQ hs hb c0 c1 c2 c3 c4 c5 hF n3 n4 b5
      generalize resQ x = R at *
      obtain ⟨⟨n', nu, de⟩, er⟩ := R
      simp only at oA oB
      obtain ⟨hfz, d0, d1, d2, r0, r1, r2⟩ := three hF6 (.bool n') (.slice pa nu.length qa) (.slice pb de.length qb)
      go_wp2_with fail
      exact bodyPost_ret (v := .tuple #[.agg #[.bool n', .slice pa nu.length qa, .slice pb de.length qb], .int .i64 er]) (by simp [results, Try.results86, go_sem, r0, r1, r2]) rfl ⟨pa, qa, pb, qb, rfl, blw_three hb6 (by omega) _ _ _, own_three oA (Nat.lt_succ_self _) _ _ _ |> (ownsRow_mono · (by omega)), own_three oB (Nat.lt_succ_self _) _ _ _ |> (ownsRow_mono · (by omega))⟩
    case false.true =>
      have hq := HQ.out
      by_cases lt : X < Y
      all_goals
        have g1 : decide (W.cmpN X Y < 0) = decide (X < Y) := cmp_lt X Y
        rw [show decide (X < Y) = _ from by first | exact decide_eq_true lt | exact decide_eq_false lt] at g1
        have LT := Lib.hid lt
        clear lt
        go_wp2_with fail
        refine Calls.mono (cmpNat X Y p1 q1 p2 q2 _ n1 n2) ?_
        rintro e wy ⟨rfl, x4, hw⟩
        have b4 : Blw wc wy := by rw [hw]; exact World.blw_ext wc x4
        clear hw x4
        obtain ⟨hs, hb, c0, c1, c2, c3, c4, c5, hF⟩ := Box2.blw ⟨hs, hb, c0, c1, c2, c3, c4, c5, hF⟩ b4
        have n1 := n1.blw b4
        have n2 := n2.blw b4
        have n3 := n3.blw b4
        clear b4
        go_wp2_with fail
      · refine Calls.mono (subN Y X p2 q2 p1 q1 _ n2 n1 (by omega) (by omega) (by have := LT.out; omega)) ?_
        rintro e w4 ⟨p4, q4, rfl, b4, o4⟩
        have n4 := NatA.own o4
        have n3 := n3.blw b4
        have l4 : (W.toW (Y - X)).length ≤ 4096 := sub_len (by assumption)
        obtain ⟨hs, hb, c0, c1, c2, c3, c4, c5, hF⟩ := Box2.blw ⟨hs, hb, c0, c1, c2, c3, c4, c5, hF⟩ b4
        clear o4 b4 n1 n2
        go_wp2_with fail
        refine Calls.mono (lowestN true (Y - X) D p4 q4 p3 q3 _ n4 n3 D0 (by omega) (by omega) x (hq.trans (congrArg (fun z => mkRat z D) (by have := LT.out; first | (simp; omega) | simp | omega)))) ?_
        rintro e w5 ⟨pa, qa, pb, qb, rfl, b5, oA, oB⟩
        obtain ⟨-, hb6, -, -, -, -, -, -, hF6⟩ := Box2.blw ⟨hs, hb, c0, c1, c2, c3, c4, c5, hF⟩ b5
        have oA := ownsRow_mono oA (show w.heap.size + 3 ≤ _ from hs)
        have oB := ownsRow_mono oB (show w.heap.size + 3 ≤ _ from hs)
        clear hq HQ hs hb c0 c1 c2 c3 c4 c5 hF n3 n4 b5
        generalize resQ x = R at *
        obtain ⟨⟨n', nu, de⟩, er⟩ := R
        simp only at oA oB
        obtain ⟨hfz, d0, d1, d2, r0, r1, r2⟩ := three hF6 (.bool n') (.slice pa nu.length qa) (.slice pb de.length qb)
        go_wp2_with fail
        exact bodyPost_ret (v := .tuple #[.agg #[.bool n', .slice pa nu.length qa, .slice pb de.length qb], .int .i64 er]) (by simp [results, Try.results86, go_sem, r0, r1, r2]) rfl ⟨pa, qa, pb, qb, rfl, blw_three hb6 (by omega) _ _ _, own_three oA (Nat.lt_succ_self _) _ _ _ |> (ownsRow_mono · (by omega)), own_three oB (Nat.lt_succ_self _) _ _ _ |> (ownsRow_mono · (by omega))⟩
      · refine Calls.mono (subN X Y p1 q1 p2 q2 _ n1 n2 (by omega) (by omega) (by have := LT.out; omega)) ?_
        rintro e w4 ⟨p4, q4, rfl, b4, o4⟩
        have n4 := NatA.own o4
        have n3 := n3.blw b4
        have l4 : (W.toW (X - Y)).length ≤ 4096 := sub_len (by assumption)
        obtain ⟨hs, hb, c0, c1, c2, c3, c4, c5, hF⟩ := Box2.blw ⟨hs, hb, c0, c1, c2, c3, c4, c5, hF⟩ b4
        clear o4 b4 n1 n2
        go_wp2_with fail
        refine Calls.mono (lowestN false (X - Y) D p4 q4 p3 q3 _ n4 n3 D0 (by omega) (by omega) x (hq.trans (congrArg (fun z => mkRat z D) (by have := LT.out; first | (simp; omega) | simp | omega)))) ?_
        rintro e w5 ⟨pa, qa, pb, qb, rfl, b5, oA, oB⟩
        obtain ⟨-, hb6, -, -, -, -, -, -, hF6⟩ := Box2.blw ⟨hs, hb, c0, c1, c2, c3, c4, c5, hF⟩ b5
        have oA := ownsRow_mono oA (show w.heap.size + 3 ≤ _ from hs)
        have oB := ownsRow_mono oB (show w.heap.size + 3 ≤ _ from hs)
        clear hq HQ hs hb c0 c1 c2 c3 c4 c5 hF n3 n4 b5
        generalize resQ x = R at *
        obtain ⟨⟨n', nu, de⟩, er⟩ := R
        simp only at oA oB
        obtain ⟨hfz, d0, d1, d2, r0, r1, r2⟩ := three hF6 (.bool n') (.slice pa nu.length qa) (.slice pb de.length qb)
        go_wp2_with fail
        exact bodyPost_ret (v := .tuple #[.agg #[.bool n', .slice pa nu.length qa, .slice pb de.length qb], .int .i64 er]) (by simp [results, Try.results86, go_sem, r0, r1, r2]) rfl ⟨pa, qa, pb, qb, rfl, blw_three hb6 (by omega) _ _ _, own_three oA (Nat.lt_succ_self _) _ _ _ |> (ownsRow_mono · (by omega)), own_three oB (Nat.lt_succ_self _) _ _ _ |> (ownsRow_mono · (by omega))⟩
    case true.false =>
      have hq := HQ.out
      by_cases lt : X < Y
      all_goals
        have g1 : decide (W.cmpN X Y < 0) = decide (X < Y) := cmp_lt X Y
        rw [show decide (X < Y) = _ from by first | exact decide_eq_true lt | exact decide_eq_false lt] at g1
        have LT := Lib.hid lt
        clear lt
        go_wp2_with fail
        refine Calls.mono (cmpNat X Y p1 q1 p2 q2 _ n1 n2) ?_
        rintro e wy ⟨rfl, x4, hw⟩
        have b4 : Blw wc wy := by rw [hw]; exact World.blw_ext wc x4
        clear hw x4
        obtain ⟨hs, hb, c0, c1, c2, c3, c4, c5, hF⟩ := Box2.blw ⟨hs, hb, c0, c1, c2, c3, c4, c5, hF⟩ b4
        have n1 := n1.blw b4
        have n2 := n2.blw b4
        have n3 := n3.blw b4
        clear b4
        go_wp2_with fail
      · refine Calls.mono (subN Y X p2 q2 p1 q1 _ n2 n1 (by omega) (by omega) (by have := LT.out; omega)) ?_
        rintro e w4 ⟨p4, q4, rfl, b4, o4⟩
        have n4 := NatA.own o4
        have n3 := n3.blw b4
        have l4 : (W.toW (Y - X)).length ≤ 4096 := sub_len (by assumption)
        obtain ⟨hs, hb, c0, c1, c2, c3, c4, c5, hF⟩ := Box2.blw ⟨hs, hb, c0, c1, c2, c3, c4, c5, hF⟩ b4
        clear o4 b4 n1 n2
        go_wp2_with fail
        refine Calls.mono (lowestN false (Y - X) D p4 q4 p3 q3 _ n4 n3 D0 (by omega) (by omega) x (hq.trans (congrArg (fun z => mkRat z D) (by have := LT.out; first | (simp; omega) | simp | omega)))) ?_
        rintro e w5 ⟨pa, qa, pb, qb, rfl, b5, oA, oB⟩
        obtain ⟨-, hb6, -, -, -, -, -, -, hF6⟩ := Box2.blw ⟨hs, hb, c0, c1, c2, c3, c4, c5, hF⟩ b5
        have oA := ownsRow_mono oA (show w.heap.size + 3 ≤ _ from hs)
        have oB := ownsRow_mono oB (show w.heap.size + 3 ≤ _ from hs)
        clear hq HQ hs hb c0 c1 c2 c3 c4 c5 hF n3 n4 b5
        generalize resQ x = R at *
        obtain ⟨⟨n', nu, de⟩, er⟩ := R
        simp only at oA oB
        obtain ⟨hfz, d0, d1, d2, r0, r1, r2⟩ := three hF6 (.bool n') (.slice pa nu.length qa) (.slice pb de.length qb)
        go_wp2_with fail
        exact bodyPost_ret (v := .tuple #[.agg #[.bool n', .slice pa nu.length qa, .slice pb de.length qb], .int .i64 er]) (by simp [results, Try.results86, go_sem, r0, r1, r2]) rfl ⟨pa, qa, pb, qb, rfl, blw_three hb6 (by omega) _ _ _, own_three oA (Nat.lt_succ_self _) _ _ _ |> (ownsRow_mono · (by omega)), own_three oB (Nat.lt_succ_self _) _ _ _ |> (ownsRow_mono · (by omega))⟩
      · refine Calls.mono (subN X Y p1 q1 p2 q2 _ n1 n2 (by omega) (by omega) (by have := LT.out; omega)) ?_
        rintro e w4 ⟨p4, q4, rfl, b4, o4⟩
        have n4 := NatA.own o4
        have n3 := n3.blw b4
        have l4 : (W.toW (X - Y)).length ≤ 4096 := sub_len (by assumption)
        obtain ⟨hs, hb, c0, c1, c2, c3, c4, c5, hF⟩ := Box2.blw ⟨hs, hb, c0, c1, c2, c3, c4, c5, hF⟩ b4
        clear o4 b4 n1 n2
        go_wp2_with fail
        refine Calls.mono (lowestN true (X - Y) D p4 q4 p3 q3 _ n4 n3 D0 (by omega) (by omega) x (hq.trans (congrArg (fun z => mkRat z D) (by have := LT.out; first | (simp; omega) | simp | omega)))) ?_
        rintro e w5 ⟨pa, qa, pb, qb, rfl, b5, oA, oB⟩
        obtain ⟨-, hb6, -, -, -, -, -, -, hF6⟩ := Box2.blw ⟨hs, hb, c0, c1, c2, c3, c4, c5, hF⟩ b5
        have oA := ownsRow_mono oA (show w.heap.size + 3 ≤ _ from hs)
        have oB := ownsRow_mono oB (show w.heap.size + 3 ≤ _ from hs)
        clear hq HQ hs hb c0 c1 c2 c3 c4 c5 hF n3 n4 b5
        generalize resQ x = R at *
        obtain ⟨⟨n', nu, de⟩, er⟩ := R
        simp only at oA oB
        obtain ⟨hfz, d0, d1, d2, r0, r1, r2⟩ := three hF6 (.bool n') (.slice pa nu.length qa) (.slice pb de.length qb)
        go_wp2_with fail
        exact bodyPost_ret (v := .tuple #[.agg #[.bool n', .slice pa nu.length qa, .slice pb de.length qb], .int .i64 er]) (by simp [results, Try.results86, go_sem, r0, r1, r2]) rfl ⟨pa, qa, pb, qb, rfl, blw_three hb6 (by omega) _ _ _, own_three oA (Nat.lt_succ_self _) _ _ _ |> (ownsRow_mono · (by omega)), own_three oB (Nat.lt_succ_self _) _ _ _ |> (ownsRow_mono · (by omega))⟩
    case true.true =>
      have hq := HQ.out
      go_wp2_with fail
      refine Calls.mono (addN X Y p1 q1 p2 q2 _ n1 n2 (by omega) (by omega)) ?_
      rintro e w4 ⟨p4, q4, rfl, b4, o4⟩
      have n4 := NatA.own o4
      have n3 := n3.blw b4
      have l4 := add_len (j := 4096) lX lY
      obtain ⟨hs, hb, c0, c1, c2, c3, c4, c5, hF⟩ := Box2.blw ⟨hs, hb, c0, c1, c2, c3, c4, c5, hF⟩ b4
      clear o4 b4 n1 n2
      go_wp2_with fail
      refine Calls.mono (lowestN true (X + Y) D p4 q4 p3 q3 _ n4 n3 D0 (by omega) (by omega) x (hq.trans (congrArg (fun z => mkRat z D) (by first | (simp; omega) | simp | omega)))) ?_
      rintro e w5 ⟨pa, qa, pb, qb, rfl, b5, oA, oB⟩
      obtain ⟨-, hb6, -, -, -, -, -, -, hF6⟩ := Box2.blw ⟨hs, hb, c0, c1, c2, c3, c4, c5, hF⟩ b5
      have oA := ownsRow_mono oA (show w.heap.size + 3 ≤ _ from hs)
      have oB := ownsRow_mono oB (show w.heap.size + 3 ≤ _ from hs)
      clear hq HQ hs hb c0 c1 c2 c3 c4 c5 hF n3 n4 b5
      generalize resQ x = R at *
      obtain ⟨⟨n', nu, de⟩, er⟩ := R
      simp only at oA oB
      obtain ⟨hfz, d0, d1, d2, r0, r1, r2⟩ := three hF6 (.bool n') (.slice pa nu.length qa) (.slice pb de.length qb)
      go_wp2_with fail
      exact bodyPost_ret (v := .tuple #[.agg #[.bool n', .slice pa nu.length qa, .slice pb de.length qb], .int .i64 er]) (by simp [results, Try.results86, go_sem, r0, r1, r2]) rfl ⟨pa, qa, pb, qb, rfl, blw_three hb6 (by omega) _ _ _, own_three oA (Nat.lt_succ_self _) _ _ _ |> (ownsRow_mono · (by omega)), own_three oB (Nat.lt_succ_self _) _ _ _ |> (ownsRow_mono · (by omega))⟩
end Go.Proofs.Ytmeccjlopmjneaa
/- The walks of ratio.Add, Sub, Mul, Quo: of any two fractions what is told. -/
namespace Go.Proofs.Ytmeccjlopmjneaa
open Go.RowKit

def addF (r s : Fr) : Fr × Int := if chk2 r s = 0 then resQ (r.q + s.q) else (zF, chk2 r s)
def subF (r s : Fr) : Fr × Int := if chk2 r s = 0 then resQ (r.q - s.q) else (zF, chk2 r s)
def mulF (r s : Fr) : Fr × Int := if chk2 r s = 0 then resQ (r.q * s.q) else (zF, chk2 r s)
def quoF (r s : Fr) : Fr × Int := if chk2 r s = 0 then (if s.num.length = 0 then (zF, 7) else resQ (r.q / s.q)) else (zF, chk2 r s)
theorem ok_chk2 {r s : Fr} (h : chk2 r s = 0) : r.Ok ∧ s.Ok := by
  unfold chk2 at h
  by_cases q : chkF r = 0
  · rw [if_pos q] at h; exact ⟨ok_chkF q, ok_chkF h⟩
  · rw [if_neg q] at h; exact absurd h q

/-- A fraction told to a call that holds two boxes and a result's. -/
theorem RetFr.lift {w W w' : World} {rn : Bool} {a : Option Addr} {ln c : Nat} {b : Option Addr} {ld d : Nat} {sn : Bool} {a' : Option Addr} {ln' c' : Nat} {b' : Option Addr} {ld' d' : Nat} {r : Fr} {er : Int} {e : Ending} (h : RetFr W r er e w') (hB : Box2 w W rn a ln c b ld d sn a' ln' c' b' ld' d') :
    ∃ (pa : Option Addr) (qa : Nat) (pb : Option Addr) (qb : Nat), e = .returned (.tuple #[frV r pa qa pb qb, .int .i64 er]) ∧ Box2 w w' rn a ln c b ld d sn a' ln' c' b' ld' d' ∧ w'.ownsRow (w.heap.size + 3) 44 1 (.slice pa r.num.length qa) r.num.length (u32s r.num) ∧ w'.ownsRow (w.heap.size + 3) 44 1 (.slice pb r.den.length qb) r.den.length (u32s r.den) := by
  obtain ⟨pa, qa, pb, qb, he, hb, o1, o2⟩ := h
  exact ⟨pa, qa, pb, qb, he, hB.blw hb, ownsRow_mono o1 hB.1, ownsRow_mono o2 hB.1⟩
theorem box2_0 (w : World) (rn : Bool) (a : Option Addr) (ln c : Nat) (b : Option Addr) (ld d : Nat) (sn : Bool) (a' : Option Addr) (ln' c' : Nat) (b' : Option Addr) (ld' d' : Nat) :
    Box2 w ((((w.alloc (.cells #[.bool rn, .slice a ln c, .slice b ld d] 34 (0, 0))).alloc (.cells #[.bool sn, .slice a' ln' c', .slice b' ld' d'] 34 (0, 0))).alloc (.cells #[.bool false, .slice none 0 0, .slice none 0 0] 34 (0, 0)))) rn a ln c b ld d sn a' ln' c' b' ld' d' :=
  ⟨by simp, (by repeat (first | exact Blw.refl _ | apply Blw.ext | apply Blw.alloc | apply Blw.drewN | apply Blw.drew | refine Blw.setCell ?_ _ _ (by simp))), by go_simp, by go_simp, by go_simp, by go_simp, by go_simp, by go_simp, heap3 _ _ _ _⟩
theorem Box2.to {w W W' x : World} {rn : Bool} {a : Option Addr} {ln c : Nat} {b : Option Addr} {ld d : Nat} {sn : Bool} {a' : Option Addr} {ln' c' : Nat} {b' : Option Addr} {ld' d' : Nat} (h : Box2 w W rn a ln c b ld d sn a' ln' c' b' ld' d') (hw : W' = W.ext x) : Box2 w W' rn a ln c b ld d sn a' ln' c' b' ld' d' := by
  rw [hw]; exact Box2.blw h (World.blw_ext _ x)
theorem Box2.s8 {w W : World} {rn : Bool} {a : Option Addr} {ln c : Nat} {b : Option Addr} {ld d : Nat} {sn : Bool} {a' : Option Addr} {ln' c' : Nat} {b' : Option Addr} {ld' d' : Nat} (h : Box2 w W rn a ln c b ld d sn a' ln' c' b' ld' d') : w.heap.size + 2 < W.heap.size ∧ Blw w W ∧ W.cell? ⟨w.heap.size, 0, none⟩ = some (.bool rn) ∧ W.cell? ⟨w.heap.size, 1, none⟩ = some (.slice a ln c) ∧ W.cell? ⟨w.heap.size, 2, none⟩ = some (.slice b ld d) ∧
      W.cell? ⟨w.heap.size + 1, 0, none⟩ = some (.bool sn) ∧ W.cell? ⟨w.heap.size + 1, 1, none⟩ = some (.slice a' ln' c') ∧ W.cell? ⟨w.heap.size + 1, 2, none⟩ = some (.slice b' ld' d') := ⟨h.1, h.2.1, h.2.2.1, h.2.2.2.1, h.2.2.2.2.1, h.2.2.2.2.2.1, h.2.2.2.2.2.2.1, h.2.2.2.2.2.2.2.1⟩
theorem Box2.three {w W : World} {rn : Bool} {a : Option Addr} {ln c : Nat} {b : Option Addr} {ld d : Nat} {sn : Bool} {a' : Option Addr} {ln' c' : Nat} {b' : Option Addr} {ld' d' : Nat} (h : Box2 w W rn a ln c b ld d sn a' ln' c' b' ld' d') (u0 u1 u2 : Value) :
    (∀ i, W.frozen? ⟨w.heap.size + 2, i, none⟩ = false) ∧ W.cell? ⟨w.heap.size + 2, 0, none⟩ = some (.bool false) ∧ W.cell? ⟨w.heap.size + 2, 1, none⟩ = some (.slice none 0 0) ∧ W.cell? ⟨w.heap.size + 2, 2, none⟩ = some (.slice none 0 0) ∧
    (W.setCell ⟨w.heap.size + 2, 0, none⟩ u0).cell? ⟨w.heap.size + 2, 0, none⟩ = some u0 ∧ ((W.setCell ⟨w.heap.size + 2, 0, none⟩ u0).setCell ⟨w.heap.size + 2, 1, none⟩ u1).cell? ⟨w.heap.size + 2, 1, none⟩ = some u1 ∧ (((W.setCell ⟨w.heap.size + 2, 0, none⟩ u0).setCell ⟨w.heap.size + 2, 1, none⟩ u1).setCell ⟨w.heap.size + 2, 2, none⟩ u2).cell? ⟨w.heap.size + 2, 2, none⟩ = some u2 :=
  Go.Proofs.Ytmeccjlopmjneaa.three h.2.2.2.2.2.2.2.2 u0 u1 u2
theorem cell_set3 {W : World} {g b i : Nat} {x : Option Value} (hlt : b < W.heap.size) (hne : b ≠ g) (u0 u1 u2 : Value) (h : W.cell? ⟨b, i, none⟩ = x) : (((W.setCell ⟨g, 0, none⟩ u0).setCell ⟨g, 1, none⟩ u1).setCell ⟨g, 2, none⟩ u2).cell? ⟨b, i, none⟩ = x := by
  have hk : KeptO (fun k => k = g) W (((W.setCell ⟨g, 0, none⟩ u0).setCell ⟨g, 1, none⟩ u1).setCell ⟨g, 2, none⟩ u2) := ((KeptO.setCell (KeptO.refl (O := fun k => k = g) W) ⟨g, 0, none⟩ u0 (.inl rfl)).setCell ⟨g, 1, none⟩ u1 (.inl rfl)).setCell ⟨g, 2, none⟩ u2 (.inl rfl)
  exact (World.cell?_of_block (a := ⟨b, i, none⟩) (hk.block b hlt hne)).trans h
theorem Box2.set3 {w W : World} {rn : Bool} {a : Option Addr} {ln c : Nat} {b : Option Addr} {ld d : Nat} {sn : Bool} {a' : Option Addr} {ln' c' : Nat} {b' : Option Addr} {ld' d' : Nat} (h : Box2 w W rn a ln c b ld d sn a' ln' c' b' ld' d') (u0 u1 u2 : Value) :
    w.heap.size + 2 < (((W.setCell ⟨w.heap.size + 2, 0, none⟩ u0).setCell ⟨w.heap.size + 2, 1, none⟩ u1).setCell ⟨w.heap.size + 2, 2, none⟩ u2).heap.size ∧ Blw w (((W.setCell ⟨w.heap.size + 2, 0, none⟩ u0).setCell ⟨w.heap.size + 2, 1, none⟩ u1).setCell ⟨w.heap.size + 2, 2, none⟩ u2) ∧ (((W.setCell ⟨w.heap.size + 2, 0, none⟩ u0).setCell ⟨w.heap.size + 2, 1, none⟩ u1).setCell ⟨w.heap.size + 2, 2, none⟩ u2).cell? ⟨w.heap.size, 0, none⟩ = some (.bool rn) ∧ (((W.setCell ⟨w.heap.size + 2, 0, none⟩ u0).setCell ⟨w.heap.size + 2, 1, none⟩ u1).setCell ⟨w.heap.size + 2, 2, none⟩ u2).cell? ⟨w.heap.size, 1, none⟩ = some (.slice a ln c) ∧ (((W.setCell ⟨w.heap.size + 2, 0, none⟩ u0).setCell ⟨w.heap.size + 2, 1, none⟩ u1).setCell ⟨w.heap.size + 2, 2, none⟩ u2).cell? ⟨w.heap.size, 2, none⟩ = some (.slice b ld d) ∧
      (((W.setCell ⟨w.heap.size + 2, 0, none⟩ u0).setCell ⟨w.heap.size + 2, 1, none⟩ u1).setCell ⟨w.heap.size + 2, 2, none⟩ u2).cell? ⟨w.heap.size + 1, 0, none⟩ = some (.bool sn) ∧ (((W.setCell ⟨w.heap.size + 2, 0, none⟩ u0).setCell ⟨w.heap.size + 2, 1, none⟩ u1).setCell ⟨w.heap.size + 2, 2, none⟩ u2).cell? ⟨w.heap.size + 1, 1, none⟩ = some (.slice a' ln' c') ∧ (((W.setCell ⟨w.heap.size + 2, 0, none⟩ u0).setCell ⟨w.heap.size + 2, 1, none⟩ u1).setCell ⟨w.heap.size + 2, 2, none⟩ u2).cell? ⟨w.heap.size + 1, 2, none⟩ = some (.slice b' ld' d') := by
  obtain ⟨h1, h2, h3, h4, h5, h6, h7, h8, -⟩ := h
  exact ⟨by simpa using h1, blw_three h2 (by omega) _ _ _, cell_set3 (by omega) (by omega) _ _ _ h3, cell_set3 (by omega) (by omega) _ _ _ h4, cell_set3 (by omega) (by omega) _ _ _ h5, cell_set3 (by omega) (by omega) _ _ _ h6, cell_set3 (by omega) (by omega) _ _ _ h7, cell_set3 (by omega) (by omega) _ _ _ h8⟩
theorem negF_wf {w : World} {r : Fr} {a : Option Addr} {c : Nat} {b : Option Addr} {d : Nat} (h : FrA w r a c b d) : FrA w (negF r) a c b d := ⟨h.an, h.ad, h.cn, h.cm, h.dn, h.dm, h.na, h.nb, h.wn, h.wd⟩

set_option maxRecDepth 100000 in
set_option maxHeartbeats 1000000 in
theorem ratioAdd_bad (r s : Fr) (a : Option Addr) (c : Nat) (b : Option Addr) (d : Nat) (a' : Option Addr) (c' : Nat) (b' : Option Addr) (d' : Nat) (w : World) (h : FrA w r a c b d) (k : FrA w s a' c' b' d') (hu : ¬ chk2 r s = 0) :
    Calls Try.prog 33 #[frV r a c b d, frV s a' c' b' d'] w (RetFr w (addF r s).1 (addF r s).2) := by
  have K1 := fun (W : World) (hb : Blw w W) => ratioChecks_any r s a c b d a' c' b' d' W (h.blw hb) (k.blw hb)
  have e0 : addF r s = (zF, chk2 r s) := by unfold addF; rw [if_neg hu]
  rw [e0]
  generalize chk2 r s = u at *
  have H1 := Lib.hid K1
  have q : (u != 0) = true := by simpa using hu
  clear K1 h k e0 hu
  have hB0 := box2_0 w r.neg a r.num.length c b r.den.length d s.neg a' s.num.length c' b' s.den.length d'
  go_enter Try.func33, Try.ntmps33
  go_wp2_with fail
  refine Calls.mono (H1.out _ (by repeat (first | exact Blw.refl _ | apply Blw.ext | apply Blw.alloc | apply Blw.drewN | apply Blw.drew | refine Blw.setCell ?_ _ _ (by simp)))) ?_
  rintro e w1 ⟨rfl, x1, hw⟩
  obtain ⟨hs, hb, c0, c1, c2, c3, c4, c5, hF⟩ := hB0.to hw
  clear hw x1 H1 hB0
  obtain ⟨hfz, d0, d1, d2, r0, r1, r2⟩ := three hF (.bool false) (.slice none 0 0) (.slice none 0 0)
  go_wp2_with fail
  exact bodyPost_ret (v := .tuple #[.agg #[.bool false, .slice none 0 0, .slice none 0 0], .int .i64 u]) (by simp [results, Try.results33, go_sem, r0, r1, r2]) rfl (RetFr.zero rfl (blw_three hb (by omega) _ _ _))
set_option maxRecDepth 100000 in
set_option maxHeartbeats 1000000 in
theorem ratioSub_bad (r s : Fr) (a : Option Addr) (c : Nat) (b : Option Addr) (d : Nat) (a' : Option Addr) (c' : Nat) (b' : Option Addr) (d' : Nat) (w : World) (h : FrA w r a c b d) (k : FrA w s a' c' b' d') (hu : ¬ chk2 r s = 0) :
    Calls Try.prog 122 #[frV r a c b d, frV s a' c' b' d'] w (RetFr w (subF r s).1 (subF r s).2) := by
  have K1 := fun (W : World) (hb : Blw w W) => ratioChecks_any r s a c b d a' c' b' d' W (h.blw hb) (k.blw hb)
  have e0 : subF r s = (zF, chk2 r s) := by unfold subF; rw [if_neg hu]
  rw [e0]
  generalize chk2 r s = u at *
  have H1 := Lib.hid K1
  have q : (u != 0) = true := by simpa using hu
  clear K1 h k e0 hu
  have hB0 := box2_0 w r.neg a r.num.length c b r.den.length d s.neg a' s.num.length c' b' s.den.length d'
  go_enter Try.func122, Try.ntmps122
  go_wp2_with fail
  refine Calls.mono (H1.out _ (by repeat (first | exact Blw.refl _ | apply Blw.ext | apply Blw.alloc | apply Blw.drewN | apply Blw.drew | refine Blw.setCell ?_ _ _ (by simp)))) ?_
  rintro e w1 ⟨rfl, x1, hw⟩
  obtain ⟨hs, hb, c0, c1, c2, c3, c4, c5, hF⟩ := hB0.to hw
  clear hw x1 H1 hB0
  obtain ⟨hfz, d0, d1, d2, r0, r1, r2⟩ := three hF (.bool false) (.slice none 0 0) (.slice none 0 0)
  go_wp2_with fail
  exact bodyPost_ret (v := .tuple #[.agg #[.bool false, .slice none 0 0, .slice none 0 0], .int .i64 u]) (by simp [results, Try.results122, go_sem, r0, r1, r2]) rfl (RetFr.zero rfl (blw_three hb (by omega) _ _ _))
set_option maxRecDepth 100000 in
set_option maxHeartbeats 1000000 in
theorem ratioMul_bad (r s : Fr) (a : Option Addr) (c : Nat) (b : Option Addr) (d : Nat) (a' : Option Addr) (c' : Nat) (b' : Option Addr) (d' : Nat) (w : World) (h : FrA w r a c b d) (k : FrA w s a' c' b' d') (hu : ¬ chk2 r s = 0) :
    Calls Try.prog 69 #[frV r a c b d, frV s a' c' b' d'] w (RetFr w (mulF r s).1 (mulF r s).2) := by
  have K1 := fun (W : World) (hb : Blw w W) => ratioChecks_any r s a c b d a' c' b' d' W (h.blw hb) (k.blw hb)
  have e0 : mulF r s = (zF, chk2 r s) := by unfold mulF; rw [if_neg hu]
  rw [e0]
  generalize chk2 r s = u at *
  have H1 := Lib.hid K1
  have q : (u != 0) = true := by simpa using hu
  clear K1 h k e0 hu
  have hB0 := box2_0 w r.neg a r.num.length c b r.den.length d s.neg a' s.num.length c' b' s.den.length d'
  go_enter Try.func69, Try.ntmps69
  go_wp2_with fail
  refine Calls.mono (H1.out _ (by repeat (first | exact Blw.refl _ | apply Blw.ext | apply Blw.alloc | apply Blw.drewN | apply Blw.drew | refine Blw.setCell ?_ _ _ (by simp)))) ?_
  rintro e w1 ⟨rfl, x1, hw⟩
  obtain ⟨hs, hb, c0, c1, c2, c3, c4, c5, hF⟩ := hB0.to hw
  clear hw x1 H1 hB0
  obtain ⟨hfz, d0, d1, d2, r0, r1, r2⟩ := three hF (.bool false) (.slice none 0 0) (.slice none 0 0)
  go_wp2_with fail
  exact bodyPost_ret (v := .tuple #[.agg #[.bool false, .slice none 0 0, .slice none 0 0], .int .i64 u]) (by simp [results, Try.results69, go_sem, r0, r1, r2]) rfl (RetFr.zero rfl (blw_three hb (by omega) _ _ _))
set_option maxRecDepth 100000 in
set_option maxHeartbeats 1000000 in
theorem ratioQuo_bad (r s : Fr) (a : Option Addr) (c : Nat) (b : Option Addr) (d : Nat) (a' : Option Addr) (c' : Nat) (b' : Option Addr) (d' : Nat) (w : World) (h : FrA w r a c b d) (k : FrA w s a' c' b' d') (hu : ¬ chk2 r s = 0) :
    Calls Try.prog 71 #[frV r a c b d, frV s a' c' b' d'] w (RetFr w (quoF r s).1 (quoF r s).2) := by
  have K1 := fun (W : World) (hb : Blw w W) => ratioChecks_any r s a c b d a' c' b' d' W (h.blw hb) (k.blw hb)
  have e0 : quoF r s = (zF, chk2 r s) := by unfold quoF; rw [if_neg hu]
  rw [e0]
  generalize chk2 r s = u at *
  have H1 := Lib.hid K1
  have q : (u != 0) = true := by simpa using hu
  clear K1 h k e0 hu
  have hB0 := box2_0 w r.neg a r.num.length c b r.den.length d s.neg a' s.num.length c' b' s.den.length d'
  go_enter Try.func71, Try.ntmps71
  go_wp2_with fail
  refine Calls.mono (H1.out _ (by repeat (first | exact Blw.refl _ | apply Blw.ext | apply Blw.alloc | apply Blw.drewN | apply Blw.drew | refine Blw.setCell ?_ _ _ (by simp)))) ?_
  rintro e w1 ⟨rfl, x1, hw⟩
  obtain ⟨hs, hb, c0, c1, c2, c3, c4, c5, hF⟩ := hB0.to hw
  clear hw x1 H1 hB0
  obtain ⟨hfz, d0, d1, d2, r0, r1, r2⟩ := three hF (.bool false) (.slice none 0 0) (.slice none 0 0)
  go_wp2_with fail
  exact bodyPost_ret (v := .tuple #[.agg #[.bool false, .slice none 0 0, .slice none 0 0], .int .i64 u]) (by simp [results, Try.results71, go_sem, r0, r1, r2]) rfl (RetFr.zero rfl (blw_three hb (by omega) _ _ _))

set_option maxRecDepth 100000 in
set_option maxHeartbeats 2000000 in
theorem ratioAdd_ok (r s : Fr) (a : Option Addr) (c : Nat) (b : Option Addr) (d : Nat) (a' : Option Addr) (c' : Nat) (b' : Option Addr) (d' : Nat) (w : World) (h : FrA w r a c b d) (k : FrA w s a' c' b' d') (hu : chk2 r s = 0) :
    Calls Try.prog 33 #[frV r a c b d, frV s a' c' b' d'] w (RetFr w (addF r s).1 (addF r s).2) := by
  have H1 := Lib.hid (fun (W : World) (hb : Blw w W) => ratioChecks_any r s a c b d a' c' b' d' W (h.blw hb) (k.blw hb))
  obtain ⟨hr, hs⟩ := ok_chk2 hu
  have P := Lib.hid (fun (W : World) (hb : Blw w W) => ratioPlus_ok r s a c b d a' c' b' d' W (h.blw hb) (k.blw hb) hr hs)
  have e0 : addF r s = resQ (r.q + s.q) := by unfold addF; rw [if_pos hu]
  rw [hu] at H1
  rw [e0]
  generalize resQ (r.q + s.q) = R at *
  obtain ⟨⟨n', nu, de⟩, er⟩ := R
  clear h k hr hs hu e0
  have hB0 := box2_0 w r.neg a r.num.length c b r.den.length d s.neg a' s.num.length c' b' s.den.length d'
  obtain ⟨rn, rnum, rden⟩ := r
  obtain ⟨sn, snum, sden⟩ := s
  simp only at hB0
  go_enter Try.func33, Try.ntmps33
  go_wp2_with fail
  refine Calls.mono (H1.out _ (by repeat (first | exact Blw.refl _ | apply Blw.ext | apply Blw.alloc | apply Blw.drewN | apply Blw.drew | refine Blw.setCell ?_ _ _ (by simp)))) ?_
  rintro e w1 ⟨rfl, x1, hw⟩
  have hB1 := hB0.to hw
  obtain ⟨hs, hb, c0, c1, c2, c3, c4, c5, hF⟩ := id hB1
  clear hw x1 H1 hB0
  go_wp2_with fail
  refine Calls.mono (P.out _ hb) ?_
  intro e w2 hw2
  obtain ⟨pa, qa, pb, qb, rfl, hB2, oA, oB⟩ := hw2.lift hB1
  clear hw2 hB1 c0 c1 c2 c3 c4 c5 hF P hb hs
  obtain ⟨hs, hb, -, -, -, -, -, -, hF⟩ := hB2
  obtain ⟨hfz, d0, d1, d2, r0, r1, r2⟩ := three hF (.bool n') (.slice pa nu.length qa) (.slice pb de.length qb)
  go_wp2_with fail
  exact bodyPost_ret (v := .tuple #[.agg #[.bool n', .slice pa nu.length qa, .slice pb de.length qb], .int .i64 er]) (by simp [results, Try.results33, go_sem, r0, r1, r2]) rfl ⟨pa, qa, pb, qb, rfl, blw_three hb (by omega) _ _ _, own_three oA (Nat.lt_succ_self _) _ _ _ |> (ownsRow_mono · (by omega)), own_three oB (Nat.lt_succ_self _) _ _ _ |> (ownsRow_mono · (by omega))⟩

set_option maxRecDepth 100000 in
set_option maxHeartbeats 2000000 in
theorem ratioSub_ok (r s : Fr) (a : Option Addr) (c : Nat) (b : Option Addr) (d : Nat) (a' : Option Addr) (c' : Nat) (b' : Option Addr) (d' : Nat) (w : World) (h : FrA w r a c b d) (k : FrA w s a' c' b' d') (hu : chk2 r s = 0) :
    Calls Try.prog 122 #[frV r a c b d, frV s a' c' b' d'] w (RetFr w (subF r s).1 (subF r s).2) := by
  have H1 := Lib.hid (fun (W : World) (hb : Blw w W) => ratioChecks_any r s a c b d a' c' b' d' W (h.blw hb) (k.blw hb))
  obtain ⟨hr, hs⟩ := ok_chk2 hu
  have P := Lib.hid (fun (W : World) (hb : Blw w W) => ratioPlus_ok r (negF s) a c b d a' c' b' d' W (h.blw hb) (negF_wf (k.blw hb)) hr (negF_ok hs))
  have e0 : subF r s = resQ (r.q + (negF s).q) := by unfold subF; rw [if_pos hu, Fr.q_neg hs, Rat.sub_eq_add_neg]
  have P2 := Lib.hid (fun (W : World) => ratioTurned_any s a' c' b' d' W)
  rw [hu] at H1
  rw [e0]
  generalize resQ (r.q + (negF s).q) = R at *
  obtain ⟨⟨n', nu, de⟩, er⟩ := R
  clear h k hr hs hu e0
  have hB0 := box2_0 w r.neg a r.num.length c b r.den.length d s.neg a' s.num.length c' b' s.den.length d'
  obtain ⟨rn, rnum, rden⟩ := r
  obtain ⟨sn, snum, sden⟩ := s
  simp only at hB0
  go_enter Try.func122, Try.ntmps122
  go_wp2_with fail
  refine Calls.mono (H1.out _ (by repeat (first | exact Blw.refl _ | apply Blw.ext | apply Blw.alloc | apply Blw.drewN | apply Blw.drew | refine Blw.setCell ?_ _ _ (by simp)))) ?_
  rintro e w1 ⟨rfl, x1, hw⟩
  have hB1 := hB0.to hw
  have HB1 := Lib.hid hB1
  obtain ⟨hs, hb, c0, c1, c2, c3, c4, c5, hF⟩ := hB1
  clear hw x1 H1 hB0
  go_wp2_with fail
  have hB1 : Box2 w w1.drew rn a rnum.length c b rden.length d sn a' snum.length c' b' sden.length d' := HB1.out.blw (by repeat (first | exact Blw.refl _ | apply Blw.ext | apply Blw.alloc | apply Blw.drewN | apply Blw.drew | refine Blw.setCell ?_ _ _ (by simp)))
  go_region_held3 (fun wx => w.heap.size + 2 < wx.heap.size ∧ Blw w wx ∧ wx.cell? ⟨w.heap.size, 0, none⟩ = some (.bool rn) ∧ wx.cell? ⟨w.heap.size, 1, none⟩ = some (.slice a rnum.length c) ∧ wx.cell? ⟨w.heap.size, 2, none⟩ = some (.slice b rden.length d) ∧
      wx.cell? ⟨w.heap.size + 1, 0, none⟩ = some (.bool sn) ∧ wx.cell? ⟨w.heap.size + 1, 1, none⟩ = some (.slice a' snum.length c') ∧ wx.cell? ⟨w.heap.size + 1, 2, none⟩ = some (.slice b' sden.length d')) (first | exact Box2.s8 (by assumption) | exact Box2.set3 (by assumption) _ _ _ | go_keep) (first
      | (go_at_call 143; (with_reducible refine Calls.mono (P2.out _) ?_); rintro e w9 ⟨rfl, x9, hx9⟩; have hS1 := Box2.blw (by assumption) (World.blw_ext _ x9); rw [← hx9] at hS1; clear hx9)
      | (go_at_call 86; (with_reducible refine Calls.mono (P.out _ (Box2.b (by assumption))) ?_); intro e w9 hw9; obtain ⟨pa, qa, pb, qb, rfl, hS2, oA, oB⟩ := RetFr.lift hw9 (by assumption); clear hw9; obtain ⟨hfz, d0, d1, d2, r0, r1, r2⟩ := Box2.three hS2 (.bool n') (.slice pa nu.length qa) (.slice pb de.length qb)))
  all_goals
    go_wp2_with fail
    exact bodyPost_ret (v := .tuple #[.agg #[.bool n', .slice pa nu.length qa, .slice pb de.length qb], .int .i64 er]) (by simp [results, Try.results122, go_sem, r0, r1, r2]) rfl ⟨pa, qa, pb, qb, rfl, blw_three (Box2.b hS2) (by omega) _ _ _, own_three oA (Nat.lt_succ_self _) _ _ _ |> (ownsRow_mono · (by omega)), own_three oB (Nat.lt_succ_self _) _ _ _ |> (ownsRow_mono · (by omega))⟩
end Go.Proofs.Ytmeccjlopmjneaa
/- The walks of ratio.Mul, Quo. -/
namespace Go.Proofs.Ytmeccjlopmjneaa
open Go.RowKit

theorem Fr.p_mul2 (r s : Fr) : r.p * s.p = if (r.neg != s.neg) = true then -((W.val r.num * W.val s.num : Nat) : Int) else ((W.val r.num * W.val s.num : Nat) : Int) := by
  unfold Fr.p
  rw [Int.natCast_mul]
  cases r.neg <;> cases s.neg <;> simp [Int.neg_mul, Int.mul_neg]

set_option maxRecDepth 100000 in
set_option maxHeartbeats 4000000 in
theorem ratioMul_ok (r s : Fr) (a : Option Addr) (c : Nat) (b : Option Addr) (d : Nat) (a' : Option Addr) (c' : Nat) (b' : Option Addr) (d' : Nat) (w : World) (h : FrA w r a c b d) (k : FrA w s a' c' b' d') (hu : chk2 r s = 0) :
    Calls Try.prog 69 #[frV r a c b d, frV s a' c' b' d'] w (RetFr w (mulF r s).1 (mulF r s).2) := by
  have H1 := Lib.hid (fun (W : World) (hb : Blw w W) => ratioChecks_any r s a c b d a' c' b' d' W (h.blw hb) (k.blw hb))
  obtain ⟨hr, hs⟩ := ok_chk2 hu
  have e0 : mulF r s = resQ (r.q * s.q) := by unfold mulF; rw [if_pos hu]
  have l1 := hr.ln; have l2 := hr.ld; have l3 := hs.ln; have l4 := hs.ld
  have T1 := Lib.hid (fun (W : World) (hb : Blw w W) => timesN a a' r.num s.num c c' W (h.an.blw hb) (k.an.blw hb) h.wn k.wn hr.nn hs.nn (by omega))
  have T2 := Lib.hid (fun (W : World) (hb : Blw w W) => timesN b b' r.den s.den d d' W (h.ad.blw hb) (k.ad.blw hb) h.wd k.wd hr.nd hs.nd (by omega))
  have lX : (W.toW (W.val r.num * W.val s.num)).length ≤ 4096 := mul_len (j := 2048) (k := 2048) h.wn k.wn l1 l3
  have lD : (W.toW (W.val r.den * W.val s.den)).length ≤ 4096 := mul_len (j := 2048) (k := 2048) h.wd k.wd l2 l4
  have D0 : W.val r.den * W.val s.den ≠ 0 := Nat.ne_of_gt (Nat.mul_pos hr.den_pos hs.den_pos)
  have hq : r.q * s.q = mkRat (if (r.neg != s.neg) = true then -((W.val r.num * W.val s.num : Nat) : Int) else ((W.val r.num * W.val s.num : Nat) : Int)) (W.val r.den * W.val s.den) := (Fr.q_mul r s).trans (congrArg (fun z => mkRat z _) (Fr.p_mul2 r s))
  rw [hu] at H1
  rw [e0]
  have LW := Lib.hid (fun (wx : World) p q p' q' (n1 : NatA wx (W.val r.num * W.val s.num) p q) (n2 : NatA wx (W.val r.den * W.val s.den) p' q') => lowestN (!(r.neg == s.neg)) (W.val r.num * W.val s.num) (W.val r.den * W.val s.den) p q p' q' wx n1 n2 D0 (by omega) (by omega) _ hq)
  generalize resQ (r.q * s.q) = R at *
  generalize W.val r.num * W.val s.num = X at *
  generalize W.val r.den * W.val s.den = D at *
  obtain ⟨⟨n', nu, de⟩, er⟩ := R
  clear h k hr hs hu e0 hq lX lD D0 l1 l2 l3 l4
  have hB0 := box2_0 w r.neg a r.num.length c b r.den.length d s.neg a' s.num.length c' b' s.den.length d'
  obtain ⟨rn, rnum, rden⟩ := r
  obtain ⟨sn, snum, sden⟩ := s
  simp only at hB0 T1 T2 LW
  all_goals
   go_enter Try.func69, Try.ntmps69
   go_wp2_with fail
   refine Calls.mono (H1.out _ (by repeat (first | exact Blw.refl _ | apply Blw.ext | apply Blw.alloc | apply Blw.drewN | apply Blw.drew | refine Blw.setCell ?_ _ _ (by simp)))) ?_
   rintro e w1 ⟨rfl, x1, hw⟩
   have hB1 := hB0.to hw
   have HB1 := Lib.hid hB1
   obtain ⟨hs, hb, c0, c1, c2, c3, c4, c5, hF⟩ := hB1
   clear hw x1 H1 hB0
   go_wp2_with fail
   have hB1 : Box2 w w1.drew rn a rnum.length c b rden.length d sn a' snum.length c' b' sden.length d' := HB1.out.blw (by repeat (first | exact Blw.refl _ | apply Blw.ext | apply Blw.alloc | apply Blw.drewN | apply Blw.drew | refine Blw.setCell ?_ _ _ (by simp)))
   go_region_held3 (fun wx => w.heap.size + 2 < wx.heap.size ∧ Blw w wx ∧ wx.cell? ⟨w.heap.size, 0, none⟩ = some (.bool rn) ∧ wx.cell? ⟨w.heap.size, 1, none⟩ = some (.slice a rnum.length c) ∧ wx.cell? ⟨w.heap.size, 2, none⟩ = some (.slice b rden.length d) ∧
      wx.cell? ⟨w.heap.size + 1, 0, none⟩ = some (.bool sn) ∧ wx.cell? ⟨w.heap.size + 1, 1, none⟩ = some (.slice a' snum.length c') ∧ wx.cell? ⟨w.heap.size + 1, 2, none⟩ = some (.slice b' sden.length d')) (first | exact Box2.s8 (by assumption) | exact Box2.set3 (by assumption) _ _ _ | go_keep) (first
       | (go_at_call 129; (with_reducible refine Calls.mono (T1.out _ (Box2.b (by assumption))) ?_); rintro e w9 ⟨p1, q1, rfl, n1, b1⟩; have hS1 := Box2.blw (by assumption) b1; try have n2 := NatA.blw n2 b1)
       | (go_at_call 129; (with_reducible refine Calls.mono (T2.out _ (Box2.b (by assumption))) ?_); rintro e w9 ⟨p2, q2, rfl, n2, b2⟩; have hS2 := Box2.blw (by assumption) b2; try have n1 := NatA.blw n1 b2)
       | (go_at_call 80; (with_reducible refine Calls.mono (LW.out _ _ _ _ _ n1 n2) ?_); intro e w9 hw9; obtain ⟨pa, qa, pb, qb, rfl, hS3, oA, oB⟩ := RetFr.lift hw9 (by first | exact hS2 | exact hS1); clear hw9; obtain ⟨hfz, d0, d1, d2, r0, r1, r2⟩ := Box2.three hS3 (.bool n') (.slice pa nu.length qa) (.slice pb de.length qb)))
   all_goals
     go_wp2_with fail
     exact bodyPost_ret (v := .tuple #[.agg #[.bool n', .slice pa nu.length qa, .slice pb de.length qb], .int .i64 er]) (by simp [results, Try.results69, go_sem, r0, r1, r2]) rfl ⟨pa, qa, pb, qb, rfl, blw_three (Box2.b hS3) (by omega) _ _ _, own_three oA (Nat.lt_succ_self _) _ _ _ |> (ownsRow_mono · (by omega)), own_three oB (Nat.lt_succ_self _) _ _ _ |> (ownsRow_mono · (by omega))⟩

set_option maxRecDepth 100000 in
set_option maxHeartbeats 4000000 in
theorem ratioQuo_ok (r s : Fr) (a : Option Addr) (c : Nat) (b : Option Addr) (d : Nat) (a' : Option Addr) (c' : Nat) (b' : Option Addr) (d' : Nat) (w : World) (h : FrA w r a c b d) (k : FrA w s a' c' b' d') (hu : chk2 r s = 0) (h0 : 0 < s.num.length) :
    Calls Try.prog 71 #[frV r a c b d, frV s a' c' b' d'] w (RetFr w (quoF r s).1 (quoF r s).2) := by
  have H1 := Lib.hid (fun (W : World) (hb : Blw w W) => ratioChecks_any r s a c b d a' c' b' d' W (h.blw hb) (k.blw hb))
  obtain ⟨hr, hs⟩ := ok_chk2 hu
  have e0 : quoF r s = resQ (r.q / s.q) := by unfold quoF; rw [if_pos hu, if_neg (by omega)]
  have l1 := hr.ln; have l2 := hr.ld; have l3 := hs.ln; have l4 := hs.ld
  have T1 := Lib.hid (fun (W : World) (hb : Blw w W) => timesN a b' r.num s.den c d' W (h.an.blw hb) (k.ad.blw hb) h.wn k.wd hr.nn hs.nd (by omega))
  have T2 := Lib.hid (fun (W : World) (hb : Blw w W) => timesN b a' r.den s.num d c' W (h.ad.blw hb) (k.an.blw hb) h.wd k.wn hr.nd hs.nn (by omega))
  have lX : (W.toW (W.val r.num * W.val s.den)).length ≤ 4096 := mul_len (j := 2048) (k := 2048) h.wn k.wd l1 l4
  have lD : (W.toW (W.val r.den * W.val s.num)).length ≤ 4096 := mul_len (j := 2048) (k := 2048) h.wd k.wn l2 l3
  have D0 : W.val r.den * W.val s.num ≠ 0 := Nat.ne_of_gt (Nat.mul_pos hr.den_pos (W.val_pos hs.nn (by intro e; rw [e] at h0; simp at h0)))
  have hq : r.q / s.q = mkRat (if (r.neg != s.neg) = true then -((W.val r.num * W.val s.den : Nat) : Int) else ((W.val r.num * W.val s.den : Nat) : Int)) (W.val r.den * W.val s.num) := Fr.q_quo hr hs h0 _ rfl
  rw [hu] at H1
  rw [e0]
  have LW := Lib.hid (fun (wx : World) p q p' q' (n1 : NatA wx (W.val r.num * W.val s.den) p q) (n2 : NatA wx (W.val r.den * W.val s.num) p' q') => lowestN (!(r.neg == s.neg)) (W.val r.num * W.val s.den) (W.val r.den * W.val s.num) p q p' q' wx n1 n2 D0 (by omega) (by omega) _ hq)
  generalize resQ (r.q / s.q) = R at *
  generalize W.val r.num * W.val s.den = X at *
  generalize W.val r.den * W.val s.num = D at *
  obtain ⟨⟨n', nu, de⟩, er⟩ := R
  have f0 : (((s.num.length : Nat) : Int) == 0) = false := beq_false_of_ne (by omega)
  clear h0
  clear h k hr hs hu e0 hq lX lD D0 l1 l2 l3 l4
  have hB0 := box2_0 w r.neg a r.num.length c b r.den.length d s.neg a' s.num.length c' b' s.den.length d'
  obtain ⟨rn, rnum, rden⟩ := r
  obtain ⟨sn, snum, sden⟩ := s
  simp only at hB0 T1 T2 LW f0
  all_goals
   go_enter Try.func71, Try.ntmps71
   go_wp2_with fail
   refine Calls.mono (H1.out _ (by repeat (first | exact Blw.refl _ | apply Blw.ext | apply Blw.alloc | apply Blw.drewN | apply Blw.drew | refine Blw.setCell ?_ _ _ (by simp)))) ?_
   rintro e w1 ⟨rfl, x1, hw⟩
   have hB1 := hB0.to hw
   have HB1 := Lib.hid hB1
   obtain ⟨hs, hb, c0, c1, c2, c3, c4, c5, hF⟩ := hB1
   clear hw x1 H1 hB0
   go_wp2_with fail
   have hB1 : Box2 w w1.drew rn a rnum.length c b rden.length d sn a' snum.length c' b' sden.length d' := HB1.out.blw (by repeat (first | exact Blw.refl _ | apply Blw.ext | apply Blw.alloc | apply Blw.drewN | apply Blw.drew | refine Blw.setCell ?_ _ _ (by simp)))
   go_region_held3 (fun wx => w.heap.size + 2 < wx.heap.size ∧ Blw w wx ∧ wx.cell? ⟨w.heap.size, 0, none⟩ = some (.bool rn) ∧ wx.cell? ⟨w.heap.size, 1, none⟩ = some (.slice a rnum.length c) ∧ wx.cell? ⟨w.heap.size, 2, none⟩ = some (.slice b rden.length d) ∧
      wx.cell? ⟨w.heap.size + 1, 0, none⟩ = some (.bool sn) ∧ wx.cell? ⟨w.heap.size + 1, 1, none⟩ = some (.slice a' snum.length c') ∧ wx.cell? ⟨w.heap.size + 1, 2, none⟩ = some (.slice b' sden.length d')) (first | exact Box2.s8 (by assumption) | exact Box2.set3 (by assumption) _ _ _ | go_keep) (first
       | (go_at_call 129; (with_reducible refine Calls.mono (T1.out _ (Box2.b (by assumption))) ?_); rintro e w9 ⟨p1, q1, rfl, n1, b1⟩; have hS1 := Box2.blw (by assumption) b1; try have n2 := NatA.blw n2 b1)
       | (go_at_call 129; (with_reducible refine Calls.mono (T2.out _ (Box2.b (by assumption))) ?_); rintro e w9 ⟨p2, q2, rfl, n2, b2⟩; have hS2 := Box2.blw (by assumption) b2; try have n1 := NatA.blw n1 b2)
       | (go_at_call 80; (with_reducible refine Calls.mono (LW.out _ _ _ _ _ n1 n2) ?_); intro e w9 hw9; obtain ⟨pa, qa, pb, qb, rfl, hS3, oA, oB⟩ := RetFr.lift hw9 (by first | exact hS2 | exact hS1); clear hw9; obtain ⟨hfz, d0, d1, d2, r0, r1, r2⟩ := Box2.three hS3 (.bool n') (.slice pa nu.length qa) (.slice pb de.length qb)))
   all_goals
     go_wp2_with fail
     exact bodyPost_ret (v := .tuple #[.agg #[.bool n', .slice pa nu.length qa, .slice pb de.length qb], .int .i64 er]) (by simp [results, Try.results71, go_sem, r0, r1, r2]) rfl ⟨pa, qa, pb, qb, rfl, blw_three (Box2.b hS3) (by omega) _ _ _, own_three oA (Nat.lt_succ_self _) _ _ _ |> (ownsRow_mono · (by omega)), own_three oB (Nat.lt_succ_self _) _ _ _ |> (ownsRow_mono · (by omega))⟩

set_option maxRecDepth 100000 in
set_option maxHeartbeats 1000000 in
theorem ratioQuo_nought (r s : Fr) (a : Option Addr) (c : Nat) (b : Option Addr) (d : Nat) (a' : Option Addr) (c' : Nat) (b' : Option Addr) (d' : Nat) (w : World) (h : FrA w r a c b d) (k : FrA w s a' c' b' d') (hu : chk2 r s = 0) (h0 : s.num.length = 0) :
    Calls Try.prog 71 #[frV r a c b d, frV s a' c' b' d'] w (RetFr w (quoF r s).1 (quoF r s).2) := by
  have H1 := Lib.hid (fun (W : World) (hb : Blw w W) => ratioChecks_any r s a c b d a' c' b' d' W (h.blw hb) (k.blw hb))
  have e0 : quoF r s = (zF, 7) := by unfold quoF; rw [if_pos hu, if_pos h0]
  rw [e0]
  rw [hu] at H1
  have f0 : (((s.num.length : Nat) : Int) == 0) = true := by rw [h0]; rfl
  clear h k e0 hu h0
  have hB0 := box2_0 w r.neg a r.num.length c b r.den.length d s.neg a' s.num.length c' b' s.den.length d'
  go_enter Try.func71, Try.ntmps71
  go_wp2_with fail
  refine Calls.mono (H1.out _ (by repeat (first | exact Blw.refl _ | apply Blw.ext | apply Blw.alloc | apply Blw.drewN | apply Blw.drew | refine Blw.setCell ?_ _ _ (by simp)))) ?_
  rintro e w1 ⟨rfl, x1, hw⟩
  obtain ⟨hs, hb, c0, c1, c2, c3, c4, c5, hF⟩ := hB0.to hw
  clear hw x1 H1 hB0
  obtain ⟨hfz, d0, d1, d2, r0, r1, r2⟩ := three hF (.bool false) (.slice none 0 0) (.slice none 0 0)
  go_wp2_with fail
  exact bodyPost_ret (v := .tuple #[.agg #[.bool false, .slice none 0 0, .slice none 0 0], .int .i64 7]) (by simp [results, Try.results71, go_sem, r0, r1, r2]) rfl (RetFr.zero rfl (blw_three hb (by omega) _ _ _))

theorem ratioAdd_any (r s : Fr) (a : Option Addr) (c : Nat) (b : Option Addr) (d : Nat) (a' : Option Addr) (c' : Nat) (b' : Option Addr) (d' : Nat) (w : World) (h : FrA w r a c b d) (k : FrA w s a' c' b' d') :
    Calls Try.prog 33 #[frV r a c b d, frV s a' c' b' d'] w (RetFr w (addF r s).1 (addF r s).2) := by
  by_cases hu : chk2 r s = 0
  · exact ratioAdd_ok r s a c b d a' c' b' d' w h k hu
  · exact ratioAdd_bad r s a c b d a' c' b' d' w h k hu
theorem ratioSub_any (r s : Fr) (a : Option Addr) (c : Nat) (b : Option Addr) (d : Nat) (a' : Option Addr) (c' : Nat) (b' : Option Addr) (d' : Nat) (w : World) (h : FrA w r a c b d) (k : FrA w s a' c' b' d') :
    Calls Try.prog 122 #[frV r a c b d, frV s a' c' b' d'] w (RetFr w (subF r s).1 (subF r s).2) := by
  by_cases hu : chk2 r s = 0
  · exact ratioSub_ok r s a c b d a' c' b' d' w h k hu
  · exact ratioSub_bad r s a c b d a' c' b' d' w h k hu
theorem ratioMul_any (r s : Fr) (a : Option Addr) (c : Nat) (b : Option Addr) (d : Nat) (a' : Option Addr) (c' : Nat) (b' : Option Addr) (d' : Nat) (w : World) (h : FrA w r a c b d) (k : FrA w s a' c' b' d') :
    Calls Try.prog 69 #[frV r a c b d, frV s a' c' b' d'] w (RetFr w (mulF r s).1 (mulF r s).2) := by
  by_cases hu : chk2 r s = 0
  · exact ratioMul_ok r s a c b d a' c' b' d' w h k hu
  · exact ratioMul_bad r s a c b d a' c' b' d' w h k hu
theorem ratioQuo_any (r s : Fr) (a : Option Addr) (c : Nat) (b : Option Addr) (d : Nat) (a' : Option Addr) (c' : Nat) (b' : Option Addr) (d' : Nat) (w : World) (h : FrA w r a c b d) (k : FrA w s a' c' b' d') :
    Calls Try.prog 71 #[frV r a c b d, frV s a' c' b' d'] w (RetFr w (quoF r s).1 (quoF r s).2) := by
  by_cases hu : chk2 r s = 0
  · by_cases h0 : s.num.length = 0
    · exact ratioQuo_nought r s a c b d a' c' b' d' w h k hu h0
    · exact ratioQuo_ok r s a c b d a' c' b' d' w h k hu (by omega)
  · exact ratioQuo_bad r s a c b d a' c' b' d' w h k hu
end Go.Proofs.Ytmeccjlopmjneaa
/- parts.Exact: the complex fraction that a number is. -/
namespace Go.Proofs.Ytmeccjlopmjneaa
open Go.RowKit

/-- A complex fraction as a value. -/
abbrev gaV (x y : FL) : Value := .agg #[.bool x.r.neg, .slice x.a x.r.num.length x.c, .slice x.b x.r.den.length x.d, .bool y.r.neg, .slice y.a y.r.num.length y.c, .slice y.b y.r.den.length y.d]
/-- The result's block of six cells. -/
theorem sixR {w : World} {g : Nat} {v0 v1 v2 v3 v4 v5 : Value} {t : TypeId} (h : w.heap[g]? = some (.cells #[v0, v1, v2, v3, v4, v5] t (0, 0))) (u0 u1 u2 u3 u4 u5 : Value) :
    (∀ i, w.frozen? ⟨g, i, none⟩ = false) ∧ w.cell? ⟨g, 0, none⟩ = some v0 ∧ w.cell? ⟨g, 1, none⟩ = some v1 ∧ w.cell? ⟨g, 2, none⟩ = some v2 ∧ w.cell? ⟨g, 3, none⟩ = some v3 ∧ w.cell? ⟨g, 4, none⟩ = some v4 ∧ w.cell? ⟨g, 5, none⟩ = some v5 ∧
    (w.setCell ⟨g, 0, none⟩ u0).cell? ⟨g, 0, none⟩ = some u0 ∧ ((w.setCell ⟨g, 0, none⟩ u0).setCell ⟨g, 1, none⟩ u1).cell? ⟨g, 1, none⟩ = some u1 ∧ (((w.setCell ⟨g, 0, none⟩ u0).setCell ⟨g, 1, none⟩ u1).setCell ⟨g, 2, none⟩ u2).cell? ⟨g, 2, none⟩ = some u2 ∧
    ((((w.setCell ⟨g, 0, none⟩ u0).setCell ⟨g, 1, none⟩ u1).setCell ⟨g, 2, none⟩ u2).setCell ⟨g, 3, none⟩ u3).cell? ⟨g, 3, none⟩ = some u3 ∧ (((((w.setCell ⟨g, 0, none⟩ u0).setCell ⟨g, 1, none⟩ u1).setCell ⟨g, 2, none⟩ u2).setCell ⟨g, 3, none⟩ u3).setCell ⟨g, 4, none⟩ u4).cell? ⟨g, 4, none⟩ = some u4 ∧
    ((((((w.setCell ⟨g, 0, none⟩ u0).setCell ⟨g, 1, none⟩ u1).setCell ⟨g, 2, none⟩ u2).setCell ⟨g, 3, none⟩ u3).setCell ⟨g, 4, none⟩ u4).setCell ⟨g, 5, none⟩ u5).cell? ⟨g, 5, none⟩ = some u5 :=
  have a0 := at_set 0 u0 h
  have a1 := at_set 1 u1 a0
  have a2 := at_set 2 u2 a1
  have a3 := at_set 3 u3 a2
  have a4 := at_set 4 u4 a3
  have a5 := at_set 5 u5 a4
  ⟨fun i => frozen_of_row w g i _ _ h, (cell_of_row w g 0 _ _ _ h).trans rfl, (cell_of_row w g 1 _ _ _ h).trans rfl, (cell_of_row w g 2 _ _ _ h).trans rfl, (cell_of_row w g 3 _ _ _ h).trans rfl, (cell_of_row w g 4 _ _ _ h).trans rfl, (cell_of_row w g 5 _ _ _ h).trans rfl,
    (cell_of_row _ g 0 _ _ _ a0).trans (by simp), (cell_of_row _ g 1 _ _ _ a1).trans (by simp), (cell_of_row _ g 2 _ _ _ a2).trans (by simp), (cell_of_row _ g 3 _ _ _ a3).trans (by simp), (cell_of_row _ g 4 _ _ _ a4).trans (by simp), (cell_of_row _ g 5 _ _ _ a5).trans (by simp)⟩
theorem sixR_kept (w : World) (g : Nat) (u0 u1 u2 u3 u4 u5 : Value) : KeptO (· = g) w ((((((w.setCell ⟨g, 0, none⟩ u0).setCell ⟨g, 1, none⟩ u1).setCell ⟨g, 2, none⟩ u2).setCell ⟨g, 3, none⟩ u3).setCell ⟨g, 4, none⟩ u4).setCell ⟨g, 5, none⟩ u5) := by
  repeat (refine KeptO.setCell ?_ _ _ (.inl rfl))
  exact KeptO.refl w
theorem own_rng' {w : World} {B size n : Nat} {e : TypeId} {v : Value} {cs : List Value} (h : w.ownsRow B e size v n cs) : ∀ k, v.ownBlock = some k → B ≤ k ∧ k < w.heap.size := by
  intro k hk
  rcases h.2 with ⟨rfl, -⟩ | ⟨g, cap, cur, rfl, hg, hh, -⟩
  · cases hk
  · cases hk
    exact ⟨hg, (Array.getElem?_eq_some_iff.1 hh).1⟩
theorem OwnFL.kept' {B g : Nat} {w w' : World} {x : FL} (h : OwnFL B w x) (k : KeptO (· = g) w w') (hg : g < B ∨ w.heap.size ≤ g) : OwnFL B w' x :=
  ⟨k.own h.1 (fun i hi e => by have := own_rng' h.1 i hi; omega), k.own h.2.1 (fun i hi e => by have := own_rng' h.2.1 i hi; omega), h.2.2.1, h.2.2.2⟩
theorem OwnFL.mono' {B B' : Nat} {w : World} {x : FL} (h : OwnFL B w x) (k : B' ≤ B) : OwnFL B' w x := ⟨ownsRow_mono h.1 k, ownsRow_mono h.2.1 k, h.2.2.1, h.2.2.2⟩

/-- The complex fraction that the number is. -/
def RetGs (a b : Nat) (w : World) (e : Ending) (w' : World) : Prop :=
  ∃ x y : FL, ExF a x.r ∧ ExF b y.r ∧ e = .returned (.tuple #[gaV x y, .int .i64 0]) ∧ Blw w w' ∧ OwnFL w.heap.size w' x ∧ OwnFL w.heap.size w' y

set_option maxRecDepth 100000 in
set_option maxHeartbeats 4000000 in
theorem partsExact_bad (a b : Nat) (w : World) (ha : a < 2 ^ 64) (hb : b < 2 ^ 64) (hf : (Fl.isFin a && Fl.isFin b) = false) :
    Calls Try.prog 23 #[.complex .f64 a b] w fun e w' => e = .returned (.tuple #[gaV ⟨⟨false, [], []⟩, none, 0, none, 0⟩ ⟨⟨false, [], []⟩, none, 0, none, 0⟩, .int .i64 8]) ∧ ∃ z, w' = w.ext z := by
  go_enter Try.func23, Try.ntmps23
  go_wp2_with fail
  refine (partsFiniteC_any _ _ _ ha hb).mono ?_
  rintro e w1 ⟨rfl, rfl⟩
  rw [hf]
  go_wp2
  exact bodyPost_ret (v := .tuple #[.agg #[.bool false, .slice none 0 0, .slice none 0 0, .bool false, .slice none 0 0, .slice none 0 0], .int .i64 8]) (by simp [results, Try.results23, go_sem]) rfl ⟨rfl, Blw.is (by repeat (first | exact Blw.refl _ | apply Blw.ext | apply Blw.alloc | apply Blw.drewN | apply Blw.drew | refine Blw.setCell ?_ _ _ (by simp)))⟩

set_option maxRecDepth 100000 in
set_option maxHeartbeats 4000000 in
theorem partsExact_ok (a b : Nat) (w : World) (ha : a < 2 ^ 64) (hb : b < 2 ^ 64) (fa : Fl.isFin a = true) (fb : Fl.isFin b = true) :
    Calls Try.prog 23 #[.complex .f64 a b] w (RetGs a b w) := by
  have hF0 : (w.alloc (.cells #[.bool false, .slice none 0 0, .slice none 0 0, .bool false, .slice none 0 0, .slice none 0 0] 36)).heap[w.heap.size]? = some (.cells #[.bool false, .slice none 0 0, .slice none 0 0, .bool false, .slice none 0 0, .slice none 0 0] 36 (0, 0)) := heap_alloc_new _ _
  have hB0 : (w.alloc (.cells #[.bool false, .slice none 0 0, .slice none 0 0, .bool false, .slice none 0 0, .slice none 0 0] 36)).heap.size = w.heap.size + 1 := by simp
  go_enter Try.func23, Try.ntmps23
  go_wp2_with fail
  refine (partsFiniteC_any _ _ _ ha hb).mono ?_
  rintro e w1 ⟨rfl, rfl⟩
  rw [fa, fb]
  go_wp2_with fail
  refine Calls.mono (realExact_ok a _ ha fa) ?_
  rintro e W1 ⟨r, hr, p1, q1, p2, q2, rfl, hb1, o1, o2⟩
  rw [hB0] at o1 o2
  have HR := Lib.hid hr
  have hF1 := (KeptO.of_blw (O := fun _ => False) hb1).heap hF0 id
  clear hr
  obtain ⟨rn, rnum, rden⟩ := r
  go_wp2_with fail
  refine Calls.mono (realExact_ok b _ hb fb) ?_
  rintro e W2 ⟨s, hs, p3, q3, p4, q4, rfl, hb2, o3, o4⟩
  have HS := Lib.hid hs
  obtain ⟨k0, k1, k2, k3⟩ := box3 hb2
  have hF2 := (KeptO.of_blw (O := fun _ => False) hb2).heap ((KeptO.of_blw (O := fun _ => False) ((Blw.refl W1).alloc _)).heap hF1 id) id
  clear hs hF0 hF1
  obtain ⟨sn, snum, sden⟩ := s
  have hF3 := (KeptO.of_blw (O := fun _ => False) ((Blw.refl W2).alloc (.cells #[.bool sn, .slice p3 snum.length q3, .slice p4 sden.length q4] 34))).heap hF2 id
  have hb3 : Blw w (W2.alloc (.cells #[.bool sn, .slice p3 snum.length q3, .slice p4 sden.length q4] 34)) := ((((Blw.refl w).alloc _).trans hb1).trans (((Blw.refl W1).alloc _).trans hb2)).alloc _
  have z1 : w.heap.size + 1 ≤ W1.heap.size := by have := hb1.size; simpa using this
  obtain ⟨hfz, e0, e1, e2, e3, e4, e5, r0, r1, r2, r3, r4, r5⟩ := sixR hF3 (.bool rn) (.slice p1 rnum.length q1) (.slice p2 rden.length q2) (.bool sn) (.slice p3 snum.length q3) (.slice p4 sden.length q4)
  have hK := sixR_kept (W2.alloc (.cells #[.bool sn, .slice p3 snum.length q3, .slice p4 sden.length q4] 34)) w.heap.size (.bool rn) (.slice p1 rnum.length q1) (.slice p2 rden.length q2) (.bool sn) (.slice p3 snum.length q3) (.slice p4 sden.length q4)
  have O1 : OwnFL (w.heap.size + 1) (W2.alloc (.cells #[.bool sn, .slice p3 snum.length q3, .slice p4 sden.length q4] 34)) ⟨⟨rn, rnum, rden⟩, p1, q1, p2, q2⟩ := OwnFL.blw ⟨o1, o2, HR.out.wn, HR.out.wd⟩ ((((Blw.refl W1).alloc _).trans hb2).alloc _)
  have O2 : OwnFL (w.heap.size + 1) (W2.alloc (.cells #[.bool sn, .slice p3 snum.length q3, .slice p4 sden.length q4] 34)) ⟨⟨sn, snum, sden⟩, p3, q3, p4, q4⟩ := OwnFL.blw ⟨ownsRow_mono o3 (by simp; omega), ownsRow_mono o4 (by simp; omega), HS.out.wn, HS.out.wd⟩ ((Blw.refl W2).alloc _)
  have P1 := Lib.hid ((O1.kept' hK (.inl (Nat.lt_succ_self _))).mono' (Nat.le_succ _))
  have P2 := Lib.hid ((O2.kept' hK (.inl (Nat.lt_succ_self _))).mono' (Nat.le_succ _))
  have PB := Lib.hid (KeptO.blw hb3 hK (fun i hi => by subst hi; exact Nat.le_refl _))
  clear hF2 hF3 hK O1 O2 o1 o2 o3 o4 hb1 hb2 hb3
  go_wp2
  exact bodyPost_ret (v := .tuple #[.agg #[.bool rn, .slice p1 rnum.length q1, .slice p2 rden.length q2, .bool sn, .slice p3 snum.length q3, .slice p4 sden.length q4], .int .i64 0]) (by simp [results, Try.results23, go_sem, r0, r1, r2, r3, r4, r5]) rfl
    ⟨⟨⟨rn, rnum, rden⟩, p1, q1, p2, q2⟩, ⟨⟨sn, snum, sden⟩, p3, q3, p4, q4⟩, HR.out, HS.out, rfl, PB.out, P1.out, P2.out⟩
end Go.Proofs.Ytmeccjlopmjneaa
/- gauss: the way's own steps, walked. -/
namespace Go.Proofs.Ytmeccjlopmjneaa
open Go.RowKit

abbrev flV (x : FL) : Value := frV x.r x.a x.c x.b x.d
/-- The fraction of nothing, nowhere. -/
abbrev zL : FL := ⟨zF, none, 0, none, 0⟩
theorem zL_own (B : Nat) (w : World) : OwnFL B w zL := ⟨World.ownsRow_nil _ _ _ _, World.ownsRow_nil _ _ _ _, W.WF.nil, W.WF.nil⟩
theorem zL_in (w : World) : FL.In w zL := (zL_own 0 w).in

/-- A way: a block of one cell that holds the error. -/
abbrev WayAt (w : World) (g : Nat) (e : Int) : Prop := w.heap[g]? = some (.cells #[.int .i64 e] 124 (0, 0))
theorem WayAt.facts {w : World} {g : Nat} {e : Int} (h : WayAt w g e) : g < w.heap.size ∧ w.cell? ⟨g, 0, none⟩ = some (.int .i64 e) ∧ (∀ i, w.frozen? ⟨g, i, none⟩ = false) :=
  ⟨(Array.getElem?_eq_some_iff.1 h).1, (cell_of_row w g 0 _ _ _ h).trans rfl, fun i => frozen_of_row w g i _ _ h⟩
theorem WayAt.blw {w w' : World} {g : Nat} {e : Int} (h : WayAt w g e) (k : Blw w w') : WayAt w' g e := (KeptO.of_blw (O := fun _ => False) k).heap h id
theorem WayAt.alloc3 {w w' : World} {g : Nat} {e : Int} {o1 o2 o3 : Obj} (h : WayAt w g e) (k : Blw (((w.alloc o1).alloc o2).alloc o3) w') : WayAt w' g e := WayAt.blw (at_alloc _ (at_alloc _ (at_alloc _ h))) k
theorem WayAt.set {w : World} {g : Nat} {e : Int} (h : WayAt w g e) (e' : Int) : WayAt (w.setCell ⟨g, 0, none⟩ (.int .i64 e')) g e' := at_set 0 _ h

/-- Words, and fractions, lie elsewhere than a way. -/
theorem WayAt.arr {w w' : World} {g : Nat} {e : Int} (h : WayAt w g e) (k : KeptO (· = g) w w') {a : Option Addr} {cs : List Value} (hA : Arr w a cs) (h0 : ∀ v, cs[0]? = some v → ∀ n, v ≠ .int .i64 n) : Arr w' a cs := by
  rcases hA with hA | ⟨b, o, rfl, hb, hc⟩
  · exact .inl hA
  · cases cs with
    | nil => exact .inl rfl
    | cons v cs =>
      refine KeptO.arr k (.inr ⟨b, o, rfl, hb, hc⟩) ?_
      rintro q hq (hg : q.block = g)
      cases hq
      have hg : b = g := hg
      subst hg
      have e1 := hc 0 (by simp)
      rw [cell_of_row w b (o + 0) _ _ _ h] at e1
      have e1 : (#[Value.int .i64 e] : Array Value)[o]? = some v := e1
      cases o with
      | zero => simp at e1; exact h0 v rfl e e1.symm
      | succ o => simp at e1
theorem u32s_head (l : List Nat) : ∀ v, (u32s l)[0]? = some v → ∀ n, v ≠ .int .i64 n := by
  intro v hv n e
  subst e
  cases l <;> simp at hv
theorem WayAt.fl {w w' : World} {g : Nat} {e : Int} (h : WayAt w g e) (k : KeptO (· = g) w w') {x : FL} (hx : FL.In w x) : FL.In w' x :=
  ⟨h.arr k hx.an (u32s_head _), h.arr k hx.ad (u32s_head _), hx.cn, hx.cm, hx.dn, hx.dm, hx.na, hx.nb, hx.wn, hx.wd⟩
theorem fls_head (l : List FL) : ∀ v, (fls l)[0]? = some v → ∀ n, v ≠ .int .i64 n := by
  intro v hv n e
  subst e
  cases l <;> simp [fls, FL.cells] at hv

set_option maxRecDepth 100000 in
set_option maxHeartbeats 1000000 in
theorem wayMade_go (g : Nat) (er : Int) (x : FL) (w : World) (h : WayAt w g 0) :
    Calls Try.prog 96 #[.pointer (some ⟨g, 0, none⟩), flV x, .int .i64 er] w fun E w' => E = .returned (flV x) ∧ WayAt w' g er ∧ KeptO (· = g) w w' := by
  obtain ⟨hlt, hc, hfz⟩ := h.facts
  obtain ⟨⟨rn, rnum, rden⟩, a, c, b, d⟩ := x
  have hF := heap_alloc_new (w.alloc (.cells #[.bool rn, .slice a rnum.length c, .slice b rden.length d] 34 (0, 0))) (.cells #[.bool false, .slice none 0 0, .slice none 0 0] 34 (0, 0))
  rw [show (w.alloc (.cells #[.bool rn, .slice a rnum.length c, .slice b rden.length d] 34 (0, 0))).heap.size = w.heap.size + 1 by simp] at hF
  have hF1 := at_far (b := g) (i := 0) (.int .i64 er) (by omega) hF
  obtain ⟨hz, d0, d1, d2, r0, r1, r2⟩ := three hF1 (.bool rn) (.slice a rnum.length c) (.slice b rden.length d)
  go_enter Try.func96, Try.ntmps96
  go_wp2_with fail
  refine bodyPost_ret (v := .agg #[.bool rn, .slice a rnum.length c, .slice b rden.length d]) (by simp [results, Try.results96, go_sem]) rfl ⟨rfl, ?_, ?_⟩
  · exact at_alloc _ (at_alloc _ (h.set er))
  · exact (((KeptO.refl (O := fun k => k = g) w).setCell ⟨g, 0, none⟩ _ (.inl rfl)).alloc _).alloc _

set_option maxRecDepth 100000 in
set_option maxHeartbeats 1000000 in
theorem wayMade_no (g : Nat) (e er : Int) (x : FL) (w : World) (h : WayAt w g e) (he : e ≠ 0) :
    Calls Try.prog 96 #[.pointer (some ⟨g, 0, none⟩), flV x, .int .i64 er] w fun E w' => E = .returned (flV zL) ∧ WayAt w' g e ∧ KeptO (· = g) w w' := by
  obtain ⟨hlt, hc, hfz⟩ := h.facts
  obtain ⟨⟨rn, rnum, rden⟩, a, c, b, d⟩ := x
  have hq : (e != 0) = true := by simpa using he
  have hF := heap_alloc_new (w.alloc (.cells #[.bool rn, .slice a rnum.length c, .slice b rden.length d] 34 (0, 0))) (.cells #[.bool false, .slice none 0 0, .slice none 0 0] 34 (0, 0))
  rw [show (w.alloc (.cells #[.bool rn, .slice a rnum.length c, .slice b rden.length d] 34 (0, 0))).heap.size = w.heap.size + 1 by simp] at hF
  obtain ⟨hz, d0, d1, d2, r0, r1, r2⟩ := three hF (.bool false) (.slice none 0 0) (.slice none 0 0)
  go_enter Try.func96, Try.ntmps96
  go_wp2_with fail
  refine bodyPost_ret (v := .agg #[.bool false, .slice none 0 0, .slice none 0 0]) (by simp [results, Try.results96, go_sem]) rfl ⟨rfl, ?_, ?_⟩
  · exact at_alloc _ (at_alloc _ h)
  · exact ((KeptO.refl w).alloc _).alloc _

/-- A step of the way: nothing once there was an error. -/
def wopF (e : Int) (R : Fr × Int) : Fr × Int := if e = 0 then R else (zF, e)
/-- What a step leaves. -/
def RetWay (w : World) (g : Nat) (R : Fr × Int) (E : Ending) (w' : World) : Prop :=
  ∃ y : FL, y.r = R.1 ∧ E = .returned (flV y) ∧ WayAt w' g R.2 ∧ KeptO (· = g) w w' ∧ OwnFL w.heap.size w' y

set_option maxRecDepth 100000 in
set_option maxHeartbeats 1000000 in
/-- made, of what a call told. -/
theorem wayMade_any (B g : Nat) (e er : Int) (x : FL) (w : World) (h : WayAt w g e) (hx : OwnFL B w x) (hg : g < B) :
    Calls Try.prog 96 #[.pointer (some ⟨g, 0, none⟩), flV x, .int .i64 er] w fun E w' => ∃ y : FL, y.r = (wopF e (x.r, er)).1 ∧ E = .returned (flV y) ∧ WayAt w' g (wopF e (x.r, er)).2 ∧ KeptO (· = g) w w' ∧ OwnFL B w' y := by
  by_cases he : e = 0
  · subst he
    refine (wayMade_go g er x w h).mono ?_
    rintro E w' ⟨rfl, h1, h2⟩
    exact ⟨x, rfl, rfl, h1, h2, hx.kept' h2 (.inl hg)⟩
  · refine (wayMade_no g e er x w h he).mono ?_
    rintro E w' ⟨rfl, h1, h2⟩
    unfold wopF
    rw [if_neg he]
    exact ⟨zL, rfl, rfl, h1, h2, zL_own _ _⟩
theorem addF_wf (r s : Fr) : W.WF (addF r s).1.num ∧ W.WF (addF r s).1.den := by unfold addF resQ; split <;> (try split) <;> first | exact ⟨W.wf_toW _, W.wf_toW _⟩ | exact ⟨W.WF.nil, W.WF.nil⟩
theorem subF_wf (r s : Fr) : W.WF (subF r s).1.num ∧ W.WF (subF r s).1.den := by unfold subF resQ; split <;> (try split) <;> first | exact ⟨W.wf_toW _, W.wf_toW _⟩ | exact ⟨W.WF.nil, W.WF.nil⟩
theorem mulF_wf (r s : Fr) : W.WF (mulF r s).1.num ∧ W.WF (mulF r s).1.den := by unfold mulF resQ; split <;> (try split) <;> first | exact ⟨W.wf_toW _, W.wf_toW _⟩ | exact ⟨W.WF.nil, W.WF.nil⟩
theorem quoF_wf (r s : Fr) : W.WF (quoF r s).1.num ∧ W.WF (quoF r s).1.den := by unfold quoF resQ; split <;> (try split) <;> (try split) <;> first | exact ⟨W.wf_toW _, W.wf_toW _⟩ | exact ⟨W.WF.nil, W.WF.nil⟩
/-- A told fraction as a located one. -/
theorem RetFr.fl {w : World} {R : Fr × Int} {E : Ending} {w' : World} (h : RetFr w R.1 R.2 E w') (hw : W.WF R.1.num ∧ W.WF R.1.den) : ∃ y : FL, y.r = R.1 ∧ E = .returned (.tuple #[flV y, .int .i64 R.2]) ∧ Blw w w' ∧ OwnFL w.heap.size w' y := by
  obtain ⟨a, c, b, d, he, hb, o1, o2⟩ := h
  exact ⟨⟨R.1, a, c, b, d⟩, rfl, he, hb, o1, o2, hw.1, hw.2⟩

theorem OwnFL.set3 {B g : Nat} {w : World} {x : FL} (h : OwnFL B w x) (hg : g < B) (u0 u1 u2 : Value) : OwnFL B (((w.setCell ⟨g, 0, none⟩ u0).setCell ⟨g, 1, none⟩ u1).setCell ⟨g, 2, none⟩ u2) x :=
  ⟨own_three h.1 hg _ _ _, own_three h.2.1 hg _ _ _, h.2.2.1, h.2.2.2⟩

set_option maxRecDepth 100000 in
set_option maxHeartbeats 1000000 in
theorem way_add (g : Nat) (e : Int) (x y : FL) (w : World) (h : WayAt w g e) (hx : FL.In w x) (hy : FL.In w y) :
    Calls Try.prog 141 #[.pointer (some ⟨g, 0, none⟩), flV x, flV y] w (RetWay w g (wopF e (addF x.r y.r))) := by
  obtain ⟨hlt, hc, hfz⟩ := h.facts
  have P := Lib.hid (fun (wx : World) (hb : Blw w wx) => ratioAdd_any x.r y.r x.a x.c x.b x.d y.a y.c y.b y.d wx (hx.blw hb) (hy.blw hb))
  have hwf := addF_wf x.r y.r
  generalize addF x.r y.r = R at *
  clear hx hy
  have hF := heap3 w (.cells #[.bool x.r.neg, .slice x.a x.r.num.length x.c, .slice x.b x.r.den.length x.d] 34 (0, 0)) (.cells #[.bool y.r.neg, .slice y.a y.r.num.length y.c, .slice y.b y.r.den.length y.d] 34 (0, 0)) (.cells #[.bool false, .slice none 0 0, .slice none 0 0] 34 (0, 0))
  go_enter Try.func141, Try.ntmps141
  go_wp2_with fail
  refine Calls.mono (P.out _ (by repeat (first | exact Blw.refl _ | apply Blw.ext | apply Blw.alloc | apply Blw.drewN | apply Blw.drew | refine Blw.setCell ?_ _ _ (by simp)))) ?_
  intro E w1 hw1
  obtain ⟨z, hzr, rfl, hb1, hz⟩ := RetFr.fl hw1 hwf
  have HZ := Lib.hid hzr
  have hA := h.alloc3 hb1
  have hF1 := (KeptO.of_blw (O := fun _ => False) hb1).heap hF id
  have hsz : w.heap.size + 3 ≤ w1.heap.size := Nat.le_trans (by simp) hb1.size
  have hb : Blw w w1 := Blw.trans (by repeat (first | exact Blw.refl _ | apply Blw.ext | apply Blw.alloc | apply Blw.drewN | apply Blw.drew | refine Blw.setCell ?_ _ _ (by simp))) hb1
  have hz := hz.mono' (show w.heap.size + 3 ≤ _ by simp)
  clear hw1 hzr hF hwf P hb1
  go_wp2_with fail
  refine Calls.mono (wayMade_any (w.heap.size + 3) g e R.2 z w1 hA hz (by omega)) ?_
  rintro E w2 ⟨u, hu, rfl, hA2, hk2, hu2⟩
  have HU := Lib.hid hu
  have hF2 := hk2.heap hF1 (by show ¬ (_ = _); omega)
  obtain ⟨hz, d0, d1, d2, r0, r1, r2⟩ := three hF2 (.bool u.r.neg) (.slice u.a u.r.num.length u.c) (.slice u.b u.r.den.length u.d)
  have hs2 := hk2.size
  clear hu hF1
  go_wp2_with fail
  refine bodyPost_ret (v := .agg #[.bool u.r.neg, .slice u.a u.r.num.length u.c, .slice u.b u.r.den.length u.d]) (by simp [results, Try.results141, go_sem, r0, r1, r2]) rfl ⟨u, ?_, rfl, ?_, ?_, ?_⟩
  · rw [HU.out, HZ.out]
  · have hne : g ≠ w.heap.size + 2 := by omega
    rw [HZ.out] at hA2
    exact at_far _ hne (at_far _ hne (at_far _ hne hA2))
  · have k0 : KeptO (· = g) w w2 := (KeptO.of_blw hb).trans hk2
    exact ((k0.setCell ⟨w.heap.size + 2, 0, none⟩ _ (.inr (Nat.le_add_right _ 2))).setCell ⟨w.heap.size + 2, 1, none⟩ _ (.inr (Nat.le_add_right _ 2))).setCell ⟨w.heap.size + 2, 2, none⟩ _ (.inr (Nat.le_add_right _ 2))
  · exact OwnFL.mono' (OwnFL.set3 hu2 (Nat.lt_succ_self _) _ _ _) (Nat.le_add_right _ 3)
set_option maxRecDepth 100000 in
set_option maxHeartbeats 1000000 in
theorem way_sub (g : Nat) (e : Int) (x y : FL) (w : World) (h : WayAt w g e) (hx : FL.In w x) (hy : FL.In w y) :
    Calls Try.prog 140 #[.pointer (some ⟨g, 0, none⟩), flV x, flV y] w (RetWay w g (wopF e (subF x.r y.r))) := by
  obtain ⟨hlt, hc, hfz⟩ := h.facts
  have P := Lib.hid (fun (wx : World) (hb : Blw w wx) => ratioSub_any x.r y.r x.a x.c x.b x.d y.a y.c y.b y.d wx (hx.blw hb) (hy.blw hb))
  have hwf := subF_wf x.r y.r
  generalize subF x.r y.r = R at *
  clear hx hy
  have hF := heap3 w (.cells #[.bool x.r.neg, .slice x.a x.r.num.length x.c, .slice x.b x.r.den.length x.d] 34 (0, 0)) (.cells #[.bool y.r.neg, .slice y.a y.r.num.length y.c, .slice y.b y.r.den.length y.d] 34 (0, 0)) (.cells #[.bool false, .slice none 0 0, .slice none 0 0] 34 (0, 0))
  go_enter Try.func140, Try.ntmps140
  go_wp2_with fail
  refine Calls.mono (P.out _ (by repeat (first | exact Blw.refl _ | apply Blw.ext | apply Blw.alloc | apply Blw.drewN | apply Blw.drew | refine Blw.setCell ?_ _ _ (by simp)))) ?_
  intro E w1 hw1
  obtain ⟨z, hzr, rfl, hb1, hz⟩ := RetFr.fl hw1 hwf
  have HZ := Lib.hid hzr
  have hA := h.alloc3 hb1
  have hF1 := (KeptO.of_blw (O := fun _ => False) hb1).heap hF id
  have hsz : w.heap.size + 3 ≤ w1.heap.size := Nat.le_trans (by simp) hb1.size
  have hb : Blw w w1 := Blw.trans (by repeat (first | exact Blw.refl _ | apply Blw.ext | apply Blw.alloc | apply Blw.drewN | apply Blw.drew | refine Blw.setCell ?_ _ _ (by simp))) hb1
  have hz := hz.mono' (show w.heap.size + 3 ≤ _ by simp)
  clear hw1 hzr hF hwf P hb1
  go_wp2_with fail
  refine Calls.mono (wayMade_any (w.heap.size + 3) g e R.2 z w1 hA hz (by omega)) ?_
  rintro E w2 ⟨u, hu, rfl, hA2, hk2, hu2⟩
  have HU := Lib.hid hu
  have hF2 := hk2.heap hF1 (by show ¬ (_ = _); omega)
  obtain ⟨hz, d0, d1, d2, r0, r1, r2⟩ := three hF2 (.bool u.r.neg) (.slice u.a u.r.num.length u.c) (.slice u.b u.r.den.length u.d)
  have hs2 := hk2.size
  clear hu hF1
  go_wp2_with fail
  refine bodyPost_ret (v := .agg #[.bool u.r.neg, .slice u.a u.r.num.length u.c, .slice u.b u.r.den.length u.d]) (by simp [results, Try.results140, go_sem, r0, r1, r2]) rfl ⟨u, ?_, rfl, ?_, ?_, ?_⟩
  · rw [HU.out, HZ.out]
  · have hne : g ≠ w.heap.size + 2 := by omega
    rw [HZ.out] at hA2
    exact at_far _ hne (at_far _ hne (at_far _ hne hA2))
  · have k0 : KeptO (· = g) w w2 := (KeptO.of_blw hb).trans hk2
    exact ((k0.setCell ⟨w.heap.size + 2, 0, none⟩ _ (.inr (Nat.le_add_right _ 2))).setCell ⟨w.heap.size + 2, 1, none⟩ _ (.inr (Nat.le_add_right _ 2))).setCell ⟨w.heap.size + 2, 2, none⟩ _ (.inr (Nat.le_add_right _ 2))
  · exact OwnFL.mono' (OwnFL.set3 hu2 (Nat.lt_succ_self _) _ _ _) (Nat.le_add_right _ 3)
set_option maxRecDepth 100000 in
set_option maxHeartbeats 1000000 in
theorem way_mul (g : Nat) (e : Int) (x y : FL) (w : World) (h : WayAt w g e) (hx : FL.In w x) (hy : FL.In w y) :
    Calls Try.prog 139 #[.pointer (some ⟨g, 0, none⟩), flV x, flV y] w (RetWay w g (wopF e (mulF x.r y.r))) := by
  obtain ⟨hlt, hc, hfz⟩ := h.facts
  have P := Lib.hid (fun (wx : World) (hb : Blw w wx) => ratioMul_any x.r y.r x.a x.c x.b x.d y.a y.c y.b y.d wx (hx.blw hb) (hy.blw hb))
  have hwf := mulF_wf x.r y.r
  generalize mulF x.r y.r = R at *
  clear hx hy
  have hF := heap3 w (.cells #[.bool x.r.neg, .slice x.a x.r.num.length x.c, .slice x.b x.r.den.length x.d] 34 (0, 0)) (.cells #[.bool y.r.neg, .slice y.a y.r.num.length y.c, .slice y.b y.r.den.length y.d] 34 (0, 0)) (.cells #[.bool false, .slice none 0 0, .slice none 0 0] 34 (0, 0))
  go_enter Try.func139, Try.ntmps139
  go_wp2_with fail
  refine Calls.mono (P.out _ (by repeat (first | exact Blw.refl _ | apply Blw.ext | apply Blw.alloc | apply Blw.drewN | apply Blw.drew | refine Blw.setCell ?_ _ _ (by simp)))) ?_
  intro E w1 hw1
  obtain ⟨z, hzr, rfl, hb1, hz⟩ := RetFr.fl hw1 hwf
  have HZ := Lib.hid hzr
  have hA := h.alloc3 hb1
  have hF1 := (KeptO.of_blw (O := fun _ => False) hb1).heap hF id
  have hsz : w.heap.size + 3 ≤ w1.heap.size := Nat.le_trans (by simp) hb1.size
  have hb : Blw w w1 := Blw.trans (by repeat (first | exact Blw.refl _ | apply Blw.ext | apply Blw.alloc | apply Blw.drewN | apply Blw.drew | refine Blw.setCell ?_ _ _ (by simp))) hb1
  have hz := hz.mono' (show w.heap.size + 3 ≤ _ by simp)
  clear hw1 hzr hF hwf P hb1
  go_wp2_with fail
  refine Calls.mono (wayMade_any (w.heap.size + 3) g e R.2 z w1 hA hz (by omega)) ?_
  rintro E w2 ⟨u, hu, rfl, hA2, hk2, hu2⟩
  have HU := Lib.hid hu
  have hF2 := hk2.heap hF1 (by show ¬ (_ = _); omega)
  obtain ⟨hz, d0, d1, d2, r0, r1, r2⟩ := three hF2 (.bool u.r.neg) (.slice u.a u.r.num.length u.c) (.slice u.b u.r.den.length u.d)
  have hs2 := hk2.size
  clear hu hF1
  go_wp2_with fail
  refine bodyPost_ret (v := .agg #[.bool u.r.neg, .slice u.a u.r.num.length u.c, .slice u.b u.r.den.length u.d]) (by simp [results, Try.results139, go_sem, r0, r1, r2]) rfl ⟨u, ?_, rfl, ?_, ?_, ?_⟩
  · rw [HU.out, HZ.out]
  · have hne : g ≠ w.heap.size + 2 := by omega
    rw [HZ.out] at hA2
    exact at_far _ hne (at_far _ hne (at_far _ hne hA2))
  · have k0 : KeptO (· = g) w w2 := (KeptO.of_blw hb).trans hk2
    exact ((k0.setCell ⟨w.heap.size + 2, 0, none⟩ _ (.inr (Nat.le_add_right _ 2))).setCell ⟨w.heap.size + 2, 1, none⟩ _ (.inr (Nat.le_add_right _ 2))).setCell ⟨w.heap.size + 2, 2, none⟩ _ (.inr (Nat.le_add_right _ 2))
  · exact OwnFL.mono' (OwnFL.set3 hu2 (Nat.lt_succ_self _) _ _ _) (Nat.le_add_right _ 3)
set_option maxRecDepth 100000 in
set_option maxHeartbeats 1000000 in
theorem way_quo (g : Nat) (e : Int) (x y : FL) (w : World) (h : WayAt w g e) (hx : FL.In w x) (hy : FL.In w y) :
    Calls Try.prog 147 #[.pointer (some ⟨g, 0, none⟩), flV x, flV y] w (RetWay w g (wopF e (quoF x.r y.r))) := by
  obtain ⟨hlt, hc, hfz⟩ := h.facts
  have P := Lib.hid (fun (wx : World) (hb : Blw w wx) => ratioQuo_any x.r y.r x.a x.c x.b x.d y.a y.c y.b y.d wx (hx.blw hb) (hy.blw hb))
  have hwf := quoF_wf x.r y.r
  generalize quoF x.r y.r = R at *
  clear hx hy
  have hF := heap3 w (.cells #[.bool x.r.neg, .slice x.a x.r.num.length x.c, .slice x.b x.r.den.length x.d] 34 (0, 0)) (.cells #[.bool y.r.neg, .slice y.a y.r.num.length y.c, .slice y.b y.r.den.length y.d] 34 (0, 0)) (.cells #[.bool false, .slice none 0 0, .slice none 0 0] 34 (0, 0))
  go_enter Try.func147, Try.ntmps147
  go_wp2_with fail
  refine Calls.mono (P.out _ (by repeat (first | exact Blw.refl _ | apply Blw.ext | apply Blw.alloc | apply Blw.drewN | apply Blw.drew | refine Blw.setCell ?_ _ _ (by simp)))) ?_
  intro E w1 hw1
  obtain ⟨z, hzr, rfl, hb1, hz⟩ := RetFr.fl hw1 hwf
  have HZ := Lib.hid hzr
  have hA := h.alloc3 hb1
  have hF1 := (KeptO.of_blw (O := fun _ => False) hb1).heap hF id
  have hsz : w.heap.size + 3 ≤ w1.heap.size := Nat.le_trans (by simp) hb1.size
  have hb : Blw w w1 := Blw.trans (by repeat (first | exact Blw.refl _ | apply Blw.ext | apply Blw.alloc | apply Blw.drewN | apply Blw.drew | refine Blw.setCell ?_ _ _ (by simp))) hb1
  have hz := hz.mono' (show w.heap.size + 3 ≤ _ by simp)
  clear hw1 hzr hF hwf P hb1
  go_wp2_with fail
  refine Calls.mono (wayMade_any (w.heap.size + 3) g e R.2 z w1 hA hz (by omega)) ?_
  rintro E w2 ⟨u, hu, rfl, hA2, hk2, hu2⟩
  have HU := Lib.hid hu
  have hF2 := hk2.heap hF1 (by show ¬ (_ = _); omega)
  obtain ⟨hz, d0, d1, d2, r0, r1, r2⟩ := three hF2 (.bool u.r.neg) (.slice u.a u.r.num.length u.c) (.slice u.b u.r.den.length u.d)
  have hs2 := hk2.size
  clear hu hF1
  go_wp2_with fail
  refine bodyPost_ret (v := .agg #[.bool u.r.neg, .slice u.a u.r.num.length u.c, .slice u.b u.r.den.length u.d]) (by simp [results, Try.results147, go_sem, r0, r1, r2]) rfl ⟨u, ?_, rfl, ?_, ?_, ?_⟩
  · rw [HU.out, HZ.out]
  · have hne : g ≠ w.heap.size + 2 := by omega
    rw [HZ.out] at hA2
    exact at_far _ hne (at_far _ hne (at_far _ hne hA2))
  · have k0 : KeptO (· = g) w w2 := (KeptO.of_blw hb).trans hk2
    exact ((k0.setCell ⟨w.heap.size + 2, 0, none⟩ _ (.inr (Nat.le_add_right _ 2))).setCell ⟨w.heap.size + 2, 1, none⟩ _ (.inr (Nat.le_add_right _ 2))).setCell ⟨w.heap.size + 2, 2, none⟩ _ (.inr (Nat.le_add_right _ 2))
  · exact OwnFL.mono' (OwnFL.set3 hu2 (Nat.lt_succ_self _) _ _ _) (Nat.le_add_right _ 3)
end Go.Proofs.Ytmeccjlopmjneaa
/- gauss: told, check, walked. -/
namespace Go.Proofs.Ytmeccjlopmjneaa
open Go.RowKit

set_option maxRecDepth 100000 in
set_option maxHeartbeats 1000000 in
theorem wayTold_ok (g : Nat) (x y : FL) (w : World) (h : WayAt w g 0) :
    Calls Try.prog 89 #[.pointer (some ⟨g, 0, none⟩), flV x, flV y] w fun E w' => E = .returned (.tuple #[gaV x y, .int .i64 0]) ∧ ∃ z, w' = w.ext z := by
  obtain ⟨hlt, hc, hfz⟩ := h.facts
  have hc3 : ∀ o1 o2 o3 : Obj, (((w.alloc o1).alloc o2).alloc o3).cell? ⟨g, 0, none⟩ = some (.int .i64 0) := fun o1 o2 o3 => (WayAt.facts (at_alloc o3 (at_alloc o2 (at_alloc o1 h)))).2.1
  obtain ⟨⟨rn, rnum, rden⟩, a, c, b, d⟩ := x
  obtain ⟨⟨sn, snum, sden⟩, a', c', b', d'⟩ := y
  go_enter Try.func89, Try.ntmps89
  go_wp2_with fail
  exact bodyPost_ret (v := .tuple #[.agg #[.bool rn, .slice a rnum.length c, .slice b rden.length d, .bool sn, .slice a' snum.length c', .slice b' sden.length d'], .int .i64 0]) (by simp [results, Try.results89, go_sem]) rfl ⟨rfl, Blw.is (by repeat (first | exact Blw.refl _ | apply Blw.ext | apply Blw.alloc | apply Blw.drewN | apply Blw.drew | refine Blw.setCell ?_ _ _ (by simp)))⟩

set_option maxRecDepth 100000 in
set_option maxHeartbeats 1000000 in
theorem wayTold_no (g : Nat) (e : Int) (x y : FL) (w : World) (h : WayAt w g e) (he : e ≠ 0) :
    Calls Try.prog 89 #[.pointer (some ⟨g, 0, none⟩), flV x, flV y] w fun E w' => E = .returned (.tuple #[gaV zL zL, .int .i64 e]) ∧ ∃ z, w' = w.ext z := by
  obtain ⟨hlt, hc, hfz⟩ := h.facts
  have hc3 : ∀ o1 o2 o3 : Obj, (((w.alloc o1).alloc o2).alloc o3).cell? ⟨g, 0, none⟩ = some (.int .i64 e) := fun o1 o2 o3 => (WayAt.facts (at_alloc o3 (at_alloc o2 (at_alloc o1 h)))).2.1
  have hq : (e != 0) = true := by simpa using he
  obtain ⟨⟨rn, rnum, rden⟩, a, c, b, d⟩ := x
  obtain ⟨⟨sn, snum, sden⟩, a', c', b', d'⟩ := y
  go_enter Try.func89, Try.ntmps89
  go_wp2_with fail
  go_region
  all_goals
    go_wp2_with fail
    exact bodyPost_ret (v := .tuple #[.agg #[.bool false, .slice none 0 0, .slice none 0 0, .bool false, .slice none 0 0, .slice none 0 0], .int .i64 e]) (by simp [results, Try.results89, go_sem]) rfl ⟨rfl, Blw.is (by repeat (first | exact Blw.refl _ | apply Blw.ext | apply Blw.alloc | apply Blw.drewN | apply Blw.drew | refine Blw.setCell ?_ _ _ (by simp)))⟩

/-- The first error of fractions, behind an error. -/
def chkL (e : Int) (l : List Fr) : Int := l.foldl (fun e r => if e = 0 then chkF r else e) e
theorem chkL_snoc (e : Int) (l : List Fr) (r : Fr) : chkL e (l ++ [r]) = if chkL e l = 0 then chkF r else chkL e l := by unfold chkL; rw [List.foldl_append]; rfl
theorem chkL_take {e : Int} {l : List FL} {k : Nat} {x : FL} (h : l[k]? = some x) : chkL e ((l.take (k + 1)).map FL.r) = if chkL e ((l.take k).map FL.r) = 0 then chkF x.r else chkL e ((l.take k).map FL.r) := by
  rw [List.take_add_one, h, List.map_append]
  exact chkL_snoc _ _ _

set_option maxRecDepth 100000 in
set_option maxHeartbeats 2000000 in
theorem wayCheck_any (g : Nat) (e : Int) (A : Option Addr) (l : List FL) (cap : Nat) (w : World) (h : WayAt w g e) (hA : Arr w A (fls l)) (hl : ∀ x ∈ l, FL.In w x) (hlen : l.length ≤ 1000) :
    Calls Try.prog 136 #[.pointer (some ⟨g, 0, none⟩), .slice A l.length cap] w fun E w' => E = .returned (.tuple #[]) ∧ WayAt w' g (chkL e (l.map FL.r)) ∧ KeptO (· = g) w w' := by
  have HA := Lib.hid hA
  have HI := Lib.hid hl
  clear hA hl
  go_enter Try.func136, Try.ntmps136
  go_wp2_with fail
  go_loopw [8] (fun i wr => ∃ k : Nat, k ≤ l.length ∧ i = .int .i64 k ∧ WayAt wr g (chkL e ((l.take k).map FL.r)) ∧ KeptO (· = g) w wr) (fun i _ => (l.length - intOf i).toNat)
  case atStart => exact ⟨0, Nat.zero_le _, rfl, h, KeptO.refl _⟩
  case round =>
    obtain ⟨k, hk, rfl, hW, hK⟩ := hrel
    by_cases h0 : k < l.length
    · have c1 : decide ((k : Int) < (l.length : Int)) = true := by simp; omega
      obtain ⟨x, b, o, hg, hm, rfl, hb, e0, e1, e2⟩ := fl_at (h.arr hK HA.out (fls_head l)) h0
      obtain ⟨hlt, hc, hfz⟩ := hW.facts
      have HC := Lib.hid (chkL_take (e := e) hg)
      have HX := Lib.hid (h.fl hK (HI.out x hm))
      generalize chkL e ((l.take k).map FL.r) = u at *
      clear hg hm
      by_cases hu : u = 0
      · subst hu
        go_wp2_with fail
        refine Calls.mono (ratioCheck_any x.r x.a x.c x.b x.d _ (HX.out.blw (by repeat (first | exact Blw.refl _ | apply Blw.ext | apply Blw.alloc | apply Blw.drewN | apply Blw.drew | refine Blw.setCell ?_ _ _ (by simp))))) ?_
        rintro E w' ⟨rfl, y, hy⟩
        have bw : Blw (wr.alloc (.cells #[.bool x.r.neg, .slice x.a x.r.num.length x.c, .slice x.b x.r.den.length x.d] 34 (0, 0))) w' := by rw [hy]; exact World.blw_ext _ _
        have hW2 := WayAt.blw (at_alloc _ hW) bw
        have hK2 := hK.trans (KeptO.of_blw (O := fun k => k = g) (((Blw.refl wr).alloc _).trans bw))
        obtain ⟨hlt2, hc2, hfz2⟩ := hW2.facts
        clear hy bw hW hK hlt hc hfz
        go_wp2_with fail
        go_roundw
        case rel => exact ⟨k + 1, by omega, by go_num, by have := HC.out; rw [if_pos trivial] at this; rw [this]; exact hW2.set _, hK2.setCell _ _ (.inl rfl)⟩
        case measure => (first | (simp [intOf]; done) | (simp [intOf]; omega))
      · have q : (u == 0) = false := by simpa using hu
        go_wp2_with fail
        go_roundw
        case rel => exact ⟨k + 1, by omega, by go_num, by have := HC.out; rw [if_neg hu] at this; rw [this]; exact at_alloc _ hW, hK.alloc _⟩
        case measure => (first | (simp [intOf]; done) | (simp [intOf]; omega))
    · have : k = l.length := by omega
      subst this
      have c1 : decide ((l.length : Int) < (l.length : Int)) = false := by simp
      rw [List.take_of_length_le (Nat.le_refl _)] at hW
      go_wp2_with fail
      go_end0
      exact ⟨rfl, hW, hK⟩
end Go.Proofs.Ytmeccjlopmjneaa
/- gauss: asked, Check, walked. -/
namespace Go.Proofs.Ytmeccjlopmjneaa
open Go.RowKit

/-- A complex fraction in memory. -/
structure GL where
  re : FL
  im : FL
abbrev gV (z : GL) : Value := gaV z.re z.im
def GL.cells (z : GL) : List Value := [.bool z.re.r.neg, .slice z.re.a z.re.r.num.length z.re.c, .slice z.re.b z.re.r.den.length z.re.d, .bool z.im.r.neg, .slice z.im.a z.im.r.num.length z.im.c, .slice z.im.b z.im.r.den.length z.im.d]
abbrev gls (l : List GL) : List Value := l.flatMap GL.cells
structure GL.In (w : World) (z : GL) : Prop where
  re : FL.In w z.re
  im : FL.In w z.im
theorem GL.In.blw {w w' : World} {z : GL} (h : GL.In w z) (k : Blw w w') : GL.In w' z := ⟨h.re.blw k, h.im.blw k⟩
theorem gl_at {w : World} {A : Option Addr} {l : List GL} (h : Arr w A (gls l)) {k : Nat} (hk : k < l.length) :
    ∃ (z : GL) (b o : Nat), l[k]? = some z ∧ z ∈ l ∧ A = some ⟨b, o, none⟩ ∧ b < w.heap.size ∧ w.cell? ⟨b, o + k * 6, none⟩ = some (.bool z.re.r.neg) ∧ w.cell? ⟨b, o + k * 6 + 1, none⟩ = some (.slice z.re.a z.re.r.num.length z.re.c) ∧ w.cell? ⟨b, o + k * 6 + 2, none⟩ = some (.slice z.re.b z.re.r.den.length z.re.d) ∧
      w.cell? ⟨b, o + k * 6 + 3, none⟩ = some (.bool z.im.r.neg) ∧ w.cell? ⟨b, o + k * 6 + 4, none⟩ = some (.slice z.im.a z.im.r.num.length z.im.c) ∧ w.cell? ⟨b, o + k * 6 + 5, none⟩ = some (.slice z.im.b z.im.r.den.length z.im.d) := by
  obtain ⟨x, b, o, h1, h2, h3, h4, h5⟩ := cells_arr GL.cells 6 (fun _ => rfl) (by decide) h hk
  exact ⟨x, b, o, h1, h2, h3, h4, h5 0 (by decide), h5 1 (by decide), h5 2 (by decide), h5 3 (by decide), h5 4 (by decide), h5 5 (by decide)⟩
theorem gls_head (l : List GL) : ∀ v, (gls l)[0]? = some v → ∀ n, v ≠ .int .i64 n := by
  intro v hv n e
  subst e
  cases l <;> simp [gls, GL.cells] at hv
theorem WayAt.gl {w w' : World} {g : Nat} {e : Int} (h : WayAt w g e) (k : KeptO (· = g) w w') {z : GL} (hz : GL.In w z) : GL.In w' z := ⟨h.fl k hz.re, h.fl k hz.im⟩

/-- The first error of complex fractions. -/
def chkG (z : Fr × Fr) : Int := if chkF z.1 = 0 then chkF z.2 else chkF z.1
def GL.g (z : GL) : Fr × Fr := (z.re.r, z.im.r)
def chkGs (l : List (Fr × Fr)) : Int := l.foldl (fun e z => if e = 0 then chkG z else e) 0
theorem chkGs_snoc (l : List (Fr × Fr)) (z : Fr × Fr) : chkGs (l ++ [z]) = if chkGs l = 0 then chkG z else chkGs l := by unfold chkGs; rw [List.foldl_append]; rfl
theorem chkGs_take {l : List GL} {k : Nat} {z : GL} (h : l[k]? = some z) : chkGs ((l.take (k + 1)).map GL.g) = chkL (chkGs ((l.take k).map GL.g)) [z.re.r, z.im.r] := by
  rw [List.take_add_one, h, List.map_append, Option.toList_some, List.map_singleton, chkGs_snoc]
  unfold chkL chkG GL.g
  simp only [List.foldl_cons, List.foldl_nil]
  by_cases q : chkGs ((l.take k).map fun z => (z.re.r, z.im.r)) = 0
  · rw [if_pos q, if_pos q]
  · rw [if_neg q, if_neg q, if_neg q]

set_option maxRecDepth 100000 in
set_option maxHeartbeats 2000000 in
theorem gaussAsked_any (A : Option Addr) (l : List GL) (cap : Nat) (w : World) (hA : Arr w A (gls l)) (hl : ∀ z ∈ l, GL.In w z) (hlen : l.length ≤ 1000) :
    Calls Try.prog 83 #[.slice A l.length cap] w fun E w' => ∃ g, w.heap.size ≤ g ∧ E = .returned (.pointer (some ⟨g, 0, none⟩)) ∧ WayAt w' g (chkGs (l.map GL.g)) ∧ Blw w w' := by
  have HA := Lib.hid hA
  have HI := Lib.hid hl
  clear hA hl
  have h00 : WayAt (w.alloc (.cells #[.int .i64 0] 124)) w.heap.size 0 := heap_alloc_new _ _
  go_enter Try.func83, Try.ntmps83
  go_wp2_with fail
  go_loopw [9] (fun i wr => ∃ k : Nat, k ≤ l.length ∧ i = .int .i64 k ∧ WayAt wr w.heap.size (chkGs ((l.take k).map GL.g)) ∧ Blw w wr) (fun i _ => (l.length - intOf i).toNat)
  case atStart => exact ⟨0, Nat.zero_le _, rfl, h00, (by repeat (first | exact Blw.refl _ | apply Blw.ext | apply Blw.alloc | apply Blw.drewN | apply Blw.drew | refine Blw.setCell ?_ _ _ (by simp)))⟩
  case round =>
    obtain ⟨k, hk, rfl, hW, hB⟩ := hrel
    by_cases h0 : k < l.length
    · have c1 : decide ((k : Int) < (l.length : Int)) = true := by simp; omega
      obtain ⟨z, b, o, hg, hm, rfl, hb, e0, e1, e2, e3, e4, e5⟩ := gl_at (HA.out.blw hB) h0
      obtain ⟨hlt, hc, hfz⟩ := hW.facts
      have HC := Lib.hid (chkGs_take hg)
      have HX := Lib.hid ((HI.out z hm).blw hB)
      generalize chkGs ((l.take k).map GL.g) = u at *
      clear hg hm
      go_wp2_with fail
      refine Calls.mono (wayCheck_any w.heap.size u _ [z.re, z.im] 2 _ (at_alloc _ (at_alloc _ hW)) ?_ ?_ (by simp)) ?_
      · exact Arr.lit_at _ _ _ _ (by simp)
      · intro x hx
        simp only [List.mem_cons, List.not_mem_nil, or_false] at hx
        rcases hx with rfl | rfl
        · exact HX.out.re.blw (by repeat (first | exact Blw.refl _ | apply Blw.ext | apply Blw.alloc | apply Blw.drewN | apply Blw.drew | refine Blw.setCell ?_ _ _ (by simp)))
        · exact HX.out.im.blw (by repeat (first | exact Blw.refl _ | apply Blw.ext | apply Blw.alloc | apply Blw.drewN | apply Blw.drew | refine Blw.setCell ?_ _ _ (by simp)))
      rintro E w' ⟨rfl, hW2, hK⟩
      have hB2 : Blw w w' := KeptO.blw (hB.trans (by repeat (first | exact Blw.refl _ | apply Blw.ext | apply Blw.alloc | apply Blw.drewN | apply Blw.drew | refine Blw.setCell ?_ _ _ (by simp)))) hK (fun i e => by subst e; exact Nat.le_refl _)
      clear hlt hc hfz hK hW
      go_wp2_with fail
      go_roundw
      case rel => exact ⟨k + 1, by omega, by go_num, by rw [HC.out]; exact hW2, hB2⟩
      case measure => (first | (simp [intOf]; done) | (simp [intOf]; omega))
    · have : k = l.length := by omega
      subst this
      have c1 : decide ((l.length : Int) < (l.length : Int)) = false := by simp
      rw [List.take_of_length_le (Nat.le_refl _)] at hW
      go_wp2_with fail
      go_ret
      exact ⟨_, Nat.le_refl _, rfl, hW, hB⟩

set_option maxRecDepth 100000 in
set_option maxHeartbeats 1000000 in
theorem gaussCheck_any (z : GL) (w : World) (h : GL.In w z) :
    Calls Try.prog 28 #[gV z] w fun E w' => E = .returned (.int .i64 (chkG z.g)) ∧ ∃ x, w' = w.ext x := by
  have K := Lib.hid (fun (wx : World) (A : Option Addr) (hb : Blw w wx) (hA : Arr wx A (gls [z])) => gaussAsked_any A [z] 1 wx hA (fun y hy => by rw [List.mem_singleton.1 hy]; exact h.blw hb) (by simp))
  have e : chkGs ([z].map GL.g) = chkG z.g := by
    show (if (0 : Int) = 0 then chkG z.g else 0) = _
    rw [if_pos rfl]
  rw [e] at K
  generalize chkG z.g = u at *
  clear e h
  go_enter Try.func28, Try.ntmps28
  go_wp2_with fail
  refine Calls.mono (K.out _ _ (by repeat (first | exact Blw.refl _ | apply Blw.ext | apply Blw.alloc | apply Blw.drewN | apply Blw.drew | refine Blw.setCell ?_ _ _ (by simp))) (Arr.lit_at _ _ _ _ (by simp))) ?_
  rintro E w' ⟨g, hg, rfl, hW, hB⟩
  obtain ⟨hlt, hc, hfz⟩ := hW.facts
  have hb : Blw w w' := Blw.trans (by repeat (first | exact Blw.refl _ | apply Blw.ext | apply Blw.alloc | apply Blw.drewN | apply Blw.drew | refine Blw.setCell ?_ _ _ (by simp))) hB
  go_wp2_with fail
  go_ret
  exact ⟨rfl, hb.is⟩
end Go.Proofs.Ytmeccjlopmjneaa
/- gauss: product, norm, walked. -/
namespace Go.Proofs.Ytmeccjlopmjneaa
open Go.RowKit

theorem row_facts {w : World} {n : Nat} {A : Array Value} {T : TypeId} (h : w.heap[n]? = some (.cells A T (0, 0))) : n < w.heap.size ∧ (∀ i, w.cell? ⟨n, i, none⟩ = A[i]?) ∧ (∀ i, w.frozen? ⟨n, i, none⟩ = false) :=
  ⟨(Array.getElem?_eq_some_iff.1 h).1, fun i => cell_of_row w n i _ _ _ h, fun i => frozen_of_row w n i _ _ h⟩
/-- A block that holds these cells. -/
abbrev RowAt (w : World) (n : Nat) (A : Array Value) (T : TypeId) : Prop := w.heap[n]? = some (.cells A T (0, 0))
theorem RowAt.kept {w w' : World} {n g : Nat} {A : Array Value} {T : TypeId} (h : RowAt w n A T) (k : KeptO (· = g) w w') (hne : n ≠ g) : RowAt w' n A T := k.heap h hne
theorem RowAt.blw {w w' : World} {n : Nat} {A : Array Value} {T : TypeId} (h : RowAt w n A T) (k : Blw w w') : RowAt w' n A T := (KeptO.of_blw (O := fun _ => False) k).heap h id
theorem RowAt.lt {w : World} {n : Nat} {A : Array Value} {T : TypeId} (h : RowAt w n A T) : n < w.heap.size := (Array.getElem?_eq_some_iff.1 h).1
theorem RowAt.set3 {w : World} {n : Nat} {a b c : Value} {T : TypeId} (h : RowAt w n #[a, b, c] T) (u0 u1 u2 : Value) : RowAt (((w.setCell ⟨n, 0, none⟩ u0).setCell ⟨n, 1, none⟩ u1).setCell ⟨n, 2, none⟩ u2) n #[u0, u1, u2] T := at_set 2 u2 (at_set 1 u1 (at_set 0 u0 h))
theorem RowAt.far3 {w : World} {n m : Nat} {A : Array Value} {T : TypeId} (h : RowAt w n A T) (hne : n ≠ m) (u0 u1 u2 : Value) : RowAt (((w.setCell ⟨m, 0, none⟩ u0).setCell ⟨m, 1, none⟩ u1).setCell ⟨m, 2, none⟩ u2) n A T := at_far _ hne (at_far _ hne (at_far _ hne h))
theorem KeptO.set3 {w w' : World} {O : Nat → Prop} {m : Nat} (k : KeptO O w w') (hm : w.heap.size ≤ m) (u0 u1 u2 : Value) : KeptO O w (((w'.setCell ⟨m, 0, none⟩ u0).setCell ⟨m, 1, none⟩ u1).setCell ⟨m, 2, none⟩ u2) := ((k.setCell _ _ (.inr hm)).setCell _ _ (.inr hm)).setCell _ _ (.inr hm)
theorem WayAt.far3 {w : World} {g m : Nat} {e : Int} (h : WayAt w g e) (hne : g ≠ m) (u0 u1 u2 : Value) : WayAt (((w.setCell ⟨m, 0, none⟩ u0).setCell ⟨m, 1, none⟩ u1).setCell ⟨m, 2, none⟩ u2) g e := at_far _ hne (at_far _ hne (at_far _ hne h))
/-- One row's cells, behind stores into it. -/
theorem row3_read {w : World} {n : Nat} {a b c : Value} {T : TypeId} (h : RowAt w n #[a, b, c] T) (u0 u1 u2 : Value) :
    (w.setCell ⟨n, 0, none⟩ u0).cell? ⟨n, 0, none⟩ = some u0 ∧ ((w.setCell ⟨n, 0, none⟩ u0).setCell ⟨n, 1, none⟩ u1).cell? ⟨n, 1, none⟩ = some u1 ∧ (((w.setCell ⟨n, 0, none⟩ u0).setCell ⟨n, 1, none⟩ u1).setCell ⟨n, 2, none⟩ u2).cell? ⟨n, 2, none⟩ = some u2 := by
  obtain ⟨-, -, -, -, h1, h2, h3⟩ := three h u0 u1 u2
  exact ⟨h1, h2, h3⟩

def prodF (e : Int) (a b : Fr × Fr) : (Fr × Fr) × Int :=
  let x := wopF e (mulF a.1 b.1)
  let y := wopF x.2 (mulF a.2 b.2)
  let re := wopF y.2 (subF x.1 y.1)
  let u := wopF re.2 (mulF a.1 b.2)
  let v := wopF u.2 (mulF a.2 b.1)
  let im := wopF v.2 (addF u.1 v.1)
  ((re.1, im.1), im.2)
def normF (e : Int) (a : Fr × Fr) : Fr × Int :=
  let x := wopF e (mulF a.1 a.1)
  let y := wopF x.2 (mulF a.2 a.2)
  wopF y.2 (addF x.1 y.1)
/-- The fraction's cells. -/
abbrev flA (x : FL) : Array Value := #[.bool x.r.neg, .slice x.a x.r.num.length x.c, .slice x.b x.r.den.length x.d]
abbrev glA (z : GL) : Array Value := #[.bool z.re.r.neg, .slice z.re.a z.re.r.num.length z.re.c, .slice z.re.b z.re.r.den.length z.re.d, .bool z.im.r.neg, .slice z.im.a z.im.r.num.length z.im.c, .slice z.im.b z.im.r.den.length z.im.d]

theorem at2_0 {w : World} {o1 o2 x : Obj} (h : (w.alloc o1).heap[w.heap.size]? = some x) : ((w.alloc o1).alloc o2).heap[w.heap.size]? = some x := at_alloc _ h

set_option maxRecDepth 100000 in
set_option maxHeartbeats 2000000 in
theorem way_norm (g : Nat) (e : Int) (z : GL) (w : World) (h : WayAt w g e) (hz : GL.In w z) :
    Calls Try.prog 145 #[.pointer (some ⟨g, 0, none⟩), gV z] w (RetWay w g (normF e z.g)) := by
  obtain ⟨hlt, hc, hfz⟩ := h.facts
  have h0 := Lib.hid h
  have hI := Lib.hid hz
  have hA : RowAt ((w.alloc (.cells (glA z) 36 (0, 0))).alloc (.cells (flA zL) 34 (0, 0))) w.heap.size (glA z) 36 := at_alloc _ (heap_alloc_new _ _)
  have hR : RowAt ((w.alloc (.cells (glA z) 36 (0, 0))).alloc (.cells (flA zL) 34 (0, 0))) (w.heap.size + 1) (flA zL) 34 := heap_alloc_at (by simp)
  have hk : KeptO (· = g) w ((w.alloc (.cells (glA z) 36 (0, 0))).alloc (.cells (flA zL) 34 (0, 0))) := ((KeptO.refl w).alloc _).alloc _
  clear hz
  go_enter Try.func145, Try.ntmps145
  go_wp2_with fail
  refine Calls.mono (way_mul g e z.re z.re _ (at_alloc _ (at_alloc _ h)) (h0.out.fl hk hI.out.re) (h0.out.fl hk hI.out.re)) ?_
  rintro E V1 ⟨x1, e1, rfl, hW1, hK1, hO1⟩
  have HX1 := Lib.hid e1
  have hA := RowAt.kept hA hK1 (by omega)
  have hR := RowAt.kept hR hK1 (by omega)
  have hO1 := hO1.mono' (show w.heap.size ≤ _ from hk.size)
  have hk := hk.trans hK1
  clear h hK1 e1 hc hfz
  obtain ⟨la, ca, -⟩ := row_facts hA
  obtain ⟨hgl, hgc, hgf⟩ := hW1.facts
  go_wp2_with fail
  have hA := at_alloc (.cells (flA x1) 34 (0, 0)) hA
  have hR := at_alloc (.cells (flA x1) 34 (0, 0)) hR
  have hW1 := at_alloc (.cells (flA x1) 34 (0, 0)) hW1
  have hk := hk.alloc (.cells (flA x1) 34 (0, 0))
  have hX : RowAt (V1.alloc (.cells (flA x1) 34 (0, 0))) V1.heap.size (flA x1) 34 := heap_alloc_new _ _
  have hO1 := hO1.blw ((Blw.refl _).alloc (.cells (flA x1) 34 (0, 0)))
  refine Calls.mono (way_mul g _ z.im z.im _ hW1 (h0.out.fl hk hI.out.im) (h0.out.fl hk hI.out.im)) ?_
  rintro E V2 ⟨x2, e2, rfl, hW2, hK2, hO2⟩
  have HX2 := Lib.hid e2
  have hR := RowAt.kept hR hK2 (by omega)
  have hX := RowAt.kept hX hK2 (by omega)
  have hO2 := hO2.mono' (show w.heap.size ≤ _ from hk.size)
  have hO1 := hO1.kept' hK2 (.inl hlt)
  have hk := hk.trans hK2
  clear hA hK2 e2 la ca hgl hgc hgf hW1
  obtain ⟨lx, cx, -⟩ := row_facts hX
  obtain ⟨hgl, hgc, hgf⟩ := hW2.facts
  go_wp2_with fail
  have hR := at_alloc (.cells (flA x2) 34 (0, 0)) hR
  have hW2 := at_alloc (.cells (flA x2) 34 (0, 0)) hW2
  have hk := hk.alloc (.cells (flA x2) 34 (0, 0))
  have hO1 := hO1.blw ((Blw.refl _).alloc (.cells (flA x2) 34 (0, 0)))
  have hO2 := hO2.blw ((Blw.refl _).alloc (.cells (flA x2) 34 (0, 0)))
  refine Calls.mono (way_add g _ x1 x2 _ hW2 hO1.in hO2.in) ?_
  rintro E V3 ⟨x3, e3, rfl, hW3, hK3, hO3⟩
  have HX3 := Lib.hid e3
  have hO3 := hO3.mono' (show w.heap.size + 2 ≤ _ from RowAt.lt hR)
  have hR := RowAt.kept hR hK3 (by omega)
  have hk := hk.trans hK3
  clear hX hK3 e3 lx cx hgl hgc hgf hW2 hO1 hO2
  obtain ⟨hz, d0, d1, d2, r0, r1, r2⟩ := three hR (.bool x3.r.neg) (.slice x3.a x3.r.num.length x3.c) (.slice x3.b x3.r.den.length x3.d)
  go_wp2_with fail
  refine bodyPost_ret (v := .agg #[.bool x3.r.neg, .slice x3.a x3.r.num.length x3.c, .slice x3.b x3.r.den.length x3.d]) (by simp [results, Try.results145, go_sem, r0, r1, r2]) rfl ⟨x3, ?_, rfl, ?_, ?_, ?_⟩
  · rw [HX3.out, HX1.out, HX2.out]; rfl
  · rw [HX1.out, HX2.out] at hW3
    exact WayAt.far3 hW3 (by omega) _ _ _
  · exact KeptO.set3 hk (by omega) _ _ _
  · exact (OwnFL.set3 hO3 (by omega) _ _ _).mono' (by omega)
set_option maxRecDepth 100000 in
set_option maxHeartbeats 4000000 in
theorem way_product (g : Nat) (e : Int) (z y : GL) (w : World) (h : WayAt w g e) (hz : GL.In w z) (hy : GL.In w y) :
    Calls Try.prog 88 #[.pointer (some ⟨g, 0, none⟩), gV z, gV y] w fun E w' => ∃ u v : FL, (u.r, v.r) = (prodF e z.g y.g).1 ∧ E = .returned (.tuple #[flV u, flV v]) ∧ WayAt w' g (prodF e z.g y.g).2 ∧ KeptO (· = g) w w' ∧ OwnFL w.heap.size w' u ∧ OwnFL w.heap.size w' v := by
  obtain ⟨hlt, hc, hfz⟩ := h.facts
  have h0 := Lib.hid h
  have hI := Lib.hid hz
  have hJ := Lib.hid hy
  obtain ⟨n, hn⟩ : ∃ n, n = w.heap.size := ⟨_, rfl⟩
  have hA : RowAt ((((w.alloc (.cells (glA z) 36 (0, 0))).alloc (.cells (glA y) 36 (0, 0))).alloc (.cells (flA zL) 34 (0, 0))).alloc (.cells (flA zL) 34 (0, 0))) w.heap.size (glA z) 36 := at_alloc _ (at_alloc _ (at_alloc _ (heap_alloc_new _ _)))
  have hB : RowAt ((((w.alloc (.cells (glA z) 36 (0, 0))).alloc (.cells (glA y) 36 (0, 0))).alloc (.cells (flA zL) 34 (0, 0))).alloc (.cells (flA zL) 34 (0, 0))) (w.heap.size + 1) (glA y) 36 := at_alloc _ (at_alloc _ (heap_alloc_at (by simp)))
  have hP : RowAt ((((w.alloc (.cells (glA z) 36 (0, 0))).alloc (.cells (glA y) 36 (0, 0))).alloc (.cells (flA zL) 34 (0, 0))).alloc (.cells (flA zL) 34 (0, 0))) (w.heap.size + 1 + 1) (flA zL) 34 := at_alloc _ (heap_alloc_at (by simp))
  have hQ : RowAt ((((w.alloc (.cells (glA z) 36 (0, 0))).alloc (.cells (glA y) 36 (0, 0))).alloc (.cells (flA zL) 34 (0, 0))).alloc (.cells (flA zL) 34 (0, 0))) (w.heap.size + 1 + 1 + 1) (flA zL) 34 := heap_alloc_at (by simp)
  have hk : KeptO (· = g) w ((((w.alloc (.cells (glA z) 36 (0, 0))).alloc (.cells (glA y) 36 (0, 0))).alloc (.cells (flA zL) 34 (0, 0))).alloc (.cells (flA zL) 34 (0, 0))) := ((((KeptO.refl w).alloc _).alloc _).alloc _).alloc _
  have hW : WayAt ((((w.alloc (.cells (glA z) 36 (0, 0))).alloc (.cells (glA y) 36 (0, 0))).alloc (.cells (flA zL) 34 (0, 0))).alloc (.cells (flA zL) 34 (0, 0))) g e := at_alloc _ (at_alloc _ (at_alloc _ (at_alloc _ h)))
  clear hz hy h hc hfz hn
  go_enter Try.func88, Try.ntmps88
  go_wp2_with fail
  refine Calls.mono (way_mul g _ (z.re) (y.re) _ hW (h0.out.fl hk hI.out.re) (h0.out.fl hk hJ.out.re)) ?_
  rintro E V1 ⟨x1, e1, rfl, hV, hK, hO1⟩
  have HX1 := Lib.hid e1
  have hO1 := hO1.mono' (show w.heap.size ≤ _ from hk.size)
  have hA := RowAt.kept hA hK (by omega)
  have hB := RowAt.kept hB hK (by omega)
  have hP := RowAt.kept hP hK (by omega)
  have hQ := RowAt.kept hQ hK (by omega)
  have hk := hk.trans hK
  clear hK e1 hW
  have hW := hV
  clear hV
  have i1 : w.heap.size + 3 < V1.heap.size := RowAt.lt hQ
  obtain ⟨lA, cA, fA⟩ := row_facts hA
  obtain ⟨lB, cB, fB⟩ := row_facts hB
  obtain ⟨hgl, hgc, hgf⟩ := hW.facts
  go_wp2_with fail
  clear cA fA lA cB fB lB hgl hgc hgf
  have hA := at_alloc (.cells (flA x1) 34 (0, 0)) hA
  have hB := at_alloc (.cells (flA x1) 34 (0, 0)) hB
  have hP := at_alloc (.cells (flA x1) 34 (0, 0)) hP
  have hQ := at_alloc (.cells (flA x1) 34 (0, 0)) hQ
  have hW := at_alloc (.cells (flA x1) 34 (0, 0)) hW
  have hk := hk.alloc (.cells (flA x1) 34 (0, 0))
  have hX : RowAt (V1.alloc (.cells (flA x1) 34 (0, 0))) V1.heap.size (flA x1) 34 := heap_alloc_new _ _
  have hO1 := hO1.blw ((Blw.refl _).alloc (.cells (flA x1) 34 (0, 0)))
  refine Calls.mono (way_mul g _ (z.im) (y.im) _ hW (h0.out.fl hk hI.out.im) (h0.out.fl hk hJ.out.im)) ?_
  rintro E V2 ⟨x2, e2, rfl, hV, hK, hO2⟩
  have HX2 := Lib.hid e2
  have hO2 := hO2.mono' (show w.heap.size ≤ _ from hk.size)
  have hA := RowAt.kept hA hK (by omega)
  have hB := RowAt.kept hB hK (by omega)
  have hP := RowAt.kept hP hK (by omega)
  have hQ := RowAt.kept hQ hK (by omega)
  have hX := RowAt.kept hX hK (by omega)
  have hO1 := OwnFL.kept' hO1 hK (.inl (by omega))
  have hk := hk.trans hK
  clear hK e2 hW
  have hW := hV
  clear hV
  have i2 : V1.heap.size < V2.heap.size := RowAt.lt hX
  obtain ⟨lA, cA, fA⟩ := row_facts hA
  obtain ⟨lB, cB, fB⟩ := row_facts hB
  obtain ⟨lX, cX, fX⟩ := row_facts hX
  obtain ⟨hgl, hgc, hgf⟩ := hW.facts
  go_wp2_with fail
  clear cA fA lA cB fB lB hgl hgc hgf
  clear lX cX fX
  have hA := at_alloc (.cells (flA x2) 34 (0, 0)) hA
  have hB := at_alloc (.cells (flA x2) 34 (0, 0)) hB
  have hP := at_alloc (.cells (flA x2) 34 (0, 0)) hP
  have hQ := at_alloc (.cells (flA x2) 34 (0, 0)) hQ
  have hX := at_alloc (.cells (flA x2) 34 (0, 0)) hX
  have hW := at_alloc (.cells (flA x2) 34 (0, 0)) hW
  have hk := hk.alloc (.cells (flA x2) 34 (0, 0))
  have hY : RowAt (V2.alloc (.cells (flA x2) 34 (0, 0))) V2.heap.size (flA x2) 34 := heap_alloc_new _ _
  have hO1 := hO1.blw ((Blw.refl _).alloc (.cells (flA x2) 34 (0, 0)))
  have hO2 := hO2.blw ((Blw.refl _).alloc (.cells (flA x2) 34 (0, 0)))
  have lY : V2.heap.size < (V2.alloc (.cells (flA x2) 34 (0, 0))).heap.size := by simp
  refine Calls.mono (way_sub g _ (x1) (x2) _ hW hO1.in hO2.in) ?_
  rintro E V3 ⟨x3, e3, rfl, hV, hK, hO3⟩
  have HX3 := Lib.hid e3
  have hO3 := hO3.mono' (show V2.heap.size + 1 ≤ _ from lY)
  have hA := RowAt.kept hA hK (by omega)
  have hB := RowAt.kept hB hK (by omega)
  have hP := RowAt.kept hP hK (by omega)
  have hQ := RowAt.kept hQ hK (by omega)
  have hX := RowAt.kept hX hK (by omega)
  have hY := RowAt.kept hY hK (by omega)
  have hk := hk.trans hK
  clear hK e3 hW
  have hW := hV
  clear hV
  clear hO1 hO2 lY
  obtain ⟨lA, cA, fA⟩ := row_facts hA
  obtain ⟨lB, cB, fB⟩ := row_facts hB
  obtain ⟨lP, cP, fP⟩ := row_facts hP
  obtain ⟨lQ, cQ, fQ⟩ := row_facts hQ
  obtain ⟨lX, cX, fX⟩ := row_facts hX
  obtain ⟨lY, cY, fY⟩ := row_facts hY
  obtain ⟨hgl, hgc, hgf⟩ := hW.facts
  go_wp2_with fail
  clear cA fA lA cB fB lB hgl hgc hgf
  clear cP fP cQ fQ cX fX cY fY
  have hA := RowAt.far3 (m := w.heap.size + 1 + 1) hA (by omega) (.bool x3.r.neg) (.slice x3.a x3.r.num.length x3.c) (.slice x3.b x3.r.den.length x3.d)
  have hB := RowAt.far3 (m := w.heap.size + 1 + 1) hB (by omega) (.bool x3.r.neg) (.slice x3.a x3.r.num.length x3.c) (.slice x3.b x3.r.den.length x3.d)
  have hQ := RowAt.far3 (m := w.heap.size + 1 + 1) hQ (by omega) (.bool x3.r.neg) (.slice x3.a x3.r.num.length x3.c) (.slice x3.b x3.r.den.length x3.d)
  have hX := RowAt.far3 (m := w.heap.size + 1 + 1) hX (by omega) (.bool x3.r.neg) (.slice x3.a x3.r.num.length x3.c) (.slice x3.b x3.r.den.length x3.d)
  have hY := RowAt.far3 (m := w.heap.size + 1 + 1) hY (by omega) (.bool x3.r.neg) (.slice x3.a x3.r.num.length x3.c) (.slice x3.b x3.r.den.length x3.d)
  have hW := WayAt.far3 (m := w.heap.size + 1 + 1) hW (by omega) (.bool x3.r.neg) (.slice x3.a x3.r.num.length x3.c) (.slice x3.b x3.r.den.length x3.d)
  have hk := KeptO.set3 (m := w.heap.size + 1 + 1) hk (by omega) (.bool x3.r.neg) (.slice x3.a x3.r.num.length x3.c) (.slice x3.b x3.r.den.length x3.d)
  have hO3 := OwnFL.set3 (g := w.heap.size + 1 + 1) hO3 (by omega) (.bool x3.r.neg) (.slice x3.a x3.r.num.length x3.c) (.slice x3.b x3.r.den.length x3.d)
  have hP := RowAt.set3 hP (.bool x3.r.neg) (.slice x3.a x3.r.num.length x3.c) (.slice x3.b x3.r.den.length x3.d)
  have lY := RowAt.lt hY
  refine Calls.mono (way_mul g _ (z.re) (y.im) _ hW (h0.out.fl hk hI.out.re) (h0.out.fl hk hJ.out.im)) ?_
  rintro E V4 ⟨x4, e4, rfl, hV, hK, hO4⟩
  have HX4 := Lib.hid e4
  have hO4 := hO4.mono' (show V2.heap.size + 1 ≤ _ from lY)
  have hA := RowAt.kept hA hK (by omega)
  have hB := RowAt.kept hB hK (by omega)
  have hP := RowAt.kept hP hK (by omega)
  have hQ := RowAt.kept hQ hK (by omega)
  have hX := RowAt.kept hX hK (by omega)
  have hY := RowAt.kept hY hK (by omega)
  have hO3 := OwnFL.kept' hO3 hK (.inl (by omega))
  have hk := hk.trans hK
  clear hK e4 hW
  have hW := hV
  clear hV
  clear lY
  obtain ⟨lA, cA, fA⟩ := row_facts hA
  obtain ⟨lB, cB, fB⟩ := row_facts hB
  obtain ⟨lX, cX, fX⟩ := row_facts hX
  obtain ⟨lY, cY, fY⟩ := row_facts hY
  obtain ⟨hgl, hgc, hgf⟩ := hW.facts
  go_wp2_with fail
  clear cA fA lA cB fB lB cX fX lX cY fY lY hgl hgc hgf
  have hA := RowAt.far3 (m := V1.heap.size) hA (by omega) (.bool x4.r.neg) (.slice x4.a x4.r.num.length x4.c) (.slice x4.b x4.r.den.length x4.d)
  have hB := RowAt.far3 (m := V1.heap.size) hB (by omega) (.bool x4.r.neg) (.slice x4.a x4.r.num.length x4.c) (.slice x4.b x4.r.den.length x4.d)
  have hP := RowAt.far3 (m := V1.heap.size) hP (by omega) (.bool x4.r.neg) (.slice x4.a x4.r.num.length x4.c) (.slice x4.b x4.r.den.length x4.d)
  have hQ := RowAt.far3 (m := V1.heap.size) hQ (by omega) (.bool x4.r.neg) (.slice x4.a x4.r.num.length x4.c) (.slice x4.b x4.r.den.length x4.d)
  have hY := RowAt.far3 (m := V1.heap.size) hY (by omega) (.bool x4.r.neg) (.slice x4.a x4.r.num.length x4.c) (.slice x4.b x4.r.den.length x4.d)
  have hW := WayAt.far3 (m := V1.heap.size) hW (by omega) (.bool x4.r.neg) (.slice x4.a x4.r.num.length x4.c) (.slice x4.b x4.r.den.length x4.d)
  have hk := KeptO.set3 (m := V1.heap.size) hk (by omega) (.bool x4.r.neg) (.slice x4.a x4.r.num.length x4.c) (.slice x4.b x4.r.den.length x4.d)
  have hO3 := OwnFL.set3 (g := V1.heap.size) hO3 (by omega) (.bool x4.r.neg) (.slice x4.a x4.r.num.length x4.c) (.slice x4.b x4.r.den.length x4.d)
  have hO4 := OwnFL.set3 (g := V1.heap.size) hO4 (by omega) (.bool x4.r.neg) (.slice x4.a x4.r.num.length x4.c) (.slice x4.b x4.r.den.length x4.d)
  have hX := RowAt.set3 hX (.bool x4.r.neg) (.slice x4.a x4.r.num.length x4.c) (.slice x4.b x4.r.den.length x4.d)
  have lY := RowAt.lt hY
  refine Calls.mono (way_mul g _ (z.im) (y.re) _ hW (h0.out.fl hk hI.out.im) (h0.out.fl hk hJ.out.re)) ?_
  rintro E V5 ⟨x5, e5, rfl, hV, hK, hO5⟩
  have HX5 := Lib.hid e5
  have hO5 := hO5.mono' (show V2.heap.size + 1 ≤ _ from lY)
  have hP := RowAt.kept hP hK (by omega)
  have hQ := RowAt.kept hQ hK (by omega)
  have hX := RowAt.kept hX hK (by omega)
  have hY := RowAt.kept hY hK (by omega)
  have hO3 := OwnFL.kept' hO3 hK (.inl (by omega))
  have hO4 := OwnFL.kept' hO4 hK (.inl (by omega))
  have hk := hk.trans hK
  clear hK e5 hW
  have hW := hV
  clear hV
  clear lY hA hB
  obtain ⟨lX, cX, fX⟩ := row_facts hX
  obtain ⟨lY, cY, fY⟩ := row_facts hY
  obtain ⟨hgl, hgc, hgf⟩ := hW.facts
  go_wp2_with fail
  clear cX fX lX cY fY lY hgl hgc hgf
  have hP := RowAt.far3 (m := V2.heap.size) hP (by omega) (.bool x5.r.neg) (.slice x5.a x5.r.num.length x5.c) (.slice x5.b x5.r.den.length x5.d)
  have hQ := RowAt.far3 (m := V2.heap.size) hQ (by omega) (.bool x5.r.neg) (.slice x5.a x5.r.num.length x5.c) (.slice x5.b x5.r.den.length x5.d)
  have hX := RowAt.far3 (m := V2.heap.size) hX (by omega) (.bool x5.r.neg) (.slice x5.a x5.r.num.length x5.c) (.slice x5.b x5.r.den.length x5.d)
  have hW := WayAt.far3 (m := V2.heap.size) hW (by omega) (.bool x5.r.neg) (.slice x5.a x5.r.num.length x5.c) (.slice x5.b x5.r.den.length x5.d)
  have hk := KeptO.set3 (m := V2.heap.size) hk (by omega) (.bool x5.r.neg) (.slice x5.a x5.r.num.length x5.c) (.slice x5.b x5.r.den.length x5.d)
  have hO3 := OwnFL.set3 (g := V2.heap.size) hO3 (by omega) (.bool x5.r.neg) (.slice x5.a x5.r.num.length x5.c) (.slice x5.b x5.r.den.length x5.d)
  have hO4 := OwnFL.set3 (g := V2.heap.size) hO4 (by omega) (.bool x5.r.neg) (.slice x5.a x5.r.num.length x5.c) (.slice x5.b x5.r.den.length x5.d)
  have hO5 := OwnFL.set3 (g := V2.heap.size) hO5 (by omega) (.bool x5.r.neg) (.slice x5.a x5.r.num.length x5.c) (.slice x5.b x5.r.den.length x5.d)
  have hY := RowAt.set3 hY (.bool x5.r.neg) (.slice x5.a x5.r.num.length x5.c) (.slice x5.b x5.r.den.length x5.d)
  clear hJ hI
  have K6 := Lib.hid (fun (wx : World) (hW : WayAt wx g (wopF (wopF (wopF (wopF (wopF e (mulF z.re.r y.re.r)).2 (mulF z.im.r y.im.r)).2 (subF x1.r x2.r)).2 (mulF z.re.r y.im.r)).2 (mulF z.im.r y.re.r)).2) (h4 : FL.In wx x4) (h5 : FL.In wx x5) => way_add g _ x4 x5 wx hW h4 h5)
  refine name_world (S := fun wx => WayAt wx g (wopF (wopF (wopF (wopF (wopF e (mulF z.re.r y.re.r)).2 (mulF z.im.r y.im.r)).2 (subF x1.r x2.r)).2 (mulF z.re.r y.im.r)).2 (mulF z.im.r y.re.r)).2 ∧ KeptO (· = g) w wx ∧ RowAt wx (w.heap.size + 1 + 1) (flA x3) 34 ∧ RowAt wx (w.heap.size + 1 + 1 + 1) (flA zL) 34 ∧ RowAt wx V1.heap.size (flA x4) 34 ∧ RowAt wx V2.heap.size (flA x5) 34 ∧ OwnFL (V2.heap.size + 1) wx x3 ∧ OwnFL (V2.heap.size + 1) wx x4 ∧ OwnFL (V2.heap.size + 1) wx x5) ⟨hW, hk, hP, hQ, hX, hY, hO3, hO4, hO5⟩ ?_
  clear hW hk hP hQ hX hY hO3 hO4 hO5
  rintro W5 ⟨hW, hk, hP, hQ, hX, hY, hO3, hO4, hO5⟩
  have hW : WayAt W5.drew g _ := hW
  have hP : RowAt W5.drew _ _ _ := hP
  have hQ : RowAt W5.drew _ _ _ := hQ
  have hX : RowAt W5.drew _ _ _ := hX
  have hY : RowAt W5.drew _ _ _ := hY
  have hk := hk.drew
  have hO3 := hO3.blw (Blw.drew (Blw.refl W5))
  have hO4 := hO4.blw (Blw.drew (Blw.refl W5))
  have hO5 := hO5.blw (Blw.drew (Blw.refl W5))
  have n1 : w.heap.size + 1 + 1 ≠ g := by omega
  have n2 : w.heap.size + 1 + 1 + 1 ≠ g := by omega
  have n3 : V1.heap.size ≠ g := by omega
  have n4 : V2.heap.size ≠ g := by omega
  have n5 : V1.heap.size ≠ w.heap.size + 1 + 1 := by omega
  have n6 : V2.heap.size ≠ w.heap.size + 1 + 1 := by omega
  have n7 : w.heap.size + 1 + 1 + 1 ≠ w.heap.size + 1 + 1 := by omega
  have n8 : V1.heap.size ≠ w.heap.size + 1 + 1 + 1 := by omega
  have n9 : V2.heap.size ≠ w.heap.size + 1 + 1 + 1 := by omega
  obtain ⟨lP, cP, fP⟩ := row_facts hP
  obtain ⟨lX, cX, fX⟩ := row_facts hX
  obtain ⟨lY, cY, fY⟩ := row_facts hY
  have lY := RowAt.lt hY
  go_region_held3 (fun wx => (∀ i, wx.cell? ⟨w.heap.size + 1 + 1, i, none⟩ = (flA x3)[i]?) ∧ (∀ i, wx.cell? ⟨V1.heap.size, i, none⟩ = (flA x4)[i]?) ∧ (∀ i, wx.cell? ⟨V2.heap.size, i, none⟩ = (flA x5)[i]?)) (first | with_reducible exact ⟨cP, cX, cY⟩ | with_reducible exact ⟨cP6, cX6, cY6⟩ | with_reducible exact ⟨(row_facts hP7).2.1, (row_facts hX7).2.1, (row_facts hY7).2.1⟩ | with_reducible exact ⟨(row_facts (RowAt.far3 hP7 n7.symm _ _ _)).2.1, (row_facts (RowAt.far3 hX7 n8 _ _ _)).2.1, (row_facts (RowAt.far3 hY7 n9 _ _ _)).2.1⟩) (first
    | (go_at_call 141; (with_reducible refine Calls.mono (K6.out _ hW hO4.in hO5.in) ?_); rintro E V6 ⟨x6, e6, rfl, hW6, hK6, hO6⟩; have HX6 := Lib.hid e6; clear e6; have hP6 := RowAt.kept hP hK6 n1; have hQ6 := RowAt.kept hQ hK6 n2; have hX6 := RowAt.kept hX hK6 n3; have hY6 := RowAt.kept hY hK6 n4; have hP7 := RowAt.set3 hP6 (.bool x3.r.neg) (.slice x3.a x3.r.num.length x3.c) (.slice x3.b x3.r.den.length x3.d); have hQ7 := RowAt.far3 hQ6 n7 (.bool x3.r.neg) (.slice x3.a x3.r.num.length x3.c) (.slice x3.b x3.r.den.length x3.d); have hX7 := RowAt.far3 hX6 n5 (.bool x3.r.neg) (.slice x3.a x3.r.num.length x3.c) (.slice x3.b x3.r.den.length x3.d); have hY7 := RowAt.far3 hY6 n6 (.bool x3.r.neg) (.slice x3.a x3.r.num.length x3.c) (.slice x3.b x3.r.den.length x3.d); obtain ⟨-, cP6, fP6⟩ := row_facts hP6; obtain ⟨-, cQ6, fQ6⟩ := row_facts hQ6; obtain ⟨-, cX6, -⟩ := row_facts hX6; obtain ⟨-, cY6, -⟩ := row_facts hY6; obtain ⟨-, cQ7, fQ7⟩ := row_facts hQ7))
  have hPf := RowAt.far3 hP7 n7.symm (.bool x6.r.neg) (.slice x6.a x6.r.num.length x6.c) (.slice x6.b x6.r.den.length x6.d)
  have hQf := RowAt.set3 hQ7 (.bool x6.r.neg) (.slice x6.a x6.r.num.length x6.c) (.slice x6.b x6.r.den.length x6.d)
  have hWf := WayAt.far3 (WayAt.far3 hW6 n1.symm (.bool x3.r.neg) (.slice x3.a x3.r.num.length x3.c) (.slice x3.b x3.r.den.length x3.d)) n2.symm (.bool x6.r.neg) (.slice x6.a x6.r.num.length x6.c) (.slice x6.b x6.r.den.length x6.d)
  have hkf := KeptO.set3 (KeptO.set3 (hk.trans hK6) (show w.heap.size ≤ w.heap.size + 1 + 1 by omega) (.bool x3.r.neg) (.slice x3.a x3.r.num.length x3.c) (.slice x3.b x3.r.den.length x3.d)) (show w.heap.size ≤ w.heap.size + 1 + 1 + 1 by omega) (.bool x6.r.neg) (.slice x6.a x6.r.num.length x6.c) (.slice x6.b x6.r.den.length x6.d)
  have hO3f := OwnFL.set3 (OwnFL.set3 (hO3.kept' hK6 (.inl (by omega))) (show w.heap.size + 1 + 1 < _ by omega) (.bool x3.r.neg) (.slice x3.a x3.r.num.length x3.c) (.slice x3.b x3.r.den.length x3.d)) (show w.heap.size + 1 + 1 + 1 < _ by omega) (.bool x6.r.neg) (.slice x6.a x6.r.num.length x6.c) (.slice x6.b x6.r.den.length x6.d)
  have hO6f := OwnFL.set3 (OwnFL.set3 (hO6.mono' (show V2.heap.size + 1 ≤ _ from lY)) (show w.heap.size + 1 + 1 < _ by omega) (.bool x3.r.neg) (.slice x3.a x3.r.num.length x3.c) (.slice x3.b x3.r.den.length x3.d)) (show w.heap.size + 1 + 1 + 1 < _ by omega) (.bool x6.r.neg) (.slice x6.a x6.r.num.length x6.c) (.slice x6.b x6.r.den.length x6.d)
  obtain ⟨-, cPf, -⟩ := row_facts hPf
  obtain ⟨-, cQf, -⟩ := row_facts hQf
  clear hP hQ hX hY hP6 hQ6 hX6 hY6 hP7 hQ7 hX7 hY7 cP6 cQ6 cX6 cY6 cQ7 cP cX cY hPf hQf hW hW6 hk hK6 hO3 hO4 hO5 hO6
  have p0 := (cPf 0).trans (show _ = some (.bool x3.r.neg) from rfl)
  have p1 := (cPf 1).trans (show _ = some (.slice x3.a x3.r.num.length x3.c) from rfl)
  have p2 := (cPf 2).trans (show _ = some (.slice x3.b x3.r.den.length x3.d) from rfl)
  have q0 := (cQf 0).trans (show _ = some (.bool x6.r.neg) from rfl)
  have q1 := (cQf 1).trans (show _ = some (.slice x6.a x6.r.num.length x6.c) from rfl)
  have q2 := (cQf 2).trans (show _ = some (.slice x6.b x6.r.den.length x6.d) from rfl)
  clear cPf cQf
  go_wp2_with fail
  generalize (((((V6.setCell ⟨w.heap.size + 1 + 1, 0, none⟩ (.bool x3.r.neg)).setCell ⟨w.heap.size + 1 + 1, 1, none⟩ (.slice x3.a x3.r.num.length x3.c)).setCell ⟨w.heap.size + 1 + 1, 2, none⟩ (.slice x3.b x3.r.den.length x3.d)).setCell ⟨w.heap.size + 1 + 1 + 1, 0, none⟩ (.bool x6.r.neg)).setCell ⟨w.heap.size + 1 + 1 + 1, 1, none⟩ (.slice x6.a x6.r.num.length x6.c)).setCell ⟨w.heap.size + 1 + 1 + 1, 2, none⟩ (.slice x6.b x6.r.den.length x6.d) = V7 at *
  refine bodyPost_ret (v := .tuple #[flV x3, flV x6]) (by simp [results, Try.results88, go_sem, p0, p1, p2, q0, q1, q2]) rfl ⟨x3, x6, ?_, rfl, ?_, hkf, hO3f.mono' (by omega), hO6f.mono' (by omega)⟩
  · rw [HX6.out, HX5.out, HX4.out, HX3.out, HX2.out, HX1.out]; rfl
  · rw [HX5.out, HX4.out, HX2.out, HX1.out] at hWf
    exact hWf
end Go.Proofs.Ytmeccjlopmjneaa
/- The walk of parts.Nearest: the nearest number of a complex fraction. -/
namespace Go.Proofs.Ytmeccjlopmjneaa
open Go.RowKit

/-- What parts.Nearest tells: the two words and the error. -/
def nrG (a : Fr × Fr) : Nat × Nat × Int :=
  if chkG a ≠ 0 then (0, 0, chkG a)
  else if (nrF a.1).2 ≠ 0 then (0, 0, (nrF a.1).2)
  else if (nrF a.2).2 ≠ 0 then (0, 0, (nrF a.2).2)
  else ((nrF a.1).1, (nrF a.2).1, 0)

set_option maxRecDepth 100000 in
set_option maxHeartbeats 2000000 in
theorem partsNearest_any (z : GL) (w : World) (hz : GL.In w z) :
    Calls Try.prog 25 #[gV z] w fun E w' => E = .returned (.tuple #[.complex .f64 (nrG z.g).1 (nrG z.g).2.1, .int .i64 (nrG z.g).2.2]) ∧ ∃ x, w' = w.ext x := by
  have K0 := Lib.hid (fun (wx : World) (hb : Blw w wx) => gaussCheck_any z wx (hz.blw hb))
  have K1 := Lib.hid (fun (wx : World) (hb : Blw w wx) => realNearest_any z.re.r z.re.a z.re.c z.re.b z.re.d wx (hz.re.blw hb))
  have K2 := Lib.hid (fun (wx : World) (hb : Blw w wx) => realNearest_any z.im.r z.im.a z.im.c z.im.b z.im.d wx (hz.im.blw hb))
  have HR := Lib.hid (show nrG z.g = (if chkG z.g ≠ 0 then (0, 0, chkG z.g) else if (nrF z.re.r).2 ≠ 0 then (0, 0, (nrF z.re.r).2) else if (nrF z.im.r).2 ≠ 0 then (0, 0, (nrF z.im.r).2) else ((nrF z.re.r).1, (nrF z.im.r).1, 0)) from rfl)
  generalize nrG z.g = R at *
  generalize chkG z.g = u at *
  generalize nrF z.re.r = A at *
  generalize nrF z.im.r = B at *
  obtain ⟨a, ea⟩ := A
  obtain ⟨b, eb⟩ := B
  simp only at K1 K2 HR
  clear hz
  by_cases q0 : ¬ u = 0
  · have e := HR.out
    rw [if_pos q0] at e
    subst e
    have c0 : (u != 0) = true := by simpa using q0
    clear q0 HR
    go_enter Try.func25, Try.ntmps25
    go_wp2_with fail
    refine Calls.mono (K0.out _ (by repeat (first | exact Blw.refl _ | apply Blw.ext | apply Blw.alloc | apply Blw.drewN | apply Blw.drew | refine Blw.setCell ?_ _ _ (by simp)))) ?_
    rintro E V ⟨rfl, x, rfl⟩
    go_wp2
    go_ret2
    exact ⟨rfl, Blw.is (by repeat (first | exact Blw.refl _ | apply Blw.ext | apply Blw.alloc | apply Blw.drewN | apply Blw.drew | refine Blw.setCell ?_ _ _ (by simp)))⟩
  have q0 := Decidable.not_not.1 q0
  by_cases q1 : ¬ ea = 0
  · have e := HR.out
    rw [if_neg (by simpa using q0), if_pos q1] at e
    subst e q0
    have c1 : (ea != 0) = true := by simpa using q1
    clear q1 HR
    go_enter Try.func25, Try.ntmps25
    go_wp2_with fail
    refine Calls.mono (K0.out _ (by repeat (first | exact Blw.refl _ | apply Blw.ext | apply Blw.alloc | apply Blw.drewN | apply Blw.drew | refine Blw.setCell ?_ _ _ (by simp)))) ?_
    rintro E V ⟨rfl, x, rfl⟩
    go_wp2_with fail
    refine Calls.mono (K1.out _ (by repeat (first | exact Blw.refl _ | apply Blw.ext | apply Blw.alloc | apply Blw.drewN | apply Blw.drew | refine Blw.setCell ?_ _ _ (by simp)))) ?_
    rintro E V ⟨rfl, x1, rfl⟩
    go_wp2
    go_ret2
    exact ⟨rfl, Blw.is (by repeat (first | exact Blw.refl _ | apply Blw.ext | apply Blw.alloc | apply Blw.drewN | apply Blw.drew | refine Blw.setCell ?_ _ _ (by simp)))⟩
  have q1 := Decidable.not_not.1 q1
  by_cases q2 : ¬ eb = 0
  · have e := HR.out
    rw [if_neg (by simpa using q0), if_neg (by simpa using q1), if_pos q2] at e
    subst e q0 q1
    have c1 : (eb != 0) = true := by simpa using q2
    clear q2 HR
    have hA : RowAt (w.alloc (.cells (glA z) 36 (0, 0))) w.heap.size (glA z) 36 := heap_alloc_new _ _
    go_enter Try.func25, Try.ntmps25
    go_wp2_with fail
    refine Calls.mono (K0.out _ (by repeat (first | exact Blw.refl _ | apply Blw.ext | apply Blw.alloc | apply Blw.drewN | apply Blw.drew | refine Blw.setCell ?_ _ _ (by simp)))) ?_
    rintro E V ⟨rfl, x, hx⟩
    have b1 : Blw (w.alloc (.cells (glA z) 36 (0, 0))) V := by rw [hx]; exact World.blw_ext _ _
    have hA1 := RowAt.blw hA b1
    obtain ⟨lA, cA, -⟩ := row_facts hA1
    clear hx
    go_wp2_with fail
    refine Calls.mono (K1.out _ (Blw.trans (by repeat (first | exact Blw.refl _ | apply Blw.ext | apply Blw.alloc | apply Blw.drewN | apply Blw.drew | refine Blw.setCell ?_ _ _ (by simp))) b1)) ?_
    rintro E V1 ⟨rfl, x1, hx⟩
    have b2 : Blw V V1 := by rw [hx]; exact World.blw_ext _ _
    have hA2 := RowAt.blw hA1 b2
    clear hx lA cA
    obtain ⟨lA, cA, -⟩ := row_facts hA2
    go_wp2_with fail
    refine Calls.mono (K2.out _ (Blw.trans (by repeat (first | exact Blw.refl _ | apply Blw.ext | apply Blw.alloc | apply Blw.drewN | apply Blw.drew | refine Blw.setCell ?_ _ _ (by simp))) (b1.trans b2))) ?_
    rintro E V2 ⟨rfl, x2, hx⟩
    have b3 : Blw V1 V2 := by rw [hx]; exact World.blw_ext _ _
    clear hx
    go_wp2
    go_ret2
    exact ⟨rfl, (Blw.trans (by repeat (first | exact Blw.refl _ | apply Blw.ext | apply Blw.alloc | apply Blw.drewN | apply Blw.drew | refine Blw.setCell ?_ _ _ (by simp))) ((b1.trans b2).trans b3)).is⟩
  have q2 := Decidable.not_not.1 q2
  have e := HR.out
  rw [if_neg (by simpa using q0), if_neg (by simpa using q1), if_neg (by simpa using q2)] at e
  subst e q0 q1 q2
  clear HR
  have hA : RowAt (w.alloc (.cells (glA z) 36 (0, 0))) w.heap.size (glA z) 36 := heap_alloc_new _ _
  go_enter Try.func25, Try.ntmps25
  go_wp2_with fail
  refine Calls.mono (K0.out _ (by repeat (first | exact Blw.refl _ | apply Blw.ext | apply Blw.alloc | apply Blw.drewN | apply Blw.drew | refine Blw.setCell ?_ _ _ (by simp)))) ?_
  rintro E V ⟨rfl, x, hx⟩
  have b1 : Blw (w.alloc (.cells (glA z) 36 (0, 0))) V := by rw [hx]; exact World.blw_ext _ _
  have hA1 := RowAt.blw hA b1
  obtain ⟨lA, cA, -⟩ := row_facts hA1
  clear hx
  go_wp2_with fail
  refine Calls.mono (K1.out _ (Blw.trans (by repeat (first | exact Blw.refl _ | apply Blw.ext | apply Blw.alloc | apply Blw.drewN | apply Blw.drew | refine Blw.setCell ?_ _ _ (by simp))) b1)) ?_
  rintro E V1 ⟨rfl, x1, hx⟩
  have b2 : Blw V V1 := by rw [hx]; exact World.blw_ext _ _
  have hA2 := RowAt.blw hA1 b2
  clear hx lA cA
  obtain ⟨lA, cA, -⟩ := row_facts hA2
  go_wp2_with fail
  refine Calls.mono (K2.out _ (Blw.trans (by repeat (first | exact Blw.refl _ | apply Blw.ext | apply Blw.alloc | apply Blw.drewN | apply Blw.drew | refine Blw.setCell ?_ _ _ (by simp))) (b1.trans b2))) ?_
  rintro E V2 ⟨rfl, x2, hx⟩
  have b3 : Blw V1 V2 := by rw [hx]; exact World.blw_ext _ _
  clear hx
  go_wp2
  go_ret2
  exact ⟨rfl, (Blw.trans (by repeat (first | exact Blw.refl _ | apply Blw.ext | apply Blw.alloc | apply Blw.drewN | apply Blw.drew | refine Blw.setCell ?_ _ _ (by simp))) ((b1.trans b2).trans b3)).is⟩
end Go.Proofs.Ytmeccjlopmjneaa
/- slackwaterkit's SameWords, SameRatio, walked. -/
namespace Go.Proofs.Ytmeccjlopmjneaa
open Go.RowKit

theorem ret_b {a b : Bool} (h : a = b) : Ending.returned (.bool a) = .returned (.bool b) := by rw [h]
def sameR (r s : Fr) : Bool := r.neg == s.neg && (r.num == s.num && r.den == s.den)
theorem sameR_iff {r s : Fr} : sameR r s = true ↔ r = s := by
  obtain ⟨a, b, c⟩ := r
  obtain ⟨d, e, f⟩ := s
  simp [sameR]
theorem sameR_refl (r : Fr) : sameR r r = true := sameR_iff.2 rfl

set_option maxHeartbeats 1600000 in
theorem sameWords_any (a b : Option Addr) (l m : List Nat) (c d : Nat) (w : World) (ha : Arr w a (u32s l)) (hb : Arr w b (u32s m)) (hl : l.length ≤ 1099511627776) (hm : m.length ≤ 1099511627776) :
    Calls Try.prog 82 #[.slice a l.length c, .slice b m.length d] w fun e w' => e = .returned (.bool (l == m)) ∧ ∃ x, w' = w.ext x := by
  by_cases hlm : l.length = m.length
  · have HLM := Lib.hid hlm
    have d1 : ((l.length : Int) != (m.length : Int)) = false := by simp; omega
    have d2 : ((l.length : Int) == (m.length : Int)) = true := by simp; omega
    clear hlm
    go_enter Try.func82, Try.ntmps82
    go_wp2
    clear d1 d2
    go_loopw [5] (fun i wr => ∃ k : Nat, k ≤ l.length ∧ i = .int .i64 k ∧ Blw w wr ∧ Hid (l.take k = m.take k)) (fun i _ => l.length - (intOf i).toNat)
    case atStart => exact ⟨0, Nat.zero_le _, rfl, Blw.refl _, rfl⟩
    case round =>
      obtain ⟨k, hk, rfl, hbw, htk⟩ := hrel
      have hlm := HLM.out
      by_cases hlt : k < l.length
      · obtain ⟨x, b1, o1, hd1, -, hgx, rfl, hb1, hc1⟩ := (ha.blw hbw).elem hlt
        obtain ⟨y, b2, o2, hd2, -, hgy, rfl, hb2, hc2⟩ := (hb.blw hbw).elem (show k < m.length by omega)
        have h0 : (0 : Int) ≤ (k : Int) := by omega
        have h1 : (k : Int) < (l.length : Int) := by omega
        have h2 : (k : Int) < (m.length : Int) := by omega
        have HX : Hid (l[k]? = some x) := hgx.out
        have HY : Hid (m[k]? = some y) := hgy.out
        clear hgx hgy hd1 hd2 hlm
        by_cases hxy : x = y
        · have HT : Hid (l.take (k + 1) = m.take (k + 1)) := by
            show _ = _
            rw [List.take_add_one, List.take_add_one, htk.out, HX.out, HY.out, hxy]
          subst hxy
          clear HX HY
          go_wp2_with fail
          go_quiet (fail)
          go_wp2
          go_roundw
          case rel => exact ⟨k + 1, by omega, by go_num, hbw.trans (by repeat (first | exact Blw.refl _ | apply Blw.ext | apply Blw.alloc | apply Blw.drewN | apply Blw.drew | refine Blw.setCell ?_ _ _ (by simp))), HT⟩
          case measure => simp [intOf]; omega
        · have HF : Hid ((l == m) = false) := by
            show _ = _
            simp only [beq_eq_false_iff_ne, ne_eq]
            intro e
            have := HX.out
            rw [e, HY.out] at this
            exact hxy (by injection this with this; exact this.symm)
          have q1 : ((x : Int) != (y : Int)) = true := by simp; omega
          have q2 : ((x : Int) == (y : Int)) = false := by simp; omega
          clear HX HY htk hxy
          go_wp2_with fail
          go_quiet (fail)
          go_wp2
          go_ret
          exact ⟨ret_b HF.out.symm, Blw.is (hbw.trans (by repeat (first | exact Blw.refl _ | apply Blw.ext | apply Blw.alloc | apply Blw.drewN | apply Blw.drew | refine Blw.setCell ?_ _ _ (by simp))))⟩
      · have HF : Hid ((l == m) = true) := by
          show _ = _
          have := htk.out
          rw [List.take_of_length_le (by omega), List.take_of_length_le (by omega)] at this
          simpa using this
        clear htk hlm
        go_wp2
        go_ret
        exact ⟨ret_b HF.out.symm, Blw.is hbw⟩
  · have HF : Hid ((l == m) = false) := by
      show _ = _
      simp only [beq_eq_false_iff_ne, ne_eq]
      intro e; exact hlm (by rw [e])
    have d1 : ((l.length : Int) != (m.length : Int)) = true := by simp; omega
    have d2 : ((l.length : Int) == (m.length : Int)) = false := by simp; omega
    clear hlm
    go_enter Try.func82, Try.ntmps82
    go_wp2
    go_ret
    exact ⟨ret_b HF.out.symm, Blw.is (Blw.refl _)⟩

set_option maxRecDepth 100000 in
set_option maxHeartbeats 1600000 in
theorem sameRatio_any (x y : FL) (w : World) (hx : FL.In w x) (hy : FL.In w y) (lx : x.r.num.length ≤ 1099511627776 ∧ x.r.den.length ≤ 1099511627776) (ly : y.r.num.length ≤ 1099511627776 ∧ y.r.den.length ≤ 1099511627776) :
    Calls Try.prog 111 #[frV x.r x.a x.c x.b x.d, frV y.r y.a y.c y.b y.d] w fun e w' => e = .returned (.bool (sameR x.r y.r)) ∧ ∃ z, w' = w.ext z := by
  have he : sameR x.r y.r = (x.r.neg == y.r.neg && (x.r.num == y.r.num && x.r.den == y.r.den)) := rfl
  have K1 := Lib.hid (fun (W : World) (hW : Blw w W) => sameWords_any x.a y.a x.r.num y.r.num x.c y.c W (hx.an.blw hW) (hy.an.blw hW) lx.1 ly.1)
  have K2 := Lib.hid (fun (W : World) (hW : Blw w W) => sameWords_any x.b y.b x.r.den y.r.den x.d y.d W (hx.ad.blw hW) (hy.ad.blw hW) lx.2 ly.2)
  clear hx hy lx ly
  obtain ⟨⟨xn, xu, xe⟩, xa, xc, xb, xd⟩ := x
  obtain ⟨⟨yn, yu, ye⟩, ya, yc, yb, yd⟩ := y
  simp only at he K1 K2
  generalize sameR _ _ = res at *
  generalize (xu == yu) = t1 at *
  generalize (xe == ye) = t2 at *
  have HE := Lib.hid he
  clear he
  go_enter Try.func111, Try.ntmps111
  cases xn <;> cases yn <;> cases t1 <;> cases t2
  all_goals
    go_wp2_with (go_at_call 82; (first | ((with_reducible refine (K1.out _ ?_).mono ?_); (· exact (by repeat (first | exact Blw.refl _ | apply Blw.ext | apply Blw.alloc | apply Blw.drewN | apply Blw.drew | refine Blw.setCell ?_ _ _ (by simp)))); rintro e w' ⟨rfl, z, rfl⟩) | ((with_reducible refine (K2.out _ ?_).mono ?_); (· exact (by repeat (first | exact Blw.refl _ | apply Blw.ext | apply Blw.alloc | apply Blw.drewN | apply Blw.drew | refine Blw.setCell ?_ _ _ (by simp)))); rintro e w' ⟨rfl, z, rfl⟩)))
    go_ret
    exact ⟨ret_b HE.out.symm, Blw.is (by repeat (first | exact Blw.refl _ | apply Blw.ext | apply Blw.alloc | apply Blw.drewN | apply Blw.drew | refine Blw.setCell ?_ _ _ (by simp)))⟩
end Go.Proofs.Ytmeccjlopmjneaa
/- The walk of the law PartsCalls. -/
namespace Go.Proofs.Ytmeccjlopmjneaa
open Go.RowKit

set_option maxHeartbeats 400000 in
theorem z_any (a b : Nat) (w : World) : Calls Try.prog 74 #[.agg #[.int .u64 a, .int .u64 b]] w fun e w' => e = .returned (.complex .f64 a b) ∧ ∃ x, w' = w.ext x := by
  go_enter Try.func74, Try.ntmps74
  go_wp2
  refine wp_region_ext_lit (by kernel_rfl) (by kernel_rfl) ?_
  repeat (quiet_step ((fail)))
  refine wpQuiet_nil ?_
  rintro _ ⟨x, rfl⟩
  go_wp2
  go_ret
  exact ⟨by simp, Blw.is (by repeat (first | exact Blw.refl _ | apply Blw.ext | apply Blw.alloc | apply Blw.drewN | apply Blw.drew | refine Blw.setCell ?_ _ _ (by simp)))⟩
end Go.Proofs.Ytmeccjlopmjneaa
/- The law of PartsTurns: what the document's examples say. -/
namespace Go.Proofs.Ytmeccjlopmjneaa
open Go.RowKit

theorem toW_small {n : Nat} (h0 : n ≠ 0) (h : n < 4294967296) : W.toW n = [n] := by
  rw [W.toW_pos h0, Nat.mod_eq_of_lt h, Nat.div_eq_of_lt h, W.toW_zero]
theorem ex_half {r : Fr} (h : ExF 4602678819172646912 r) : r = ⟨false, [1], [2]⟩ := by
  have e : ExF 4602678819172646912 ⟨decide (Fl.Sv 4602678819172646912 < 0), W.toW 1, W.toW (2 ^ 1)⟩ := exF_low (m := 1) (t := 52) (q := 1) (by decide) (by decide) (by decide) (by decide) (by decide)
  rw [h.uniq e, Fl.Sv_neg, toW_small (by decide) (by decide), toW_small (by decide) (by decide)]
  rfl
theorem ex_minus {r : Fr} (h : ExF 13828302655841107968 r) : r = ⟨true, [3], [4]⟩ := by
  have e : ExF 13828302655841107968 ⟨decide (Fl.Sv 13828302655841107968 < 0), W.toW 3, W.toW (2 ^ 2)⟩ := exF_low (m := 3) (t := 51) (q := 2) (by decide) (by decide) (by decide) (by decide) (by decide)
  rw [h.uniq e, Fl.Sv_neg, toW_small (by decide) (by decide), toW_small (by decide) (by decide)]
  rfl
theorem five_re : fS (fM 4607182418800017408 4613937818241073152) (fM 4611686018427387904 13830554455654793216) = 4617315517961601024 := by decide +kernel
theorem five_im : fA (fM 4607182418800017408 13830554455654793216) (fM 4611686018427387904 4613937818241073152) = 4617315517961601024 := by decide +kernel
theorem five_abs : absS (4613937818241073152 % 2 ^ 63) (4616189618054758400 % 2 ^ 63) = 4617315517961601024 := by decide +kernel
theorem same_is {v r : Nat} (hv : Fl.isNaN v = false) (h : Fl.same v r) : r = v := by
  rcases h with h | ⟨h, -⟩
  · exact h.symm
  · rw [hv] at h; cases h

set_option maxRecDepth 100000 in
set_option maxHeartbeats 4000000 in
theorem awake7_any (w : World) : Calls Try.prog 26 #[] w fun e w' => e = .returned (.bool true) ∧ ∃ x, w' = w.ext x := by
  go_enter Try.func26, Try.ntmps26
  go_wp2_with fail
  refine Calls.mono (partsExact_ok _ _ _ (by decide) (by decide) (by decide) (by decide)) ?_
  rintro e W1 ⟨x, y, hx, hy, rfl, hb, o1, o2⟩
  have ex := ex_half hx
  have ey := ex_minus hy
  obtain ⟨xr, xa, xc, xb, xd⟩ := x
  obtain ⟨yr, ya, yc, yb, yd⟩ := y
  simp only at ex ey
  subst ex ey
  have a1 := own_read o1.2.1
  have a2 := own_read o2.1
  clear hx hy o1 o2
  have B0 : Blw W1 (W1.alloc (.cells #[.bool false, .slice xa 1 xc, .slice xb 1 xd, .bool true, .slice ya 1 yc, .slice yb 1 yd] 36)) := (Blw.refl W1).alloc _
  go_wp2_with fail
  refine Calls.mono (partsMul_any _ _ _ _ _) ?_
  rintro e w2 ⟨r, i, z2, rfl, hr, hi, -, -, hz2⟩
  have er := same_is (by decide) (five_re ▸ hr.out)
  have ei := same_is (by decide) (five_im ▸ hi.out)
  subst er ei
  have b2 : Blw (W1.alloc (.cells #[.bool false, .slice xa 1 xc, .slice xb 1 xd, .bool true, .slice ya 1 yc, .slice yb 1 yd] 36)) w2 := by rw [hz2]; exact World.blw_ext _ _
  clear hr hi hz2
  go_wp2_with fail
  refine Calls.mono (partsAbs_any _ _ _ (by decide) (by decide)) ?_
  rintro e w3 ⟨s, z3, rfl, hs, -, hz3⟩
  have es := same_is (by decide) (five_abs ▸ hs.out)
  subst es
  have b3 : Blw (W1.alloc (.cells #[.bool false, .slice xa 1 xc, .slice xb 1 xd, .bool true, .slice ya 1 yc, .slice yb 1 yd] 36)) w3 := b2.trans (by rw [hz3]; exact World.blw_ext _ _)
  clear hs hz3 b2
  obtain ⟨s0, c0, c1, c2, c3, c4, c5⟩ := box6 b3
  go_wp2_with fail
  refine Calls.mono (sameWords_any _ _ [2] [2] _ _ _ (a1.blw ?_) ?_ (by decide) (by decide)) ?_
  · exact (B0.trans b3).trans (by repeat (first | exact Blw.refl _ | apply Blw.ext | apply Blw.alloc | apply Blw.drewN | apply Blw.drew | refine Blw.setCell ?_ _ _ (by simp)))
  · exact Arr.lit_at _ #[.int .u32 2] _ _ (by first | rfl | simp)
  rintro e w4 ⟨rfl, z4, hz4⟩
  have b4 : Blw (W1.alloc (.cells #[.bool false, .slice xa 1 xc, .slice xb 1 xd, .bool true, .slice ya 1 yc, .slice yb 1 yd] 36)) w4 := b3.trans (by rw [hz4]; exact (by repeat (first | exact Blw.refl _ | apply Blw.ext | apply Blw.alloc | apply Blw.drewN | apply Blw.drew | refine Blw.setCell ?_ _ _ (by simp))))
  clear hz4 b3 s0 c0 c1 c2 c3 c4 c5
  obtain ⟨s0, c0, c1, c2, c3, c4, c5⟩ := box6 b4
  go_wp2_with fail
  refine Calls.mono (sameWords_any _ _ [3] [3] _ _ _ (a2.blw ?_) ?_ (by decide) (by decide)) ?_
  · exact (B0.trans b4).trans (by repeat (first | exact Blw.refl _ | apply Blw.ext | apply Blw.alloc | apply Blw.drewN | apply Blw.drew | refine Blw.setCell ?_ _ _ (by simp)))
  · exact Arr.lit_at _ #[.int .u32 3] _ _ (by first | rfl | simp)
  rintro e w5 ⟨rfl, z5, rfl⟩
  go_wp2
  go_ret
  exact ⟨rfl, Blw.is ((hb.trans B0).trans (b4.trans (by repeat (first | exact Blw.refl _ | apply Blw.ext | apply Blw.alloc | apply Blw.drewN | apply Blw.drew | refine Blw.setCell ?_ _ _ (by simp)))))⟩
end Go.Proofs.Ytmeccjlopmjneaa
/- gauss: Add, Sub, walked. -/
namespace Go.Proofs.Ytmeccjlopmjneaa
open Go.RowKit

/-- What is told of two parts. -/
def toldF (x y : Fr) (e : Int) : (Fr × Fr) × Int := if e = 0 then ((x, y), 0) else ((zF, zF), e)
def gAddF (a b : Fr × Fr) : (Fr × Fr) × Int :=
  let x := wopF (chkGs [a, b]) (addF a.1 b.1)
  let y := wopF x.2 (addF a.2 b.2)
  toldF x.1 y.1 y.2
def gSubF (a b : Fr × Fr) : (Fr × Fr) × Int :=
  let x := wopF (chkGs [a, b]) (subF a.1 b.1)
  let y := wopF x.2 (subF a.2 b.2)
  toldF x.1 y.1 y.2
structure OwnGL (B : Nat) (w : World) (z : GL) : Prop where
  re : OwnFL B w z.re
  im : OwnFL B w z.im
theorem OwnGL.in {B : Nat} {w : World} {z : GL} (h : OwnGL B w z) : GL.In w z := ⟨h.re.in, h.im.in⟩
theorem OwnGL.blw {B : Nat} {w w' : World} {z : GL} (h : OwnGL B w z) (k : Blw w w') : OwnGL B w' z := ⟨h.re.blw k, h.im.blw k⟩
theorem OwnGL.mono {B B' : Nat} {w : World} {z : GL} (h : OwnGL B w z) (k : B' ≤ B) : OwnGL B' w z := ⟨h.re.mono' k, h.im.mono' k⟩
/-- A complex fraction of the call's own, and an error. -/
def RetG (w : World) (R : (Fr × Fr) × Int) (E : Ending) (w' : World) : Prop :=
  ∃ z : GL, z.g = R.1 ∧ E = .returned (.tuple #[gV z, .int .i64 R.2]) ∧ Blw w w' ∧ OwnGL w.heap.size w' z

theorem wayTold_any (g : Nat) (e : Int) (x y : FL) (w : World) (h : WayAt w g e) :
    Calls Try.prog 89 #[.pointer (some ⟨g, 0, none⟩), flV x, flV y] w fun E w' => ∃ z : GL, z.g = (toldF x.r y.r e).1 ∧ E = .returned (.tuple #[gV z, .int .i64 (toldF x.r y.r e).2]) ∧ Blw w w' ∧ ∀ B, OwnFL B w' x → OwnFL B w' y → OwnGL B w' z := by
  unfold toldF
  by_cases he : e = 0
  · subst he
    refine (wayTold_ok g x y w h).mono ?_
    rintro E w' ⟨rfl, u, rfl⟩
    rw [if_pos rfl]
    exact ⟨⟨x, y⟩, rfl, rfl, World.blw_ext _ _, fun B h1 h2 => ⟨h1, h2⟩⟩
  · refine (wayTold_no g e x y w h he).mono ?_
    rintro E w' ⟨rfl, u, rfl⟩
    rw [if_neg he]
    exact ⟨⟨zL, zL⟩, rfl, rfl, World.blw_ext _ _, fun B _ _ => ⟨zL_own _ _, zL_own _ _⟩⟩

abbrev set6 (w : World) (n : Nat) (z : GL) : World := ((((((w.setCell ⟨n, 0, none⟩ (.bool z.re.r.neg)).setCell ⟨n, 1, none⟩ (.slice z.re.a z.re.r.num.length z.re.c)).setCell ⟨n, 2, none⟩ (.slice z.re.b z.re.r.den.length z.re.d)).setCell ⟨n, 3, none⟩ (.bool z.im.r.neg)).setCell ⟨n, 4, none⟩ (.slice z.im.a z.im.r.num.length z.im.c)).setCell ⟨n, 5, none⟩ (.slice z.im.b z.im.r.den.length z.im.d))
theorem RowAt.set6 {w : World} {n : Nat} {a b c d e f : Value} {T : TypeId} (h : RowAt w n #[a, b, c, d, e, f] T) (z : GL) : RowAt (set6 w n z) n (glA z) T := at_set 5 _ (at_set 4 _ (at_set 3 _ (at_set 2 _ (at_set 1 _ (at_set 0 _ h)))))
theorem RowAt.far6 {w : World} {n m : Nat} {A : Array Value} {T : TypeId} (h : RowAt w n A T) (hne : n ≠ m) (z : GL) : RowAt (Go.Proofs.Ytmeccjlopmjneaa.set6 w m z) n A T := at_far _ hne (at_far _ hne (at_far _ hne (at_far _ hne (at_far _ hne (at_far _ hne h)))))
theorem KeptO.set6 {w w' : World} {O : Nat → Prop} {m : Nat} (k : KeptO O w w') (hm : w.heap.size ≤ m ∨ O m) (z : GL) : KeptO O w (Go.Proofs.Ytmeccjlopmjneaa.set6 w' m z) := (((((k.setCell ⟨m, 0, none⟩ _ hm.symm).setCell ⟨m, 1, none⟩ _ hm.symm).setCell ⟨m, 2, none⟩ _ hm.symm).setCell ⟨m, 3, none⟩ _ hm.symm).setCell ⟨m, 4, none⟩ _ hm.symm).setCell ⟨m, 5, none⟩ _ hm.symm
theorem Blw.set6 {w w' : World} {m : Nat} (k : Blw w w') (hm : w.heap.size ≤ m) (z : GL) : Blw w (Go.Proofs.Ytmeccjlopmjneaa.set6 w' m z) := (((((k.setCell ⟨m, 0, none⟩ _ hm).setCell ⟨m, 1, none⟩ _ hm).setCell ⟨m, 2, none⟩ _ hm).setCell ⟨m, 3, none⟩ _ hm).setCell ⟨m, 4, none⟩ _ hm).setCell ⟨m, 5, none⟩ _ hm
theorem OwnGL.set6 {B m : Nat} {w : World} {z : GL} (h : OwnGL B w z) (hm : m < B) (u : GL) : OwnGL B (Go.Proofs.Ytmeccjlopmjneaa.set6 w m u) z :=
  ⟨h.re.kept' (KeptO.set6 (KeptO.refl (O := fun k => k = m) w) (.inr rfl) u) (.inl hm), h.im.kept' (KeptO.set6 (KeptO.refl (O := fun k => k = m) w) (.inr rfl) u) (.inl hm)⟩
/-- The result's cells, read. -/
theorem glA_read {w : World} {n : Nat} {z : GL} {T : TypeId} (h : RowAt w n (glA z) T) : w.cell? ⟨n, 0, none⟩ = some (.bool z.re.r.neg) ∧ w.cell? ⟨n, 1, none⟩ = some (.slice z.re.a z.re.r.num.length z.re.c) ∧ w.cell? ⟨n, 2, none⟩ = some (.slice z.re.b z.re.r.den.length z.re.d) ∧ w.cell? ⟨n, 3, none⟩ = some (.bool z.im.r.neg) ∧ w.cell? ⟨n, 4, none⟩ = some (.slice z.im.a z.im.r.num.length z.im.c) ∧ w.cell? ⟨n, 5, none⟩ = some (.slice z.im.b z.im.r.den.length z.im.d) := by
  obtain ⟨-, c, -⟩ := row_facts h
  exact ⟨(c 0).trans rfl, (c 1).trans rfl, (c 2).trans rfl, (c 3).trans rfl, (c 4).trans rfl, (c 5).trans rfl⟩
theorem at_world {F : Exit → Act → World → Prop} {e : Exit} {a : Act} {W W' : World} (h : W' = W) (k : F e a W') : F e a W := h ▸ k
abbrev zG : GL := ⟨zL, zL⟩
/-- Two complex fractions boxed, and a result. -/
abbrev boxG (w : World) (z y : GL) : World := ((w.alloc (.cells (glA z) 36 (0, 0))).alloc (.cells (glA y) 36 (0, 0))).alloc (.cells (glA zG) 36 (0, 0))
theorem boxG_rows (w : World) (z y : GL) : RowAt (boxG w z y) w.heap.size (glA z) 36 ∧ RowAt (boxG w z y) (w.heap.size + 1) (glA y) 36 ∧ RowAt (boxG w z y) (w.heap.size + 1 + 1) (glA zG) 36 ∧ Blw w (boxG w z y) :=
  ⟨at_alloc _ (at_alloc _ (heap_alloc_new _ _)), at_alloc _ (heap_alloc_at (by simp)), heap_alloc_at (by simp), (by repeat (first | exact Blw.refl _ | apply Blw.ext | apply Blw.alloc | apply Blw.drewN | apply Blw.drew | refine Blw.setCell ?_ _ _ (by simp)))⟩
/-- asked, of two. -/
theorem asked2 (A : Option Addr) (z y : GL) (w : World) (hA : Arr w A (gls [z, y])) (hz : GL.In w z) (hy : GL.In w y) :
    Calls Try.prog 83 #[.slice A 2 2] w fun E w' => ∃ g, w.heap.size ≤ g ∧ E = .returned (.pointer (some ⟨g, 0, none⟩)) ∧ WayAt w' g (chkGs [z.g, y.g]) ∧ Blw w w' :=
  gaussAsked_any A [z, y] 2 w hA (fun u hu => by
    simp only [List.mem_cons, List.not_mem_nil, or_false] at hu
    rcases hu with rfl | rfl
    · exact hz
    · exact hy) (by simp)

set_option maxRecDepth 100000 in
set_option maxHeartbeats 4000000 in
theorem gaussAdd_any (z y : GL) (w : World) (hz : GL.In w z) (hy : GL.In w y) :
    Calls Try.prog 126 #[gV z, gV y] w (RetG w (gAddF z.g y.g)) := by
  have hI := Lib.hid hz
  have hJ := Lib.hid hy
  obtain ⟨hA, hB, hP, hb⟩ := boxG_rows w z y
  clear hz hy
  go_enter Try.func126, Try.ntmps126
  go_wp2_with fail
  refine Calls.mono (asked2 _ z y _ (Arr.lit_at _ _ _ _ (by simp)) (hI.out.blw (by repeat (first | exact Blw.refl _ | apply Blw.ext | apply Blw.alloc | apply Blw.drewN | apply Blw.drew | refine Blw.setCell ?_ _ _ (by simp)))) (hJ.out.blw (by repeat (first | exact Blw.refl _ | apply Blw.ext | apply Blw.alloc | apply Blw.drewN | apply Blw.drew | refine Blw.setCell ?_ _ _ (by simp))))) ?_
  rintro E V0 ⟨g, hg, rfl, hW, hb0⟩
  have hg : w.heap.size + 4 ≤ g := by simpa using hg
  have bw : Blw (boxG w z y) V0 := ((Blw.refl _).alloc _).trans hb0
  have hA := RowAt.blw hA bw
  have hB := RowAt.blw hB bw
  have hP := RowAt.blw hP bw
  have hb := hb.trans bw
  clear hb0 bw
  obtain ⟨lA, cA, -⟩ := row_facts hA
  obtain ⟨lB, cB, -⟩ := row_facts hB
  go_wp2_with fail
  refine Calls.mono (way_add g _ z.re y.re _ hW (hI.out.re.blw hb) (hJ.out.re.blw hb)) ?_
  rintro E V1 ⟨x1, e1, rfl, hW1, hK1, hO1⟩
  have HX1 := Lib.hid e1
  have hO1 := hO1.mono' (show g + 1 ≤ _ from hW.facts.1)
  have hA := RowAt.kept hA hK1 (by omega)
  have hB := RowAt.kept hB hK1 (by omega)
  have hP := RowAt.kept hP hK1 (by omega)
  have hb := KeptO.blw hb hK1 (fun i e => by subst e; omega)
  clear e1 hK1 lA cA lB cB hW
  go_wp2_with fail
  refine name_world (S := fun wx => WayAt wx g (wopF (chkGs [z.g, y.g]) (addF z.re.r y.re.r)).2 ∧ Blw w wx ∧ RowAt wx w.heap.size (glA z) 36 ∧ RowAt wx (w.heap.size + 1) (glA y) 36 ∧ RowAt wx (w.heap.size + 1 + 1) (glA zG) 36 ∧ RowAt wx V1.heap.size (flA x1) 34 ∧ OwnFL (g + 1) wx x1) ⟨at_alloc _ hW1, hb.alloc _, at_alloc _ hA, at_alloc _ hB, at_alloc _ hP, heap_alloc_new _ _, hO1.blw ((Blw.refl _).alloc _)⟩ ?_
  have n0 : V1.heap.size ≠ g := by have := hW1.facts.1; omega
  have n1 : V1.heap.size ≠ w.heap.size + 1 + 1 := by have := RowAt.lt hP; omega
  clear hW1 hb hA hB hP hO1
  rintro W1 ⟨hW, hb, hA, hB, hP, hX, hO1⟩
  have hW : WayAt W1.drew g _ := hW
  have hA : RowAt W1.drew _ _ _ := hA
  have hB : RowAt W1.drew _ _ _ := hB
  have hP : RowAt W1.drew _ _ _ := hP
  have hX : RowAt W1.drew _ _ _ := hX
  have hb := hb.drew
  have hO1 := hO1.blw (Blw.drew (Blw.refl W1))
  have K1 := Lib.hid (way_add g _ z.im y.im W1.drew hW (hI.out.im.blw hb) (hJ.out.im.blw hb))
  obtain ⟨-, cA, -⟩ := row_facts hA
  obtain ⟨-, cB, -⟩ := row_facts hB
  obtain ⟨-, cX, -⟩ := row_facts hX
  have lP := RowAt.lt hP
  go_region_held3 (fun wx => (∀ i, wx.cell? ⟨w.heap.size, i, none⟩ = (glA z)[i]?) ∧ (∀ i, wx.cell? ⟨w.heap.size + 1, i, none⟩ = (glA y)[i]?) ∧ (∀ i, wx.cell? ⟨V1.heap.size, i, none⟩ = (flA x1)[i]?)) (first | with_reducible exact ⟨cA, cB, cX⟩ | with_reducible exact ⟨cA2, cB2, cX2⟩ | with_reducible exact ⟨cA3, cB3, cX3⟩ | with_reducible exact ⟨(row_facts (RowAt.far6 hA3 (by omega) u)).2.1, (row_facts (RowAt.far6 hB3 (by omega) u)).2.1, (row_facts (RowAt.far6 hX3 n1 u)).2.1⟩) (first
    | (go_at_call 141; (with_reducible refine Calls.mono K1.out ?_); rintro E V2 ⟨x2, e2, rfl, hW2, hK2, hO2⟩; have HX2 := Lib.hid e2; clear e2; have hA2 := RowAt.kept hA hK2 (by omega); have hB2 := RowAt.kept hB hK2 (by omega); have hX2 := RowAt.kept hX hK2 n0; have hP2 := RowAt.kept hP hK2 (by omega); obtain ⟨-, cA2, -⟩ := row_facts hA2; obtain ⟨-, cB2, -⟩ := row_facts hB2; obtain ⟨-, cX2, -⟩ := row_facts hX2)
    | (go_at_call 89; (with_reducible refine Calls.mono (wayTold_any g _ x1 x2 _ hW2) ?_); rintro E V3 ⟨u, e3, rfl, hb3, hO3⟩; have HX3 := Lib.hid e3; clear e3; have hA3 := RowAt.blw hA2 hb3; have hB3 := RowAt.blw hB2 hb3; have hX3 := RowAt.blw hX2 hb3; have hP3 := RowAt.blw hP2 hb3; obtain ⟨-, cA3, -⟩ := row_facts hA3; obtain ⟨-, cB3, -⟩ := row_facts hB3; obtain ⟨-, cX3, -⟩ := row_facts hX3; obtain ⟨-, cP3, fP3⟩ := row_facts hP3))
  have hb2 := (KeptO.blw hb hK2 (fun i e => by subst e; omega)).trans hb3
  have hOu := hO3 (g + 1) ((hO1.kept' hK2 (.inl (Nat.lt_succ_self _))).blw hb3) ((hO2.mono' (show g + 1 ≤ _ from hW.facts.1)).blw hb3)
  have hPf := RowAt.set6 hP3 u
  have hbf := Blw.set6 (m := w.heap.size + 1 + 1) hb2 (by omega) u
  have hOf := OwnGL.set6 (m := w.heap.size + 1 + 1) hOu (by omega) u
  obtain ⟨V4, hV⟩ : ∃ V4, V4 = set6 V3 (w.heap.size + 1 + 1) u := ⟨_, rfl⟩
  rw [← hV] at hPf hbf hOf
  obtain ⟨p0, p1, p2, p3, p4, p5⟩ := glA_read hPf
  have HV := Lib.hid hV
  clear hP hA hB hX hP2 hA2 hB2 hX2 hP3 hA3 hB3 hX3 cA cB cX cA2 cB2 cX2 cA3 cB3 cX3 cP3 hPf hW hW2 hb hK2 hb3 hO1 hO2 hO3 hb2 hOu K1 hV
  go_wp2_with fail
  refine at_world HV.out ?_
  clear HV
  refine bodyPost_ret (v := .tuple #[gV u, .int .i64 (gAddF z.g y.g).2]) ?_ rfl ⟨u, ?_, rfl, hbf, hOf.mono (by omega)⟩
  · have e2 : (gAddF z.g y.g).2 = (toldF x1.r x2.r (wopF (wopF (chkGs [z.g, y.g]) (addF z.re.r y.re.r)).2 (addF z.im.r y.im.r)).2).2 := by rw [HX2.out, HX1.out]; rfl
    rw [e2]
    simp [results, Try.results126, go_sem, p0, p1, p2, p3, p4, p5]
  · rw [HX3.out, HX2.out, HX1.out]; rfl
set_option maxRecDepth 100000 in
set_option maxHeartbeats 4000000 in
theorem gaussSub_any (z y : GL) (w : World) (hz : GL.In w z) (hy : GL.In w y) :
    Calls Try.prog 99 #[gV z, gV y] w (RetG w (gSubF z.g y.g)) := by
  have hI := Lib.hid hz
  have hJ := Lib.hid hy
  obtain ⟨hA, hB, hP, hb⟩ := boxG_rows w z y
  clear hz hy
  go_enter Try.func99, Try.ntmps99
  go_wp2_with fail
  refine Calls.mono (asked2 _ z y _ (Arr.lit_at _ _ _ _ (by simp)) (hI.out.blw (by repeat (first | exact Blw.refl _ | apply Blw.ext | apply Blw.alloc | apply Blw.drewN | apply Blw.drew | refine Blw.setCell ?_ _ _ (by simp)))) (hJ.out.blw (by repeat (first | exact Blw.refl _ | apply Blw.ext | apply Blw.alloc | apply Blw.drewN | apply Blw.drew | refine Blw.setCell ?_ _ _ (by simp))))) ?_
  rintro E V0 ⟨g, hg, rfl, hW, hb0⟩
  have hg : w.heap.size + 4 ≤ g := by simpa using hg
  have bw : Blw (boxG w z y) V0 := ((Blw.refl _).alloc _).trans hb0
  have hA := RowAt.blw hA bw
  have hB := RowAt.blw hB bw
  have hP := RowAt.blw hP bw
  have hb := hb.trans bw
  clear hb0 bw
  obtain ⟨lA, cA, -⟩ := row_facts hA
  obtain ⟨lB, cB, -⟩ := row_facts hB
  go_wp2_with fail
  refine Calls.mono (way_sub g _ z.re y.re _ hW (hI.out.re.blw hb) (hJ.out.re.blw hb)) ?_
  rintro E V1 ⟨x1, e1, rfl, hW1, hK1, hO1⟩
  have HX1 := Lib.hid e1
  have hO1 := hO1.mono' (show g + 1 ≤ _ from hW.facts.1)
  have hA := RowAt.kept hA hK1 (by omega)
  have hB := RowAt.kept hB hK1 (by omega)
  have hP := RowAt.kept hP hK1 (by omega)
  have hb := KeptO.blw hb hK1 (fun i e => by subst e; omega)
  clear e1 hK1 lA cA lB cB hW
  go_wp2_with fail
  refine name_world (S := fun wx => WayAt wx g (wopF (chkGs [z.g, y.g]) (subF z.re.r y.re.r)).2 ∧ Blw w wx ∧ RowAt wx w.heap.size (glA z) 36 ∧ RowAt wx (w.heap.size + 1) (glA y) 36 ∧ RowAt wx (w.heap.size + 1 + 1) (glA zG) 36 ∧ RowAt wx V1.heap.size (flA x1) 34 ∧ OwnFL (g + 1) wx x1) ⟨at_alloc _ hW1, hb.alloc _, at_alloc _ hA, at_alloc _ hB, at_alloc _ hP, heap_alloc_new _ _, hO1.blw ((Blw.refl _).alloc _)⟩ ?_
  have n0 : V1.heap.size ≠ g := by have := hW1.facts.1; omega
  have n1 : V1.heap.size ≠ w.heap.size + 1 + 1 := by have := RowAt.lt hP; omega
  clear hW1 hb hA hB hP hO1
  rintro W1 ⟨hW, hb, hA, hB, hP, hX, hO1⟩
  have hW : WayAt W1.drew g _ := hW
  have hA : RowAt W1.drew _ _ _ := hA
  have hB : RowAt W1.drew _ _ _ := hB
  have hP : RowAt W1.drew _ _ _ := hP
  have hX : RowAt W1.drew _ _ _ := hX
  have hb := hb.drew
  have hO1 := hO1.blw (Blw.drew (Blw.refl W1))
  have K1 := Lib.hid (way_sub g _ z.im y.im W1.drew hW (hI.out.im.blw hb) (hJ.out.im.blw hb))
  obtain ⟨-, cA, -⟩ := row_facts hA
  obtain ⟨-, cB, -⟩ := row_facts hB
  obtain ⟨-, cX, -⟩ := row_facts hX
  have lP := RowAt.lt hP
  go_region_held3 (fun wx => (∀ i, wx.cell? ⟨w.heap.size, i, none⟩ = (glA z)[i]?) ∧ (∀ i, wx.cell? ⟨w.heap.size + 1, i, none⟩ = (glA y)[i]?) ∧ (∀ i, wx.cell? ⟨V1.heap.size, i, none⟩ = (flA x1)[i]?)) (first | with_reducible exact ⟨cA, cB, cX⟩ | with_reducible exact ⟨cA2, cB2, cX2⟩ | with_reducible exact ⟨cA3, cB3, cX3⟩ | with_reducible exact ⟨(row_facts (RowAt.far6 hA3 (by omega) u)).2.1, (row_facts (RowAt.far6 hB3 (by omega) u)).2.1, (row_facts (RowAt.far6 hX3 n1 u)).2.1⟩) (first
    | (go_at_call 140; (with_reducible refine Calls.mono K1.out ?_); rintro E V2 ⟨x2, e2, rfl, hW2, hK2, hO2⟩; have HX2 := Lib.hid e2; clear e2; have hA2 := RowAt.kept hA hK2 (by omega); have hB2 := RowAt.kept hB hK2 (by omega); have hX2 := RowAt.kept hX hK2 n0; have hP2 := RowAt.kept hP hK2 (by omega); obtain ⟨-, cA2, -⟩ := row_facts hA2; obtain ⟨-, cB2, -⟩ := row_facts hB2; obtain ⟨-, cX2, -⟩ := row_facts hX2)
    | (go_at_call 89; (with_reducible refine Calls.mono (wayTold_any g _ x1 x2 _ hW2) ?_); rintro E V3 ⟨u, e3, rfl, hb3, hO3⟩; have HX3 := Lib.hid e3; clear e3; have hA3 := RowAt.blw hA2 hb3; have hB3 := RowAt.blw hB2 hb3; have hX3 := RowAt.blw hX2 hb3; have hP3 := RowAt.blw hP2 hb3; obtain ⟨-, cA3, -⟩ := row_facts hA3; obtain ⟨-, cB3, -⟩ := row_facts hB3; obtain ⟨-, cX3, -⟩ := row_facts hX3; obtain ⟨-, cP3, fP3⟩ := row_facts hP3))
  have hb2 := (KeptO.blw hb hK2 (fun i e => by subst e; omega)).trans hb3
  have hOu := hO3 (g + 1) ((hO1.kept' hK2 (.inl (Nat.lt_succ_self _))).blw hb3) ((hO2.mono' (show g + 1 ≤ _ from hW.facts.1)).blw hb3)
  have hPf := RowAt.set6 hP3 u
  have hbf := Blw.set6 (m := w.heap.size + 1 + 1) hb2 (by omega) u
  have hOf := OwnGL.set6 (m := w.heap.size + 1 + 1) hOu (by omega) u
  obtain ⟨V4, hV⟩ : ∃ V4, V4 = set6 V3 (w.heap.size + 1 + 1) u := ⟨_, rfl⟩
  rw [← hV] at hPf hbf hOf
  obtain ⟨p0, p1, p2, p3, p4, p5⟩ := glA_read hPf
  have HV := Lib.hid hV
  clear hP hA hB hX hP2 hA2 hB2 hX2 hP3 hA3 hB3 hX3 cA cB cX cA2 cB2 cX2 cA3 cB3 cX3 cP3 hPf hW hW2 hb hK2 hb3 hO1 hO2 hO3 hb2 hOu K1 hV
  go_wp2_with fail
  refine at_world HV.out ?_
  clear HV
  refine bodyPost_ret (v := .tuple #[gV u, .int .i64 (gSubF z.g y.g).2]) ?_ rfl ⟨u, ?_, rfl, hbf, hOf.mono (by omega)⟩
  · have e2 : (gSubF z.g y.g).2 = (toldF x1.r x2.r (wopF (wopF (chkGs [z.g, y.g]) (subF z.re.r y.re.r)).2 (subF z.im.r y.im.r)).2).2 := by rw [HX2.out, HX1.out]; rfl
    rw [e2]
    simp [results, Try.results99, go_sem, p0, p1, p2, p3, p4, p5]
  · rw [HX3.out, HX2.out, HX1.out]; rfl
end Go.Proofs.Ytmeccjlopmjneaa
/- gauss: Mul, turned, Int, Zero, walked. -/
namespace Go.Proofs.Ytmeccjlopmjneaa
open Go.RowKit

def gMulF (a b : Fr × Fr) : (Fr × Fr) × Int :=
  let p := prodF (chkGs [a, b]) a b
  toldF p.1.1 p.1.2 p.2
/-- The opposite of any fraction. -/
def negT (r : Fr) : Fr × Int := if chkF r = 0 then (negF r, 0) else (zF, chkF r)
theorem negT_wf {r : Fr} (h : W.WF r.num ∧ W.WF r.den) : W.WF (negT r).1.num ∧ W.WF (negT r).1.den := by
  unfold negT
  split
  · exact h
  · exact ⟨W.WF.nil, W.WF.nil⟩
theorem ratioNeg_any (x : FL) (w : World) (h : FL.In w x) :
    Calls Try.prog 97 #[flV x] w fun E w' => ∃ y : FL, y.r = (negT x.r).1 ∧ E = .returned (.tuple #[flV y, .int .i64 (negT x.r).2]) ∧ Blw w w' ∧ OwnFL w.heap.size w' y := by
  have hw := negT_wf (r := x.r) ⟨h.wn, h.wd⟩
  by_cases hu : chkF x.r = 0
  · have e : negT x.r = (negF x.r, 0) := by unfold negT; rw [if_pos hu]
    rw [e] at hw ⊢
    refine (ratioNeg_ok x.r x.a x.c x.b x.d w h (ok_chkF hu)).mono ?_
    intro E w' k
    exact RetFr.fl (R := (negF x.r, 0)) k hw
  · have e : negT x.r = (zF, chkF x.r) := by unfold negT; rw [if_neg hu]
    rw [e]
    refine (ratioNeg_bad x.r x.a x.c x.b x.d w h hu).mono ?_
    rintro E w' ⟨rfl, u, rfl⟩
    exact ⟨zL, rfl, rfl, World.blw_ext _ _, zL_own _ _⟩

set_option maxRecDepth 100000 in
set_option maxHeartbeats 4000000 in
theorem gaussMul_any (z y : GL) (w : World) (hz : GL.In w z) (hy : GL.In w y) :
    Calls Try.prog 40 #[gV z, gV y] w (RetG w (gMulF z.g y.g)) := by
  have hI := Lib.hid hz
  have hJ := Lib.hid hy
  obtain ⟨hA, hB, hP, hb⟩ := boxG_rows w z y
  clear hz hy
  go_enter Try.func40, Try.ntmps40
  go_wp2_with fail
  refine Calls.mono (asked2 _ z y _ (Arr.lit_at _ _ _ _ (by simp)) (hI.out.blw (by repeat (first | exact Blw.refl _ | apply Blw.ext | apply Blw.alloc | apply Blw.drewN | apply Blw.drew | refine Blw.setCell ?_ _ _ (by simp)))) (hJ.out.blw (by repeat (first | exact Blw.refl _ | apply Blw.ext | apply Blw.alloc | apply Blw.drewN | apply Blw.drew | refine Blw.setCell ?_ _ _ (by simp))))) ?_
  rintro E V0 ⟨g, hg, rfl, hW, hb0⟩
  have hg : w.heap.size + 4 ≤ g := by simpa using hg
  have bw : Blw (boxG w z y) V0 := ((Blw.refl _).alloc _).trans hb0
  have hA := RowAt.blw hA bw
  have hB := RowAt.blw hB bw
  have hP := RowAt.blw hP bw
  have hb := hb.trans bw
  clear hb0 bw
  obtain ⟨lA, cA, -⟩ := row_facts hA
  obtain ⟨lB, cB, -⟩ := row_facts hB
  go_wp2_with fail
  refine Calls.mono (way_product g _ z y _ hW (hI.out.blw hb) (hJ.out.blw hb)) ?_
  rintro E V1 ⟨x1, x2, e1, rfl, hW1, hK1, hO1, hO2⟩
  have HX1 := Lib.hid e1
  have lg : g < V0.heap.size := hW.facts.1
  have hO1 := hO1.mono' (show g + 1 ≤ _ from lg)
  have hO2 := hO2.mono' (show g + 1 ≤ _ from lg)
  have hP := RowAt.kept hP hK1 (by omega)
  have hb := KeptO.blw hb hK1 (fun i e => by subst e; omega)
  clear e1 hK1 lA cA lB cB hW hA hB
  go_wp2_with fail
  refine Calls.mono (wayTold_any g _ x1 x2 _ (at_alloc _ (at_alloc _ hW1))) ?_
  rintro E V3 ⟨u, e3, rfl, hb3, hO3⟩
  have HX3 := Lib.hid e3
  have hP3 := RowAt.blw (at_alloc _ (at_alloc _ hP)) hb3
  have hb2 : Blw w V3 := ((hb.alloc _).alloc _).trans hb3
  have hOu := hO3 (g + 1) ((hO1.blw (((Blw.refl _).alloc _).alloc _)).blw hb3) ((hO2.blw (((Blw.refl _).alloc _).alloc _)).blw hb3)
  obtain ⟨-, cP3, fP3⟩ := row_facts hP3
  have hPf := RowAt.set6 hP3 u
  have hbf := Blw.set6 (m := w.heap.size + 1 + 1) hb2 (by omega) u
  have hOf := OwnGL.set6 (m := w.heap.size + 1 + 1) hOu (by omega) u
  obtain ⟨V4, hV⟩ : ∃ V4, V4 = set6 V3 (w.heap.size + 1 + 1) u := ⟨_, rfl⟩
  rw [← hV] at hPf hbf hOf
  obtain ⟨p0, p1, p2, p3, p4, p5⟩ := glA_read hPf
  have HV := Lib.hid hV
  clear e3 hP hP3 hPf hW1 hb hb3 hO1 hO2 hO3 hb2 hOu hV
  go_wp2_with fail
  refine at_world HV.out ?_
  clear HV
  have eg : gMulF z.g y.g = toldF x1.r x2.r (prodF (chkGs [z.g, y.g]) z.g y.g).2 := by
    show toldF (prodF (chkGs [z.g, y.g]) z.g y.g).1.1 (prodF (chkGs [z.g, y.g]) z.g y.g).1.2 _ = _
    rw [← HX1.out]
  refine bodyPost_ret (v := .tuple #[gV u, .int .i64 (gMulF z.g y.g).2]) ?_ rfl ⟨u, ?_, rfl, hbf, hOf.mono (by omega)⟩
  · rw [eg]
    simp [results, Try.results40, go_sem, p0, p1, p2, p3, p4, p5]
  · rw [HX3.out, eg]

set_option maxRecDepth 100000 in
set_option maxHeartbeats 2000000 in
theorem gaussTurned_any (z : GL) (w : World) (hz : GL.In w z) :
    Calls Try.prog 146 #[gV z] w fun E w' => ∃ y : FL, y.r = (negT z.im.r).1 ∧ E = .returned (gV ⟨z.re, y⟩) ∧ Blw w w' ∧ OwnFL w.heap.size w' y := by
  have hI := Lib.hid hz
  have hA : RowAt ((w.alloc (.cells (glA z) 36 (0, 0))).alloc (.cells (glA zG) 36 (0, 0))) w.heap.size (glA z) 36 := at_alloc _ (heap_alloc_new _ _)
  have hP : RowAt ((w.alloc (.cells (glA z) 36 (0, 0))).alloc (.cells (glA zG) 36 (0, 0))) (w.heap.size + 1) (glA zG) 36 := heap_alloc_at (by simp)
  clear hz
  go_enter Try.func146, Try.ntmps146
  go_wp2_with fail
  refine Calls.mono (ratioNeg_any z.im _ (hI.out.im.blw (by repeat (first | exact Blw.refl _ | apply Blw.ext | apply Blw.alloc | apply Blw.drewN | apply Blw.drew | refine Blw.setCell ?_ _ _ (by simp))))) ?_
  rintro E V0 ⟨y, e1, rfl, hb0, hO⟩
  have HX1 := Lib.hid e1
  have hA := at_alloc (.cells (flA y) 34 (0, 0)) (RowAt.blw hA hb0)
  have hP := at_alloc (.cells (flA y) 34 (0, 0)) (RowAt.blw hP hb0)
  have hb : Blw w (V0.alloc (.cells (flA y) 34 (0, 0))) := (Blw.trans (by repeat (first | exact Blw.refl _ | apply Blw.ext | apply Blw.alloc | apply Blw.drewN | apply Blw.drew | refine Blw.setCell ?_ _ _ (by simp))) hb0).alloc _
  have hO := (hO.mono' (show w.heap.size + 2 ≤ _ by simp)).blw ((Blw.refl _).alloc (.cells (flA y) 34 (0, 0)))
  have c1 := (row_facts hA).2.1
  have c2 := (row_facts hP).2.1
  have f1 := (row_facts hP).2.2
  have l1 := (row_facts hP).1
  have hPf := RowAt.set6 hP ⟨z.re, y⟩
  have hbf := Blw.set6 (m := w.heap.size + 1) hb (by omega) ⟨z.re, y⟩
  have hOf := OwnFL.kept' hO (KeptO.set6 (m := w.heap.size + 1) (KeptO.refl (O := fun k => k = w.heap.size + 1) _) (.inr rfl) ⟨z.re, y⟩) (.inl (by omega))
  obtain ⟨V4, hV⟩ : ∃ V4, V4 = set6 (V0.alloc (.cells (flA y) 34 (0, 0))) (w.heap.size + 1) ⟨z.re, y⟩ := ⟨_, rfl⟩
  rw [← hV] at hPf hbf hOf
  obtain ⟨p0, p1, p2, p3, p4, p5⟩ := glA_read hPf
  have HV := Lib.hid hV
  clear e1 hA hP hPf hb hb0 hO hV
  go_wp2_with fail
  refine at_world HV.out ?_
  clear HV
  refine bodyPost_ret (v := gV ⟨z.re, y⟩) (by simp [results, Try.results146, go_sem, p0, p1, p2, p3, p4, p5]) rfl ⟨y, HX1.out, rfl, hbf, hOf.mono' (by omega)⟩
end Go.Proofs.Ytmeccjlopmjneaa
/- gauss: Zero, Neg, Int, walked. -/
namespace Go.Proofs.Ytmeccjlopmjneaa
open Go.RowKit

def zeroF (a : Fr × Fr) : Bool := decide (chkG a = 0) && decide (a.1.num.length = 0) && decide (a.2.num.length = 0)
theorem chkGs_one (a : Fr × Fr) : chkGs [a] = chkG a := by
  show (if (0 : Int) = 0 then chkG a else 0) = _
  rw [if_pos rfl]
theorem asked1 (A : Option Addr) (z : GL) (w : World) (hA : Arr w A (gls [z])) (hz : GL.In w z) :
    Calls Try.prog 83 #[.slice A 1 1] w fun E w' => ∃ g, w.heap.size ≤ g ∧ E = .returned (.pointer (some ⟨g, 0, none⟩)) ∧ WayAt w' g (chkG z.g) ∧ Blw w w' := by
  have := gaussAsked_any A [z] 1 w hA (fun u hu => by rw [List.mem_singleton.1 hu]; exact hz) (by simp)
  rwa [show chkGs ([z].map GL.g) = chkG z.g from chkGs_one _] at this

set_option maxRecDepth 100000 in
set_option maxHeartbeats 1000000 in
theorem gaussZero_any (z : GL) (w : World) (hz : GL.In w z) :
    Calls Try.prog 49 #[gV z] w fun E w' => E = .returned (.bool (zeroF z.g)) ∧ ∃ x, w' = w.ext x := by
  have hI := Lib.hid hz
  have hA : RowAt (w.alloc (.cells (glA z) 36 (0, 0))) w.heap.size (glA z) 36 := heap_alloc_new _ _
  have HZ := Lib.hid (show zeroF z.g = (decide (chkG z.g = 0) && decide (z.re.r.num.length = 0) && decide (z.im.r.num.length = 0)) from rfl)
  obtain ⟨u, hu⟩ : ∃ u, u = chkG z.g := ⟨_, rfl⟩
  rw [← hu] at HZ
  have HU := Lib.hid hu
  clear hz hu
  by_cases h1 : u = 0
  · by_cases h2 : z.re.r.num.length = 0
    · by_cases h3 : z.im.r.num.length = 0
      all_goals
        have q1 : (u == 0) = true := by rw [h1]; rfl
        have q2 : (((z.re.r.num.length : Nat) : Int) == 0) = true := by rw [h2]; rfl
        have q3 : (((z.im.r.num.length : Nat) : Int) == 0) = decide (z.im.r.num.length = 0) := by first | (rw [h3]; rfl) | (rw [decide_eq_false h3]; exact beq_false_of_ne (by omega))
        rw [show decide (z.im.r.num.length = 0) = _ from by first | exact decide_eq_true h3 | exact decide_eq_false h3] at q3
        have e := HZ.out
        rw [decide_eq_true h1, decide_eq_true h2, show decide (z.im.r.num.length = 0) = _ from by first | exact decide_eq_true h3 | exact decide_eq_false h3] at e
        have HE := Lib.hid e
        clear h1 h2 h3 e HZ
        go_enter Try.func49, Try.ntmps49
        go_wp2_with fail
        refine Calls.mono (asked1 _ z _ (Arr.lit_at _ _ _ _ (by simp)) (hI.out.blw (by repeat (first | exact Blw.refl _ | apply Blw.ext | apply Blw.alloc | apply Blw.drewN | apply Blw.drew | refine Blw.setCell ?_ _ _ (by simp))))) ?_
        rintro E V0 ⟨g, hg, rfl, hW, hb0⟩
        rw [← HU.out] at hW
        have hA1 := RowAt.blw (at_alloc _ hA) hb0
        have hb : Blw w V0 := Blw.trans (by repeat (first | exact Blw.refl _ | apply Blw.ext | apply Blw.alloc | apply Blw.drewN | apply Blw.drew | refine Blw.setCell ?_ _ _ (by simp))) hb0
        obtain ⟨lA, cA, -⟩ := row_facts hA1
        obtain ⟨hgl, hgc, hgf⟩ := hW.facts
        clear hA hA1 hb0 hW
        go_wp2_with fail
        go_ret
        exact ⟨by rw [HE.out]; rfl, hb.is⟩
    · have q1 : (u == 0) = true := by rw [h1]; rfl
      have q2 : (((z.re.r.num.length : Nat) : Int) == 0) = false := beq_false_of_ne (by omega)
      have e := HZ.out
      rw [decide_eq_true h1, decide_eq_false h2] at e
      have HE := Lib.hid e
      clear h1 h2 e HZ
      go_enter Try.func49, Try.ntmps49
      go_wp2_with fail
      refine Calls.mono (asked1 _ z _ (Arr.lit_at _ _ _ _ (by simp)) (hI.out.blw (by repeat (first | exact Blw.refl _ | apply Blw.ext | apply Blw.alloc | apply Blw.drewN | apply Blw.drew | refine Blw.setCell ?_ _ _ (by simp))))) ?_
      rintro E V0 ⟨g, hg, rfl, hW, hb0⟩
      rw [← HU.out] at hW
      have hA1 := RowAt.blw (at_alloc _ hA) hb0
      have hb : Blw w V0 := Blw.trans (by repeat (first | exact Blw.refl _ | apply Blw.ext | apply Blw.alloc | apply Blw.drewN | apply Blw.drew | refine Blw.setCell ?_ _ _ (by simp))) hb0
      obtain ⟨lA, cA, -⟩ := row_facts hA1
      obtain ⟨hgl, hgc, hgf⟩ := hW.facts
      clear hA hA1 hb0 hW
      go_wp2_with fail
      go_ret
      exact ⟨by rw [HE.out]; rfl, hb.is⟩
  · have q1 : (u == 0) = false := by simpa using h1
    have e := HZ.out
    rw [decide_eq_false h1] at e
    have HE := Lib.hid e
    clear h1 e HZ
    go_enter Try.func49, Try.ntmps49
    go_wp2_with fail
    refine Calls.mono (asked1 _ z _ (Arr.lit_at _ _ _ _ (by simp)) (hI.out.blw (by repeat (first | exact Blw.refl _ | apply Blw.ext | apply Blw.alloc | apply Blw.drewN | apply Blw.drew | refine Blw.setCell ?_ _ _ (by simp))))) ?_
    rintro E V0 ⟨g, hg, rfl, hW, hb0⟩
    rw [← HU.out] at hW
    have hA1 := RowAt.blw (at_alloc _ hA) hb0
    have hb : Blw w V0 := Blw.trans (by repeat (first | exact Blw.refl _ | apply Blw.ext | apply Blw.alloc | apply Blw.drewN | apply Blw.drew | refine Blw.setCell ?_ _ _ (by simp))) hb0
    obtain ⟨lA, cA, -⟩ := row_facts hA1
    obtain ⟨hgl, hgc, hgf⟩ := hW.facts
    clear hA hA1 hb0 hW
    go_wp2_with fail
    go_ret
    exact ⟨by rw [HE.out]; rfl, hb.is⟩
end Go.Proofs.Ytmeccjlopmjneaa
/- gauss: Quo, walked. -/
namespace Go.Proofs.Ytmeccjlopmjneaa
open Go.RowKit

def gQuoF (a b : Fr × Fr) : (Fr × Fr) × Int :=
  let e0 := chkGs [a, b]
  let e1 := if e0 = 0 then (if zeroF b = true then 7 else 0) else e0
  let n := normF e1 b
  let p := prodF n.2 a (b.1, (negT b.2).1)
  let re := wopF p.2 (quoF p.1.1 n.1)
  let im := wopF re.2 (quoF p.1.2 n.1)
  toldF re.1 im.1 im.2

theorem cellsG {w : World} {n : Nat} {z : GL} (h : RowAt w n (glA z) 36) : ∀ i, w.cell? ⟨n, i, none⟩ = (glA z)[i]? := (row_facts h).2.1
/-- Words lie elsewhere than a row that holds none. -/
theorem RowAt.arr {w w' : World} {n : Nat} {A : Array Value} {T : TypeId} (h : RowAt w n A T) (hA : ∀ (i : Nat) (m : Int), A[i]? ≠ some (Value.int .u32 m)) (k : KeptO (· = n) w w') {a : Option Addr} {l : List Nat} (hl : Arr w a (u32s l)) : Arr w' a (u32s l) := by
  rcases hl with hl | ⟨b, o, rfl, hb, hc⟩
  · exact .inl hl
  · cases l with
    | nil => exact .inl rfl
    | cons v l =>
      refine KeptO.arr k (.inr ⟨b, o, rfl, hb, hc⟩) ?_
      rintro q hq (hg : q.block = n)
      cases hq
      have hg : b = n := hg
      subst hg
      have e1 := hc 0 (by simp)
      rw [cell_of_row w b (o + 0) _ _ _ h] at e1
      exact hA _ _ e1
theorem flA_words (x : FL) : ∀ (i : Nat) (m : Int), (flA x)[i]? ≠ some (Value.int .u32 m) := by
  intro i m
  match i with
  | 0 => simp
  | 1 => simp
  | 2 => simp
  | i + 3 => simp
abbrev zA : Array Value := #[.bool false, .slice none 0 0, .slice none 0 0]
theorem zA_words : ∀ (i : Nat) (m : Int), zA[i]? ≠ some (Value.int .u32 m) := flA_words zL
theorem RowAt.fl {w w' : World} {n : Nat} {A : Array Value} {T : TypeId} (h : RowAt w n A T) (hA : ∀ (i : Nat) (m : Int), A[i]? ≠ some (Value.int .u32 m)) (k : KeptO (· = n) w w') {x : FL} (hx : FL.In w x) : FL.In w' x :=
  ⟨h.arr hA k hx.an, h.arr hA k hx.ad, hx.cn, hx.cm, hx.dn, hx.dm, hx.na, hx.nb, hx.wn, hx.wd⟩
theorem RowAt.set3z {w : World} {n : Nat} (h : RowAt w n zA 34) (u0 u1 u2 : Value) : RowAt (((w.setCell ⟨n, 0, none⟩ u0).setCell ⟨n, 1, none⟩ u1).setCell ⟨n, 2, none⟩ u2) n #[u0, u1, u2] 34 := RowAt.set3 h u0 u1 u2
theorem kept_set3 (w : World) (m : Nat) (u0 u1 u2 : Value) : KeptO (· = m) w (((w.setCell ⟨m, 0, none⟩ u0).setCell ⟨m, 1, none⟩ u1).setCell ⟨m, 2, none⟩ u2) := (((KeptO.refl (O := fun k => k = m) w).setCell ⟨m, 0, none⟩ _ (.inl rfl)).setCell ⟨m, 1, none⟩ _ (.inl rfl)).setCell ⟨m, 2, none⟩ _ (.inl rfl)
theorem FL.In.set3z {w : World} {n : Nat} {x : FL} (h : RowAt w n zA 34) (hx : FL.In w x) (u0 u1 u2 : Value) : FL.In (((w.setCell ⟨n, 0, none⟩ u0).setCell ⟨n, 1, none⟩ u1).setCell ⟨n, 2, none⟩ u2) x := RowAt.fl h zA_words (kept_set3 _ _ _ _ _) hx
theorem FL.In.alloc {w : World} {x : FL} (h : FL.In w x) (o : Obj) : FL.In (w.alloc o) x := h.blw ((Blw.refl w).alloc o)
theorem FL.In.drew {w : World} {x : FL} (h : FL.In w x) : FL.In w.drew x := h.blw (Blw.drew (Blw.refl w))
theorem Blw.set3 {w w' : World} {m : Nat} (k : Blw w w') (hm : w.heap.size ≤ m) (u0 u1 u2 : Value) : Blw w (((w'.setCell ⟨m, 0, none⟩ u0).setCell ⟨m, 1, none⟩ u1).setCell ⟨m, 2, none⟩ u2) := ((k.setCell ⟨m, 0, none⟩ _ hm).setCell ⟨m, 1, none⟩ _ hm).setCell ⟨m, 2, none⟩ _ hm

set_option maxRecDepth 100000 in
set_option maxHeartbeats 4000000 in
theorem gaussQuo_any (z y : GL) (w : World) (hz : GL.In w z) (hy : GL.In w y) :
    Calls Try.prog 100 #[gV z, gV y] w (RetG w (gQuoF z.g y.g)) := by
  have hI := Lib.hid hz
  have hJ := Lib.hid hy
  obtain ⟨hA, hB, hP, hb⟩ := boxG_rows w z y
  clear hz hy
  obtain ⟨e0, he0⟩ : ∃ e, e = chkGs [z.g, y.g] := ⟨_, rfl⟩
  obtain ⟨e1, he1⟩ : ∃ e, e = if e0 = 0 then (if zeroF y.g = true then (7 : Int) else 0) else e0 := ⟨_, rfl⟩
  have hq : gQuoF z.g y.g = toldF (wopF (prodF (normF e1 y.g).2 z.g (y.re.r, (negT y.im.r).1)).2 (quoF (prodF (normF e1 y.g).2 z.g (y.re.r, (negT y.im.r).1)).1.1 (normF e1 y.g).1)).1 (wopF (wopF (prodF (normF e1 y.g).2 z.g (y.re.r, (negT y.im.r).1)).2 (quoF (prodF (normF e1 y.g).2 z.g (y.re.r, (negT y.im.r).1)).1.1 (normF e1 y.g).1)).2 (quoF (prodF (normF e1 y.g).2 z.g (y.re.r, (negT y.im.r).1)).1.2 (normF e1 y.g).1)).1 (wopF (wopF (prodF (normF e1 y.g).2 z.g (y.re.r, (negT y.im.r).1)).2 (quoF (prodF (normF e1 y.g).2 z.g (y.re.r, (negT y.im.r).1)).1.1 (normF e1 y.g).1)).2 (quoF (prodF (normF e1 y.g).2 z.g (y.re.r, (negT y.im.r).1)).1.2 (normF e1 y.g).1)).2 := by
    rw [he1, he0]; rfl
  have HQ := Lib.hid hq
  generalize gQuoF z.g y.g = R at *
  have HE0 := Lib.hid he0
  have HE1 := Lib.hid he1
  clear hq he0 he1
  go_enter Try.func100, Try.ntmps100
  go_upto_region 1 with fail
  go_cut [6] (fun s6 wx => ∃ g : Nat, w.heap.size + 4 ≤ g ∧ s6 = .pointer (some ⟨g, 0, none⟩) ∧ WayAt wx g e0 ∧ Blw w wx ∧ RowAt wx w.heap.size (glA z) 36 ∧ RowAt wx (w.heap.size + 1) (glA y) 36 ∧ RowAt wx (w.heap.size + 1 + 1) (glA zG) 36)
  case first =>
    go_wp2_with fail
    refine Calls.mono (asked2 _ z y _ (Arr.lit_at _ _ _ _ (by simp)) (hI.out.blw (by repeat (first | exact Blw.refl _ | apply Blw.ext | apply Blw.alloc | apply Blw.drewN | apply Blw.drew | refine Blw.setCell ?_ _ _ (by simp)))) (hJ.out.blw (by repeat (first | exact Blw.refl _ | apply Blw.ext | apply Blw.alloc | apply Blw.drewN | apply Blw.drew | refine Blw.setCell ?_ _ _ (by simp))))) ?_
    rintro E V0 ⟨g, hg, rfl, hW, hb0⟩
    have hg : w.heap.size + 4 ≤ g := by simpa using hg
    rw [← HE0.out] at hW
    have bw : Blw (boxG w z y) V0 := ((Blw.refl _).alloc _).trans hb0
    go_wp2_with fail
    go_meet
    exact ⟨g, hg, rfl, hW, hb.trans bw, RowAt.blw hA bw, RowAt.blw hB bw, RowAt.blw hP bw⟩
  case rest =>
    clear hA hB hP hb
    obtain ⟨g, hg, rfl, hW, hb, hA, hB, hP⟩ := hcut
    obtain ⟨cb, hcb⟩ : ∃ c : Bool, c = (decide (e0 = 0) && zeroF y.g) := ⟨_, rfl⟩
    have HCB := Lib.hid hcb
    clear hcb
    go_upto_region 2 with fail
    go_cut [22] (fun s22 wx => s22 = .bool cb ∧ WayAt wx g e0 ∧ Blw w wx ∧ RowAt wx w.heap.size (glA z) 36 ∧ RowAt wx (w.heap.size + 1) (glA y) 36 ∧ RowAt wx (w.heap.size + 1 + 1) (glA zG) 36)
    case first =>
      have K := Lib.hid (gaussZero_any y wc (hJ.out.blw hb))
      obtain ⟨hgl, hgc, hgf⟩ := hW.facts
      obtain ⟨-, cB, -⟩ := row_facts hB
      by_cases q : e0 = 0
      · have c1 : (e0 == 0) = true := by rw [q]; rfl
        have e := HCB.out
        rw [decide_eq_true q, Bool.true_and] at e
        rw [← e] at K
        have QQ := Lib.hid q
        clear q e
        go_wp2_with fail
        refine Calls.mono K.out ?_
        rintro E V ⟨rfl, x, hx⟩
        have b1 : Blw wc V := by rw [hx]; exact World.blw_ext _ _
        clear hx
        go_wp2_with fail
        go_meet
        exact ⟨rfl, hW.blw b1, hb.trans b1, RowAt.blw hA b1, RowAt.blw hB b1, RowAt.blw hP b1⟩
      · have c1 : (e0 == 0) = false := by simpa using q
        have e := HCB.out
        rw [decide_eq_false q, Bool.false_and] at e
        clear q
        go_wp2_with fail
        go_meet
        exact ⟨by rw [e], hW, hb, hA, hB, hP⟩
    case rest =>
      clear hA hB hP hb hW
      obtain ⟨rfl, hW, hb, hA, hB, hP⟩ := hcut
      go_upto_if 22 with fail
      go_cut [] (fun wx => WayAt wx g e1 ∧ Blw w wx ∧ RowAt wx w.heap.size (glA z) 36 ∧ RowAt wx (w.heap.size + 1) (glA y) 36 ∧ RowAt wx (w.heap.size + 1 + 1) (glA zG) 36)
      case first =>
        obtain ⟨hgl, hgc, hgf⟩ := hW.facts
        cases cb
        · have e := HE1.out
          have e2 : e1 = e0 := by
            have := HCB.out
            rw [e]
            split
            · rename_i h
              rw [h] at this
              rw [if_neg (by intro k; rw [k] at this; simp at this), h]
            · rfl
          go_wp2_with fail
          go_meet
          rw [e2]
          exact ⟨hW, hb, hA, hB, hP⟩
        · have e := HE1.out
          have e2 : e1 = 7 := by
            have := HCB.out
            rw [e]
            simp at this
            rw [if_pos this.1, if_pos this.2]
          clear e
          have e3 := Lib.hid e2
          clear e2
          go_wp2_with fail
          go_meet
          rw [e3.out]
          exact ⟨hW.set 7, hb.setCell _ _ (show w.heap.size ≤ g by omega), at_far _ (by omega) hA, at_far _ (by omega) hB, at_far _ (by omega) hP⟩
      case rest =>
        clear hA hB hP hb hW
        obtain ⟨hW, hb, hA, hB, hP⟩ := hcut
        obtain ⟨lB, cB, -⟩ := row_facts hB
        go_wp2_with fail
        refine Calls.mono (way_norm g e1 y _ hW (hJ.out.blw hb)) ?_
        rintro E V1 ⟨x1, e1, rfl, hW1, hK1, hO1⟩
        have HX1 := Lib.hid e1
        have hO1 := hO1.mono' (show g + 1 ≤ _ from hW.facts.1)
        have hA := RowAt.kept hA hK1 (by omega)
        have hB := RowAt.kept hB hK1 (by omega)
        have hP := RowAt.kept hP hK1 (by omega)
        have hb := KeptO.blw hb hK1 (fun i e => by subst e; omega)
        have n1 : g < V1.heap.size := hW1.facts.1
        have n2 : w.heap.size + 1 + 1 < V1.heap.size := RowAt.lt hP
        clear e1 hK1 lB cB hW
        go_upto_region 5 with fail
        go_cut [8, 9] (fun s8 s9 wx => ∃ (n8 n9 : Nat) (x2 x3 : FL), s8 = .pointer (some ⟨n8, 0, none⟩) ∧ s9 = .pointer (some ⟨n9, 0, none⟩) ∧ V1.heap.size < n8 ∧ V1.heap.size < n9 ∧ n8 ≠ n9 ∧ Hid ((x2.r, x3.r) = (prodF (normF e1 y.g).2 z.g (y.re.r, (negT y.im.r).1)).1) ∧ WayAt wx g (prodF (normF e1 y.g).2 z.g (y.re.r, (negT y.im.r).1)).2 ∧ Blw w wx ∧ RowAt wx (w.heap.size + 1 + 1) (glA zG) 36 ∧ RowAt wx V1.heap.size (flA x1) 34 ∧ RowAt wx n8 (flA x2) 34 ∧ RowAt wx n9 (flA x3) 34 ∧ FL.In wx x1 ∧ FL.In wx x2 ∧ FL.In wx x3)
        case first =>
          refine name_world (S := fun wx => WayAt wx g (normF e1 y.g).2 ∧ Blw w wx ∧ RowAt wx w.heap.size (glA z) 36 ∧ RowAt wx (w.heap.size + 1) (glA y) 36 ∧ RowAt wx (w.heap.size + 1 + 1) (glA zG) 36 ∧ RowAt wx V1.heap.size (flA x1) 34 ∧ OwnFL (g + 1) wx x1) ⟨at_alloc _ hW1, hb.alloc _, at_alloc _ hA, at_alloc _ hB, at_alloc _ hP, heap_alloc_new _ _, hO1.blw ((Blw.refl _).alloc _)⟩ ?_
          clear hW1 hb hA hB hP hO1
          rintro W1 ⟨hW, hb, hA, hB, hP, hX, hO1⟩
          have hi0 := hO1.in
          have hW : WayAt W1.drew g _ := hW
          have hA : RowAt W1.drew _ _ _ := hA
          have hB : RowAt W1.drew _ _ _ := hB
          have hP : RowAt W1.drew _ _ _ := hP
          have hX : RowAt W1.drew _ _ _ := hX
          have hb := hb.drew
          have hO1 := hO1.blw (Blw.drew (Blw.refl W1))
          obtain ⟨-, cA, -⟩ := row_facts hA
          obtain ⟨-, cB, -⟩ := row_facts hB
          have hi1 := hO1.in
          have lX := RowAt.lt hX
          have lX : V1.heap.size < W1.heap.size := lX
          have KT := Lib.hid (fun (wx : World) (hb : Blw w wx) => gaussTurned_any y wx (hJ.out.blw hb))
          go_region_held3 (fun wx => (∀ i, wx.cell? ⟨w.heap.size, i, none⟩ = (glA z)[i]?) ∧ (∀ i, wx.cell? ⟨w.heap.size + 1, i, none⟩ = (glA y)[i]?)) (refine ⟨cellsG (z := z) ?_, cellsG (z := y) ?_⟩ <;> (repeat (first | with_reducible assumption | with_reducible exact heap_alloc_new _ _ | (with_reducible refine heap_alloc_at ?_; (simp; done)) | with_reducible refine RowAt.set3z ?_ _ _ _ | with_reducible refine RowAt.far3 ?_ (by omega) _ _ _ | with_reducible refine RowAt.far6 ?_ (by omega) _ | with_reducible refine at_alloc _ ?_ | with_reducible refine at_drew ?_))) (first
            | (go_at_call 146; (with_reducible refine Calls.mono (KT.out _ (by repeat (first | with_reducible assumption | with_reducible exact Blw.refl _ | with_reducible refine Blw.alloc ?_ _ | with_reducible refine Blw.drew ?_ | with_reducible refine Blw.set3 ?_ (by omega) _ _ _))) ?_); rintro E V2 ⟨yt, et, rfl, hbt, hOt⟩; have HT := Lib.hid et; clear et; have hA2 : RowAt V2 w.heap.size (glA z) 36 := RowAt.blw (by repeat (first | with_reducible assumption | with_reducible exact heap_alloc_new _ _ | (with_reducible refine heap_alloc_at ?_; (simp; done)) | with_reducible refine RowAt.set3z ?_ _ _ _ | with_reducible refine RowAt.far3 ?_ (by omega) _ _ _ | with_reducible refine RowAt.far6 ?_ (by omega) _ | with_reducible refine at_alloc _ ?_ | with_reducible refine at_drew ?_)) hbt; have hB2 : RowAt V2 (w.heap.size + 1) (glA y) 36 := RowAt.blw (by repeat (first | with_reducible assumption | with_reducible exact heap_alloc_new _ _ | (with_reducible refine heap_alloc_at ?_; (simp; done)) | with_reducible refine RowAt.set3z ?_ _ _ _ | with_reducible refine RowAt.far3 ?_ (by omega) _ _ _ | with_reducible refine RowAt.far6 ?_ (by omega) _ | with_reducible refine at_alloc _ ?_ | with_reducible refine at_drew ?_)) hbt; have hP2 : RowAt V2 (w.heap.size + 1 + 1) (glA zG) 36 := RowAt.blw (by repeat (first | with_reducible assumption | with_reducible exact heap_alloc_new _ _ | (with_reducible refine heap_alloc_at ?_; (simp; done)) | with_reducible refine RowAt.set3z ?_ _ _ _ | with_reducible refine RowAt.far3 ?_ (by omega) _ _ _ | with_reducible refine RowAt.far6 ?_ (by omega) _ | with_reducible refine at_alloc _ ?_ | with_reducible refine at_drew ?_)) hbt; have hX2 : RowAt V2 V1.heap.size (flA x1) 34 := RowAt.blw (by repeat (first | with_reducible assumption | with_reducible exact heap_alloc_new _ _ | (with_reducible refine heap_alloc_at ?_; (simp; done)) | with_reducible refine RowAt.set3z ?_ _ _ _ | with_reducible refine RowAt.far3 ?_ (by omega) _ _ _ | with_reducible refine RowAt.far6 ?_ (by omega) _ | with_reducible refine at_alloc _ ?_ | with_reducible refine at_drew ?_)) hbt; have hW2 : WayAt V2 g (normF e1 y.g).2 := WayAt.blw (by repeat (first | with_reducible assumption | with_reducible exact heap_alloc_new _ _ | (with_reducible refine heap_alloc_at ?_; (simp; done)) | with_reducible refine RowAt.set3z ?_ _ _ _ | with_reducible refine RowAt.far3 ?_ (by omega) _ _ _ | with_reducible refine RowAt.far6 ?_ (by omega) _ | with_reducible refine at_alloc _ ?_ | with_reducible refine at_drew ?_)) hbt; have hb2 : Blw w V2 := Blw.trans (by repeat (first | with_reducible assumption | with_reducible exact Blw.refl _ | with_reducible refine Blw.alloc ?_ _ | with_reducible refine Blw.drew ?_ | with_reducible refine Blw.set3 ?_ (by omega) _ _ _)) hbt; have hi2 : FL.In V2 yt := hOt.in; have hj2 : FL.In V2 x1 := FL.In.blw (by repeat (first | with_reducible assumption | with_reducible refine FL.In.alloc ?_ _ | with_reducible refine FL.In.drew ?_ | with_reducible refine FL.In.set3z ?_ ?_ _ _ _ | with_reducible exact heap_alloc_new _ _ | (with_reducible refine heap_alloc_at ?_; (simp; done)) | with_reducible refine RowAt.far3 ?_ (by omega) _ _ _ | with_reducible refine at_alloc _ ?_)) hbt; have lX2 := RowAt.lt hX2; (try (refine (have hN2 : RowAt V2 W1.heap.size zA 34 := ?_; ?_); focus (refine RowAt.blw ?_ hbt; all_goals (repeat (first | omega | with_reducible assumption | with_reducible exact heap_alloc_new _ _ | (with_reducible refine heap_alloc_at ?_; (simp; done)) | with_reducible refine RowAt.set3z ?_ _ _ _ | with_reducible refine RowAt.far3 ?_ (by omega) _ _ _ | with_reducible refine RowAt.far6 ?_ (by omega) _ | with_reducible refine at_alloc _ ?_ | with_reducible refine at_drew ?_)); done))); (try (refine (have hM2 : RowAt V2 (W1.heap.size + 1) zA 34 := ?_; ?_); focus (refine RowAt.blw ?_ hbt; all_goals (repeat (first | omega | with_reducible assumption | with_reducible exact heap_alloc_new _ _ | (with_reducible refine heap_alloc_at ?_; (simp; done)) | with_reducible refine RowAt.set3z ?_ _ _ _ | with_reducible refine RowAt.far3 ?_ (by omega) _ _ _ | with_reducible refine RowAt.far6 ?_ (by omega) _ | with_reducible refine at_alloc _ ?_ | with_reducible refine at_drew ?_)); done))); (try have lN2 := RowAt.lt hN2); (try have lM2 := RowAt.lt hM2))
            | (go_at_call 88; (with_reducible refine Calls.mono (way_product g _ z ⟨y.re, yt⟩ _ (show WayAt _ g (normF e1 y.g).2 from (by repeat (first | with_reducible assumption | with_reducible exact heap_alloc_new _ _ | (with_reducible refine heap_alloc_at ?_; (simp; done)) | with_reducible refine RowAt.set3z ?_ _ _ _ | with_reducible refine RowAt.far3 ?_ (by omega) _ _ _ | with_reducible refine RowAt.far6 ?_ (by omega) _ | with_reducible refine at_alloc _ ?_ | with_reducible refine at_drew ?_))) (hI.out.blw (by repeat (first | with_reducible assumption | with_reducible exact Blw.refl _ | with_reducible refine Blw.alloc ?_ _ | with_reducible refine Blw.drew ?_ | with_reducible refine Blw.set3 ?_ (by omega) _ _ _))) ⟨hJ.out.re.blw (by repeat (first | with_reducible assumption | with_reducible exact Blw.refl _ | with_reducible refine Blw.alloc ?_ _ | with_reducible refine Blw.drew ?_ | with_reducible refine Blw.set3 ?_ (by omega) _ _ _)), (by repeat (first | with_reducible assumption | with_reducible refine FL.In.alloc ?_ _ | with_reducible refine FL.In.drew ?_ | with_reducible refine FL.In.set3z ?_ ?_ _ _ _ | with_reducible exact heap_alloc_new _ _ | (with_reducible refine heap_alloc_at ?_; (simp; done)) | with_reducible refine RowAt.far3 ?_ (by omega) _ _ _ | with_reducible refine at_alloc _ ?_))⟩) ?_); rintro E V3 ⟨x2, x3, e2, rfl, hW3, hK3, hO2, hO3⟩; have HX2 := Lib.hid e2; clear e2; have hA3 : RowAt V3 w.heap.size (glA z) 36 := RowAt.kept (by repeat (first | with_reducible assumption | with_reducible exact heap_alloc_new _ _ | (with_reducible refine heap_alloc_at ?_; (simp; done)) | with_reducible refine RowAt.set3z ?_ _ _ _ | with_reducible refine RowAt.far3 ?_ (by omega) _ _ _ | with_reducible refine RowAt.far6 ?_ (by omega) _ | with_reducible refine at_alloc _ ?_ | with_reducible refine at_drew ?_)) hK3 (by omega); have hB3 : RowAt V3 (w.heap.size + 1) (glA y) 36 := RowAt.kept (by repeat (first | with_reducible assumption | with_reducible exact heap_alloc_new _ _ | (with_reducible refine heap_alloc_at ?_; (simp; done)) | with_reducible refine RowAt.set3z ?_ _ _ _ | with_reducible refine RowAt.far3 ?_ (by omega) _ _ _ | with_reducible refine RowAt.far6 ?_ (by omega) _ | with_reducible refine at_alloc _ ?_ | with_reducible refine at_drew ?_)) hK3 (by omega); have hP3 : RowAt V3 (w.heap.size + 1 + 1) (glA zG) 36 := RowAt.kept (by repeat (first | with_reducible assumption | with_reducible exact heap_alloc_new _ _ | (with_reducible refine heap_alloc_at ?_; (simp; done)) | with_reducible refine RowAt.set3z ?_ _ _ _ | with_reducible refine RowAt.far3 ?_ (by omega) _ _ _ | with_reducible refine RowAt.far6 ?_ (by omega) _ | with_reducible refine at_alloc _ ?_ | with_reducible refine at_drew ?_)) hK3 (by omega); have hX3 : RowAt V3 V1.heap.size (flA x1) 34 := RowAt.kept (by repeat (first | with_reducible assumption | with_reducible exact heap_alloc_new _ _ | (with_reducible refine heap_alloc_at ?_; (simp; done)) | with_reducible refine RowAt.set3z ?_ _ _ _ | with_reducible refine RowAt.far3 ?_ (by omega) _ _ _ | with_reducible refine RowAt.far6 ?_ (by omega) _ | with_reducible refine at_alloc _ ?_ | with_reducible refine at_drew ?_)) hK3 (by omega); have hb3 : Blw w V3 := KeptO.blw (by repeat (first | with_reducible assumption | with_reducible exact Blw.refl _ | with_reducible refine Blw.alloc ?_ _ | with_reducible refine Blw.drew ?_ | with_reducible refine Blw.set3 ?_ (by omega) _ _ _)) hK3 (fun i e => by subst e; omega); have hi3 := hO2.in; have hj3 := hO3.in; have hk3 : FL.In V3 x1 := WayAt.fl (show WayAt _ g (normF e1 y.g).2 from (by repeat (first | with_reducible assumption | with_reducible exact heap_alloc_new _ _ | (with_reducible refine heap_alloc_at ?_; (simp; done)) | with_reducible refine RowAt.set3z ?_ _ _ _ | with_reducible refine RowAt.far3 ?_ (by omega) _ _ _ | with_reducible refine RowAt.far6 ?_ (by omega) _ | with_reducible refine at_alloc _ ?_ | with_reducible refine at_drew ?_))) hK3 (by repeat (first | with_reducible assumption | with_reducible refine FL.In.alloc ?_ _ | with_reducible refine FL.In.drew ?_ | with_reducible refine FL.In.set3z ?_ ?_ _ _ _ | with_reducible exact heap_alloc_new _ _ | (with_reducible refine heap_alloc_at ?_; (simp; done)) | with_reducible refine RowAt.far3 ?_ (by omega) _ _ _ | with_reducible refine at_alloc _ ?_)); have lX3 := RowAt.lt hX3; (try (refine (have hN3 : RowAt V3 W1.heap.size zA 34 := ?_; ?_); focus (refine RowAt.kept ?_ hK3 ?_; all_goals (repeat (first | omega | with_reducible assumption | with_reducible exact heap_alloc_new _ _ | (with_reducible refine heap_alloc_at ?_; (simp; done)) | with_reducible refine RowAt.set3z ?_ _ _ _ | with_reducible refine RowAt.far3 ?_ (by omega) _ _ _ | with_reducible refine RowAt.far6 ?_ (by omega) _ | with_reducible refine at_alloc _ ?_ | with_reducible refine at_drew ?_)); done))); (try (refine (have hM3 : RowAt V3 (W1.heap.size + 1) zA 34 := ?_; ?_); focus (refine RowAt.kept ?_ hK3 ?_; all_goals (repeat (first | omega | with_reducible assumption | with_reducible exact heap_alloc_new _ _ | (with_reducible refine heap_alloc_at ?_; (simp; done)) | with_reducible refine RowAt.set3z ?_ _ _ _ | with_reducible refine RowAt.far3 ?_ (by omega) _ _ _ | with_reducible refine RowAt.far6 ?_ (by omega) _ | with_reducible refine at_alloc _ ?_ | with_reducible refine at_drew ?_)); done))); (try (refine (have hR3 : RowAt V3 V2.heap.size zA 34 := ?_; ?_); focus (refine RowAt.kept ?_ hK3 ?_; all_goals (repeat (first | omega | with_reducible assumption | with_reducible exact heap_alloc_new _ _ | (with_reducible refine heap_alloc_at ?_; (simp; done)) | with_reducible refine RowAt.set3z ?_ _ _ _ | with_reducible refine RowAt.far3 ?_ (by omega) _ _ _ | with_reducible refine RowAt.far6 ?_ (by omega) _ | with_reducible refine at_alloc _ ?_ | with_reducible refine at_drew ?_)); done))); (try (refine (have hS3 : RowAt V3 (V2.heap.size + 1) zA 34 := ?_; ?_); focus (refine RowAt.kept ?_ hK3 ?_; all_goals (repeat (first | omega | with_reducible assumption | with_reducible exact heap_alloc_new _ _ | (with_reducible refine heap_alloc_at ?_; (simp; done)) | with_reducible refine RowAt.set3z ?_ _ _ _ | with_reducible refine RowAt.far3 ?_ (by omega) _ _ _ | with_reducible refine RowAt.far6 ?_ (by omega) _ | with_reducible refine at_alloc _ ?_ | with_reducible refine at_drew ?_)); done))); (try (have lN3 := RowAt.lt hN3; have cN3 := (row_facts hN3).2.1; have fN3 := (row_facts hN3).2.2)); (try (have lM3 := RowAt.lt hM3; have cM3 := (row_facts hM3).2.1; have fM3 := (row_facts hM3).2.2)); (try (have lR3 := RowAt.lt hR3; have cR3 := (row_facts hR3).2.1; have fR3 := (row_facts hR3).2.2)); (try (have lS3 := RowAt.lt hS3; have cS3 := (row_facts hS3).2.1; have fS3 := (row_facts hS3).2.2))))
          all_goals
            have hW4 : WayAt V3 g (prodF (normF e1 y.g).2 z.g (y.re.r, (negT y.im.r).1)).2 := by rw [← HT.out]; exact hW3
            go_wp2_with fail
            go_meet
            refine ⟨_, _, x2, x3, rfl, rfl, ?_, ?_, ?_, ?_, ?_, ?_, ?_, ?_, ?_, ?_, ?_, ?_, ?_⟩
            · first | omega | (simp; omega)
            · first | omega | (simp; omega)
            · first | omega | (simp; omega)
            · show _ = _
              rw [← HT.out]
              exact HX2.out
            · exact (by repeat (first | with_reducible assumption | with_reducible exact heap_alloc_new _ _ | (with_reducible refine heap_alloc_at ?_; (simp; done)) | with_reducible refine RowAt.set3z ?_ _ _ _ | with_reducible refine RowAt.far3 ?_ (by omega) _ _ _ | with_reducible refine RowAt.far6 ?_ (by omega) _ | with_reducible refine at_alloc _ ?_ | with_reducible refine at_drew ?_))
            · exact (by repeat (first | with_reducible assumption | with_reducible exact Blw.refl _ | with_reducible refine Blw.alloc ?_ _ | with_reducible refine Blw.drew ?_ | with_reducible refine Blw.set3 ?_ (by omega) _ _ _))
            · exact (by repeat (first | with_reducible assumption | with_reducible exact heap_alloc_new _ _ | (with_reducible refine heap_alloc_at ?_; (simp; done)) | with_reducible refine RowAt.set3z ?_ _ _ _ | with_reducible refine RowAt.far3 ?_ (by omega) _ _ _ | with_reducible refine RowAt.far6 ?_ (by omega) _ | with_reducible refine at_alloc _ ?_ | with_reducible refine at_drew ?_))
            · exact (by repeat (first | with_reducible assumption | with_reducible exact heap_alloc_new _ _ | (with_reducible refine heap_alloc_at ?_; (simp; done)) | with_reducible refine RowAt.set3z ?_ _ _ _ | with_reducible refine RowAt.far3 ?_ (by omega) _ _ _ | with_reducible refine RowAt.far6 ?_ (by omega) _ | with_reducible refine at_alloc _ ?_ | with_reducible refine at_drew ?_))
            · exact (by repeat (first | with_reducible assumption | with_reducible exact heap_alloc_new _ _ | (with_reducible refine heap_alloc_at ?_; (simp; done)) | with_reducible refine RowAt.set3z ?_ _ _ _ | with_reducible refine RowAt.far3 ?_ (by omega) _ _ _ | with_reducible refine RowAt.far6 ?_ (by omega) _ | with_reducible refine at_alloc _ ?_ | with_reducible refine at_drew ?_))
            · exact (by repeat (first | with_reducible assumption | with_reducible exact heap_alloc_new _ _ | (with_reducible refine heap_alloc_at ?_; (simp; done)) | with_reducible refine RowAt.set3z ?_ _ _ _ | with_reducible refine RowAt.far3 ?_ (by omega) _ _ _ | with_reducible refine RowAt.far6 ?_ (by omega) _ | with_reducible refine at_alloc _ ?_ | with_reducible refine at_drew ?_))
            · exact (by repeat (first | with_reducible assumption | with_reducible refine FL.In.alloc ?_ _ | with_reducible refine FL.In.drew ?_ | with_reducible refine FL.In.set3z ?_ ?_ _ _ _ | with_reducible exact heap_alloc_new _ _ | (with_reducible refine heap_alloc_at ?_; (simp; done)) | with_reducible refine RowAt.far3 ?_ (by omega) _ _ _ | with_reducible refine at_alloc _ ?_))
            · exact (by repeat (first | with_reducible assumption | with_reducible refine FL.In.alloc ?_ _ | with_reducible refine FL.In.drew ?_ | with_reducible refine FL.In.set3z ?_ ?_ _ _ _ | with_reducible exact heap_alloc_new _ _ | (with_reducible refine heap_alloc_at ?_; (simp; done)) | with_reducible refine RowAt.far3 ?_ (by omega) _ _ _ | with_reducible refine at_alloc _ ?_))
            · exact (by repeat (first | with_reducible assumption | with_reducible refine FL.In.alloc ?_ _ | with_reducible refine FL.In.drew ?_ | with_reducible refine FL.In.set3z ?_ ?_ _ _ _ | with_reducible exact heap_alloc_new _ _ | (with_reducible refine heap_alloc_at ?_; (simp; done)) | with_reducible refine RowAt.far3 ?_ (by omega) _ _ _ | with_reducible refine at_alloc _ ?_))
        case rest =>
          clear hW1 hO1 hA hB hP hb
          obtain ⟨n8, n9, x2, x3, rfl, rfl, l8, l9, hne, HXX, hW, hb, hP, hX, h8, h9, i1, i2, i3⟩ := hcut
          obtain ⟨-, c8, -⟩ := row_facts h8
          obtain ⟨-, cX, -⟩ := row_facts hX
          go_wp2_with fail
          refine Calls.mono (way_quo g _ x2 x1 _ hW i2 i1) ?_
          rintro E V4 ⟨x4, e4, rfl, hW4, hK4, hO4⟩
          have HX4 := Lib.hid e4
          have lg : g + 1 ≤ wc.heap.size := hW.facts.1
          have l8w := RowAt.lt h8
          have l9w := RowAt.lt h9
          have hO4 := hO4.mono' (show max g n8 + 1 ≤ _ by omega)
          have hP := RowAt.kept hP hK4 (by omega)
          have hX := RowAt.kept hX hK4 (by omega)
          have h8 := RowAt.kept h8 hK4 (by omega)
          have h9 := RowAt.kept h9 hK4 (by omega)
          have hb := KeptO.blw hb hK4 (fun i e => by subst e; omega)
          have i1 := hW.fl hK4 i1
          have i3 := hW.fl hK4 i3
          clear e4 hK4 hW c8 cX
          obtain ⟨-, c8, f8⟩ := row_facts h8
          have lV := RowAt.lt h8
          have i1 := RowAt.fl h8 (flA_words x2) (kept_set3 V4 n8 (.bool x4.r.neg) (.slice x4.a x4.r.num.length x4.c) (.slice x4.b x4.r.den.length x4.d)) i1
          have i3 := RowAt.fl h8 (flA_words x2) (kept_set3 V4 n8 (.bool x4.r.neg) (.slice x4.a x4.r.num.length x4.c) (.slice x4.b x4.r.den.length x4.d)) i3
          go_wp2_with fail
          refine name_world (S := fun wx => WayAt wx g (wopF (prodF (normF e1 y.g).2 z.g (y.re.r, (negT y.im.r).1)).2 (quoF x2.r x1.r)).2 ∧ Blw w wx ∧ RowAt wx (w.heap.size + 1 + 1) (glA zG) 36 ∧ RowAt wx V1.heap.size (flA x1) 34 ∧ RowAt wx n8 (flA x4) 34 ∧ RowAt wx n9 (flA x3) 34 ∧ FL.In wx x1 ∧ FL.In wx x3 ∧ OwnFL (max g n8 + 1) wx x4) ⟨WayAt.far3 hW4 (by omega) _ _ _, Blw.set3 hb (by omega) _ _ _, RowAt.far3 hP (by omega) _ _ _, RowAt.far3 hX (by omega) _ _ _, RowAt.set3 h8 _ _ _, RowAt.far3 h9 (by omega) _ _ _, i1, i3, OwnFL.set3 hO4 (by omega) _ _ _⟩ ?_
          clear hW4 hb hP hX h8 h9 i1 i3 hO4 c8 f8
          rintro W5 ⟨hW, hb, hP, hX, h8, h9, i1, i3, hO4⟩
          have hW : WayAt W5.drew g _ := hW
          have hP : RowAt W5.drew _ _ _ := hP
          have hX : RowAt W5.drew _ _ _ := hX
          have h8 : RowAt W5.drew _ _ _ := h8
          have h9 : RowAt W5.drew _ _ _ := h9
          have hb := hb.drew
          have hO4 := hO4.blw (Blw.drew (Blw.refl W5))
          have KQ := Lib.hid (way_quo g _ x3 x1 W5.drew hW (i3.blw (Blw.drew (Blw.refl W5))) (i1.blw (Blw.drew (Blw.refl W5))))
          obtain ⟨-, cX, -⟩ := row_facts hX
          obtain ⟨-, c8, -⟩ := row_facts h8
          obtain ⟨-, c9, -⟩ := row_facts h9
          have q1 : V1.heap.size ≠ w.heap.size + 1 + 1 := by omega
          have q2 : n8 ≠ w.heap.size + 1 + 1 := by omega
          have q3 : n9 ≠ w.heap.size + 1 + 1 := by omega
          have q4 : V1.heap.size ≠ g := by omega
          have q5 : n8 ≠ g := by omega
          have q6 : n9 ≠ g := by omega
          have q7 : w.heap.size + 1 + 1 ≠ g := by omega
          have lg5 : max g n8 + 1 ≤ W5.drew.heap.size := by have := hW.facts.1; have := RowAt.lt h8; omega
          go_region_held3 (fun wx => (∀ i, wx.cell? ⟨V1.heap.size, i, none⟩ = (flA x1)[i]?) ∧ (∀ i, wx.cell? ⟨n8, i, none⟩ = (flA x4)[i]?) ∧ (∀ i, wx.cell? ⟨n9, i, none⟩ = (flA x3)[i]?)) (first | with_reducible exact ⟨cX, c8, c9⟩ | with_reducible exact ⟨cX6, c86, c96⟩ | with_reducible exact ⟨cX7, c87, c97⟩ | with_reducible exact ⟨(row_facts (RowAt.far6 hX7 q1 u)).2.1, (row_facts (RowAt.far6 h87 q2 u)).2.1, (row_facts (RowAt.far6 h97 q3 u)).2.1⟩) (first
            | (go_at_call 147; (with_reducible refine Calls.mono KQ.out ?_); rintro E V6 ⟨x5, e5, rfl, hW6, hK6, hO5⟩; have HX5 := Lib.hid e5; clear e5; have hX6 := RowAt.kept hX hK6 q4; have h86 := RowAt.kept h8 hK6 q5; have h96 := RowAt.kept h9 hK6 q6; have hP6 := RowAt.kept hP hK6 q7; obtain ⟨-, cX6, -⟩ := row_facts hX6; obtain ⟨-, c86, -⟩ := row_facts h86; obtain ⟨-, c96, -⟩ := row_facts h96)
            | (go_at_call 89; (with_reducible refine Calls.mono (wayTold_any g _ x4 x5 _ hW6) ?_); rintro E V7 ⟨u, e7, rfl, hb7, hO7⟩; have HX7 := Lib.hid e7; clear e7; have hX7 := RowAt.blw hX6 hb7; have h87 := RowAt.blw h86 hb7; have h97 := RowAt.blw h96 hb7; have hP7 := RowAt.blw hP6 hb7; obtain ⟨-, cX7, -⟩ := row_facts hX7; obtain ⟨-, c87, -⟩ := row_facts h87; obtain ⟨-, c97, -⟩ := row_facts h97; obtain ⟨-, cP7, fP7⟩ := row_facts hP7))
          have hb6 := (KeptO.blw hb hK6 (fun i e => by subst e; omega)).trans hb7
          have hOu := hO7 (g + 1) (((hO4.kept' hK6 (.inl (by omega))).blw hb7).mono' (by omega)) ((hO5.mono' (show g + 1 ≤ _ by omega)).blw hb7)
          have hPf := RowAt.set6 hP7 u
          have hbf := Blw.set6 (m := w.heap.size + 1 + 1) hb6 (by omega) u
          have hOf := OwnGL.set6 (m := w.heap.size + 1 + 1) hOu (by omega) u
          obtain ⟨V8, hV⟩ : ∃ V8, V8 = set6 V7 (w.heap.size + 1 + 1) u := ⟨_, rfl⟩
          rw [← hV] at hPf hbf hOf
          obtain ⟨p0, p1, p2, p3, p4, p5⟩ := glA_read hPf
          have HV := Lib.hid hV
          clear hP hX h8 h9 hP6 hX6 h86 h96 hP7 hX7 h87 h97 cX c8 c9 cX6 c86 c96 cX7 c87 c97 cP7 hPf hW hW6 hb hK6 hb7 hO4 hO5 hO7 hb6 hOu KQ hV
          go_wp2_with fail
          refine at_world HV.out ?_
          clear HV
          have e2 : R = toldF x4.r x5.r (wopF (wopF (prodF (normF e1 y.g).2 z.g (y.re.r, (negT y.im.r).1)).2 (quoF x2.r x1.r)).2 (quoF x3.r x1.r)).2 := by
            have ea : x2.r = (prodF (normF e1 y.g).2 z.g (y.re.r, (negT y.im.r).1)).1.1 := congrArg Prod.fst HXX.out
            have eb : x3.r = (prodF (normF e1 y.g).2 z.g (y.re.r, (negT y.im.r).1)).1.2 := congrArg Prod.snd HXX.out
            rw [HQ.out, HX5.out, HX4.out, HX1.out, ea, eb]
          refine bodyPost_ret (v := .tuple #[gV u, .int .i64 R.2]) ?_ rfl ⟨u, ?_, rfl, hbf, hOf.mono (by omega)⟩
          · rw [e2]
            simp [results, Try.results100, go_sem, p0, p1, p2, p3, p4, p5]
          · rw [HX7.out, e2]
end Go.Proofs.Ytmeccjlopmjneaa
/- gauss: Int, Neg, walked. -/
namespace Go.Proofs.Ytmeccjlopmjneaa
open Go.RowKit

def gNegF (a : Fr × Fr) : (Fr × Fr) × Int :=
  let x := wopF (chkG a) (negT a.1)
  let y := wopF x.2 (negT a.2)
  toldF x.1 y.1 y.2
theorem smallF_wf (n d : Int) : W.WF (smallF n d).num ∧ W.WF (smallF n d).den := ⟨W.wf_toW _, W.wf_toW _⟩

set_option maxRecDepth 100000 in
set_option maxHeartbeats 2000000 in
theorem gaussInt_any (a b : Int) (w : World) (a0 : -9223372036854775808 ≤ a) (a1 : a ≤ 9223372036854775807) (b0 : -9223372036854775808 ≤ b) (b1 : b ≤ 9223372036854775807) :
    Calls Try.prog 47 #[.int .i64 a, .int .i64 b] w fun E w' => ∃ z : GL, z.g = (smallF a 1, smallF b 1) ∧ E = .returned (gV z) ∧ Blw w w' ∧ OwnGL w.heap.size w' z := by
  have K1 := Lib.hid (fun (wx : World) => ratioSmall_any a 1 wx a0 a1 (by decide) (by decide) (by decide))
  have K2 := Lib.hid (fun (wx : World) => ratioSmall_any b 1 wx b0 b1 (by decide) (by decide) (by decide))
  have w1 := smallF_wf a 1
  have w2 := smallF_wf b 1
  generalize smallF a 1 = R1 at *
  generalize smallF b 1 = R2 at *
  have hP : RowAt (w.alloc (.cells (glA zG) 36 (0, 0))) w.heap.size (glA zG) 36 := heap_alloc_new _ _
  clear a0 a1 b0 b1
  go_enter Try.func47, Try.ntmps47
  go_wp2_with fail
  refine Calls.mono (K1.out _) ?_
  intro E V1 h1
  obtain ⟨x1, e1, rfl, hb1, hO1⟩ := RetFr.fl (R := (R1, 0)) h1 w1
  have HX1 := Lib.hid e1
  have hP := at_alloc (.cells (flA x1) 34 (0, 0)) (RowAt.blw hP hb1)
  have hX : RowAt (V1.alloc (.cells (flA x1) 34 (0, 0))) V1.heap.size (flA x1) 34 := heap_alloc_new _ _
  have hb : Blw w (V1.alloc (.cells (flA x1) 34 (0, 0))) := (Blw.trans (by repeat (first | exact Blw.refl _ | apply Blw.ext | apply Blw.alloc | apply Blw.drewN | apply Blw.drew | refine Blw.setCell ?_ _ _ (by simp))) hb1).alloc _
  have hO1 := (hO1.mono' (show w.heap.size + 1 ≤ _ by simp)).blw ((Blw.refl _).alloc (.cells (flA x1) 34 (0, 0)))
  have lV1 : w.heap.size < V1.heap.size := by have := hb1.size; simp at this; omega
  clear h1 e1 hb1 w1 K1
  go_wp2_with fail
  refine Calls.mono (K2.out _) ?_
  intro E V2 h2
  obtain ⟨x2, e2, rfl, hb2, hO2⟩ := RetFr.fl (R := (R2, 0)) h2 w2
  have HX2 := Lib.hid e2
  have lV2 := RowAt.lt hP
  have hO2 := (hO2.mono' (show w.heap.size + 1 ≤ _ from lV2)).blw ((Blw.refl _).alloc (.cells (flA x2) 34 (0, 0)))
  have hP := at_alloc (.cells (flA x2) 34 (0, 0)) (RowAt.blw hP hb2)
  have hX := at_alloc (.cells (flA x2) 34 (0, 0)) (RowAt.blw hX hb2)
  have hO1 := (hO1.blw hb2).blw ((Blw.refl _).alloc (.cells (flA x2) 34 (0, 0)))
  have hb := (hb.trans hb2).alloc (.cells (flA x2) 34 (0, 0))
  clear h2 e2 hb2 w2 K2
  obtain ⟨lX, cX, -⟩ := row_facts hX
  obtain ⟨lP, cP, fP⟩ := row_facts hP
  have hPf := RowAt.set6 hP ⟨x1, x2⟩
  have hbf := Blw.set6 (m := w.heap.size) hb (Nat.le_refl _) ⟨x1, x2⟩
  have hOf := OwnGL.set6 (m := w.heap.size) (z := ⟨x1, x2⟩) ⟨hO1, hO2⟩ (Nat.lt_succ_self _) ⟨x1, x2⟩
  obtain ⟨V8, hV⟩ : ∃ V8, V8 = set6 (V2.alloc (.cells (flA x2) 34 (0, 0))) w.heap.size ⟨x1, x2⟩ := ⟨_, rfl⟩
  rw [← hV] at hPf hbf hOf
  obtain ⟨p0, p1, p2, p3, p4, p5⟩ := glA_read hPf
  have HV := Lib.hid hV
  clear hP hX hb hO1 hO2 hPf hV
  go_wp2_with fail
  refine at_world HV.out ?_
  clear HV
  refine bodyPost_ret (v := gV ⟨x1, x2⟩) (by simp [results, Try.results47, go_sem, p0, p1, p2, p3, p4, p5]) rfl ⟨⟨x1, x2⟩, ?_, rfl, hbf, hOf.mono (Nat.le_succ _)⟩
  show (x1.r, x2.r) = _
  rw [HX1.out, HX2.out]

set_option maxRecDepth 100000 in
set_option maxHeartbeats 4000000 in
theorem gaussNeg_any (z : GL) (w : World) (hz : GL.In w z) :
    Calls Try.prog 43 #[gV z] w (RetG w (gNegF z.g)) := by
  have hI := Lib.hid hz
  have hA : RowAt ((w.alloc (.cells (glA z) 36 (0, 0))).alloc (.cells (glA zG) 36 (0, 0))) w.heap.size (glA z) 36 := at_alloc _ (heap_alloc_new _ _)
  have hP : RowAt ((w.alloc (.cells (glA z) 36 (0, 0))).alloc (.cells (glA zG) 36 (0, 0))) (w.heap.size + 1) (glA zG) 36 := heap_alloc_at (by simp)
  have hb : Blw w ((w.alloc (.cells (glA z) 36 (0, 0))).alloc (.cells (glA zG) 36 (0, 0))) := (by repeat (first | exact Blw.refl _ | apply Blw.ext | apply Blw.alloc | apply Blw.drewN | apply Blw.drew | refine Blw.setCell ?_ _ _ (by simp)))
  clear hz
  go_enter Try.func43, Try.ntmps43
  go_wp2_with fail
  refine Calls.mono (asked1 _ z _ (Arr.lit_at _ _ _ _ (by simp)) (hI.out.blw (by repeat (first | exact Blw.refl _ | apply Blw.ext | apply Blw.alloc | apply Blw.drewN | apply Blw.drew | refine Blw.setCell ?_ _ _ (by simp))))) ?_
  rintro E V0 ⟨g, hg, rfl, hW, hb0⟩
  have hg : w.heap.size + 3 ≤ g := by simpa using hg
  have bw : Blw ((w.alloc (.cells (glA z) 36 (0, 0))).alloc (.cells (glA zG) 36 (0, 0))) V0 := ((Blw.refl _).alloc _).trans hb0
  have hA := RowAt.blw hA bw
  have hP := RowAt.blw hP bw
  have hb := hb.trans bw
  clear hb0 bw
  obtain ⟨lA, cA, -⟩ := row_facts hA
  go_wp2_with fail
  refine Calls.mono (ratioNeg_any z.re _ (hI.out.re.blw hb)) ?_
  rintro E V1 ⟨y1, e1, rfl, hb1, hO1⟩
  have HY1 := Lib.hid e1
  have lg : g < V0.heap.size := hW.facts.1
  have hO1 := hO1.mono' (show g + 1 ≤ _ from lg)
  have hW := hW.blw hb1
  have hA := RowAt.blw hA hb1
  have hP := RowAt.blw hP hb1
  have hb := hb.trans hb1
  clear e1 hb1 lA cA
  go_wp2_with fail
  refine Calls.mono (wayMade_any (g + 1) g _ _ y1 _ hW hO1 (Nat.lt_succ_self _)) ?_
  rintro E V2 ⟨x1, e2, rfl, hW2, hK2, hO2⟩
  have HX1 := Lib.hid e2
  have hA := RowAt.kept hA hK2 (by omega)
  have hP := RowAt.kept hP hK2 (by omega)
  have hb := KeptO.blw hb hK2 (fun i e => by subst e; omega)
  have lg2 : g < V2.heap.size := hW2.facts.1
  clear e2 hK2 hW hO1
  go_wp2_with fail
  refine name_world (S := fun wx => WayAt wx g (wopF (chkG z.g) (y1.r, (negT z.re.r).2)).2 ∧ Blw w wx ∧ RowAt wx w.heap.size (glA z) 36 ∧ RowAt wx (w.heap.size + 1) (glA zG) 36 ∧ RowAt wx V2.heap.size (flA x1) 34 ∧ OwnFL (g + 1) wx x1) ⟨at_alloc _ hW2, hb.alloc _, at_alloc _ hA, at_alloc _ hP, heap_alloc_new _ _, hO2.blw ((Blw.refl _).alloc _)⟩ ?_
  have n0 : V2.heap.size ≠ g := by omega
  have n1 : V2.heap.size ≠ w.heap.size + 1 := by have := RowAt.lt hP; omega
  clear hW2 hb hA hP hO2
  rintro W1 ⟨hW, hb, hA, hP, hX, hO1⟩
  have hW : WayAt W1.drew g _ := hW
  have hA : RowAt W1.drew _ _ _ := hA
  have hP : RowAt W1.drew _ _ _ := hP
  have hX : RowAt W1.drew _ _ _ := hX
  have hb := hb.drew
  have hO1 := hO1.blw (Blw.drew (Blw.refl W1))
  have K1 := Lib.hid (ratioNeg_any z.im W1.drew (hI.out.im.blw hb))
  obtain ⟨-, cA, -⟩ := row_facts hA
  obtain ⟨-, cX, -⟩ := row_facts hX
  have lg3 : g < W1.drew.heap.size := hW.facts.1
  go_region_held3 (fun wx => (∀ i, wx.cell? ⟨w.heap.size, i, none⟩ = (glA z)[i]?) ∧ (∀ i, wx.cell? ⟨V2.heap.size, i, none⟩ = (flA x1)[i]?)) (first | with_reducible exact ⟨cA, cX⟩ | with_reducible exact ⟨cA2, cX2⟩ | with_reducible exact ⟨cA3, cX3⟩ | with_reducible exact ⟨cA4, cX4⟩ | with_reducible exact ⟨(row_facts (RowAt.far6 hA4 (by omega) u)).2.1, (row_facts (RowAt.far6 hX4 n1 u)).2.1⟩) (first
    | (go_at_call 97; (with_reducible refine Calls.mono K1.out ?_); rintro E V3 ⟨y2, e3, rfl, hb3, hO3⟩; have HY2 := Lib.hid e3; clear e3; have hO3 := hO3.mono' (show g + 1 ≤ _ from lg3); have hW2 := hW.blw hb3; have hA2 := RowAt.blw hA hb3; have hX2 := RowAt.blw hX hb3; have hP2 := RowAt.blw hP hb3; have hO12 := hO1.blw hb3; have hb2 := hb.trans hb3; obtain ⟨-, cA2, -⟩ := row_facts hA2; obtain ⟨-, cX2, -⟩ := row_facts hX2)
    | (go_at_call 96; (with_reducible refine Calls.mono (wayMade_any (g + 1) g _ _ y2 _ hW2 hO3 (Nat.lt_succ_self _)) ?_); rintro E V4 ⟨x2, e4, rfl, hW3, hK3, hO4⟩; have HX2 := Lib.hid e4; clear e4; have hA3 := RowAt.kept hA2 hK3 (by omega); have hX3 := RowAt.kept hX2 hK3 n0; have hP3 := RowAt.kept hP2 hK3 (by omega); have hO13 := hO12.kept' hK3 (.inl (Nat.lt_succ_self _)); have hb3 := KeptO.blw hb2 hK3 (fun i e => by subst e; omega); obtain ⟨-, cA3, -⟩ := row_facts hA3; obtain ⟨-, cX3, -⟩ := row_facts hX3)
    | (go_at_call 89; (with_reducible refine Calls.mono (wayTold_any g _ x1 x2 _ hW3) ?_); rintro E V5 ⟨u, e5, rfl, hb5, hO5⟩; have HX5 := Lib.hid e5; clear e5; have hA4 := RowAt.blw hA3 hb5; have hX4 := RowAt.blw hX3 hb5; have hP4 := RowAt.blw hP3 hb5; obtain ⟨-, cA4, -⟩ := row_facts hA4; obtain ⟨-, cX4, -⟩ := row_facts hX4; obtain ⟨-, cP4, fP4⟩ := row_facts hP4))
  have hOu := hO5 (g + 1) (hO13.blw hb5) (hO4.blw hb5)
  have hPf := RowAt.set6 hP4 u
  have hbf := Blw.set6 (m := w.heap.size + 1) (hb3.trans hb5) (by omega) u
  have hOf := OwnGL.set6 (m := w.heap.size + 1) hOu (by omega) u
  obtain ⟨V8, hV⟩ : ∃ V8, V8 = set6 V5 (w.heap.size + 1) u := ⟨_, rfl⟩
  rw [← hV] at hPf hbf hOf
  obtain ⟨p0, p1, p2, p3, p4, p5⟩ := glA_read hPf
  have HV := Lib.hid hV
  have eg : gNegF z.g = toldF x1.r x2.r (wopF (wopF (chkG z.g) (y1.r, (negT z.re.r).2)).2 (y2.r, (negT z.im.r).2)).2 := by
    rw [HX2.out, HX1.out, HY1.out, HY2.out]; rfl
  have EG := Lib.hid eg
  clear eg hP hA hX hP2 hA2 hX2 hP3 hA3 hX3 hP4 hA4 hX4 cA cX cA2 cX2 cA3 cX3 cA4 cX4 cP4 hPf hW hW2 hW3 hb hb2 hb3 hK3 hb5 hO1 hO3 hO12 hO13 hO4 hO5 hOu K1 hV
  go_wp2_with fail
  refine at_world HV.out ?_
  clear HV
  refine bodyPost_ret (v := .tuple #[gV u, .int .i64 (gNegF z.g).2]) ?_ rfl ⟨u, ?_, rfl, hbf, hOf.mono (by omega)⟩
  · rw [EG.out]
    simp [results, Try.results43, go_sem, p0, p1, p2, p3, p4, p5]
  · rw [HX5.out, EG.out]
end Go.Proofs.Ytmeccjlopmjneaa
