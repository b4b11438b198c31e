/- Several texts, joined. -/
import Derived.Test.YtigkfdoeneemeaaJ1
import Derived.WalkKit
import Derived.WalkLawsBesides
import Derived.Deep.Draws
import Derived.Test.YtigkfdoeneemeaaProg
import Derived.Laws.Externs
import Derived.Test.YtigkfdoeneemeaaJ0
import Derived.ProofKit
import Derived.OpenShut
set_option linter.unusedVariables false
set_option linter.unusedSimpArgs false
/- slackwaterkit: words and fractions that are lent, walked. -/
namespace Go.Proofs.Ytigkfdoeneemeaa
open Go.RowKit

/-- What stands behind words that are lent. -/
def mkW : List Nat := [2882343476, 2882343477, 2882343478]
theorem mkW_at (k : Nat) (h : k < 3) : mkW[k]? = some (2882343476 + k) ∧ u32s (mkW.take (k + 1)) = u32s (mkW.take k) ++ [.int .u32 ((2882343476 + k : Nat) : Int)] := by
  have : k = 0 ∨ k = 1 ∨ k = 2 := by omega
  rcases this with rfl | rfl | rfl <;> exact ⟨rfl, rfl⟩

set_option maxHeartbeats 400000 in
theorem copyWords_any (a : Option Addr) (l : List Nat) (cap : Nat) (w : World) (h : Arr w a (u32s l)) (hn : a = none → cap = 0) (hl : l.length ≤ 1099511627776) :
    Calls Try.prog 161 #[.slice a l.length cap] w (RetOwn w 135 1 l.length (u32s l)) := by
  have hown : (w.alloc (.cells #[] 135)).ownsRow w.heap.size 135 1 (.slice (some ⟨w.heap.size, 0, none⟩) 0 0) 0 [] := World.ownsRow_made w #[] 0 (Nat.le_refl _) (Nat.zero_le _) rfl
  go_enter Try.func161, Try.ntmps161
  go_wp2_with (at_builtin; refine wpList_app w _ rfl _ _ 86 rfl sl_words ((Blw.refl w).alloc _) _ 0 [] rfl hown a l.length cap (u32s l) rfl hn (h.alloc _) (by simp) (u32s_one _) (by unfold maxLen; omega) (by omega) ?_; intro v' w1 hown1 hb1 _ _)
  go_ret
  exact RetOwn.of (by simpa using hown1) hb1

set_option maxHeartbeats 800000 in
theorem lentWords_any (a : Option Addr) (l : List Nat) (cap : Nat) (w : World) (h : Arr w a (u32s l)) (hn : a = none → cap = 0) (hl : l.length ≤ 1099511627776) :
    Calls Try.prog 149 #[.slice a l.length cap] w (RetOwn w 135 1 (l.length + 3) (u32s (l ++ mkW))) := by
  go_enter Try.func149, Try.ntmps149
  go_wp2_with (go_at_call 161; refine (copyWords_any a l cap _ h hn hl).mono ?_; rintro e w' ⟨a1, c1, x1, rfl, rfl, hown1, -, -⟩)
  go_loopw [3, 4] (fun v i wr => ∃ k : Nat, k ≤ 3 ∧ i = .int .i64 k ∧ wr.ownsRow w.heap.size 135 1 v (l.length + k) (u32s l ++ u32s (mkW.take k)) ∧ Blw w wr) (fun _ i _ => 3 - (intOf i).toNat)
  case atStart => exact ⟨0, by omega, rfl, by simpa using hown1, (Blw.refl w).ext x1⟩
  case round =>
    obtain ⟨k, hk, rfl, hown, hb⟩ := hrel
    clear hown1
    by_cases hlt : k < 3
    · obtain ⟨hf, hf2⟩ := mkW_at k hlt
      have e1 : ((2882343476 : Int) + (k : Int)) % 4294967296 = ((2882343476 + k : Nat) : Int) := by omega
      have e2 : ((k : Int) % 4294967296) = (k : Int) := by omega
      have HF2 := Lib.hid hf2
      clear hf hf2
      go_wp2_with (at_builtin; refine wpList_app w _ rfl _ _ 86 rfl sl_words (hb.alloc _) _ (l.length + k) _ rfl (ownsRow_blw hown ((Blw.refl _).alloc _)) _ 1 1 [.int .u32 ((2882343476 + k : Nat) : Int)] rfl (by simp) (Arr.lit _ _ _ _) (by simp) (by simp [Value.oneCell']) (by unfold maxLen; omega) (by omega) ?_; intro v' w1 hown1 hb1 _ _)
      go_roundw
      case rel => exact ⟨k + 1, by omega, by go_num, by
        rw [HF2.out, ← List.append_assoc]; exact hown1, hb1⟩
      case measure => simp [intOf]; omega
    · have hk3 : k = 3 := by omega
      subst hk3
      go_wp2_with fail
      go_ret
      refine RetOwn.of ?_ hb
      have e : u32s (l ++ mkW) = u32s l ++ u32s (mkW.take 3) := List.map_append (l₁ := l) (l₂ := mkW)
      rw [e]; exact hown

set_option maxHeartbeats 400000 in
theorem keptWords_any (a b : Option Addr) (l : List Nat) (c d : Nat) (w : World) (ha : Arr w a (u32s (l ++ mkW))) (hb : Arr w b (u32s l)) (hn : b = none → d = 0) (hl : l.length ≤ 1000000000) :
    Calls Try.prog 150 #[.slice a (l.length + 3) c, .slice b l.length d] w fun e w' => e = .returned (.bool true) ∧ ∃ x, w' = w.ext x := by
  have H1 := Lib.hid (lentWords_any b l d w hb hn (by omega))
  have hlen : (l ++ mkW).length = l.length + 3 := by simp [mkW]
  have H2 := fun (W : World) (hW : Blw w W) (a3 : Option Addr) (c3 : Nat) (h3 : Arr W a3 (u32s (l ++ mkW))) => sameWords_any a a3 (l ++ mkW) (l ++ mkW) c c3 W (ha.blw hW) h3 (by omega) (by omega)
  rw [hlen] at H2
  have hbe : ((l ++ mkW) == (l ++ mkW)) = true := by simp
  rw [hbe] at H2
  have HH2 := Lib.hid H2
  clear H2 hbe
  go_enter Try.func150, Try.ntmps150
  go_wp2_with fail
  refine Calls.mono H1.out ?_
  rintro e w1 ⟨a3, c3, x3, rfl, rfl, r1, r2, r3⟩
  go_wp2_with fail
  refine Calls.mono (HH2.out _ (World.blw_ext _ _) a3 c3 r2) ?_
  rintro e w2 ⟨rfl, x2, rfl⟩
  go_wp2
  go_ret
  exact ⟨rfl, Blw.is (by repeat (first | exact Blw.refl _ | apply Blw.ext | apply Blw.alloc | apply Blw.drewN | apply Blw.drew | refine Blw.setCell ?_ _ _ (by simp)))⟩

/-- A fraction that is lent: its words have room behind them. -/
def LentFL (B : Nat) (w : World) (x : FL) : Prop :=
  w.ownsRow B 135 1 (.slice x.a (x.r.num.length + 3) x.c) (x.r.num.length + 3) (u32s (x.r.num ++ mkW)) ∧ w.ownsRow B 135 1 (.slice x.b (x.r.den.length + 3) x.d) (x.r.den.length + 3) (u32s (x.r.den ++ mkW)) ∧ W.WF x.r.num ∧ W.WF x.r.den
theorem LentFL.blw {B : Nat} {w w' : World} {x : FL} (h : LentFL B w x) (k : Blw w w') : LentFL B w' x := ⟨ownsRow_blw h.1 k, ownsRow_blw h.2.1 k, h.2.2.1, h.2.2.2⟩
theorem LentFL.mono {B B' : Nat} {w : World} {x : FL} (h : LentFL B w x) (k : B' ≤ B) : LentFL B' w x := ⟨ownsRow_mono h.1 k, ownsRow_mono h.2.1 k, h.2.2.1, h.2.2.2⟩
theorem LentFL.past {B B2 n2 size2 : Nat} {e2 : TypeId} {w w' : World} {v2 : Value} {cs2 : List Value} {x : FL} (h : LentFL B w x) (k : w.ownsRow B2 e2 size2 v2 n2 cs2) (hne : (135 : TypeId) ≠ e2) (hg : w.grownBy w' v2.ownBlock) : LentFL B w' x :=
  ⟨own_past h.1 (Blw.refl w) hg (fun i hi => own_types h.1 k hne i hi), own_past h.2.1 (Blw.refl w) hg (fun i hi => own_types h.2.1 k hne i hi), h.2.2.1, h.2.2.2⟩
theorem LentFL.arrs {B : Nat} {w : World} {x : FL} (h : LentFL B w x) : Arr w x.a (u32s (x.r.num ++ mkW)) ∧ Arr w x.b (u32s (x.r.den ++ mkW)) ∧ x.r.num.length + 3 ≤ x.c ∧ x.r.den.length + 3 ≤ x.d ∧ x.c ≤ 9223372036854775807 ∧ x.d ≤ 9223372036854775807 ∧ ¬ x.a = none ∧ ¬ x.b = none := by
  obtain ⟨h1, h2, -, -⟩ := h
  obtain ⟨_, _, e, k1, k2, k3, k4, k5⟩ := own_arr h1
  cases e
  obtain ⟨_, _, e, j1, j2, j3, j4, j5⟩ := own_arr h2
  cases e
  exact ⟨k1, j1, k3, j3, k4, j4, fun e => by have := (k5 e).1; omega, fun e => by have := (j5 e).1; omega⟩
theorem LentFL.in {B : Nat} {w : World} {x : FL} (h : LentFL B w x) : FL.In w x := by
  obtain ⟨k1, j1, k3, j3, k4, j4, n1, n2⟩ := h.arrs
  exact ⟨arr_pre k1 (List.prefix_append _ _), arr_pre j1 (List.prefix_append _ _), by omega, k4, by omega, j4, fun e => absurd e n1, fun e => absurd e n2, h.2.2.1, h.2.2.2⟩

set_option maxRecDepth 100000 in
set_option maxHeartbeats 4000000 in
theorem lentRatio_any (r : Fr) (a : Option Addr) (c : Nat) (b : Option Addr) (d : Nat) (w : World) (h : FrA w r a c b d) (ln : r.num.length ≤ 1000000) (ld : r.den.length ≤ 1000000) :
    Calls Try.prog 120 #[frV r a c b d] w fun e w' => ∃ (a2 : Option Addr) (c2 : Nat) (b2 : Option Addr) (d2 : Nat), e = .returned (frV r a2 c2 b2 d2) ∧ Blw w w' ∧ LentFL w.heap.size w' ⟨r, a2, c2, b2, d2⟩ := by
  have wn := h.wn
  have wd := h.wd
  obtain ⟨S, hS⟩ : ∃ S : World → Prop, S = fun W => w.heap.size + 1 < W.heap.size ∧ Blw w W ∧ W.cell? ⟨w.heap.size, 0, none⟩ = some (.bool r.neg) ∧ W.cell? ⟨w.heap.size, 1, none⟩ = some (.slice a r.num.length c) ∧ W.cell? ⟨w.heap.size, 2, none⟩ = some (.slice b r.den.length d) := ⟨_, rfl⟩
  have KS : ∀ W W' : World, S W → Blw W W' → S W' := by
    subst hS
    rintro W W' ⟨h1, h2, h3, h4, h5⟩ hb
    exact ⟨Nat.lt_of_lt_of_le h1 hb.size, h2.trans hb, (Below.cell hb (by show w.heap.size < _; omega)).trans h3, (Below.cell hb (by show w.heap.size < _; omega)).trans h4, (Below.cell hb (by show w.heap.size < _; omega)).trans h5⟩
  have KR : ∀ W W' : World, W.heap[w.heap.size + 1]? = some (.cells #[.bool false, .slice none 0 0, .slice none 0 0] 88 (0, 0)) → Blw W W' → W'.heap[w.heap.size + 1]? = some (.cells #[.bool false, .slice none 0 0, .slice none 0 0] 88 (0, 0)) :=
    fun W W' hF hb => (KeptO.of_blw (O := fun _ => False) hb).heap hF id
  have RR : ∀ W : World, W.heap[w.heap.size + 1]? = some (.cells #[.bool false, .slice none 0 0, .slice none 0 0] 88 (0, 0)) → (∀ i, W.frozen? ⟨w.heap.size + 1, i, none⟩ = false) ∧ W.cell? ⟨w.heap.size + 1, 0, none⟩ = some (.bool false) ∧ W.cell? ⟨w.heap.size + 1, 1, none⟩ = some (.slice none 0 0) ∧ W.cell? ⟨w.heap.size + 1, 2, none⟩ = some (.slice none 0 0) :=
    fun W hF => ⟨fun i => frozen_of_row W _ i _ _ hF, (cell_of_row W _ 0 _ _ _ hF).trans rfl, (cell_of_row W _ 1 _ _ _ hF).trans rfl, (cell_of_row W _ 2 _ _ _ hF).trans rfl⟩
  have SB : ∀ W : World, S W → Blw w W := by
    subst hS
    rintro W ⟨h1, h2, -⟩; exact h2
  have T1 := fun (W : World) (hb : S W) => lentWords_any a r.num c W (h.an.blw (SB W hb)) (fun e => (h.na e).2) (by omega)
  have T2 := fun (W : World) (hb : S W) => lentWords_any b r.den d W (h.ad.blw (SB W hb)) (fun e => (h.nb e).2) (by omega)
  have HT1 := Lib.hid T1
  have HT2 := Lib.hid T2
  have HKS := Lib.hid KS
  have HSB := Lib.hid SB
  have HKR := Lib.hid KR
  have HRR := Lib.hid RR
  obtain ⟨rn, rnum, rden⟩ := r
  simp only at hS HT1 HT2 ln ld wn wd
  clear T1 T2 KS KR RR SB h
  go_enter Try.func120, Try.ntmps120
  go_wp2_with fail
  have hS0 : S ((w.alloc (.cells #[.bool rn, .slice a rnum.length c, .slice b rden.length d] 88 (0, 0))).alloc (.cells #[.bool false, .slice none 0 0, .slice none 0 0] 88 (0, 0))).drew := by
    rw [hS]
    exact ⟨by simp, (by repeat (first | exact Blw.refl _ | apply Blw.ext | apply Blw.alloc | apply Blw.drewN | apply Blw.drew | refine Blw.setCell ?_ _ _ (by simp))), by go_simp, by go_simp, by go_simp⟩
  have hR0 : ((w.alloc (.cells #[.bool rn, .slice a rnum.length c, .slice b rden.length d] 88 (0, 0))).alloc (.cells #[.bool false, .slice none 0 0, .slice none 0 0] 88 (0, 0))).drew.heap[w.heap.size + 1]? = some (.cells #[.bool false, .slice none 0 0, .slice none 0 0] 88 (0, 0)) := by
    have := heap_alloc_new (w.alloc (.cells #[.bool rn, .slice a rnum.length c, .slice b rden.length d] 88 (0, 0))) (.cells #[.bool false, .slice none 0 0, .slice none 0 0] 88 (0, 0))
    rw [show (w.alloc (.cells #[.bool rn, .slice a rnum.length c, .slice b rden.length d] 88 (0, 0))).heap.size = w.heap.size + 1 by simp] at this
    exact this
  have hsz : w.heap.size + 2 ≤ ((w.alloc (.cells #[.bool rn, .slice a rnum.length c, .slice b rden.length d] 88 (0, 0))).alloc (.cells #[.bool false, .slice none 0 0, .slice none 0 0] 88 (0, 0))).drew.heap.size := by simp
  subst hS
  go_region_held3 (fun W => w.heap.size + 1 < W.heap.size ∧ Blw w W ∧ W.cell? ⟨w.heap.size, 0, none⟩ = some (.bool rn) ∧ W.cell? ⟨w.heap.size, 1, none⟩ = some (.slice a rnum.length c) ∧ W.cell? ⟨w.heap.size, 2, none⟩ = some (.slice b rden.length d)) (first | assumption | (refine ⟨?_, blw_three (HSB.out _ (by assumption)) (Nat.le_succ _) _ _ _, ?_, ?_, ?_⟩ <;> go_keep) | go_keep) (first
    | (go_at_call 149; (with_reducible refine Calls.mono (HT1.out _ (by assumption)) ?_); rintro e w9 ⟨p1, q1, y1, rfl, rfl, o1, -, -⟩; have hc1 := own_cap o1; have hc1i : (rnum.length : Int) ≤ (q1 : Int) := (by omega); have hS1 := HKS.out _ _ (by assumption) (World.blw_ext _ y1); have hR1 := HKR.out _ _ (by assumption) (World.blw_ext _ y1); have hRR := HRR.out _ hR1)
    | (go_at_call 149; (with_reducible refine Calls.mono (HT2.out _ (by assumption)) ?_); rintro e w9 ⟨p2, q2, y2, rfl, rfl, o2, -, -⟩; have hc2 := own_cap o2; have hc2i : (rden.length : Int) ≤ (q2 : Int) := (by omega); have hS2 := HKS.out _ _ (by assumption) (World.blw_ext _ y2); have hR2 := HKR.out _ _ (by assumption) (World.blw_ext _ y2); have hRR2 := HRR.out _ hR2))
  clear HT1 HT2 HKS HKR HRR hS0 hR0 hS1 hS2 hRR hRR2
  obtain ⟨hfz, e0, e1, e2, r0, r1, r2⟩ := three hR2 (.bool rn) (.slice p1 rnum.length q1) (.slice p2 rden.length q2)
  have oF := ownsRow_mono (ownsRow_blw o1 (World.blw_ext _ y2)) hsz
  have oS := ownsRow_mono o2 (Nat.le_trans hsz (World.le_ext _ y1))
  go_wp2_with fail
  refine bodyPost_ret (v := .agg #[.bool rn, .slice p1 rnum.length q1, .slice p2 rden.length q2]) (by simp [results, Try.results120, go_sem, r0, r1, r2]) rfl ?_
  exact ⟨p1, q1, p2, q2, rfl, blw_three (by repeat (first | exact Blw.refl _ | apply Blw.ext | apply Blw.alloc | apply Blw.drewN | apply Blw.drew | refine Blw.setCell ?_ _ _ (by simp))) (Nat.le_succ _) _ _ _, own_three oF (Nat.lt_succ_self _) _ _ _ |> (ownsRow_mono · (by omega)), own_three oS (Nat.lt_succ_self _) _ _ _ |> (ownsRow_mono · (by omega)), wn, wd⟩

set_option maxRecDepth 100000 in
set_option maxHeartbeats 4000000 in
theorem keptRatio_any (B : Nat) (x : FL) (a : Option Addr) (c : Nat) (b : Option Addr) (d : Nat) (w : World) (hx : LentFL B w x) (h : FrA w x.r a c b d) (ln : x.r.num.length ≤ 1000000) (ld : x.r.den.length ≤ 1000000) :
    Calls Try.prog 125 #[frV x.r x.a x.c x.b x.d, frV x.r a c b d] w fun e w' => e = .returned (.bool true) ∧ ∃ z, w' = w.ext z := by
  obtain ⟨k1, j1, k3, j3, -, -, -, -⟩ := hx.arrs
  have H1 := Lib.hid (fun (W : World) (hW : Blw w W) => keptWords_any x.a a x.r.num x.c c W (k1.blw hW) (h.an.blw hW) (fun e => (h.na e).2) (by omega))
  have H2 := Lib.hid (fun (W : World) (hW : Blw w W) => keptWords_any x.b b x.r.den x.d d W (j1.blw hW) (h.ad.blw hW) (fun e => (h.nb e).2) (by omega))
  clear hx h k1 j1
  obtain ⟨⟨rn, rnum, rden⟩, xa, xc, xb, xd⟩ := x
  simp only at H1 H2 k3 j3 ln ld
  have i1 : (rnum.length : Int) + 3 ≤ (xc : Int) := by omega
  have i2 : (rden.length : Int) + 3 ≤ (xd : Int) := by omega
  have i3 : IntKind.i64.wrap ((rnum.length : Int) + 3) = (rnum.length : Int) + 3 := by rw [IntKind.wrap_i64]; omega
  have i4 : IntKind.i64.wrap ((rden.length : Int) + 3) = (rden.length : Int) + 3 := by rw [IntKind.wrap_i64]; omega
  have i5 : ((rnum.length : Int) + 3).toNat = rnum.length + 3 := by omega
  have i6 : ((rden.length : Int) + 3).toNat = rden.length + 3 := by omega
  have i7 : (0 : Int) ≤ (rnum.length : Int) + 3 := by omega
  have i8 : (0 : Int) ≤ (rden.length : Int) + 3 := by omega
  cases rn
  all_goals
    go_enter Try.func125, Try.ntmps125
    go_wp2_with fail
    refine wp_region_ext_lit (by kernel_rfl) (by kernel_rfl) ?_
    repeat (quiet_step ((go_at_call 150; first | (with_reducible exact Calls.ext_of (H1.out _ (by repeat (first | exact Blw.refl _ | apply Blw.ext | apply Blw.alloc | apply Blw.drewN | apply Blw.drew | refine Blw.setCell ?_ _ _ (by simp))))) | (with_reducible exact Calls.ext_of (H2.out _ (by repeat (first | exact Blw.refl _ | apply Blw.ext | apply Blw.alloc | apply Blw.drewN | apply Blw.drew | refine Blw.setCell ?_ _ _ (by simp))))))))
    refine wpQuiet_nil ?_
    rintro _ ⟨z, rfl⟩
    go_wp2
    go_ret
    exact ⟨rfl, Blw.is (by repeat (first | exact Blw.refl _ | apply Blw.ext | apply Blw.alloc | apply Blw.drewN | apply Blw.drew | refine Blw.setCell ?_ _ _ (by simp)))⟩
end Go.Proofs.Ytigkfdoeneemeaa
/- slackwaterkit: waters that are lent, walked. -/
namespace Go.Proofs.Ytigkfdoeneemeaa
open Go.RowKit

/-- What stands behind waters that are lent. -/
def wSp (k : Nat) : List WL := List.replicate k ⟨-7, 0, false, fl0⟩
theorem wls_app (l m : List WL) : wls (l ++ m) = wls l ++ wls m := List.flatMap_append
theorem wSp_cells (k : Nat) : wls (wSp (k + 1)) = wls (wSp k) ++ [.int .i64 (-7), .int .i64 0, .bool false, .bool false, .slice none 0 0, .slice none 0 0] := by
  unfold wSp
  rw [List.replicate_succ', wls, List.flatMap_append]; rfl

set_option maxRecDepth 100000 in
set_option maxHeartbeats 8000000 in
theorem lentWaters_any (A : Option Addr) (l : List WL) (cap : Nat) (w : World) (hA : Arr w A (wls l)) (hin : ∀ x ∈ l, FL.In w x.h) (hl : l.length ≤ 100000) (hs : ∀ x ∈ l, x.h.r.num.length ≤ 1000000 ∧ x.h.r.den.length ≤ 1000000) :
    Calls Try.prog 66 #[.slice A l.length cap] w fun e w' => ∃ (ls : List WL) (a : Option Addr) (c : Nat), e = .returned (.slice a (l.length + 3) c) ∧ Blw w w' ∧ w'.ownsRow w.heap.size 90 6 (.slice a (l.length + 3) c) (l.length + 3) (wls (ls ++ wSp 3)) ∧ ls.map WL.key = l.map WL.key ∧ ∀ x ∈ ls, LentFL w.heap.size w' x.h := by
  have HIN := Lib.hid hin
  have HS := Lib.hid hs
  clear hin hs
  go_enter Try.func66, Try.ntmps66
  go_wp2_with fail
  go_loopw [3, 4] (fun v i wr => ∃ (k : Nat) (ls : List WL), k ≤ l.length ∧ i = .int .i64 k ∧ wr.ownsRow w.heap.size 90 6 v k (wls ls) ∧ Blw w wr ∧ Hid (ls.map WL.key = (l.take k).map WL.key) ∧ Hid (∀ x ∈ ls, LentFL w.heap.size wr x.h)) (fun _ i _ => l.length - (intOf i).toNat)
  case atStart => exact ⟨0, [], Nat.zero_le _, rfl, World.ownsRow_nil _ _ _ _, Blw.refl w, rfl, fun x hx => by simp at hx⟩
  case round =>
    obtain ⟨k, ls, hk, rfl, hown, hb, hkey, hll⟩ := hrel
    by_cases hlt : k < l.length
    · obtain ⟨x, b, o, hgx, hmx, rfl, hbs, c0, c1, c2, c3, c4, c5⟩ := wl_at hA hlt
      have hxin := HIN.out x hmx
      obtain ⟨lnx, ldx⟩ := HS.out x hmx
      obtain ⟨xt, xl, xp, ⟨⟨rn, rnum, rden⟩, ra, rc, rb, rd⟩⟩ := x
      simp only at c0 c1 c2 c3 c4 c5 lnx ldx hxin
      obtain ⟨S, hS⟩ : ∃ S : World → Prop, S = fun W => b < W.heap.size ∧ Blw w W ∧ W.cell? ⟨b, o + k * 6, none⟩ = some (.int .i64 xt) ∧ W.cell? ⟨b, o + k * 6 + 1, none⟩ = some (.int .i64 xl) ∧ W.cell? ⟨b, o + k * 6 + 2, none⟩ = some (.bool xp) ∧ W.cell? ⟨b, o + k * 6 + 3, none⟩ = some (.bool rn) ∧ W.cell? ⟨b, o + k * 6 + 4, none⟩ = some (.slice ra rnum.length rc) ∧ W.cell? ⟨b, o + k * 6 + 5, none⟩ = some (.slice rb rden.length rd) := ⟨_, rfl⟩
      have KS : ∀ W W' : World, S W → Blw W W' → S W' := by
        subst hS
        rintro W W' ⟨h1, h2, d0, d1, d2, d3, d4, d5⟩ hW
        exact ⟨Nat.lt_of_lt_of_le h1 hW.size, h2.trans hW, (Below.cell hW h1).trans d0, (Below.cell hW h1).trans d1, (Below.cell hW h1).trans d2, (Below.cell hW h1).trans d3, (Below.cell hW h1).trans d4, (Below.cell hW h1).trans d5⟩
      have SB : ∀ W : World, S W → Blw w W := by
        subst hS
        rintro W ⟨h1, h2, -⟩; exact h2
      have HLR := Lib.hid (fun (W : World) (hW : S W) => lentRatio_any ⟨rn, rnum, rden⟩ ra rc rb rd W (FrA.blw hxin (SB W hW)) lnx ldx)
      have hS0 : S w := by rw [hS]; exact ⟨hbs, Blw.refl w, c0, c1, c2, c3, c4, c5⟩
      have hSd := KS _ _ hS0 hb.drew
      have HGX := Lib.hid hgx
      have HWX := Lib.hid (And.intro (FrA.wn hxin) (FrA.wd hxin))
      have HKS := Lib.hid KS
      have HSB := Lib.hid SB
      clear hxin hgx hmx lnx ldx KS SB c0 c1 c2 c3 c4 c5
      have hk1 : k ≤ 100000 := by omega
      have HCL := Lib.hid (cells_len WL.cells 6 (fun _ => rfl) ls)
      go_wp2_with fail
      subst hS
      go_region_held3 (fun W => b < W.heap.size ∧ Blw w W ∧ W.cell? ⟨b, o + k * 6, none⟩ = some (.int .i64 xt) ∧ W.cell? ⟨b, o + k * 6 + 1, none⟩ = some (.int .i64 xl) ∧ W.cell? ⟨b, o + k * 6 + 2, none⟩ = some (.bool xp) ∧ W.cell? ⟨b, o + k * 6 + 3, none⟩ = some (.bool rn) ∧ W.cell? ⟨b, o + k * 6 + 4, none⟩ = some (.slice ra rnum.length rc) ∧ W.cell? ⟨b, o + k * 6 + 5, none⟩ = some (.slice rb rden.length rd)) (first | assumption | (exact HKS.out _ _ (by assumption) ((Blw.refl _).alloc _))) (first
        | (go_at_call 120; (with_reducible refine Calls.mono (HLR.out _ (by assumption)) ?_); rintro e w9 ⟨p1, q1, p2, q2, rfl, b9, L9⟩; have hS1 := HKS.out _ _ (by assumption) b9)
        | (refine step_app w _ (by rfl) _ _ 84 (by rfl) sl_waters ?_ _ k (wls ls) (by rfl) (ownsRow_blw hown ?_) _ 1 1 [.int .i64 xt, .int .i64 xl, .bool xp, .bool rn, .slice p1 rnum.length q1, .slice p2 rden.length q2] (by rfl) (by simp) (Arr.lit_at _ _ _ _ rfl) (by simp) (by simp [Value.oneCell']) (by unfold maxLen; omega) (by omega) ?_
           · exact (HSB.out _ hS1).alloc _
           · exact ((Blw.refl wr).drew.trans b9).alloc _
           intro v7 w7 hown7 hb7 hg7 _
           have hS7 := HKS.out _ _ hS0 hb7))
      have HKY : Hid ((ls ++ [(⟨xt, xl, xp, ⟨⟨rn, rnum, rden⟩, p1, q1, p2, q2⟩⟩ : WL)]).map WL.key = (l.take (k + 1)).map WL.key) := by
        show _ = _
        rw [List.map_append, hkey.out, List.take_add_one, HGX.out]
        simp [WL.key]
      have HO : Hid (∀ x ∈ ls ++ [(⟨xt, xl, xp, ⟨⟨rn, rnum, rden⟩, p1, q1, p2, q2⟩⟩ : WL)], LentFL w.heap.size w7 x.h) := by
        intro x hx
        rw [List.mem_append, List.mem_singleton] at hx
        have hB9 := ((Blw.refl wr).drew.trans b9)
        rcases hx with hx | rfl
        · exact LentFL.past ((hll.out x hx).blw (hB9.alloc _)) (ownsRow_blw hown (hB9.alloc _)) (by decide) hg7
        · exact LentFL.past (LentFL.blw (LentFL.mono L9 hb.size) ((Blw.refl w9).alloc _)) (ownsRow_blw hown (hB9.alloc _)) (by decide) hg7
      have HOL : Hid (w7.ownsRow w.heap.size 90 6 v7 (k + 1) (wls (ls ++ [(⟨xt, xl, xp, ⟨⟨rn, rnum, rden⟩, p1, q1, p2, q2⟩⟩ : WL)]))) := by
        have e : wls (ls ++ [(⟨xt, xl, xp, ⟨⟨rn, rnum, rden⟩, p1, q1, p2, q2⟩⟩ : WL)]) = wls ls ++ [.int .i64 xt, .int .i64 xl, .bool xp, .bool rn, .slice p1 rnum.length q1, .slice p2 rden.length q2] := by
          rw [wls, List.flatMap_append]; rfl
        show World.ownsRow _ _ _ _ _ _ _
        rw [e]
        exact hown7
      clear hown7 hg7 hS7 hS1 hS0 hSd HSB HKS HLR L9 b9 hown hll hkey
      go_wp2
      go_roundw
      case rel => exact ⟨k + 1, _, by omega, by go_num, HOL.out, hb7, HKY, HO⟩
      case measure => simp [intOf]; omega
    · have hkl : k = l.length := by omega
      subst hkl
      have hlen : ls.length = l.length := by
        have := congrArg List.length hkey.out
        simpa using this
      have HKY : Hid (ls.map WL.key = l.map WL.key) := by
        show _ = _
        rw [hkey.out, List.take_length]
      have HLEN := Lib.hid hlen
      clear hkey hlen hA
      go_wp2_with fail
      go_loopw [3, 5] (fun v i wx => ∃ k : Nat, k ≤ 3 ∧ i = .int .i64 k ∧ wx.ownsRow w.heap.size 90 6 v (l.length + k) (wls (ls ++ wSp k)) ∧ Blw w wx ∧ Hid (∀ x ∈ ls, LentFL w.heap.size wx x.h)) (fun _ i _ => 3 - (intOf i).toNat)
      case atStart => exact ⟨0, by omega, rfl, by simpa [wSp] using hown, hb, hll⟩
      case round =>
        obtain ⟨k, hk3, rfl, hown2, hb2, hll2⟩ := hrel
        by_cases hlt2 : k < 3
        · have HCL := Lib.hid (cells_len WL.cells 6 (fun _ => rfl) ls)
          have k3 : l.length + k + 1 ≤ 100010 := by omega
          go_wp2_with (at_builtin; refine wpList_app w _ rfl _ _ 84 rfl sl_waters (hb2.alloc _) _ (l.length + k) _ rfl (ownsRow_blw hown2 ((Blw.refl _).alloc _)) _ 1 1 [.int .i64 (-7), .int .i64 0, .bool false, .bool false, .slice none 0 0, .slice none 0 0] rfl (by simp) (Arr.lit _ _ _ _) (by simp) (by simp [Value.oneCell']) (by unfold maxLen; omega) (by omega) ?_; intro v7 w7 hown7 hb7 hg7 _)
          have HO : Hid (∀ x ∈ ls, LentFL w.heap.size w7 x.h) := fun x hx => LentFL.past ((hll2.out x hx).blw ((Blw.refl _).alloc _)) (ownsRow_blw hown2 ((Blw.refl _).alloc _)) (by decide) hg7
          have HOL : Hid (w7.ownsRow w.heap.size 90 6 v7 (l.length + (k + 1)) (wls (ls ++ wSp (k + 1)))) := by
            have e : wls (ls ++ wSp (k + 1)) = wls (ls ++ wSp k) ++ [.int .i64 (-7), .int .i64 0, .bool false, .bool false, .slice none 0 0, .slice none 0 0] := by
              rw [wls_app, wls_app, List.append_assoc]
              exact congrArg _ (wSp_cells k)
            show World.ownsRow _ _ _ _ _ _ _
            rw [e]
            exact hown7
          clear hown7 hg7 hll2 hown2 hll hown
          go_roundw
          case rel => exact ⟨k + 1, by omega, by go_num, HOL.out, hb7, HO⟩
          case measure => simp [intOf]; omega
        · have : k = 3 := by omega
          subst this
          obtain ⟨a7, c7, rfl, -, -, -, -, -⟩ := own_arr hown2
          go_wp2_with fail
          go_ret
          exact ⟨ls, a7, c7, rfl, hb2, hown2, HKY.out, hll2.out⟩
end Go.Proofs.Ytigkfdoeneemeaa
/- slackwaterkit.KeptWaters, walked. -/
namespace Go.Proofs.Ytigkfdoeneemeaa
open Go.RowKit

set_option maxRecDepth 100000 in
set_option maxHeartbeats 8000000 in
theorem keptWaters_any (G : Nat) (A B : Option Addr) (ls l : List WL) (c d : Nat) (w : World) (hA : Arr w A (wls (ls ++ wSp 3))) (hB : Arr w B (wls l)) (hkey : ls.map WL.key = l.map WL.key) (hL : ∀ x ∈ ls, LentFL G w x.h) (hin : ∀ x ∈ l, FL.In w x.h) (hl : l.length ≤ 100000) (hs : ∀ x ∈ l, x.h.r.num.length ≤ 1000000 ∧ x.h.r.den.length ≤ 1000000) :
    Calls Try.prog 73 #[.slice A (l.length + 3) c, .slice B l.length d] w fun e w' => e = .returned (.bool true) ∧ ∃ z, w' = w.ext z := by
  have hlen : ls.length = l.length := by simpa using congrArg List.length hkey
  have hfl : (ls ++ wSp 3).length = l.length + 3 := by simp [wSp, hlen]
  have HK := Lib.hid hkey
  have HL := Lib.hid hL
  have HIN := Lib.hid hin
  have HS := Lib.hid hs
  have HLEN := Lib.hid hlen
  have HFL := Lib.hid hfl
  have d1 : ((l.length : Int) + 3 != (l.length : Int) + 3) = false := by simp
  clear hkey hL hin hs hlen hfl
  go_enter Try.func73, Try.ntmps73
  go_wp2_with fail
  clear d1
  go_loopw [5] (fun i wr => ∃ k : Nat, k ≤ l.length ∧ i = .int .i64 k ∧ Blw w wr) (fun i _ => l.length - (intOf i).toNat)
  case atStart => exact ⟨0, Nat.zero_le _, rfl, Blw.refl w⟩
  case round =>
    obtain ⟨k, hk, rfl, hb⟩ := hrel
    by_cases hlt : k < l.length
    · obtain ⟨y, b2, o2, hgy, hmy, rfl, hbs2, e0, e1, e2, e3, e4, e5⟩ := wl_at (hB.blw hb) hlt
      obtain ⟨x, b1, o1, hgx, hmx, rfl, hbs1, c0, c1, c2, c3, c4, c5⟩ := wl_at (hA.blw hb) (show k < (ls ++ wSp 3).length by rw [HFL.out]; omega)
      have hgx2 : ls[k]? = some x := by rw [← hgx, List.getElem?_append_left (by rw [HLEN.out]; exact hlt)]
      have hky : WL.key x = WL.key y := by
        have := congrArg (fun z : List (Int × Int × Bool × Fr) => z[k]?) HK.out
        simp only [List.getElem?_map, hgx2, hgy, Option.map_some, Option.some.injEq] at this
        exact this
      have hml : x ∈ ls := List.mem_of_getElem? hgx2
      have hxl := (HL.out x hml).blw hb
      have hyn := (HIN.out y hmy).blw hb
      obtain ⟨lny, ldy⟩ := HS.out y hmy
      obtain ⟨xt, xl, xp, ⟨xr, xa, xc, xb, xd⟩⟩ := x
      obtain ⟨yt, yl, yp, ⟨yr, ya, yc, yb, yd⟩⟩ := y
      simp only [WL.key, Prod.mk.injEq] at hky
      obtain ⟨rfl, rfl, rfl, rfl⟩ := hky
      have HKR := Lib.hid (fun (W : World) (hW : Blw wr W) => keptRatio_any G ⟨xr, xa, xc, xb, xd⟩ ya yc yb yd W (hxl.blw hW) (FrA.blw hyn hW) lny ldy)
      obtain ⟨rn, rnum, rden⟩ := xr
      simp only at HKR c3 c4 c5 e3 e4 e5
      have j1 : (k : Int) < (l.length : Int) + 3 := by omega
      have j2 : (0 : Int) ≤ (k : Int) := by omega
      have j3 : (k : Int) < (l.length : Int) := by omega
      clear hgx hgy hgx2 hmx hmy hml hxl hyn lny ldy
      cases xp
      all_goals
        go_wp2_with fail
        refine wp_region_ext_lit (by kernel_rfl) (by kernel_rfl) ?_
        repeat (quiet_step ((go_at_call 125; (with_reducible exact Calls.ext_of (HKR.out _ (by repeat (first | exact Blw.refl _ | apply Blw.ext | apply Blw.alloc | apply Blw.drewN | apply Blw.drew | refine Blw.setCell ?_ _ _ (by simp))))))))
        refine wpQuiet_nil ?_
        rintro _ ⟨z, rfl⟩
        go_wp2
        go_roundw
        case rel => exact ⟨k + 1, by omega, by go_num, hb.ext z⟩
        case measure => simp [intOf]; omega
    · have hkl : k = l.length := by omega
      subst hkl
      go_wp2_with fail
      go_loopw [6] (fun i wx => ∃ k : Nat, k ≤ 3 ∧ i = .int .i64 ((l.length + k : Nat) : Int) ∧ Blw w wx) (fun i _ => l.length + 3 - (intOf i).toNat)
      case atStart => exact ⟨0, by omega, rfl, hb⟩
      case round =>
        obtain ⟨k, hk3, rfl, hb2⟩ := hrel
        by_cases hlt2 : k < 3
        · obtain ⟨x, b1, o1, hgx, hmx, rfl, hbs1, c0, c1, c2, c3, c4, c5⟩ := wl_at (k := l.length + k) (hA.blw hb2) (by rw [HFL.out]; omega)
          have hx : x = ⟨-7, 0, false, fl0⟩ := by
            rw [List.getElem?_append_right (by rw [HLEN.out]; omega), HLEN.out, Nat.add_sub_cancel_left, wSp, List.getElem?_replicate, if_pos hlt2] at hgx
            exact (Option.some.inj hgx).symm
          subst hx
          simp only at c0
          have j1 : (l.length : Int) + (k : Int) < (l.length : Int) + 3 := by omega
          have j2 : (0 : Int) ≤ (l.length : Int) + (k : Int) := by omega
          have j3 : ((l.length : Int) + (k : Int)).toNat = l.length + k := by omega
          clear hgx hmx c1 c2 c3 c4 c5
          go_wp2_with fail
          go_roundw
          case rel => exact ⟨k + 1, by omega, by go_num, hb2⟩
          case measure => simp [intOf]; omega
        · have : k = 3 := by omega
          subst this
          have j1 : decide ((l.length : Int) + 3 < (l.length : Int) + 3) = false := by simp
          go_wp2_with fail
          go_ret
          exact ⟨rfl, Blw.is hb2⟩
end Go.Proofs.Ytigkfdoeneemeaa
/- Waters that are the same but for where they lie: the same checks, the same highest one. -/
namespace Go.Proofs.Ytigkfdoeneemeaa
open Go.RowKit

theorem key_at {ls l : List WL} (h : ls.map WL.key = l.map WL.key) (i : Nat) : (ls[i]? = none ∧ l[i]? = none) ∨ ∃ x y, ls[i]? = some x ∧ l[i]? = some y ∧ WL.key x = WL.key y := by
  have := congrArg (fun z : List (Int × Int × Bool × Fr) => z[i]?) h
  simp only [List.getElem?_map] at this
  cases h1 : ls[i]? with
  | none =>
    cases h2 : l[i]? with
    | none => exact .inl ⟨rfl, rfl⟩
    | some y => rw [h1, h2] at this; simp at this
  | some x =>
    cases h2 : l[i]? with
    | none => rw [h1, h2] at this; simp at this
    | some y =>
      rw [h1, h2] at this
      exact .inr ⟨x, y, rfl, rfl, by simpa using this⟩
theorem key_parts {x y : WL} (h : WL.key x = WL.key y) : x.tick = y.tick ∧ x.last = y.last ∧ x.top = y.top ∧ x.h.r = y.h.r := by
  simp only [WL.key, Prod.mk.injEq] at h
  exact h
theorem wrongN_key {x y : WL} (h : WL.key x = WL.key y) : wrongN x = wrongN y := by
  obtain ⟨h1, h2, h3, h4⟩ := key_parts h
  unfold wrongN
  rw [h1, h2, h4]
theorem wrongS_key {x y x' y' : WL} (h : WL.key x = WL.key x') (k : WL.key y = WL.key y') : wrongS y x = wrongS y' x' := by
  obtain ⟨h1, h2, h3, h4⟩ := key_parts h
  obtain ⟨k1, k2, k3, k4⟩ := key_parts k
  unfold wrongS
  rw [h1, h2, h3, h4, k2, k3, k4]
theorem chkAt_key {ls l : List WL} (h : ls.map WL.key = l.map WL.key) (i : Nat) : chkAt ls i = chkAt l i := by
  unfold chkAt
  rcases key_at h i with ⟨h1, h2⟩ | ⟨x, y, h1, h2, h3⟩
  · rw [h1, h2]
  · rw [h1, h2]
    simp only
    split
    · exact wrongN_key h3
    · rcases key_at h (i - 1) with ⟨g1, g2⟩ | ⟨x', y', g1, g2, g3⟩
      · rw [g1, g2]
      · rw [g1, g2]; exact wrongS_key h3 g3
theorem checkW_key {ls l : List WL} (h : ls.map WL.key = l.map WL.key) : checkW ls = checkW l := by
  have hl : ls.length = l.length := by simpa using congrArg List.length h
  have hf : chkAt ls = chkAt l := funext (chkAt_key h)
  unfold checkW
  rw [hl, hf]
theorem rgW_key {ls l : List WL} (h : ls.map WL.key = l.map WL.key) (b : Nat) : rgW ls b = rgW l b := by
  unfold rgW
  rcases key_at h b with ⟨h1, h2⟩ | ⟨x, y, h1, h2, h3⟩
  · rw [h1, h2]
  · rw [h1, h2]; exact (key_parts h3).2.2.2
theorem farS_key {ls l : List WL} (h : ls.map WL.key = l.map WL.key) (top : Bool) (to : Int) : ∀ k, farS ls top to k = farS l top to k := by
  intro k
  induction k with
  | zero => rfl
  | succ k ih =>
    unfold farS
    rcases key_at h k with ⟨h1, h2⟩ | ⟨x, y, h1, h2, h3⟩
    · rw [h1, h2]; exact ih
    · obtain ⟨-, -, e3, e4⟩ := key_parts h3
      rw [h1, h2]
      simp only [ih, e3, e4]
      split
      · split
        · rfl
        · rw [rgW_key h]
      · rfl
theorem farW_key {ls l : List WL} (h : ls.map WL.key = l.map WL.key) (top : Bool) (to : Int) : farW ls top to = farW l top to := by
  have hl : ls.length = l.length := by simpa using congrArg List.length h
  unfold farW
  rw [checkW_key h, hl, farS_key h]
end Go.Proofs.Ytigkfdoeneemeaa
/- Floats: what the model's operations on float64 give, NaN included, as functions of the operands' bits and the world; plain facts on the words. -/
namespace Go.Proofs.Ytigkfdoeneemeaa.Fl
open Go Ieee

/-- The bits of a float operation's result in a world. -/
def fop (op : BinOp) (x y : Nat) (w : World) : Nat :=
  match floatBits op .f64 x y with
  | some r => r
  | none => (Question.nanBits .f64 x y).cut (w.tape w.drawn (.nanBits .f64 x y))

/-- How many draws the operation makes. -/
def fdr (op : BinOp) (x y : Nat) : Nat := match floatBits op .f64 x y with | some _ => 0 | none => 1

section
variable {P : Program} (w : World)
theorem run_fop (op : BinOp) (h : op = .add ∨ op = .sub ∨ op = .mul ∨ op = .quo) (t : TypeId) (x y : Nat) :
    (binOp op t (.float .f64 x) (.float .f64 y)).run P w = .ok (.float .f64 (fop op x y w)) (w.drewN (fdr op x y)) := by
  cases e : floatBits op .f64 x y with
  | some r =>
    rw [run_float_arith w op t .f64 x y r e]
    simp only [fop, fdr, e]; rfl
  | none =>
    simp only [fop, fdr, e]
    rcases h with rfl | rfl | rfl | rfl <;>
      (unfold floatBits at e; simp only at e; simp [binOp, Op.floatArith, e, Question.forced]; rfl)
@[go_sem] theorem run_fadd (t : TypeId) (x y : Nat) : (binOp .add t (.float .f64 x) (.float .f64 y)).run P w = .ok (.float .f64 (fop .add x y w)) (w.drewN (fdr .add x y)) := run_fop w .add (by simp) t x y
@[go_sem] theorem run_fsub (t : TypeId) (x y : Nat) : (binOp .sub t (.float .f64 x) (.float .f64 y)).run P w = .ok (.float .f64 (fop .sub x y w)) (w.drewN (fdr .sub x y)) := run_fop w .sub (by simp) t x y
@[go_sem] theorem run_fmul (t : TypeId) (x y : Nat) : (binOp .mul t (.float .f64 x) (.float .f64 y)).run P w = .ok (.float .f64 (fop .mul x y w)) (w.drewN (fdr .mul x y)) := run_fop w .mul (by simp) t x y
@[go_sem] theorem run_fquo (t : TypeId) (x y : Nat) : (binOp .quo t (.float .f64 x) (.float .f64 y)).run P w = .ok (.float .f64 (fop .quo x y w)) (w.drewN (fdr .quo x y)) := run_fop w .quo (by simp) t x y
@[go_sem] theorem run_store_float (a : Addr) (x : Nat) (m : Mode) : (store a (.float .f64 x) m).run P w = stored P w a (.float .f64 x) m := run_store P w a _ m rfl
@[go_sem] theorem run_store_complex (a : Addr) (x y : Nat) (m : Mode) : (store a (.complex .f64 x y) m).run P w = stored P w a (.complex .f64 x y) m := run_store P w a _ m rfl
@[go_sem] theorem unary_neg_float (x : Nat) : Op.unary .neg (.float .f64 x) = pure (.float .f64 (Op.negFloat .f64 x)) := rfl
end

/-- The rung of infinity of a double. -/
def infR : Nat := 9218868437227405312
def isNaN (x : Nat) : Bool := decide (infR < x % 2 ^ 63)
def isInf (x : Nat) : Bool := decide (x % 2 ^ 63 = infR)
def isFin (x : Nat) : Bool := decide (x % 2 ^ 63 < infR)
def fneg (x : Nat) : Bool := decide (x / 2 ^ 63 % 2 = 1)
/-- A finite double is 'mag * 2 ^ (place - 1074)'. -/
def mag (x : Nat) : Nat := if x % 2 ^ 63 < 2 ^ 52 then x % 2 ^ 63 else 2 ^ 52 + x % 2 ^ 52
def plc (x : Nat) : Nat := x % 2 ^ 63 / 2 ^ 52 - 1

theorem read_eq (x : Nat) : double.read x =
    if x % 2 ^ 63 < 2 ^ 52 then .number (x / 2 ^ 63 % 2 == 1) (x % 2 ^ 63) (-1074)
    else if x % 2 ^ 63 < infR then .number (x / 2 ^ 63 % 2 == 1) (2 ^ 52 + x % 2 ^ 63 % 2 ^ 52) (-1074 + ((x % 2 ^ 63 / 2 ^ 52 - 1 : Nat) : Int))
    else if x % 2 ^ 63 = infR then .infinity (x / 2 ^ 63 % 2 == 1)
    else .nan (x / 2 ^ 63 % 2 == 1) (x % 2 ^ 63 - infR) := rfl

theorem read_fin (x : Nat) (h : isFin x = true) : double.read x = .number (fneg x) (mag x) (-1074 + (plc x : Int)) := by
  have h' : x % 2 ^ 63 < infR := by simpa [isFin] using h
  rw [read_eq]
  have es : (x / 2 ^ 63 % 2 == 1) = fneg x := by unfold fneg; rw [Bool.eq_iff_iff]; simp
  rw [es]
  by_cases c : x % 2 ^ 63 < 2 ^ 52
  · rw [if_pos c]
    unfold mag plc
    rw [if_pos c]
    have : x % 2 ^ 63 / 2 ^ 52 - 1 = 0 := by omega
    rw [this]; rfl
  · rw [if_neg c, if_pos h']
    unfold mag plc
    rw [if_neg c]
    congr 2
    omega
theorem read_inf (x : Nat) (h : isInf x = true) : double.read x = .infinity (fneg x) := by
  have h' : x % 2 ^ 63 = infR := by simpa [isInf] using h
  rw [read_eq]
  have es : (x / 2 ^ 63 % 2 == 1) = fneg x := by unfold fneg; rw [Bool.eq_iff_iff]; simp
  rw [es, h', if_neg (by decide), if_neg (by decide), if_pos rfl]
theorem read_nan (x : Nat) (h : isNaN x = true) : ∃ s t, double.read x = .nan s t := by
  have h' : infR < x % 2 ^ 63 := by simpa [isNaN] using h
  rw [read_eq]
  have : ¬ x % 2 ^ 63 < 2 ^ 52 := by unfold infR at h'; omega
  rw [if_neg this, if_neg (by omega), if_neg (by omega)]
  exact ⟨_, _, rfl⟩
theorem tri (x : Nat) : isFin x = true ∨ isInf x = true ∨ isNaN x = true := by
  simp only [isFin, isInf, isNaN, decide_eq_true_eq]; omega
theorem fin_not (x : Nat) : isFin x = !(isInf x || isNaN x) := by
  rw [Bool.eq_iff_iff]; simp only [isFin, isInf, isNaN]; simp; omega

theorem cut_nan (x y t : Nat) : isNaN ((Question.nanBits .f64 x y).cut t) = true := by
  unfold Question.cut isNaN infR
  simp only [decide_eq_true_eq]
  have h1 : t / 2 % (2 ^ 52 - 1) < 2 ^ 52 - 1 := Nat.mod_lt _ (by decide)
  generalize t / 2 % (2 ^ 52 - 1) = k at *
  rcases (by omega : t % 2 = 0 ∨ t % 2 = 1) with e | e <;> rw [e] <;> omega
theorem cut_lt (x y t : Nat) : (Question.nanBits .f64 x y).cut t < 2 ^ 64 := by
  unfold Question.cut
  simp only
  have h1 : t / 2 % (2 ^ 52 - 1) < 2 ^ 52 - 1 := Nat.mod_lt _ (by decide)
  generalize t / 2 % (2 ^ 52 - 1) = k at *
  rcases (by omega : t % 2 = 0 ∨ t % 2 = 1) with e | e <;> rw [e] <;> omega

theorem fop_some {op : BinOp} {x y r : Nat} (h : floatBits op .f64 x y = some r) (w : World) : fop op x y w = r := by simp [fop, h]
theorem fop_none {op : BinOp} {x y : Nat} (h : floatBits op .f64 x y = none) (w : World) : isNaN (fop op x y w) = true := by
  simp only [fop, h]; exact cut_nan _ _ _
theorem fop_lt (op : BinOp) (x y : Nat) (w : World) : fop op x y w < 2 ^ 64 := by
  cases h : floatBits op .f64 x y with
  | some r => rw [fop_some h]; have := floatBits_wf h; simpa [Lit.wf] using this
  | none => simp only [fop, h]; exact cut_lt _ _ _

/-- Two words are the same, or both NaN: what a deterministic program may be sure of. -/
def same (x y : Nat) : Prop := x = y ∨ (isNaN x = true ∧ isNaN y = true)
theorem same.refl (x : Nat) : same x x := .inl rfl
theorem same.symm {x y : Nat} (h : same x y) : same y x := by
  rcases h with rfl | ⟨a, b⟩
  · exact .inl rfl
  · exact .inr ⟨b, a⟩
theorem same.trans {x y z : Nat} (h : same x y) (k : same y z) : same x z := by
  rcases h with rfl | ⟨a, b⟩
  · exact k
  · rcases k with rfl | ⟨c, d⟩
    · exact .inr ⟨a, b⟩
    · exact .inr ⟨a, d⟩

abbrev ord (x y : Nat) : Option Ordering := double.order x y
theorem ord_nan_left {x : Nat} (h : isNaN x = true) (y : Nat) : ord x y = none := by
  obtain ⟨s, t, e⟩ := read_nan x h
  simp [ord, Format.order, e, Datum.order]
theorem ord_nan_right {y : Nat} (h : isNaN y = true) (x : Nat) : ord x y = none := by
  obtain ⟨s, t, e⟩ := read_nan y h
  simp only [ord, Format.order, e]
  cases double.read x <;> rfl
theorem ord_self {x : Nat} (h : isNaN x = false) : ord x x = some .eq := by
  rcases tri x with f | i | n
  · simp [ord, Format.order, read_fin x f, Datum.order]
  · simp [ord, Format.order, read_inf x i, Datum.order]
  · simp [n] at h
theorem ord_self_eq (x : Nat) : (ord x x == some .eq) = !isNaN x := by
  cases h : isNaN x
  · rw [ord_self h]; rfl
  · rw [ord_nan_left h]; rfl
theorem ord_self_ne (x : Nat) : (ord x x != some .eq) = isNaN x := by
  cases h : isNaN x
  · rw [ord_self h]; rfl
  · rw [ord_nan_left h]; rfl
theorem same.ord {x y u v : Nat} (h : same x y) (k : same u v) : ord x u = ord y v := by
  rcases h with rfl | ⟨a, b⟩
  · rcases k with rfl | ⟨c, d⟩
    · rfl
    · rw [ord_nan_right c, ord_nan_right d]
  · rw [ord_nan_left a, ord_nan_left b]

theorem bits_nan {op : BinOp} (h : op = .add ∨ op = .sub ∨ op = .mul ∨ op = .quo) (x y : Nat) (n : isNaN x = true ∨ isNaN y = true) : floatBits op .f64 x y = none := by
  rcases n with n | n
  · obtain ⟨s, t, e⟩ := read_nan _ n
    rcases h with rfl | rfl | rfl | rfl <;> simp [floatBits, FloatKind.format, Format.add, Format.sub, Format.mul, Format.div, e, Datum.sum, Datum.product, Datum.quotient]
  · obtain ⟨s, t, e⟩ := read_nan _ n
    rcases h with rfl | rfl | rfl | rfl <;> simp only [floatBits, FloatKind.format, Format.add, Format.sub, Format.mul, Format.div, e] <;> cases double.read x <;> simp [Datum.sum, Datum.product, Datum.quotient, Datum.opposite]
theorem same.fop {op : BinOp} (h : op = .add ∨ op = .sub ∨ op = .mul ∨ op = .quo) {x y u v : Nat} (hx : same x u) (hy : same y v) (w w' : World) : same (fop op x y w) (fop op u v w') := by
  rcases hx with rfl | ⟨a, b⟩
  · rcases hy with rfl | ⟨c, d⟩
    · cases e : floatBits op .f64 x y with
      | some r => rw [fop_some e, fop_some e]; exact .inl rfl
      | none => exact .inr ⟨fop_none e w, fop_none e w'⟩
    · exact .inr ⟨fop_none (bits_nan h _ _ (.inr c)) w, fop_none (bits_nan h _ _ (.inr d)) w'⟩
  · exact .inr ⟨fop_none (bits_nan h _ _ (.inl a)) w, fop_none (bits_nan h _ _ (.inl b)) w'⟩
theorem same_add {x y u v : Nat} (hx : same x u) (hy : same y v) (w w' : World) : same (Fl.fop .add x y w) (Fl.fop .add u v w') := same.fop (by simp) hx hy w w'
theorem same_sub {x y u v : Nat} (hx : same x u) (hy : same y v) (w w' : World) : same (Fl.fop .sub x y w) (Fl.fop .sub u v w') := same.fop (by simp) hx hy w w'
theorem same_mul {x y u v : Nat} (hx : same x u) (hy : same y v) (w w' : World) : same (Fl.fop .mul x y w) (Fl.fop .mul u v w') := same.fop (by simp) hx hy w w'
theorem same_quo {x y u v : Nat} (hx : same x u) (hy : same y v) (w w' : World) : same (Fl.fop .quo x y w) (Fl.fop .quo u v w') := same.fop (by simp) hx hy w w'

end Go.Proofs.Ytigkfdoeneemeaa.Fl
/- The bodyless functions of package math that the program calls: what each call runs to. -/
namespace Go.Proofs.Ytigkfdoeneemeaa
open Go.RowKit

@[go_sem] theorem call_frombits (n : Int) (w : World) : (callFunc 15 #[.int .u64 n]).run Try.prog w = .ok (.value (.float .f64 n.toNat)) w := by
  rw [run_callFunc_extern (fn := Try.f15) (e := Extern.MathFloatBits.float64frombits) (by kernel_rfl) (by kernel_rfl) (by kernel_rfl) (by kernel_rfl) (by kernel_rfl)]; rfl
@[go_sem] theorem call_bits (n : Nat) (w : World) : (callFunc 107 #[.float .f64 n]).run Try.prog w = .ok (.value (.int .u64 n)) w := by
  rw [run_callFunc_extern (fn := Try.f107) (e := Extern.MathFloatBits.float64bits) (by kernel_rfl) (by kernel_rfl) (by kernel_rfl) (by kernel_rfl) (by kernel_rfl)]; rfl
end Go.Proofs.Ytigkfdoeneemeaa
/- Doubles as numbers: a finite double is a whole number of units 2^-1074; the order of floats is the order of these numbers; among sizes it is the order of the words. -/
namespace Go.Proofs.Ytigkfdoeneemeaa.Fl
open Go Ieee

/-- The size of a finite double in units of 2^-1074. -/
def V (x : Nat) : Nat := mag x * 2 ^ plc x
def Sv (x : Nat) : Int := if fneg x then -(V x : Int) else (V x : Int)

theorem V_mod (x : Nat) : V (x % 2 ^ 63) = V x := by
  unfold V mag plc
  have e1 : x % 2 ^ 63 % 2 ^ 63 = x % 2 ^ 63 := Nat.mod_mod _ _
  have e2 : x % 2 ^ 63 % 2 ^ 52 = x % 2 ^ 52 := by omega
  rw [e1, e2]

theorem V_small {r : Nat} (h : r < 2 ^ 52) : V r = r := by
  unfold V mag plc
  have e1 : r % 2 ^ 63 = r := by omega
  rw [e1, if_pos h]
  have : r / 2 ^ 52 - 1 = 0 := by omega
  rw [this]; simp
theorem V_big {r : Nat} (h : 2 ^ 52 ≤ r) (h2 : r < 2 ^ 63) : V r = (2 ^ 52 + r % 2 ^ 52) * 2 ^ (r / 2 ^ 52 - 1) := by
  unfold V mag plc
  have e1 : r % 2 ^ 63 = r := by omega
  rw [e1, if_neg (by omega)]

theorem V_step {r : Nat} (h : r + 1 < 2 ^ 63) : V r < V (r + 1) := by
  by_cases a : r + 1 < 2 ^ 52
  · rw [V_small a, V_small (by omega)]; omega
  · by_cases b : r < 2 ^ 52
    · have hr : r = 2 ^ 52 - 1 := by omega
      rw [V_small b, V_big (by omega) h, hr]; decide
    · rw [V_big (by omega) (by omega), V_big (by omega) h]
      by_cases c : (r + 1) % 2 ^ 52 = 0
      · have e1 : r % 2 ^ 52 = 2 ^ 52 - 1 := by omega
        have e2 : (r + 1) / 2 ^ 52 - 1 = (r / 2 ^ 52 - 1) + 1 := by omega
        rw [e1, e2, c, show 2 ^ (r / 2 ^ 52 - 1 + 1) = 2 ^ (r / 2 ^ 52 - 1) * 2 from Nat.pow_succ ..]
        have : 0 < 2 ^ (r / 2 ^ 52 - 1) := Nat.two_pow_pos _
        generalize 2 ^ (r / 2 ^ 52 - 1) = k at *
        omega
      · have e1 : (r + 1) % 2 ^ 52 = r % 2 ^ 52 + 1 := by omega
        have e2 : (r + 1) / 2 ^ 52 = r / 2 ^ 52 := by omega
        rw [e1, e2]
        exact Nat.mul_lt_mul_of_pos_right (by omega) (Nat.two_pow_pos _)
theorem V_lt {r s : Nat} (h : r < s) (hs : s < 2 ^ 63) : V r < V s := by
  induction s with
  | zero => omega
  | succ s ih =>
    by_cases e : r = s
    · subst e; exact V_step hs
    · exact Nat.lt_trans (ih (by omega) (by omega)) (V_step hs)
theorem V_le {r s : Nat} (h : r ≤ s) (hs : s < 2 ^ 63) : V r ≤ V s := by
  by_cases e : r = s
  · subst e; exact Nat.le_refl _
  · exact Nat.le_of_lt (V_lt (by omega) hs)
theorem V_inj {r s : Nat} (hr : r < 2 ^ 63) (hs : s < 2 ^ 63) (h : V r = V s) : r = s := by
  by_cases a : r < s
  · have := V_lt a hs; omega
  · by_cases b : s < r
    · have := V_lt b hr; omega
    · omega
theorem V_zero : V 0 = 0 := by decide
theorem V_pos {r : Nat} (h : 0 < r) (hs : r < 2 ^ 63) : 0 < V r := by have := V_lt h hs; rw [V_zero] at this; exact this

theorem cmp_eq {a b c d : Int} (h1 : a < b ↔ c < d) (h2 : a = b ↔ c = d) : compare a b = compare c d := by
  simp only [compare, compareOfLessAndEq]
  by_cases x : a < b
  · rw [if_pos x, if_pos (h1.1 x)]
  · rw [if_neg x, if_neg (fun y => x (h1.2 y))]
    by_cases z : a = b
    · rw [if_pos z, if_pos (h2.1 z)]
    · rw [if_neg z, if_neg (fun y => z (h2.2 y))]
theorem cmp_scale {a b k : Int} (hk : 0 < k) : compare (a * k) (b * k) = compare a b :=
  cmp_eq ⟨fun h => Int.lt_of_mul_lt_mul_right h (Int.le_of_lt hk), fun h => Int.mul_lt_mul_of_pos_right h hk⟩
    ⟨fun h => Int.eq_of_mul_eq_mul_right (Int.ne_of_gt hk) h, fun h => by rw [h]⟩

theorem signed_scale (s : Bool) (m k : Nat) (j : Nat) : signed s m k * ((2 ^ j : Nat) : Int) = signed s m (k + j) := by
  unfold signed
  have e : ((m <<< k : Nat) : Int) * ((2 ^ j : Nat) : Int) = ((m <<< (k + j) : Nat) : Int) := by
    rw [Nat.shiftLeft_eq, Nat.shiftLeft_eq, Nat.pow_add, ← Nat.mul_assoc]; rfl
  split
  · rw [Int.neg_mul, e]
  · rw [e]
theorem signed_Sv (x : Nat) : signed (fneg x) (mag x) (plc x) = Sv x := by
  unfold signed Sv V
  rw [Nat.shiftLeft_eq]

theorem ord_fin {x y : Nat} (hx : isFin x = true) (hy : isFin y = true) : ord x y = some (compare (Sv x) (Sv y)) := by
  simp only [ord, Format.order, read_fin x hx, read_fin y hy, Datum.order]
  have e1 : (-1074 + (plc x : Int) - min (-1074 + (plc x : Int)) (-1074 + (plc y : Int))).toNat = plc x - min (plc x) (plc y) := by omega
  have e2 : (-1074 + (plc y : Int) - min (-1074 + (plc x : Int)) (-1074 + (plc y : Int))).toNat = plc y - min (plc x) (plc y) := by omega
  rw [e1, e2]
  congr 1
  have hk : (0 : Int) < ((2 ^ min (plc x) (plc y) : Nat) : Int) := by have := Nat.two_pow_pos (min (plc x) (plc y)); omega
  rw [← cmp_scale hk, signed_scale, signed_scale]
  have f1 : plc x - min (plc x) (plc y) + min (plc x) (plc y) = plc x := by omega
  have f2 : plc y - min (plc x) (plc y) + min (plc x) (plc y) = plc y := by omega
  rw [f1, f2, signed_Sv, signed_Sv]

theorem fneg_small {x : Nat} (h : x < 2 ^ 63) : fneg x = false := by unfold fneg; simp; omega
theorem Sv_small {x : Nat} (h : x < 2 ^ 63) : Sv x = (V x : Int) := by unfold Sv; rw [fneg_small h]; rfl
/-- Among sizes the order is that of the words. -/
theorem ord_pos {x y : Nat} (hx : x < infR) (hy : y < infR) : ord x y = some (compare x y) := by
  have lx : x < 2 ^ 63 := by unfold infR at hx; omega
  have ly : y < 2 ^ 63 := by unfold infR at hy; omega
  rw [ord_fin (by simp [isFin]; omega) (by simp [isFin]; omega), Sv_small lx, Sv_small ly]
  congr 1
  simp only [compare, compareOfLessAndEq]
  by_cases a : x < y
  · rw [if_pos (by have := V_lt a ly; omega), if_pos a]
  · by_cases b : x = y
    · subst b; simp
    · have := V_lt (show y < x by omega) lx
      rw [if_neg (by omega), if_neg (by omega), if_neg a, if_neg b]
/-- math.IsInf's test. -/
theorem ord_max {x : Nat} (h : x < 2 ^ 63) : (ord x 9218868437227405311 == some .gt) = isInf x := by
  have e : x % 2 ^ 63 = x := by omega
  rcases tri x with f | i | n
  · have hx : x < infR := by simpa [isFin, e] using f
    rw [ord_pos hx (by decide)]
    have : isInf x = false := by simp [isInf, e]; omega
    rw [this]
    simp only [compare, compareOfLessAndEq]
    unfold infR at hx
    by_cases a : x < 9218868437227405311
    · rw [if_pos a]; rfl
    · rw [if_neg a, if_pos (by omega)]; rfl
  · rw [i]
    have : ord x 9218868437227405311 = some .gt := by
      simp only [ord, Format.order, read_inf x i, fneg_small h, read_fin 9218868437227405311 (by decide), Datum.order]; rfl
    rw [this]; rfl
  · rw [ord_nan_left n]
    have : isInf x = false := by simp only [isNaN, decide_eq_true_eq] at n; simp [isInf]; omega
    rw [this]; rfl

theorem isInf_mod (x : Nat) : isInf (x % 2 ^ 63) = isInf x := by unfold isInf; rw [Nat.mod_mod]
theorem isNaN_mod (x : Nat) : isNaN (x % 2 ^ 63) = isNaN x := by unfold isNaN; rw [Nat.mod_mod]
theorem isFin_mod (x : Nat) : isFin (x % 2 ^ 63) = isFin x := by unfold isFin; rw [Nat.mod_mod]

/-- x - x is 0 of just the finite ones. -/
theorem sub_self_fin {x : Nat} (h : isFin x = true) (w : World) : fop .sub x x w = 0 := by
  refine fop_some ?_ w
  simp only [floatBits, FloatKind.format, Format.sub, read_fin x h, Datum.opposite, Datum.sum, Option.map_some, Option.some.injEq]
  have e : (-1074 + (plc x : Int) - min (-1074 + (plc x : Int)) (-1074 + (plc x : Int))).toNat = 0 := by omega
  rw [e]
  have t : signed (fneg x) (mag x) 0 + signed (!fneg x) (mag x) 0 = 0 := by unfold signed; cases fneg x <;> simp <;> omega
  rw [t]
  simp [Format.write, Format.nearest, Format.word]
theorem sub_self_not {x : Nat} (h : isFin x = false) (w : World) : isNaN (fop .sub x x w) = true := by
  refine fop_none ?_ w
  rcases tri x with f | i | n
  · simp [f] at h
  · simp [floatBits, FloatKind.format, Format.sub, read_inf x i, Datum.opposite, Datum.sum]
  · exact bits_nan (by simp) x x (.inl n)
theorem sub_self_ord (x : Nat) (w : World) : (ord (fop .sub x x w) 0 == some .eq) = isFin x := by
  cases h : isFin x
  · rw [ord_nan_left (sub_self_not h w)]; rfl
  · rw [sub_self_fin h w]; decide

theorem bits_abs (x : Nat) (hx : x < 2 ^ 64) : (bits .andNot .u64 (x : Int) 9223372036854775808).toNat = x % 2 ^ 63 := by
  unfold bits
  have hb : ~~~(BitVec.ofInt 64 9223372036854775808) = BitVec.ofNat 64 (2 ^ 63 - 1) := by decide
  have ha : (BitVec.ofInt 64 (x : Int)).toNat = x := by
    rw [BitVec.ofInt_natCast, BitVec.toNat_ofNat]; omega
  show (IntKind.u64.wrap ((BitVec.ofInt 64 (x : Int) &&& ~~~(BitVec.ofInt 64 9223372036854775808)).toNat : Int)).toNat = _
  rw [hb, BitVec.toNat_and, ha]
  have hc : (BitVec.ofNat 64 (2 ^ 63 - 1)).toNat = 2 ^ 63 - 1 := by decide
  rw [hc, Nat.and_two_pow_sub_one_eq_mod]
  have hw : IntKind.u64.wrap ((x % 2 ^ 63 : Nat) : Int) = ((x % 2 ^ 63 : Nat) : Int) := by
    simp only [IntKind.wrap, IntKind.bits, IntKind.signed]
    simp; omega
  rw [hw]; rfl
theorem bits_fin (x : Nat) : (bits .and .u64 ((x : Int) / 4503599627370496) 2047 != 2047) = isFin x := by
  have h1 : (bits .and .u64 ((x : Int) / 4503599627370496) 2047) = ((x / 2 ^ 52 % 2048 : Nat) : Int) := by
    unfold bits
    have ha : (BitVec.ofInt 64 ((x : Int) / 4503599627370496)).toNat = x / 2 ^ 52 % 2 ^ 64 := by
      have : ((x : Int) / 4503599627370496) = ((x / 2 ^ 52 : Nat) : Int) := by omega
      rw [this, BitVec.ofInt_natCast, BitVec.toNat_ofNat]
    show IntKind.u64.wrap ((BitVec.ofInt 64 ((x : Int) / 4503599627370496) &&& BitVec.ofInt 64 2047).toNat : Int) = _
    have hc : (BitVec.ofInt 64 2047).toNat = 2 ^ 11 - 1 := by decide
    rw [BitVec.toNat_and, ha, hc, Nat.and_two_pow_sub_one_eq_mod]
    simp only [IntKind.wrap, IntKind.bits, IntKind.signed]
    simp; omega
  rw [h1]
  unfold isFin infR
  rw [Bool.eq_iff_iff]
  simp
  omega
end Go.Proofs.Ytigkfdoeneemeaa.Fl
/- Walks of the small functions on one float: which are finite, sizes. -/
namespace Go.Proofs.Ytigkfdoeneemeaa
open Go.RowKit

theorem ret_bool {a b : Bool} (h : a = b) : Ending.returned (.bool a) = .returned (.bool b) := by rw [h]
theorem ret_float {a b : Nat} (h : a = b) : Ending.returned (.float .f64 a) = .returned (.float .f64 b) := by rw [h]

set_option maxHeartbeats 400000 in
theorem abs_any (x : Nat) (w : World) (hx : x < 2 ^ 64) :
    Calls Try.prog 63 #[.float .f64 x] w fun e w' => e = .returned (.float .f64 (x % 2 ^ 63)) ∧ w' = w := by
  go_enter Try.func63, Try.ntmps63
  go_wp2
  go_ret
  exact ⟨ret_float (Fl.bits_abs x hx), rfl⟩

set_option maxHeartbeats 400000 in
theorem isNaN_any (x : Nat) (w : World) :
    Calls Try.prog 142 #[.float .f64 x] w fun e w' => e = .returned (.bool (Fl.isNaN x)) ∧ w' = w := by
  go_enter Try.func142, Try.ntmps142
  go_wp2
  go_ret
  exact ⟨ret_bool (Fl.ord_self_ne x), rfl⟩

set_option maxHeartbeats 400000 in
theorem isInf_any (x : Nat) (w : World) (hx : x < 2 ^ 64) :
    Calls Try.prog 64 #[.float .f64 x, .int .i64 0] w fun e w' => e = .returned (.bool (Fl.isInf x)) ∧ w' = w := by
  go_enter Try.func64, Try.ntmps64
  go_wp2_with (go_at_call 63; refine (abs_any _ _ hx).mono ?_; rintro e w' ⟨rfl, rfl⟩)
  go_ret
  exact ⟨ret_bool ((Fl.ord_max (Nat.mod_lt _ (by decide))).trans (Fl.isInf_mod x)), rfl⟩

set_option maxHeartbeats 400000 in
theorem realFinite_any (x : Nat) (w : World) (hx : x < 2 ^ 64) :
    Calls Try.prog 94 #[.float .f64 x] w fun e w' => e = .returned (.bool (Fl.isFin x)) ∧ w' = w := by
  go_enter Try.func94, Try.ntmps94
  cases hn : Fl.isNaN x
  all_goals
    go_wp2_with (first | (go_at_call 142; refine (isNaN_any _ _).mono ?_; rintro e w' ⟨rfl, rfl⟩) | (go_at_call 64; refine (isInf_any _ _ hx).mono ?_; rintro e w' ⟨rfl, rfl⟩))
    go_ret
    exact ⟨ret_bool (by rw [Fl.fin_not, hn]; simp), rfl⟩

set_option maxHeartbeats 400000 in
theorem alarmFinite_any (x : Nat) (w : World) (hx : x < 2 ^ 64) :
    Calls Try.prog 100 #[.float .f64 x] w fun e w' => e = .returned (.bool (Fl.isFin x)) ∧ w' = w := by
  go_enter Try.func100, Try.ntmps100
  cases hn : Fl.isInf x
  all_goals
    go_wp2_with (first | (go_at_call 142; refine (isNaN_any _ _).mono ?_; rintro e w' ⟨rfl, rfl⟩) | (go_at_call 64; refine (isInf_any _ _ hx).mono ?_; rintro e w' ⟨rfl, rfl⟩))
    go_ret
    exact ⟨ret_bool (by rw [Fl.fin_not, hn]; simp), rfl⟩

set_option maxHeartbeats 400000 in
theorem partsFinite_any (x : Nat) (w : World) (hx : x < 2 ^ 64) :
    Calls Try.prog 113 #[.float .f64 x] w fun e w' => e = .returned (.bool (Fl.isFin x)) ∧ w' = w := by
  go_enter Try.func113, Try.ntmps113
  cases hn : Fl.isInf x
  all_goals
    go_wp2_with (first | (go_at_call 64; refine (isInf_any _ _ hx).mono ?_; rintro e w' ⟨rfl, rfl⟩))
    go_ret
    exact ⟨ret_bool (by rw [Fl.fin_not, hn]; simp; try exact Fl.ord_self_eq x), rfl⟩

set_option maxHeartbeats 400000 in
theorem ref06Finite_any (x : Nat) (w : World) :
    Calls Try.prog 95 #[.float .f64 x] w fun e w' => e = .returned (.bool (Fl.isFin x)) ∧ w' = w := by
  go_enter Try.func95, Try.ntmps95
  go_wp2
  go_ret
  exact ⟨ret_bool (Fl.bits_fin x), rfl⟩

set_option maxHeartbeats 400000 in
theorem ref07Finite_any (x : Nat) (w : World) :
    Calls Try.prog 114 #[.float .f64 x] w fun e w' => e = .returned (.bool (Fl.isFin x)) ∧ ∃ n, w' = w.drewN n := by
  go_enter Try.func114, Try.ntmps114
  go_wp2
  go_ret
  exact ⟨ret_bool (Fl.sub_self_ord x w), _, rfl⟩

set_option maxHeartbeats 400000 in
theorem ref29Finite_any (x : Nat) (w : World) :
    Calls Try.prog 104 #[.float .f64 x] w fun e w' => e = .returned (.bool (Fl.isFin x)) ∧ ∃ n, w' = w.drewN n := by
  go_enter Try.func104, Try.ntmps104
  go_wp2
  go_ret
  exact ⟨ret_bool (Fl.sub_self_ord x w), _, rfl⟩
end Go.Proofs.Ytigkfdoeneemeaa
/- The small functions of the law of waters: small, whole, sign, walked. -/
namespace Go.Proofs.Ytigkfdoeneemeaa
open Go.RowKit

def smW (n most : Nat) : Bool := decide (n ≤ most) || (decide (2048 < n) && decide (n < 2057))
set_option maxHeartbeats 400000 in
theorem law04small_any (a : Option Addr) (n c most : Nat) (w : World) (hn : n ≤ 9223372036854775807) (hm : most ≤ 1000) :
    Calls Try.prog 119 #[.slice a n c, .int .i64 most] w fun e w' => e = .returned (.bool (smW n most)) ∧ w' = w := by
  by_cases h1 : n ≤ most
  · have d1 : decide ((n : Int) ≤ (most : Int)) = true := by simp; omega
    have d1' : decide (n ≤ most) = true := by simpa using h1
    have HE := Lib.hid (show smW n most = true by unfold smW; rw [d1']; rfl)
    go_enter Try.func119, Try.ntmps119
    go_wp2
    go_ret
    exact ⟨ret_bool HE.out.symm, rfl⟩
  · have d1 : decide ((n : Int) ≤ (most : Int)) = false := by simp; omega
    have d1' : decide (n ≤ most) = false := by simpa using h1
    by_cases h2 : 2048 < n
    · have d2 : decide ((2048 : Int) < (n : Int)) = true := by simp; omega
      have d2' : decide (2048 < n) = true := by simpa using h2
      by_cases h3 : n < 2057
      · have d3 : decide ((n : Int) < 2057) = true := by simp; omega
        have HE := Lib.hid (show smW n most = true by unfold smW; rw [d1', d2']; simpa using h3)
        go_enter Try.func119, Try.ntmps119
        go_wp2
        go_ret
        exact ⟨ret_bool HE.out.symm, rfl⟩
      · have d3 : decide ((n : Int) < 2057) = false := by simp; omega
        have HE := Lib.hid (show smW n most = false by unfold smW; rw [d1', d2']; simpa using h3)
        go_enter Try.func119, Try.ntmps119
        go_wp2
        go_ret
        exact ⟨ret_bool HE.out.symm, rfl⟩
    · have d2 : decide ((2048 : Int) < (n : Int)) = false := by simp; omega
      have d2' : decide (2048 < n) = false := by simpa using h2
      have HE := Lib.hid (show smW n most = false by unfold smW; rw [d1', d2']; rfl)
      go_enter Try.func119, Try.ntmps119
      go_wp2
      go_ret
      exact ⟨ret_bool HE.out.symm, rfl⟩

def smF (r : Fr) : Bool := smW r.num.length 20 && smW r.den.length 20
set_option maxHeartbeats 400000 in
theorem law04Small_any (r : Fr) (a : Option Addr) (c : Nat) (b : Option Addr) (d : Nat) (w : World) (hn : r.num.length ≤ 9223372036854775807) (hd : r.den.length ≤ 9223372036854775807) :
    Calls Try.prog 65 #[frV r a c b d, .int .i64 20] w fun e w' => e = .returned (.bool (smF r)) ∧ ∃ x, w' = w.ext x := by
  obtain ⟨rn, rnum, rden⟩ := r
  simp only at hn hd
  have L1 := fun W => law04small_any a rnum.length c 20 W hn (by decide)
  have L2 := fun W => law04small_any b rden.length d 20 W hd (by decide)
  have he : smF ⟨rn, rnum, rden⟩ = (smW rnum.length 20 && smW rden.length 20) := rfl
  generalize smW rnum.length 20 = u at *
  generalize smW rden.length 20 = v at *
  have H1 := Lib.hid L1
  have H2 := Lib.hid L2
  have HE := Lib.hid he
  clear L1 L2 he
  cases u
  · go_enter Try.func65, Try.ntmps65
    go_wp2_with (go_at_call 119; (first | (with_reducible refine Calls.mono (H1.out _) ?_) | (with_reducible refine Calls.mono (H2.out _) ?_)); rintro e w' ⟨rfl, rfl⟩)
    go_ret
    exact ⟨ret_bool (by rw [HE.out]; rfl), Blw.is (by repeat (first | exact Blw.refl _ | apply Blw.ext | apply Blw.alloc | apply Blw.drewN | apply Blw.drew | refine Blw.setCell ?_ _ _ (by simp)))⟩
  · go_enter Try.func65, Try.ntmps65
    go_wp2_with (go_at_call 119; (first | (with_reducible refine Calls.mono (H1.out _) ?_) | (with_reducible refine Calls.mono (H2.out _) ?_)); rintro e w' ⟨rfl, rfl⟩)
    go_ret
    exact ⟨ret_bool (by rw [HE.out]; rfl), Blw.is (by repeat (first | exact Blw.refl _ | apply Blw.ext | apply Blw.alloc | apply Blw.drewN | apply Blw.drew | refine Blw.setCell ?_ _ _ (by simp)))⟩

theorem sl_ratios : SlT Try.prog 97 88 (.agg #[.bool false, .slice none 0 0, .slice none 0 0]) 3 56 := ⟨Try.underlying97, by kernel_rfl, by kernel_rfl, by decide⟩
def wholeR (ns : List Int) : List Fr := ns.map (fun n => smallF n 1)
/-- Fractions of the call's own, in a slice of the call's own. -/
def RetFls (w : World) (rs : List Fr) (e : Ending) (w' : World) : Prop :=
  ∃ (out : List FL) (a : Option Addr) (c : Nat), e = .returned (.slice a out.length c) ∧ Blw w w' ∧ w'.ownsRow w.heap.size 88 3 (.slice a out.length c) out.length (fls out) ∧ (∀ x ∈ out, OwnFL w.heap.size w' x) ∧ out.map (·.r) = rs
theorem smallF_wf (n d : Int) : W.WF (smallF n d).num ∧ W.WF (smallF n d).den := ⟨W.wf_toW _, W.wf_toW _⟩

set_option maxRecDepth 100000 in
set_option maxHeartbeats 4000000 in
theorem whole_any (a : Option Addr) (ns : List Int) (cap : Nat) (w : World) (h : Arr w a (i64s ns)) (hl : ns.length ≤ 1000) (hb : ∀ n ∈ ns, -9223372036854775808 ≤ n ∧ n ≤ 9223372036854775807) :
    Calls Try.prog 92 #[.slice a ns.length cap] w (RetFls w (wholeR ns)) := by
  have HB := Lib.hid hb
  clear hb
  go_enter Try.func92, Try.ntmps92
  go_wp2_with fail
  go_loopw [3, 4] (fun vo vi wr => ∃ (k : Nat) (out : List FL) (b : Option Addr) (c : Nat), k ≤ ns.length ∧ vi = .int .i64 k ∧ vo = .slice b out.length c ∧ wr.ownsRow w.heap.size 88 3 (.slice b out.length c) out.length (fls out) ∧ (∀ x ∈ out, OwnFL w.heap.size wr x) ∧ Hid (out.map (·.r) = wholeR (ns.take k)) ∧ Blw w wr) (fun _ i _ => ns.length - (intOf i).toNat)
  case atStart => exact ⟨0, [], none, 0, Nat.zero_le _, rfl, rfl, World.ownsRow_nil _ _ _ _, (fun x h => by simp at h), rfl, Blw.refl _⟩
  case round =>
    obtain ⟨k, out, b, c, hk, rfl, rfl, hown, hio, hkey, hbw⟩ := hrel
    have HIO := Lib.hid hio
    clear hio
    have hlen : out.length = k := by
      have := congrArg List.length hkey.out
      simp [wholeR] at this; omega
    by_cases hlt : k < ns.length
    · obtain ⟨n, bb, o, -, hm, hg, rfl, hbs, hc⟩ := (h.blw hbw).elem hlt
      obtain ⟨n0, n1⟩ := HB.out n hm
      have HG := Lib.hid hg.out
      clear hg hm
      have HLN := Lib.hid hlen
      have hlen2 : out.length ≤ 1000 := by omega
      clear hlen
      go_wp2_with fail
      refine Calls.mono (ratioSmall_any n 1 _ n0 n1 (by decide) (by decide) (by decide)) ?_
      rintro e w5 ⟨p1, q1, p2, q2, rfl, hb5, oX, oY⟩
      obtain ⟨wf1, wf2⟩ := smallF_wf n 1
      have HWF1 := Lib.hid wf1
      have HWF2 := Lib.hid wf2
      obtain ⟨⟨ng, nw, dw⟩, hF⟩ := ex_hid (smallF n 1)
      rw [hF.out] at oX oY HWF1 HWF2 ⊢
      simp only at oX oY HWF1 HWF2
      have hown5 := ownsRow_blw hown hb5
      have HIO5 := Lib.hid (fun x hx => (HIO.out x hx).blw hb5)
      have oX5 := ownsRow_mono oX hbw.size
      have oY5 := ownsRow_mono oY hbw.size
      have hbw5 := hbw.trans hb5
      clear oX oY hown wf1 wf2 HIO
      have HCL := Lib.hid (cells_len FL.cells 3 (fun _ => rfl) out)
      go_wp2_with (at_builtin; refine wpList_app w _ rfl _ _ 97 rfl sl_ratios ((hbw5.alloc _).alloc _) _ out.length _ rfl (ownsRow_blw hown5 (((Blw.refl _).alloc _).alloc _)) _ 1 1 [.bool ng, .slice p1 nw.length q1, .slice p2 dw.length q2] rfl (by simp) (Arr.lit_at _ _ _ _ (by simp)) (by simp) (by simp [Value.oneCell']) (by unfold maxLen; omega) (by omega) ?_; intro v7 w7 hown7 hb7 hg7 _)
      obtain ⟨a7, c7, rfl, -, -, -, -, -⟩ := own_arr hown7
      have HKEY : Hid ((out ++ [(⟨⟨ng, nw, dw⟩, p1, q1, p2, q2⟩ : FL)]).map (·.r) = wholeR (ns.take (k + 1))) := by
        show _ = _
        rw [List.map_append, hkey.out, List.take_add_one, HG.out]
        simp [wholeR, hF.out]
      have HO : Hid (∀ x ∈ out ++ [(⟨⟨ng, nw, dw⟩, p1, q1, p2, q2⟩ : FL)], OwnFL w.heap.size w7 x) := by
        intro x hx
        rw [List.mem_append, List.mem_singleton] at hx
        rcases hx with hx | rfl
        · exact OwnFL.past ((HIO5.out x hx).blw (((Blw.refl _).alloc _).alloc _)) (ownsRow_blw hown5 (((Blw.refl _).alloc _).alloc _)) (by decide) hg7
        · exact OwnFL.past (OwnFL.blw ⟨oX5, oY5, HWF1.out, HWF2.out⟩ (((Blw.refl _).alloc _).alloc _)) (ownsRow_blw hown5 (((Blw.refl _).alloc _).alloc _)) (by decide) hg7
      have HOL : Hid (w7.ownsRow w.heap.size 88 3 (.slice a7 (out ++ [(⟨⟨ng, nw, dw⟩, p1, q1, p2, q2⟩ : FL)]).length c7) (out ++ [(⟨⟨ng, nw, dw⟩, p1, q1, p2, q2⟩ : FL)]).length (fls (out ++ [(⟨⟨ng, nw, dw⟩, p1, q1, p2, q2⟩ : FL)]))) := by
        have e : fls (out ++ [(⟨⟨ng, nw, dw⟩, p1, q1, p2, q2⟩ : FL)]) = fls out ++ [.bool ng, .slice p1 nw.length q1, .slice p2 dw.length q2] := by
          rw [fls, List.flatMap_append]; rfl
        show World.ownsRow _ _ _ _ _ _ _
        rw [e, List.length_append]
        exact hown7
      clear hown7 hg7
      go_roundw
      case rel => exact ⟨k + 1, _, a7, c7, by omega, by go_num, (by rw [List.length_append]; rfl), HOL.out, HO.out, HKEY, hb7⟩
      case measure => simp [intOf]; omega
    · have hkl : k = ns.length := by omega
      subst hkl
      have HK := Lib.hid (hkey.out.trans (by rw [List.take_length]))
      clear hkey hlen
      go_wp2
      go_ret
      exact ⟨out, b, c, rfl, hbw, hown, HIO.out, HK.out⟩

set_option maxHeartbeats 400000 in
theorem sign_ok (x y : FL) (w : World) (hx : FL.In w x) (hy : FL.In w y) (ox : x.r.Ok) (oy : y.r.Ok) :
    Calls Try.prog 90 #[frV x.r x.a x.c x.b x.d, frV y.r y.a y.c y.b y.d] w fun e w' => e = .returned (.int .i64 (cmpF x.r y.r)) ∧ ∃ z, w' = w.ext z := by
  have K := Lib.hid (fun (W : World) (hb : Blw w W) => ratioCompare_ok x.r y.r x.a x.c x.b x.d y.a y.c y.b y.d W (hx.blw hb) (hy.blw hb) ox oy)
  clear hx hy ox oy
  go_enter Try.func90, Try.ntmps90
  go_wp2_with fail
  refine Calls.mono (K.out _ (by repeat (first | exact Blw.refl _ | apply Blw.ext | apply Blw.alloc | apply Blw.drewN | apply Blw.drew | refine Blw.setCell ?_ _ _ (by simp)))) ?_
  rintro e w1 ⟨rfl, x1, rfl⟩
  go_wp2
  go_ret
  exact ⟨rfl, Blw.is (by repeat (first | exact Blw.refl _ | apply Blw.ext | apply Blw.alloc | apply Blw.drewN | apply Blw.drew | refine Blw.setCell ?_ _ _ (by simp)))⟩
end Go.Proofs.Ytigkfdoeneemeaa
/- The walk of the law WaterChecks. -/
namespace Go.Proofs.Ytigkfdoeneemeaa
open Go.RowKit

theorem smF_len {r : Fr} (h : smF r = true) : r.num.length ≤ 1000000 ∧ r.den.length ≤ 1000000 := by
  unfold smF smW at h
  simp at h
  omega

set_option maxRecDepth 100000 in
set_option maxHeartbeats 4000000 in
theorem checks_walk (A : Option Addr) (l : List WL) (cap : Nat) (w : World) (hA : Arr w A (wls l)) (hin : ∀ x ∈ l, FL.In w x.h) (hl : l.length ≤ 9223372036854775807) (hcap : l.length ≤ cap) (hcm : cap ≤ 9223372036854775807) :
    Calls Try.prog 10 #[.slice A l.length cap] w fun e w' => e = .returned (.bool true) ∧ ∃ x, w' = w.ext x := by
  by_cases h0 : (60 < l.length ∧ l.length ≤ 4096) ∨ 4105 < l.length
  · rcases h0 with ⟨h1, h2⟩ | h1
    · have d1 : decide ((60 : Int) < (l.length : Int)) = true := by simp; omega
      have d2 : decide ((l.length : Int) ≤ 4096) = true := by simp; omega
      go_enter Try.func10, Try.ntmps10
      go_wp2
      go_ret
      exact ⟨rfl, Blw.is (by repeat (first | exact Blw.refl _ | apply Blw.ext | apply Blw.alloc | apply Blw.drewN | apply Blw.drew | refine Blw.setCell ?_ _ _ (by simp)))⟩
    · have d1 : decide ((60 : Int) < (l.length : Int)) = true := by simp; omega
      have d2 : decide ((l.length : Int) ≤ 4096) = false := by simp; omega
      have d3 : decide ((4105 : Int) < (l.length : Int)) = true := by simp; omega
      go_enter Try.func10, Try.ntmps10
      go_wp2
      go_ret
      exact ⟨rfl, Blw.is (by repeat (first | exact Blw.refl _ | apply Blw.ext | apply Blw.alloc | apply Blw.drewN | apply Blw.drew | refine Blw.setCell ?_ _ _ (by simp)))⟩
  have hcs : decide ((60 : Int) < (l.length : Int)) = false ∨ (decide ((60 : Int) < (l.length : Int)) = true ∧ decide ((l.length : Int) ≤ 4096) = false) := by
    by_cases h1 : 60 < l.length
    · exact .inr ⟨by simp; omega, by simp; omega⟩
    · exact .inl (by simp; omega)
  have d3 : decide ((4105 : Int) < (l.length : Int)) = false := by simp; omega
  have hl4 : l.length ≤ 4105 := by omega
  have HIN := Lib.hid hin
  clear h0 hin hl
  go_enter Try.func10, Try.ntmps10
  rcases hcs with d1 | ⟨d1, d2⟩
  all_goals
    go_wp2
    clear d1 d3
    (try clear d2)
    go_loopw [3] (fun i wr => ∃ k : Nat, k ≤ l.length ∧ i = .int .i64 k ∧ Blw w wr ∧ Hid (∀ x ∈ l.take k, smF x.h.r = true)) (fun i _ => l.length - (intOf i).toNat)
    case atStart => exact ⟨0, Nat.zero_le _, rfl, Blw.refl w, fun x hx => by simp at hx⟩
    case round =>
      obtain ⟨k, hk, rfl, hb, hsm⟩ := hrel
      by_cases hlt : k < l.length
      · obtain ⟨x, b, o, hgx, hmx, rfl, hbs, c0, c1, c2, c3, c4, c5⟩ := wl_at (hA.blw hb) hlt
        have hxin : FrA wr x.h.r x.h.a x.h.c x.h.b x.h.d := (HIN.out x hmx).blw hb
        have hsc := law04Small_any x.h.r x.h.a x.h.c x.h.b x.h.d wr (Nat.le_trans hxin.cn hxin.cm) (Nat.le_trans hxin.dn hxin.dm)
        have HT : Hid (l.take (k + 1) = l.take k ++ [x]) := by show _ = _; rw [List.take_add_one, hgx]; rfl
        obtain ⟨xt, xl, xp, ⟨⟨rn, rnum, rden⟩, ra, rc, rb, rd⟩⟩ := x
        simp only at hsc c3 c4 c5
        obtain ⟨bs, hbs2⟩ : ∃ bs, bs = smF ⟨rn, rnum, rden⟩ := ⟨_, rfl⟩
        rw [← hbs2] at hsc
        have HBS := Lib.hid hbs2
        have HSC := Lib.hid hsc
        clear hxin hgx hmx hsc hbs2 c0 c1 c2
        cases bs
        · go_wp2_with fail
          refine Calls.mono HSC.out ?_
          rintro e w1 ⟨rfl, x1, rfl⟩
          go_wp2
          go_ret
          exact ⟨rfl, Blw.is (hb.ext x1)⟩
        · go_wp2_with fail
          refine Calls.mono HSC.out ?_
          rintro e w1 ⟨rfl, x1, rfl⟩
          go_wp2
          go_roundw
          case rel => exact ⟨k + 1, by omega, by go_num, hb.ext x1, fun x hx => by
            rw [HT.out, List.mem_append, List.mem_singleton] at hx
            rcases hx with hx | rfl
            · exact hsm.out x hx
            · exact HBS.out.symm⟩
          case measure => simp [intOf]; omega
      · have hkl : k = l.length := by omega
        subst hkl
        have hall : ∀ x ∈ l, x.h.r.num.length ≤ 1000000 ∧ x.h.r.den.length ≤ 1000000 := fun x hx => smF_len (hsm.out x (by rw [List.take_length]; exact hx))
        have hinr : ∀ x ∈ l, FL.In wr x.h := fun x hx => (HIN.out x hx).blw hb
        have HLW := Lib.hid (lentWaters_any A l cap wr (hA.blw hb) hinr (by omega) hall)
        have HALL := Lib.hid hall
        clear hall hinr hsm
        go_wp2_with fail
        refine Calls.mono HLW.out ?_
        rintro e w2 ⟨ls, a, c, rfl, hb2, hown, hkey, hlent⟩
        obtain ⟨_, _, ee, hA2, -, hc2, hc2m, -⟩ := own_arr hown
        cases ee
        have hlen : ls.length = l.length := by simpa using congrArg List.length hkey
        have hbw2 : Blw w w2 := hb.trans hb2
        have hA2' : Arr w2 a (wls ls) := hA2.pre (by rw [wls_app]; exact List.prefix_append _ _)
        have hin2 : ∀ x ∈ ls, FL.In w2 x.h := fun x hx => (hlent x hx).in
        have E1 := farW_key hkey true 1
        have E2 := farW_key hkey false (-1)
        have E3 := checkW_key hkey
        have P1 := fun (W : World) (hW : Blw w2 W) => waterHighest_any a ls c W (hA2'.blw hW) (fun x hx => (hin2 x hx).blw hW) (by omega)
        have P2 := fun (W : World) (hW : Blw w2 W) => waterLowest_any a ls c W (hA2'.blw hW) (fun x hx => (hin2 x hx).blw hW) (by omega)
        have P3 := fun (W : World) (hW : Blw w2 W) => waterCheck_any a ls c W (hA2'.blw hW) (fun x hx => (hin2 x hx).blw hW) (by omega)
        have Q1 := fun (W : World) (hW : Blw w2 W) => ref25Highest_any A l cap W ((hA.blw hbw2).blw hW) (fun x hx => ((HIN.out x hx).blw hbw2).blw hW) (by omega)
        have Q2 := fun (W : World) (hW : Blw w2 W) => ref25Lowest_any A l cap W ((hA.blw hbw2).blw hW) (fun x hx => ((HIN.out x hx).blw hbw2).blw hW) (by omega)
        have Q3 := fun (W : World) (hW : Blw w2 W) => refCheck25_any A l cap W ((hA.blw hbw2).blw hW) (fun x hx => ((HIN.out x hx).blw hbw2).blw hW) (by omega)
        have KW := Lib.hid (fun (W : World) (hW : Blw w2 W) => keptWaters_any wr.heap.size a A ls l c cap W (hA2.blw hW) ((hA.blw hbw2).blw hW) hkey (fun x hx => (hlent x hx).blw hW) (fun x hx => ((HIN.out x hx).blw hbw2).blw hW) (by omega) HALL.out)
        rw [E1, hlen] at P1
        rw [E2, hlen] at P2
        rw [E3, hlen] at P3
        clear E1 E2 E3 hA2 hA2' hin2 hown hkey hlent HLW
        generalize (farW l true 1).1 = u1 at *
        generalize (farW l true 1).2 = v1 at *
        generalize (farW l false (-1)).1 = u2 at *
        generalize (farW l false (-1)).2 = v2 at *
        generalize (checkW l).1 = u3 at *
        generalize (checkW l).2 = v3 at *
        have HP1 := Lib.hid P1
        have HP2 := Lib.hid P2
        have HP3 := Lib.hid P3
        have HQ1 := Lib.hid Q1
        have HQ2 := Lib.hid Q2
        have HQ3 := Lib.hid Q3
        have i1 : (l.length : Int) ≤ (c : Int) := by omega
        clear P1 P2 P3 Q1 Q2 Q3 hlen
        go_wp2_with (first
          | (go_at_call 67; (with_reducible refine Calls.mono (HP1.out _ ?_) ?_); (· exact (by repeat (first | exact Blw.refl _ | apply Blw.ext | apply Blw.alloc | apply Blw.drewN | apply Blw.drew | refine Blw.setCell ?_ _ _ (by simp)))); rintro e w9 ⟨rfl, z1, rfl⟩)
          | (go_at_call 68; (with_reducible refine Calls.mono (HQ1.out _ ?_) ?_); (· exact (by repeat (first | exact Blw.refl _ | apply Blw.ext | apply Blw.alloc | apply Blw.drewN | apply Blw.drew | refine Blw.setCell ?_ _ _ (by simp)))); rintro e w9 ⟨rfl, z2, rfl⟩)
          | (go_at_call 69; (with_reducible refine Calls.mono (HP2.out _ ?_) ?_); (· exact (by repeat (first | exact Blw.refl _ | apply Blw.ext | apply Blw.alloc | apply Blw.drewN | apply Blw.drew | refine Blw.setCell ?_ _ _ (by simp)))); rintro e w9 ⟨rfl, z3, rfl⟩)
          | (go_at_call 70; (with_reducible refine Calls.mono (HQ2.out _ ?_) ?_); (· exact (by repeat (first | exact Blw.refl _ | apply Blw.ext | apply Blw.alloc | apply Blw.drewN | apply Blw.drew | refine Blw.setCell ?_ _ _ (by simp)))); rintro e w9 ⟨rfl, z4, rfl⟩)
          | (go_at_call 71; (with_reducible refine Calls.mono (HP3.out _ ?_) ?_); (· exact (by repeat (first | exact Blw.refl _ | apply Blw.ext | apply Blw.alloc | apply Blw.drewN | apply Blw.drew | refine Blw.setCell ?_ _ _ (by simp)))); rintro e w9 ⟨rfl, z5, rfl⟩)
          | (go_at_call 72; (with_reducible refine Calls.mono (HQ3.out _ ?_) ?_); (· exact (by repeat (first | exact Blw.refl _ | apply Blw.ext | apply Blw.alloc | apply Blw.drewN | apply Blw.drew | refine Blw.setCell ?_ _ _ (by simp)))); rintro e w9 ⟨rfl, z6, rfl⟩)
          | (go_at_call 73; (with_reducible refine Calls.mono (KW.out _ ?_) ?_); (· exact (by repeat (first | exact Blw.refl _ | apply Blw.ext | apply Blw.alloc | apply Blw.drewN | apply Blw.drew | refine Blw.setCell ?_ _ _ (by simp)))); rintro e w9 ⟨rfl, z7, rfl⟩))
        go_ret
        exact ⟨rfl, Blw.is (hbw2.trans (by repeat (first | exact Blw.refl _ | apply Blw.ext | apply Blw.alloc | apply Blw.drewN | apply Blw.drew | refine Blw.setCell ?_ _ _ (by simp))))⟩
end Go.Proofs.Ytigkfdoeneemeaa
/- Arguments that came in, opened: slices of whole numbers as lists. -/
namespace Go.Proofs.Ytigkfdoeneemeaa
open Go.RowKit Go.ChangeShapes Go.WideShapes Go.ChangeAt

theorem open_list {H : Type} {enc : TypeId × Value → H} {P : Program} {W : World} {d : DataW H} {ps : List MemPlace} {T E : TypeId} {k : IntKind} {a : Option Addr} {len cap : Nat}
    (hT : P.underlying T = some (.slice E)) (hE : P.underlying E = some (.int k)) (hC : P.cellsOf E = 1)
    (h : DataW.Trod enc P W 0 (fun _ => true) true T (.slice a len cap) d ps) :
    ∃ l : List Int, l.length = len ∧ Arr W a (l.map (Value.int k)) ∧ (∀ z ∈ l, (Lit.int k z).wf = true) ∧ (a = none → cap = 0) ∧ len ≤ cap ∧ cap ≤ maxLen := by
  obtain ⟨fuel, hf⟩ := h
  rcases open_ints hT hE hC hf with ⟨hcs, _⟩ | ⟨x, l, c, zs, hcs, _, hl, hm, hz, _, hcell, hwz⟩
  · simp [Value.cells] at hcs
    obtain ⟨rfl, rfl, rfl⟩ := hcs
    exact ⟨[], rfl, .inl rfl, by simp, fun _ => rfl, Nat.le_refl _, Nat.zero_le _⟩
  · simp [Value.cells] at hcs
    obtain ⟨rfl, rfl, rfl⟩ := hcs
    have hz' : zs.length = cap := by simpa using hz
    refine ⟨zs.take len, by simp; omega, ?_, (fun z hz => hwz z (List.mem_of_mem_take hz)), (fun h => by cases h), hl, hm⟩
    by_cases h0 : len = 0
    · subst h0; exact .inl (by simp)
    obtain ⟨b, o, s⟩ := x
    have c0 := hcell 0 (by omega)
    have hs : s = none := by simpa [Addr.add] using World.cell?_spot c0
    subst hs
    have ea : ∀ j, (⟨b, o, none⟩ : Addr).add j = ⟨b, o + j, none⟩ := fun j => by unfold Addr.add; split <;> simp_all
    refine .inr ⟨b, o, rfl, block_lt_of_cell c0, fun i hi => ?_⟩
    have hi' : i < zs.length ∧ i < len := by simp at hi; omega
    rw [← ea i, hcell i hi'.1]
    simp [hi'.1, hi'.2]

theorem open_u64s {H : Type} {enc : TypeId × Value → H} {P : Program} {W : World} {d : DataW H} {ps : List MemPlace} {T E : TypeId} {a : Option Addr} {len cap : Nat}
    (hT : P.underlying T = some (.slice E)) (hE : P.underlying E = some (.int .u64)) (hC : P.cellsOf E = 1)
    (h : DataW.Trod enc P W 0 (fun _ => true) true T (.slice a len cap) d ps) :
    ∃ l : List Nat, l.length = len ∧ Arr W a (u64s l) ∧ (∀ z ∈ l, z < 2 ^ 64) ∧ (a = none → cap = 0) ∧ len ≤ cap ∧ cap ≤ maxLen := by
  obtain ⟨l, h1, h2, h3, h4, h5, h6⟩ := open_list hT hE hC h
  have hb : ∀ z ∈ l, 0 ≤ z ∧ z < 2 ^ 64 := fun z hz => by
    have := h3 z hz
    simp [Lit.wf, IntKind.min, IntKind.max, IntKind.signed, IntKind.bits] at this
    omega
  refine ⟨l.map Int.toNat, by simpa using h1, ?_, ?_, h4, h5, h6⟩
  · have e : u64s (l.map Int.toNat) = l.map (Value.int .u64) := by
      rw [u64s, List.map_map]
      apply List.map_congr_left
      intro z hz
      have := hb z hz
      simp; omega
    rw [e]; exact h2
  · intro z hz
    obtain ⟨y, hy, rfl⟩ := List.mem_map.1 hz
    have := hb y hy
    omega
theorem wf_u64 {n : Int} (h : (Lit.int .u64 n).wf = true) : ∃ m : Nat, n = m ∧ m < 2 ^ 64 := by
  simp [Lit.wf, IntKind.min, IntKind.max, IntKind.signed, IntKind.bits] at h
  exact ⟨n.toNat, by omega, by omega⟩
end Go.Proofs.Ytigkfdoeneemeaa
/- Arguments that came in, opened by their types: bools, numbers, floats, strings, structs, slices of anything. -/
namespace Go.Proofs.Ytigkfdoeneemeaa
open Go.RowKit Go.ChangeShapes Go.WideShapes Go.ChangeAt

/-- Cells that are elements, one behind the other. -/
theorem chunks {α : Type} (f : α → List Value) (k : Nat) (P : α → Prop) (len : Nat) : ∀ (cells : List Value), cells.length = len * k → (∀ i, i < len → ∃ x, P x ∧ (cells.drop (i * k)).take k = f x) →
    ∃ l : List α, l.length = len ∧ cells = l.flatMap f ∧ ∀ x ∈ l, P x := by
  induction len with
  | zero => intro cells hl _; exact ⟨[], rfl, List.eq_nil_of_length_eq_zero (by omega), by simp⟩
  | succ n ih =>
    intro cells hl h
    obtain ⟨x, hx, h0⟩ := h 0 (by omega)
    obtain ⟨l, h1, h2, h3⟩ := ih (cells.drop k) (by rw [List.length_drop, hl, Nat.add_mul]; omega) (fun i hi => by
      obtain ⟨y, hy, e⟩ := h (i + 1) (by omega)
      refine ⟨y, hy, ?_⟩
      rw [List.drop_drop, ← e, Nat.add_mul, Nat.one_mul, Nat.add_comm k])
    refine ⟨x :: l, by simp [h1], ?_, ?_⟩
    · rw [List.flatMap_cons, ← h0, ← h2]; simp
    · intro y hy
      rcases List.mem_cons.1 hy with rfl | hy
      · exact hx
      · exact h3 y hy

section
variable {H : Type} {enc : TypeId × Value → H} {P : Program} {w : World} {t e : TypeId} {cs : List Value}

/-- These cells read as data of this type. -/
def Rds (enc : TypeId × Value → H) (P : Program) (w : World) (t : TypeId) (cs : List Value) : Prop := ∃ fuel x, DataW.trod enc P w 0 (fun _ => true) true fuel t cs = some x
theorem Rds.of {v : Value} {d : DataW H} {p : List MemPlace} (h : DataW.Trod enc P w 0 (fun _ => true) true t v d p) : Rds enc P w t v.cells.toList := by
  obtain ⟨f, h⟩ := h; exact ⟨f, _, h⟩
theorem rds_bool (ht : P.underlying t = some .bool) (h : Rds enc P w t cs) : ∃ b, cs = [.bool b] := by
  obtain ⟨f, x, h⟩ := h
  obtain ⟨b, h, _⟩ := DataW.trod_bool ht h
  exact ⟨b, h⟩
theorem rds_int {k : IntKind} (ht : P.underlying t = some (.int k)) (h : Rds enc P w t cs) : ∃ n, cs = [.int k n] ∧ (Lit.int k n).wf = true := by
  obtain ⟨f, x, h⟩ := h
  obtain ⟨n, h, _, hw⟩ := DataW.trod_int ht h
  exact ⟨n, h, hw⟩
theorem rds_float {k : FloatKind} (ht : P.underlying t = some (.float k)) (h : Rds enc P w t cs) : ∃ n, cs = [.float k n] ∧ (Lit.float k n).wf = true := by
  obtain ⟨f, x, h⟩ := h
  cases f with
  | zero => simp [DataW.trod] at h
  | succ n =>
    unfold DataW.trod at h
    rw [ht] at h
    split at h <;> simp_all
theorem rds_string (ht : P.underlying t = some .string) (h : Rds enc P w t cs) : ∃ s : ByteArray, cs = [.string s] ∧ s.size ≤ maxLen := by
  obtain ⟨f, x, h⟩ := h
  obtain ⟨s, h, _, hs⟩ := DataW.trod_string ht h
  exact ⟨s, h, hs⟩
theorem rds_struct {fs : Array Field} (ht : P.underlying t = some (.struct fs)) (h : Rds enc P w t cs) :
    cs.length = P.cellsOf t ∧ ∀ (i : Nat) (f : Field), fs[i]? = some f → Rds enc P w f.type ((cs.drop f.offset).take (P.cellsOf f.type)) := by
  obtain ⟨f, x, h⟩ := h
  obtain ⟨xs, n, _, _, hl, hx, hf⟩ := DataW.trod_struct ht h
  refine ⟨hl, fun i f hi => ?_⟩
  have hi' : i < xs.length := by rw [hx]; exact (Array.getElem?_eq_some_iff.1 hi).1
  exact ⟨n, xs[i], by rw [hf i f hi, List.getElem?_eq_getElem hi']⟩
theorem add_add (b o i j : Nat) : ((⟨b, o, none⟩ : Addr).add i).add j = ⟨b, o + (i + j), none⟩ := by
  have ea : ∀ o j, (⟨b, o, none⟩ : Addr).add j = ⟨b, o + j, none⟩ := fun o j => by unfold Addr.add; split <;> simp_all
  rw [ea, ea, Nat.add_assoc]
theorem rds_slice (ht : P.underlying t = some (.slice e)) (k : Nat) (hk : P.cellsOf e = k) (hk0 : 0 < k) (h : Rds enc P w t cs) :
    ∃ (a : Option Addr) (len cap : Nat) (cells : List Value), cs = [.slice a len cap] ∧ (a = none → cap = 0) ∧ len ≤ cap ∧ cap ≤ maxLen ∧ cells.length = len * k ∧ Arr w a cells ∧
      ∀ i, i < len → Rds enc P w e ((cells.drop (i * k)).take k) := by
  obtain ⟨f, x, h⟩ := h
  rcases DataW.trod_slice ht h with ⟨h, _⟩ | ⟨a, len, cap, elems, rest, n, _, h, _, _, hl, hc, he, hel, _⟩
  · exact ⟨none, 0, 0, [], h, fun _ => rfl, Nat.le_refl _, Nat.zero_le _, by simp, .inl rfl, fun i hi => by omega⟩
  · rw [hk] at hel
    by_cases h0 : len = 0
    · subst h0
      exact ⟨some a, 0, cap, [], h, (fun h => by cases h), hl, hc, by simp, .inl rfl, fun i hi => by omega⟩
    have cell : ∀ i, i < len → ∃ ci, w.cells? 0 (a.add (i * k)) k = some ci ∧ ∃ y, DataW.trod enc P w 0 (fun _ => true) true n e ci = some y := by
      intro i hi
      have := hel i hi
      rw [List.getElem?_eq_getElem (by omega)] at this
      obtain ⟨ci, h1, h2⟩ := Option.bind_eq_some_iff.1 this
      exact ⟨ci, h1, _, h2⟩
    obtain ⟨c0, hc0, _⟩ := cell 0 (by omega)
    obtain ⟨_, hcl, hcc⟩ := World.cells?_some hc0
    have hsp0 := hcc 0 hk0
    rw [List.getElem?_eq_getElem (by omega)] at hsp0
    obtain ⟨b, o, s⟩ := a
    have hs : s = none := by
      have := World.cell?_spot hsp0
      simpa [Addr.add] using this
    subst hs
    rw [add_add] at hsp0
    have cellat : ∀ i, i < len → ∀ r, r < k → ∃ v, w.cell? ⟨b, o + (i * k + r), none⟩ = some v := by
      intro i hi r hr
      obtain ⟨ci, h1, _⟩ := cell i hi
      obtain ⟨_, h2, h3⟩ := World.cells?_some h1
      have := h3 r hr
      rw [add_add, List.getElem?_eq_getElem (by omega)] at this
      exact ⟨_, this⟩
    let cells := (List.range (len * k)).map fun j => (w.cell? ⟨b, o + j, none⟩).getD undef
    have hlen : cells.length = len * k := by simp [cells]
    have hat : ∀ j, j < len * k → w.cell? ⟨b, o + j, none⟩ = cells[j]? := by
      intro j hj
      have hi : j / k < len := Nat.div_lt_of_lt_mul (by rw [Nat.mul_comm]; exact hj)
      obtain ⟨v, hv⟩ := cellat (j / k) hi (j % k) (Nat.mod_lt _ hk0)
      have e1 : j / k * k + j % k = j := Nat.div_add_mod' j k
      rw [e1] at hv
      simp [cells, hj, hv]
    refine ⟨some ⟨b, o, none⟩, len, cap, cells, h, (fun h => by cases h), hl, hc, hlen, .inr ⟨b, o, rfl, block_lt_of_cell hsp0, fun i hi => hat i (by omega)⟩, fun i hi => ?_⟩
    obtain ⟨ci, h1, y, hy⟩ := cell i hi
    obtain ⟨_, h2, h3⟩ := World.cells?_some h1
    refine ⟨n, y, ?_⟩
    have : (cells.drop (i * k)).take k = ci := by
      have hb : i * k + k ≤ len * k := by
        have := Nat.mul_le_mul_right k (show i + 1 ≤ len from hi)
        rw [Nat.add_mul, Nat.one_mul] at this; exact this
      apply List.ext_getElem?
      intro r
      by_cases hr : r < k
      · rw [List.getElem?_take, if_pos hr, List.getElem?_drop, ← hat (i * k + r) (by omega), ← h3 r hr, add_add]
      · rw [List.getElem?_eq_none (by simp; omega), List.getElem?_eq_none (by omega)]
    rw [this]; exact hy
end
end Go.Proofs.Ytigkfdoeneemeaa
/- Fractions handed in, opened. -/
namespace Go.Proofs.Ytigkfdoeneemeaa
open Go.RowKit Go.ChangeShapes Go.WideShapes Go.ChangeAt

theorem cellsU32 : Try.prog.cellsOf 135 = 1 := by kernel_rfl
theorem cellsWords : Try.prog.cellsOf 86 = 1 := by kernel_rfl
theorem cellsBool : Try.prog.cellsOf 4 = 1 := by kernel_rfl
theorem cellsRatio : Try.prog.cellsOf 88 = 3 := by kernel_rfl
theorem wf_u32' {n : Int} (h : (Lit.int .u32 n).wf = true) : ∃ m : Nat, n = (m : Int) ∧ m < 4294967296 := by
  simp [Lit.wf, IntKind.min, IntKind.max, IntKind.signed, IntKind.bits] at h
  exact ⟨n.toNat, by omega, by omega⟩
set_option maxRecDepth 100000 in
theorem rds_words {H : Type} {enc : TypeId × Value → H} {w : World} {cs : List Value} (h : Rds enc Try.prog w 86 cs) :
    ∃ (a : Option Addr) (l : List Nat) (cap : Nat), cs = [.slice a l.length cap] ∧ (a = none → l.length = 0 ∧ cap = 0) ∧ l.length ≤ cap ∧ cap ≤ maxLen ∧ Arr w a (u32s l) ∧ W.WF l := by
  obtain ⟨a, len, cap, cells, he, hn, hl, hc, hcl, harr, hel⟩ := rds_slice Try.underlying86 1 cellsU32 (by decide) h
  obtain ⟨l, h1, h2, h3⟩ := chunks (fun n : Nat => [Value.int .u32 n]) 1 (fun n => n < 4294967296) len cells hcl (fun i hi => by
    obtain ⟨n, hn, hw⟩ := rds_int Try.underlying135 (hel i hi)
    obtain ⟨m, rfl, hm⟩ := wf_u32' hw
    exact ⟨m, hm, hn⟩)
  have e : cells = u32s l := by rw [h2]; clear h1 h2 h3; induction l with
    | nil => rfl
    | cons x l ih => rw [List.flatMap_cons, ih]; rfl
  subst h1
  exact ⟨a, l, cap, he, fun h => ⟨by have := hn h; omega, hn h⟩, hl, hc, by rw [← e]; exact harr, h3⟩
set_option maxRecDepth 100000 in
theorem rds_ratio {H : Type} {enc : TypeId × Value → H} {w : World} {cs : List Value} (h : Rds enc Try.prog w 88 cs) : ∃ x : FL, FL.In w x ∧ cs = x.cells := by
  obtain ⟨hl, hf⟩ := rds_struct Try.underlying88 h
  have f0 := hf 0 _ rfl
  have f1 := hf 1 _ rfl
  have f2 := hf 2 _ rfl
  rw [cellsRatio] at hl
  match cs, hl with
  | [c0, c1, c2], _ =>
    simp [cellsBool, cellsWords] at f0 f1 f2
    obtain ⟨b, hb⟩ := rds_bool Try.underlying4 f0
    obtain ⟨a1, l1, k1, e1, n1, m1, q1, r1, w1⟩ := rds_words f1
    obtain ⟨a2, l2, k2, e2, n2, m2, q2, r2, w2⟩ := rds_words f2
    simp at hb e1 e2
    unfold maxLen at q1 q2
    exact ⟨⟨⟨b, l1, l2⟩, a1, k1, a2, k2⟩, ⟨r1, r2, m1, q1, m2, q2, n1, n2, w1, w2⟩, by rw [hb, e1, e2]; rfl⟩
set_option maxRecDepth 100000 in
theorem open_ratio {H : Type} {enc : TypeId × Value → H} {w : World} {r : Reach} {b0 : Nat} {v : Value} {d : DataW H} {p : List MemPlace} (hv : Value.okWide Try.prog w r b0 88 v)
    (h : DataW.Trod enc Try.prog w 0 (fun _ => true) true 88 v d p) : ∃ x : FL, v = frV x.r x.a x.c x.b x.d ∧ FL.In w x := by
  obtain ⟨cs, rfl, -⟩ := okWide_struct Try.underlying88 hv
  obtain ⟨x, hx, he⟩ := rds_ratio (Rds.of h)
  exact ⟨x, by obtain ⟨l⟩ := cs; simp only [Value.cells] at he; rw [he]; rfl, hx⟩
set_option maxRecDepth 100000 in
theorem open_ratios {H : Type} {enc : TypeId × Value → H} {w : World} {d : DataW H} {ps : List MemPlace} {a : Option Addr} {len cap : Nat}
    (h : DataW.Trod enc Try.prog w 0 (fun _ => true) true 97 (.slice a len cap) d ps) :
    ∃ l : List FL, l.length = len ∧ Arr w a (fls l) ∧ (∀ x ∈ l, FL.In w x) ∧ (a = none → cap = 0) ∧ len ≤ cap ∧ cap ≤ maxLen := by
  obtain ⟨a', len', cap', cells, he, hn, hl, hc, hcl, harr, hel⟩ := rds_slice Try.underlying97 3 cellsRatio (by decide) (Rds.of h)
  simp [Value.cells] at he
  obtain ⟨rfl, rfl, rfl⟩ := he
  obtain ⟨l, h1, h2, h3⟩ := chunks FL.cells 3 (FL.In w) len cells hcl (fun i hi => by
    obtain ⟨p, hp, e⟩ := rds_ratio (hel i hi)
    exact ⟨p, hp, e⟩)
  exact ⟨l, h1, by rw [fls, ← h2]; exact harr, h3, hn, hl, hc⟩
end Go.Proofs.Ytigkfdoeneemeaa
/- Waters handed in, opened. -/
namespace Go.Proofs.Ytigkfdoeneemeaa
open Go.RowKit Go.ChangeShapes Go.WideShapes Go.ChangeAt

theorem cellsIntW : Try.prog.cellsOf 3 = 1 := by kernel_rfl
theorem cellsWater : Try.prog.cellsOf 90 = 6 := by kernel_rfl
set_option maxRecDepth 100000 in
theorem rds_water {H : Type} {enc : TypeId × Value → H} {w : World} {cs : List Value} (h : Rds enc Try.prog w 90 cs) : ∃ x : WL, FL.In w x.h ∧ cs = x.cells := by
  obtain ⟨hl, hf⟩ := rds_struct Try.underlying90 h
  have f0 := hf 0 _ rfl
  have f1 := hf 1 _ rfl
  have f2 := hf 2 _ rfl
  have f3 := hf 3 _ rfl
  rw [cellsWater] at hl
  match cs, hl with
  | [c0, c1, c2, c3, c4, c5], _ =>
    simp [cellsBool, cellsIntW, cellsRatio] at f0 f1 f2 f3
    obtain ⟨t, ht, -⟩ := rds_int Try.underlying3 f0
    obtain ⟨la, hla, -⟩ := rds_int Try.underlying3 f1
    obtain ⟨b, hb⟩ := rds_bool Try.underlying4 f2
    obtain ⟨x, hx, e⟩ := rds_ratio f3
    simp [FL.cells] at ht hla hb e
    exact ⟨⟨t, la, b, x⟩, hx, by rw [ht, hla, hb, e.1, e.2.1, e.2.2]; rfl⟩
set_option maxRecDepth 100000 in
theorem open_waters {H : Type} {enc : TypeId × Value → H} {w : World} {d : DataW H} {ps : List MemPlace} {a : Option Addr} {len cap : Nat}
    (h : DataW.Trod enc Try.prog w 0 (fun _ => true) true 84 (.slice a len cap) d ps) :
    ∃ l : List WL, l.length = len ∧ Arr w a (wls l) ∧ (∀ x ∈ l, FL.In w x.h) ∧ (a = none → cap = 0) ∧ len ≤ cap ∧ cap ≤ maxLen := by
  obtain ⟨a', len', cap', cells, he, hn, hl, hc, hcl, harr, hel⟩ := rds_slice Try.underlying84 6 cellsWater (by decide) (Rds.of h)
  simp [Value.cells] at he
  obtain ⟨rfl, rfl, rfl⟩ := he
  obtain ⟨l, h1, h2, h3⟩ := chunks WL.cells 6 (fun x => FL.In w x.h) len cells hcl (fun i hi => by
    obtain ⟨p, hp, e⟩ := rds_water (hel i hi)
    exact ⟨p, hp, e⟩)
  exact ⟨l, h1, by rw [wls, ← h2]; exact harr, h3, hn, hl, hc⟩
end Go.Proofs.Ytigkfdoeneemeaa
