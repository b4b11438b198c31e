/- Fractions made: lowest, size, Small, copied, turned, Neg, walked. -/
import Derived.Test.YtigkfdoeneemeaaRat2
namespace Go.Proofs.Ytigkfdoeneemeaa
open Go.RowKit

/-- A fraction of the call's own, and an error. -/
def RetFr (w : World) (r : Fr) (er : Int) (e : Ending) (w' : World) : Prop :=
  ∃ (a : Option Addr) (c : Nat) (b : Option Addr) (d : Nat), e = .returned (.tuple #[frV r a c b d, .int .i64 er]) ∧ Blw w w' ∧ w'.ownsRow w.heap.size 135 1 (.slice a r.num.length c) r.num.length (u32s r.num) ∧ w'.ownsRow w.heap.size 135 1 (.slice b r.den.length d) r.den.length (u32s r.den)
theorem FrA.own {w : World} {B : Nat} {r : Fr} {a : Option Addr} {c : Nat} {b : Option Addr} {d : Nat} (h : w.ownsRow B 135 1 (.slice a r.num.length c) r.num.length (u32s r.num)) (k : w.ownsRow B 135 1 (.slice b r.den.length d) r.den.length (u32s r.den)) (wn : W.WF r.num) (wd : W.WF r.den) : FrA w r a c b d := by
  obtain ⟨a', c', e, h1, h2, h3, h4, h5⟩ := own_arr h
  cases e
  obtain ⟨b', d', e, k1, k2, k3, k4, k5⟩ := own_arr k
  cases e
  exact ⟨h1, k1, h3, h4, k3, k4, h5, k5, wn, wd⟩

/-- A block of three cells, written anew. -/
theorem three {w : World} {g : Nat} {v0 v1 v2 : Value} {t : TypeId} (h : w.heap[g]? = some (.cells #[v0, v1, v2] t (0, 0))) (u0 u1 u2 : Value) :
    (∀ i, w.frozen? ⟨g, i, none⟩ = false) ∧ w.cell? ⟨g, 0, none⟩ = some v0 ∧ w.cell? ⟨g, 1, none⟩ = some v1 ∧ w.cell? ⟨g, 2, none⟩ = some v2 ∧
    (w.setCell ⟨g, 0, none⟩ u0).cell? ⟨g, 0, none⟩ = some u0 ∧ ((w.setCell ⟨g, 0, none⟩ u0).setCell ⟨g, 1, none⟩ u1).cell? ⟨g, 1, none⟩ = some u1 ∧ (((w.setCell ⟨g, 0, none⟩ u0).setCell ⟨g, 1, none⟩ u1).setCell ⟨g, 2, none⟩ u2).cell? ⟨g, 2, none⟩ = some u2 :=
  ⟨fun i => frozen_of_row w g i _ _ h, (cell_of_row w g 0 _ _ _ h).trans rfl, (cell_of_row w g 1 _ _ _ h).trans rfl, (cell_of_row w g 2 _ _ _ h).trans rfl, (cell_of_row _ g 0 _ _ _ (at_set 0 u0 h)).trans (by simp), (cell_of_row _ g 1 _ _ _ (at_set 1 u1 (at_set 0 u0 h))).trans (by simp), (cell_of_row _ g 2 _ _ _ (at_set 2 u2 (at_set 1 u1 (at_set 0 u0 h)))).trans (by simp)⟩
theorem blw_three {w w' : World} {g : Nat} (h : Blw w w') (hg : w.heap.size ≤ g) (u0 u1 u2 : Value) : Blw w (((w'.setCell ⟨g, 0, none⟩ u0).setCell ⟨g, 1, none⟩ u1).setCell ⟨g, 2, none⟩ u2) :=
  ((h.setCell _ _ hg).setCell _ _ hg).setCell _ _ hg
theorem own_three {w : World} {B g : Nat} {e : TypeId} {size n : Nat} {v : Value} {cs : List Value} (h : w.ownsRow B e size v n cs) (hg : g < B) (u0 u1 u2 : Value) : (((w.setCell ⟨g, 0, none⟩ u0).setCell ⟨g, 1, none⟩ u1).setCell ⟨g, 2, none⟩ u2).ownsRow B e size v n cs :=
  KeptO.own (O := fun k => k = g) (((KeptO.setCell (KeptO.refl (O := fun k => k = g) w) ⟨g, 0, none⟩ u0 (.inl rfl)).setCell ⟨g, 1, none⟩ u1 (.inl rfl)).setCell ⟨g, 2, none⟩ u2 (.inl rfl)) h (fun k hk e => by have := (World.ownsRow.lt h k hk).1; omega)

set_option maxRecDepth 100000 in
set_option maxHeartbeats 4000000 in
theorem ratioLowest_any (neg : Bool) (a b : Option Addr) (l m : List Nat) (c d : Nat) (w : World) (h : Arr w a (u32s l)) (k : Arr w b (u32s m)) (hc : l.length ≤ c) (hd : m.length ≤ d) (hcm : c ≤ 9223372036854775807) (hdm : d ≤ 9223372036854775807) (ha : a = none → l.length = 0 ∧ c = 0) (hb : b = none → m.length = 0 ∧ d = 0)
    (wl : W.WF l) (wm : W.WF m) (nl : W.Nrm l) (nm : W.Nrm m) (hl : l.length ≤ 8192) (hm : m.length ≤ 8192) (hm0 : 0 < m.length) (hX : W.val l / Nat.gcd (W.val l) (W.val m) < W.pw 2048) (hY : W.val m / Nat.gcd (W.val l) (W.val m) < W.pw 2048) :
    Calls Try.prog 166 #[.bool neg, .slice a l.length c, .slice b m.length d] w (RetFr w ⟨neg && decide (0 < (W.toW (W.val l / Nat.gcd (W.val l) (W.val m))).length), W.toW (W.val l / Nat.gcd (W.val l) (W.val m)), W.toW (W.val m / Nat.gcd (W.val l) (W.val m))⟩ 0) := by
  have GC := fun (W : World) (hb' : Blw w W) => natGcd_any a b l m c d W (h.blw hb') (k.blw hb') ha hb wl wm nl nm hl hm
  have vm : 0 < W.val m := W.val_pos nm (by intro e; rw [e] at hm0; simp at hm0)
  obtain ⟨G, hG⟩ : ∃ G, Nat.gcd (W.val l) (W.val m) = G := ⟨_, rfl⟩
  have G0 : 0 < G := by rw [← hG]; exact Nat.gcd_pos_of_pos_right _ vm
  have GB : G ≤ W.val m := by rw [← hG]; exact Nat.gcd_le_right _ vm
  have gl : (W.toW G).length ≤ 8192 := by
    refine Nat.le_trans ?_ hm
    have := W.len_toW_le.2 (Nat.lt_of_le_of_lt GB (W.val_lt wm))
    exact this
  have g0 : 0 < (W.toW G).length := by
    rcases Nat.eq_zero_or_pos (W.toW G).length with e | e
    · have := W.toW_nil.1 (List.eq_nil_of_length_eq_zero e); omega
    · exact e
  rw [hG] at hX hY GC ⊢
  have lX := W.len_toW_le.2 hX
  have lY := W.len_toW_le.2 hY
  have D1 := fun (W' : World) (hb' : Blw w W') (a3 : Option Addr) (c3 : Nat) (o3 : Arr W' a3 (u32s (W.toW G))) (k3 : (W.toW G).length ≤ c3) (k4 : c3 ≤ 9223372036854775807) => natDivMod_any a a3 l (W.toW G) c c3 W' (h.blw hb') o3 hc k3 hcm k4 ha wl (W.wf_toW G) nl (W.nrm_toW G) hl g0 gl
  have D2 := fun (W' : World) (hb' : Blw w W') (a3 : Option Addr) (c3 : Nat) (o3 : Arr W' a3 (u32s (W.toW G))) (k3 : (W.toW G).length ≤ c3) (k4 : c3 ≤ 9223372036854775807) => natDivMod_any b a3 m (W.toW G) d c3 W' (k.blw hb') o3 hd k3 hdm k4 hb wm (W.wf_toW G) nm (W.nrm_toW G) hm g0 gl
  simp only [W.val_toW] at D1 D2
  generalize W.val l / G = X at *
  generalize W.val m / G = Y at *
  generalize W.val l % G = X2 at *
  generalize W.val m % G = Y2 at *
  have HG := Lib.hid GC
  have HD1 := Lib.hid D1
  have HD2 := Lib.hid D2
  clear GC D1 D2 hG GB G0 vm h k hX hY
  have f1 : decide ((2048 : Int) < ((W.toW X).length : Int)) = false := by simp; omega
  have f2 : decide ((2048 : Int) < ((W.toW Y).length : Int)) = false := by simp; omega
  have hF0 : (w.alloc (.cells #[.bool false, .slice none 0 0, .slice none 0 0] 88)).heap[w.heap.size]? = some (.cells #[.bool false, .slice none 0 0, .slice none 0 0] 88 (0, 0)) := heap_alloc_new _ _
  go_enter Try.func166, Try.ntmps166
  go_wp2_with fail
  refine Calls.mono (HG.out _ (by repeat (first | exact Blw.refl _ | apply Blw.ext | apply Blw.alloc | apply Blw.drewN | apply Blw.drew | refine Blw.setCell ?_ _ _ (by simp)))) ?_
  rintro e w2 ⟨a3, c3, rfl, hb2, o3⟩
  obtain ⟨a4, c4, he, k1, k2, k3, k4, k5⟩ := own_arr o3
  cases he
  have hbw2 : Blw w w2 := ((Blw.refl w).alloc _).trans hb2
  have hF2 := (KeptO.of_blw (O := fun _ => False) hb2).heap hF0 id
  clear o3 k2 k5 hF0
  go_wp2_with fail
  refine Calls.mono (HD1.out w2 hbw2 a3 c3 k1 k3 k4) ?_
  rintro e w3 ⟨p1, q1, p2, q2, rfl, hb3, oX, -⟩
  have hF3 := (KeptO.of_blw (O := fun _ => False) hb3).heap hF2 id
  go_wp2_with fail
  refine Calls.mono (HD2.out w3 (hbw2.trans hb3) a3 c3 (k1.blw hb3) k3 k4) ?_
  rintro e w4 ⟨p3, q3, p4, q4, rfl, hb4, oY, -⟩
  have hF4 := (KeptO.of_blw (O := fun _ => False) hb4).heap hF3 id
  have oX4 := ownsRow_mono (ownsRow_blw oX hb4) (show w.heap.size + 1 ≤ w2.heap.size from Nat.le_trans (by simp) hb2.size)
  have oY4 := ownsRow_mono oY (show w.heap.size + 1 ≤ w3.heap.size from Nat.le_trans (Nat.le_trans (by simp) hb2.size) hb3.size)
  have hbw4 := (hbw2.trans hb3).trans hb4
  have l1 : (W.toW X).length ≤ 9223372036854775807 := by omega
  have l2 : (W.toW Y).length ≤ 9223372036854775807 := by omega
  clear hF2 hF3 oX oY hb4 hb3 hb2 hbw2 k1
  cases neg
  · obtain ⟨hfz, d0, d1, d2, r0, r1, r2⟩ := three hF4 (.bool false) (.slice p1 (W.toW X).length q1) (.slice p3 (W.toW Y).length q3)
    go_wp2_with (go_at_call 151; refine (ratioLong_any _ _ _ _ (by omega)).mono ?_; rintro e w' ⟨rfl, h9⟩; subst h9)
    exact bodyPost_ret (v := .tuple #[.agg #[.bool false, .slice p1 (W.toW X).length q1, .slice p3 (W.toW Y).length q3], .int .i64 0]) (by simp [results, Try.results166, go_sem, r0, r1, r2]) rfl ⟨p1, q1, p3, q3, rfl, blw_three hbw4 (Nat.le_refl _) _ _ _, own_three (ownsRow_mono oX4 (Nat.le_refl _)) (Nat.lt_succ_self _) _ _ _ |> (ownsRow_mono · (Nat.le_succ _)), own_three oY4 (Nat.lt_succ_self _) _ _ _ |> (ownsRow_mono · (Nat.le_succ _))⟩
  · obtain ⟨hfz, d0, d1, d2, r0, r1, r2⟩ := three hF4 (.bool (decide (0 < (W.toW X).length))) (.slice p1 (W.toW X).length q1) (.slice p3 (W.toW Y).length q3)
    go_wp2_with (go_at_call 151; refine (ratioLong_any _ _ _ _ (by omega)).mono ?_; rintro e w' ⟨rfl, h9⟩; subst h9)
    exact bodyPost_ret (v := .tuple #[.agg #[.bool (decide (0 < (W.toW X).length)), .slice p1 (W.toW X).length q1, .slice p3 (W.toW Y).length q3], .int .i64 0]) (by simp [results, Try.results166, go_sem, r0, r1, r2]) rfl ⟨p1, q1, p3, q3, rfl, blw_three hbw4 (Nat.le_refl _) _ _ _, own_three oX4 (Nat.lt_succ_self _) _ _ _ |> (ownsRow_mono · (Nat.le_succ _)), own_three oY4 (Nat.lt_succ_self _) _ _ _ |> (ownsRow_mono · (Nat.le_succ _))⟩

set_option maxHeartbeats 400000 in
theorem ratioSize_any (n : Int) (w : World) (h0 : -9223372036854775808 ≤ n) (h1 : n ≤ 9223372036854775807) :
    Calls Try.prog 167 #[.int .i64 n] w (RetW w n.natAbs) := by
  have hO := natOf_any n.natAbs w (by omega)
  have e1 : IntKind.u64.wrap (-(IntKind.u64.wrap n)) = if n < 0 then (n.natAbs : Int) else IntKind.u64.wrap (-(IntKind.u64.wrap n)) := by
    split
    · rw [IntKind.wrap_u64, IntKind.wrap_u64]; omega
    · rfl
  go_enter Try.func167, Try.ntmps167
  by_cases hn : n < 0
  · rw [if_pos hn] at e1
    have e2 : (-(n % 18446744073709551616)) % 18446744073709551616 = (n.natAbs : Int) := by omega
    have e3 : (-n) % 18446744073709551616 = (n.natAbs : Int) := by omega
    go_wp2_with fail
    refine Calls.mono hO ?_
    rintro e w1 ⟨a1, c1, x1, rfl, rfl, o1, -, -⟩
    clear hO
    go_wp2
    go_ret
    exact RetOwn.of o1 (by repeat (first | exact Blw.refl _ | apply Blw.ext | apply Blw.alloc | apply Blw.drewN | apply Blw.drew | refine Blw.setCell ?_ _ _ (by simp)))
  · have e2 : n % 18446744073709551616 = (n.natAbs : Int) := by omega
    have e4 : IntKind.u64.wrap n = (n.natAbs : Int) := by rw [IntKind.wrap_u64]; omega
    go_wp2_with fail
    refine Calls.mono hO ?_
    rintro e w1 ⟨a1, c1, x1, rfl, rfl, o1, -, -⟩
    clear hO
    go_wp2
    go_ret
    exact RetOwn.of o1 (by repeat (first | exact Blw.refl _ | apply Blw.ext | apply Blw.alloc | apply Blw.drewN | apply Blw.drew | refine Blw.setCell ?_ _ _ (by simp)))

theorem pw_mono_any (a b : Nat) (h : a ≤ b) : W.pw a ≤ W.pw b := Nat.pow_le_pow_right (by decide) (by first | exact h | omega)
theorem u64_lt_pw {x : Nat} (h : x < 18446744073709551616) : x < W.pw 2048 :=
  Nat.lt_of_lt_of_le (show x < W.pw 2 by have : W.pw 2 = 18446744073709551616 := by decide
                                         omega) (pw_mono_any 2 2048 (by decide))

/-- n over d in its one form. -/
def smallF (n d : Int) : Fr :=
  ⟨(decide (n < 0) != decide (d < 0)) && decide (0 < (W.toW (n.natAbs / Nat.gcd n.natAbs d.natAbs)).length), W.toW (n.natAbs / Nat.gcd n.natAbs d.natAbs), W.toW (d.natAbs / Nat.gcd n.natAbs d.natAbs)⟩

theorem smallF_same {n d : Int} (h : decide (n < 0) = decide (d < 0)) : smallF n d = ⟨false, W.toW (n.natAbs / Nat.gcd n.natAbs d.natAbs), W.toW (d.natAbs / Nat.gcd n.natAbs d.natAbs)⟩ := by
  unfold smallF; rw [h]; simp
theorem smallF_diff {n d : Int} (h : decide (n < 0) = !decide (d < 0)) : smallF n d = ⟨decide (0 < (W.toW (n.natAbs / Nat.gcd n.natAbs d.natAbs)).length), W.toW (n.natAbs / Nat.gcd n.natAbs d.natAbs), W.toW (d.natAbs / Nat.gcd n.natAbs d.natAbs)⟩ := by
  unfold smallF; rw [h]; simp

set_option maxRecDepth 100000 in
set_option maxHeartbeats 4000000 in
theorem ratioSmall_any (n d : Int) (w : World) (n0 : -9223372036854775808 ≤ n) (n1 : n ≤ 9223372036854775807) (d0 : -9223372036854775808 ≤ d) (d1 : d ≤ 9223372036854775807) (hd : d ≠ 0) :
    Calls Try.prog 141 #[.int .i64 n, .int .i64 d] w (RetFr w (smallF n d) 0) := by
  have L := fun (neg : Bool) (a : Option Addr) (c : Nat) (b : Option Addr) (e : Nat) (W' : World) (h : Arr W' a (u32s (W.toW n.natAbs))) (k : Arr W' b (u32s (W.toW d.natAbs))) (hc : (W.toW n.natAbs).length ≤ c) (hcm : c ≤ 9223372036854775807) (ha : a = none → (W.toW n.natAbs).length = 0 ∧ c = 0) (he : (W.toW d.natAbs).length ≤ e) (hem : e ≤ 9223372036854775807) (hb : b = none → (W.toW d.natAbs).length = 0 ∧ e = 0) =>
    ratioLowest_any neg a b (W.toW n.natAbs) (W.toW d.natAbs) c e W' h k hc he hcm hem ha hb (W.wf_toW _) (W.wf_toW _) (W.nrm_toW _) (W.nrm_toW _)
      (Nat.le_trans (W.len_toW_le.2 (u64_lt_pw (by omega))) (by decide)) (Nat.le_trans (W.len_toW_le.2 (u64_lt_pw (by omega))) (by decide))
      (by
        rcases Nat.eq_zero_or_pos (W.toW d.natAbs).length with e | e
        · have := W.toW_nil.1 (List.eq_nil_of_length_eq_zero e); omega
        · exact e)
      (by rw [W.val_toW, W.val_toW]; exact u64_lt_pw (Nat.lt_of_le_of_lt (Nat.div_le_self _ _) (by omega)))
      (by rw [W.val_toW, W.val_toW]; exact u64_lt_pw (Nat.lt_of_le_of_lt (Nat.div_le_self _ _) (by omega)))
  simp only [W.val_toW] at L
  have HL := Lib.hid L
  clear L
  have q : (d == 0) = false := by simpa using hd
  have hF0 : (w.alloc (.cells #[.bool false, .slice none 0 0, .slice none 0 0] 88)).heap[w.heap.size]? = some (.cells #[.bool false, .slice none 0 0, .slice none 0 0] 88 (0, 0)) := heap_alloc_new _ _
  have hcs : (decide (n < 0) = false ∧ decide (d < 0) = false) ∨ (decide (n < 0) = true ∧ decide (d < 0) = true) ∨ (decide (n < 0) = false ∧ decide (d < 0) = true) ∨ (decide (n < 0) = true ∧ decide (d < 0) = false) := by
    cases decide (n < 0) <;> cases decide (d < 0) <;> simp
  rcases hcs with ⟨hn, hdd⟩ | ⟨hn, hdd⟩ | ⟨hn, hdd⟩ | ⟨hn, hdd⟩
  · go_enter Try.func141, Try.ntmps141
    go_wp2_with fail
    refine Calls.mono (ratioSize_any n _ n0 n1) ?_
    rintro e w1 ⟨a1, c1, x1, rfl, rfl, o1, -, -⟩
    go_wp2_with fail
    refine Calls.mono (ratioSize_any d _ d0 d1) ?_
    rintro e w1 ⟨a2, c2, x2, rfl, rfl, o2, -, -⟩
    obtain ⟨_, _, he, A1, -, k1, k2, k3⟩ := own_arr o1
    cases he
    obtain ⟨_, _, he, A2, -, j1, j2, j3⟩ := own_arr o2
    cases he
    go_wp2_with fail
    refine Calls.mono (HL.out _ a1 c1 a2 c2 _ (A1.ext x2) A2 k1 k2 k3 j1 j2 j3) ?_
    rintro e w5 ⟨p1, q1, p2, q2, rfl, hb5, oX, oY⟩
    have hF5 := (KeptO.of_blw (O := fun _ => False) ((((Blw.refl _).ext x1).ext x2).trans hb5)).heap hF0 id
    have hs5 : w.heap.size + 1 ≤ (((w.alloc (.cells #[.bool false, .slice none 0 0, .slice none 0 0] 88)).ext x1).ext x2).heap.size := Nat.le_trans (by simp) (Blw.size (((Blw.refl _).ext x1).ext x2))
    have hbw5 : Blw w w5 := Blw.trans (by repeat (first | exact Blw.refl _ | apply Blw.ext | apply Blw.alloc | apply Blw.drewN | apply Blw.drew | refine Blw.setCell ?_ _ _ (by simp))) hb5
    have oX5 := ownsRow_mono oX hs5
    have oY5 := ownsRow_mono oY hs5
    clear oX oY o1 o2 hb5 hs5 A1 A2 k3 j3 HL
    simp only at oX5 oY5
    obtain ⟨hfz, e0, e1, e2, r0, r1, r2⟩ := three hF5 (.bool (false)) (.slice p1 (W.toW (n.natAbs / Nat.gcd n.natAbs d.natAbs)).length q1) (.slice p2 (W.toW (d.natAbs / Nat.gcd n.natAbs d.natAbs)).length q2)
    have HSM := Lib.hid (smallF_same (n := n) (d := d) (by rw [hn, hdd]))
    generalize W.toW (n.natAbs / Nat.gcd n.natAbs d.natAbs) = nw at *
    generalize W.toW (d.natAbs / Nat.gcd n.natAbs d.natAbs) = dw at *
    go_wp2_with fail
    refine bodyPost_ret (v := .tuple #[.agg #[.bool (false), .slice p1 nw.length q1, .slice p2 dw.length q2], .int .i64 0]) (by simp [results, Try.results141, go_sem, r0, r1, r2]) rfl ?_
    rw [HSM.out]
    exact ⟨p1, q1, p2, q2, rfl, blw_three hbw5 (Nat.le_refl _) _ _ _, own_three oX5 (Nat.lt_succ_self _) _ _ _ |> (ownsRow_mono · (Nat.le_succ _)), own_three oY5 (Nat.lt_succ_self _) _ _ _ |> (ownsRow_mono · (Nat.le_succ _))⟩
  · go_enter Try.func141, Try.ntmps141
    go_wp2_with fail
    refine Calls.mono (ratioSize_any n _ n0 n1) ?_
    rintro e w1 ⟨a1, c1, x1, rfl, rfl, o1, -, -⟩
    go_wp2_with fail
    refine Calls.mono (ratioSize_any d _ d0 d1) ?_
    rintro e w1 ⟨a2, c2, x2, rfl, rfl, o2, -, -⟩
    obtain ⟨_, _, he, A1, -, k1, k2, k3⟩ := own_arr o1
    cases he
    obtain ⟨_, _, he, A2, -, j1, j2, j3⟩ := own_arr o2
    cases he
    go_wp2_with fail
    refine Calls.mono (HL.out _ a1 c1 a2 c2 _ (A1.ext x2) A2 k1 k2 k3 j1 j2 j3) ?_
    rintro e w5 ⟨p1, q1, p2, q2, rfl, hb5, oX, oY⟩
    have hF5 := (KeptO.of_blw (O := fun _ => False) ((((Blw.refl _).ext x1).ext x2).trans hb5)).heap hF0 id
    have hs5 : w.heap.size + 1 ≤ (((w.alloc (.cells #[.bool false, .slice none 0 0, .slice none 0 0] 88)).ext x1).ext x2).heap.size := Nat.le_trans (by simp) (Blw.size (((Blw.refl _).ext x1).ext x2))
    have hbw5 : Blw w w5 := Blw.trans (by repeat (first | exact Blw.refl _ | apply Blw.ext | apply Blw.alloc | apply Blw.drewN | apply Blw.drew | refine Blw.setCell ?_ _ _ (by simp))) hb5
    have oX5 := ownsRow_mono oX hs5
    have oY5 := ownsRow_mono oY hs5
    clear oX oY o1 o2 hb5 hs5 A1 A2 k3 j3 HL
    simp only at oX5 oY5
    obtain ⟨hfz, e0, e1, e2, r0, r1, r2⟩ := three hF5 (.bool (false)) (.slice p1 (W.toW (n.natAbs / Nat.gcd n.natAbs d.natAbs)).length q1) (.slice p2 (W.toW (d.natAbs / Nat.gcd n.natAbs d.natAbs)).length q2)
    have HSM := Lib.hid (smallF_same (n := n) (d := d) (by rw [hn, hdd]))
    generalize W.toW (n.natAbs / Nat.gcd n.natAbs d.natAbs) = nw at *
    generalize W.toW (d.natAbs / Nat.gcd n.natAbs d.natAbs) = dw at *
    go_wp2_with fail
    refine bodyPost_ret (v := .tuple #[.agg #[.bool (false), .slice p1 nw.length q1, .slice p2 dw.length q2], .int .i64 0]) (by simp [results, Try.results141, go_sem, r0, r1, r2]) rfl ?_
    rw [HSM.out]
    exact ⟨p1, q1, p2, q2, rfl, blw_three hbw5 (Nat.le_refl _) _ _ _, own_three oX5 (Nat.lt_succ_self _) _ _ _ |> (ownsRow_mono · (Nat.le_succ _)), own_three oY5 (Nat.lt_succ_self _) _ _ _ |> (ownsRow_mono · (Nat.le_succ _))⟩
  · go_enter Try.func141, Try.ntmps141
    go_wp2_with fail
    refine Calls.mono (ratioSize_any n _ n0 n1) ?_
    rintro e w1 ⟨a1, c1, x1, rfl, rfl, o1, -, -⟩
    go_wp2_with fail
    refine Calls.mono (ratioSize_any d _ d0 d1) ?_
    rintro e w1 ⟨a2, c2, x2, rfl, rfl, o2, -, -⟩
    obtain ⟨_, _, he, A1, -, k1, k2, k3⟩ := own_arr o1
    cases he
    obtain ⟨_, _, he, A2, -, j1, j2, j3⟩ := own_arr o2
    cases he
    go_wp2_with fail
    refine Calls.mono (HL.out _ a1 c1 a2 c2 _ (A1.ext x2) A2 k1 k2 k3 j1 j2 j3) ?_
    rintro e w5 ⟨p1, q1, p2, q2, rfl, hb5, oX, oY⟩
    have hF5 := (KeptO.of_blw (O := fun _ => False) ((((Blw.refl _).ext x1).ext x2).trans hb5)).heap hF0 id
    have hs5 : w.heap.size + 1 ≤ (((w.alloc (.cells #[.bool false, .slice none 0 0, .slice none 0 0] 88)).ext x1).ext x2).heap.size := Nat.le_trans (by simp) (Blw.size (((Blw.refl _).ext x1).ext x2))
    have hbw5 : Blw w w5 := Blw.trans (by repeat (first | exact Blw.refl _ | apply Blw.ext | apply Blw.alloc | apply Blw.drewN | apply Blw.drew | refine Blw.setCell ?_ _ _ (by simp))) hb5
    have oX5 := ownsRow_mono oX hs5
    have oY5 := ownsRow_mono oY hs5
    clear oX oY o1 o2 hb5 hs5 A1 A2 k3 j3 HL
    simp only at oX5 oY5
    obtain ⟨hfz, e0, e1, e2, r0, r1, r2⟩ := three hF5 (.bool (decide (0 < (W.toW (n.natAbs / Nat.gcd n.natAbs d.natAbs)).length))) (.slice p1 (W.toW (n.natAbs / Nat.gcd n.natAbs d.natAbs)).length q1) (.slice p2 (W.toW (d.natAbs / Nat.gcd n.natAbs d.natAbs)).length q2)
    have HSM := Lib.hid (smallF_diff (n := n) (d := d) (by rw [hn, hdd]; rfl))
    generalize W.toW (n.natAbs / Nat.gcd n.natAbs d.natAbs) = nw at *
    generalize W.toW (d.natAbs / Nat.gcd n.natAbs d.natAbs) = dw at *
    go_wp2_with fail
    refine bodyPost_ret (v := .tuple #[.agg #[.bool (decide (0 < nw.length)), .slice p1 nw.length q1, .slice p2 dw.length q2], .int .i64 0]) (by simp [results, Try.results141, go_sem, r0, r1, r2]) rfl ?_
    rw [HSM.out]
    exact ⟨p1, q1, p2, q2, rfl, blw_three hbw5 (Nat.le_refl _) _ _ _, own_three oX5 (Nat.lt_succ_self _) _ _ _ |> (ownsRow_mono · (Nat.le_succ _)), own_three oY5 (Nat.lt_succ_self _) _ _ _ |> (ownsRow_mono · (Nat.le_succ _))⟩
  · go_enter Try.func141, Try.ntmps141
    go_wp2_with fail
    refine Calls.mono (ratioSize_any n _ n0 n1) ?_
    rintro e w1 ⟨a1, c1, x1, rfl, rfl, o1, -, -⟩
    go_wp2_with fail
    refine Calls.mono (ratioSize_any d _ d0 d1) ?_
    rintro e w1 ⟨a2, c2, x2, rfl, rfl, o2, -, -⟩
    obtain ⟨_, _, he, A1, -, k1, k2, k3⟩ := own_arr o1
    cases he
    obtain ⟨_, _, he, A2, -, j1, j2, j3⟩ := own_arr o2
    cases he
    go_wp2_with fail
    refine Calls.mono (HL.out _ a1 c1 a2 c2 _ (A1.ext x2) A2 k1 k2 k3 j1 j2 j3) ?_
    rintro e w5 ⟨p1, q1, p2, q2, rfl, hb5, oX, oY⟩
    have hF5 := (KeptO.of_blw (O := fun _ => False) ((((Blw.refl _).ext x1).ext x2).trans hb5)).heap hF0 id
    have hs5 : w.heap.size + 1 ≤ (((w.alloc (.cells #[.bool false, .slice none 0 0, .slice none 0 0] 88)).ext x1).ext x2).heap.size := Nat.le_trans (by simp) (Blw.size (((Blw.refl _).ext x1).ext x2))
    have hbw5 : Blw w w5 := Blw.trans (by repeat (first | exact Blw.refl _ | apply Blw.ext | apply Blw.alloc | apply Blw.drewN | apply Blw.drew | refine Blw.setCell ?_ _ _ (by simp))) hb5
    have oX5 := ownsRow_mono oX hs5
    have oY5 := ownsRow_mono oY hs5
    clear oX oY o1 o2 hb5 hs5 A1 A2 k3 j3 HL
    simp only at oX5 oY5
    obtain ⟨hfz, e0, e1, e2, r0, r1, r2⟩ := three hF5 (.bool (decide (0 < (W.toW (n.natAbs / Nat.gcd n.natAbs d.natAbs)).length))) (.slice p1 (W.toW (n.natAbs / Nat.gcd n.natAbs d.natAbs)).length q1) (.slice p2 (W.toW (d.natAbs / Nat.gcd n.natAbs d.natAbs)).length q2)
    have HSM := Lib.hid (smallF_diff (n := n) (d := d) (by rw [hn, hdd]; rfl))
    generalize W.toW (n.natAbs / Nat.gcd n.natAbs d.natAbs) = nw at *
    generalize W.toW (d.natAbs / Nat.gcd n.natAbs d.natAbs) = dw at *
    go_wp2_with fail
    refine bodyPost_ret (v := .tuple #[.agg #[.bool (decide (0 < nw.length)), .slice p1 nw.length q1, .slice p2 dw.length q2], .int .i64 0]) (by simp [results, Try.results141, go_sem, r0, r1, r2]) rfl ?_
    rw [HSM.out]
    exact ⟨p1, q1, p2, q2, rfl, blw_three hbw5 (Nat.le_refl _) _ _ _, own_three oX5 (Nat.lt_succ_self _) _ _ _ |> (ownsRow_mono · (Nat.le_succ _)), own_three oY5 (Nat.lt_succ_self _) _ _ _ |> (ownsRow_mono · (Nat.le_succ _))⟩
end Go.Proofs.Ytigkfdoeneemeaa
