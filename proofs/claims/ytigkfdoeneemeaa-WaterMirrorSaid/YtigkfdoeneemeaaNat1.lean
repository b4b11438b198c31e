/- Walks of package nat: the looks at words, cut, copies, order. -/
import Derived.Test.YtigkfdoeneemeaaVals
import Derived.Test.YtigkfdoeneemeaaTypes
import Derived.Test.YtigkfdoeneemeaaWords
import Derived.Lib.Hide
namespace Go.Proofs.Ytigkfdoeneemeaa
open Go.RowKit

theorem ret_i64 {a b : Int} (h : a = b) : Ending.returned (.int .i64 a) = .returned (.int .i64 b) := by rw [h]
def chk (l : List Nat) : Int := if 8192 < l.length then 3 else if l.getLast? = some 0 then 11 else 0
theorem u32s_len (l : List Nat) : (u32s l).length = l.length := by simp
theorem sl_words : SlT Try.prog 86 135 (.int .u32 0) 1 4 := ⟨Try.underlying86, by kernel_rfl, by kernel_rfl, by decide⟩
theorem u32s_one (l : List Nat) : ∀ u ∈ u32s l, u.oneCell' = true := by simp [Value.oneCell']

set_option maxHeartbeats 400000 in
theorem natCheck_any (a : Option Addr) (l : List Nat) (cap : Nat) (w : World) (h : Arr w a (u32s l)) (hl : l.length ≤ 9223372036854775807) :
    Calls Try.prog 152 #[.slice a l.length cap] w fun e w' => e = .returned (.int .i64 (chk l)) ∧ w' = w := by
  by_cases h1 : 8192 < l.length
  · go_enter Try.func152, Try.ntmps152
    go_wp2
    go_ret
    exact ⟨ret_i64 (by unfold chk; rw [if_pos h1]), rfl⟩
  · by_cases h2 : 0 < l.length
    · obtain ⟨x, b, o, -, -, hx, rfl, hb, hc⟩ := h.elem (k := l.length - 1) (by omega)
      have hlast : Hid (l.getLast? = some x) := by show l.getLast? = some x; rw [List.getLast?_eq_getElem?]; exact hx.out
      by_cases h3 : x = 0
      all_goals
        go_enter Try.func152, Try.ntmps152
        go_wp2
        go_ret
        exact ⟨ret_i64 (by unfold chk; rw [if_neg h1, hlast.out]; simp [h3]), rfl⟩
    · go_enter Try.func152, Try.ntmps152
      go_wp2
      go_ret
      have : l = [] := List.eq_nil_of_length_eq_zero (by omega)
      exact ⟨ret_i64 (by subst this; rfl), rfl⟩

set_option maxHeartbeats 400000 in
theorem natChecked_any (a b : Option Addr) (l m : List Nat) (c d : Nat) (w : World) (h : Arr w a (u32s l)) (k : Arr w b (u32s m)) (hl : l.length ≤ 9223372036854775807) (hm : m.length ≤ 9223372036854775807) :
    Calls Try.prog 171 #[.slice a l.length c, .slice b m.length d] w fun e w' => e = .returned (.int .i64 (if chk l = 0 then chk m else chk l)) ∧ w' = w := by
  by_cases h1 : chk l = 0
  · go_enter Try.func171, Try.ntmps171
    go_wp2_with fail
    refine Calls.mono (natCheck_any a l c w h hl) ?_
    rintro e w' ⟨rfl, rfl⟩
    go_wp2_with (go_at_call 152; refine Calls.mono (natCheck_any b m d _ k hm) ?_; rintro e w' ⟨rfl, rfl⟩)
    go_ret
    exact ⟨ret_i64 (by first | rfl | rw [if_pos h1]), rfl⟩
  · go_enter Try.func171, Try.ntmps171
    go_wp2_with fail
    refine Calls.mono (natCheck_any a l c w h hl) ?_
    rintro e w' ⟨rfl, rfl⟩
    go_wp2
    go_ret
    exact ⟨ret_i64 (by first | rfl | rw [if_neg h1]), rfl⟩

set_option maxHeartbeats 400000 in
theorem natCut_any (a : Option Addr) (l : List Nat) (cap : Nat) (w : World) (h : Arr w a (u32s l)) (hc : l.length ≤ cap) (hl : cap ≤ 9223372036854775807) (hw : W.WF l) :
    Calls Try.prog 175 #[.slice a l.length cap] w fun e w' => e = .returned (.slice a (W.toW (W.val l)).length cap) ∧ w' = w := by
  go_enter Try.func175, Try.ntmps175
  go_wp2
  go_loop [3] (fun i => ∃ k : Nat, k ≤ l.length ∧ i = .int .i64 k ∧ Hid (W.val (l.take k) = W.val l)) (fun i => (intOf i).toNat)
  case atStart => exact ⟨l.length, Nat.le_refl _, rfl, by show W.val (l.take l.length) = W.val l; rw [List.take_length]⟩
  case round =>
    obtain ⟨k, hk, rfl, hv⟩ := hrel
    by_cases h0 : 0 < k
    · obtain ⟨x, b, o, -, -, hx, rfl, hb, hcl⟩ := h.elem (k := k - 1) (by omega)
      by_cases h3 : x = 0
      · subst h3
        go_wp2
        go_round
        case rel => exact ⟨k - 1, by omega, by go_num, by
          show W.val (l.take (k - 1)) = W.val l
          have := W.val_take_succ hx.out
          rw [Nat.sub_add_cancel h0, hv.out] at this
          omega⟩
        case measure => (first | (simp [intOf]; done) | (simp [intOf]; omega))
      · go_wp2
        go_ret
        have e := W.toW_eq_take hw hk hv.out (.inr (by rw [hx.out]; simpa using h3))
        exact ⟨by rw [e]; simp [Nat.min_eq_left hk], rfl⟩
    · have : k = 0 := by omega
      subst this
      go_wp2
      go_ret
      have e := W.toW_eq_take hw hk hv.out (.inl rfl)
      exact ⟨by rw [e]; simp, rfl⟩

set_option maxHeartbeats 400000 in
theorem cloneWords_any (a : Option Addr) (l : List Nat) (cap : Nat) (w : World) (h : Arr w a (u32s l)) (hn : a = none → l.length = 0 ∧ cap = 0) (hlen : l.length ≤ 1099511627776) :
    Calls Try.prog 172 #[.slice a l.length cap] w (RetOwn w 135 1 l.length (u32s l)) := by
  cases a with
  | none =>
    obtain ⟨h0, rfl⟩ := hn rfl
    have : l = [] := List.eq_nil_of_length_eq_zero h0
    subst this
    clear h hn h0 hlen
    go_enter Try.func172, Try.ntmps172
    go_wp2
    go_ret
    exact RetOwn.of (World.ownsRow_nil _ _ _ _) (Blw.refl w)
  | some q =>
    have hown : (w.alloc (.cells #[] 135)).ownsRow w.heap.size 135 1 (.slice (some ⟨w.heap.size, 0, none⟩) 0 0) 0 [] := World.ownsRow_made w #[] 0 (Nat.le_refl _) (Nat.zero_le _) rfl
    clear hn
    go_enter Try.func172, Try.ntmps172
    go_wp2_with (at_builtin; refine wpList_app w _ rfl _ _ 86 rfl sl_words ((Blw.refl w).alloc _) _ 0 [] rfl hown (some q) l.length cap (u32s l) rfl (fun h => by cases h) (h.alloc _) (by simp) (u32s_one l) (by unfold maxLen; omega) (by omega) ?_; intro v' w1 hown1 hb1 _ _)
    go_ret
    exact RetOwn.of (by simpa using hown1) hb1

theorem arr_pre {w : World} {a : Option Addr} {l m : List Nat} (h : Arr w a (u32s l)) (k : m <+: l) : Arr w a (u32s m) := h.pre (k.map _)

set_option maxHeartbeats 400000 in
theorem natTrim_any (a : Option Addr) (l : List Nat) (cap : Nat) (w : World) (h : Arr w a (u32s l)) (hn : a = none → cap = 0) (hc : l.length ≤ cap) (hl : cap ≤ 9223372036854775807) (hll : l.length ≤ 1099511627776) (hw : W.WF l) :
    Calls Try.prog 163 #[.slice a l.length cap] w (RetOwn w 135 1 (W.toW (W.val l)).length (u32s (W.toW (W.val l)))) := by
  have hp := W.toW_pre hw
  have hle := W.toW_len_le hw
  go_enter Try.func163, Try.ntmps163
  go_wp2_with fail
  refine Calls.mono (natCut_any a l cap w h hc (by omega) hw) ?_
  rintro e w' ⟨rfl, rfl⟩
  go_wp2_with (go_at_call 172; refine Calls.mono (cloneWords_any a (W.toW (W.val l)) cap _ (arr_pre h hp) (fun h => by have := hn h; omega) (by omega)) ?_; rintro e w1 ⟨a1, c1, x1, rfl, rfl, r1, r2, r3⟩)
  go_ret
  exact ⟨a1, c1, x1, rfl, rfl, r1, r2, r3⟩

theorem natCut_is (a : Option Addr) (l p : List Nat) (cap : Nat) (w : World) (h : Arr w a (u32s l)) (hc : l.length ≤ cap) (hl : cap ≤ 9223372036854775807) (hw : W.WF l) (hp : Hid (W.toW (W.val l) = p)) :
    Calls Try.prog 175 #[.slice a l.length cap] w fun e w' => e = .returned (.slice a p.length cap) ∧ w' = w := by
  rw [← hp.out]; exact natCut_any a l cap w h hc hl hw
/-- Words cut: the one form, under a name. -/
theorem cut_name {w : World} {a : Option Addr} {l : List Nat} (h : Arr w a (u32s l)) (hw : W.WF l) : ∃ p, Hid (W.toW (W.val l) = p) ∧ Hid (W.val l = W.val p) ∧ W.WF p ∧ W.Nrm p ∧ Arr w a (u32s p) ∧ p.length ≤ l.length :=
  ⟨_, (by unfold Hid; rfl), (by unfold Hid; rw [W.val_toW]), W.wf_toW _, W.nrm_toW _, arr_pre h (W.toW_pre hw), W.toW_len_le hw⟩

set_option maxHeartbeats 1000000 in
theorem natCompare_any (a b : Option Addr) (l m : List Nat) (c d : Nat) (w : World) (h : Arr w a (u32s l)) (k : Arr w b (u32s m)) (hc : l.length ≤ c) (hd : m.length ≤ d) (hl : c ≤ 9223372036854775807) (hm : d ≤ 9223372036854775807) (wl : W.WF l) (wm : W.WF m) :
    Calls Try.prog 154 #[.slice a l.length c, .slice b m.length d] w fun e w' => e = .returned (.int .i64 (W.cmpN (W.val l) (W.val m))) ∧ ∃ x, w' = w.ext x := by
  obtain ⟨p, hp, vp, fl, nl, h2, ll⟩ := cut_name h wl
  obtain ⟨q, hq, vq, fm, nm, k2, lm⟩ := cut_name k wm
  rw [vp.out, vq.out]
  go_enter Try.func154, Try.ntmps154
  go_wp2_with fail
  refine Calls.mono (natCut_is a l p c w h hc (by omega) wl hp) ?_
  rintro e w' ⟨rfl, rfl⟩
  go_wp2_with fail
  refine Calls.mono (natCut_is b m q d _ k hd (by omega) wm hq) ?_
  rintro e w' ⟨rfl, rfl⟩
  have p31 : p.length ≤ 9223372036854775807 := by omega
  have q31 : q.length ≤ 9223372036854775807 := by omega
  clear hp vp hq vq h k hc hd wl wm
  by_cases hlen : p.length = q.length
  · have HE := Lib.hid hlen
    have e1 : ((p.length : Int) != (q.length : Int)) = false := by rw [hlen]; simp
    clear hlen
    go_wp2_with fail
    clear e1
    go_loopw [5] (fun i wr => ∃ (k : Nat) (x : World), k ≤ p.length ∧ i = .int .i64 ((k : Int) - 1) ∧ Hid (W.val (p.drop k) = W.val (q.drop k)) ∧ wr = w'.ext x) (fun i _ => (intOf i + 1).toNat)
    case atStart => exact ⟨p.length, w', Nat.le_refl _, rfl, by show W.val _ = W.val _; rw [List.drop_length, HE.out, List.drop_length], (World.ext_of (Blw.refl w')).symm⟩
    case round =>
      obtain ⟨k, wx, hk, rfl, hv, rfl⟩ := hrel
      by_cases h0 : 0 < k
      · obtain ⟨j, rfl⟩ : ∃ j, k = j + 1 := ⟨k - 1, by omega⟩
        have ej : (((j + 1 : Nat) : Int) - 1) = (j : Int) := by omega
        rw [ej]
        clear ej
        have hjq : j < q.length := by have := HE.out; omega
        obtain ⟨x, b1, o1, hdx, -, hx, rfl, hb1, hc1⟩ := h2.elem (k := j) (by omega)
        obtain ⟨y, b2, o2, hdy, -, hy, rfl, hb2, hc2⟩ := k2.elem (k := j) hjq
        have i0 : (0 : Int) ≤ (j : Int) := by omega
        have i1 : (j : Int) < (p.length : Int) := by omega
        have i2 : (j : Int) < (q.length : Int) := by omega
        clear h0
        by_cases hxy : x < y
        · go_wp2_with fail
          go_quiet (fail)
          go_wp2
          go_ret
          exact ⟨ret_i64 (by rw [W.cmpN_lt (W.val_lt_at fl hx.out hy.out hv.out hxy)]), Blw.is (by repeat (first | exact Blw.refl _ | apply Blw.ext | apply Blw.alloc | apply Blw.drewN | apply Blw.drew | refine Blw.setCell ?_ _ _ (by simp)))⟩
        · by_cases hyx : y < x
          · go_wp2_with fail
            go_quiet (fail)
            go_wp2_with fail
            go_quiet (fail)
            go_wp2
            go_ret
            exact ⟨ret_i64 (by rw [W.cmpN_gt (W.val_lt_at fm hy.out hx.out hv.out.symm hyx)]), Blw.is (by repeat (first | exact Blw.refl _ | apply Blw.ext | apply Blw.alloc | apply Blw.drewN | apply Blw.drew | refine Blw.setCell ?_ _ _ (by simp)))⟩
          · go_wp2_with fail
            go_quiet (fail)
            go_wp2_with fail
            go_quiet (fail)
            go_wp2_with fail
            go_roundw
            case rel => exact ⟨j, _, by omega, by go_num, by
              show W.val _ = W.val _
              rw [hdx.out, hdy.out, W.val, W.val, hv.out, show x = y by omega], (World.ext_of (by repeat (first | exact Blw.refl _ | apply Blw.ext | apply Blw.alloc | apply Blw.drewN | apply Blw.drew | refine Blw.setCell ?_ _ _ (by simp)))).symm⟩
            case measure => (first | (simp [intOf]; done) | (simp [intOf]; omega))
      · have : k = 0 := by omega
        subst this
        have e0 : (((0 : Nat) : Int) - 1) = -1 := by omega
        rw [e0]
        clear h0
        go_wp2_with fail
        go_ret
        exact ⟨ret_i64 (by have := hv.out; simp only [List.drop_zero] at this; rw [this, W.cmpN_eq]), Blw.is (by repeat (first | exact Blw.refl _ | apply Blw.ext | apply Blw.alloc | apply Blw.drewN | apply Blw.drew | refine Blw.setCell ?_ _ _ (by simp)))⟩
  · by_cases hlt : p.length < q.length
    · go_wp2
      go_ret
      exact ⟨ret_i64 (by rw [W.cmpN_lt (W.val_lt_len fl nm hlt)]), Blw.is (by repeat (first | exact Blw.refl _ | apply Blw.ext | apply Blw.alloc | apply Blw.drewN | apply Blw.drew | refine Blw.setCell ?_ _ _ (by simp)))⟩
    · go_wp2
      go_ret
      exact ⟨ret_i64 (by rw [W.cmpN_gt (W.val_lt_len fm nl (by omega))]), Blw.is (by repeat (first | exact Blw.refl _ | apply Blw.ext | apply Blw.alloc | apply Blw.drewN | apply Blw.drew | refine Blw.setCell ?_ _ _ (by simp)))⟩
end Go.Proofs.Ytigkfdoeneemeaa
