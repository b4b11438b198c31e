/- Walks of package nat: bits, one and two words, what is told. -/
import Derived.Test.YtigkfdoeneemeaaNat1
import Derived.Test.YtigkfdoeneemeaaLen
import Derived.Test.YtigkfdoeneemeaaWbits
import Derived.Lib.EndianBits
namespace Go.Proofs.Ytigkfdoeneemeaa
open Go.RowKit

set_option maxHeartbeats 1000000 in
theorem natBits_any (a : Option Addr) (l : List Nat) (cap : Nat) (w : World) (h : Arr w a (u32s l)) (hc : l.length ≤ cap) (hl : cap ≤ 9223372036854775807) (hll : l.length ≤ 1099511627776) (hw : W.WF l) :
    Calls Try.prog 197 #[.slice a l.length cap] w fun e w' => e = .returned (.int .i64 (W.bl (W.val l))) ∧ w' = w := by
  obtain ⟨p, hp, vp, fl, nl, h2, ll⟩ := cut_name h hw
  rw [vp.out]
  go_enter Try.func197, Try.ntmps197
  go_wp2_with fail
  refine Calls.mono (natCut_is a l p cap w h hc (by omega) hw hp) ?_
  rintro e w' ⟨rfl, rfl⟩
  have p31 : p.length ≤ 1099511627776 := by omega
  clear hp vp h hc hw
  by_cases h0 : 0 < p.length
  · obtain ⟨x, b, o, -, -, hx, rfl, hb, hcl⟩ := h2.elem (k := p.length - 1) (by omega)
    have hlast : p.getLast? = some x := by rw [List.getLast?_eq_getElem?]; exact hx.out
    have hx0 : x ≠ 0 := fun e => nl (by rw [hlast, e])
    have hxl : x < 4294967296 := fl.at hx.out
    have hb := W.bl_words fl hlast hx0
    have hbx := W.bl_le32 hxl
    have HB := Lib.hid hb
    clear hb hlast nl fl
    have e0 : ((p.length : Int) == 0) = false := beq_false_of_ne (by omega)
    go_wp2_with (go_at_call 198; refine (len32_any x _ (by omega) (by omega)).mono ?_; rintro e w' ⟨rfl, rfl⟩)
    go_ret
    refine ⟨ret_i64 ?_, rfl⟩
    rw [HB.out]
    simp only [W.bitLen_bl hxl]
    go_light
    unfold wrap64
    omega
  · have : p = [] := List.eq_nil_of_length_eq_zero (by omega)
    subst this
    go_wp2
    go_ret
    exact ⟨ret_i64 (by simp [W.val, W.bl_zero]), rfl⟩

/-- A list of words of the call's own. -/
abbrev RetW (w : World) (n : Nat) (e : Ending) (w' : World) : Prop := RetOwn w 135 1 (W.toW n).length (u32s (W.toW n)) e w'

theorem u32s_two (x y : Nat) : u32s [x, y] = [.int .u32 x, .int .u32 y] := rfl
/-- An own list cut is an own list. -/
theorem own_cut {w : World} {B c : Nat} {a : Option Addr} {l : List Nat} (h : w.ownsRow B 135 1 (.slice a l.length c) l.length (u32s l)) (hw : W.WF l) :
    w.ownsRow B 135 1 (.slice a (W.toW (W.val l)).length c) (W.toW (W.val l)).length (u32s (W.toW (W.val l))) := by
  have ht := W.toW_take hw
  have hle := W.toW_len_le hw
  obtain ⟨h1, h2⟩ := h
  refine ⟨by simp, ?_⟩
  rcases h2 with ⟨h3, h4⟩ | ⟨g, cap, cur, hv, hg, hh, hn, hm, hs, ht2⟩
  · left
    injection h3 with h3 h5 h6
    subst h3
    have e : l = [] := List.eq_nil_of_length_eq_zero h4
    subst e
    simp [W.val, W.toW_zero]; exact h6
  · right
    injection hv with hv hv2 hv3
    subst hv hv3
    refine ⟨g, c, cur, rfl, hg, hh, by omega, hm, hs, ?_⟩
    have e : cur.toList.take ((W.toW (W.val l)).length * 1) = (u32s l).take (W.toW (W.val l)).length := by
      rw [← ht2, List.take_take]; congr 1; omega
    rw [e]
    exact List.map_take.symm.trans (congrArg (List.map _) ht)


theorem own_lit (w : World) (l : List Nat) (h : l.length ≤ maxLen) : (w.alloc (.cells (u32s l).toArray 135 (0, 0))).ownsRow w.heap.size 135 1 (.slice (some ⟨w.heap.size, 0, none⟩) l.length l.length) l.length (u32s l) :=
  ⟨by simp, .inr ⟨w.heap.size, l.length, _, rfl, Nat.le_refl _, heap_alloc_new w _, Nat.le_refl _, h, by simp, List.take_of_length_le (by simp)⟩⟩
theorem own_read {w : World} {B : Nat} {e : TypeId} {size n c : Nat} {a : Option Addr} {cs : List Value} (h : w.ownsRow B e size (.slice a n c) n cs) : Arr w a cs := by
  obtain ⟨_, _, e, k, _⟩ := own_arr h
  cases e; exact k

set_option maxHeartbeats 400000 in
theorem natOf_any (x : Nat) (w : World) (hx : x < 18446744073709551616) :
    Calls Try.prog 169 #[.int .u64 x] w (RetW w x) := by
  go_enter Try.func169, Try.ntmps169
  go_wp2_with fail
  obtain ⟨lo, hlo⟩ : ∃ lo, lo = x % 4294967296 := ⟨_, rfl⟩
  obtain ⟨hi, hhi⟩ : ∃ hi, hi = x / 4294967296 := ⟨_, rfl⟩
  have e1 : ((x : Int) % 4294967296) = (lo : Int) := by omega
  have e2 : ((x : Int) / 4294967296) = (hi : Int) := by omega
  have ev : Hid (W.val [lo, hi] = x) := by show W.val [lo, hi] = x; simp only [W.val]; omega
  have hwf : W.WF [lo, hi] := W.WF.cons (by omega) (W.WF.cons (by omega) W.WF.nil)
  rw [e1, e2]
  clear e1 e2 hlo hhi
  have ho := own_lit w [lo, hi] (show 2 ≤ maxLen by decide)
  have ho2 := own_cut ho hwf
  rw [ev.out] at ho2
  refine Calls.mono (natCut_any (some ⟨w.heap.size, 0, none⟩) [lo, hi] 2 _ (own_read ho) (show 2 ≤ 2 by decide) (by decide) hwf) ?_
  rintro e w' ⟨rfl, rfl⟩
  rw [ev.out]
  clear ev ho
  go_wp2
  go_ret
  exact RetOwn.of ho2 ((Blw.refl w).alloc _)

set_option maxHeartbeats 400000 in
theorem natTold_any (a : Option Addr) (l : List Nat) (cap : Nat) (w : World) (h : Arr w a (u32s l)) (hc : l.length ≤ cap) (hl : cap ≤ 9223372036854775807) (hll : l.length ≤ 1099511627776) (hw : W.WF l) :
    Calls Try.prog 196 #[.slice a l.length cap] w fun e w' =>
      e = .returned (if 8192 < (W.toW (W.val l)).length then .tuple #[.slice none 0 0, .int .i64 3] else .tuple #[.slice a (W.toW (W.val l)).length cap, .int .i64 0]) ∧ w' = w := by
  obtain ⟨p, hp, vp, fl, nl, h2, ll⟩ := cut_name h hw
  rw [hp.out]
  have p31 : p.length ≤ 1099511627776 := by omega
  by_cases h0 : 8192 < p.length
  · rw [if_pos h0]
    go_enter Try.func196, Try.ntmps196
    go_wp2_with fail
    refine Calls.mono (natCut_is a l p cap w h hc (by omega) hw hp) ?_
    rintro e w' ⟨rfl, rfl⟩
    go_wp2
    go_ret2
    exact ⟨rfl, rfl⟩
  · rw [if_neg h0]
    go_enter Try.func196, Try.ntmps196
    go_wp2_with fail
    refine Calls.mono (natCut_is a l p cap w h hc (by omega) hw hp) ?_
    rintro e w' ⟨rfl, rfl⟩
    go_wp2
    go_ret2
    exact ⟨rfl, rfl⟩

theorem val_u64 {a b : Nat} {i : Int} (h : i = (b : Int)) (k : a = b) : Value.int .u64 i = .int .u64 (a : Int) := by rw [h, k]
theorem or_nought (x : Nat) (h : x < 4294967296) : bits .or .u64 ((0 : Nat) : Int) (x : Int) = (x : Int) := by
  rw [(bits_nat .u64 64 (by decide) wraps_u64 0 x (by decide) (by omega)).2]; simp
theorem or_high (y x : Nat) (hy : y < 4294967296) (hx : x < 4294967296) : bits .or .u64 (y : Int) ((x : Int) * 4294967296) = ((y + 4294967296 * x : Nat) : Int) := by
  rw [u64_or32 _ _ (by omega) (by omega) (by omega) (by omega) (by omega)]; omega
set_option maxHeartbeats 1000000 in
theorem natUint64_any (a : Option Addr) (l : List Nat) (cap : Nat) (w : World) (h : Arr w a (u32s l)) (hc : l.length ≤ cap) (hl : cap ≤ 9223372036854775807) (hll : l.length ≤ 1099511627776) (hw : W.WF l) :
    Calls Try.prog 174 #[.slice a l.length cap] w fun e w' =>
      e = .returned (if 2 < (W.toW (W.val l)).length then .tuple #[.int .u64 0, .bool false] else .tuple #[.int .u64 (W.val l), .bool true]) ∧ w' = w := by
  obtain ⟨p, hp, vp, fl, nl, h2, ll⟩ := cut_name h hw
  rw [hp.out, vp.out]
  have p31 : p.length ≤ 1099511627776 := by omega
  by_cases h0 : 2 < p.length
  · rw [if_pos h0]
    go_enter Try.func174, Try.ntmps174
    go_wp2_with fail
    refine Calls.mono (natCut_is a l p cap w h hc (by omega) hw hp) ?_
    rintro e w' ⟨rfl, rfl⟩
    go_wp2
    go_ret2
    exact ⟨rfl, rfl⟩
  · rw [if_neg h0]
    go_enter Try.func174, Try.ntmps174
    go_wp2_with fail
    refine Calls.mono (natCut_is a l p cap w h hc (by omega) hw hp) ?_
    rintro e w' ⟨rfl, rfl⟩
    clear hp vp h hc hw
    go_wp2_with fail
    go_loop [4, 14] (fun x i => ∃ k : Nat, k ≤ p.length ∧ i = .int .i64 k ∧ x = .int .u64 (W.val (p.take k))) (fun _ i => (p.length - intOf i).toNat)
    case atStart => exact ⟨0, Nat.zero_le _, rfl, by simp [W.val]⟩
    case round =>
      obtain ⟨k, hk, rfl, rfl⟩ := hrel
      by_cases h3 : k < p.length
      · obtain ⟨x, b, o, -, -, hx, rfl, hb, hcl⟩ := h2.elem (k := k) h3
        have hv := Lib.hid (W.val_take_succ hx.out)
        have hxl := fl.at hx.out
        have hvt := Lib.hid (W.val_lt (fl.take k))
        have k2 : k = 0 ∨ k = 1 := by omega
        rcases k2 with rfl | rfl
        · simp only [Nat.add_zero] at hcl
          go_wp2
          go_round
          case rel => exact ⟨1, by omega, by go_num, val_u64 (or_nought x hxl) (by have := hv.out; simpa [W.val] using this)⟩
          case measure => (first | (simp [intOf]; done) | (simp [intOf]; omega))
        · go_wp2
          go_round
          case rel => exact ⟨2, by omega, by go_num, val_u64 (or_high (W.val (p.take 1)) x (by
            have := hvt.out
            rw [List.length_take, Nat.min_eq_left (by omega)] at this
            simpa using this) hxl) (by have := hv.out; simpa using this)⟩
          case measure => (first | (simp [intOf]; done) | (simp [intOf]; omega))
      · have : k = p.length := by omega
        subst this
        rw [show List.take p.length p = p from List.take_length]
        go_wp2
        go_ret2
        exact ⟨rfl, rfl⟩
end Go.Proofs.Ytigkfdoeneemeaa
