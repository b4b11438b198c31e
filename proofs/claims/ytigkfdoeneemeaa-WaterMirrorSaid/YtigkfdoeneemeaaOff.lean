/- Walks of package nat: what is taken off and added in place. -/
import Derived.Test.YtigkfdoeneemeaaShift
namespace Go.Proofs.Ytigkfdoeneemeaa
open Go.RowKit

theorem off_step {A A0 Vk k c b q y u u' c' b' : Nat} (h : A + q * Vk = A0 + W.pw k * (c + b)) (e : u' + (c + q * y) + b = u + 4294967296 * (c' + b')) :
    (A + W.pw k * u') + q * (Vk + W.pw k * y) = (A0 + W.pw k * u) + W.pw (k + 1) * (c' + b') := by
  have e1 : W.pw k * (u' + (c + q * y) + b) = W.pw k * (u + 4294967296 * (c' + b')) := by rw [e]
  have e2 : W.pw (k + 1) * (c' + b') = W.pw k * (4294967296 * (c' + b')) := by rw [W.pw_succ, Nat.mul_comm 4294967296, Nat.mul_assoc]
  have e3 : q * (Vk + W.pw k * y) = q * Vk + W.pw k * (q * y) := by rw [Nat.mul_add, Nat.mul_left_comm]
  rw [Nat.mul_add, Nat.mul_add, Nat.mul_add] at e1
  rw [Nat.mul_add] at h
  rw [Nat.mul_add] at e1
  rw [e2, e3]
  omega
theorem back_step {A A0 Vk k c y u u' c' : Nat} (h : A + W.pw k * c = A0 + Vk) (e : u' + 4294967296 * c' = c + u + y) :
    (A + W.pw k * u') + W.pw (k + 1) * c' = (A0 + W.pw k * u) + (Vk + W.pw k * y) := by
  have e1 : W.pw k * (u' + 4294967296 * c') = W.pw k * (c + u + y) := by rw [e]
  have e2 : W.pw (k + 1) * c' = W.pw k * (4294967296 * c') := by rw [W.pw_succ, Nat.mul_comm 4294967296, Nat.mul_assoc]
  rw [Nat.mul_add, Nat.mul_add, Nat.mul_add] at e1
  rw [e2]
  omega
theorem mul_words' {x y : Nat} (hx : x ≤ 4294967296) (hy : y < 4294967296) : x * y ≤ 18446744069414584320 := Nat.mul_le_mul hx (Nat.le_of_lt_succ hy)
/-- A difference of words in 64 bits: its low word and its top bit. -/
theorem diff_word (u t b : Nat) (hu : u < 4294967296) (hb : b ≤ 1) :
    ∃ u' b' : Nat, IntKind.u64.wrap (IntKind.u64.wrap ((u : Int) - (t : Int) % 4294967296) - (b : Int)) % 4294967296 = (u' : Int) ∧ IntKind.u64.wrap (IntKind.u64.wrap ((u : Int) - (t : Int) % 4294967296) - (b : Int)) / 9223372036854775808 = (b' : Int) ∧
      u' < 4294967296 ∧ b' ≤ 1 ∧ u' + t + b = u + 4294967296 * (t / 4294967296 + b') := by
  by_cases h : t % 4294967296 + b ≤ u
  · refine ⟨u - t % 4294967296 - b, 0, ?_, ?_, ?_, ?_, ?_⟩
    · rw [IntKind.wrap_u64, IntKind.wrap_u64]; omega
    · rw [IntKind.wrap_u64, IntKind.wrap_u64]; omega
    · omega
    · omega
    · omega
  · refine ⟨u + 4294967296 - t % 4294967296 - b, 1, ?_, ?_, ?_, ?_, ?_⟩
    · rw [IntKind.wrap_u64, IntKind.wrap_u64]; omega
    · rw [IntKind.wrap_u64, IntKind.wrap_u64]; omega
    · omega
    · omega
    · omega

set_option maxRecDepth 100000 in
set_option maxHeartbeats 2000000 in
theorem natOff_any (g o : Nat) (pre post : List Value) (l v : List Nat) (bv : Option Addr) (cap cv q : Nat) (w : World) (ho : pre.length = o) (h : Wn w g pre l post) (hv : Arr w bv (u32s v)) (hne : ∀ a, bv = some a → a.block ≠ g)
    (hl : l.length ≤ 1000000) (hvl : v.length < l.length) (wl : W.WF l) (wv : W.WF v) (hq : q ≤ 4294967296) :
    Calls Try.prog 188 #[.slice (some ⟨g, o, none⟩) l.length cap, .slice bv v.length cv, .int .u64 q] w fun e w' => ∃ (u : List Nat) (b : Nat), e = .returned (.bool (b != 0)) ∧ b ≤ 1 ∧
      Wn w' g pre u post ∧ W.WF u ∧ u.length = l.length ∧ W.val u + q * W.val v = W.val l + W.pw l.length * b ∧ KeptO (· = g) w w' := by
  subst ho
  go_enter Try.func188, Try.ntmps188
  go_wp2_with fail
  go_loopw [7, 8, 13] (fun c b i wr => ∃ (k c' b' : Nat) (ds : List Nat), k ≤ l.length ∧ i = .int .i64 k ∧ c = .int .u64 c' ∧ b = .int .u64 b' ∧ c' < 4294967296 ∧ b' ≤ 1 ∧ (v.length < k → c' = 0) ∧ Wn wr g pre ds post ∧ KeptO (· = g) w wr ∧ Hid (ds.length = l.length) ∧ Hid (W.WF ds) ∧ Hid (ds.drop k = l.drop k) ∧
    Hid (W.val (ds.take k) + q * W.val (v.take k) = W.val (l.take k) + W.pw k * (c' + b'))) (fun _ _ i _ => (l.length - intOf i).toNat)
  case atStart => exact ⟨0, 0, 0, l, Nat.zero_le _, rfl, rfl, rfl, by decide, by decide, fun _ => rfl, h, KeptO.refl w, rfl, wl, rfl, by (show _ = _; rw [List.take_zero, List.take_zero, W.val, Nat.mul_zero]; rfl)⟩
  case round =>
    obtain ⟨k, c, b, ds, hk, rfl, rfl, rfl, hc, hb, hcz, hg, hw, hdl, hdw, hdd, hdv⟩ := hrel
    have HZ := Lib.hid hcz; clear hcz
    by_cases h0 : k < l.length
    · have hkd : k < ds.length := by rw [hdl.out]; omega
      obtain ⟨x, hx, hx1, hx2⟩ := hg.elem (k := k) hkd
      have hxl := hdw.out.at hx.out
      have hlx : Hid (l[k]? = some x) := by
        show l[k]? = some x
        have := congrArg (fun t : List Nat => t[0]?) hdd.out
        simp only [List.getElem?_drop, Nat.add_zero] at this
        rw [← this]; exact hx.out
      have hdd2 : Hid (ds.drop (k + 1) = l.drop (k + 1)) := by
        show _ = _
        have := congrArg (List.drop 1) hdd.out
        rwa [List.drop_drop, List.drop_drop] at this
      by_cases h1 : k < v.length
      · obtain ⟨y, b2, o2, -, -, hy, rfl, hr1, hr2⟩ := (hw.arr hv (fun a ha => hne a ha)).elem (k := k) h1
        have hyl := wv.at hy.out
        have hxy := mul_words' hq hyl
        have hxy2 : (q : Int) * (y : Int) ≤ 18446744069414584320 := by rw [← Int.natCast_mul]; omega
        have hxy3 : (0 : Int) ≤ (q : Int) * (y : Int) := Int.mul_nonneg (Int.natCast_nonneg q) (Int.natCast_nonneg y)
        have i1 : (k : Int) < (v.length : Int) := by omega
        go_wp2_with fail
        have ep : (c : Int) + (q : Int) * (y : Int) = ((c + q * y : Nat) : Int) := by rw [Int.natCast_add, Int.natCast_mul]
        rw [ep]
        obtain ⟨u', b', f1, f2, f3, f4, f5⟩ := diff_word x (c + q * y) b hxl hb
        rw [f1, f2]
        have key := off_step hdv.out f5
        rw [← W.val_take_succ hy.out, ← W.val_take_succ hlx.out, ← W.val_take_set_end _ hkd] at key
        clear ep f1 f2 f5 hxy2 hxy3
        generalize hT : c + q * y = T at *
        go_roundw
        case rel => exact ⟨k + 1, T / 4294967296, b', ds.set k u', h0, by go_num, u64_of (by omega), rfl, by omega, f4, fun hh => absurd hh (by omega), hg.set hkd rfl, hw.setCell _ _ (.inl rfl), by (show _ = _; rw [List.length_set]; exact hdl.out), hdw.out.set _ f3, by (show _ = _; rw [List.drop_set_of_lt (Nat.lt_succ_self k)]; exact hdd2.out), key⟩
        case measure => (first | (simp [intOf]; done) | (simp [intOf]; omega))
      · have i1 : decide ((k : Int) < (v.length : Int)) = false := by simp; omega
        have hc0 : v.length < k + 1 := by omega
        go_wp2_with fail
        have ep : (c : Int) = (c : Int) % 4294967296 := by omega
        have key : ∃ u' b' : Nat, IntKind.u64.wrap (IntKind.u64.wrap ((x : Int) - (c : Int)) - (b : Int)) % 4294967296 = (u' : Int) ∧ IntKind.u64.wrap (IntKind.u64.wrap ((x : Int) - (c : Int)) - (b : Int)) / 9223372036854775808 = (b' : Int) ∧
            u' < 4294967296 ∧ b' ≤ 1 ∧ u' + (c + q * 0) + b = x + 4294967296 * (0 + b') := by
          obtain ⟨u', b', f1, f2, f3, f4, f5⟩ := diff_word x c b hxl hb
          rw [← ep] at f1 f2
          exact ⟨u', b', f1, f2, f3, f4, by omega⟩
        obtain ⟨u', b', f1, f2, f3, f4, f5⟩ := key
        rw [f1, f2]
        have key := off_step hdv.out f5
        have evt : v.take k = v.take (k + 1) := by rw [List.take_of_length_le (by omega), List.take_of_length_le (by omega)]
        rw [Nat.mul_zero, Nat.add_zero, evt, ← W.val_take_succ hlx.out, ← W.val_take_set_end _ hkd] at key
        go_roundw
        case rel => exact ⟨k + 1, 0, b', ds.set k u', h0, by go_num, u64_of (by omega), rfl, by omega, f4, fun _ => rfl, hg.set hkd rfl, hw.setCell _ _ (.inl rfl), by (show _ = _; rw [List.length_set]; exact hdl.out), hdw.out.set _ f3, by (show _ = _; rw [List.drop_set_of_lt (Nat.lt_succ_self k)]; exact hdd2.out), key⟩
        case measure => (first | (simp [intOf]; done) | (simp [intOf]; omega))
    · have : k = l.length := by omega
      subst this
      have hc0 := HZ.out hvl
      subst hc0
      have e1 : W.val ds + q * W.val v = W.val l + W.pw l.length * b := by
        have := hdv.out
        rw [List.take_length, ← hdl.out, List.take_length, List.take_of_length_le (by rw [hdl.out]; omega), hdl.out, Nat.zero_add] at this
        exact this
      have hb2 : b = 0 ∨ b = 1 := by omega
      rcases hb2 with rfl | rfl
      · go_wp2
        go_ret
        exact ⟨ds, 0, rfl, by decide, hg, hdw.out, hdl.out, e1, hw⟩
      · go_wp2
        go_ret
        exact ⟨ds, 1, rfl, by decide, hg, hdw.out, hdl.out, e1, hw⟩

set_option maxRecDepth 100000 in
set_option maxHeartbeats 2000000 in
theorem natBack_any (g o : Nat) (pre post : List Value) (l v : List Nat) (bv : Option Addr) (cap cv : Nat) (w : World) (ho : pre.length = o) (h : Wn w g pre l post) (hv : Arr w bv (u32s v)) (hne : ∀ a, bv = some a → a.block ≠ g)
    (hl : l.length ≤ 1000000) (hvl : v.length ≤ l.length) (wl : W.WF l) (wv : W.WF v) :
    Calls Try.prog 189 #[.slice (some ⟨g, o, none⟩) l.length cap, .slice bv v.length cv] w fun e w' => ∃ (u : List Nat) (c : Nat), e = .returned (.tuple #[]) ∧ 
      Wn w' g pre u post ∧ W.WF u ∧ u.length = l.length ∧ W.val u + W.pw l.length * c = W.val l + W.val v ∧ KeptO (· = g) w w' := by
  subst ho
  go_enter Try.func189, Try.ntmps189
  go_wp2_with fail
  go_loopw [4, 8] (fun c i wr => ∃ (k c' : Nat) (ds : List Nat), k ≤ l.length ∧ i = .int .i64 k ∧ c = .int .u64 c' ∧ c' ≤ 1 ∧ Wn wr g pre ds post ∧ KeptO (· = g) w wr ∧ Hid (ds.length = l.length) ∧ Hid (W.WF ds) ∧ Hid (ds.drop k = l.drop k) ∧
    Hid (W.val (ds.take k) + W.pw k * c' = W.val (l.take k) + W.val (v.take k))) (fun _ i _ => (l.length - intOf i).toNat)
  case atStart => exact ⟨0, 0, l, Nat.zero_le _, rfl, rfl, by decide, h, KeptO.refl w, rfl, wl, rfl, by (show _ = _; rw [List.take_zero, List.take_zero, W.val, Nat.mul_zero])⟩
  case round =>
    obtain ⟨k, c, ds, hk, rfl, rfl, hc, hg, hw, hdl, hdw, hdd, hdv⟩ := hrel
    by_cases h0 : k < l.length
    · have hkd : k < ds.length := by rw [hdl.out]; omega
      obtain ⟨x, hx, hx1, hx2⟩ := hg.elem (k := k) hkd
      have hxl := hdw.out.at hx.out
      have hlx : Hid (l[k]? = some x) := by
        show l[k]? = some x
        have := congrArg (fun t : List Nat => t[0]?) hdd.out
        simp only [List.getElem?_drop, Nat.add_zero] at this
        rw [← this]; exact hx.out
      have hdd2 : Hid (ds.drop (k + 1) = l.drop (k + 1)) := by
        show _ = _
        have := congrArg (List.drop 1) hdd.out
        rwa [List.drop_drop, List.drop_drop] at this
      by_cases h1 : k < v.length
      · obtain ⟨y, b2, o2, -, -, hy, rfl, hr1, hr2⟩ := (hw.arr hv (fun a ha => hne a ha)).elem (k := k) h1
        have hyl := wv.at hy.out
        have i1 : (k : Int) < (v.length : Int) := by omega
        go_wp2_with fail
        have key := fun (u' c' : Nat) (f5 : u' + 4294967296 * c' = c + x + y) => back_step hdv.out f5
        rw [← W.val_take_succ hy.out, ← W.val_take_succ hlx.out] at key
        have KEY := Lib.hid key
        clear key
        go_roundw
        case rel => exact ⟨k + 1, (c + x + y) / 4294967296, ds.set k ((c + x + y) % 4294967296), h0, by go_num, u64_of (by omega), by omega, hg.set hkd (u32_of (by omega)), hw.setCell _ _ (.inl rfl), by (show _ = _; rw [List.length_set]; exact hdl.out), hdw.out.set _ (by omega), by (show _ = _; rw [List.drop_set_of_lt (Nat.lt_succ_self k)]; exact hdd2.out), by
          show _ = _
          rw [W.val_take_set_end _ hkd]
          exact KEY.out _ _ (by omega)⟩
        case measure => (first | (simp [intOf]; done) | (simp [intOf]; omega))
      · have i1 : decide ((k : Int) < (v.length : Int)) = false := by simp; omega
        have hc0 : v.length < k + 1 := by omega
        go_wp2_with fail
        have key := fun (u' c' : Nat) (f5 : u' + 4294967296 * c' = c + x + 0) => back_step hdv.out f5
        have evt : v.take k = v.take (k + 1) := by rw [List.take_of_length_le (by omega), List.take_of_length_le (by omega)]
        rw [Nat.mul_zero, Nat.add_zero, evt, ← W.val_take_succ hlx.out] at key
        have KEY := Lib.hid key
        clear key
        go_roundw
        case rel => exact ⟨k + 1, (c + x) / 4294967296, ds.set k ((c + x) % 4294967296), h0, by go_num, u64_of (by omega), by omega, hg.set hkd (u32_of (by omega)), hw.setCell _ _ (.inl rfl), by (show _ = _; rw [List.length_set]; exact hdl.out), hdw.out.set _ (by omega), by (show _ = _; rw [List.drop_set_of_lt (Nat.lt_succ_self k)]; exact hdd2.out), by
          show _ = _
          rw [W.val_take_set_end _ hkd]
          exact KEY.out _ _ (by omega)⟩
        case measure => (first | (simp [intOf]; done) | (simp [intOf]; omega))
    · have : k = l.length := by omega
      subst this
      have e1 : W.val ds + W.pw l.length * c = W.val l + W.val v := by
        have := hdv.out
        rw [List.take_length, ← hdl.out, List.take_length, List.take_of_length_le (by rw [hdl.out]; omega), hdl.out] at this
        exact this
      go_wp2
      refine bodyPost_end (v := .tuple #[]) (by simp [results, Try.results189, go_sem]) rfl ?_
      exact ⟨ds, c, rfl, hg, hdw.out, hdl.out, e1, hw⟩
end Go.Proofs.Ytigkfdoeneemeaa
