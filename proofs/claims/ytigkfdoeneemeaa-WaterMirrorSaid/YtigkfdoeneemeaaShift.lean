/- Walks of package nat: shifts by less than a word. -/
import Derived.Test.YtigkfdoeneemeaaSmall
namespace Go.Proofs.Ytigkfdoeneemeaa
open Go.RowKit

theorem pow_split {n : Nat} (hn : n < 32) : (2 : Nat) ^ n * 2 ^ (32 - n) = 4294967296 := by
  rw [← Nat.pow_add, show n + (32 - n) = 32 by omega]
theorem up_facts {x y n : Nat} (hx : x < 4294967296) (hy : y < 2 ^ n) (hn : n < 32) :
    bits .or .u32 (y : Int) (IntKind.u64.wrap ((x : Int) * 2 ^ n) % 4294967296) = ((y + x * 2 ^ n % 4294967296 : Nat) : Int) ∧ y + x * 2 ^ n % 4294967296 < 4294967296 ∧
    IntKind.u64.wrap ((x : Int) * 2 ^ n) / 4294967296 % 4294967296 = ((x * 2 ^ n / 4294967296 : Nat) : Int) ∧ x * 2 ^ n / 4294967296 < 2 ^ n ∧ x * 2 ^ n / 4294967296 < 4294967296 := by
  have hs := pow_split hn
  have hp : 0 < (2 : Nat) ^ (32 - n) := Nat.two_pow_pos _
  have hp2 : (2 : Nat) ^ n ≤ 4294967296 := by rw [← hs]; exact Nat.le_mul_of_pos_right _ hp
  have hlo : x * 2 ^ n % 4294967296 % 2 ^ n = 0 := by
    rw [← hs, Nat.mod_mul_right_mod, Nat.mul_mod_left]
  have hsum : y + x * 2 ^ n % 4294967296 < 4294967296 := by
    have h1 : x * 2 ^ n % 4294967296 < 2 ^ n * 2 ^ (32 - n) := by rw [hs]; exact Nat.mod_lt _ (by decide)
    have h2 : x * 2 ^ n % 4294967296 / 2 ^ n < 2 ^ (32 - n) := Nat.div_lt_of_lt_mul h1
    have h3 := Nat.div_add_mod (x * 2 ^ n % 4294967296) (2 ^ n)
    rw [hlo] at h3
    have h4 : 2 ^ n * (x * 2 ^ n % 4294967296 / 2 ^ n + 1) ≤ 2 ^ n * 2 ^ (32 - n) := Nat.mul_le_mul_left _ h2
    rw [hs, Nat.mul_add, Nat.mul_one] at h4
    omega
  have hlt : x * 2 ^ n < 18446744073709551616 := by
    have : x * 2 ^ n ≤ 4294967295 * 4294967296 := Nat.mul_le_mul (by omega) hp2
    omega
  have hi : x * 2 ^ n / 4294967296 < 2 ^ n := Nat.div_lt_of_lt_mul (Nat.mul_lt_mul_of_pos_right hx (Nat.two_pow_pos n))
  have ec : (x : Int) * 2 ^ n = ((x * 2 ^ n : Nat) : Int) := by rw [Int.natCast_mul, Int.natCast_pow]; rfl
  rw [ec, IntKind.wrap_u64]
  have hi2 : x * 2 ^ n / 4294967296 < 4294967296 := Nat.lt_of_lt_of_le hi hp2
  generalize x * 2 ^ n = t at *
  refine ⟨?_, hsum, by omega, hi, hi2⟩
  have e2 : ((t : Int) % 18446744073709551616 % 4294967296) = ((t % 4294967296 : Nat) : Int) := by omega
  rw [e2, bits_join_low .u32 32 (by decide) wraps_u32 n _ _ (by omega) (by exact_mod_cast hy) (by omega) (by omega) (by exact_mod_cast hlo) (by omega)]
  omega
theorem up_val {ds : List Nat} {k x y z n V : Nat} (hk : k + 1 < ds.length) (hy : ds[k]? = some y) (h : W.val (ds.take (k + 1)) = V * 2 ^ n) :
    W.val (((ds.set k (y + x * 2 ^ n % 4294967296)).set (k + 1) (x * 2 ^ n / 4294967296)).take (k + 1 + 1)) = (V + W.pw k * x) * 2 ^ n := by
  rw [W.val_take_set_end _ (by simpa using hk)]
  have h1 := W.val_take_set (N := k + 1) (y + x * 2 ^ n % 4294967296) (by omega) hy
  rw [h, Nat.mul_add] at h1
  have h2 := Nat.div_add_mod (x * 2 ^ n) 4294967296
  rw [Nat.add_mul, W.pw_succ, Nat.mul_assoc (W.pw k), ← h2]
  generalize x * 2 ^ n = t at *
  rw [h2, Nat.mul_comm 4294967296 (W.pw k), Nat.mul_assoc]
  have h3 : W.pw k * t = W.pw k * (4294967296 * (t / 4294967296)) + W.pw k * (t % 4294967296) := by rw [← Nat.mul_add, h2]
  omega

/-- What up makes: a block of its own. -/
def UpPost (w : World) (l : List Nat) (n : Nat) (e : Ending) (w' : World) : Prop :=
  e = .returned (.slice (some ⟨w.heap.size, 0, none⟩) (l.length + 1) (l.length + 1)) ∧ ∃ ds, Bk w' w.heap.size ds ∧ ds.length = l.length + 1 ∧ W.WF ds ∧ W.val ds = W.val l * 2 ^ n ∧ Blw w w'

set_option maxRecDepth 100000 in
set_option maxHeartbeats 1000000 in
theorem natUp_any (a : Option Addr) (l : List Nat) (cap n : Nat) (w : World) (h : Arr w a (u32s l)) (hl : l.length ≤ 1000000) (wl : W.WF l) (hn : n < 32) :
    Calls Try.prog 186 #[.slice a l.length cap, .int .u64 n] w (UpPost w l n) := by
  go_enter Try.func186, Try.ntmps186
  go_wp2_with (refine wpList_words _ rfl _ _ rfl .i64 .i64 _ _ (l.length + 1) rfl rfl (by omega) (by omega) (by omega) ?_; intro w1 hbk hb1)
  go_loopw [15] (fun i wr => ∃ (k y : Nat) (ds : List Nat), k ≤ l.length ∧ i = .int .i64 k ∧ Bk wr w.heap.size ds ∧ Blw w wr ∧ Hid (ds.length = l.length + 1) ∧ Hid (W.WF ds) ∧ Hid (ds[k]? = some y) ∧ Hid (y < 2 ^ n) ∧ Hid (W.val (ds.take (k + 1)) = W.val (l.take k) * 2 ^ n)) (fun i _ => (l.length - intOf i).toNat)
  case atStart => exact ⟨0, 0, _, Nat.zero_le _, rfl, hbk, hb1, List.length_replicate, W.WF.rep _, by (show _ = _; simp), Nat.two_pow_pos n, by
    show W.val _ = W.val _ * _
    rw [List.take_replicate, W.val_rep]; simp [W.val]⟩
  case round =>
    obtain ⟨k, y, ds, hk, rfl, hg, hw, hdl, hdw, hy, hy2, hdv⟩ := hrel
    by_cases h0 : k < l.length
    · obtain ⟨x, b1, o1, -, -, hx, rfl, hq1, hq2⟩ := (h.blw hw).elem (k := k) h0
      have hxl := wl.at hx.out
      obtain ⟨z, hz, hz1, hz2⟩ := hg.elem (k := k + 1) (by rw [hdl.out]; omega)
      have hyc := hg.cell hy.out
      have hyf := hg.frozen k
      have k1 : k < l.length + 1 := by omega
      go_wp2_with fail
      obtain ⟨f1, f2, f3, f4, f5⟩ := up_facts hxl hy2.out hn
      have hkd : k + 1 < ds.length := by rw [hdl.out]; omega
      have hv := up_val (x := x) (z := z) hkd hy.out hdv.out
      rw [← W.val_take_succ hx.out] at hv
      rw [f1, f3]
      go_roundw
      case rel => exact ⟨k + 1, x * 2 ^ n / 4294967296, (ds.set k (y + x * 2 ^ n % 4294967296)).set (k + 1) (x * 2 ^ n / 4294967296), h0, by go_num, (hg.set k rfl).set (k + 1) rfl, (hw.setCell _ _ (Nat.le_refl _)).setCell _ _ (Nat.le_refl _), by (show _ = _; rw [List.length_set, List.length_set]; exact hdl.out), (hdw.out.set _ f2).set _ f5, by (show _ = _; rw [List.getElem?_set_self (by simpa using hkd)]), f4, hv⟩
      case measure => (first | (simp [intOf]; done) | (simp [intOf]; omega))
    · have : k = l.length := by omega
      subst this
      have e1 : W.val ds = W.val l * 2 ^ n := by
        have := hdv.out
        rwa [List.take_length, ← hdl.out, List.take_length] at this
      go_wp2
      go_ret
      exact ⟨rfl, ds, hg, hdl.out, hdw.out, e1, hw⟩

theorem down_word {x y F n : Nat} (hx : x < 4294967296) (hn : n < 32) :
    (x + 4294967296 * (y + 4294967296 * F)) / 2 ^ n = (x + 4294967296 * y) / 2 ^ n % 4294967296 + 4294967296 * ((y + 4294967296 * F) / 2 ^ n) := by
  have hs := pow_split hn
  have hp : 0 < (2 : Nat) ^ n := Nat.two_pow_pos _
  have e1 : (y + 4294967296 * F) / 2 ^ n = y / 2 ^ n + 2 ^ (32 - n) * F := by
    rw [← hs, Nat.mul_assoc, Nat.add_mul_div_left _ _ hp]
  have e2 : (x + 4294967296 * (y + 4294967296 * F)) / 2 ^ n = (x + 4294967296 * y) / 2 ^ n + 4294967296 * (2 ^ (32 - n) * F) := by
    have : x + 4294967296 * (y + 4294967296 * F) = (x + 4294967296 * y) + 2 ^ n * (4294967296 * (2 ^ (32 - n) * F)) := by
      have : 2 ^ n * (4294967296 * (2 ^ (32 - n) * F)) = 4294967296 * (4294967296 * F) := by
        rw [Nat.mul_left_comm (2 ^ n), ← Nat.mul_assoc (2 ^ n), hs]
      omega
    rw [this, Nat.add_mul_div_left _ _ hp]
  have e3 : (x + 4294967296 * y) / 2 ^ n / 4294967296 = y / 2 ^ n := by
    rw [Nat.div_div_eq_div_mul, Nat.mul_comm (2 ^ n) 4294967296, ← Nat.div_div_eq_div_mul, show (x + 4294967296 * y) / 4294967296 = y by omega]
  have e4 := Nat.div_add_mod ((x + 4294967296 * y) / 2 ^ n) 4294967296
  rw [e3] at e4
  rw [e1, e2]
  omega
theorem pow_int (n : Nat) : (2 : Int) ^ n = ((2 ^ n : Nat) : Int) := by rw [Int.natCast_pow]; rfl
theorem down_or {x y n : Nat} (hx : x < 4294967296) (hy : y < 4294967296) : bits .or .u64 (x : Int) ((y : Int) * 4294967296) / 2 ^ n % 4294967296 = (((x + 4294967296 * y) / 2 ^ n % 4294967296 : Nat) : Int) := by
  rw [or_high x y hx hy, pow_int, ← Int.natCast_ediv]; rfl
theorem down_one {x n : Nat} (hx : x < 4294967296) : (x : Int) / 2 ^ n % 4294967296 = ((x / 2 ^ n % 4294967296 : Nat) : Int) := by
  rw [pow_int, ← Int.natCast_ediv]; rfl

set_option maxRecDepth 100000 in
set_option maxHeartbeats 1000000 in
theorem natDown_any (g o : Nat) (pre post : List Value) (l : List Nat) (cap n : Nat) (w : World) (ho : pre.length = o) (h : Wn w g pre l post) (hc : l.length ≤ cap) (hl : cap ≤ 9223372036854775807) (hll : l.length ≤ 1099511627776) (wl : W.WF l) (hn : n < 32) :
    Calls Try.prog 190 #[.slice (some ⟨g, o, none⟩) l.length cap, .int .u64 n] w fun e w' => ∃ q : List Nat, e = .returned (.slice (some ⟨g, o, none⟩) (W.toW (W.val l / 2 ^ n)).length cap) ∧
      Wn w' g pre q post ∧ W.WF q ∧ q.length = l.length ∧ W.val q = W.val l / 2 ^ n ∧ KeptO (· = g) w w' := by
  subst ho
  have p1 : l.length ≤ 1099511627776 := by omega
  go_enter Try.func190, Try.ntmps190
  go_wp2_with fail
  go_loopw [9] (fun i wr => ∃ (k : Nat) (ds : List Nat), k ≤ l.length ∧ i = .int .i64 k ∧ Wn wr g pre ds post ∧ KeptO (· = g) w wr ∧ Hid (ds.length = l.length) ∧ Hid (W.WF ds) ∧ Hid (ds.drop k = l.drop k) ∧ Hid (W.val (ds.take k) + W.pw k * (W.val (l.drop k) / 2 ^ n) = W.val l / 2 ^ n)) (fun i _ => (l.length - intOf i).toNat)
  case atStart => exact ⟨0, l, Nat.zero_le _, rfl, h, KeptO.refl w, rfl, wl, rfl, by (show _ = _; rw [List.take_zero, W.val, List.drop_zero, Nat.zero_add]; show 1 * _ = _; rw [Nat.one_mul])⟩
  case round =>
    obtain ⟨k, ds, hk, rfl, hg, hw, hdl, hdw, hdd, hdv⟩ := hrel
    by_cases h0 : k < l.length
    · have hkd : k < ds.length := by rw [hdl.out]; omega
      obtain ⟨x, hx, hx1, hx2⟩ := hg.elem (k := k) hkd
      have hxl := hdw.out.at hx.out
      have hlx : Hid (l[k]? = some x) := by
        show l[k]? = some x
        have := congrArg (fun t : List Nat => t[0]?) hdd.out
        simp only [List.getElem?_drop, Nat.add_zero] at this
        rw [← this]; exact hx.out
      have hdd2 : Hid (ds.drop (k + 1) = l.drop (k + 1)) := by
        show _ = _
        have := congrArg (List.drop 1) hdd.out
        rwa [List.drop_drop, List.drop_drop] at this
      have hvx := Lib.hid (val_drop hlx.out)
      by_cases h1 : k + 1 < l.length
      · obtain ⟨y, hy, hy1, hy2⟩ := hg.elem (k := k + 1) (by rw [hdl.out]; omega)
        have hyl := hdw.out.at hy.out
        have hly : l[k + 1]? = some y := by
          have := congrArg (fun t : List Nat => t[0]?) hdd2.out
          simp only [List.getElem?_drop, Nat.add_zero] at this
          rw [← this]; exact hy.out
        have hvy := Lib.hid (val_drop hly)
        clear hly
        have i1 : (k : Int) + 1 < (l.length : Int) := by omega
        go_wp2_with fail
        rw [down_or hxl hyl]
        have key := down_word (y := y) (F := W.val (l.drop (k + 1 + 1))) hxl hn
        rw [← hvy.out, ← hvx.out] at key
        have hb : (x + 4294967296 * y) / 2 ^ n % 4294967296 < 4294967296 := Nat.mod_lt _ (by decide)
        generalize (x + 4294967296 * y) / 2 ^ n % 4294967296 = v at *
        go_roundw
        case rel => exact ⟨k + 1, ds.set k v, h0, by go_num, hg.set hkd rfl, hw.setCell _ _ (.inl rfl), by (show _ = _; rw [List.length_set]; exact hdl.out), hdw.out.set _ hb, by (show _ = _; rw [List.drop_set_of_lt (Nat.lt_succ_self k)]; exact hdd2.out), by
          show _ = _
          rw [W.val_take_set_end _ hkd, ← hdv.out, key, Nat.mul_add, W.pw_succ, Nat.mul_left_comm, ← Nat.mul_assoc 4294967296]
          omega⟩
        case measure => (first | (simp [intOf]; done) | (simp [intOf]; omega))
      · have e0 : l.drop (k + 1) = [] := List.drop_eq_nil_of_le (by omega)
        have i1 : decide ((k : Int) + 1 < (l.length : Int)) = false := by simp; omega
        have HE := Lib.hid e0
        clear e0
        go_wp2_with fail
        rw [down_one hxl]
        have key := down_word (x := x) (y := 0) (F := 0) hxl hn
        have hb : x / 2 ^ n % 4294967296 < 4294967296 := Nat.mod_lt _ (by decide)
        have e2 : W.val (l.drop k) / 2 ^ n = x / 2 ^ n % 4294967296 := by
          rw [hvx.out, HE.out, W.val]
          simpa using key
        generalize x / 2 ^ n % 4294967296 = v at *
        go_roundw
        case rel => exact ⟨k + 1, ds.set k v, h0, by go_num, hg.set hkd rfl, hw.setCell _ _ (.inl rfl), by (show _ = _; rw [List.length_set]; exact hdl.out), hdw.out.set _ hb, by (show _ = _; rw [List.drop_set_of_lt (Nat.lt_succ_self k)]; exact hdd2.out), by
          show _ = _
          rw [W.val_take_set_end _ hkd, ← hdv.out, e2, HE.out, W.val, Nat.zero_div, Nat.mul_zero, Nat.add_zero]⟩
        case measure => (first | (simp [intOf]; done) | (simp [intOf]; omega))
    · have : k = l.length := by omega
      subst this
      have e1 : W.val ds = W.val l / 2 ^ n := by
        have := hdv.out
        rw [List.drop_length, W.val, Nat.zero_div, Nat.mul_zero, Nat.add_zero, ← hdl.out, List.take_length] at this
        exact this
      have hcut := natCut_any (some ⟨g, pre.length, none⟩) ds cap wr hg.arr (by rw [hdl.out]; exact hc) (by omega) hdw.out
      rw [hdl.out, e1] at hcut
      go_wp2_with (go_at_call 175; refine Calls.mono hcut ?_; rintro e w' ⟨rfl, rfl⟩)
      go_ret
      exact ⟨ds, rfl, hg, hdw.out, hdl.out, e1, hw⟩
end Go.Proofs.Ytigkfdoeneemeaa
