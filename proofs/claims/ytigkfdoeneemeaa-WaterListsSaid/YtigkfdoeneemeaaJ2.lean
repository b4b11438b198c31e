/- Several texts, joined. -/
import Derived.Test.YtigkfdoeneemeaaJ1
import Derived.Test.YtigkfdoeneemeaaJ0
set_option linter.unusedVariables false
set_option linter.unusedSimpArgs false
/- Walks of slackwaterref01: Less, small. -/
namespace Go.Proofs.Ytigkfdoeneemeaa
open Go.RowKit

theorem less_step {A A0 Vk k b y u u' b' : Nat} (h : A + Vk = A0 + W.pw k * b) (e : u' + y + b = u + 4294967296 * b') :
    (A + W.pw k * u') + (Vk + W.pw k * y) = (A0 + W.pw k * u) + W.pw (k + 1) * b' := by
  have e1 : W.pw k * (u' + y + b) = W.pw k * (u + 4294967296 * b') := by rw [e]
  have e2 : W.pw (k + 1) * b' = W.pw k * (4294967296 * b') := by rw [W.pw_succ, Nat.mul_comm 4294967296, Nat.mul_assoc]
  rw [Nat.mul_add, Nat.mul_add, Nat.mul_add] at e1
  rw [e2]
  omega

set_option maxRecDepth 100000 in
set_option maxHeartbeats 2000000 in
theorem refLess_any (a b : Option Addr) (l m : List Nat) (c d : Nat) (w : World) (h : Arr w a (u32s l)) (k : Arr w b (u32s m)) (wl : W.WF l) (wm : W.WF m) (hl : l.length ≤ 100000) (hm : m.length ≤ 100000) (hle : W.val m ≤ W.val l) :
    Calls Try.prog 213 #[.slice a l.length c, .slice b m.length d] w (RetW w (W.val l - W.val m)) := by
  have HLE := Lib.hid hle
  clear hle
  go_enter Try.func213, Try.ntmps213
  go_wp2_with (refine wpList_words _ rfl _ _ rfl .i64 .i64 _ _ l.length rfl rfl (by omega) (by omega) (by omega) ?_; intro w1 hbk hb1)
  go_loopw [6, 7] (fun cr i wr => ∃ (j c' : Nat) (ds : List Nat), j ≤ l.length ∧ i = .int .i64 j ∧ cr = .int .u64 c' ∧ c' ≤ 1 ∧ Bk wr w.heap.size ds ∧ Blw w wr ∧ Hid (ds.length = l.length) ∧ Hid (W.WF ds) ∧ Hid (W.val (ds.take j) + W.val (m.take j) = W.val (l.take j) + W.pw j * c')) (fun _ i _ => (l.length - intOf i).toNat)
  case atStart => exact ⟨0, 0, _, by omega, rfl, rfl, by decide, hbk, hb1, List.length_replicate, W.WF.rep _, by (show _ = _; rw [List.take_zero, List.take_zero, List.take_zero, W.val, Nat.mul_zero])⟩
  case round =>
    obtain ⟨j, cr, ds, hj, rfl, rfl, hc, hg, hB, hdl, hdw, hdv⟩ := hrel
    by_cases h0 : j < l.length
    · have hjd : j < ds.length := by rw [hdl.out]; omega
      obtain ⟨z, hz, hz1, hz2⟩ := hg.elem (k := j) hjd
      obtain ⟨x, b1, o1, -, -, hx, rfl, hq1, hq2⟩ := (h.blw hB).elem (k := j) h0
      have hxl := wl.at hx.out
      have w2 := fun W (hW : ∃ y, W = wr.ext y) => refWord_any b m d j W (by obtain ⟨y, rfl⟩ := hW; exact (k.blw hB).ext y) (by omega)
      have x2 := W.getD_lt wm j
      have T1 := Lib.hid (W.val_take_succ hx.out)
      have T2 := Lib.hid (W.val_take_succ' m j)
      generalize m.getD j 0 = y at *
      have W2 := Lib.hid w2
      clear w2
      have j1 : (j : Int) < (l.length : Int) := by omega
      have j2 : (0 : Int) ≤ (j : Int) := by omega
      go_wp2_with fail
      refine wp_region_ext_lit (by kernel_rfl) (by kernel_rfl) ?_
      repeat (quiet_step ((go_at_call 209; exact Calls.ext_same (W2.out _ ⟨_, rfl⟩))))
      refine wpQuiet_nil ?_
      rintro wv ⟨x9, hWe⟩
      have hgW : Bk wv w.heap.size ds := by rw [hWe]; exact hg.ext x9
      have hBW : Blw w wv := by rw [hWe]; exact hB.ext x9
      have e9 : IntKind.u64.wrap (IntKind.u64.wrap (y : Int) + (cr : Int)) = (y : Int) + (cr : Int) := by rw [IntKind.wrap_u64, IntKind.wrap_u64]; omega
      rw [e9]
      clear e9 W2 hq1 hq2 hz1 hz2 hWe
      obtain ⟨z', hz', hz1, hz2⟩ := hgW.elem (k := j) hjd
      have key := fun (u' b' : Nat) (e : u' + y + cr = x + 4294967296 * b') => less_step hdv.out e
      rw [← T1.out, ← T2.out] at key
      have KEY := Lib.hid key
      clear key hg hB
      by_cases hxy : x < y + cr
      · have c1 : decide ((x : Int) < (y : Int) + (cr : Int)) = true := by simp; omega
        go_wp2_with fail
        clear hz1 hz2
        go_roundw
        case rel => exact ⟨j + 1, 1, ds.set j (x + 4294967296 - (y + cr)), by omega, by go_num, rfl, by omega, hgW.set _ (u32_of (by omega)), hBW.setCell _ _ (Nat.le_refl _), by (show _ = _; rw [List.length_set]; exact hdl.out), hdw.out.set _ (by omega), by
          show _ = _
          rw [W.val_take_set_end _ hjd]
          exact KEY.out _ _ (by omega)⟩
        case measure => (first | (simp [intOf]; done) | (simp [intOf]; omega))
      · have c1 : decide ((x : Int) < (y : Int) + (cr : Int)) = false := by simp; omega
        go_wp2_with fail
        clear hz1 hz2
        go_roundw
        case rel => exact ⟨j + 1, 0, ds.set j (x - (y + cr)), by omega, by go_num, rfl, by omega, hgW.set _ (u32_of (by omega)), hBW.setCell _ _ (Nat.le_refl _), by (show _ = _; rw [List.length_set]; exact hdl.out), hdw.out.set _ (by omega), by
          show _ = _
          rw [W.val_take_set_end _ hjd]
          exact KEY.out _ _ (by omega)⟩
        case measure => (first | (simp [intOf]; done) | (simp [intOf]; omega))
    · have : j = l.length := by omega
      subst this
      have e1 : W.val ds + W.val (m.take l.length) = W.val l + W.pw l.length * cr := by
        have := hdv.out
        rwa [← hdl.out, List.take_length, List.take_of_length_le (l := l) (by rw [hdl.out]; exact Nat.le_refl _), hdl.out] at this
      have e3 : W.val (m.take l.length) = W.val m := by
        by_cases hml : m.length ≤ l.length
        · rw [List.take_of_length_le hml]
        · have h1 := W.val_split m l.length (by omega)
          have h2 := W.val_lt wl
          have h3 := HLE.out
          rcases Nat.eq_zero_or_pos (W.val (m.drop l.length)) with h | h
          · rw [h] at h1; omega
          · exfalso
            have h5 : W.pw l.length * 1 ≤ W.pw l.length * W.val (m.drop l.length) := Nat.mul_le_mul_left _ h
            omega
      have hcr : cr = 0 := by
        have h1 := W.val_lt hdw.out
        have h3 := HLE.out
        rw [hdl.out] at h1
        rcases Nat.eq_zero_or_pos cr with e | e
        · exact e
        · exfalso
          have h5 : W.pw l.length * 1 ≤ W.pw l.length * cr := Nat.mul_le_mul_left _ e
          omega
      subst hcr
      have e2 : W.val ds = W.val l - W.val m := by have := HLE.out; rw [Nat.mul_zero] at e1; omega
      have hcut := refTrim_any (some ⟨w.heap.size, 0, none⟩) ds l.length wr hg.arr (by rw [hdl.out]; exact Nat.le_refl _) (by omega) (fun h => by cases h) hdw.out (by rw [hdl.out]; omega)
      rw [hdl.out, e2] at hcut
      clear e1 e2 e3
      go_wp2_with fail
      refine Calls.mono hcut ?_
      rintro e w2 ⟨a3, c3, x3, rfl, rfl, r1, r2, r3⟩
      go_wp2
      go_ret
      exact RetOwn.of (ownsRow_mono r1 hB.size) (hB.ext x3)
end Go.Proofs.Ytigkfdoeneemeaa
/- Walks of slackwaterref01: told, small. -/
namespace Go.Proofs.Ytigkfdoeneemeaa
open Go.RowKit

theorem refTold_ok (a : Option Addr) (n c : Nat) (w : World) (hn : n ≤ 8192) :
    Calls Try.prog 177 #[.slice a n c] w fun e w' => e = .returned (.tuple #[.slice a n c, .int .i64 0]) ∧ w' = w := by
  have d1 : decide ((8192 : Int) < (n : Int)) = false := by simp; omega
  go_enter Try.func177, Try.ntmps177
  go_wp2
  go_ret2
  exact ⟨rfl, rfl⟩
theorem refTold_long (a : Option Addr) (n c : Nat) (w : World) (hn : 8192 < n) :
    Calls Try.prog 177 #[.slice a n c] w fun e w' => e = .returned (.tuple #[.slice none 0 0, .int .i64 3]) ∧ w' = w := by
  have d1 : decide ((8192 : Int) < (n : Int)) = true := by simp; omega
  go_enter Try.func177, Try.ntmps177
  go_wp2
  go_ret2
  exact ⟨rfl, rfl⟩
/-- Words of the call's own, and one word. -/
def RetSm (w : World) (n m : Nat) (e : Ending) (w' : World) : Prop :=
  ∃ (a : Option Addr) (c : Nat), e = .returned (.tuple #[.slice a (W.toW n).length c, .int .u32 (m : Int)]) ∧ Blw w w' ∧ w'.ownsRow w.heap.size 135 1 (.slice a (W.toW n).length c) (W.toW n).length (u32s (W.toW n))

set_option maxRecDepth 100000 in
set_option maxHeartbeats 2000000 in
theorem refSmall_any (a : Option Addr) (l : List Nat) (c d : Nat) (w : World) (h : Arr w a (u32s l)) (wl : W.WF l) (hl : l.length ≤ 100000) (hd : 0 < d) (hd2 : d < 4294967296) :
    Calls Try.prog 200 #[.slice a l.length c, .int .u32 d] w (RetSm w (W.val l / d) (W.val l % d)) := by
  have d0 : ((d : Int) == 0) = false := beq_false_of_ne (by omega)
  go_enter Try.func200, Try.ntmps200
  go_wp2_with (refine wpList_words _ rfl _ _ rfl .i64 .i64 _ _ l.length rfl rfl (by omega) (by omega) (by omega) ?_; intro w1 hbk hb1)
  go_loopw [7, 8] (fun r i wr => ∃ (k r' : Nat) (ds : List Nat), k ≤ l.length ∧ i = .int .i64 ((k : Int) - 1) ∧ r = .int .u64 r' ∧ r' < d ∧ Bk wr w.heap.size ds ∧ Blw w wr ∧ Hid (ds.length = l.length) ∧ Hid (W.WF ds) ∧ Hid (W.val (ds.drop k) * d + r' = W.val (l.drop k))) (fun _ i _ => (intOf i + 1).toNat)
  case atStart => exact ⟨l.length, 0, _, Nat.le_refl _, rfl, rfl, hd, hbk, hb1, List.length_replicate, W.WF.rep _, by show _ = _; rw [List.drop_of_length_le (by simp), List.drop_length, W.val, Nat.zero_mul]⟩
  case round =>
    obtain ⟨k, r, ds, hk, rfl, rfl, hr, hg, hB, hdl, hdw, hdv⟩ := hrel
    by_cases h0 : 0 < k
    · obtain ⟨j, rfl⟩ : ∃ j, k = j + 1 := ⟨k - 1, by omega⟩
      have ej : (((j + 1 : Nat) : Int) - 1) = (j : Int) := by omega
      rw [ej]
      clear ej
      obtain ⟨z, hz, hz1, hz2⟩ := hg.elem (k := j) (by rw [hdl.out]; omega)
      obtain ⟨x, b1, o1, -, -, hlx, rfl, hq1, hq2⟩ := (h.blw hB).elem (k := j) (by omega)
      have hxl := wl.at hlx.out
      have r1 : r < 4294967296 := by omega
      have i1 : (j : Int) < (l.length : Int) := by omega
      have i0 : (0 : Int) ≤ (j : Int) := by omega
      clear h0
      go_wp2_with fail
      have hq : (r * 4294967296 + x) / d < 4294967296 := Nat.div_lt_of_lt_mul (by
        have : (r + 1) * 4294967296 ≤ d * 4294967296 := Nat.mul_le_mul_right _ hr
        omega)
      have hm : (r * 4294967296 + x) % d < d := Nat.mod_lt _ hd
      have key := W.small_step (r := r) (x := x) (d := d) hdv.out
      have hjl : j < ds.length := by rw [hdl.out]; omega
      rw [← val_drop hlx.out] at key
      have e1 : ((r : Int) * 4294967296 + (x : Int)) / (d : Int) % 4294967296 = (((r * 4294967296 + x) / d : Nat) : Int) := by
        have : ((r : Int) * 4294967296 + (x : Int)) / (d : Int) = (((r * 4294967296 + x) / d : Nat) : Int) := by rw [Int.natCast_ediv]; rfl
        rw [this]; exact Int.emod_eq_of_lt (Int.natCast_nonneg _) (Int.ofNat_lt.2 hq)
      have e2 : ((r : Int) * 4294967296 + (x : Int)) % (d : Int) = (((r * 4294967296 + x) % d : Nat) : Int) := by rw [Int.natCast_emod]; rfl
      rw [e1, e2]
      clear e1 e2
      generalize (r * 4294967296 + x) / d = q at *
      generalize (r * 4294967296 + x) % d = m at *
      go_roundw
      case rel => exact ⟨j, m, ds.set j q, by omega, rfl, rfl, hm, hg.set _ rfl, hB.setCell _ _ (Nat.le_refl _), by (show _ = _; rw [List.length_set]; exact hdl.out), hdw.out.set _ hq, by
        show _ = _
        rw [drop_set hjl, W.val]; exact key⟩
      case measure => (first | (simp [intOf]; done) | (simp [intOf]; omega))
    · have : k = 0 := by omega
      subst this
      have e0 : (((0 : Nat) : Int) - 1) = -1 := by omega
      rw [e0]
      have hv : W.val ds * d + r = W.val l := by have := hdv.out; simpa using this
      have v1 : W.val ds = W.val l / d := by
        rw [← hv, Nat.add_comm, Nat.add_mul_div_right _ _ hd, Nat.div_eq_of_lt hr, Nat.zero_add]
      have v2 : Hid (r = W.val l % d) := by
        show r = W.val l % d
        rw [← hv, Nat.add_comm, Nat.add_mul_mod_self_right, Nat.mod_eq_of_lt hr]
      have r1 : r < 4294967296 := by omega
      have hcut := refTrim_any (some ⟨w.heap.size, 0, none⟩) ds l.length wr hg.arr (by rw [hdl.out]; exact Nat.le_refl _) (by omega) (fun h => by cases h) hdw.out (by rw [hdl.out]; omega)
      rw [hdl.out, v1] at hcut
      clear h0 hv v1
      go_wp2_with fail
      refine Calls.mono hcut ?_
      rintro e w2 ⟨a3, c3, x3, rfl, rfl, s1, s2, s3⟩
      go_wp2
      go_ret2
      refine ⟨a3, c3, ?_, hB.ext x3, ownsRow_mono s1 hB.size⟩
      exact congrArg (fun x : Nat => Ending.returned (.tuple #[.slice a3 (W.toW (W.val l / d)).length c3, .int .u32 (x : Int)])) v2.out
end Go.Proofs.Ytigkfdoeneemeaa
/- The walk of slackwaterref01.Bits. -/
namespace Go.Proofs.Ytigkfdoeneemeaa
open Go.RowKit

set_option maxRecDepth 100000 in
set_option maxHeartbeats 2000000 in
theorem refBits_any (a : Option Addr) (l : List Nat) (c : Nat) (w : World) (h : Arr w a (u32s l)) (hc : l.length ≤ c) (hcm : c ≤ 9223372036854775807) (ha : a = none → c = 0) (wl : W.WF l) (hl : l.length ≤ 100000) :
    Calls Try.prog 202 #[.slice a l.length c] w fun e w' => e = .returned (.int .i64 (W.bl (W.val l) : Nat)) ∧ ∃ x, w' = w.ext x := by
  have ht := refTrim_any a l c w h hc hcm ha wl (by omega)
  have HT := Lib.hid ht
  clear ht
  go_enter Try.func202, Try.ntmps202
  go_wp2_with fail
  refine Calls.mono HT.out ?_
  rintro e w2 ⟨a3, c3, x3, rfl, rfl, s1, s2, s3⟩
  have hlt : (W.toW (W.val l)).length ≤ 100000 := Nat.le_trans (W.toW_len_le wl) hl
  have hv : W.bl (W.val l) = W.bl (W.val (W.toW (W.val l))) := by rw [W.val_toW]
  have hn := W.nrm_toW (W.val l)
  have hw := W.wf_toW (W.val l)
  generalize W.toW (W.val l) = t at *
  by_cases h0 : t = []
  · have HV : Hid (W.bl (W.val l) = 0) := by show _ = _; rw [hv, h0]; exact W.bl_zero
    subst h0
    clear hv hn hw HT
    go_wp2
    go_ret
    exact ⟨by rw [HV.out]; rfl, Blw.is (by repeat (first | exact Blw.refl _ | apply Blw.ext | apply Blw.alloc | apply Blw.drewN | apply Blw.drew | refine Blw.setCell ?_ _ _ (by simp)))⟩
  · have hpos : 0 < t.length := List.length_pos_iff.2 h0
    obtain ⟨x, b, o, -, -, hgx, rfl, hb, hc1⟩ := s2.elem (k := t.length - 1) (by omega)
    have hx : t.getLast? = some x := by rw [List.getLast?_eq_getElem?]; exact hgx.out
    have hx0 : x ≠ 0 := fun e => hn (by rw [hx, e])
    have hx4 := hw.at hgx.out
    have HV : Hid (W.bl (W.val l) = 32 * (t.length - 1) + W.bl x) := by show _ = _; rw [hv, W.bl_words hw hx hx0]
    have hbx := W.bl_le32 hx4
    have i1 : ((t.length : Int) == 0) = false := by simp; omega
    have i2 : ((t.length : Int) - 1).toNat = t.length - 1 := by omega
    have i3 : (1 : Int) ≤ (t.length : Int) := by omega
    have i4 : (0 : Int) ≤ (t.length : Int) - 1 := by omega
    have i5 : (t.length : Int) - 1 < (t.length : Int) := by omega
    have e32 : (32 : Int) * ((t.length : Int) - 1) = ((32 * (t.length - 1) : Nat) : Int) := by omega
    clear hv hn hw HT hx h0
    go_wp2
    rw [show (32 : Int) * ((t.length - 1 : Nat) : Int) = ((32 * (t.length - 1) : Nat) : Int) by omega]
    clear i1 i2 i3 i4 i5 e32
    go_loopw [4, 5] (fun v4 v5 wr => ∃ (m y : Nat), v4 = .int .i64 m ∧ v5 = .int .u32 y ∧ y < 4294967296 ∧ m ≤ 4000000 ∧ Hid (m + W.bl y = 32 * (t.length - 1) + W.bl x) ∧ Blw w wr) (fun _ y _ => (intOf y).toNat)
    case atStart => exact ⟨32 * (t.length - 1), x, rfl, rfl, hx4, by omega, rfl, (by repeat (first | exact Blw.refl _ | apply Blw.ext | apply Blw.alloc | apply Blw.drewN | apply Blw.drew | refine Blw.setCell ?_ _ _ (by simp)))⟩
    case round =>
      obtain ⟨m, y, rfl, rfl, hy, hm, hbl, hbw⟩ := hrel
      by_cases hy0 : y = 0
      · have HM : Hid (m = W.bl (W.val l)) := by
          show _ = _
          have := hbl.out
          rw [hy0, W.bl_zero] at this
          rw [HV.out]; omega
        subst hy0
        go_wp2
        go_ret
        exact ⟨by rw [← HM.out]; rfl, Blw.is hbw⟩
      · have hb1 := W.bl_pos hy0
        have HB : Hid (m + 1 + W.bl (y / 2) = 32 * (t.length - 1) + W.bl x) := by
          show _ = _
          have := hbl.out
          rw [hb1] at this; omega
        have hmb : m + 1 ≤ 4000000 := by have := HB.out; omega
        have q1 : (0 : Int) < (y : Int) := by omega
        clear hb1 hbl hy0
        go_wp2
        (try rw [show (y : Int) / 2 = ((y / 2 : Nat) : Int) from rfl])
        go_roundw
        case rel => exact ⟨m + 1, y / 2, by go_num, rfl, by omega, hmb, HB, hbw⟩
        case measure => simp [intOf]; omega
end Go.Proofs.Ytigkfdoeneemeaa
/- The walk of slackwaterref01.Up. -/
namespace Go.Proofs.Ytigkfdoeneemeaa
open Go.RowKit

theorem bitsAdd_facts {x y n : Nat} (hx : x < 4294967296) (hy : y < 2 ^ n) (hn : n < 32) :
    y + x * 2 ^ n % 4294967296 < 4294967296 ∧ x * 2 ^ n / 4294967296 < 2 ^ n ∧ x * 2 ^ n / 4294967296 < 4294967296 ∧ x * 2 ^ n < 18446744073709551616 := by
  obtain ⟨-, f2, -, f4, f5⟩ := up_facts hx hy hn
  refine ⟨f2, f4, f5, ?_⟩
  have hp2 : (2 : Nat) ^ n ≤ 4294967296 := by rw [← pow_split hn]; exact Nat.le_mul_of_pos_right _ (Nat.two_pow_pos _)
  have : x * 2 ^ n ≤ 4294967295 * 4294967296 := Nat.mul_le_mul (by omega) hp2
  omega

set_option maxRecDepth 100000 in
set_option maxHeartbeats 2000000 in
theorem refUp_any (a : Option Addr) (l : List Nat) (c n : Nat) (w : World) (h : Arr w a (u32s l)) (wl : W.WF l) (hl : l.length ≤ 100000) (hn : n ≤ 3000000) :
    Calls Try.prog 203 #[.slice a l.length c, .int .i64 n] w (RetW w (W.val l * 2 ^ n)) := by
  by_cases h0 : l.length = 0
  · have e0 : l = [] := List.eq_nil_of_length_eq_zero h0
    subst e0
    go_enter Try.func203, Try.ntmps203
    go_wp2
    go_ret
    refine RetOwn.of ?_ (Blw.refl w)
    simp only [W.val, Nat.zero_mul, W.toW_zero]
    exact World.ownsRow_nil _ _ _ _
  obtain ⟨q, hq⟩ : ∃ q, q = n / 32 := ⟨_, rfl⟩
  obtain ⟨s, hs⟩ : ∃ s, s = n % 32 := ⟨_, rfl⟩
  have hs32 : s < 32 := by omega
  have hq1 : q ≤ 100000 := by omega
  have hnq : n = 32 * q + s := by omega
  have HN := Lib.hid hnq
  clear hnq
  have eq1 : (n : Int) / 32 = (q : Int) := by omega
  have eq2 : (n : Int) % 32 = (s : Int) := by omega
  have eq3 : (n : Int).tdiv 32 = (q : Int) := by rw [hq]; rfl
  have eq4 : (n : Int).tmod 32 = (s : Int) := by rw [hs]; rfl
  have d0 : ((l.length : Int) == 0) = false := beq_false_of_ne (by omega)
  clear hq hs h0
  go_enter Try.func203, Try.ntmps203
  go_wp2_with (refine wpList_words _ rfl _ _ rfl .i64 .i64 _ _ (l.length + q + 1) rfl rfl (by omega) (by omega) (by omega) ?_; intro w1 hbk hb1)
  go_loopw [6] (fun i wr => ∃ (k y : Nat) (ds : List Nat), k ≤ l.length ∧ i = .int .i64 k ∧ Bk wr w.heap.size ds ∧ Blw w wr ∧ Hid (ds.length = l.length + q + 1) ∧ Hid (W.WF ds) ∧ Hid (ds[k + q]? = some y) ∧ Hid (y < 2 ^ s) ∧ Hid (W.val (ds.take (k + q + 1)) = (W.pw q * W.val (l.take k)) * 2 ^ s)) (fun i _ => (l.length - intOf i).toNat)
  case atStart => exact ⟨0, 0, _, Nat.zero_le _, rfl, hbk, hb1, List.length_replicate, W.WF.rep _, by (show _ = _; rw [List.getElem?_replicate, if_pos (by omega)]), Nat.two_pow_pos s, by
    show W.val _ = _
    rw [List.take_replicate, W.val_rep]; simp [W.val]⟩
  case round =>
    obtain ⟨k, y, ds, hk, rfl, hg, hw, hdl, hdw, hy, hy2, hdv⟩ := hrel
    by_cases h0 : k < l.length
    · obtain ⟨x, b1, o1, -, -, hx, rfl, hq1', hq2'⟩ := (h.blw hw).elem (k := k) h0
      have hxl := wl.at hx.out
      obtain ⟨z, hz, hz1, hz2⟩ := hg.elem (k := k + q + 1) (by rw [hdl.out]; omega)
      have hyc := hg.cell hy.out
      have hyf := hg.frozen (k + q)
      have j1 : ((k : Int) + (q : Int)).toNat = k + q := by omega
      have j2 : (0 : Int) ≤ (k : Int) + (q : Int) := by omega
      have j3 : (k : Int) + (q : Int) < ((l.length + q + 1 : Nat) : Int) := by omega
      have j4 : ((k : Int) + (q : Int) + 1).toNat = k + q + 1 := by omega
      have j5 : (0 : Int) ≤ (k : Int) + (q : Int) + 1 := by omega
      have j6 : (k : Int) + (q : Int) + 1 < ((l.length + q + 1 : Nat) : Int) := by omega
      go_wp2_with fail
      obtain ⟨-, f2, f3, f4, f5⟩ := up_facts hxl hy2.out hs32
      obtain ⟨-, -, -, f6⟩ := bitsAdd_facts hxl hy2.out hs32
      have e1 : ((y : Int) + IntKind.u64.wrap ((x : Int) * 2 ^ s)) % 4294967296 = ((y + x * 2 ^ s % 4294967296 : Nat) : Int) := by
        have ec : (x : Int) * 2 ^ s = ((x * 2 ^ s : Nat) : Int) := by rw [Int.natCast_mul, Int.natCast_pow]; rfl
        rw [ec, IntKind.wrap_u64]
        generalize x * 2 ^ s = t at *
        omega
      rw [f3, e1]
      clear f3 e1 j1 j2 j3 j4 j5 j6
      have hkd : k + q + 1 < ds.length := by rw [hdl.out]; omega
      have hv := up_val (x := x) (z := z) hkd hy.out hdv.out
      rw [W.pw_add, Nat.mul_comm (W.pw k) (W.pw q), Nat.mul_assoc, ← Nat.mul_add, ← W.val_take_succ hx.out] at hv
      have hv2 : Hid (W.val (((ds.set (k + q) (y + x * 2 ^ s % 4294967296)).set (k + q + 1) (x * 2 ^ s / 4294967296)).take (k + 1 + q + 1)) = W.pw q * W.val (l.take (k + 1)) * 2 ^ s) := by
        show _ = _
        rw [show k + 1 + q + 1 = k + q + 1 + 1 by omega]; exact hv
      go_roundw
      case rel => exact ⟨k + 1, x * 2 ^ s / 4294967296, (ds.set (k + q) (y + x * 2 ^ s % 4294967296)).set (k + q + 1) (x * 2 ^ s / 4294967296), h0, by go_num, (hg.set (k + q) rfl).set (k + q + 1) rfl, (hw.setCell _ _ (Nat.le_refl _)).setCell _ _ (Nat.le_refl _), by (show _ = _; rw [List.length_set, List.length_set]; exact hdl.out), (hdw.out.set _ f2).set _ f5, by (show _ = _; rw [show k + 1 + q = k + q + 1 by omega, List.getElem?_set_self (by simpa using hkd)]), f4, hv2⟩
      case measure => (first | (simp [intOf]; done) | (simp [intOf]; omega))
    · have : k = l.length := by omega
      subst this
      have e1 : W.val ds = W.val l * 2 ^ n := by
        have := hdv.out
        rw [List.take_length, ← hdl.out, List.take_length] at this
        rw [this, HN.out, Nat.pow_add, W.pw_two, Nat.mul_comm (2 ^ (32 * q)), Nat.mul_assoc]
      have hcut := refTrim_any (some ⟨w.heap.size, 0, none⟩) ds (l.length + q + 1) wr hg.arr (by rw [hdl.out]; exact Nat.le_refl _) (by omega) (fun h => by cases h) hdw.out (by rw [hdl.out]; omega)
      rw [hdl.out, e1] at hcut
      go_wp2_with fail
      refine Calls.mono hcut ?_
      rintro e w2 ⟨a3, c3, x3, rfl, rfl, r1, r2, r3⟩
      go_wp2
      go_ret
      exact RetOwn.of (ownsRow_mono r1 hw.size) (hw.ext x3)
end Go.Proofs.Ytigkfdoeneemeaa
/- The walk of slackwaterref01.Down. -/
namespace Go.Proofs.Ytigkfdoeneemeaa
open Go.RowKit

theorem W.val_drop_div {l : List Nat} (hw : W.WF l) (q : Nat) : W.val (l.drop q) = W.val l / W.pw q := by
  have h1 := W.val_split' l q
  have h2 := W.val_take_lt hw q
  rw [h1, Nat.add_mul_div_left _ _ (W.pw_pos q), Nat.div_eq_of_lt h2, Nat.zero_add]
/-- What lies behind a place. -/
theorem Arr.cut {w : World} {a : Option Addr} {l : List Nat} (h : Arr w a (u32s l)) (q : Nat) : ∀ b o, a = some ⟨b, o, none⟩ → Arr w (some ⟨b, o + q, none⟩) (u32s (l.drop q)) := by
  rintro b o rfl
  rcases h with h | ⟨b', o', e, hb, hc⟩
  · left
    have : l = [] := by simpa using h
    subst this; simp
  · cases e
    refine .inr ⟨b, o + q, rfl, hb, fun i hi => ?_⟩
    have hi' : i < l.length - q := by simpa using hi
    rw [Nat.add_assoc, hc (q + i) (by simp; omega)]
    simp
theorem down_plus {x y n : Nat} : ((y : Int) * 4294967296 + (x : Int)) / 2 ^ n % 4294967296 = (((x + 4294967296 * y) / 2 ^ n % 4294967296 : Nat) : Int) := by
  rw [pow_int, show (y : Int) * 4294967296 + (x : Int) = ((x + 4294967296 * y : Nat) : Int) by omega, ← Int.natCast_ediv]; rfl

set_option maxRecDepth 100000 in
set_option maxHeartbeats 2000000 in
theorem refDown_any (a : Option Addr) (l : List Nat) (c n : Nat) (w : World) (h : Arr w a (u32s l)) (hc : l.length ≤ c) (hcm : c ≤ 9223372036854775807) (wl : W.WF l) (hl : l.length ≤ 100000) (hn : n ≤ 3000000) :
    Calls Try.prog 205 #[.slice a l.length c, .int .i64 n] w (RetW w (W.val l / 2 ^ n)) := by
  obtain ⟨q, hq⟩ : ∃ q, q = n / 32 := ⟨_, rfl⟩
  obtain ⟨s, hs⟩ : ∃ s, s = n % 32 := ⟨_, rfl⟩
  have hs32 : s < 32 := by omega
  have hq1 : q ≤ 100000 := by omega
  have hnq : n = 32 * q + s := by omega
  have eq1 : (n : Int) / 32 = (q : Int) := by omega
  have eq2 : (n : Int) % 32 = (s : Int) := by omega
  have eq3 : (n : Int).tdiv 32 = (q : Int) := by rw [hq]; rfl
  have eq4 : (n : Int).tmod 32 = (s : Int) := by rw [hs]; rfl
  have hV : W.val l / 2 ^ n = W.val (l.drop q) / 2 ^ s := by
    rw [W.val_drop_div wl, Nat.div_div_eq_div_mul, W.pw_two, ← Nat.pow_add, ← hnq]
  rw [hV]
  clear hq hs hV
  by_cases h0 : l.length ≤ q
  · have e0 : l.drop q = [] := List.drop_eq_nil_of_le h0
    rw [e0]
    have c1 : decide ((l.length : Int) ≤ (q : Int)) = true := by simp; omega
    go_enter Try.func205, Try.ntmps205
    go_wp2
    go_ret
    refine RetOwn.of ?_ (Blw.refl w)
    simp only [W.val, Nat.zero_div, W.toW_zero]
    exact World.ownsRow_nil _ _ _ _
  · obtain ⟨x0, b, o, -, -, -, rfl, hb, -⟩ := h.elem (k := 0) (by omega)
    have hk := Arr.cut h q b o rfl
    have wk := wl.drop q
    obtain ⟨m, hm⟩ : ∃ m, m = l.drop q := ⟨_, rfl⟩
    have hml : m.length = l.length - q := by rw [hm]; simp
    rw [← hm] at hk wk ⊢
    have e1 : (l.length : Int) - (q : Int) = (m.length : Int) := by omega
    have e2 : l.length - q = m.length := hml.symm
    have hm1 : m.length ≤ 100000 := by omega
    have c1 : decide ((l.length : Int) ≤ (q : Int)) = false := by simp; omega
    have c2 : (q : Int) ≤ (l.length : Int) := by omega
    have c3 : (l.length : Int) ≤ (c : Int) := by omega
    clear hm hml
    have HN := Lib.hid hnq
    clear hnq
    go_enter Try.func205, Try.ntmps205
    go_wp2_with (refine wpList_words _ rfl _ _ rfl .i64 .i64 _ _ m.length rfl rfl (by omega) (by omega) (by omega) ?_; intro w1 hbk hb1)
    go_loopw [7] (fun i wr => ∃ (k : Nat) (ds : List Nat), k ≤ m.length ∧ i = .int .i64 k ∧ Bk wr w.heap.size ds ∧ Blw w wr ∧ Hid (ds.length = m.length) ∧ Hid (W.WF ds) ∧ Hid (W.val (ds.take k) + W.pw k * (W.val (m.drop k) / 2 ^ s) = W.val m / 2 ^ s)) (fun i _ => (m.length - intOf i).toNat)
    case atStart => exact ⟨0, _, Nat.zero_le _, rfl, hbk, hb1, List.length_replicate, W.WF.rep _, by (show _ = _; rw [List.take_zero, W.val, List.drop_zero, Nat.zero_add]; show 1 * _ = _; rw [Nat.one_mul])⟩
    case round =>
      obtain ⟨k, ds, hkm, rfl, hg, hB, hdl, hdw, hdv⟩ := hrel
      by_cases h1 : k < m.length
      · have hjd : k < ds.length := by rw [hdl.out]; omega
        obtain ⟨x, b1, o1, -, -, hx, ee, hr1, hr2⟩ := (hk.blw hB).elem (k := k) h1
        cases ee
        have hxl := wk.at hx.out
        have ek : IntKind.i64.wrap ((k : Int) + 1) = (k : Int) + 1 := by rw [IntKind.wrap_i64]; omega
        have w2 : ∀ W, (∃ y, W = wr.ext y) → Calls Try.prog 209 #[.slice (some ⟨b, o + q, none⟩) m.length (c - q), .int .i64 ((k : Int) + 1)] W fun e w' => e = .returned (.int .u32 (m.getD (k + 1) 0 : Nat)) ∧ w' = W := fun W hW => by
          exact refWord_any (some ⟨b, o + q, none⟩) m (c - q) (k + 1) W (by obtain ⟨y, rfl⟩ := hW; exact (hk.blw hB).ext y) (by omega)
        have y2 := W.getD_lt wk (k + 1)
        have T1 := Lib.hid (W.val_drop' m k)
        have T2 := Lib.hid (W.val_drop' m (k + 1))
        have hxd : m.getD k 0 = x := by rw [List.getD_eq_getElem?_getD, hx.out]; rfl
        rw [hxd] at T1
        clear hxd
        generalize m.getD (k + 1) 0 = y at *
        have W2 := Lib.hid w2
        clear w2
        have j1 : (k : Int) < (m.length : Int) := by omega
        have j2 : (0 : Int) ≤ (k : Int) := by omega
        go_wp2_with fail
        refine wp_region_ext_lit (by kernel_rfl) (by kernel_rfl) ?_
        repeat (quiet_step ((go_at_call 209; with_reducible exact Calls.ext_same (W2.out _ ⟨_, rfl⟩))))
        refine wpQuiet_nil ?_
        rintro wv ⟨x9, hWe⟩
        have hgW : Bk wv w.heap.size ds := by rw [hWe]; exact hg.ext x9
        have hBW : Blw w wv := by rw [hWe]; exact hB.ext x9
        obtain ⟨z, hz, hz1, hz2⟩ := hgW.elem (k := k) hjd
        have e9 : IntKind.u64.wrap (IntKind.u64.wrap (IntKind.u64.wrap (y : Int) * 4294967296) + IntKind.u64.wrap (x : Int)) = (y : Int) * 4294967296 + (x : Int) := by simp only [IntKind.wrap_u64]; omega
        rw [e9]
        clear e9 W2 hr1 hr2 hWe ek hg hB
        go_wp2_with fail
        rw [down_plus]
        have key := down_word (y := y) (F := W.val (m.drop (k + 1 + 1))) hxl hs32
        rw [← T2.out, ← T1.out] at key
        have hb : (x + 4294967296 * y) / 2 ^ s % 4294967296 < 4294967296 := Nat.mod_lt _ (by decide)
        generalize (x + 4294967296 * y) / 2 ^ s % 4294967296 = v at *
        go_roundw
        case rel => exact ⟨k + 1, ds.set k v, h1, by go_num, hgW.set k rfl, hBW.setCell _ _ (Nat.le_refl _), by (show _ = _; rw [List.length_set]; exact hdl.out), hdw.out.set _ hb, by
          show _ = _
          rw [W.val_take_set_end _ hjd, ← hdv.out, key, Nat.mul_add, W.pw_succ, Nat.mul_left_comm, ← Nat.mul_assoc 4294967296]
          omega⟩
        case measure => (first | (simp [intOf]; done) | (simp [intOf]; omega))
      · have : k = m.length := by omega
        subst this
        have e3 : W.val ds = W.val m / 2 ^ s := by
          have := hdv.out
          rw [List.drop_length, W.val, Nat.zero_div, Nat.mul_zero, Nat.add_zero, ← hdl.out, List.take_length] at this
          exact this
        have hcut := refTrim_any (some ⟨w.heap.size, 0, none⟩) ds m.length wr hg.arr (by rw [hdl.out]; exact Nat.le_refl _) (by omega) (fun h => by cases h) hdw.out (by rw [hdl.out]; omega)
        rw [hdl.out, e3] at hcut
        go_wp2_with fail
        refine Calls.mono hcut ?_
        rintro e w2 ⟨a3, c3, x3, rfl, rfl, r1, r2, r3⟩
        go_wp2
        go_ret
        exact RetOwn.of (ownsRow_mono r1 hB.size) (hB.ext x3)
end Go.Proofs.Ytigkfdoeneemeaa
/- Walks of slackwaterref01: below, off. -/
namespace Go.Proofs.Ytigkfdoeneemeaa
open Go.RowKit

theorem RetOwn.parts {w : World} {T size n : Nat} {cs : List Value} {e : Ending} {w' : World} (h : RetOwn w T size n cs e w') : ∃ (a : Option Addr) (c : Nat) (x : World), e = .returned (.slice a n c) ∧ w' = w.ext x ∧ (w.ext x).ownsRow w.heap.size T size (.slice a n c) n cs ∧ Arr (w.ext x) a cs ∧ n ≤ c ∧ c ≤ 9223372036854775807 ∧ (a = none → c = 0) := by
  obtain ⟨a, c, x, e, e', h, k, hn⟩ := h
  obtain ⟨_, _, ev, _, _, k3, k4, _⟩ := own_arr h
  cases ev
  exact ⟨a, c, x, e, e', h, k, k3, k4, hn⟩

theorem times_len {m : List Nat} {x : Nat} (wm : W.WF m) (hx : x < 18446744073709551616) : (W.toW (W.val m * x)).length ≤ m.length + 2 := by
  refine W.len_toW_le.2 (Nat.lt_of_lt_of_le (Nat.mul_lt_mul'' (W.val_lt wm) hx) ?_)
  rw [show (18446744073709551616 : Nat) = W.pw 2 by decide, ← W.pw_add]
  exact Nat.le_refl _
set_option maxRecDepth 100000 in
set_option maxHeartbeats 2000000 in
theorem refBelow_any (a b : Option Addr) (l m : List Nat) (c d x : Nat) (w : World) (h : Arr w a (u32s l)) (k : Arr w b (u32s m)) (wl : W.WF l) (wm : W.WF m) (hl : l.length ≤ 8192) (hm : m.length ≤ 8191) (hx : x < 18446744073709551616) :
    Calls Try.prog 210 #[.slice a l.length c, .slice b m.length d, .int .u64 x] w fun e w' => e = .returned (.bool (decide (W.val l < W.val m * x))) ∧ ∃ x, w' = w.ext x := by
  go_enter Try.func210, Try.ntmps210
  go_wp2_with fail
  refine Calls.mono (refOf_any x w hx) ?_
  rintro e w' ⟨a1, c1, x1, rfl, rfl, r1, r2, r3⟩
  have lo : (W.toW x).length ≤ 2 := W.len_toW_le.2 (by show x < 4294967296 ^ 2; omega)
  have ht := refTimes_any b a1 m (W.toW x) d c1 _ (k.ext x1) r2 wm (W.wf_toW x) (by omega)
  rw [W.val_toW] at ht
  have HT := Lib.hid ht
  clear ht
  go_wp2_with fail
  refine Calls.mono HT.out ?_
  rintro e w' ⟨a2, c2, x2, rfl, rfl, s1, s2, s3⟩
  have hp : (W.toW (W.val m * x)).length ≤ 1000000 := Nat.le_trans (times_len wm hx) (by omega)
  have hcp := refCompare_any a a2 l (W.toW (W.val m * x)) c c2 _ ((h.ext x1).ext x2) s2 wl (W.wf_toW _) (by omega) hp
  rw [W.val_toW] at hcp
  have HCP := Lib.hid hcp
  clear hcp HT
  go_wp2_with fail
  refine Calls.mono HCP.out ?_
  rintro e w' ⟨rfl, rfl⟩
  have cl := cmp_lt (W.val l) (W.val m * x)
  have CL := Lib.hid cl
  clear cl
  go_wp2
  go_ret
  exact ⟨by rw [CL.out]; rfl, Blw.is (by repeat (first | exact Blw.refl _ | apply Blw.ext | apply Blw.alloc | apply Blw.drewN | apply Blw.drew | refine Blw.setCell ?_ _ _ (by simp)))⟩

set_option maxRecDepth 100000 in
set_option maxHeartbeats 2000000 in
theorem refOff_any (g o : Nat) (pre post : List Value) (l m : List Nat) (b : Option Addr) (c d x : Nat) (w : World) (ho : pre.length = o) (h : Wn w g pre l post) (k : Arr w b (u32s m)) (wl : W.WF l) (wm : W.WF m) (hl : l.length ≤ 8192) (hm : m.length ≤ 8191) (hx : x < 18446744073709551616) (hle : W.val m * x ≤ W.val l) :
    Calls Try.prog 211 #[.slice (some ⟨g, o, none⟩) l.length c, .slice b m.length d, .int .u64 x] w fun e w' => e = .returned (.tuple #[]) ∧ ∃ u : List Nat, Wn w' g pre u post ∧ W.WF u ∧ u.length = l.length ∧ W.val u = W.val l - W.val m * x ∧ KeptO (· = g) w w' := by
  subst ho
  go_enter Try.func211, Try.ntmps211
  go_wp2_with fail
  refine Calls.mono (refOf_any x w hx) ?_
  rintro e w' ⟨a1, c1, x1, rfl, rfl, r1, r2, r3⟩
  have lo : (W.toW x).length ≤ 2 := W.len_toW_le.2 (by show x < 4294967296 ^ 2; omega)
  have ht := refTimes_any b a1 m (W.toW x) d c1 _ (k.ext x1) r2 wm (W.wf_toW x) (by omega)
  rw [W.val_toW] at ht
  have HT := Lib.hid ht
  clear ht
  go_wp2_with fail
  refine Calls.mono HT.out ?_
  rintro e w' ⟨a2, c2, x2, rfl, rfl, s1, s2, s3⟩
  have hp : (W.toW (W.val m * x)).length ≤ 100000 := Nat.le_trans (times_len wm hx) (by omega)
  have h2 := (h.blw (World.blw_ext w x1)).blw (World.blw_ext _ x2)
  have hcp := refLess_any (some ⟨g, pre.length, none⟩) a2 l (W.toW (W.val m * x)) c c2 _ h2.arr s2 wl (W.wf_toW _) (by omega) hp (by rw [W.val_toW]; exact hle)
  rw [W.val_toW] at hcp
  have HCP := Lib.hid hcp
  have HLE := Lib.hid hle
  clear hcp HT hle
  go_wp2_with fail
  refine Calls.mono HCP.out ?_
  rintro e w' ⟨a3, c3, x3, rfl, rfl, t1, t2, t3⟩
  have hlt : (W.toW (W.val l - W.val m * x)).length ≤ l.length := W.len_toW_le.2 (Nat.lt_of_le_of_lt (Nat.sub_le _ _) (W.val_lt wl))
  have hvt := W.val_toW (W.val l - W.val m * x)
  have hwt := W.wf_toW (W.val l - W.val m * x)
  obtain ⟨t, htt⟩ : ∃ t, t = W.toW (W.val l - W.val m * x) := ⟨_, rfl⟩
  rw [← htt] at t1 t2 hlt hvt hwt ⊢
  have HVT := Lib.hid hvt
  have h3 := h2.blw (World.blw_ext _ x3)
  have hB3 : Blw w (((w.ext x1).ext x2).ext x3) := ((Blw.refl w).ext x1).ext x2 |>.ext x3
  have hgn : ∀ q, a3 = some q → q.block ≠ g := by
    rintro q rfl
    obtain ⟨t4, t5⟩ := t1
    rcases t5 with ⟨e, -⟩ | ⟨g3, cap, cur, hv, hg, -⟩
    · cases e
    · injection hv with e1 e2 e3
      injection e1 with e1
      subst e1
      have h4 := h2.lt
      show g3 ≠ g
      omega
  generalize hW3 : ((w.ext x1).ext x2).ext x3 = w3 at *
  clear hvt htt HCP t1 s1 s2 r1 r2 h2 r3 s3 t3 hW3 h k
  have hb3 := Lib.hid hB3
  go_wp2_with fail
  go_loopw [7] (fun i wr => ∃ (j : Nat) (ds : List Nat), j ≤ l.length ∧ i = .int .i64 j ∧ Wn wr g pre ds post ∧ KeptO (· = g) w3 wr ∧ Hid (ds.length = l.length) ∧ Hid (W.WF ds) ∧ Hid (W.val (ds.take j) = W.val (t.take j))) (fun i _ => (l.length - intOf i).toNat)
  case atStart => exact ⟨0, l, Nat.zero_le _, rfl, h3, KeptO.refl _, rfl, wl, rfl⟩
  case round =>
    obtain ⟨j, ds, hj, rfl, hg, hK, hdl, hdw, hdv⟩ := hrel
    by_cases h0 : j < l.length
    · have hjd : j < ds.length := by rw [hdl.out]; omega
      obtain ⟨z, hz, hz1, hz2⟩ := hg.elem (k := j) hjd
      have w2 := refWord_any a3 t c3 j wr (hK.arr t2 hgn) (by omega)
      have y2 := W.getD_lt hwt j
      have T1 := Lib.hid (W.val_take_succ' t j)
      generalize t.getD j 0 = y at *
      have W2 := Lib.hid w2
      clear w2
      go_wp2_with fail
      refine Calls.mono W2.out ?_
      rintro e w4 ⟨rfl, rfl⟩
      go_wp2_with fail
      go_roundw
      case rel => exact ⟨j + 1, ds.set j y, h0, by go_num, hg.set hjd rfl, hK.setCell _ _ (.inl rfl), by (show _ = _; rw [List.length_set]; exact hdl.out), hdw.out.set _ y2, by
        show _ = _
        rw [W.val_take_set_end _ hjd, hdv.out, T1.out]⟩
      case measure => (first | (simp [intOf]; done) | (simp [intOf]; omega))
    · have : j = l.length := by omega
      subst this
      have e1 : W.val ds = W.val l - W.val m * x := by
        have := hdv.out
        rw [← hdl.out, List.take_length, List.take_of_length_le (by rw [hdl.out]; exact hlt), HVT.out] at this
        exact this
      have E1 := Lib.hid e1
      clear e1
      go_wp2
      go_end0
      exact ⟨rfl, ds, hg, hdw.out, hdl.out, E1.out, ⟨hK.os.trans hb3.out.os, hK.tape.trans hb3.out.tape, hK.output.trans hb3.out.output, Nat.le_trans hb3.out.size hK.size, fun i hi ho => (hK.block i (Nat.lt_of_lt_of_le hi hb3.out.size) ho).trans (Below.block hb3.out i hi)⟩⟩
end Go.Proofs.Ytigkfdoeneemeaa
/- The walk of slackwaterref01.digit. -/
namespace Go.Proofs.Ytigkfdoeneemeaa
open Go.RowKit

theorem W.digit_ge {l m : List Nat} {j un u1 v1 : Nat} (wl : W.WF l) (hl : l.length = j + 2) (hm : m.length = j + 1) (e0 : l[j + 1]? = some un) (e1 : l[j]? = some u1) (e2 : m[j]? = some v1) (hv : 0 < v1) (hlt : W.val l < W.val m * 4294967296) :
    W.val l / W.val m ≤ min ((un * 4294967296 + u1) / v1) 4294967295 := by
  have hq : W.val l / W.val m < 4294967296 := Nat.div_lt_of_lt_mul hlt
  have a0 := W.val_take_succ e0
  have a1 := W.val_take_succ e1
  have a2 := W.val_take_succ e2
  rw [List.take_of_length_le (by omega)] at a0 a2
  have l1 := W.val_take_lt wl j
  have hp := W.pw_pos j
  rw [W.pw_succ] at a0
  have hmul : W.val l / W.val m * W.val m ≤ W.val l := Nat.div_mul_le_self _ _
  generalize W.val l / W.val m = q at *
  have h1 : q * (W.pw j * v1) ≤ q * W.val m := Nat.mul_le_mul_left _ (by rw [a2]; omega)
  have h2 : W.val l < W.pw j * (un * 4294967296 + u1 + 1) := by
    rw [a0, a1, Nat.mul_add, Nat.mul_add, Nat.mul_one]
    have : W.pw j * (un * 4294967296) = 4294967296 * W.pw j * un := by rw [Nat.mul_comm un, ← Nat.mul_assoc, Nat.mul_comm (W.pw j)]
    omega
  have h3 : W.pw j * (q * v1) < W.pw j * (un * 4294967296 + u1 + 1) := by
    rw [Nat.mul_left_comm]; omega
  have h4 := Nat.lt_of_mul_lt_mul_left h3
  have h5 : q ≤ (un * 4294967296 + u1) / v1 := (Nat.le_div_iff_mul_le hv).2 (Nat.le_of_lt_succ h4)
  exact Nat.le_min.2 ⟨h5, Nat.le_of_lt_succ hq⟩

set_option maxRecDepth 100000 in
set_option maxHeartbeats 2000000 in
theorem refDigit_any (g o : Nat) (pre post : List Value) (l m : List Nat) (b : Option Addr) (c d j : Nat) (w : World) (ho : pre.length = o) (h : Wn w g pre l post) (k : Arr w b (u32s m)) (wl : W.WF l) (wm : W.WF m) (nm : W.Nrm m) (hl : l.length = j + 2) (hm : m.length = j + 1) (hj : j ≤ 8190) (hlt : W.val l < W.val m * 4294967296) :
    Calls Try.prog 204 #[.slice (some ⟨g, o, none⟩) l.length c, .slice b m.length d] w fun e w' => e = .returned (.int .u32 (W.val l / W.val m : Nat)) ∧ ∃ u : List Nat, Wn w' g pre u post ∧ W.WF u ∧ u.length = l.length ∧ W.val u = W.val l % W.val m ∧ KeptO (· = g) w w' := by
  subst ho
  obtain ⟨un, hu0, hu1, hu2⟩ := h.elem (k := j + 1) (by omega)
  obtain ⟨uo, hv0, hv1, hv2⟩ := h.elem (k := j) (by omega)
  obtain ⟨x, b1, o1, -, -, hx, rfl, hr1, hr2⟩ := k.elem (k := j) (by omega)
  have lu := wl.at hu0.out
  have lv := wl.at hv0.out
  have lx := wm.at hx.out
  have hx0 : 0 < x := by
    refine Nat.pos_of_ne_zero fun e => nm ?_
    rw [List.getLast?_eq_getElem?, hm, show j + 1 - 1 = j by omega, hx.out, e]
  have hmv : 0 < W.val m := W.val_pos nm (by intro e; rw [e] at hm; simp at hm)
  have hge := W.digit_ge wl hl hm hu0.out hv0.out hx.out hx0 hlt
  have HGE := Lib.hid hge
  have HMV := Lib.hid hmv
  have HL := Lib.hid hl
  have HM := Lib.hid hm
  have HLT := Lib.hid hlt
  have i1 : (m.length : Int) - 1 = (j : Int) := by omega
  have i2 : ((m.length : Int) - 1).toNat = j := by omega
  have i3 : (0 : Int) ≤ (m.length : Int) - 1 := by omega
  have i4 : (m.length : Int) - 1 < (l.length : Int) := by omega
  have i5 : (m.length : Int) < (l.length : Int) := by omega
  have i6 : (m.length : Int) - 1 < (m.length : Int) := by omega
  have i7 : (x : Int) ≠ 0 := by omega
  have i8 : ((x : Int) == 0) = false := beq_false_of_ne i7
  have hu1' : w.cell? ⟨g, pre.length + m.length, none⟩ = some (Value.int .u32 un) := by rw [hm]; exact hu1
  have hgs := h.lt
  have i10 : (j : Int) < (l.length : Int) := by omega
  have i11 : (j : Int) < (m.length : Int) := by omega
  have i12 : (0 : Int) ≤ (j : Int) := by omega
  have i9 : IntKind.i64.wrap (j : Int) = (j : Int) := by rw [IntKind.wrap_i64]; omega
  clear hge hmv hl hm hlt
  go_enter Try.func204, Try.ntmps204
  go_wp2_with fail
  refine wp_region_ext_lit (by kernel_rfl) (by kernel_rfl) ?_
  repeat (quiet_step (fail))
  refine wpQuiet_nil ?_
  rintro wv ⟨x9, hWe⟩
  have e9 : IntKind.u64.wrap (IntKind.u64.wrap (IntKind.u64.wrap (un : Int) * 4294967296) + IntKind.u64.wrap (uo : Int)) = (un : Int) * 4294967296 + (uo : Int) := by simp only [IntKind.wrap_u64]; omega
  try rw [e9]
  clear e9
  have hg2 : Wn wv g pre l post := by rw [hWe]; exact h.blw (World.blw_ext _ _)
  have hk2 : Arr wv (some ⟨b1, o1, none⟩) (u32s m) := by rw [hWe]; exact k.ext _
  have hB2 : Blw w wv := by rw [hWe]; exact World.blw_ext _ _
  have hr2' : wv.cell? ⟨b1, o1 + j, none⟩ = some (Value.int .u32 x) := by rw [hWe, World.cell?_ext _ _ _ _ _ hr1]; exact hr2
  have hc2 : Hid (KeptO (· = g) w wv) := by
    show KeptO _ _ _
    rw [hWe]; exact (KeptO.refl w).ext _
  clear hWe hr2 hu1 hu2 hv1 hv2 h k hu1'
  go_wp2_with fail
  obtain ⟨X0, hX0⟩ : ∃ X0, X0 = min ((un * 4294967296 + uo) / x) 4294967295 := ⟨_, rfl⟩
  have ex0 : min (((un : Int) * 4294967296 + (uo : Int)) / (x : Int)) 4294967295 = (X0 : Int) := by
    rw [show ((un : Int) * 4294967296 + (uo : Int)) / (x : Int) = (((un * 4294967296 + uo) / x : Nat) : Int) by rw [Int.natCast_ediv]; rfl, hX0]
    generalize (un * 4294967296 + uo) / x = Z
    rcases Nat.le_total Z 4294967295 with hz | hz
    · rw [Nat.min_eq_left hz, Int.min_eq_left (by omega)]
    · rw [Nat.min_eq_right hz, Int.min_eq_right (by omega)]; rfl
  have hX1 : X0 ≤ 4294967295 := by rw [hX0]; exact Nat.min_le_right _ _
  rw [← hX0] at HGE
  rw [ex0]
  obtain ⟨q, hq⟩ : ∃ q, q = W.val l / W.val m := ⟨_, rfl⟩
  rw [← hq] at HGE
  have HQ := Lib.hid hq
  clear hX0 ex0 i1 i2 i3 i4 i5 i6 i7 i8 i9 i10 i11 i12 hr2' lu lv lx hx0 hq
  go_loopw [7] (fun v wr => ∃ X : Nat, v = .int .u64 X ∧ X ≤ 4294967295 ∧ Hid (q ≤ X) ∧ Wn wr g pre l post ∧ Arr wr (some ⟨b1, o1, none⟩) (u32s m) ∧ Hid (KeptO (· = g) w wr)) (fun v _ => (intOf v).toNat)
  case atStart => exact ⟨X0, rfl, hX1, HGE, hg2, hk2, hc2⟩
  case round =>
    obtain ⟨X, rfl, hX, hqX, hg, hk, hK⟩ := hrel
    have hb := refBelow_any (some ⟨g, pre.length, none⟩) (some ⟨b1, o1, none⟩) l m c d X wr hg.arr hk wl wm (by have := HL.out; omega) (by have := HM.out; omega) (by omega)
    have hdm : W.val m * q ≤ W.val l := by rw [HQ.out]; exact Nat.mul_div_le _ _
    by_cases h0 : W.val l < W.val m * X
    · rw [decide_eq_true h0] at hb
      have hqx : q < X := by
        rcases Nat.lt_or_ge q X with h1 | h1
        · exact h1
        · exfalso
          have : W.val m * X ≤ W.val m * q := Nat.mul_le_mul_left _ h1
          omega
      have HB := Lib.hid hb
      clear hb h0 hdm
      go_wp2_with fail
      refine Calls.mono HB.out ?_
      rintro e w4 ⟨rfl, y4, rfl⟩
      go_wp2_with fail
      go_roundw
      case rel => exact ⟨X - 1, by go_num, by omega, by (show _ ≤ _; omega), hg.blw (World.blw_ext _ _), hk.ext _, by (show KeptO _ _ _; exact hK.out.ext _)⟩
      case measure => (first | (simp [intOf]; done) | (simp [intOf]; omega))
    · rw [decide_eq_false h0] at hb
      have hqx : X = q := by
        refine Nat.le_antisymm ?_ hqX.out
        rw [HQ.out]
        exact (Nat.le_div_iff_mul_le HMV.out).2 (by rw [Nat.mul_comm]; omega)
      subst hqx
      have hoff := refOff_any g pre.length pre post l m (some ⟨b1, o1, none⟩) c d X (wr : World)
      have hval : Hid (W.val l - W.val m * X = W.val l % W.val m) := by
        show _ = _
        have := Nat.div_add_mod (W.val l) (W.val m)
        rw [← HQ.out] at this
        omega
      have HB := Lib.hid hb
      have HDM := Lib.hid hdm
      clear hb h0 hdm hoff
      go_wp2_with fail
      refine Calls.mono HB.out ?_
      rintro e w4 ⟨rfl, y4, rfl⟩
      have hoff := refOff_any g pre.length pre post l m (some ⟨b1, o1, none⟩) c d X (wr.ext y4) rfl (hg.blw (World.blw_ext _ _)) (hk.ext _) wl wm (by have := HL.out; omega) (by have := HM.out; omega) (by omega) HDM.out
      rw [hval.out] at hoff
      have HOFF := Lib.hid hoff
      clear hoff HB
      go_wp2_with fail
      refine Calls.mono HOFF.out ?_
      rintro e w5 ⟨rfl, u, k1, k2, k3, k4, k5⟩
      clear HOFF
      go_wp2
      go_ret
      exact ⟨congrArg (fun n : Nat => Ending.returned (.int .u32 (n : Int))) HQ.out, u, k1, k2, k3, k4, (hK.out.ext y4).trans k5⟩
end Go.Proofs.Ytigkfdoeneemeaa
/- Walks of slackwaterref01.Over: the short ways. -/
namespace Go.Proofs.Ytigkfdoeneemeaa
open Go.RowKit

set_option maxRecDepth 100000 in
set_option maxHeartbeats 2000000 in
theorem refOver_less (a b : Option Addr) (l m : List Nat) (c d : Nat) (w : World) (h : Arr w a (u32s l)) (k : Arr w b (u32s m)) (hc : l.length ≤ c) (hcm : c ≤ 9223372036854775807) (ha : a = none → c = 0) (wl : W.WF l) (wm : W.WF m) (hl : l.length ≤ 100000) (hm : m.length ≤ 100000) (hlt : W.val l < W.val m) :
    Calls Try.prog 192 #[.slice a l.length c, .slice b m.length d] w (RetTwo w (W.val l / W.val m) (W.val l % W.val m)) := by
  have c1 : decide (W.cmpN (W.val l) (W.val m) < 0) = true := by rw [cmp_lt]; simpa using hlt
  have E1 := Lib.hid (Nat.div_eq_of_lt hlt)
  have E2 := Lib.hid (Nat.mod_eq_of_lt hlt)
  have hcp := Lib.hid (refCompare_any a b l m c d w h k wl wm (by omega) (by omega))
  have htr := Lib.hid (refTrim_any a l c w h hc hcm ha wl (by omega))
  clear hlt
  go_enter Try.func192, Try.ntmps192
  go_wp2_with fail
  refine Calls.mono hcp.out ?_
  rintro e w' ⟨rfl, rfl⟩
  go_wp2_with fail
  refine Calls.mono htr.out ?_
  rintro e w' ⟨a1, c2, x1, rfl, rfl, r1, r2, r3⟩
  go_wp2
  go_ret2
  refine ⟨none, 0, a1, c2, ?_, (Blw.refl w').ext x1, ?_, ?_⟩
  · rw [E1.out, E2.out, W.toW_zero]; rfl
  · rw [E1.out, W.toW_zero]; exact World.ownsRow_nil _ _ _ _
  · rw [E2.out]; exact r1

set_option maxRecDepth 100000 in
set_option maxHeartbeats 2000000 in
theorem refOver_one (a b : Option Addr) (l : List Nat) (y : Nat) (c d : Nat) (w : World) (h : Arr w a (u32s l)) (k : Arr w b (u32s [y])) (wl : W.WF l) (hy : y < 4294967296) (hy0 : 0 < y) (hl : l.length ≤ 100000) (hge : y ≤ W.val l) :
    Calls Try.prog 192 #[.slice a l.length c, .slice b 1 d] w (RetTwo w (W.val l / y) (W.val l % y)) := by
  have vy : W.val [y] = y := by simp [W.val]
  have wy : W.WF [y] := W.WF.cons hy W.WF.nil
  have hcp : Calls Try.prog 199 #[.slice a l.length c, .slice b 1 d] w fun e w' => e = .returned (.int .i64 (W.cmpN (W.val l) (W.val [y]))) ∧ w' = w := refCompare_any a b l [y] c d w h k wl wy (by omega) (by simp)
  rw [vy] at hcp
  have c1 : decide (W.cmpN (W.val l) y < 0) = false := by rw [cmp_lt]; simpa using hge
  have HCP := Lib.hid hcp
  obtain ⟨y', b1, o1, -, -, hx, rfl, hr1, hr2⟩ := k.elem (k := 0) (by simp)
  have ey : y' = y := by have := hx.out; simp at this; exact this.symm
  subst ey
  have hsm := Lib.hid (refSmall_any a l c y' w h wl hl hy0 hy)
  have hm : W.val l % y' < 18446744073709551616 := Nat.lt_of_lt_of_le (Nat.mod_lt _ hy0) (by omega)
  clear hcp hge vy hx
  generalize W.val l % y' = R at *
  generalize W.val l / y' = Q at *
  rw [Nat.add_zero] at hr2
  go_enter Try.func192, Try.ntmps192
  go_wp2_with fail
  refine Calls.mono HCP.out ?_
  rintro e w' ⟨rfl, rfl⟩
  go_wp2_with fail
  refine Calls.mono hsm.out ?_
  rintro e w1 ⟨a1, c2, rfl, r1, r2⟩
  have hof := Lib.hid (refOf_any R w1 hm)
  clear HCP hsm
  go_wp2_with fail
  refine Calls.mono hof.out ?_
  rintro e w2 ⟨a2, c3, x2, rfl, rfl, s1, s2, s3⟩
  go_wp2
  go_ret2
  exact ⟨a1, c2, a2, c3, rfl, r1.ext x2, ownsRow_blw r2 (World.blw_ext _ _), ownsRow_mono s1 r1.size⟩
end Go.Proofs.Ytigkfdoeneemeaa
/- The walk of slackwaterref01.Over: the long way. -/
namespace Go.Proofs.Ytigkfdoeneemeaa
open Go.RowKit

section
variable {w : World} {g : Nat} {pre post : List Value} {l : List Nat}
theorem Wn.split {a b : List Nat} (h : Wn w g [] (a ++ l ++ b) post) : Wn w g (u32s a) l (u32s b ++ post) := by
  unfold Wn at *; rw [h]; simp
theorem Wn.join {a b : List Nat} (h : Wn w g (u32s a) l (u32s b ++ post)) : Wn w g [] (a ++ l ++ b) post := by
  unfold Wn at *; rw [h]; simp
end
theorem W.over_start {A V M nq : Nat} {us0 : List Nat} (hu : W.val us0 = A) (hl : us0.length = (W.toW A).length + 1) (hn : nq + M = (W.toW A).length + 1) (hM : 0 < M) (hV : W.pw (M - 1) ≤ V) : W.val (us0.drop nq) < V := by
  have e := W.val_split us0 nq (by omega)
  have h1 : A < W.pw (W.toW A).length := W.len_toW_le.1 (Nat.le_refl _)
  rw [show (W.toW A).length = nq + (M - 1) by omega, W.pw_add] at h1
  rw [hu] at e
  have h2 : W.pw nq * W.val (us0.drop nq) < W.pw nq * W.pw (M - 1) := by omega
  exact Nat.lt_of_lt_of_le (Nat.lt_of_mul_lt_mul_left h2) hV

set_option maxRecDepth 100000 in
set_option maxHeartbeats 8000000 in
theorem refOver_long (a b : Option Addr) (l m : List Nat) (n : Nat) (c d : Nat) (w : World) (h : Arr w a (u32s l)) (k : Arr w b (u32s m)) (hc : l.length ≤ c) (hd : m.length ≤ d) (hcm : c ≤ 9223372036854775807) (hdm : d ≤ 9223372036854775807)
    (wl : W.WF l) (wm : W.WF m) (nm : W.Nrm m) (hl : l.length ≤ 8192) (hm : m.length = n + 2) (hm8 : m.length ≤ 8190) (hge : W.val m ≤ W.val l) :
    Calls Try.prog 192 #[.slice a l.length c, .slice b m.length d] w (RetTwo w (W.val l / W.val m) (W.val l % W.val m)) := by
  have c1 : decide (W.cmpN (W.val l) (W.val m) < 0) = false := by rw [cmp_lt]; simpa using hge
  have c2 : ((m.length : Int) == 1) = false := beq_false_of_ne (by omega)
  obtain ⟨x, b1, o1, -, -, hx, rfl, hb, hbc⟩ := k.elem (k := m.length - 1) (by omega)
  have hlast : m.getLast? = some x := by rw [List.getLast?_eq_getElem?]; exact hx.out
  obtain ⟨N1, N2, N3⟩ := W.norm_len wm nm hlast
  have hxl := wm.at hx.out
  obtain ⟨s, hs⟩ : ∃ s, s = 32 - W.bl x := ⟨_, rfl⟩
  have hx0 : x ≠ 0 := fun e => nm (by rw [hlast, e])
  have hblw := W.bl_words wm hlast hx0
  have hbl32 := W.bl_le32 hxl
  have hbl1 : W.bl x ≠ 0 := by intro e; rw [W.bl_pos hx0] at e; omega
  have hs32 : s < 32 := by omega
  have hbits : (32 : Int) * (m.length : Int) - ((W.bl (W.val m) : Nat) : Int) = (s : Int) := by omega
  rw [← hs] at N1 N2 N3
  have hvm : 0 < W.val m := W.val_pos nm (by intro e; rw [e] at hm; simp at hm)
  have hcp := Lib.hid (refCompare_any a _ l m c d w h k wl wm (by omega) (by omega))
  have hbt := Lib.hid (refBits_any _ m d w k hd hdm (fun h => by cases h) wm (by omega))
  have hA : W.val m * 2 ^ s ≤ W.val l * 2 ^ s := Nat.mul_le_mul_right _ hge
  have hN0 : m.length ≤ (W.toW (W.val l * 2 ^ s)).length := by
    rw [← N1]
    exact W.len_toW_le.2 (Nat.lt_of_le_of_lt hA (W.len_toW_le.1 (Nat.le_refl _)))
  have hN1 : (W.toW (W.val l * 2 ^ s)).length ≤ 8193 := by
    refine Nat.le_trans (m := l.length + 1) (W.len_toW_le.2 ?_) (by omega)
    rw [W.pw_add]
    exact Nat.mul_lt_mul'' (W.val_lt wl) (Nat.lt_of_lt_of_le (Nat.pow_lt_pow_right (by decide) hs32) (by decide))
  have hbw : wrap64 ((32 : Int) * (m.length : Int) - ((W.bl (W.val m) : Nat) : Int)) = (s : Int) := by rw [hbits]; unfold wrap64; omega
  have HN1 := Lib.hid N1
  have HN2 := Lib.hid N2
  have HN3 := Lib.hid N3
  have HM := Lib.hid hm
  have HS : Hid (s ≤ 31) := by show s ≤ 31; omega
  have hm2 : 2 ≤ m.length := by omega
  have hp2 : Hid (W.pw (m.length - 1) ≤ W.val m * 2 ^ s) := by
    show _ ≤ _
    refine Nat.le_trans ?_ N2
    generalize W.pw (m.length - 1) = p
    omega
  have HVM : Hid (0 < W.val m * 2 ^ s) := by show 0 < _; exact Nat.mul_pos hvm (Nat.two_pow_pos s)
  clear hm hlast hs hx N1 N2 N3 hge hblw hbl32 hbl1 hbits hvm hA hxl hx0 hb hbc
  obtain ⟨A, hA⟩ : ∃ A, A = W.val l * 2 ^ s := ⟨_, rfl⟩
  obtain ⟨V, hV⟩ : ∃ V, V = W.val m * 2 ^ s := ⟨_, rfl⟩
  rw [← hA] at hN0 hN1
  rw [← hV] at HN1 HN2 HN3 hp2 HVM
  have HA := Lib.hid hA
  have HV := Lib.hid hV
  clear hA hV
  go_enter Try.func192, Try.ntmps192
  go_wp2_with fail
  refine Calls.mono hcp.out ?_
  rintro e w' ⟨rfl, rfl⟩
  go_wp2_with fail
  refine Calls.mono hbt.out ?_
  rintro e w1 ⟨rfl, x1, rfl⟩
  clear hcp hbt
  have hup1 := Lib.hid (refUp_any (some ⟨b1, o1, none⟩) m d s (w'.ext x1) (k.ext x1) wm (by omega) (by omega))
  rw [← HV.out] at hup1
  go_wp2_with fail
  rw [hbw]
  refine Calls.mono hup1.out ?_
  rintro e w2 ⟨a2, c2, x2, rfl, rfl, r1, r2, r3⟩
  have HRV := Lib.hid r2
  have hup2 := Lib.hid (refUp_any a l c s ((w'.ext x1).ext x2) ((h.ext x1).ext x2) wl (by omega) (by omega))
  rw [← HA.out] at hup2
  have hVd := W.wf_toW V
  have hVn := W.nrm_toW V
  have hVv := W.val_toW V
  have hAd := W.wf_toW A
  have hAv := W.val_toW A
  obtain ⟨dd, hdd⟩ : ∃ dd, dd = W.toW V := ⟨_, rfl⟩
  rw [← hdd] at hVd hVn hVv r1 r2 HN1 ⊢
  have HDV := Lib.hid hVv
  have HDL := Lib.hid HN1.out
  clear hup1 hbw r3 HRV hVv hdd
  have ddl : dd.length = m.length := HDL.out
  rw [ddl] at r1 ⊢
  go_wp2_with fail
  refine Calls.mono hup2.out ?_
  rintro e w2 ⟨a3, c3, x3, rfl, rfl, s1, s2, s3⟩
  clear hup2 s3
  obtain ⟨w2, hw2⟩ : ∃ w2, w2 = (w'.ext x1).ext x2 := ⟨_, rfl⟩
  have hB2 : Blw w' w2 := by rw [hw2]; exact ((Blw.refl w').ext x1).ext x2
  rw [← hw2] at s1 s2 r1 r2 ⊢
  have hB23 : Blw w2 (w2.ext x3) := World.blw_ext _ _
  have ha2 : ∀ q, a2 = some q → q.block < w2.heap.size := by
    rintro q rfl
    exact (World.ownsRow.lt r1 _ rfl).2
  obtain ⟨w3, hw3⟩ : ∃ w3, w3 = w2.ext x3 := ⟨_, rfl⟩
  rw [← hw3] at hB23 s1 ⊢
  clear r1 s2 hw3 hw2 h k
  obtain ⟨N, hN⟩ : ∃ N, N = (W.toW A).length := ⟨_, rfl⟩
  obtain ⟨us0, hus⟩ : ∃ us0, us0 = W.toW A ++ [0] := ⟨_, rfl⟩
  have hul : us0.length = N + 1 := by rw [hus, hN]; simp
  have huv : W.val us0 = A := by rw [hus, W.val_snoc, hAv, Nat.mul_zero, Nat.add_zero]
  have huw : W.WF us0 := by rw [hus]; exact hAd.app (W.WF.cons (by decide) W.WF.nil)
  have hstart : ∀ nq, nq + m.length = N + 1 → W.val (us0.drop nq) < V := fun nq hnq => W.over_start huv (by rw [hul, hN]) (by rw [hnq, hN]) (by omega) hp2.out
  rw [← hN] at hN0 hN1 s1 ⊢
  obtain ⟨nq, hnq⟩ : ∃ nq, nq + m.length = N + 1 := ⟨N + 1 - m.length, by omega⟩
  have hnq2 : (N : Int) + 1 - (m.length : Int) = (nq : Int) := by omega
  have HNQ := Lib.hid hnq
  have hnq1 : nq ≤ 8194 := by omega
  have hst := hstart nq hnq
  have HST2 := Lib.hid hst
  have hsu : u32s (W.toW A) ++ u32s [0] = u32s us0 := by rw [hus]; simp
  have HUL := Lib.hid hul
  have HUV := Lib.hid huv
  clear hnq hst hul huv hstart hAv hAd hus hN
  generalize W.toW A = ta at *
  go_wp2_with (first
    | (at_builtin; refine wpList_app w2 _ rfl _ _ 86 rfl sl_words (hB23.alloc _) _ N (u32s ta) rfl (ownsRow_blw s1 ((Blw.refl _).alloc _)) _ 1 1 (u32s [0]) rfl (by simp) (Arr.lit _ _ _ _) (by simp) (u32s_one _) (by unfold maxLen; omega) (by omega) ?_; intro v4 w4 hown4 hb4 _ _; rw [hsu] at hown4; obtain ⟨a4, c4, rfl, -, -, hc4, hc4m, -⟩ := own_arr hown4; obtain ⟨gu, post, rfl, hgu, hW4, -, hc4', -⟩ := Wn.of_own hown4 (Nat.succ_pos N); have HC4 := Lib.hid hc4'; clear hc4')
    | (refine wpList_words _ rfl _ _ rfl .i64 .i64 _ _ nq rfl rfl (by omega) (by omega) (by omega) ?_; intro w5 hqB hq1))
  have hc4x : c4 ≤ 9223372036854775807 := by unfold maxLen at hc4m; omega
  have HNQ2 := Lib.hid hnq2
  clear hown4 hnq2 s1 hsu hc4m
  have hA4 := Lib.hid (r2.blw hb4)
  have hB4 : Blw w' w4 := hB2.trans hb4
  obtain ⟨gq, hgq⟩ : ∃ gq, gq = w4.heap.size := ⟨_, rfl⟩
  rw [← hgq] at hqB ⊢
  have hguq : gu < gq := by rw [hgq]; exact hW4.lt
  have hW5 := hW4.blw hq1
  have hA5 := hA4.out.blw hq1
  have hB5 : Blw w' w5 := hB4.trans hq1
  have hgu0 : w'.heap.size ≤ gu := Nat.le_trans hB2.size hgu
  have ha2g : ∀ q, a2 = some q → q.block ≠ gu := fun q hq e => by have := ha2 q hq; omega
  have ha2q : ∀ q, a2 = some q → q.block ≠ gq := fun q hq e => by have := ha2 q hq; omega
  clear hA4 hW4 hb4 hq1 hB4 hB23 hgu hB2 r2 ha2 hgq
  clear HNQ2 ddl
  go_loopw [12] (fun i wr => ∃ (k : Nat) (us qs : List Nat), k ≤ nq ∧ i = .int .i64 ((k : Int) - 1) ∧ Wn wr gu [] us post ∧ Bk wr gq qs ∧ Arr wr a2 (u32s dd) ∧ Blw w' wr ∧ Hid (us.length = N + 1) ∧ Hid (qs.length = nq) ∧ Hid (W.WF us) ∧ Hid (W.WF qs) ∧
    Hid (us.take k = us0.take k) ∧ Hid (W.val (us.drop k) < V) ∧ Hid (W.val (qs.drop k) * V + W.val (us.drop k) = W.val (us0.drop k))) (fun i _ => (intOf i + 1).toNat)
  case atStart => exact ⟨nq, us0, _, Nat.le_refl _, rfl, hW5, hqB, hA5, hB5, HUL, List.length_replicate, huw, W.WF.rep _, rfl, HST2, by
    show _ = _
    rw [List.drop_of_length_le (by simp), W.val, Nat.zero_mul, Nat.zero_add]⟩
  case round =>
    obtain ⟨k, us, qs, hk, rfl, hgU, hgQ, hvA, hB, hul, hql, husw, hqw, hut, hud, hqd⟩ := hrel
    by_cases h0 : 0 < k
    · obtain ⟨j, rfl⟩ : ∃ j, k = j + 1 := ⟨k - 1, by omega⟩
      have ej : (((j + 1 : Nat) : Int) - 1) = (j : Int) := by omega
      rw [ej]
      clear ej
      have hjl : j + m.length + 1 ≤ N + 1 := by have := HNQ.out; omega
      have i0 : (0 : Int) ≤ (j : Int) := by omega
      clear h0
      obtain ⟨PA, part, PR, rfl, hA, hpl, hpw, hAw, hRw, hlt, hnew⟩ := W.div_round (N := m.length) (by rw [hul.out]; exact hjl) husw.out HN3.out hut.out (by rw [hul.out]; exact HUL.out) hud.out hqd.out (by rw [hql.out]; omega)
      have hW := hgU.split
      have hAL : (u32s PA).length = j := by rw [u32s_len]; exact hA
      have hdig := refDigit_any gu j (u32s PA) (u32s PR ++ post) part dd a2 (c4 - j) c2 (n + 1) wr hAL hW hvA hpw hVd hVn (by rw [hpl, HM.out]) (by rw [HDL.out, HM.out]) (by have := HM.out; omega) (by rw [HDV.out]; exact hlt)
      rw [hpl, HDL.out, HDV.out] at hdig
      have hcapj : j + m.length + 1 - j = m.length + 1 := by omega
      have hQB : W.val part / V < 4294967296 := Nat.div_lt_of_lt_mul hlt
      have HPL := Lib.hid hpl
      have HNEW := Lib.hid hnew
      have HQB := Lib.hid hQB
      have HDIG := Lib.hid hdig
      have hVp : Hid (0 < V) := HVM
      have c2' : (j : Int) + (m.length : Int) + 1 ≤ (N : Int) + 1 := by omega
      have c3' : (j : Int) + (m.length : Int) + 1 ≤ (c4 : Int) := by omega
      have c5' : (N : Int) + 1 ≤ (c4 : Int) := by omega
      clear hnew hlt hQB hpl hdig
      obtain ⟨Q, hQ⟩ : ∃ Q, Q = W.val part / V := ⟨_, rfl⟩
      rw [← hQ] at HDIG HQB HNEW
      clear hQ
      have hQl : Q < 4294967296 := HQB.out
      go_wp2_with fail
      refine Calls.mono HDIG.out ?_
      rintro e w6 ⟨rfl, u, hW6, hu6w, hu6l, hu6v, hK6⟩
      have hQ6 := hgQ.keptO hK6 (Nat.ne_of_gt hguq)
      have hA6 := hK6.arr hvA (fun q hq => ha2g q hq)
      have hB6 : Blw w' w6 := KeptO.blw hB hK6 (fun i hi => by rw [hi]; exact hgu0)
      have hgq0 : w'.heap.size ≤ gq := by omega
      have hjn : j < nq := by omega
      obtain ⟨z, hz, hz1, hz2⟩ := hQ6.elem (k := j) (by rw [hql.out]; exact hjn)
      have HV6 := Lib.hid hu6v
      have HN6 := Lib.hid HNEW
      clear hgQ hvA hB hK6 hgU hW HDIG hu6v
      go_wp2_with fail
      go_roundw
      case rel =>
        obtain ⟨t1, t2, t3⟩ := HNEW.out u hu6l HV6.out
        have hne : gu ≠ gq := Nat.ne_of_lt hguq
        exact ⟨j, PA ++ u ++ PR, qs.set j Q, by omega, rfl, (KeptO.refl w6 |>.setCell (O := (· = gq)) _ _ (.inl rfl)) |> (fun kk => hW6.join.keptO kk hne), hQ6.set j rfl, (KeptO.arr (O := (· = gq)) ((KeptO.refl w6).setCell _ _ (.inl rfl)) hA6 (fun q hq => ha2q q hq)), hB6.setCell _ _ hgq0, by
          show _ = _
          have := hul.out
          simp only [List.length_append] at this ⊢
          rw [hu6l]; rw [HPL.out] at this; exact this, by (show _ = _; rw [List.length_set]; exact hql.out), (hAw.app hu6w).app hRw, hqw.out.set _ HQB.out, t1, t2, t3⟩
      case measure => (first | (simp [intOf]; done) | (simp [intOf]; omega))
    · have : k = 0 := by omega
      subst this
      have e0 : (((0 : Nat) : Int) - 1) = -1 := by omega
      rw [e0]
      have hfin : W.val qs * (W.val m * 2 ^ s) + W.val us = W.val l * 2 ^ s := by
        have := hqd.out
        rw [List.drop_zero, List.drop_zero, List.drop_zero, HUV.out, HA.out, HV.out] at this
        exact this
      have hfin2 : W.val us < W.val m * 2 ^ s := by
        have := hud.out
        rw [List.drop_zero, HV.out] at this
        exact this
      obtain ⟨r1, r2⟩ := W.div_end hfin hfin2
      have hcq := refTrim_any (some ⟨gq, 0, none⟩) qs nq wr hgQ.arr (by rw [hql.out]; exact Nat.le_refl _) (by omega) (fun h => by cases h) hqw.out (by rw [hql.out]; omega)
      rw [hql.out, r1] at hcq
      have hcu := fun x => refTrim_any (some ⟨gu, 0, none⟩) us c4 (wr.ext x) (hgU.blw (World.blw_ext _ x)).arr (by rw [hul.out]; exact hc4) hc4x (fun h => by cases h) husw.out (by rw [hul.out]; omega)
      rw [hul.out] at hcu
      have hul1 : (W.toW (W.val us)).length ≤ N + 1 := by have := W.toW_len_le husw.out; rwa [hul.out] at this
      obtain ⟨U, hU⟩ : ∃ U, U = W.val us := ⟨_, rfl⟩
      rw [← hU] at hcu r2 hul1
      have HCQ := Lib.hid hcq
      have HCU := Lib.hid hcu
      have HR2 := Lib.hid r2
      clear h0 e0 hfin hfin2 r1 r2 hcq hcu hU
      go_wp2_with fail
      refine Calls.mono HCQ.out ?_
      rintro e w6 ⟨a6, c6, x6, rfl, rfl, s1, s2, s3⟩
      go_wp2_with fail
      refine Calls.mono (HCU.out x6) ?_
      intro e w7 h7
      obtain ⟨a7, c7, x7, rfl, rfl, t1, t2, t3, t4, t5⟩ := h7.parts
      have hdn := refDown_any a7 (W.toW U) c7 s ((wr.ext x6).ext x7) t2 t3 t4 (W.wf_toW _) (by omega) (by omega)
      rw [W.val_toW, HR2.out] at hdn
      have HDN := Lib.hid hdn
      clear HCQ HCU hdn s2 s3 t2 t5 hgU hgQ hvA
      go_wp2_with fail
      refine Calls.mono HDN.out ?_
      rintro e w8 ⟨a8, c8, x8, rfl, rfl, v1, v2, v3⟩
      clear HDN
      go_wp2
      go_ret2
      exact ⟨a6, c6, a8, c8, rfl, ((hB.ext x6).ext x7).ext x8, ownsRow_mono (ownsRow_blw (ownsRow_blw s1 (World.blw_ext _ x7)) (World.blw_ext _ x8)) hB.size, ownsRow_mono v1 (Nat.le_trans hB.size (Nat.le_trans (World.le_ext _ x6) (World.le_ext _ x7)))⟩
end Go.Proofs.Ytigkfdoeneemeaa
/- Walks of slackwaterref01: Over in one law, Common. -/
namespace Go.Proofs.Ytigkfdoeneemeaa
open Go.RowKit

theorem refOver_any (a b : Option Addr) (l m : List Nat) (c d : Nat) (w : World) (h : Arr w a (u32s l)) (k : Arr w b (u32s m)) (hc : l.length ≤ c) (hd : m.length ≤ d) (hcm : c ≤ 9223372036854775807) (hdm : d ≤ 9223372036854775807) (ha : a = none → c = 0)
    (wl : W.WF l) (wm : W.WF m) (nm : W.Nrm m) (hl : l.length ≤ 8192) (hm : 0 < m.length) (hm8 : m.length ≤ 8190) :
    Calls Try.prog 192 #[.slice a l.length c, .slice b m.length d] w (RetTwo w (W.val l / W.val m) (W.val l % W.val m)) := by
  by_cases h1 : W.val l < W.val m
  · exact refOver_less a b l m c d w h k hc hcm ha wl wm (by omega) (by omega) h1
  · by_cases h2 : m.length = 1
    · obtain ⟨y, rfl⟩ := List.length_eq_one_iff.1 h2
      have vy : W.val [y] = y := by simp [W.val]
      have hy0 : 0 < y := by
        have := W.val_pos nm (by simp)
        rwa [vy] at this
      have := refOver_one a b l y c d w h k wl wm.head hy0 (by omega) (by rw [vy] at h1; omega)
      rw [vy]; exact this
    · obtain ⟨n, hn⟩ : ∃ n, m.length = n + 2 := ⟨m.length - 2, by omega⟩
      exact refOver_long a b l m n c d w h k hc hd hcm hdm wl wm nm hl hn hm8 (by omega)

/-- A slice that holds the words of a number, which may be handed in. -/
def HasN (w : World) (v : Value) (n : Nat) : Prop := ∃ (a : Option Addr) (c : Nat), v = .slice a (W.toW n).length c ∧ Arr w a (u32s (W.toW n)) ∧ (W.toW n).length ≤ c ∧ c ≤ 9223372036854775807 ∧ (a = none → c = 0)
theorem HasN.num {w : World} {v : Value} {n : Nat} (h : HasN w v n) : NumV w v n := by
  obtain ⟨a, c, e, k, _⟩ := h; exact ⟨a, c, e, k⟩
theorem HasN.blw {w w' : World} {v : Value} {n : Nat} (h : HasN w v n) (k : Blw w w') : HasN w' v n := by
  obtain ⟨a, c, e, h, r⟩ := h; exact ⟨a, c, e, h.blw k, r⟩
theorem HasN.own {w : World} {B n c : Nat} {a : Option Addr} (h : w.ownsRow B 135 1 (.slice a (W.toW n).length c) (W.toW n).length (u32s (W.toW n))) : HasN w (.slice a (W.toW n).length c) n := by
  obtain ⟨a', c', e, k1, _, k3, k4, k5⟩ := own_arr h
  cases e
  exact ⟨a, c, rfl, k1, k3, k4, fun e => (k5 e).2⟩

set_option maxRecDepth 100000 in
set_option maxHeartbeats 4000000 in
theorem refCommon_any (a b : Option Addr) (l m : List Nat) (c d : Nat) (w : World) (h : Arr w a (u32s l)) (k : Arr w b (u32s m)) (hc : l.length ≤ c) (hd : m.length ≤ d) (hcm : c ≤ 9223372036854775807) (hdm : d ≤ 9223372036854775807) (ha : a = none → c = 0) (hb : b = none → d = 0)
    (wl : W.WF l) (wm : W.WF m) (nl : W.Nrm l) (nm : W.Nrm m) (hl : l.length ≤ 8190) (hm : m.length ≤ 8190) :
    Calls Try.prog 178 #[.slice a l.length c, .slice b m.length d] w (RetW w (Nat.gcd (W.val l) (W.val m))) := by
  have L1 := W.toW_val wl nl
  have L2 := W.toW_val wm nm
  have B1 := Lib.hid (W.len_toW_le.1 (by rw [L1]; exact hl))
  have B2 := Lib.hid (W.len_toW_le.1 (by rw [L2]; exact hm))
  have H1 : HasN w (.slice a l.length c) (W.val l) := by rw [← congrArg List.length L1]; exact ⟨a, c, rfl, by rw [L1]; exact h, by rw [L1]; exact hc, hcm, ha⟩
  have H2 : HasN w (.slice b m.length d) (W.val m) := by rw [← congrArg List.length L2]; exact ⟨b, d, rfl, by rw [L2]; exact k, by rw [L2]; exact hd, hdm, hb⟩
  clear L1 L2
  go_enter Try.func178, Try.ntmps178
  go_wp2_with fail
  go_loopw [0, 1] (fun x y wr => ∃ (X Y : Nat), HasN wr x X ∧ HasN wr y Y ∧ Blw w wr ∧ Hid (Nat.gcd X Y = Nat.gcd (W.val l) (W.val m)) ∧ Hid (X < W.pw 8190) ∧ Hid (Y < W.pw 8190)) (fun _ y wr => readN wr y)
  case atStart => exact ⟨W.val l, W.val m, H1, H2, Blw.refl w, rfl, B1.out, B2.out⟩
  case round =>
    obtain ⟨X, Y, hX, hY, hB, hG, hX8, hY8⟩ := hrel
    have nX := readN_is hX.num
    have nY := readN_is hY.num
    have HX := Lib.hid hX
    have HY := Lib.hid hY
    obtain ⟨p1, q1, rfl, A1, A2, A3, A4⟩ := hX
    obtain ⟨p2, q2, rfl, D1, D2, D3, D4⟩ := hY
    have lX : (W.toW X).length ≤ 8190 := W.len_toW_le.2 hX8.out
    have lY : (W.toW Y).length ≤ 8190 := W.len_toW_le.2 hY8.out
    by_cases h0 : (W.toW Y).length = 0
    · have hY0 : Y = 0 := W.toW_nil.1 (List.eq_nil_of_length_eq_zero h0)
      have hg : X = Nat.gcd (W.val l) (W.val m) := by rw [← hG.out, hY0, Nat.gcd_zero_right]
      have htr := refTrim_any p1 (W.toW X) q1 wr A1 A2 A3 A4 (W.wf_toW X) (by omega)
      rw [W.val_toW] at htr
      have HTR := Lib.hid htr
      have HG := Lib.hid hg
      clear htr hg hY0 nX nY A1 A4 D1 D4
      go_wp2_with fail
      refine Calls.mono HTR.out ?_
      rintro e w6 ⟨a6, c6, x6, rfl, rfl, s1, s2, s3⟩
      clear HTR
      go_wp2
      go_ret
      rw [← HG.out]
      exact RetOwn.of (ownsRow_mono s1 hB.size) (hB.ext x6)
    · have hY0 : 0 < Y := Nat.pos_of_ne_zero (fun e => h0 (by rw [e, W.toW_zero]; rfl))
      have hov := refOver_any p1 p2 (W.toW X) (W.toW Y) q1 q2 wr A1 D1 A2 D2 A3 D3 A4 (W.wf_toW X) (W.wf_toW Y) (W.nrm_toW Y) (by omega) (by omega) lY
      rw [W.val_toW, W.val_toW] at hov
      have HOV := Lib.hid hov
      have hlt : X % Y < Y := Nat.mod_lt _ hY0
      have HLT := Lib.hid hlt
      have HNY := Lib.hid nY
      clear hov nX nY A1 A4 D1 D4 hlt hY0
      go_wp2_with fail
      refine Calls.mono HOV.out ?_
      rintro e w3 ⟨u1, v1, u2, v2, rfl, t1, t2, t3⟩
      have hz := HasN.own t3
      have nZ := Lib.hid (readN_is hz.num)
      have HZ := Lib.hid hz
      clear HOV t2 t3 hz
      go_wp2_with fail
      go_roundw
      case rel => exact ⟨Y, X % Y, HY.out.blw t1, HZ.out, hB.trans t1, by (show _ = _; rw [gcd_step]; exact hG.out), hY8, Nat.lt_trans HLT.out hY8.out⟩
      case measure => (rw [nZ.out, HNY.out]; exact HLT.out)
end Go.Proofs.Ytigkfdoeneemeaa
/- Walks of slackwaterref01: Add, Sub, Mul, Gcd (of numbers in their one form). -/
namespace Go.Proofs.Ytigkfdoeneemeaa
open Go.RowKit

theorem add_len' {l m : List Nat} {N : Nat} (wl : W.WF l) (wm : W.WF m) (hl : l.length ≤ N) (hm : m.length ≤ N) : (W.toW (W.val l + W.val m)).length ≤ N + 1 := by
  refine W.len_toW_le.2 ?_
  have h1 := W.val_lt wl
  have h2 := W.val_lt wm
  have h3 : W.pw l.length ≤ W.pw N := Nat.pow_le_pow_right (by decide) hl
  have h4 : W.pw m.length ≤ W.pw N := Nat.pow_le_pow_right (by decide) hm
  rw [W.pw_succ]
  generalize W.pw N = p at *
  generalize W.pw l.length = p3 at *
  generalize W.pw m.length = p4 at *
  omega
theorem add_len {l m : List Nat} (wl : W.WF l) (wm : W.WF m) (hl : l.length ≤ 8191) (hm : m.length ≤ 8191) : (W.toW (W.val l + W.val m)).length ≤ 8192 := add_len' wl wm hl hm
theorem times_len_le {l m : List Nat} (wl : W.WF l) (wm : W.WF m) : (W.toW (W.val l * W.val m)).length ≤ l.length + m.length := by
  refine W.len_toW_le.2 ?_
  rw [W.pw_add]
  exact Nat.mul_lt_mul'' (W.val_lt wl) (W.val_lt wm)
theorem sub_len {l m : List Nat} (wl : W.WF l) (hl : l.length ≤ 8192) : (W.toW (W.val l - W.val m)).length ≤ 8192 :=
  Nat.le_trans (W.len_toW_le.2 (Nat.lt_of_le_of_lt (Nat.sub_le _ _) (W.val_lt wl))) hl
theorem mul_len {l m : List Nat} (wl : W.WF l) (wm : W.WF m) (hs : l.length + m.length ≤ 8192) : (W.toW (W.val l * W.val m)).length ≤ 8192 := by
  refine Nat.le_trans (W.len_toW_le.2 ?_) hs
  rw [W.pw_add]
  exact Nat.mul_lt_mul'' (W.val_lt wl) (W.val_lt wm)
theorem gcd_len {l m : List Nat} (wl : W.WF l) (wm : W.WF m) (hl : l.length ≤ 8192) (hm : m.length ≤ 8192) : (W.toW (Nat.gcd (W.val l) (W.val m))).length ≤ 8192 := by
  rcases Nat.eq_zero_or_pos (W.val l) with h | h
  · rw [h, Nat.gcd_zero_left]
    exact Nat.le_trans (W.toW_len_le wm) hm
  · exact Nat.le_trans (W.len_toW_le.2 (Nat.lt_of_le_of_lt (Nat.gcd_le_left _ h) (W.val_lt wl))) hl

set_option maxRecDepth 100000 in
set_option maxHeartbeats 2000000 in
theorem refAdd_ok (a b : Option Addr) (l m : List Nat) (c d : Nat) (w : World) (h : Arr w a (u32s l)) (k : Arr w b (u32s m)) (wl : W.WF l) (wm : W.WF m) (nl : W.Nrm l) (nm : W.Nrm m) (hl : l.length ≤ 8191) (hm : m.length ≤ 8191) :
    Calls Try.prog 206 #[.slice a l.length c, .slice b m.length d] w (RetOk w (W.val l + W.val m)) := by
  have H1 := Lib.hid (refBoth_any a b l m c d w h k (by omega) (by omega) nl nm)
  have H2 := Lib.hid (refPlus_any a b l m c d w h k wl wm (by omega) (by omega))
  have hL := add_len wl wm hl hm
  generalize W.val l + W.val m = n at *
  go_enter Try.func206, Try.ntmps206
  go_wp2_with fail
  refine Calls.mono H1.out ?_
  rintro e w' ⟨rfl, rfl⟩
  go_wp2_with fail
  refine Calls.mono H2.out ?_
  rintro e w2 ⟨a3, c3, x3, rfl, rfl, r1, r2, r3⟩
  go_wp2_with (go_at_call 177; refine Calls.mono (refTold_ok a3 _ c3 _ hL) ?_; rintro e w' ⟨rfl, rfl⟩)
  go_ret2
  exact ⟨a3, c3, rfl, World.blw_ext _ _, r1⟩

set_option maxRecDepth 100000 in
set_option maxHeartbeats 2000000 in
theorem refSub_ok (a b : Option Addr) (l m : List Nat) (c d : Nat) (w : World) (h : Arr w a (u32s l)) (k : Arr w b (u32s m)) (wl : W.WF l) (wm : W.WF m) (nl : W.Nrm l) (nm : W.Nrm m) (hl : l.length ≤ 8192) (hm : m.length ≤ 8192) (hle : W.val m ≤ W.val l) :
    Calls Try.prog 207 #[.slice a l.length c, .slice b m.length d] w (RetOk w (W.val l - W.val m)) := by
  have H1 := Lib.hid (refBoth_any a b l m c d w h k (by omega) (by omega) nl nm)
  have H2 := Lib.hid (refLess_any a b l m c d w h k wl wm (by omega) (by omega) hle)
  have H3 := Lib.hid (refCompare_any a b l m c d w h k wl wm (by omega) (by omega))
  have c1 : decide (W.cmpN (W.val l) (W.val m) < 0) = false := by rw [cmp_lt]; simpa using hle
  have hL := sub_len (m := m) wl hl
  clear hle
  generalize W.val l - W.val m = n at *
  go_enter Try.func207, Try.ntmps207
  go_wp2_with fail
  refine Calls.mono H1.out ?_
  rintro e w' ⟨rfl, rfl⟩
  go_wp2_with fail
  refine Calls.mono H3.out ?_
  rintro e w' ⟨rfl, rfl⟩
  go_wp2_with fail
  refine Calls.mono H2.out ?_
  rintro e w2 ⟨a3, c3, x3, rfl, rfl, r1, r2, r3⟩
  go_wp2_with (go_at_call 177; refine Calls.mono (refTold_ok a3 _ c3 _ hL) ?_; rintro e w' ⟨rfl, rfl⟩)
  go_ret2
  exact ⟨a3, c3, rfl, World.blw_ext _ _, r1⟩

set_option maxRecDepth 100000 in
set_option maxHeartbeats 2000000 in
theorem refMul_ok (a b : Option Addr) (l m : List Nat) (c d : Nat) (w : World) (h : Arr w a (u32s l)) (k : Arr w b (u32s m)) (wl : W.WF l) (wm : W.WF m) (nl : W.Nrm l) (nm : W.Nrm m) (hs : l.length + m.length ≤ 8192) :
    Calls Try.prog 208 #[.slice a l.length c, .slice b m.length d] w (RetOk w (W.val l * W.val m)) := by
  have H1 := Lib.hid (refBoth_any a b l m c d w h k (by omega) (by omega) nl nm)
  have H2 := Lib.hid (refTimes_any a b l m c d w h k wl wm (by omega))
  have hL := mul_len wl wm hs
  have i1 : decide ((8192 : Int) < (l.length : Int) + (m.length : Int) - 1) = false := by simp; omega
  have i2 : ((l.length : Int) + (m.length : Int) - 1 ≤ 8192) := by omega
  generalize W.val l * W.val m = n at *
  by_cases hl0 : 0 < l.length <;> by_cases hm0 : 0 < m.length
  all_goals
    go_enter Try.func208, Try.ntmps208
    go_wp2_with fail
    refine Calls.mono H1.out ?_
    rintro e w' ⟨rfl, rfl⟩
    go_wp2_with fail
    refine Calls.mono H2.out ?_
    rintro e w2 ⟨a3, c3, x3, rfl, rfl, r1, r2, r3⟩
    go_wp2_with (go_at_call 177; refine Calls.mono (refTold_ok a3 _ c3 _ hL) ?_; rintro e w' ⟨rfl, rfl⟩)
    go_ret2
    exact ⟨a3, c3, rfl, World.blw_ext _ _, r1⟩

set_option maxRecDepth 100000 in
set_option maxHeartbeats 2000000 in
theorem refGcd_ok (a b : Option Addr) (l m : List Nat) (c d : Nat) (w : World) (h : Arr w a (u32s l)) (k : Arr w b (u32s m)) (hc : l.length ≤ c) (hd : m.length ≤ d) (hcm : c ≤ 9223372036854775807) (hdm : d ≤ 9223372036854775807) (ha : a = none → c = 0) (hb : b = none → d = 0)
    (wl : W.WF l) (wm : W.WF m) (nl : W.Nrm l) (nm : W.Nrm m) (hl : l.length ≤ 8190) (hm : m.length ≤ 8190) :
    Calls Try.prog 156 #[.slice a l.length c, .slice b m.length d] w (RetOk w (Nat.gcd (W.val l) (W.val m))) := by
  have H1 := Lib.hid (refBoth_any a b l m c d w h k (by omega) (by omega) nl nm)
  have H2 := Lib.hid (refCommon_any a b l m c d w h k hc hd hcm hdm ha hb wl wm nl nm hl hm)
  have hL := gcd_len wl wm (show l.length ≤ 8192 by omega) (show m.length ≤ 8192 by omega)
  generalize Nat.gcd (W.val l) (W.val m) = n at *
  go_enter Try.func156, Try.ntmps156
  go_wp2_with fail
  refine Calls.mono H1.out ?_
  rintro e w' ⟨rfl, rfl⟩
  go_wp2_with fail
  refine Calls.mono H2.out ?_
  rintro e w2 ⟨a3, c3, x3, rfl, rfl, r1, r2, r3⟩
  go_wp2_with (go_at_call 177; refine Calls.mono (refTold_ok a3 _ c3 _ hL) ?_; rintro e w' ⟨rfl, rfl⟩)
  go_ret2
  exact ⟨a3, c3, rfl, World.blw_ext _ _, r1⟩
end Go.Proofs.Ytigkfdoeneemeaa
/- Walks of slackwaterref03: same, trimmed, one, times, Check, both. -/
namespace Go.Proofs.Ytigkfdoeneemeaa
open Go.RowKit

theorem ret_bl {a b : Bool} (h : a = b) : Ending.returned (.bool a) = .returned (.bool b) := by rw [h]
set_option maxHeartbeats 1600000 in
theorem ref03Same_any (a b : Option Addr) (l m : List Nat) (c d : Nat) (w : World) (ha : Arr w a (u32s l)) (hb : Arr w b (u32s m)) (hl : l.length ≤ 1099511627776) (hm : m.length ≤ 1099511627776) :
    Calls Try.prog 157 #[.slice a l.length c, .slice b m.length d] w fun e w' => e = .returned (.bool (l == m)) ∧ ∃ x, w' = w.ext x := by
  by_cases hlm : l.length = m.length
  · have HLM := Lib.hid hlm
    have d1 : ((l.length : Int) != (m.length : Int)) = false := by simp; omega
    have d2 : ((l.length : Int) == (m.length : Int)) = true := by simp; omega
    clear hlm
    go_enter Try.func157, Try.ntmps157
    go_wp2
    clear d1 d2
    go_loopw [5] (fun i wr => ∃ k : Nat, k ≤ l.length ∧ i = .int .i64 k ∧ Blw w wr ∧ Hid (l.take k = m.take k)) (fun i _ => l.length - (intOf i).toNat)
    case atStart => exact ⟨0, Nat.zero_le _, rfl, Blw.refl _, rfl⟩
    case round =>
      obtain ⟨k, hk, rfl, hbw, htk⟩ := hrel
      have hlm := HLM.out
      by_cases hlt : k < l.length
      · obtain ⟨x, b1, o1, hd1, -, hgx, rfl, hb1, hc1⟩ := (ha.blw hbw).elem hlt
        obtain ⟨y, b2, o2, hd2, -, hgy, rfl, hb2, hc2⟩ := (hb.blw hbw).elem (show k < m.length by omega)
        have h0 : (0 : Int) ≤ (k : Int) := by omega
        have h1 : (k : Int) < (l.length : Int) := by omega
        have h2 : (k : Int) < (m.length : Int) := by omega
        have HX : Hid (l[k]? = some x) := hgx.out
        have HY : Hid (m[k]? = some y) := hgy.out
        clear hgx hgy hd1 hd2 hlm
        by_cases hxy : x = y
        · have HT : Hid (l.take (k + 1) = m.take (k + 1)) := by
            show _ = _
            rw [List.take_add_one, List.take_add_one, htk.out, HX.out, HY.out, hxy]
          subst hxy
          clear HX HY
          go_wp2_with fail
          go_quiet (fail)
          go_wp2
          go_roundw
          case rel => exact ⟨k + 1, by omega, by go_num, hbw.trans (by repeat (first | exact Blw.refl _ | apply Blw.ext | apply Blw.alloc | apply Blw.drewN | apply Blw.drew | refine Blw.setCell ?_ _ _ (by simp))), HT⟩
          case measure => simp [intOf]; omega
        · have HF : Hid ((l == m) = false) := by
            show _ = _
            simp only [beq_eq_false_iff_ne, ne_eq]
            intro e
            have := HX.out
            rw [e, HY.out] at this
            exact hxy (by injection this with this; exact this.symm)
          have q1 : ((x : Int) != (y : Int)) = true := by simp; omega
          have q2 : ((x : Int) == (y : Int)) = false := by simp; omega
          clear HX HY htk hxy
          go_wp2_with fail
          go_quiet (fail)
          go_wp2
          go_ret
          exact ⟨ret_bl HF.out.symm, Blw.is (hbw.trans (by repeat (first | exact Blw.refl _ | apply Blw.ext | apply Blw.alloc | apply Blw.drewN | apply Blw.drew | refine Blw.setCell ?_ _ _ (by simp))))⟩
      · have HF : Hid ((l == m) = true) := by
          show _ = _
          have := htk.out
          rw [List.take_of_length_le (by omega), List.take_of_length_le (by omega)] at this
          simpa using this
        clear htk hlm
        go_wp2
        go_ret
        exact ⟨ret_bl HF.out.symm, Blw.is hbw⟩
  · have HF : Hid ((l == m) = false) := by
      show _ = _
      simp only [beq_eq_false_iff_ne, ne_eq]
      intro e; exact hlm (by rw [e])
    have d1 : ((l.length : Int) != (m.length : Int)) = true := by simp; omega
    have d2 : ((l.length : Int) == (m.length : Int)) = false := by simp; omega
    clear hlm
    go_enter Try.func157, Try.ntmps157
    go_wp2
    go_ret
    exact ⟨ret_bl HF.out.symm, Blw.is (Blw.refl _)⟩


set_option maxHeartbeats 1000000 in
theorem refTrimmed_any (a : Option Addr) (l : List Nat) (c : Nat) (w : World) (h : Arr w a (u32s l)) (hl : l.length ≤ 9223372036854775807) :
    Calls Try.prog 155 #[.slice a l.length c] w fun e w' => e = .returned (.bool (decide (¬ l.getLast? = some 0))) ∧ w' = w := by
  by_cases h0 : l.length = 0
  · have e0 : l = [] := List.eq_nil_of_length_eq_zero h0
    subst e0
    go_enter Try.func155, Try.ntmps155
    go_wp2
    go_ret
    exact ⟨rfl, rfl⟩
  · obtain ⟨x, b, o, -, -, hx, rfl, hb, hc⟩ := h.elem (k := l.length - 1) (by omega)
    have hlast : Hid (l.getLast? = some x) := by show l.getLast? = some x; rw [List.getLast?_eq_getElem?]; exact hx.out
    have d1 : ((l.length : Int) == 0) = false := beq_false_of_ne (by omega)
    have i1 : ((l.length : Int) - 1).toNat = l.length - 1 := by omega
    have i2 : (0 : Int) ≤ (l.length : Int) - 1 := by omega
    have i3 : (1 : Int) ≤ (l.length : Int) := by omega
    clear h0 h
    by_cases hx0 : x = 0
    · have HE : Hid (decide (¬ l.getLast? = some 0) = false) := by show _ = _; rw [hlast.out, hx0]; rfl
      subst hx0
      clear hx hlast
      go_enter Try.func155, Try.ntmps155
      go_wp2
      go_ret
      exact ⟨ret_bl HE.out.symm, rfl⟩
    · have HE : Hid (decide (¬ l.getLast? = some 0) = true) := by show _ = _; rw [hlast.out]; simpa using hx0
      have d2 : ((x : Int) != 0) = true := by simp; omega
      have d3 : ((x : Int) == 0) = false := by simp; omega
      clear hx hlast hx0
      go_enter Try.func155, Try.ntmps155
      go_wp2
      go_ret
      exact ⟨ret_bl HE.out.symm, rfl⟩
set_option maxHeartbeats 1000000 in
theorem refOne_any (w : World) : Calls Try.prog 158 #[] w fun e w' => e = .returned (.slice (some ⟨w.heap.size, 0, none⟩) 1 1) ∧ w' = w.alloc (.cells (u32s [1]).toArray 135 (0, 0)) := by
  go_enter Try.func158, Try.ntmps158
  go_wp2
  go_ret
  exact ⟨rfl, rfl⟩
set_option maxHeartbeats 1000000 in
theorem refTimes3_any (a b : Option Addr) (l m : List Nat) (c d : Nat) (w : World) (h : Arr w a (u32s l)) (k : Arr w b (u32s m)) (wl : W.WF l) (wm : W.WF m) (nl : W.Nrm l) (nm : W.Nrm m) (hs : l.length + m.length ≤ 8192) :
    Calls Try.prog 195 #[.slice a l.length c, .slice b m.length d] w (RetW w (W.val l * W.val m)) := by
  have hm := refMul_ok a b l m c d w h k wl wm nl nm hs
  clear h k
  go_enter Try.func195, Try.ntmps195
  go_wp2_with fail
  refine Calls.mono hm ?_
  rintro e w1 ⟨a1, c1, rfl, hb, o1⟩
  clear hm
  go_wp2
  go_ret
  exact RetOwn.of o1 hb
end Go.Proofs.Ytigkfdoeneemeaa
/- The walk of slackwaterref03.Check, both. -/
namespace Go.Proofs.Ytigkfdoeneemeaa
open Go.RowKit

set_option maxRecDepth 100000 in
set_option maxHeartbeats 4000000 in
theorem refCheck3_any (r : Fr) (a : Option Addr) (c : Nat) (b : Option Addr) (d : Nat) (w : World) (h : FrA w r a c b d) :
    Calls Try.prog 130 #[frV r a c b d] w fun e w' => e = .returned (.int .i64 (chkF r)) ∧ ∃ x, w' = w.ext x := by
  obtain ⟨neg, num, den⟩ := r
  obtain ⟨an, ad, cn, cm, dn, dm, na, nb, wn, wd⟩ := h
  simp only at an ad cn dn na nb wn wd
  by_cases hA : 2048 < num.length
  · have f1 : decide ((2048 : Int) < (num.length : Int)) = true := by simp; omega
    have HE := Lib.hid (show chkF ⟨neg, num, den⟩ = 3 from if_pos (.inl hA))
    go_enter Try.func130, Try.ntmps130
    go_wp2_with fail
    go_ret
    exact ⟨ret_i64 HE.out.symm, Blw.is (by repeat (first | exact Blw.refl _ | apply Blw.ext | apply Blw.alloc | apply Blw.drewN | apply Blw.drew | refine Blw.setCell ?_ _ _ (by simp)))⟩
  by_cases hB : 2048 < den.length
  · have f1 : decide ((2048 : Int) < (num.length : Int)) = false := by simp; omega
    have f2 : decide ((2048 : Int) < (den.length : Int)) = true := by simp; omega
    have HE := Lib.hid (show chkF ⟨neg, num, den⟩ = 3 from if_pos (.inr hB))
    go_enter Try.func130, Try.ntmps130
    go_wp2_with fail
    go_ret
    exact ⟨ret_i64 HE.out.symm, Blw.is (by repeat (first | exact Blw.refl _ | apply Blw.ext | apply Blw.alloc | apply Blw.drewN | apply Blw.drew | refine Blw.setCell ?_ _ _ (by simp)))⟩
  have hAB : ¬ (2048 < num.length ∨ 2048 < den.length) := by omega
  have f1 : decide ((2048 : Int) < (num.length : Int)) = false := by simp; omega
  have f2 : decide ((2048 : Int) < (den.length : Int)) = false := by simp; omega
  have K1 := fun (W : World) (hb : Blw w W) => refTrimmed_any a num c W (an.blw hb) (by omega)
  have K2 := fun (W : World) (hb : Blw w W) => refTrimmed_any b den d W (ad.blw hb) (by omega)
  by_cases hC : num.getLast? = some 0
  · have HE := Lib.hid (show chkF ⟨neg, num, den⟩ = 11 by unfold chkF; rw [if_neg hAB, if_pos (.inl hC)])
    rw [decide_eq_false (show ¬ ¬ num.getLast? = some 0 from fun k => k hC)] at K1
    have H1 := Lib.hid K1
    clear K1 K2 hC hAB an ad
    go_enter Try.func130, Try.ntmps130
    go_wp2_with (go_at_call 155; (with_reducible refine Calls.mono (H1.out _ (by repeat (first | exact Blw.refl _ | apply Blw.ext | apply Blw.alloc | apply Blw.drewN | apply Blw.drew | refine Blw.setCell ?_ _ _ (by simp)))) ?_); rintro e w' ⟨rfl, rfl⟩)
    go_ret
    exact ⟨ret_i64 HE.out.symm, Blw.is (by repeat (first | exact Blw.refl _ | apply Blw.ext | apply Blw.alloc | apply Blw.drewN | apply Blw.drew | refine Blw.setCell ?_ _ _ (by simp)))⟩
  rw [decide_eq_true hC] at K1
  have H1 := Lib.hid K1
  clear K1
  by_cases hD : den.getLast? = some 0
  · have HE := Lib.hid (show chkF ⟨neg, num, den⟩ = 11 by unfold chkF; rw [if_neg hAB, if_pos (.inr (.inl hD))])
    rw [decide_eq_false (show ¬ ¬ den.getLast? = some 0 from fun k => k hD)] at K2
    have H2 := Lib.hid K2
    clear K2 hC hD hAB an ad
    go_enter Try.func130, Try.ntmps130
    go_wp2_with (go_at_call 155; (first | (with_reducible refine Calls.mono (H1.out _ (by repeat (first | exact Blw.refl _ | apply Blw.ext | apply Blw.alloc | apply Blw.drewN | apply Blw.drew | refine Blw.setCell ?_ _ _ (by simp)))) ?_) | (with_reducible refine Calls.mono (H2.out _ (by repeat (first | exact Blw.refl _ | apply Blw.ext | apply Blw.alloc | apply Blw.drewN | apply Blw.drew | refine Blw.setCell ?_ _ _ (by simp)))) ?_)); rintro e w' ⟨rfl, rfl⟩)
    go_ret
    exact ⟨ret_i64 HE.out.symm, Blw.is (by repeat (first | exact Blw.refl _ | apply Blw.ext | apply Blw.alloc | apply Blw.drewN | apply Blw.drew | refine Blw.setCell ?_ _ _ (by simp)))⟩
  rw [decide_eq_true hD] at K2
  have H2 := Lib.hid K2
  clear K2
  by_cases hE : den.length = 0
  · have HE := Lib.hid (show chkF ⟨neg, num, den⟩ = 11 by unfold chkF; rw [if_neg hAB, if_pos (.inr (.inr (.inl hE)))])
    have q1 : ((den.length : Int) == 0) = true := by rw [hE]; rfl
    clear hE hC hD hAB an ad
    go_enter Try.func130, Try.ntmps130
    go_wp2_with (go_at_call 155; (first | (with_reducible refine Calls.mono (H1.out _ (by repeat (first | exact Blw.refl _ | apply Blw.ext | apply Blw.alloc | apply Blw.drewN | apply Blw.drew | refine Blw.setCell ?_ _ _ (by simp)))) ?_) | (with_reducible refine Calls.mono (H2.out _ (by repeat (first | exact Blw.refl _ | apply Blw.ext | apply Blw.alloc | apply Blw.drewN | apply Blw.drew | refine Blw.setCell ?_ _ _ (by simp)))) ?_)); rintro e w' ⟨rfl, rfl⟩)
    go_ret
    exact ⟨ret_i64 HE.out.symm, Blw.is (by repeat (first | exact Blw.refl _ | apply Blw.ext | apply Blw.alloc | apply Blw.drewN | apply Blw.drew | refine Blw.setCell ?_ _ _ (by simp)))⟩
  have q1 : ((den.length : Int) == 0) = false := beq_false_of_ne (by omega)
  by_cases hF : num.length = 0 ∧ neg = true
  · have HE := Lib.hid (show chkF ⟨neg, num, den⟩ = 11 by unfold chkF; rw [if_neg hAB, if_pos (.inr (.inr (.inr (.inl hF))))])
    have q2 : ((num.length : Int) == 0) = true := by rw [hF.1]; rfl
    obtain ⟨-, rfl⟩ := hF
    clear hE hC hD hAB an ad
    go_enter Try.func130, Try.ntmps130
    go_wp2_with (go_at_call 155; (first | (with_reducible refine Calls.mono (H1.out _ (by repeat (first | exact Blw.refl _ | apply Blw.ext | apply Blw.alloc | apply Blw.drewN | apply Blw.drew | refine Blw.setCell ?_ _ _ (by simp)))) ?_) | (with_reducible refine Calls.mono (H2.out _ (by repeat (first | exact Blw.refl _ | apply Blw.ext | apply Blw.alloc | apply Blw.drewN | apply Blw.drew | refine Blw.setCell ?_ _ _ (by simp)))) ?_)); rintro e w' ⟨rfl, rfl⟩)
    go_ret
    exact ⟨ret_i64 HE.out.symm, Blw.is (by repeat (first | exact Blw.refl _ | apply Blw.ext | apply Blw.alloc | apply Blw.drewN | apply Blw.drew | refine Blw.setCell ?_ _ _ (by simp)))⟩
  have GC := fun (W : World) (hb : Blw w W) => refGcd_ok a b num den c d W (an.blw hb) (ad.blw hb) cn dn cm dm (fun e => (na e).2) (fun e => (nb e).2) wn wd hC hD (by omega) (by omega)
  obtain ⟨G, hG⟩ : ∃ G, Nat.gcd (W.val num) (W.val den) = G := ⟨_, rfl⟩
  rw [hG] at GC
  have HG := Lib.hid GC
  have HE := Lib.hid (show chkF ⟨neg, num, den⟩ = if G = 1 then 0 else 11 by
    unfold chkF
    rw [if_neg hAB]
    by_cases h1 : G = 1
    · rw [if_pos h1, if_neg]
      rintro (k | k | k | k | k)
      · exact hC k
      · exact hD k
      · exact hE k
      · exact hF k
      · exact k (hG.trans h1)
    · rw [if_neg h1, if_pos (.inr (.inr (.inr (.inr (fun k => h1 (hG.symm.trans k))))))])
  have hcase : (((num.length : Int) == 0) = true ∧ neg = false) ∨ ((num.length : Int) == 0) = false := by
    by_cases h0 : num.length = 0
    · left
      refine ⟨by rw [h0]; rfl, ?_⟩
      cases hn : neg
      · rfl
      · exact absurd ⟨h0, hn⟩ hF
    · right; exact beq_false_of_ne (by omega)
  have G8 : Hid ((W.toW G).length ≤ 2048 ∨ G = 0 ∨ True) := .inr (.inr trivial)
  clear G8
  have hgl := gcd_len wn wd (show num.length ≤ 8192 by omega) (show den.length ≤ 8192 by omega)
  rw [hG] at hgl
  have HGL := Lib.hid hgl
  clear GC hG hF hE hC hD hAB an ad hgl
  go_enter Try.func130, Try.ntmps130
  rcases hcase with ⟨q2, rfl⟩ | q2
  all_goals
    go_wp2_with (go_at_call 155; (first | (with_reducible refine Calls.mono (H1.out _ (by repeat (first | exact Blw.refl _ | apply Blw.ext | apply Blw.alloc | apply Blw.drewN | apply Blw.drew | refine Blw.setCell ?_ _ _ (by simp)))) ?_) | (with_reducible refine Calls.mono (H2.out _ (by repeat (first | exact Blw.refl _ | apply Blw.ext | apply Blw.alloc | apply Blw.drewN | apply Blw.drew | refine Blw.setCell ?_ _ _ (by simp)))) ?_)); rintro e w' ⟨rfl, rfl⟩)
    refine Calls.mono (HG.out _ (by repeat (first | exact Blw.refl _ | apply Blw.ext | apply Blw.alloc | apply Blw.drewN | apply Blw.drew | refine Blw.setCell ?_ _ _ (by simp)))) ?_
    rintro e w2 ⟨a3, c3, rfl, hb3, o3⟩
    have A3 := own_read o3
    have hb2 : Blw w w2 := ((Blw.refl w).alloc _).trans hb3
    clear o3 hb3 HG H1 H2
    go_wp2_with fail
    refine Calls.mono (refOne_any w2) ?_
    rintro e w3 ⟨rfl, rfl⟩
    have hsm : Calls Try.prog 157 #[.slice a3 (W.toW G).length c3, .slice (some ⟨w2.heap.size, 0, none⟩) 1 1] (w2.alloc (.cells (u32s [1]).toArray 135 (0, 0))) fun e w' => e = .returned (.bool (W.toW G == [1])) ∧ ∃ x, w' = (w2.alloc (.cells (u32s [1]).toArray 135 (0, 0))).ext x := ref03Same_any a3 (some ⟨w2.heap.size, 0, none⟩) (W.toW G) [1] c3 1 (w2.alloc (.cells (u32s [1]).toArray 135 (0, 0))) (A3.alloc _) (own_read (own_lit w2 [1] (by decide))) (by have := HGL.out; omega) (by decide)
    have hW1 : W.toW G = [1] ↔ G = 1 := ⟨fun e => by have := W.val_toW G; rw [e] at this; exact this.symm, fun e => by rw [e, W.toW_pos (by decide)]; simp [W.toW_zero]⟩
    have HSM := Lib.hid hsm
    clear hsm A3 HGL
    by_cases hg1 : G = 1
    · rw [if_pos hg1] at HE
      have hb : (W.toW G == [1]) = true := by rw [hW1.2 hg1]; rfl
      rw [hb] at HSM
      clear hg1 hb hW1
      go_wp2_with fail
      refine Calls.mono HSM.out ?_
      rintro e w4 ⟨rfl, x4, rfl⟩
      go_wp2
      go_ret
      exact ⟨ret_i64 HE.out.symm, Blw.is ((hb2.alloc _).ext _)⟩
    · rw [if_neg hg1] at HE
      have hb : (W.toW G == [1]) = false := by
        rw [beq_eq_false_iff_ne]
        exact fun e => hg1 (hW1.1 e)
      rw [hb] at HSM
      clear hg1 hb hW1
      go_wp2_with fail
      refine Calls.mono HSM.out ?_
      rintro e w4 ⟨rfl, x4, rfl⟩
      go_wp2
      go_ret
      exact ⟨ret_i64 HE.out.symm, Blw.is ((hb2.alloc _).ext _)⟩

set_option maxHeartbeats 1000000 in
theorem refBoth3_any (r s : Fr) (a : Option Addr) (c : Nat) (b : Option Addr) (d : Nat) (a' : Option Addr) (c' : Nat) (b' : Option Addr) (d' : Nat) (w : World) (h : FrA w r a c b d) (k : FrA w s a' c' b' d') :
    Calls Try.prog 179 #[frV r a c b d, frV s a' c' b' d'] w fun e w' => e = .returned (.int .i64 (chk2 r s)) ∧ ∃ x, w' = w.ext x := by
  have K1 := fun (W : World) (hb : Blw w W) => refCheck3_any r a c b d W (h.blw hb)
  have K2 := fun (W : World) (hb : Blw w W) => refCheck3_any s a' c' b' d' W (k.blw hb)
  have he : chk2 r s = if chkF r = 0 then chkF s else chkF r := rfl
  generalize chkF r = u at *
  generalize chkF s = v at *
  have HE := Lib.hid he
  clear he
  have H1 := Lib.hid K1
  have H2 := Lib.hid K2
  clear K1 K2 h k
  by_cases hu : u = 0
  · subst hu
    rw [if_pos rfl] at HE
    go_enter Try.func179, Try.ntmps179
    go_wp2_with fail
    refine Calls.mono (H1.out _ (by repeat (first | exact Blw.refl _ | apply Blw.ext | apply Blw.alloc | apply Blw.drewN | apply Blw.drew | refine Blw.setCell ?_ _ _ (by simp)))) ?_
    rintro e w1 ⟨rfl, x1, rfl⟩
    go_wp2_with fail
    refine Calls.mono (H2.out _ (by repeat (first | exact Blw.refl _ | apply Blw.ext | apply Blw.alloc | apply Blw.drewN | apply Blw.drew | refine Blw.setCell ?_ _ _ (by simp)))) ?_
    rintro e w1 ⟨rfl, x2, rfl⟩
    go_wp2
    go_ret
    exact ⟨ret_i64 HE.out.symm, Blw.is (by repeat (first | exact Blw.refl _ | apply Blw.ext | apply Blw.alloc | apply Blw.drewN | apply Blw.drew | refine Blw.setCell ?_ _ _ (by simp)))⟩
  · rw [if_neg hu] at HE
    have q : (u == 0) = false := by simpa using hu
    go_enter Try.func179, Try.ntmps179
    go_wp2_with fail
    refine Calls.mono (H1.out _ (by repeat (first | exact Blw.refl _ | apply Blw.ext | apply Blw.alloc | apply Blw.drewN | apply Blw.drew | refine Blw.setCell ?_ _ _ (by simp)))) ?_
    rintro e w1 ⟨rfl, x1, rfl⟩
    go_wp2
    go_ret
    exact ⟨ret_i64 HE.out.symm, Blw.is (by repeat (first | exact Blw.refl _ | apply Blw.ext | apply Blw.alloc | apply Blw.drewN | apply Blw.drew | refine Blw.setCell ?_ _ _ (by simp)))⟩
end Go.Proofs.Ytigkfdoeneemeaa
/- The walk of slackwaterref03.Signed. -/
namespace Go.Proofs.Ytigkfdoeneemeaa
open Go.RowKit

/-- Two whole numbers with their signs, added. -/
def sgnF (s : Bool) (X : Nat) (t : Bool) (Y : Nat) : Bool × Nat := if s = t then (s, X + Y) else if X < Y then (t, Y - X) else (s && decide (0 < X - Y), X - Y)

/-- A sign and a number of the call's own. -/
def RetSg (w : World) (z : Bool × Nat) (e : Ending) (w' : World) : Prop :=
  ∃ (a : Option Addr) (c : Nat), e = .returned (.tuple #[.bool z.1, .slice a (W.toW z.2).length c]) ∧ Blw w w' ∧ w'.ownsRow w.heap.size 135 1 (.slice a (W.toW z.2).length c) (W.toW z.2).length (u32s (W.toW z.2))

set_option maxRecDepth 100000 in
set_option maxHeartbeats 2000000 in
theorem refSigned_any (s t : Bool) (X Y : Nat) (p1 : Option Addr) (q1 : Nat) (p2 : Option Addr) (q2 : Nat) (w : World) (h : Arr w p1 (u32s (W.toW X))) (k : Arr w p2 (u32s (W.toW Y))) (hl : (W.toW X).length ≤ 8191) (hm : (W.toW Y).length ≤ 8191) :
    Calls Try.prog 194 #[.bool s, .slice p1 (W.toW X).length q1, .bool t, .slice p2 (W.toW Y).length q2] w (RetSg w (sgnF s X t Y)) := by
  have hadd := refAdd_ok p1 p2 (W.toW X) (W.toW Y) q1 q2 w h k (W.wf_toW X) (W.wf_toW Y) (W.nrm_toW X) (W.nrm_toW Y) hl hm
  have hcmp := refCompare_any p1 p2 (W.toW X) (W.toW Y) q1 q2 w h k (W.wf_toW X) (W.wf_toW Y) (by omega) (by omega)
  have hsub1 := fun (hle : W.val (W.toW Y) ≤ W.val (W.toW X)) => refSub_ok p1 p2 (W.toW X) (W.toW Y) q1 q2 w h k (W.wf_toW X) (W.wf_toW Y) (W.nrm_toW X) (W.nrm_toW Y) (by omega) (by omega) hle
  have hsub2 := fun (hle : W.val (W.toW X) ≤ W.val (W.toW Y)) => refSub_ok p2 p1 (W.toW Y) (W.toW X) q2 q1 w k h (W.wf_toW Y) (W.wf_toW X) (W.nrm_toW Y) (W.nrm_toW X) (by omega) (by omega) hle
  simp only [W.val_toW] at hadd hcmp hsub1 hsub2
  by_cases hst : s = t
  · subst hst
    have HE : Hid (sgnF s X s Y = (s, X + Y)) := by show _ = _; unfold sgnF; rw [if_pos rfl]
    have HA := Lib.hid hadd
    have d1 : (s == s) = true := by simp
    clear hadd hcmp hsub1 hsub2 h k
    go_enter Try.func194, Try.ntmps194
    go_wp2_with fail
    refine Calls.mono HA.out ?_
    rintro e w1 ⟨a1, c1, rfl, hb, o1⟩
    go_wp2
    go_ret2
    rw [HE.out]
    exact ⟨a1, c1, rfl, hb, o1⟩
  · have d1 : (s == t) = false := by simpa using hst
    by_cases hlt : X < Y
    · have HE : Hid (sgnF s X t Y = (t, Y - X)) := by show _ = _; unfold sgnF; rw [if_neg hst, if_pos hlt]
      have d2 : decide (W.cmpN X Y < 0) = true := by rw [cmp_lt]; simpa using hlt
      have HS := Lib.hid (hsub2 (by omega))
      have HC := Lib.hid hcmp
      clear hadd hcmp hsub1 hsub2 h k hst hlt
      go_enter Try.func194, Try.ntmps194
      go_wp2_with fail
      refine Calls.mono HC.out ?_
      rintro e w' ⟨rfl, rfl⟩
      go_wp2_with fail
      refine Calls.mono HS.out ?_
      rintro e w1 ⟨a1, c1, rfl, hb, o1⟩
      go_wp2
      go_ret2
      rw [HE.out]
      exact ⟨a1, c1, rfl, hb, o1⟩
    · have HE : Hid (sgnF s X t Y = (s && decide (0 < X - Y), X - Y)) := by show _ = _; unfold sgnF; rw [if_neg hst, if_neg hlt]
      have d2 : decide (W.cmpN X Y < 0) = false := by rw [cmp_lt]; simpa using hlt
      have HS := Lib.hid (hsub1 (by omega))
      have HC := Lib.hid hcmp
      have hz : decide (0 < X - Y) = decide (0 < (W.toW (X - Y)).length) := by
        by_cases h0 : X - Y = 0
        · rw [h0, W.toW_zero]; rfl
        · rw [decide_eq_true (by omega), decide_eq_true]
          exact List.length_pos_iff.2 (W.toW_ne h0)
      rw [hz] at HE
      have HL := sub_len (l := W.toW X) (m := W.toW Y) (W.wf_toW X) (by omega)
      rw [W.val_toW, W.val_toW] at HL
      generalize X - Y = Z at *
      clear hadd hcmp hsub1 hsub2 h k hst hlt hz
      cases s
      all_goals
        go_enter Try.func194, Try.ntmps194
        go_wp2_with fail
        refine Calls.mono HC.out ?_
        rintro e w' ⟨rfl, rfl⟩
        go_wp2_with fail
        refine Calls.mono HS.out ?_
        rintro e w1 ⟨a1, c1, rfl, hb, o1⟩
        go_wp2
        go_ret2
        rw [HE.out]
        exact ⟨a1, c1, rfl, hb, o1⟩
end Go.Proofs.Ytigkfdoeneemeaa
/- The waters of a list that is negated, and of one that is turned round: plain Lean. -/
namespace Go.Proofs.Ytigkfdoeneemeaa

/-- Each with the one behind. -/
def cons2 {α : Type} : List α → List (α × α)
  | a :: b :: r => (a, b) :: cons2 (b :: r)
  | _ => []
theorem cons2_snoc {α : Type} (l : List α) (a b : α) : cons2 (l ++ [a, b]) = cons2 (l ++ [a]) ++ [(a, b)] := by
  induction l with
  | nil => rfl
  | cons x t ih =>
    cases t with
    | nil => rfl
    | cons y t => simp only [List.cons_append, cons2] at ih ⊢; rw [ih]
theorem cons2_reverse {α : Type} (l : List α) : cons2 l.reverse = ((cons2 l).map fun p => (p.2, p.1)).reverse := by
  induction l with
  | nil => rfl
  | cons a t ih =>
    cases t with
    | nil => rfl
    | cons b r =>
      have e : (a :: b :: r).reverse = r.reverse ++ [b, a] := by simp
      rw [e, cons2_snoc, show r.reverse ++ [b] = (b :: r).reverse by simp, ih]
      simp [cons2]
theorem cons2_map {α β : Type} (h : α → β) (l : List α) : cons2 (l.map h) = (cons2 l).map fun p => (h p.1, h p.2) := by
  induction l with
  | nil => rfl
  | cons a t ih =>
    cases t with
    | nil => rfl
    | cons b r => simp only [List.map_cons, cons2] at ih ⊢; rw [ih]
theorem cons2_mem {α : Type} (l : List α) : ∀ p ∈ cons2 l, p.1 ∈ l ∧ p.2 ∈ l := by
  induction l with
  | nil => intro p h; cases h
  | cons a t ih =>
    cases t with
    | nil => intro p h; cases h
    | cons b r =>
      intro p h
      simp only [cons2, List.mem_cons] at h
      rcases h with rfl | h
      · simp
      · have := ih p (by simpa [cons2] using h)
        exact ⟨List.mem_cons_of_mem _ this.1, List.mem_cons_of_mem _ this.2⟩

/-- The places from m on where the list goes up or down. -/
def plc (f : Nat → Int) (n m : Nat) : List Nat := (List.range' m (n - m)).filter fun i => f i != 0
def wat2 (f : Nat → Int) (p : Nat × Nat) : Option (Nat × Nat × Bool) := if f p.2 = f p.1 then none else some (p.1, p.2 - 1, f p.1 == 1)

theorem range_step {n m : Nat} (h : m < n) : List.range' m (n - m) = m :: List.range' (m + 1) (n - (m + 1)) := by
  obtain ⟨d, hd⟩ : ∃ d, n - m = d + 1 := ⟨n - m - 1, by omega⟩
  rw [hd, show n - (m + 1) = d by omega]
  rfl
theorem plc_on {f : Nat → Int} {n m : Nat} (h : m < n) (h0 : f m = 0) : plc f n m = plc f n (m + 1) := by
  unfold plc; rw [range_step h, List.filter_cons, if_neg (by simp [h0])]
theorem plc_at {f : Nat → Int} {n m : Nat} (h : m < n) (h0 : ¬ f m = 0) : plc f n m = m :: plc f n (m + 1) := by
  unfold plc; rw [range_step h, List.filter_cons, if_pos (by simp [h0])]
theorem plc_out {f : Nat → Int} {n m : Nat} (h : ¬ m < n) : plc f n m = [] := by
  unfold plc; rw [show n - m = 0 by omega]; rfl

theorem nextS_plc (f : Nat → Int) (n : Nat) : ∀ d m, n - m = d → nextS f n m = (plc f n m).head? := by
  intro d
  induction d with
  | zero => intro m h; rw [nextS_out (by omega), plc_out (by omega)]; rfl
  | succ d ih =>
    intro m h
    by_cases h0 : f m = 0
    · rw [nextS_on (by omega) h0, plc_on (by omega) h0]; exact ih (m + 1) (by omega)
    · rw [nextS_at (by omega) h0, plc_at (by omega) h0]; rfl

theorem wats_from (f : Nat → Int) (n : Nat) : ∀ d m, n - m = d → 0 < m → (List.range' m (n - m)).filterMap (wat f n) = (cons2 (plc f n m)).filterMap (wat2 f) := by
  intro d
  induction d with
  | zero => intro m h _; rw [plc_out (by omega), h]; rfl
  | succ d ih =>
    intro m h hm
    rw [range_step (by omega), List.filterMap_cons]
    by_cases h0 : f m = 0
    · rw [wat_zero h0, plc_on (by omega) h0]; exact ih (m + 1) (by omega) (by omega)
    · have hn := nextS_plc f n d (m + 1) (by omega)
      have hi := ih (m + 1) (by omega) (by omega)
      rw [plc_at (by omega) h0]
      cases hp : plc f n (m + 1) with
      | nil =>
        rw [hp] at hn hi
        rw [wat_out hm h0 hn, hi]; rfl
      | cons k r =>
        rw [hp] at hn hi
        by_cases e : f k = f m
        · rw [wat_same hm h0 hn e, hi]
          simp [cons2, wat2, e]
        · rw [wat_turn hm h0 hn e, hi]
          simp [cons2, wat2, e]

theorem wats_plc (f : Nat → Int) (n : Nat) : wats f n n = (cons2 (plc f n 1)).filterMap (wat2 f) := by
  rw [← wats_from f n (n - 1) 1 rfl (by omega)]
  unfold wats
  cases n with
  | zero => rfl
  | succ n =>
    rw [List.range_eq_range', show n + 1 - 1 = n by omega, List.range'_succ]
    rw [List.filterMap_cons]
    have : wat f (n + 1) 0 = none := by unfold wat; rw [if_pos (.inl rfl)]
    rw [this]

theorem fm_congr {α β : Type} {l : List α} {f g : α → Option β} (h : ∀ x ∈ l, f x = g x) : l.filterMap f = l.filterMap g := by
  induction l with
  | nil => rfl
  | cons a l ih =>
    rw [List.filterMap_cons, List.filterMap_cons, h a (by simp), ih (fun x hx => h x (by simp [hx]))]
/-- Negated: the same waters, tops and bottoms changed about. -/
theorem wats_neg {f g : Nat → Int} {n : Nat} (hf : ∀ i, 0 < i → i < n → f i = -1 ∨ f i = 0 ∨ f i = 1) (hg : ∀ i, 0 < i → i < n → g i = - f i) :
    wats g n n = (wats f n n).map fun p => (p.1, p.2.1, !p.2.2) := by
  have hz : plc g n 1 = plc f n 1 := by
    unfold plc
    apply List.filter_congr
    intro i hi
    simp only [List.mem_range'_1] at hi
    have := hg i (by omega) (by omega)
    rw [this, Bool.eq_iff_iff, bne_iff_ne, bne_iff_ne]
    omega
  rw [wats_plc, wats_plc, hz, List.map_filterMap]
  apply fm_congr
  intro p hp
  obtain ⟨h1, h2⟩ := cons2_mem _ p hp
  simp only [plc, List.mem_filter, List.mem_range'_1, bne_iff_ne] at h1 h2
  have a1 := hf p.1 (by omega) (by omega)
  have a2 := hf p.2 (by omega) (by omega)
  have b1 := hg p.1 (by omega) (by omega)
  have b2 := hg p.2 (by omega) (by omega)
  unfold wat2
  rw [b1, b2]
  by_cases e : f p.2 = f p.1
  · rw [if_pos e, if_pos (by omega)]; rfl
  · rw [if_neg e, if_neg (by omega)]
    simp only [Option.map_some]
    congr 2
    rcases a1 with a | a | a
    · rw [a]; rfl
    · exact absurd a h1.2
    · rw [a]; rfl

theorem range_turn (n : Nat) : ((List.range' 1 (n - 1)).map fun i => n - i).reverse = List.range' 1 (n - 1) := by
  apply List.ext_getElem
  · simp
  · intro i h1 h2
    simp at h1 h2
    simp [List.getElem_reverse]
    omega

theorem plc_round {f g : Nat → Int} {n : Nat} (hg : ∀ i, 0 < i → i < n → g i = - f (n - i)) : plc g n 1 = ((plc f n 1).map fun i => n - i).reverse := by
  unfold plc
  rw [← range_turn n, List.filter_reverse, List.filter_map]
  congr 2
  rw [range_turn n]
  apply List.filter_congr
  intro i hi
  simp only [List.mem_range'_1] at hi
  have h := hg (n - i) (by omega) (by omega)
  rw [show n - (n - i) = i by omega] at h
  show (g (n - i) != 0) = (f i != 0)
  rw [h, Bool.eq_iff_iff, bne_iff_ne, bne_iff_ne]
  omega

/-- Turned round: the same waters, turned round. -/
theorem wats_round {f g : Nat → Int} {n : Nat} (hf : ∀ i, 0 < i → i < n → f i = -1 ∨ f i = 0 ∨ f i = 1) (hg : ∀ i, 0 < i → i < n → g i = - f (n - i)) :
    wats g n n = ((wats f n n).map fun p => (n - 1 - p.2.1, n - 1 - p.1, p.2.2)).reverse := by
  rw [wats_plc, wats_plc, plc_round hg, cons2_reverse, cons2_map, List.filterMap_reverse, List.map_map, List.filterMap_map, List.map_filterMap]
  congr 1
  apply fm_congr
  intro p hp
  obtain ⟨h1, h2⟩ := cons2_mem _ p hp
  simp only [plc, List.mem_filter, List.mem_range'_1, bne_iff_ne] at h1 h2
  have a1 := hf p.1 (by omega) (by omega)
  have a2 := hf p.2 (by omega) (by omega)
  have b1 := hg (n - p.1) (by omega) (by omega)
  have b2 := hg (n - p.2) (by omega) (by omega)
  rw [show n - (n - p.1) = p.1 by omega] at b1
  rw [show n - (n - p.2) = p.2 by omega] at b2
  show wat2 g (n - p.2, n - p.1) = _
  unfold wat2
  simp only [b1, b2]
  by_cases e : f p.2 = f p.1
  · rw [if_pos e, if_pos (by omega)]; rfl
  · rw [if_neg e, if_neg (by omega)]
    simp only [Option.map_some]
    have k1 : n - 1 - (p.2 - 1) = n - p.2 := by omega
    have k2 : n - p.1 - 1 = n - 1 - p.1 := by omega
    have k3 : (-f p.2 == 1) = (f p.1 == 1) := by
      rw [Bool.eq_iff_iff, beq_iff_eq, beq_iff_eq]
      have := h1.2
      have := h2.2
      omega
    rw [k1, k2, k3]
end Go.Proofs.Ytigkfdoeneemeaa
/- Fractions compared: as whole numbers, plain Lean. -/
namespace Go.Proofs.Ytigkfdoeneemeaa

def cmpI (x y : Int) : Int := if x < y then -1 else if y < x then 1 else 0
theorem cmpI_cases (x y : Int) : cmpI x y = -1 ∨ cmpI x y = 0 ∨ cmpI x y = 1 := by
  unfold cmpI; split
  · simp
  · split <;> simp
theorem cmpI_swap (x y : Int) : cmpI y x = - cmpI x y := by
  unfold cmpI
  rcases Int.lt_trichotomy x y with h | h | h
  · rw [if_neg (by omega), if_pos h, if_pos h]; rfl
  · subst h; simp
  · rw [if_pos h, if_neg (by omega), if_pos h]
theorem cmpI_neg (x y : Int) : cmpI (-x) (-y) = - cmpI x y := by
  rw [← cmpI_swap]
  unfold cmpI
  rcases Int.lt_trichotomy x y with h | h | h
  · rw [if_neg (by omega), if_pos (by omega), if_neg (by omega), if_pos h]
  · subst h; simp
  · rw [if_pos (by omega), if_pos h]
theorem cmpN_int (a b : Nat) : W.cmpN a b = cmpI a b := by
  rcases Nat.lt_trichotomy a b with h | h | h
  · rw [W.cmpN_lt h]; unfold cmpI; rw [if_pos (by omega)]
  · subst h; rw [W.cmpN_eq]; unfold cmpI; simp
  · rw [W.cmpN_gt h]; unfold cmpI; rw [if_neg (by omega), if_pos (by omega)]

/-- The sign's whole number over the line. -/
def Fr.p (r : Fr) : Int := if r.neg = true then -(W.val r.num : Int) else (W.val r.num : Int)
theorem Fr.Ok.den_pos {r : Fr} (h : r.Ok) : 0 < W.val r.den := W.val_pos h.nd (by intro e; have := h.d0; rw [e] at this; simp at this)
theorem Fr.Ok.num_pos {r : Fr} (h : r.Ok) (hn : r.neg = true) : 0 < W.val r.num := W.val_pos h.nn (by
  intro e
  have := h.ns (by rw [e]; rfl)
  rw [hn] at this; cases this)
theorem cmpF_is {r s : Fr} (hr : r.Ok) (hs : s.Ok) : cmpF r s = cmpI (r.p * (W.val s.den : Int)) (s.p * (W.val r.den : Int)) := by
  have q1 := hr.den_pos
  have q2 := hs.den_pos
  have n1 := hr.num_pos
  have n2 := hs.num_pos
  unfold cmpF Fr.p
  obtain ⟨rn, rnum, rden⟩ := r
  obtain ⟨sn, snum, sden⟩ := s
  simp only at q1 q2 n1 n2 ⊢
  generalize W.val rnum = a at *
  generalize W.val rden = b at *
  generalize W.val snum = c at *
  generalize W.val sden = d at *
  clear hr hs
  cases rn <;> cases sn
  · rw [if_neg (by simp), if_neg (by simp), if_neg (by simp), if_neg (by simp), if_neg (by simp), cmpN_int, Int.natCast_mul, Int.natCast_mul]
  · rw [if_neg (by simp), if_neg (by simp), if_pos rfl, if_neg (by simp), if_pos rfl]
    have h1 : 0 < c * b := Nat.mul_pos (n2 rfl) q1
    have e1 : -(c : Int) * (b : Int) = -((c * b : Nat) : Int) := by rw [Int.natCast_mul, Int.neg_mul]
    have e2 : (a : Int) * (d : Int) = ((a * d : Nat) : Int) := by rw [Int.natCast_mul]
    rw [e1, e2]
    unfold cmpI
    rw [if_neg (by omega), if_pos (by omega)]
  · rw [if_neg (by simp), if_pos rfl, if_pos rfl, if_neg (by simp)]
    have h1 : 0 < a * d := Nat.mul_pos (n1 rfl) q2
    have e1 : -(a : Int) * (d : Int) = -((a * d : Nat) : Int) := by rw [Int.natCast_mul, Int.neg_mul]
    have e2 : (c : Int) * (b : Int) = ((c * b : Nat) : Int) := by rw [Int.natCast_mul]
    rw [e1, e2]
    unfold cmpI
    rw [if_pos (by omega)]
  · rw [if_pos ⟨rfl, rfl⟩, if_pos rfl, if_pos rfl, cmpN_int]
    have e1 : -(a : Int) * (d : Int) = -((a * d : Nat) : Int) := by rw [Int.natCast_mul, Int.neg_mul]
    have e2 : -(c : Int) * (b : Int) = -((c * b : Nat) : Int) := by rw [Int.natCast_mul, Int.neg_mul]
    rw [e1, e2, cmpI_neg, ← cmpI_swap]
theorem cmpF_cases {r s : Fr} (hr : r.Ok) (hs : s.Ok) : cmpF r s = -1 ∨ cmpF r s = 0 ∨ cmpF r s = 1 := by rw [cmpF_is hr hs]; exact cmpI_cases _ _
theorem cmpF_swap {r s : Fr} (hr : r.Ok) (hs : s.Ok) : cmpF s r = - cmpF r s := by rw [cmpF_is hr hs, cmpF_is hs hr]; exact cmpI_swap _ _
theorem negF_p {r : Fr} (hr : r.Ok) : (negF r).p = - r.p := by
  unfold Fr.p negF
  simp only
  by_cases h0 : r.num.length = 0
  · have hn := hr.ns h0
    have : r.num = [] := List.eq_nil_of_length_eq_zero h0
    rw [hn, this]; simp [W.val]
  · have hp : decide (0 < r.num.length) = true := by simp; omega
    rw [hp, Bool.and_true]
    cases r.neg <;> simp
theorem cmpF_neg {r s : Fr} (hr : r.Ok) (hs : s.Ok) : cmpF (negF r) (negF s) = - cmpF r s := by
  rw [cmpF_is hr hs, cmpF_is (negF_ok hr) (negF_ok hs), negF_p hr, negF_p hs]
  show cmpI (-r.p * (W.val s.den : Int)) (-s.p * (W.val r.den : Int)) = _
  rw [Int.neg_mul, Int.neg_mul, cmpI_neg]
end Go.Proofs.Ytigkfdoeneemeaa
/- The walks of slackwaterref03.Order, Compare. -/
namespace Go.Proofs.Ytigkfdoeneemeaa
open Go.RowKit

def ordV (z : Bool × Nat) : Int := if z.2 = 0 then 0 else if z.1 = true then -1 else 1
theorem ordV_cmp {r s : Fr} (hr : r.Ok) (hs : s.Ok) : ordV (sgnF r.neg (W.val r.num * W.val s.den) (!s.neg) (W.val s.num * W.val r.den)) = cmpF r s := by
  have p1 := hr.den_pos
  have p2 := hs.den_pos
  have n1 := hr.num_pos
  have n2 := hs.num_pos
  have X0 : r.neg = true → 0 < W.val r.num * W.val s.den := fun h => Nat.mul_pos (n1 h) p2
  have Y0 : s.neg = true → 0 < W.val s.num * W.val r.den := fun h => Nat.mul_pos (n2 h) p1
  unfold cmpF
  generalize W.val r.num * W.val s.den = X at *
  generalize W.val s.num * W.val r.den = Y at *
  unfold sgnF ordV W.cmpN
  cases hn : r.neg <;> cases hm : s.neg
  · simp only [Bool.not_false, Bool.false_eq_true, if_false, Bool.false_and, false_and]
    by_cases h1 : X < Y
    · simp only [if_pos h1]
      rw [if_neg (by omega)]; rfl
    · simp only [if_neg h1]
      by_cases h2 : Y < X
      · rw [if_neg (by omega), if_pos h2]; rfl
      · rw [if_pos (by omega), if_neg h2]
  · have := Y0 hm
    simp only [Bool.not_true, if_true, Bool.false_eq_true, if_false, false_and]
    rw [if_neg (by omega)]
  · have := X0 hn
    simp only [Bool.not_false, if_true, Bool.false_eq_true, if_false, and_false]
    rw [if_neg (by omega)]
  · simp only [Bool.not_true, Bool.true_eq_false, if_false, if_true, Bool.true_and, and_self]
    by_cases h1 : X < Y
    · simp [if_pos h1, show ¬ (Y - X = 0) by omega, show ¬ Y < X by omega]
    · simp only [if_neg h1]
      by_cases h2 : Y < X
      · rw [if_neg (by omega), if_pos h2, if_pos (by simp; omega)]
      · rw [if_pos (by omega), if_neg h2]

set_option maxRecDepth 100000 in
set_option maxHeartbeats 4000000 in
theorem refOrder_ok (r s : Fr) (a : Option Addr) (c : Nat) (b : Option Addr) (d : Nat) (a' : Option Addr) (c' : Nat) (b' : Option Addr) (d' : Nat) (w : World) (h : FrA w r a c b d) (k : FrA w s a' c' b' d') (hr : r.Ok) (hs : s.Ok) :
    Calls Try.prog 180 #[frV r a c b d, frV s a' c' b' d'] w fun e w' => e = .returned (.int .i64 (cmpF r s)) ∧ ∃ x, w' = w.ext x := by
  have HO := ordV_cmp hr hs
  obtain ⟨S, hS⟩ : ∃ S : World → Prop, S = fun W => w.heap.size + 1 < W.heap.size ∧ Blw w W ∧ W.cell? ⟨w.heap.size, 0, none⟩ = some (.bool r.neg) ∧ W.cell? ⟨w.heap.size, 1, none⟩ = some (.slice a r.num.length c) ∧ W.cell? ⟨w.heap.size, 2, none⟩ = some (.slice b r.den.length d) ∧
      W.cell? ⟨w.heap.size + 1, 0, none⟩ = some (.bool s.neg) ∧ W.cell? ⟨w.heap.size + 1, 1, none⟩ = some (.slice a' s.num.length c') ∧ W.cell? ⟨w.heap.size + 1, 2, none⟩ = some (.slice b' s.den.length d') := ⟨_, rfl⟩
  have KS : ∀ W W' : World, S W → Blw W W' → S W' := by
    subst hS
    rintro W W' ⟨h1, h2, h3, h4, h5, h6, h7, h8⟩ hb
    exact ⟨Nat.lt_of_lt_of_le h1 hb.size, h2.trans hb, (Below.cell hb (by show w.heap.size < _; omega)).trans h3, (Below.cell hb (by show w.heap.size < _; omega)).trans h4, (Below.cell hb (by show w.heap.size < _; omega)).trans h5, (Below.cell hb h1).trans h6, (Below.cell hb h1).trans h7, (Below.cell hb h1).trans h8⟩
  have SB : ∀ W : World, S W → Blw w W := by
    subst hS
    rintro W ⟨h1, h2, -⟩; exact h2
  have HL := hr.len hs
  have L1 : (W.toW (W.val r.num * W.val s.den)).length ≤ 4096 := Nat.le_trans (times_len_le h.wn k.wd) (by have := hr.ln; have := hs.ld; omega)
  have L2 : (W.toW (W.val s.num * W.val r.den)).length ≤ 4096 := Nat.le_trans (times_len_le k.wn h.wd) (by have := hs.ln; have := hr.ld; omega)
  have T1 := Lib.hid (fun (W : World) (hb : S W) => refTimes3_any a b' r.num s.den c d' W (h.an.blw (SB W hb)) (k.ad.blw (SB W hb)) h.wn k.wd hr.nn hs.nd HL.1)
  have T2 := Lib.hid (fun (W : World) (hb : S W) => refTimes3_any a' b s.num r.den c' d W (k.an.blw (SB W hb)) (h.ad.blw (SB W hb)) k.wn h.wd hs.nn hr.nd HL.2.1)
  obtain ⟨X, hX⟩ : ∃ X, X = W.val r.num * W.val s.den := ⟨_, rfl⟩
  obtain ⟨Y, hY⟩ : ∃ Y, Y = W.val s.num * W.val r.den := ⟨_, rfl⟩
  rw [← hX] at T1 HO L1
  rw [← hY] at T2 HO L2
  have SG := Lib.hid (fun (Wd : World) (p1 : Option Addr) (q1 : Nat) (p2 : Option Addr) (q2 : Nat) (h1 : Arr Wd p1 (u32s (W.toW X))) (h2 : Arr Wd p2 (u32s (W.toW Y))) => refSigned_any r.neg (!s.neg) X Y p1 q1 p2 q2 Wd h1 h2 (Nat.le_trans L1 (by omega)) (Nat.le_trans L2 (by omega)))
  generalize cmpF r s = cv at *
  obtain ⟨rn, rnum, rden⟩ := r
  obtain ⟨sn, snum, sden⟩ := s
  simp only at T1 T2 SG HO
  obtain ⟨⟨zn, Z⟩, hz⟩ : ∃ z, z = sgnF rn X (!sn) Y := ⟨_, rfl⟩
  rw [← hz] at SG HO
  have HC := Lib.hid HO
  have HKS := Lib.hid KS
  have HSB := Lib.hid SB
  clear h k hr hs hX hY HL KS SB L1 L2 HO hz
  simp only at hS
  go_enter Try.func180, Try.ntmps180
  go_wp2_with fail
  have hS0 : S (((w.alloc (.cells #[.bool rn, .slice a rnum.length c, .slice b rden.length d] 88 (0, 0))).alloc (.cells #[.bool sn, .slice a' snum.length c', .slice b' sden.length d'] 88 (0, 0)))).drew := by
    rw [hS]
    exact ⟨by simp, (by repeat (first | exact Blw.refl _ | apply Blw.ext | apply Blw.alloc | apply Blw.drewN | apply Blw.drew | refine Blw.setCell ?_ _ _ (by simp))), by go_simp, by go_simp, by go_simp, by go_simp, by go_simp, by go_simp⟩
  subst hS
  go_region_held3 (fun W => w.heap.size + 1 < W.heap.size ∧ Blw w W ∧ W.cell? ⟨w.heap.size, 0, none⟩ = some (.bool rn) ∧ W.cell? ⟨w.heap.size, 1, none⟩ = some (.slice a rnum.length c) ∧ W.cell? ⟨w.heap.size, 2, none⟩ = some (.slice b rden.length d) ∧
      W.cell? ⟨w.heap.size + 1, 0, none⟩ = some (.bool sn) ∧ W.cell? ⟨w.heap.size + 1, 1, none⟩ = some (.slice a' snum.length c') ∧ W.cell? ⟨w.heap.size + 1, 2, none⟩ = some (.slice b' sden.length d')) (first | assumption | go_keep) (first
    | (go_at_call 195; (with_reducible refine Calls.mono (T1.out _ (by assumption)) ?_); rintro e w9 ⟨p1, q1, y1, rfl, rfl, o1, A1, -⟩; have hS1 := HKS.out _ _ (by assumption) (World.blw_ext _ y1))
    | (go_at_call 195; (with_reducible refine Calls.mono (T2.out _ (by assumption)) ?_); rintro e w9 ⟨p2, q2, y2, rfl, rfl, o2, A2, -⟩; have hS2 := HKS.out _ _ (by assumption) (World.blw_ext _ y2))
    | (go_at_call 194; (with_reducible refine Calls.mono (SG.out _ _ _ _ _ ?_ ?_) ?_); (first | exact A1 | exact A1.ext _); (first | exact A2 | exact A2.ext _); rintro e w9 ⟨p3, q3, rfl, b3, o3⟩; have hS3 := HKS.out _ _ (by assumption) b3; have hB3 := HSB.out _ hS3))
  all_goals
    clear T1 T2 SG HKS HSB hS0 hS1 hS2 hS3 o1 o2 A1 A2 o3 b3
    by_cases hZ : Z = 0
    · subst hZ
      have HV := HC.out
      simp only [ordV, if_pos] at HV
      subst HV
      clear HC
      simp only [W.toW_zero, List.length_nil]
      go_wp2
      go_ret
      exact ⟨rfl, Blw.is hB3⟩
    · have HV := HC.out
      simp only [ordV, if_neg hZ] at HV
      have hl0 : 0 < (W.toW Z).length := List.length_pos_iff.2 (W.toW_ne hZ)
      have d1 : (((W.toW Z).length : Int) == 0) = false := beq_false_of_ne (by omega)
      subst HV
      clear HC hZ
      cases zn
      all_goals
        go_wp2
        go_ret
        exact ⟨rfl, Blw.is hB3⟩

set_option maxHeartbeats 1000000 in
theorem refCompare3_bad (r s : Fr) (a : Option Addr) (c : Nat) (b : Option Addr) (d : Nat) (a' : Option Addr) (c' : Nat) (b' : Option Addr) (d' : Nat) (w : World) (h : FrA w r a c b d) (k : FrA w s a' c' b' d') (hu : ¬ chk2 r s = 0) :
    Calls Try.prog 159 #[frV r a c b d, frV s a' c' b' d'] w fun e w' => e = .returned (.tuple #[.int .i64 0, .int .i64 (chk2 r s)]) ∧ ∃ x, w' = w.ext x := by
  have K1 := fun (W : World) (hb : Blw w W) => refBoth3_any r s a c b d a' c' b' d' W (h.blw hb) (k.blw hb)
  generalize chk2 r s = u at *
  have H1 := Lib.hid K1
  have q : (u != 0) = true := by simpa using hu
  clear K1 h k
  go_enter Try.func159, Try.ntmps159
  go_wp2_with fail
  refine Calls.mono (H1.out _ (by repeat (first | exact Blw.refl _ | apply Blw.ext | apply Blw.alloc | apply Blw.drewN | apply Blw.drew | refine Blw.setCell ?_ _ _ (by simp)))) ?_
  rintro e w1 ⟨rfl, x1, rfl⟩
  go_wp2
  go_ret2
  exact ⟨rfl, Blw.is (by repeat (first | exact Blw.refl _ | apply Blw.ext | apply Blw.alloc | apply Blw.drewN | apply Blw.drew | refine Blw.setCell ?_ _ _ (by simp)))⟩
set_option maxHeartbeats 1000000 in
theorem refCompare3_ok (r s : Fr) (a : Option Addr) (c : Nat) (b : Option Addr) (d : Nat) (a' : Option Addr) (c' : Nat) (b' : Option Addr) (d' : Nat) (w : World) (h : FrA w r a c b d) (k : FrA w s a' c' b' d') (hr : r.Ok) (hs : s.Ok) :
    Calls Try.prog 159 #[frV r a c b d, frV s a' c' b' d'] w fun e w' => e = .returned (.tuple #[.int .i64 (cmpF r s), .int .i64 0]) ∧ ∃ x, w' = w.ext x := by
  have K1 := fun (W : World) (hb : Blw w W) => refBoth3_any r s a c b d a' c' b' d' W (h.blw hb) (k.blw hb)
  rw [show chk2 r s = 0 by unfold chk2; rw [chkF_ok hr, if_pos rfl, chkF_ok hs]] at K1
  have H1 := Lib.hid K1
  have H2 := Lib.hid (fun (W : World) (hb : Blw w W) => refOrder_ok r s a c b d a' c' b' d' W (h.blw hb) (k.blw hb) hr hs)
  generalize cmpF r s = cv at *
  clear K1 h k
  go_enter Try.func159, Try.ntmps159
  go_wp2_with fail
  refine Calls.mono (H1.out _ (by repeat (first | exact Blw.refl _ | apply Blw.ext | apply Blw.alloc | apply Blw.drewN | apply Blw.drew | refine Blw.setCell ?_ _ _ (by simp)))) ?_
  rintro e w1 ⟨rfl, x1, rfl⟩
  go_wp2_with fail
  refine Calls.mono (H2.out _ (by repeat (first | exact Blw.refl _ | apply Blw.ext | apply Blw.alloc | apply Blw.drewN | apply Blw.drew | refine Blw.setCell ?_ _ _ (by simp)))) ?_
  rintro e w1 ⟨rfl, x2, rfl⟩
  go_wp2
  go_ret2
  exact ⟨rfl, Blw.is (by repeat (first | exact Blw.refl _ | apply Blw.ext | apply Blw.alloc | apply Blw.drewN | apply Blw.drew | refine Blw.setCell ?_ _ _ (by simp)))⟩
end Go.Proofs.Ytigkfdoeneemeaa
/- The walk of water.wrong. -/
namespace Go.Proofs.Ytigkfdoeneemeaa
open Go.RowKit

def wrongN (x : WL) : Int := if x.tick < 0 then 2 else if 1048576 < x.last then 2 else if x.last < x.tick then 2 else chkF x.h.r
def wrongS (a x : WL) : Int :=
  if x.tick < 0 then 2 else if 1048576 < x.last then 2 else if x.last < x.tick then 2 else if x.tick ≤ a.last then 2 else if chkF x.h.r ≠ 0 then chkF x.h.r else if x.top = a.top then 2 else if cmpF x.h.r a.h.r = (if x.top then 1 else -1) then 0 else 2
abbrev wlV (x : WL) : Value := .agg #[.int .i64 x.tick, .int .i64 x.last, .bool x.top, .bool x.h.r.neg, .slice x.h.a x.h.r.num.length x.h.c, .slice x.h.b x.h.r.den.length x.h.d]

theorem dlt {a b : Int} (h : a < b) : decide (a < b) = true := by simpa using h
theorem dge {a b : Int} (h : ¬ a < b) : decide (a < b) = false := by simpa using h
theorem dle {a b : Int} (h : a ≤ b) : decide (a ≤ b) = true := by simpa using h
theorem dgt {a b : Int} (h : ¬ a ≤ b) : decide (a ≤ b) = false := by simpa using h

theorem bneI {a b : Int} (h : ¬ a = b) : (a != b) = true := by simpa using h
set_option maxRecDepth 100000 in
set_option maxHeartbeats 4000000 in
theorem wrong_none (x : WL) (w : World) (hx : FL.In w x.h) :
    Calls Try.prog 123 #[.pointer none, wlV x] w fun e w' => e = .returned (.int .i64 (wrongN x)) ∧ ∃ y, w' = w.ext y := by
  have he : wrongN x = if x.tick < 0 then 2 else if 1048576 < x.last then 2 else if x.last < x.tick then 2 else chkF x.h.r := rfl
  have CK := Lib.hid (fun (W : World) (hb : Blw w W) => ratioCheck_any x.h.r x.h.a x.h.c x.h.b x.h.d W (hx.blw hb))
  clear hx
  obtain ⟨t, la, tp, ⟨⟨rn, rnum, rden⟩, ra, rc, rb, rd⟩⟩ := x
  simp only at he CK
  generalize wrongN _ = res at *
  generalize chkF _ = u at *
  have HE := Lib.hid he
  clear he
  go_enter Try.func123, Try.ntmps123
  go_wp2_with fail
  by_cases h1 : t < 0
  · have d1 := dlt h1
    have HE1 := Lib.hid (HE.out.trans (if_pos h1))
    clear h1 HE
    go_quiet (fail)
    go_wp2
    go_ret
    exact ⟨ret_i64 HE1.out.symm, Blw.is (by repeat (first | exact Blw.refl _ | apply Blw.ext | apply Blw.alloc | apply Blw.drewN | apply Blw.drew | refine Blw.setCell ?_ _ _ (by simp)))⟩
  have d1 := dge h1
  replace HE := Lib.hid (HE.out.trans (if_neg h1))
  clear h1
  by_cases h2 : 1048576 < la
  · have d2 := dlt h2
    have HE1 := Lib.hid (HE.out.trans (if_pos h2))
    clear h2 HE
    go_quiet (fail)
    go_wp2
    go_ret
    exact ⟨ret_i64 HE1.out.symm, Blw.is (by repeat (first | exact Blw.refl _ | apply Blw.ext | apply Blw.alloc | apply Blw.drewN | apply Blw.drew | refine Blw.setCell ?_ _ _ (by simp)))⟩
  have d2 := dge h2
  replace HE := Lib.hid (HE.out.trans (if_neg h2))
  clear h2
  by_cases h3 : la < t
  · have d3 := dlt h3
    have HE1 := Lib.hid (HE.out.trans (if_pos h3))
    clear h3 HE
    go_quiet (fail)
    go_wp2
    go_ret
    exact ⟨ret_i64 HE1.out.symm, Blw.is (by repeat (first | exact Blw.refl _ | apply Blw.ext | apply Blw.alloc | apply Blw.drewN | apply Blw.drew | refine Blw.setCell ?_ _ _ (by simp)))⟩
  have d3 := dge h3
  replace HE := Lib.hid (HE.out.trans (if_neg h3))
  clear h3
  go_quiet (fail)
  go_wp2_with fail
  refine Calls.mono (CK.out _ (by repeat (first | exact Blw.refl _ | apply Blw.ext | apply Blw.alloc | apply Blw.drewN | apply Blw.drew | refine Blw.setCell ?_ _ _ (by simp)))) ?_
  rintro e w1 ⟨rfl, x1, rfl⟩
  clear CK
  by_cases hu : u = 0
  · subst hu
    go_wp2
    go_ret
    exact ⟨ret_i64 HE.out.symm, Blw.is (by repeat (first | exact Blw.refl _ | apply Blw.ext | apply Blw.alloc | apply Blw.drewN | apply Blw.drew | refine Blw.setCell ?_ _ _ (by simp)))⟩
  · have q : (u != 0) = true := by simpa using hu
    clear hu
    go_wp2
    go_ret
    exact ⟨ret_i64 HE.out.symm, Blw.is (by repeat (first | exact Blw.refl _ | apply Blw.ext | apply Blw.alloc | apply Blw.drewN | apply Blw.drew | refine Blw.setCell ?_ _ _ (by simp)))⟩
set_option maxRecDepth 100000 in
set_option maxHeartbeats 4000000 in
theorem wrong_some (y x : WL) (g o : Nat) (w : World) (hx : FL.In w x.h) (hy : FL.In w y.h) (oy : y.h.r.Ok) (hg : g < w.heap.size) (c1 : w.cell? ⟨g, o + 1, none⟩ = some (.int .i64 y.last)) (c2 : w.cell? ⟨g, o + 2, none⟩ = some (.bool y.top)) (c3 : w.cell? ⟨g, o + 3, none⟩ = some (.bool y.h.r.neg)) (c4 : w.cell? ⟨g, o + 4, none⟩ = some (.slice y.h.a y.h.r.num.length y.h.c)) (c5 : w.cell? ⟨g, o + 5, none⟩ = some (.slice y.h.b y.h.r.den.length y.h.d)) :
    Calls Try.prog 123 #[.pointer (some ⟨g, o, none⟩), wlV x] w fun e w' => e = .returned (.int .i64 (wrongS y x)) ∧ ∃ y, w' = w.ext y := by
  have he : wrongS y x = if x.tick < 0 then 2 else if 1048576 < x.last then 2 else if x.last < x.tick then 2 else if x.tick ≤ y.last then 2 else if chkF x.h.r ≠ 0 then chkF x.h.r else if x.top = y.top then 2 else if cmpF x.h.r y.h.r = (if x.top then 1 else -1) then 0 else 2 := rfl
  have FR := Lib.hid (fun (hu : chkF x.h.r = 0) (W : World) (hb : Blw w W) => from_ok y.h x.h W (hy.blw hb) (hx.blw hb) oy (ok_chkF hu))
  clear hy oy
  have CK := Lib.hid (fun (W : World) (hb : Blw w W) => ratioCheck_any x.h.r x.h.a x.h.c x.h.b x.h.d W (hx.blw hb))
  clear hx
  obtain ⟨t, la, tp, ⟨⟨rn, rnum, rden⟩, ra, rc, rb, rd⟩⟩ := x
  obtain ⟨yt, yl, yp, ⟨⟨yn, ynum, yden⟩, ya, yc, yb, yd⟩⟩ := y
  simp only at he CK FR c1 c2 c3 c4 c5
  generalize wrongS _ _ = res at *
  generalize chkF _ = u at *
  generalize cmpF _ _ = cm at *
  have HE := Lib.hid he
  clear he
  go_enter Try.func123, Try.ntmps123
  go_wp2_with fail
  by_cases h1 : t < 0
  · have d1 := dlt h1
    have HE1 := Lib.hid (HE.out.trans (if_pos h1))
    clear h1 HE
    go_quiet (fail)
    go_wp2
    go_ret
    exact ⟨ret_i64 HE1.out.symm, Blw.is (by repeat (first | exact Blw.refl _ | apply Blw.ext | apply Blw.alloc | apply Blw.drewN | apply Blw.drew | refine Blw.setCell ?_ _ _ (by simp)))⟩
  have d1 := dge h1
  replace HE := Lib.hid (HE.out.trans (if_neg h1))
  clear h1
  by_cases h2 : 1048576 < la
  · have d2 := dlt h2
    have HE1 := Lib.hid (HE.out.trans (if_pos h2))
    clear h2 HE
    go_quiet (fail)
    go_wp2
    go_ret
    exact ⟨ret_i64 HE1.out.symm, Blw.is (by repeat (first | exact Blw.refl _ | apply Blw.ext | apply Blw.alloc | apply Blw.drewN | apply Blw.drew | refine Blw.setCell ?_ _ _ (by simp)))⟩
  have d2 := dge h2
  replace HE := Lib.hid (HE.out.trans (if_neg h2))
  clear h2
  by_cases h3 : la < t
  · have d3 := dlt h3
    have HE1 := Lib.hid (HE.out.trans (if_pos h3))
    clear h3 HE
    go_quiet (fail)
    go_wp2
    go_ret
    exact ⟨ret_i64 HE1.out.symm, Blw.is (by repeat (first | exact Blw.refl _ | apply Blw.ext | apply Blw.alloc | apply Blw.drewN | apply Blw.drew | refine Blw.setCell ?_ _ _ (by simp)))⟩
  have d3 := dge h3
  replace HE := Lib.hid (HE.out.trans (if_neg h3))
  clear h3
  by_cases h4 : t ≤ yl
  · have d4 := dle h4
    have HE1 := Lib.hid (HE.out.trans (if_pos h4))
    clear h4 HE
    go_quiet (fail)
    go_wp2
    go_ret
    exact ⟨ret_i64 HE1.out.symm, Blw.is (by repeat (first | exact Blw.refl _ | apply Blw.ext | apply Blw.alloc | apply Blw.drewN | apply Blw.drew | refine Blw.setCell ?_ _ _ (by simp)))⟩
  have d4 := dgt h4
  replace HE := Lib.hid (HE.out.trans (if_neg h4))
  clear h4
  go_quiet (fail)
  go_wp2_with fail
  refine Calls.mono (CK.out _ (by repeat (first | exact Blw.refl _ | apply Blw.ext | apply Blw.alloc | apply Blw.drewN | apply Blw.drew | refine Blw.setCell ?_ _ _ (by simp)))) ?_
  rintro e W ⟨rfl, x1, hWe⟩
  have hbW : Blw (w.alloc (.cells #[.int .i64 t, .int .i64 la, .bool tp, .bool rn, .slice ra rnum.length rc, .slice rb rden.length rd] 90)) W := by rw [hWe]; exact (by repeat (first | exact Blw.refl _ | apply Blw.ext | apply Blw.alloc | apply Blw.drewN | apply Blw.drew | refine Blw.setCell ?_ _ _ (by simp)))
  clear CK hWe
  obtain ⟨hsW, b0, b1, b2, b3, b4, b5⟩ := box6 hbW
  replace hbW := ((Blw.refl w).alloc _).trans hbW
  replace c1 := (Below.cell hbW hg).trans c1
  replace c2 := (Below.cell hbW hg).trans c2
  replace c3 := (Below.cell hbW hg).trans c3
  replace c4 := (Below.cell hbW hg).trans c4
  replace c5 := (Below.cell hbW hg).trans c5
  replace hg := Nat.lt_of_lt_of_le hg hbW.size
  by_cases hu : u = 0
  · have FR1 := Lib.hid (FR.out hu)
    have HE1 := Lib.hid (HE.out.trans (if_neg (by simpa using hu)))
    subst hu
    clear FR HE
    by_cases h5 : tp = yp
    · have HE2 := Lib.hid (HE1.out.trans (if_pos h5))
      subst h5
      clear HE1 FR1
      cases tp
      all_goals
        go_wp2_with fail
        go_quiet (fail)
        go_wp2
        go_ret
        exact ⟨ret_i64 HE2.out.symm, Blw.is (hbW.trans (by repeat (first | exact Blw.refl _ | apply Blw.ext | apply Blw.alloc | apply Blw.drewN | apply Blw.drew | refine Blw.setCell ?_ _ _ (by simp))))⟩
    · have HE2 := Lib.hid (HE1.out.trans (if_neg h5))
      clear HE1
      have h6 : yp = !tp := by cases tp <;> cases yp <;> simp_all
      subst h6
      clear h5
      by_cases h7 : cm = (if tp = true then 1 else -1)
      · have HE3 := Lib.hid (HE2.out.trans (if_pos h7))
        clear HE2
        cases tp
        all_goals
          simp only [Bool.false_eq_true, if_true, if_false] at h7
          simp only [Bool.not_false, Bool.not_true] at c2
          subst h7
          go_wp2_with fail
          refine wp_region_ext_lit (by kernel_rfl) (by kernel_rfl) ?_
          repeat (quiet_step ((go_at_call 128; (with_reducible exact Calls.ext_of (FR1.out _ (hbW.trans (by repeat (first | exact Blw.refl _ | apply Blw.ext | apply Blw.alloc | apply Blw.drewN | apply Blw.drew | refine Blw.setCell ?_ _ _ (by simp)))))))))
          refine wpQuiet_nil ?_
          rintro _ ⟨z, rfl⟩
          go_wp2
          go_ret
          exact ⟨ret_i64 HE3.out.symm, Blw.is (hbW.trans (by repeat (first | exact Blw.refl _ | apply Blw.ext | apply Blw.alloc | apply Blw.drewN | apply Blw.drew | refine Blw.setCell ?_ _ _ (by simp))))⟩
      · have HE3 := Lib.hid (HE2.out.trans (if_neg h7))
        clear HE2
        cases tp
        all_goals
          simp only [Bool.false_eq_true, if_true, if_false] at h7
          simp only [Bool.not_false, Bool.not_true] at c2
          have q := bneI h7
          clear h7
          go_wp2_with fail
          refine wp_region_ext_lit (by kernel_rfl) (by kernel_rfl) ?_
          repeat (quiet_step ((go_at_call 128; (with_reducible exact Calls.ext_of (FR1.out _ (hbW.trans (by repeat (first | exact Blw.refl _ | apply Blw.ext | apply Blw.alloc | apply Blw.drewN | apply Blw.drew | refine Blw.setCell ?_ _ _ (by simp)))))))))
          refine wpQuiet_nil ?_
          rintro _ ⟨z, rfl⟩
          go_wp2
          go_ret
          exact ⟨ret_i64 HE3.out.symm, Blw.is (hbW.trans (by repeat (first | exact Blw.refl _ | apply Blw.ext | apply Blw.alloc | apply Blw.drewN | apply Blw.drew | refine Blw.setCell ?_ _ _ (by simp))))⟩
  · have q : (u != 0) = true := by simpa using hu
    have HE1 := Lib.hid (HE.out.trans (if_pos hu))
    clear hu FR HE
    go_wp2
    go_ret
    exact ⟨ret_i64 HE1.out.symm, Blw.is hbW⟩
end Go.Proofs.Ytigkfdoeneemeaa
/- The walk of water.Check. -/
namespace Go.Proofs.Ytigkfdoeneemeaa
open Go.RowKit

def chkAt (l : List WL) (i : Nat) : Int :=
  match l[i]? with
  | none => 0
  | some x => if i = 0 then wrongN x else match l[i - 1]? with
    | none => 0
    | some y => wrongS y x
/-- The first of some places at which something is wrong. -/
def firstBad (f : Nat → Int) : Nat → Nat → Option Nat
  | _, 0 => none
  | i, n + 1 => if f i = 0 then firstBad f (i + 1) n else some i
def checkW (l : List WL) : Int × Int :=
  if 4096 < l.length then (3, -1) else match firstBad (chkAt l) 0 l.length with
    | none => (0, 0)
    | some i => (chkAt l i, i)
theorem firstBad_on {f : Nat → Int} {i n : Nat} (h : f i = 0) : firstBad f i (n + 1) = firstBad f (i + 1) n := by rw [firstBad, if_pos h]
theorem firstBad_at {f : Nat → Int} {i n : Nat} (h : ¬ f i = 0) : firstBad f i (n + 1) = some i := by rw [firstBad, if_neg h]
theorem wrongN_chk {x : WL} (h : wrongN x = 0) : chkF x.h.r = 0 := by
  unfold wrongN at h
  repeat (split at h; (cases h))
  exact h
theorem wrongS_chk {y x : WL} (h : wrongS y x = 0) : chkF x.h.r = 0 := by
  unfold wrongS at h
  repeat (split at h; (cases h))
  split at h
  · rename_i h1; exact absurd h h1
  · rename_i h1; simpa using h1
theorem chkAt_chk {l : List WL} {i : Nat} {x : WL} (hx : l[i]? = some x) (h : chkAt l i = 0) : chkF x.h.r = 0 := by
  unfold chkAt at h
  rw [hx] at h
  simp only at h
  split at h
  · exact wrongN_chk h
  · rename_i h0
    obtain ⟨hi, -⟩ := List.getElem?_eq_some_iff.1 hx
    rw [List.getElem?_eq_getElem (show i - 1 < l.length by omega)] at h
    exact wrongS_chk h

/-- A block of two cells, written anew. -/
theorem pairC {w : World} {g : Nat} {v0 v1 : Value} {t : TypeId} (h : w.heap[g]? = some (.cells #[v0, v1] t (0, 0))) (u0 u1 : Value) :
    (∀ i, w.frozen? ⟨g, i, none⟩ = false) ∧ w.cell? ⟨g, 0, none⟩ = some v0 ∧ w.cell? ⟨g, 1, none⟩ = some v1 ∧ (w.setCell ⟨g, 0, none⟩ u0).cell? ⟨g, 0, none⟩ = some u0 ∧ ((w.setCell ⟨g, 0, none⟩ u0).setCell ⟨g, 1, none⟩ u1).cell? ⟨g, 1, none⟩ = some u1 :=
  ⟨fun i => frozen_of_row w g i _ _ h, (cell_of_row w g 0 _ _ _ h).trans rfl, (cell_of_row w g 1 _ _ _ h).trans rfl, (cell_of_row _ g 0 _ _ _ (at_set 0 u0 h)).trans (by simp), (cell_of_row _ g 1 _ _ _ (at_set 1 u1 (at_set 0 u0 h))).trans (by simp)⟩

set_option maxRecDepth 100000 in
set_option maxHeartbeats 4000000 in
theorem waterCheck_any (A : Option Addr) (l : List WL) (cap : Nat) (w : World) (hA : Arr w A (wls l)) (hin : ∀ x ∈ l, FL.In w x.h) (hl : l.length ≤ 9223372036854775807) :
    Calls Try.prog 71 #[.slice A l.length cap] w fun e w' => e = .returned (.agg #[.int .i64 (checkW l).1, .int .i64 (checkW l).2]) ∧ ∃ x, w' = w.ext x := by
  have hR0 : (w.alloc (.cells #[.int .i64 0, .int .i64 0] 36)).heap[w.heap.size]? = some (.cells #[.int .i64 0, .int .i64 0] 36 (0, 0)) := heap_alloc_new _ _
  by_cases h0 : 4096 < l.length
  · have d1 : decide ((4096 : Int) < (l.length : Int)) = true := by simp; omega
    have HE := Lib.hid (show checkW l = (3, -1) from if_pos h0)
    obtain ⟨hfz, e0, e1, r0, r1⟩ := pairC hR0 (.int .i64 3) (.int .i64 (-1))
    clear hR0 h0
    go_enter Try.func71, Try.ntmps71
    go_wp2
    exact bodyPost_ret (v := .agg #[.int .i64 3, .int .i64 (-1)]) (by simp [results, Try.results71, go_sem, r0, r1]) rfl ⟨by rw [HE.out], Blw.is (by repeat (first | exact Blw.refl _ | apply Blw.ext | apply Blw.alloc | apply Blw.drewN | apply Blw.drew | refine Blw.setCell ?_ _ _ (by simp)))⟩
  have d1 : decide ((4096 : Int) < (l.length : Int)) = false := by simp; omega
  have he : checkW l = match firstBad (chkAt l) 0 l.length with | none => (0, 0) | some i => (chkAt l i, i) := if_neg h0
  have HE := Lib.hid he
  have HIN := Lib.hid hin
  have hl4 : l.length ≤ 4096 := by omega
  clear he hin h0 hl
  go_enter Try.func71, Try.ntmps71
  go_wp2
  clear d1
  go_loopw [3, 12] (fun v3 vi wr => ∃ k : Nat, k ≤ l.length ∧ vi = .int .i64 k ∧ ((k = 0 ∧ v3 = .pointer none) ∨ (∃ (m : Nat) (b o : Nat), k = m + 1 ∧ A = some ⟨b, o, none⟩ ∧ v3 = .pointer (some ⟨b, o + m * 6, none⟩) ∧ Hid (chkAt l m = 0))) ∧ Hid (firstBad (chkAt l) 0 l.length = firstBad (chkAt l) k (l.length - k)) ∧ Blw w wr ∧ wr.heap[w.heap.size]? = some (.cells #[.int .i64 0, .int .i64 0] 36 (0, 0))) (fun _ i _ => l.length - (intOf i).toNat)
  case atStart => exact ⟨0, Nat.zero_le _, rfl, .inl ⟨rfl, rfl⟩, rfl, (by repeat (first | exact Blw.refl _ | apply Blw.ext | apply Blw.alloc | apply Blw.drewN | apply Blw.drew | refine Blw.setCell ?_ _ _ (by simp))), hR0⟩
  case round =>
    obtain ⟨k, hk, rfl, hah, hfb, hb, hR⟩ := hrel
    clear hR0
    by_cases hlt : k < l.length
    · obtain ⟨x, b, o, hgx, hmx, e1, hbs, c0, c1, c2, c3, c4, c5⟩ := wl_at (hA.blw hb) hlt
      have hxin := (HIN.out x hmx).blw hb
      have hlk : l.length - k = l.length - (k + 1) + 1 := by omega
      rw [hlk] at hfb
      have key : (chkAt l k = 0 → firstBad (chkAt l) 0 l.length = firstBad (chkAt l) (k + 1) (l.length - (k + 1))) ∧ (¬ chkAt l k = 0 → checkW l = (chkAt l k, (k : Int))) := by
        constructor
        · intro h; rw [hfb.out, firstBad_on h]
        · intro h; rw [HE.out, hfb.out, firstBad_at h]
      have HK := Lib.hid key
      clear key hfb hlk hmx
      have hwr : ∃ u, chkAt l k = u ∧ (∀ W : World, Blw wr W → Calls Try.prog 123 #[u3, wlV x] W fun e w' => e = .returned (.int .i64 u) ∧ ∃ y, w' = W.ext y) := by
        rcases hah with ⟨rfl, rfl⟩ | ⟨m, b', o', rfl, e2, rfl, hm⟩
        · exact ⟨wrongN x, by unfold chkAt; rw [hgx]; rfl, fun W hW => wrong_none x W (hxin.blw hW)⟩
        · obtain ⟨y, b2, o2, hgy, hmy, e3, hbs2, -, f1, f2, f3, f4, f5⟩ := wl_at (hA.blw hb) (show m < l.length by omega)
          rw [e2] at e3
          simp only [Option.some.injEq, Addr.mk.injEq] at e3
          obtain ⟨rfl, rfl, -⟩ := e3
          refine ⟨wrongS y x, ?_, fun W hW => wrong_some y x _ _ W (hxin.blw hW) (((HIN.out y hmy).blw hb).blw hW) (ok_chkF (chkAt_chk hgy hm.out)) (Nat.lt_of_lt_of_le hbs2 hW.size) ((Below.cell hW hbs2).trans f1) ((Below.cell hW hbs2).trans f2) ((Below.cell hW hbs2).trans f3) ((Below.cell hW hbs2).trans f4) ((Below.cell hW hbs2).trans f5)⟩
          unfold chkAt
          rw [hgx]
          simp only [Nat.add_one_ne_zero, if_false, Nat.add_sub_cancel]
          rw [hgy]
      obtain ⟨u, hu, hw⟩ := hwr
      subst e1
      have HW := Lib.hid hw
      have HU := Lib.hid hu
      clear hw hu hah hxin hgx
      go_wp2_with fail
      refine Calls.mono (HW.out _ (by repeat (first | exact Blw.refl _ | apply Blw.ext | apply Blw.alloc | apply Blw.drewN | apply Blw.drew | refine Blw.setCell ?_ _ _ (by simp)))) ?_
      rintro e w1 ⟨rfl, x1, rfl⟩
      clear HW
      by_cases hz : u = 0
      · have HF := Lib.hid (HK.out.1 (HU.out.trans hz))
        have HZ := Lib.hid (HU.out.trans hz)
        subst hz
        clear HK HU
        go_wp2
        go_roundw
        case rel => exact ⟨k + 1, by omega, by go_num, .inr ⟨k, _, _, rfl, rfl, rfl, HZ⟩, HF, hb.trans (by repeat (first | exact Blw.refl _ | apply Blw.ext | apply Blw.alloc | apply Blw.drewN | apply Blw.drew | refine Blw.setCell ?_ _ _ (by simp))), at_ext _ hR⟩
        case measure => simp [intOf]; omega
      · have q : (u != 0) = true := by simpa using hz
        have HF := Lib.hid (HK.out.2 (fun e => hz (HU.out.symm.trans e)))
        have HF2 := Lib.hid (HF.out.trans (by rw [HU.out]))
        obtain ⟨hfz, e0, e1, r0, r1⟩ := pairC (at_ext x1 hR) (.int .i64 u) (.int .i64 k)
        clear HK HU HF hz hR
        go_wp2
        exact bodyPost_ret (v := .agg #[.int .i64 u, .int .i64 k]) (by simp [results, Try.results71, go_sem, r0, r1]) rfl ⟨by rw [HF2.out], Blw.is (((hb.ext x1).setCell _ _ (Nat.le_refl _)).setCell _ _ (Nat.le_refl _))⟩
    · have hkl : k = l.length := by omega
      subst hkl
      have HF : Hid (checkW l = (0, 0)) := by
        show _ = _
        rw [HE.out, hfb.out, Nat.sub_self]; rfl
      obtain ⟨hfz, e0, e1, r0, r1⟩ := pairC hR (.int .i64 0) (.int .i64 0)
      clear hR hfb hah hlt
      go_wp2
      exact bodyPost_ret (v := .agg #[.int .i64 0, .int .i64 0]) (by simp [results, Try.results71, go_sem, r0, r1]) rfl ⟨by rw [HF.out], Blw.is ((hb.setCell _ _ (Nat.le_refl _)).setCell _ _ (Nat.le_refl _))⟩
end Go.Proofs.Ytigkfdoeneemeaa
/- The walks of water.farthest, Highest, Lowest. -/
namespace Go.Proofs.Ytigkfdoeneemeaa
open Go.RowKit

theorem firstBad_none {f : Nat → Int} : ∀ n i, firstBad f i n = none → ∀ j, i ≤ j → j < i + n → f j = 0 := by
  intro n
  induction n with
  | zero => intro i _ j h1 h2; omega
  | succ n ih =>
    intro i h j h1 h2
    by_cases h0 : f i = 0
    · rw [firstBad_on h0] at h
      by_cases hj : j = i
      · rw [hj]; exact h0
      · exact ih (i + 1) h j (by omega) (by omega)
    · rw [firstBad_at h0] at h; cases h
theorem checkW_ok {l : List WL} (h : checkW l = (0, 0)) : l.length ≤ 4096 ∧ (∀ i, i < l.length → chkAt l i = 0) ∧ ∀ x ∈ l, x.h.r.Ok := by
  unfold checkW at h
  split at h
  · cases h
  · rename_i h0
    have hall : ∀ i, i < l.length → chkAt l i = 0 := by
      split at h
      · rename_i hn
        intro i hi
        exact firstBad_none _ _ hn i (Nat.zero_le _) (by omega)
      · rename_i i hi
        exfalso
        have : ∀ n j, firstBad (chkAt l) j n = some i → ¬ chkAt l i = 0 := by
          intro n
          induction n with
          | zero => intro j h; simp [firstBad] at h
          | succ n ih =>
            intro j h
            by_cases hj : chkAt l j = 0
            · rw [firstBad_on hj] at h; exact ih _ h
            · rw [firstBad_at hj] at h; cases h; exact hj
        exact this _ _ hi (Prod.mk.inj h).1
    refine ⟨by omega, hall, fun x hx => ?_⟩
    obtain ⟨i, hi, rfl⟩ := List.getElem_of_mem hx
    exact ok_chkF (chkAt_chk (List.getElem?_eq_getElem hi) (hall i hi))

def rgW (l : List WL) (b : Nat) : Fr := match l[b]? with
  | none => ⟨false, [], []⟩
  | some x => x.h.r
/-- The place of the first top, or bottom, that is the farthest that way, among the first ones. -/
def farS (l : List WL) (top : Bool) (to : Int) : Nat → Option Nat
  | 0 => none
  | k + 1 => match l[k]? with
    | none => farS l top to k
    | some x => if x.top = top then (match farS l top to k with
      | none => some k
      | some b => if cmpF x.h.r (rgW l b) = to then some k else some b) else farS l top to k
theorem farS_lt {l : List WL} {top : Bool} {to : Int} : ∀ k b, farS l top to k = some b → b < k ∧ b < l.length := by
  intro k
  induction k with
  | zero => intro b h; simp [farS] at h
  | succ k ih =>
    intro b h
    unfold farS at h
    split at h
    · have := ih b h; omega
    · rename_i x hx
      have hk := (List.getElem?_eq_some_iff.1 hx).1
      split at h
      · split at h
        · cases h; omega
        · rename_i b' hb'
          split at h
          · cases h; omega
          · cases h; have := ih _ hb'; omega
      · have := ih b h; omega
def farW (l : List WL) (top : Bool) (to : Int) : Nat × Bool := if checkW l = (0, 0) then ((farS l top to l.length).getD 0, (farS l top to l.length).isSome) else (0, false)

set_option maxRecDepth 100000 in
set_option maxHeartbeats 4000000 in
theorem farthest_any (A : Option Addr) (l : List WL) (cap : Nat) (top : Bool) (to : Int) (w : World) (hA : Arr w A (wls l)) (hin : ∀ x ∈ l, FL.In w x.h) (hl : l.length ≤ 9223372036854775807) :
    Calls Try.prog 121 #[.slice A l.length cap, .bool top, .int .i64 to] w fun e w' => e = .returned (.tuple #[.int .i64 (farW l top to).1, .bool (farW l top to).2]) ∧ ∃ x, w' = w.ext x := by
  have CK := waterCheck_any A l cap w hA hin hl
  by_cases h0 : checkW l = (0, 0)
  · have HE := Lib.hid (show farW l top to = ((farS l top to l.length).getD 0, (farS l top to l.length).isSome) from if_pos h0)
    rw [h0] at CK
    obtain ⟨hl4, -, hok⟩ := checkW_ok h0
    have HOK := Lib.hid hok
    have HIN := Lib.hid hin
    have HCK := Lib.hid CK
    clear CK h0 hok hin hl
    go_enter Try.func121, Try.ntmps121
    go_wp2_with fail
    refine Calls.mono HCK.out ?_
    rintro e w1 ⟨rfl, x1, rfl⟩
    clear HCK
    go_wp2
    go_loopw [8, 9, 18] (fun v8 v9 vi wr => ∃ k : Nat, k ≤ l.length ∧ vi = .int .i64 k ∧ v8 = .int .i64 ((farS l top to k).getD 0 : Nat) ∧ v9 = .bool (farS l top to k).isSome ∧ Blw w wr) (fun _ _ i _ => l.length - (intOf i).toNat)
    case atStart => exact ⟨0, Nat.zero_le _, rfl, rfl, rfl, (by repeat (first | exact Blw.refl _ | apply Blw.ext | apply Blw.alloc | apply Blw.drewN | apply Blw.drew | refine Blw.setCell ?_ _ _ (by simp)))⟩
    case round =>
      obtain ⟨k, hk, rfl, rfl, rfl, hb⟩ := hrel
      by_cases hlt : k < l.length
      · obtain ⟨x, b, o, hgx, hmx, e1, hbs, c0, c1, c2, c3, c4, c5⟩ := wl_at (hA.blw hb) hlt
        have hxin := (HIN.out x hmx).blw hb
        have hxok := HOK.out x hmx
        have hst : farS l top to (k + 1) = if x.top = top then (match farS l top to k with | none => some k | some b => if cmpF x.h.r (rgW l b) = to then some k else some b) else farS l top to k := by
          rw [farS]; rw [hgx]
        have HB : Hid (∀ p, farS l top to k = some p → ∃ y : WL, p < l.length ∧ rgW l p = y.h.r ∧ wr.cell? ⟨b, o + p * 6 + 3, none⟩ = some (.bool y.h.r.neg) ∧ wr.cell? ⟨b, o + p * 6 + 4, none⟩ = some (.slice y.h.a y.h.r.num.length y.h.c) ∧ wr.cell? ⟨b, o + p * 6 + 5, none⟩ = some (.slice y.h.b y.h.r.den.length y.h.d) ∧
            ∀ W : World, Blw wr W → Calls Try.prog 128 #[frV y.h.r y.h.a y.h.c y.h.b y.h.d, frV x.h.r x.h.a x.h.c x.h.b x.h.d] W fun e w' => e = .returned (.int .i64 (cmpF x.h.r (rgW l p))) ∧ ∃ z, w' = W.ext z) := by
          intro p hp
          obtain ⟨-, hpl⟩ := farS_lt k p hp
          obtain ⟨y, b2, o2, hgy, hmy, e3, hbs2, -, -, -, f3, f4, f5⟩ := wl_at (hA.blw hb) hpl
          rw [e1] at e3
          simp only [Option.some.injEq, Addr.mk.injEq] at e3
          obtain ⟨rfl, rfl, -⟩ := e3
          have hr : rgW l p = y.h.r := by unfold rgW; rw [hgy]
          exact ⟨y, hpl, hr, f3, f4, f5, fun W hW => by rw [hr]; exact from_ok y.h x.h W (((HIN.out y hmy).blw hb).blw hW) (hxin.blw hW) (HOK.out y hmy) hxok⟩
        have HST := Lib.hid hst
        subst e1
        clear hst hxin hxok hgx hmx
        obtain ⟨t, la, tp, ⟨⟨rn, rnum, rden⟩, ra, rc, rb, rd⟩⟩ := x
        simp only at HST HB c0 c1 c2 c3 c4 c5
        generalize hfk : farS l top to k = fk at *
        clear hfk
        go_wp2_with fail
        refine name_world (fun W => Blw (wr.alloc (.cells #[.int .i64 t, .int .i64 la, .bool tp, .bool rn, .slice ra rnum.length rc, .slice rb rden.length rd] 90)) W) (by repeat (first | exact Blw.refl _ | apply Blw.ext | apply Blw.alloc | apply Blw.drewN | apply Blw.drew | refine Blw.setCell ?_ _ _ (by simp))) ?_
        rintro W hbW
        obtain ⟨hsW, b0, b1, b2, b3, b4, b5⟩ := box6 hbW
        replace hbW := ((Blw.refl wr).alloc _).trans hbW
        clear c0 c1 c2 c3 c4 c5
        by_cases htp : tp = top
        · have HS2 := Lib.hid (HST.out.trans (if_pos htp))
          subst htp
          clear HST
          cases fk with
          | none =>
            have HS3 := Lib.hid (show farS l tp to (k + 1) = some k from HS2.out)
            clear HS2
            have hq : ((none : Option Nat).isSome) = false := rfl
            cases tp
            all_goals
              go_quiet (fail)
              go_wp2
              go_roundw
              case rel => exact ⟨k + 1, by omega, by go_num, by rw [HS3.out]; rfl, by rw [HS3.out]; rfl, hb.trans (hbW.trans (by repeat (first | exact Blw.refl _ | apply Blw.ext | apply Blw.alloc | apply Blw.drewN | apply Blw.drew | refine Blw.setCell ?_ _ _ (by simp))))⟩
              case measure => simp [intOf]; omega
          | some p =>
            obtain ⟨y, hpl, hr, f3, f4, f5, hc⟩ := HB.out p rfl
            have HC := Lib.hid hc
            have hbsW := Nat.lt_of_lt_of_le hbs hbW.size
            replace f3 := (Below.cell hbW hbs).trans f3
            replace f4 := (Below.cell hbW hbs).trans f4
            replace f5 := (Below.cell hbW hbs).trans f5
            have HS3 := Lib.hid (show farS l tp to (k + 1) = if cmpF ⟨rn, rnum, rden⟩ (rgW l p) = to then some k else some p from HS2.out)
            clear HS2 HB hc hr
            generalize cmpF _ (rgW l p) = cm at *
            by_cases hcm : cm = to
            · have HS4 := Lib.hid (HS3.out.trans (if_pos hcm))
              subst hcm
              clear HS3
              cases tp
              all_goals
                refine wp_region_ext_lit (by kernel_rfl) (by kernel_rfl) ?_
                repeat (quiet_step ((go_at_call 128; (with_reducible exact Calls.ext_of (HC.out _ (hbW.trans (by repeat (first | exact Blw.refl _ | apply Blw.ext | apply Blw.alloc | apply Blw.drewN | apply Blw.drew | refine Blw.setCell ?_ _ _ (by simp)))))))))
                refine wpQuiet_nil ?_
                rintro _ ⟨z, rfl⟩
                go_wp2
                go_roundw
                case rel => exact ⟨k + 1, by omega, by go_num, by rw [HS4.out]; rfl, by rw [HS4.out]; rfl, hb.trans (hbW.trans (by repeat (first | exact Blw.refl _ | apply Blw.ext | apply Blw.alloc | apply Blw.drewN | apply Blw.drew | refine Blw.setCell ?_ _ _ (by simp))))⟩
                case measure => simp [intOf]; omega
            · have HS4 := Lib.hid (HS3.out.trans (if_neg hcm))
              have q : (cm == to) = false := by simpa using hcm
              clear HS3 hcm
              cases tp
              all_goals
                refine wp_region_ext_lit (by kernel_rfl) (by kernel_rfl) ?_
                repeat (quiet_step ((go_at_call 128; (with_reducible exact Calls.ext_of (HC.out _ (hbW.trans (by repeat (first | exact Blw.refl _ | apply Blw.ext | apply Blw.alloc | apply Blw.drewN | apply Blw.drew | refine Blw.setCell ?_ _ _ (by simp)))))))))
                refine wpQuiet_nil ?_
                rintro _ ⟨z, rfl⟩
                go_wp2
                go_roundw
                case rel => exact ⟨k + 1, by omega, by go_num, by rw [HS4.out]; rfl, by rw [HS4.out]; rfl, hb.trans (hbW.trans (by repeat (first | exact Blw.refl _ | apply Blw.ext | apply Blw.alloc | apply Blw.drewN | apply Blw.drew | refine Blw.setCell ?_ _ _ (by simp))))⟩
                case measure => simp [intOf]; omega
        · have HS2 := Lib.hid (HST.out.trans (if_neg htp))
          have h6 : top = !tp := by cases tp <;> cases top <;> simp_all
          subst h6
          clear HST HB htp
          cases tp
          all_goals
            go_quiet (fail)
            go_wp2
            go_roundw
            case rel => exact ⟨k + 1, by omega, by go_num, by rw [HS2.out], by rw [HS2.out], hb.trans (hbW.trans (by repeat (first | exact Blw.refl _ | apply Blw.ext | apply Blw.alloc | apply Blw.drewN | apply Blw.drew | refine Blw.setCell ?_ _ _ (by simp))))⟩
            case measure => simp [intOf]; omega
      · have hkl : k = l.length := by omega
        subst hkl
        generalize farS l top to l.length = fk at *
        go_wp2
        go_ret2
        exact ⟨by rw [HE.out]; rfl, Blw.is hb⟩
  · have HE := Lib.hid (show farW l top to = (0, false) from if_neg h0)
    have hne : (checkW l).1 ≠ 0 ∨ (checkW l).2 ≠ 0 := by
      by_cases h1 : (checkW l).1 = 0
      · refine .inr fun h2 => h0 ?_
        exact Prod.ext h1 h2
      · exact .inl h1
    generalize (checkW l).1 = u at *
    generalize (checkW l).2 = v at *
    have HCK := Lib.hid CK
    clear CK h0
    by_cases hu : u = 0
    · have hv : ¬ v = 0 := by rcases hne with h | h; exact absurd hu h; exact h
      subst hu
      have q1 : (v == 0) = false := by simpa using hv
      have q2 : (v != 0) = true := by simpa using hv
      have q3 : decide (v = 0) = false := by simpa using hv
      clear hne hv
      go_enter Try.func121, Try.ntmps121
      go_wp2_with fail
      refine Calls.mono HCK.out ?_
      rintro e w1 ⟨rfl, x1, rfl⟩
      clear HCK
      go_wp2
      go_ret2
      exact ⟨by rw [HE.out]; rfl, Blw.is (by repeat (first | exact Blw.refl _ | apply Blw.ext | apply Blw.alloc | apply Blw.drewN | apply Blw.drew | refine Blw.setCell ?_ _ _ (by simp)))⟩
    · have q1 : (u == 0) = false := by simpa using hu
      have q2 : (u != 0) = true := by simpa using hu
      have q3 : decide (u = 0) = false := by simpa using hu
      clear hne hu
      go_enter Try.func121, Try.ntmps121
      go_wp2_with fail
      refine Calls.mono HCK.out ?_
      rintro e w1 ⟨rfl, x1, rfl⟩
      clear HCK
      go_wp2
      go_ret2
      exact ⟨by rw [HE.out]; rfl, Blw.is (by repeat (first | exact Blw.refl _ | apply Blw.ext | apply Blw.alloc | apply Blw.drewN | apply Blw.drew | refine Blw.setCell ?_ _ _ (by simp)))⟩
set_option maxHeartbeats 400000 in
theorem waterHighest_any (A : Option Addr) (l : List WL) (cap : Nat) (w : World) (hA : Arr w A (wls l)) (hin : ∀ x ∈ l, FL.In w x.h) (hl : l.length ≤ 9223372036854775807) :
    Calls Try.prog 67 #[.slice A l.length cap] w fun e w' => e = .returned (.tuple #[.int .i64 (farW l true 1).1, .bool (farW l true 1).2]) ∧ ∃ x, w' = w.ext x := by
  have H := Lib.hid (farthest_any A l cap true 1 w hA hin hl)
  clear hA hin hl
  go_enter Try.func67, Try.ntmps67
  go_wp2_with fail
  refine Calls.mono H.out ?_
  rintro e w1 ⟨rfl, x1, rfl⟩
  go_wp2
  go_ret2
  exact ⟨rfl, Blw.is (by repeat (first | exact Blw.refl _ | apply Blw.ext | apply Blw.alloc | apply Blw.drewN | apply Blw.drew | refine Blw.setCell ?_ _ _ (by simp)))⟩
set_option maxHeartbeats 400000 in
theorem waterLowest_any (A : Option Addr) (l : List WL) (cap : Nat) (w : World) (hA : Arr w A (wls l)) (hin : ∀ x ∈ l, FL.In w x.h) (hl : l.length ≤ 9223372036854775807) :
    Calls Try.prog 69 #[.slice A l.length cap] w fun e w' => e = .returned (.tuple #[.int .i64 (farW l false (-1)).1, .bool (farW l false (-1)).2]) ∧ ∃ x, w' = w.ext x := by
  have H := Lib.hid (farthest_any A l cap false (-1) w hA hin hl)
  clear hA hin hl
  go_enter Try.func69, Try.ntmps69
  go_wp2_with fail
  refine Calls.mono H.out ?_
  rintro e w1 ⟨rfl, x1, rfl⟩
  go_wp2
  go_ret2
  exact ⟨rfl, Blw.is (by repeat (first | exact Blw.refl _ | apply Blw.ext | apply Blw.alloc | apply Blw.drewN | apply Blw.drew | refine Blw.setCell ?_ _ _ (by simp)))⟩
end Go.Proofs.Ytigkfdoeneemeaa
/- Walks of slackwaterref25: compare, wrong. -/
namespace Go.Proofs.Ytigkfdoeneemeaa
open Go.RowKit

set_option maxHeartbeats 1000000 in
theorem refCmp25_ok (r s : Fr) (a : Option Addr) (c : Nat) (b : Option Addr) (d : Nat) (a' : Option Addr) (c' : Nat) (b' : Option Addr) (d' : Nat) (w : World) (h : FrA w r a c b d) (k : FrA w s a' c' b' d') (hr : r.Ok) (hs : s.Ok) :
    Calls Try.prog 131 #[frV r a c b d, frV s a' c' b' d'] w fun e w' => e = .returned (.int .i64 (cmpF r s)) ∧ ∃ x, w' = w.ext x := by
  have H := Lib.hid (fun (W : World) (hW : Blw w W) => refCompare3_ok r s a c b d a' c' b' d' W (h.blw hW) (k.blw hW) hr hs)
  generalize cmpF r s = cv at *
  clear h k
  go_enter Try.func131, Try.ntmps131
  go_wp2_with fail
  refine Calls.mono (H.out _ (by repeat (first | exact Blw.refl _ | apply Blw.ext | apply Blw.alloc | apply Blw.drewN | apply Blw.drew | refine Blw.setCell ?_ _ _ (by simp)))) ?_
  rintro e w1 ⟨rfl, x1, rfl⟩
  go_wp2
  go_ret
  exact ⟨rfl, Blw.is (by repeat (first | exact Blw.refl _ | apply Blw.ext | apply Blw.alloc | apply Blw.drewN | apply Blw.drew | refine Blw.setCell ?_ _ _ (by simp)))⟩

set_option maxRecDepth 100000 in
set_option maxHeartbeats 1000000 in
theorem refWrong_first (A : Option Addr) (l : List WL) (cap : Nat) (x : WL) (w : World) (hA : Arr w A (wls l)) (hx : l[0]? = some x) (hin : FL.In w x.h) :
    Calls Try.prog 124 #[.slice A l.length cap, .int .i64 0] w fun e w' => e = .returned (.int .i64 (wrongN x)) ∧ ∃ y, w' = w.ext y := by
  have hl0 := (List.getElem?_eq_some_iff.1 hx).1
  obtain ⟨x', b, o, hgx, -, rfl, hbs, c0, c1, c2, c3, c4, c5⟩ := wl_at (k := 0) hA hl0
  rw [hx] at hgx
  cases hgx
  have he : wrongN x = if x.tick < 0 then 2 else if 1048576 < x.last then 2 else if x.last < x.tick then 2 else chkF x.h.r := rfl
  have CK := Lib.hid (fun (W : World) (hb : Blw w W) => refCheck3_any x.h.r x.h.a x.h.c x.h.b x.h.d W (FrA.blw hin hb))
  clear hin hx
  obtain ⟨t, la, tp, ⟨⟨rn, rnum, rden⟩, ra, rc, rb, rd⟩⟩ := x
  simp only [Nat.zero_mul, Nat.add_zero] at he CK c0 c1 c2 c3 c4 c5
  generalize wrongN _ = res at *
  generalize chkF _ = u at *
  have HE := Lib.hid he
  clear he
  go_enter Try.func124, Try.ntmps124
  go_wp2_with fail
  refine name_world (fun W => Blw (w.alloc (.cells #[.int .i64 t, .int .i64 la, .bool tp, .bool rn, .slice ra rnum.length rc, .slice rb rden.length rd] 90)) W) (by repeat (first | exact Blw.refl _ | apply Blw.ext | apply Blw.alloc | apply Blw.drewN | apply Blw.drew | refine Blw.setCell ?_ _ _ (by simp))) ?_
  rintro W hbW
  obtain ⟨hsW, b0, b1, b2, b3, b4, b5⟩ := box6 hbW
  replace hbW := ((Blw.refl w).alloc _).trans hbW
  clear c0 c1 c2 c3 c4 c5
  by_cases h1 : t < 0
  · have d1 := dlt h1
    have HE1 := Lib.hid (HE.out.trans (if_pos h1))
    clear h1 HE
    go_quiet (fail)
    go_wp2
    go_ret
    exact ⟨ret_i64 HE1.out.symm, Blw.is (hbW.trans (by repeat (first | exact Blw.refl _ | apply Blw.ext | apply Blw.alloc | apply Blw.drewN | apply Blw.drew | refine Blw.setCell ?_ _ _ (by simp))))⟩
  have d1 := dge h1
  replace HE := Lib.hid (HE.out.trans (if_neg h1))
  clear h1
  by_cases h2 : 1048576 < la
  · have d2 := dlt h2
    have HE1 := Lib.hid (HE.out.trans (if_pos h2))
    clear h2 HE
    go_quiet (fail)
    go_wp2
    go_ret
    exact ⟨ret_i64 HE1.out.symm, Blw.is (hbW.trans (by repeat (first | exact Blw.refl _ | apply Blw.ext | apply Blw.alloc | apply Blw.drewN | apply Blw.drew | refine Blw.setCell ?_ _ _ (by simp))))⟩
  have d2 := dge h2
  replace HE := Lib.hid (HE.out.trans (if_neg h2))
  clear h2
  by_cases h3 : la < t
  · have d3 := dlt h3
    have HE1 := Lib.hid (HE.out.trans (if_pos h3))
    clear h3 HE
    go_quiet (fail)
    go_wp2
    go_ret
    exact ⟨ret_i64 HE1.out.symm, Blw.is (hbW.trans (by repeat (first | exact Blw.refl _ | apply Blw.ext | apply Blw.alloc | apply Blw.drewN | apply Blw.drew | refine Blw.setCell ?_ _ _ (by simp))))⟩
  have d3 := dge h3
  replace HE := Lib.hid (HE.out.trans (if_neg h3))
  clear h3
  go_quiet (fail)
  go_wp2_with fail
  refine Calls.mono (CK.out _ (hbW.trans (by repeat (first | exact Blw.refl _ | apply Blw.ext | apply Blw.alloc | apply Blw.drewN | apply Blw.drew | refine Blw.setCell ?_ _ _ (by simp))))) ?_
  rintro e w1 ⟨rfl, x1, rfl⟩
  clear CK
  by_cases hu : u = 0
  · subst hu
    go_wp2
    go_ret
    exact ⟨ret_i64 HE.out.symm, Blw.is (hbW.trans (by repeat (first | exact Blw.refl _ | apply Blw.ext | apply Blw.alloc | apply Blw.drewN | apply Blw.drew | refine Blw.setCell ?_ _ _ (by simp))))⟩
  · have q : (u != 0) = true := by simpa using hu
    clear hu
    go_wp2
    go_ret
    exact ⟨ret_i64 HE.out.symm, Blw.is (hbW.trans (by repeat (first | exact Blw.refl _ | apply Blw.ext | apply Blw.alloc | apply Blw.drewN | apply Blw.drew | refine Blw.setCell ?_ _ _ (by simp))))⟩

set_option maxRecDepth 100000 in
set_option maxHeartbeats 1000000 in
theorem refWrong_next (A : Option Addr) (l : List WL) (cap k : Nat) (x y : WL) (w : World) (hA : Arr w A (wls l)) (hy : l[k]? = some y) (hx : l[k + 1]? = some x) (hin : FL.In w x.h) (hyn : FL.In w y.h) (oy : y.h.r.Ok) (hl : l.length ≤ 100000) :
    Calls Try.prog 124 #[.slice A l.length cap, .int .i64 ((k + 1 : Nat) : Int)] w fun e w' => e = .returned (.int .i64 (wrongS y x)) ∧ ∃ y, w' = w.ext y := by
  have hl0 := (List.getElem?_eq_some_iff.1 hx).1
  obtain ⟨x', b, o, hgx, -, rfl, hbs, c0, c1, c2, c3, c4, c5⟩ := wl_at (k := k + 1) hA hl0
  rw [hx] at hgx
  cases hgx
  obtain ⟨y', b', o', hgy, -, ee, -, e0, e1, e2, e3, e4, e5⟩ := wl_at (k := k) hA (by omega)
  cases ee
  rw [hy] at hgy
  cases hgy
  have he : wrongS y x = if x.tick < 0 then 2 else if 1048576 < x.last then 2 else if x.last < x.tick then 2 else if x.tick ≤ y.last then 2 else if chkF x.h.r ≠ 0 then chkF x.h.r else if x.top = y.top then 2 else if cmpF x.h.r y.h.r = (if x.top then 1 else -1) then 0 else 2 := rfl
  have CK := Lib.hid (fun (W : World) (hb : Blw w W) => refCheck3_any x.h.r x.h.a x.h.c x.h.b x.h.d W (FrA.blw hin hb))
  have FR := Lib.hid (fun (hu : chkF x.h.r = 0) (W : World) (hb : Blw w W) => refCmp25_ok x.h.r y.h.r x.h.a x.h.c x.h.b x.h.d y.h.a y.h.c y.h.b y.h.d W (FrA.blw hin hb) (FrA.blw hyn hb) (ok_chkF hu) oy)
  have FC := Lib.hid (fun (hu : chkF x.h.r = 0) => cmpF_cases (ok_chkF hu) oy)
  clear hin hx hyn hy oy
  obtain ⟨t, la, tp, ⟨⟨rn, rnum, rden⟩, ra, rc, rb, rd⟩⟩ := x
  obtain ⟨yt, yl, yp, ⟨⟨yn, ynum, yden⟩, ya, yc, yb, yd⟩⟩ := y
  simp only at he CK FR FC c0 c1 c2 c3 c4 c5 e0 e1 e2 e3 e4 e5
  generalize wrongS _ _ = res at *
  generalize chkF _ = u at *
  generalize cmpF _ _ = cm at *
  have HE := Lib.hid he
  have i1 : ((k : Int) + 1).toNat = k + 1 := by omega
  have i2 : (0 : Int) ≤ (k : Int) + 1 := by omega
  have i3 : (k : Int) + 1 < (l.length : Int) := by omega
  have i4 : (k : Int) < (l.length : Int) := by omega
  have i5 : (0 : Int) ≤ (k : Int) := by omega
  have i6 : decide ((0 : Int) < (k : Int) + 1) = true := by simp
  have i7 : ((k : Int) + 1 == 0) = false := beq_false_of_ne (by omega)
  have i8 : IntKind.i64.wrap ((k : Int) + 1 - 1) = (k : Int) := by rw [IntKind.wrap_i64]; omega
  have i9 : IntKind.i64.wrap (k : Int) = (k : Int) := by rw [IntKind.wrap_i64]; omega
  clear he
  go_enter Try.func124, Try.ntmps124
  go_wp2_with fail
  refine name_world (fun W => Blw (w.alloc (.cells #[.int .i64 t, .int .i64 la, .bool tp, .bool rn, .slice ra rnum.length rc, .slice rb rden.length rd] 90)) W) (by repeat (first | exact Blw.refl _ | apply Blw.ext | apply Blw.alloc | apply Blw.drewN | apply Blw.drew | refine Blw.setCell ?_ _ _ (by simp))) ?_
  rintro W hbW
  obtain ⟨hsW, b0, b1, b2, b3, b4, b5⟩ := box6 hbW
  replace hbW := ((Blw.refl w).alloc _).trans hbW
  replace e0 := (Below.cell hbW hbs).trans e0
  replace e1 := (Below.cell hbW hbs).trans e1
  replace e2 := (Below.cell hbW hbs).trans e2
  replace e3 := (Below.cell hbW hbs).trans e3
  replace e4 := (Below.cell hbW hbs).trans e4
  replace e5 := (Below.cell hbW hbs).trans e5
  replace hbs := Nat.lt_of_lt_of_le hbs hbW.size
  clear c0 c1 c2 c3 c4 c5
  by_cases h1 : t < 0
  · have d1 := dlt h1
    have HE1 := Lib.hid (HE.out.trans (if_pos h1))
    clear h1 HE
    go_quiet (fail)
    go_wp2
    go_ret
    exact ⟨ret_i64 HE1.out.symm, Blw.is (hbW.trans (by repeat (first | exact Blw.refl _ | apply Blw.ext | apply Blw.alloc | apply Blw.drewN | apply Blw.drew | refine Blw.setCell ?_ _ _ (by simp))))⟩
  have d1 := dge h1
  replace HE := Lib.hid (HE.out.trans (if_neg h1))
  clear h1
  by_cases h2 : 1048576 < la
  · have d2 := dlt h2
    have HE1 := Lib.hid (HE.out.trans (if_pos h2))
    clear h2 HE
    go_quiet (fail)
    go_wp2
    go_ret
    exact ⟨ret_i64 HE1.out.symm, Blw.is (hbW.trans (by repeat (first | exact Blw.refl _ | apply Blw.ext | apply Blw.alloc | apply Blw.drewN | apply Blw.drew | refine Blw.setCell ?_ _ _ (by simp))))⟩
  have d2 := dge h2
  replace HE := Lib.hid (HE.out.trans (if_neg h2))
  clear h2
  by_cases h3 : la < t
  · have d3 := dlt h3
    have HE1 := Lib.hid (HE.out.trans (if_pos h3))
    clear h3 HE
    go_quiet (fail)
    go_wp2
    go_ret
    exact ⟨ret_i64 HE1.out.symm, Blw.is (hbW.trans (by repeat (first | exact Blw.refl _ | apply Blw.ext | apply Blw.alloc | apply Blw.drewN | apply Blw.drew | refine Blw.setCell ?_ _ _ (by simp))))⟩
  have d3 := dge h3
  replace HE := Lib.hid (HE.out.trans (if_neg h3))
  clear h3
  by_cases h4 : t ≤ yl
  · have d4 := dle h4
    have HE1 := Lib.hid (HE.out.trans (if_pos h4))
    clear h4 HE
    go_quiet (fail)
    go_wp2
    go_ret
    exact ⟨ret_i64 HE1.out.symm, Blw.is (hbW.trans (by repeat (first | exact Blw.refl _ | apply Blw.ext | apply Blw.alloc | apply Blw.drewN | apply Blw.drew | refine Blw.setCell ?_ _ _ (by simp))))⟩
  have d4 := dgt h4
  replace HE := Lib.hid (HE.out.trans (if_neg h4))
  clear h4
  go_quiet (fail)
  go_wp2_with fail
  refine Calls.mono (CK.out _ (hbW.trans (by repeat (first | exact Blw.refl _ | apply Blw.ext | apply Blw.alloc | apply Blw.drewN | apply Blw.drew | refine Blw.setCell ?_ _ _ (by simp))))) ?_
  rintro e W2 ⟨rfl, x1, hWe⟩
  have hb2 : Blw W W2 := by rw [hWe]; exact (by repeat (first | exact Blw.refl _ | apply Blw.ext | apply Blw.alloc | apply Blw.drewN | apply Blw.drew | refine Blw.setCell ?_ _ _ (by simp)))
  clear CK hWe
  replace b0 := (Below.cell hb2 hsW).trans b0
  replace b2 := (Below.cell hb2 hsW).trans b2
  replace b3 := (Below.cell hb2 hsW).trans b3
  replace b4 := (Below.cell hb2 hsW).trans b4
  replace b5 := (Below.cell hb2 hsW).trans b5
  replace e0 := (Below.cell hb2 hbs).trans e0
  replace e1 := (Below.cell hb2 hbs).trans e1
  replace e2 := (Below.cell hb2 hbs).trans e2
  replace e3 := (Below.cell hb2 hbs).trans e3
  replace e4 := (Below.cell hb2 hbs).trans e4
  replace e5 := (Below.cell hb2 hbs).trans e5
  replace hbs := Nat.lt_of_lt_of_le hbs hb2.size
  replace hsW := Nat.lt_of_lt_of_le hsW hb2.size
  replace hbW := hbW.trans hb2
  clear hb2 b1
  by_cases hu : u = 0
  · have FR1 := Lib.hid (FR.out hu)
    have hcm := FC.out hu
    have HE1 := Lib.hid (HE.out.trans (if_neg (by simpa using hu)))
    subst hu
    clear FR HE FC
    go_wp2_with fail
    refine wp_region_ext_lit (by kernel_rfl) (by kernel_rfl) ?_
    repeat (quiet_step ((go_at_call 131; (with_reducible exact Calls.ext_of (FR1.out _ (hbW.trans (by repeat (first | exact Blw.refl _ | apply Blw.ext | apply Blw.alloc | apply Blw.drewN | apply Blw.drew | refine Blw.setCell ?_ _ _ (by simp)))))))))
    refine wpQuiet_nil ?_
    rintro _ ⟨z8, rfl⟩
    clear FR1
    by_cases h5 : tp = yp
    · have HE2 := Lib.hid (HE1.out.trans (if_pos h5))
      subst h5
      clear HE1 hcm
      cases tp
      all_goals
        go_wp2_with fail
        go_quiet (fail)
        go_wp2
        go_ret
        exact ⟨ret_i64 HE2.out.symm, Blw.is (hbW.trans (by repeat (first | exact Blw.refl _ | apply Blw.ext | apply Blw.alloc | apply Blw.drewN | apply Blw.drew | refine Blw.setCell ?_ _ _ (by simp))))⟩
    · have HE2 := Lib.hid (HE1.out.trans (if_neg h5))
      clear HE1
      have h6 : yp = !tp := by cases tp <;> cases yp <;> simp_all
      subst h6
      clear h5
      cases tp
      all_goals
        simp only [Bool.not_false, Bool.not_true] at e2
        have HE3 := HE2.out
        simp only [Bool.false_eq_true, if_true, if_false] at HE3
        rcases hcm with rfl | rfl | rfl
        all_goals
          have HE4 := Lib.hid HE3
          clear HE3 HE2
          go_wp2_with fail
          go_quiet (fail)
          go_wp2
          go_ret
          exact ⟨ret_i64 HE4.out.symm, Blw.is (hbW.trans (by repeat (first | exact Blw.refl _ | apply Blw.ext | apply Blw.alloc | apply Blw.drewN | apply Blw.drew | refine Blw.setCell ?_ _ _ (by simp))))⟩
  · have q : (u != 0) = true := by simpa using hu
    have HE1 := Lib.hid (HE.out.trans (if_pos hu))
    clear hu FR HE
    go_wp2
    go_ret
    exact ⟨ret_i64 HE1.out.symm, Blw.is (hbW.trans (by repeat (first | exact Blw.refl _ | apply Blw.ext | apply Blw.alloc | apply Blw.drewN | apply Blw.drew | refine Blw.setCell ?_ _ _ (by simp))))⟩
end Go.Proofs.Ytigkfdoeneemeaa
/- The walk of slackwaterref25.Check. -/
namespace Go.Proofs.Ytigkfdoeneemeaa
open Go.RowKit

set_option maxRecDepth 100000 in
set_option maxHeartbeats 2000000 in
theorem refCheck25_any (A : Option Addr) (l : List WL) (cap : Nat) (w : World) (hA : Arr w A (wls l)) (hin : ∀ x ∈ l, FL.In w x.h) (hl : l.length ≤ 100000) :
    Calls Try.prog 72 #[.slice A l.length cap] w fun e w' => e = .returned (.agg #[.int .i64 (checkW l).1, .int .i64 (checkW l).2]) ∧ ∃ x, w' = w.ext x := by
  have hR0 : (w.alloc (.cells #[.int .i64 0, .int .i64 0] 36)).heap[w.heap.size]? = some (.cells #[.int .i64 0, .int .i64 0] 36 (0, 0)) := heap_alloc_new _ _
  by_cases h0 : 4096 < l.length
  · have d1 : decide ((4096 : Int) < (l.length : Int)) = true := by simp; omega
    have HE := Lib.hid (show checkW l = (3, -1) from if_pos h0)
    obtain ⟨hfz, e0, e1, r0, r1⟩ := pairC hR0 (.int .i64 3) (.int .i64 (-1))
    clear hR0 h0
    go_enter Try.func72, Try.ntmps72
    go_wp2
    exact bodyPost_ret (v := .agg #[.int .i64 3, .int .i64 (-1)]) (by simp [results, Try.results72, go_sem, r0, r1]) rfl ⟨by rw [HE.out], Blw.is (by repeat (first | exact Blw.refl _ | apply Blw.ext | apply Blw.alloc | apply Blw.drewN | apply Blw.drew | refine Blw.setCell ?_ _ _ (by simp)))⟩
  have d1 : decide ((4096 : Int) < (l.length : Int)) = false := by simp; omega
  have he : checkW l = match firstBad (chkAt l) 0 l.length with | none => (0, 0) | some i => (chkAt l i, i) := if_neg h0
  have HE := Lib.hid he
  have HIN := Lib.hid hin
  have hl4 : l.length ≤ 4096 := by omega
  clear he hin h0 hl
  go_enter Try.func72, Try.ntmps72
  go_wp2
  clear d1
  go_loopw [3] (fun vi wr => ∃ k : Nat, k ≤ l.length ∧ vi = .int .i64 k ∧ (k = 0 ∨ Hid (chkAt l (k - 1) = 0)) ∧ Hid (firstBad (chkAt l) 0 l.length = firstBad (chkAt l) k (l.length - k)) ∧ Blw w wr ∧ wr.heap[w.heap.size]? = some (.cells #[.int .i64 0, .int .i64 0] 36 (0, 0))) (fun i _ => l.length - (intOf i).toNat)
  case atStart => exact ⟨0, Nat.zero_le _, rfl, .inl rfl, rfl, (by repeat (first | exact Blw.refl _ | apply Blw.ext | apply Blw.alloc | apply Blw.drewN | apply Blw.drew | refine Blw.setCell ?_ _ _ (by simp))), hR0⟩
  case round =>
    obtain ⟨k, hk, rfl, hah, hfb, hb, hR⟩ := hrel
    clear hR0
    by_cases hlt : k < l.length
    · obtain ⟨x, b, o, hgx, hmx, e1, hbs, c0, c1, c2, c3, c4, c5⟩ := wl_at (hA.blw hb) hlt
      have hxin := (HIN.out x hmx).blw hb
      have hlk : l.length - k = l.length - (k + 1) + 1 := by omega
      rw [hlk] at hfb
      have key : (chkAt l k = 0 → firstBad (chkAt l) 0 l.length = firstBad (chkAt l) (k + 1) (l.length - (k + 1))) ∧ (¬ chkAt l k = 0 → checkW l = (chkAt l k, (k : Int))) := by
        constructor
        · intro h; rw [hfb.out, firstBad_on h]
        · intro h; rw [HE.out, hfb.out, firstBad_at h]
      have HK := Lib.hid key
      clear key hfb hlk hmx
      have hwr : ∃ u, chkAt l k = u ∧ (∀ W : World, Blw wr W → Calls Try.prog 124 #[.slice A l.length cap, .int .i64 (k : Int)] W fun e w' => e = .returned (.int .i64 u) ∧ ∃ y, w' = W.ext y) := by
        rcases Nat.eq_zero_or_pos k with h | h
        · subst h
          exact ⟨wrongN x, by unfold chkAt; rw [hgx]; rfl, fun W hW => refWrong_first A l cap x W ((hA.blw hb).blw hW) hgx (hxin.blw hW)⟩
        · obtain ⟨m, rfl⟩ : ∃ m, k = m + 1 := ⟨k - 1, by omega⟩
          obtain ⟨y, b2, o2, hgy, hmy, -⟩ := wl_at (hA.blw hb) (show m < l.length by omega)
          have hm : chkAt l m = 0 := by
            rcases hah with h0 | h0
            · omega
            · exact h0.out
          refine ⟨wrongS y x, ?_, fun W hW => refWrong_next A l cap m x y W ((hA.blw hb).blw hW) hgy hgx (hxin.blw hW) (((HIN.out y hmy).blw hb).blw hW) (ok_chkF (chkAt_chk hgy hm)) (by omega)⟩
          unfold chkAt
          rw [hgx]
          simp only [Nat.add_one_ne_zero, if_false, Nat.add_sub_cancel]
          rw [hgy]
      obtain ⟨u, hu, hw⟩ := hwr
      have HW := Lib.hid hw
      have HU := Lib.hid hu
      clear hw hu hah hxin hgx e1 c0 c1 c2 c3 c4 c5
      go_wp2_with fail
      refine Calls.mono (HW.out _ (Blw.refl _)) ?_
      rintro e w1 ⟨rfl, x1, rfl⟩
      clear HW
      by_cases hz : u = 0
      · have HF := Lib.hid (HK.out.1 (HU.out.trans hz))
        have HZ := Lib.hid (HU.out.trans hz)
        subst hz
        clear HK HU
        go_wp2
        go_roundw
        case rel => exact ⟨k + 1, by omega, by go_num, .inr HZ, HF, hb.trans (by repeat (first | exact Blw.refl _ | apply Blw.ext | apply Blw.alloc | apply Blw.drewN | apply Blw.drew | refine Blw.setCell ?_ _ _ (by simp))), at_ext _ hR⟩
        case measure => simp [intOf]; omega
      · have q : (u != 0) = true := by simpa using hz
        have HF := Lib.hid (HK.out.2 (fun e => hz (HU.out.symm.trans e)))
        have HF2 := Lib.hid (HF.out.trans (by rw [HU.out]))
        obtain ⟨hfz, e0, e1, r0, r1⟩ := pairC (at_ext x1 hR) (.int .i64 u) (.int .i64 k)
        clear HK HU HF hz hR
        go_wp2
        exact bodyPost_ret (v := .agg #[.int .i64 u, .int .i64 k]) (by simp [results, Try.results72, go_sem, r0, r1]) rfl ⟨by rw [HF2.out], Blw.is (((hb.ext x1).setCell _ _ (Nat.le_refl _)).setCell _ _ (Nat.le_refl _))⟩
    · have hkl : k = l.length := by omega
      subst hkl
      have HF : Hid (checkW l = (0, 0)) := by
        show _ = _
        rw [HE.out, hfb.out, Nat.sub_self]; rfl
      obtain ⟨hfz, e0, e1, r0, r1⟩ := pairC hR (.int .i64 0) (.int .i64 0)
      clear hR hfb hah hlt
      go_wp2
      exact bodyPost_ret (v := .agg #[.int .i64 0, .int .i64 0]) (by simp [results, Try.results72, go_sem, r0, r1]) rfl ⟨by rw [HF.out], Blw.is ((hb.setCell _ _ (Nat.le_refl _)).setCell _ _ (Nat.le_refl _))⟩
end Go.Proofs.Ytigkfdoeneemeaa
/- The walks of slackwaterref25.extreme, Highest, Lowest. -/
namespace Go.Proofs.Ytigkfdoeneemeaa
open Go.RowKit

def bestI : Option Nat → Int
  | none => -1
  | some b => b

set_option maxRecDepth 100000 in
set_option maxHeartbeats 2000000 in
theorem refExtreme_any (A : Option Addr) (l : List WL) (cap : Nat) (top : Bool) (w : World) (hA : Arr w A (wls l)) (hin : ∀ x ∈ l, FL.In w x.h) (hl : l.length ≤ 100000) :
    Calls Try.prog 122 #[.slice A l.length cap, .bool top] w fun e w' => e = .returned (.tuple #[.int .i64 (farW l top (if top = true then 1 else -1)).1, .bool (farW l top (if top = true then 1 else -1)).2]) ∧ ∃ x, w' = w.ext x := by
  have CK := refCheck25_any A l cap w hA hin hl
  obtain ⟨to, hto⟩ : ∃ to : Int, to = if top = true then 1 else -1 := ⟨_, rfl⟩
  rw [← hto]
  by_cases h0 : checkW l = (0, 0)
  · have HE := Lib.hid (show farW l top to = ((farS l top to l.length).getD 0, (farS l top to l.length).isSome) from if_pos h0)
    rw [h0] at CK
    obtain ⟨hl4, -, hok⟩ := checkW_ok h0
    have HOK := Lib.hid hok
    have HIN := Lib.hid hin
    have HCK := Lib.hid CK
    have HTO := Lib.hid hto
    clear CK h0 hok hin hl hto
    go_enter Try.func122, Try.ntmps122
    go_wp2_with fail
    refine Calls.mono HCK.out ?_
    rintro e w1 ⟨rfl, x1, rfl⟩
    clear HCK
    go_wp2
    go_loopw [6, 7] (fun v6 vi wr => ∃ k : Nat, k ≤ l.length ∧ vi = .int .i64 k ∧ v6 = .int .i64 (bestI (farS l top to k)) ∧ Blw w wr) (fun _ i _ => l.length - (intOf i).toNat)
    case atStart => exact ⟨0, Nat.zero_le _, rfl, rfl, (by repeat (first | exact Blw.refl _ | apply Blw.ext | apply Blw.alloc | apply Blw.drewN | apply Blw.drew | refine Blw.setCell ?_ _ _ (by simp)))⟩
    case round =>
      obtain ⟨k, hk, rfl, rfl, hb⟩ := hrel
      by_cases hlt : k < l.length
      · obtain ⟨x, b, o, hgx, hmx, e1, hbs, c0, c1, c2, c3, c4, c5⟩ := wl_at (hA.blw hb) hlt
        have hxin := (HIN.out x hmx).blw hb
        have hxok := HOK.out x hmx
        have hst : farS l top to (k + 1) = if x.top = top then (match farS l top to k with | none => some k | some b => if cmpF x.h.r (rgW l b) = to then some k else some b) else farS l top to k := by
          rw [farS, hgx] <;> rfl
        have HB : Hid (∀ p, farS l top to k = some p → ∃ y : WL, p < l.length ∧ (cmpF x.h.r (rgW l p) = -1 ∨ cmpF x.h.r (rgW l p) = 0 ∨ cmpF x.h.r (rgW l p) = 1) ∧ wr.cell? ⟨b, o + p * 6 + 3, none⟩ = some (.bool y.h.r.neg) ∧ wr.cell? ⟨b, o + p * 6 + 4, none⟩ = some (.slice y.h.a y.h.r.num.length y.h.c) ∧ wr.cell? ⟨b, o + p * 6 + 5, none⟩ = some (.slice y.h.b y.h.r.den.length y.h.d) ∧
            ∀ W : World, Blw wr W → Calls Try.prog 131 #[frV x.h.r x.h.a x.h.c x.h.b x.h.d, frV y.h.r y.h.a y.h.c y.h.b y.h.d] W fun e w' => e = .returned (.int .i64 (cmpF x.h.r (rgW l p))) ∧ ∃ z, w' = W.ext z) := by
          intro p hp
          obtain ⟨-, hpl⟩ := farS_lt k p hp
          obtain ⟨y, b2, o2, hgy, hmy, e3, hbs2, -, -, -, f3, f4, f5⟩ := wl_at (hA.blw hb) hpl
          rw [e1] at e3
          simp only [Option.some.injEq, Addr.mk.injEq] at e3
          obtain ⟨rfl, rfl, -⟩ := e3
          have hr : rgW l p = y.h.r := by unfold rgW; rw [hgy]
          exact ⟨y, hpl, by rw [hr]; exact cmpF_cases hxok (HOK.out y hmy), f3, f4, f5, fun W hW => by rw [hr]; exact refCmp25_ok x.h.r y.h.r _ _ _ _ _ _ _ _ W (FrA.blw hxin hW) (FrA.blw ((HIN.out y hmy).blw hb) hW) hxok (HOK.out y hmy)⟩
        have HST := Lib.hid hst
        subst e1
        clear hst hxin hxok hgx hmx
        obtain ⟨t, la, tp, ⟨⟨rn, rnum, rden⟩, ra, rc, rb, rd⟩⟩ := x
        simp only at HST HB c0 c1 c2 c3 c4 c5
        have j1 : (k : Int) < (l.length : Int) := by omega
        have j2 : (0 : Int) ≤ (k : Int) := by omega
        by_cases htp : tp = top
        · have HS2 := Lib.hid (HST.out.trans (if_pos htp))
          subst htp
          clear HST
          generalize hfk : farS l tp to k = fk at *
          have HFK := Lib.hid hfk
          clear hfk
          cases fk with
          | none =>
            have HS3 := Lib.hid (show farS l tp to (k + 1) = some k from HS2.out)
            clear HS2 HB HFK
            simp only [bestI]
            cases tp
            all_goals
              go_wp2_with fail
              go_quiet (fail)
              go_wp2
              go_roundw
              case rel => exact ⟨k + 1, by omega, by go_num, by rw [HS3.out] <;> rfl, hb.trans (by repeat (first | exact Blw.refl _ | apply Blw.ext | apply Blw.alloc | apply Blw.drewN | apply Blw.drew | refine Blw.setCell ?_ _ _ (by simp)))⟩
              case measure => simp [intOf]; omega
          | some p =>
            obtain ⟨y, hpl, hcm, f3, f4, f5, hc⟩ := HB.out p rfl
            have HC := Lib.hid hc
            have HS3 := Lib.hid (show farS l tp to (k + 1) = if cmpF ⟨rn, rnum, rden⟩ (rgW l p) = to then some k else some p from HS2.out)
            simp only [bestI]
            have j3 : (p : Int) < (l.length : Int) := by omega
            have j4 : (0 : Int) ≤ (p : Int) := by omega
            have j5 : decide ((p : Int) < 0) = false := by simp
            have hto := HTO.out
            clear HS2 HB hc HFK
            generalize cmpF _ (rgW l p) = cm at *
            cases tp
            all_goals
              simp only [Bool.false_eq_true, if_true, if_false] at hto
              rcases hcm with rfl | rfl | rfl
              all_goals
                have HS4 := HS3.out
                rw [hto] at HS4
                first | rw [if_pos rfl] at HS4 | rw [if_neg (by decide)] at HS4
                have HS5 := Lib.hid HS4
                clear HS4 HS3 hto
                go_wp2_with fail
                refine wp_region_ext_lit (by kernel_rfl) (by kernel_rfl) ?_
                repeat (go_big_quiet_step ((go_at_call 131; (with_reducible exact Calls.ext_of (HC.out _ (by repeat (first | exact Blw.refl _ | apply Blw.ext | apply Blw.alloc | apply Blw.drewN | apply Blw.drew | refine Blw.setCell ?_ _ _ (by simp))))))))
                refine wpQuiet_nil ?_
                rintro _ ⟨z, rfl⟩
                go_wp2
                go_roundw
                case rel => exact ⟨k + 1, by omega, by go_num, by rw [HTO.out]; simp only [Bool.false_eq_true, if_true, if_false]; rw [HS5.out] <;> rfl, hb.trans (by repeat (first | exact Blw.refl _ | apply Blw.ext | apply Blw.alloc | apply Blw.drewN | apply Blw.drew | refine Blw.setCell ?_ _ _ (by simp)))⟩
                case measure => simp [intOf]; omega
        · have HS2 := Lib.hid (HST.out.trans (if_neg htp))
          have h6 : top = !tp := by cases tp <;> cases top <;> simp_all
          subst h6
          clear HST HB htp
          cases tp
          all_goals
            go_wp2
            go_roundw
            case rel => exact ⟨k + 1, by omega, by go_num, by rw [HS2.out], hb.trans (by repeat (first | exact Blw.refl _ | apply Blw.ext | apply Blw.alloc | apply Blw.drewN | apply Blw.drew | refine Blw.setCell ?_ _ _ (by simp)))⟩
            case measure => simp [intOf]; omega
      · have hkl : k = l.length := by omega
        subst hkl
        generalize farS l top to l.length = fk at *
        cases fk with
        | none =>
          simp only [bestI]
          go_wp2
          go_ret2
          exact ⟨by rw [HE.out]; rfl, Blw.is hb⟩
        | some p =>
          simp only [bestI]
          have j5 : decide ((p : Int) < 0) = false := by simp
          go_wp2
          go_ret2
          exact ⟨by rw [HE.out]; rfl, Blw.is hb⟩
  · have HE := Lib.hid (show farW l top to = (0, false) from if_neg h0)
    have hne : (checkW l).1 ≠ 0 ∨ (checkW l).2 ≠ 0 := by
      by_cases h1 : (checkW l).1 = 0
      · refine .inr fun h2 => h0 ?_
        exact Prod.ext h1 h2
      · exact .inl h1
    generalize (checkW l).1 = u at *
    generalize (checkW l).2 = v at *
    have HCK := Lib.hid CK
    clear CK h0 hto
    by_cases hu : u = 0
    · have hv : ¬ v = 0 := by rcases hne with h | h; exact absurd hu h; exact h
      subst hu
      have q1 : (v == 0) = false := by simpa using hv
      have q2 : (v != 0) = true := by simpa using hv
      have q3 : decide (v = 0) = false := by simpa using hv
      clear hne hv
      go_enter Try.func122, Try.ntmps122
      go_wp2_with fail
      refine Calls.mono HCK.out ?_
      rintro e w1 ⟨rfl, x1, rfl⟩
      clear HCK
      go_wp2
      go_ret2
      exact ⟨by rw [HE.out]; rfl, Blw.is (by repeat (first | exact Blw.refl _ | apply Blw.ext | apply Blw.alloc | apply Blw.drewN | apply Blw.drew | refine Blw.setCell ?_ _ _ (by simp)))⟩
    · have q1 : (u == 0) = false := by simpa using hu
      have q2 : (u != 0) = true := by simpa using hu
      have q3 : decide (u = 0) = false := by simpa using hu
      clear hne hu
      go_enter Try.func122, Try.ntmps122
      go_wp2_with fail
      refine Calls.mono HCK.out ?_
      rintro e w1 ⟨rfl, x1, rfl⟩
      clear HCK
      go_wp2
      go_ret2
      exact ⟨by rw [HE.out]; rfl, Blw.is (by repeat (first | exact Blw.refl _ | apply Blw.ext | apply Blw.alloc | apply Blw.drewN | apply Blw.drew | refine Blw.setCell ?_ _ _ (by simp)))⟩
set_option maxHeartbeats 400000 in
theorem ref25Highest_any (A : Option Addr) (l : List WL) (cap : Nat) (w : World) (hA : Arr w A (wls l)) (hin : ∀ x ∈ l, FL.In w x.h) (hl : l.length ≤ 100000) :
    Calls Try.prog 68 #[.slice A l.length cap] w fun e w' => e = .returned (.tuple #[.int .i64 (farW l true 1).1, .bool (farW l true 1).2]) ∧ ∃ x, w' = w.ext x := by
  have H := Lib.hid (refExtreme_any A l cap true w hA hin hl)
  simp only [Bool.false_eq_true, if_true, if_false] at H
  clear hA hin hl
  go_enter Try.func68, Try.ntmps68
  go_wp2_with fail
  refine Calls.mono H.out ?_
  rintro e w1 ⟨rfl, x1, rfl⟩
  go_wp2
  go_ret2
  exact ⟨rfl, Blw.is (by repeat (first | exact Blw.refl _ | apply Blw.ext | apply Blw.alloc | apply Blw.drewN | apply Blw.drew | refine Blw.setCell ?_ _ _ (by simp)))⟩
set_option maxHeartbeats 400000 in
theorem ref25Lowest_any (A : Option Addr) (l : List WL) (cap : Nat) (w : World) (hA : Arr w A (wls l)) (hin : ∀ x ∈ l, FL.In w x.h) (hl : l.length ≤ 100000) :
    Calls Try.prog 70 #[.slice A l.length cap] w fun e w' => e = .returned (.tuple #[.int .i64 (farW l false (-1)).1, .bool (farW l false (-1)).2]) ∧ ∃ x, w' = w.ext x := by
  have H := Lib.hid (refExtreme_any A l cap false w hA hin hl)
  simp only [Bool.false_eq_true, if_true, if_false] at H
  clear hA hin hl
  go_enter Try.func70, Try.ntmps70
  go_wp2_with fail
  refine Calls.mono H.out ?_
  rintro e w1 ⟨rfl, x1, rfl⟩
  go_wp2
  go_ret2
  exact ⟨rfl, Blw.is (by repeat (first | exact Blw.refl _ | apply Blw.ext | apply Blw.alloc | apply Blw.drewN | apply Blw.drew | refine Blw.setCell ?_ _ _ (by simp)))⟩
end Go.Proofs.Ytigkfdoeneemeaa
/- slackwaterkit's SameWords, SameRatio, walked. -/
namespace Go.Proofs.Ytigkfdoeneemeaa
open Go.RowKit

theorem ret_b {a b : Bool} (h : a = b) : Ending.returned (.bool a) = .returned (.bool b) := by rw [h]
def sameR (r s : Fr) : Bool := r.neg == s.neg && (r.num == s.num && r.den == s.den)
theorem sameR_iff {r s : Fr} : sameR r s = true ↔ r = s := by
  obtain ⟨a, b, c⟩ := r
  obtain ⟨d, e, f⟩ := s
  simp [sameR]
theorem sameR_refl (r : Fr) : sameR r r = true := sameR_iff.2 rfl

set_option maxHeartbeats 1600000 in
theorem sameWords_any (a b : Option Addr) (l m : List Nat) (c d : Nat) (w : World) (ha : Arr w a (u32s l)) (hb : Arr w b (u32s m)) (hl : l.length ≤ 1099511627776) (hm : m.length ≤ 1099511627776) :
    Calls Try.prog 116 #[.slice a l.length c, .slice b m.length d] w fun e w' => e = .returned (.bool (l == m)) ∧ ∃ x, w' = w.ext x := by
  by_cases hlm : l.length = m.length
  · have HLM := Lib.hid hlm
    have d1 : ((l.length : Int) != (m.length : Int)) = false := by simp; omega
    have d2 : ((l.length : Int) == (m.length : Int)) = true := by simp; omega
    clear hlm
    go_enter Try.func116, Try.ntmps116
    go_wp2
    clear d1 d2
    go_loopw [5] (fun i wr => ∃ k : Nat, k ≤ l.length ∧ i = .int .i64 k ∧ Blw w wr ∧ Hid (l.take k = m.take k)) (fun i _ => l.length - (intOf i).toNat)
    case atStart => exact ⟨0, Nat.zero_le _, rfl, Blw.refl _, rfl⟩
    case round =>
      obtain ⟨k, hk, rfl, hbw, htk⟩ := hrel
      have hlm := HLM.out
      by_cases hlt : k < l.length
      · obtain ⟨x, b1, o1, hd1, -, hgx, rfl, hb1, hc1⟩ := (ha.blw hbw).elem hlt
        obtain ⟨y, b2, o2, hd2, -, hgy, rfl, hb2, hc2⟩ := (hb.blw hbw).elem (show k < m.length by omega)
        have h0 : (0 : Int) ≤ (k : Int) := by omega
        have h1 : (k : Int) < (l.length : Int) := by omega
        have h2 : (k : Int) < (m.length : Int) := by omega
        have HX : Hid (l[k]? = some x) := hgx.out
        have HY : Hid (m[k]? = some y) := hgy.out
        clear hgx hgy hd1 hd2 hlm
        by_cases hxy : x = y
        · have HT : Hid (l.take (k + 1) = m.take (k + 1)) := by
            show _ = _
            rw [List.take_add_one, List.take_add_one, htk.out, HX.out, HY.out, hxy]
          subst hxy
          clear HX HY
          go_wp2_with fail
          go_quiet (fail)
          go_wp2
          go_roundw
          case rel => exact ⟨k + 1, by omega, by go_num, hbw.trans (by repeat (first | exact Blw.refl _ | apply Blw.ext | apply Blw.alloc | apply Blw.drewN | apply Blw.drew | refine Blw.setCell ?_ _ _ (by simp))), HT⟩
          case measure => simp [intOf]; omega
        · have HF : Hid ((l == m) = false) := by
            show _ = _
            simp only [beq_eq_false_iff_ne, ne_eq]
            intro e
            have := HX.out
            rw [e, HY.out] at this
            exact hxy (by injection this with this; exact this.symm)
          have q1 : ((x : Int) != (y : Int)) = true := by simp; omega
          have q2 : ((x : Int) == (y : Int)) = false := by simp; omega
          clear HX HY htk hxy
          go_wp2_with fail
          go_quiet (fail)
          go_wp2
          go_ret
          exact ⟨ret_b HF.out.symm, Blw.is (hbw.trans (by repeat (first | exact Blw.refl _ | apply Blw.ext | apply Blw.alloc | apply Blw.drewN | apply Blw.drew | refine Blw.setCell ?_ _ _ (by simp))))⟩
      · have HF : Hid ((l == m) = true) := by
          show _ = _
          have := htk.out
          rw [List.take_of_length_le (by omega), List.take_of_length_le (by omega)] at this
          simpa using this
        clear htk hlm
        go_wp2
        go_ret
        exact ⟨ret_b HF.out.symm, Blw.is hbw⟩
  · have HF : Hid ((l == m) = false) := by
      show _ = _
      simp only [beq_eq_false_iff_ne, ne_eq]
      intro e; exact hlm (by rw [e])
    have d1 : ((l.length : Int) != (m.length : Int)) = true := by simp; omega
    have d2 : ((l.length : Int) == (m.length : Int)) = false := by simp; omega
    clear hlm
    go_enter Try.func116, Try.ntmps116
    go_wp2
    go_ret
    exact ⟨ret_b HF.out.symm, Blw.is (Blw.refl _)⟩

set_option maxRecDepth 100000 in
set_option maxHeartbeats 1600000 in
theorem sameRatio_any (x y : FL) (w : World) (hx : FL.In w x) (hy : FL.In w y) (lx : x.r.num.length ≤ 1099511627776 ∧ x.r.den.length ≤ 1099511627776) (ly : y.r.num.length ≤ 1099511627776 ∧ y.r.den.length ≤ 1099511627776) :
    Calls Try.prog 91 #[frV x.r x.a x.c x.b x.d, frV y.r y.a y.c y.b y.d] w fun e w' => e = .returned (.bool (sameR x.r y.r)) ∧ ∃ z, w' = w.ext z := by
  have he : sameR x.r y.r = (x.r.neg == y.r.neg && (x.r.num == y.r.num && x.r.den == y.r.den)) := rfl
  have K1 := Lib.hid (fun (W : World) (hW : Blw w W) => sameWords_any x.a y.a x.r.num y.r.num x.c y.c W (hx.an.blw hW) (hy.an.blw hW) lx.1 ly.1)
  have K2 := Lib.hid (fun (W : World) (hW : Blw w W) => sameWords_any x.b y.b x.r.den y.r.den x.d y.d W (hx.ad.blw hW) (hy.ad.blw hW) lx.2 ly.2)
  clear hx hy lx ly
  obtain ⟨⟨xn, xu, xe⟩, xa, xc, xb, xd⟩ := x
  obtain ⟨⟨yn, yu, ye⟩, ya, yc, yb, yd⟩ := y
  simp only at he K1 K2
  generalize sameR _ _ = res at *
  generalize (xu == yu) = t1 at *
  generalize (xe == ye) = t2 at *
  have HE := Lib.hid he
  clear he
  go_enter Try.func91, Try.ntmps91
  cases xn <;> cases yn <;> cases t1 <;> cases t2
  all_goals
    go_wp2_with (go_at_call 116; (first | ((with_reducible refine (K1.out _ ?_).mono ?_); (· exact (by repeat (first | exact Blw.refl _ | apply Blw.ext | apply Blw.alloc | apply Blw.drewN | apply Blw.drew | refine Blw.setCell ?_ _ _ (by simp)))); rintro e w' ⟨rfl, z, rfl⟩) | ((with_reducible refine (K2.out _ ?_).mono ?_); (· exact (by repeat (first | exact Blw.refl _ | apply Blw.ext | apply Blw.alloc | apply Blw.drewN | apply Blw.drew | refine Blw.setCell ?_ _ _ (by simp)))); rintro e w' ⟨rfl, z, rfl⟩)))
    go_ret
    exact ⟨ret_b HE.out.symm, Blw.is (by repeat (first | exact Blw.refl _ | apply Blw.ext | apply Blw.alloc | apply Blw.drewN | apply Blw.drew | refine Blw.setCell ?_ _ _ (by simp)))⟩
end Go.Proofs.Ytigkfdoeneemeaa
/- slackwaterkit: words and fractions that are lent, walked. -/
namespace Go.Proofs.Ytigkfdoeneemeaa
open Go.RowKit

/-- What stands behind words that are lent. -/
def mkW : List Nat := [2882343476, 2882343477, 2882343478]
theorem mkW_at (k : Nat) (h : k < 3) : mkW[k]? = some (2882343476 + k) ∧ u32s (mkW.take (k + 1)) = u32s (mkW.take k) ++ [.int .u32 ((2882343476 + k : Nat) : Int)] := by
  have : k = 0 ∨ k = 1 ∨ k = 2 := by omega
  rcases this with rfl | rfl | rfl <;> exact ⟨rfl, rfl⟩

set_option maxHeartbeats 400000 in
theorem copyWords_any (a : Option Addr) (l : List Nat) (cap : Nat) (w : World) (h : Arr w a (u32s l)) (hn : a = none → cap = 0) (hl : l.length ≤ 1099511627776) :
    Calls Try.prog 161 #[.slice a l.length cap] w (RetOwn w 135 1 l.length (u32s l)) := by
  have hown : (w.alloc (.cells #[] 135)).ownsRow w.heap.size 135 1 (.slice (some ⟨w.heap.size, 0, none⟩) 0 0) 0 [] := World.ownsRow_made w #[] 0 (Nat.le_refl _) (Nat.zero_le _) rfl
  go_enter Try.func161, Try.ntmps161
  go_wp2_with (at_builtin; refine wpList_app w _ rfl _ _ 86 rfl sl_words ((Blw.refl w).alloc _) _ 0 [] rfl hown a l.length cap (u32s l) rfl hn (h.alloc _) (by simp) (u32s_one _) (by unfold maxLen; omega) (by omega) ?_; intro v' w1 hown1 hb1 _ _)
  go_ret
  exact RetOwn.of (by simpa using hown1) hb1

set_option maxHeartbeats 800000 in
theorem lentWords_any (a : Option Addr) (l : List Nat) (cap : Nat) (w : World) (h : Arr w a (u32s l)) (hn : a = none → cap = 0) (hl : l.length ≤ 1099511627776) :
    Calls Try.prog 149 #[.slice a l.length cap] w (RetOwn w 135 1 (l.length + 3) (u32s (l ++ mkW))) := by
  go_enter Try.func149, Try.ntmps149
  go_wp2_with (go_at_call 161; refine (copyWords_any a l cap _ h hn hl).mono ?_; rintro e w' ⟨a1, c1, x1, rfl, rfl, hown1, -, -⟩)
  go_loopw [3, 4] (fun v i wr => ∃ k : Nat, k ≤ 3 ∧ i = .int .i64 k ∧ wr.ownsRow w.heap.size 135 1 v (l.length + k) (u32s l ++ u32s (mkW.take k)) ∧ Blw w wr) (fun _ i _ => 3 - (intOf i).toNat)
  case atStart => exact ⟨0, by omega, rfl, by simpa using hown1, (Blw.refl w).ext x1⟩
  case round =>
    obtain ⟨k, hk, rfl, hown, hb⟩ := hrel
    clear hown1
    by_cases hlt : k < 3
    · obtain ⟨hf, hf2⟩ := mkW_at k hlt
      have e1 : ((2882343476 : Int) + (k : Int)) % 4294967296 = ((2882343476 + k : Nat) : Int) := by omega
      have e2 : ((k : Int) % 4294967296) = (k : Int) := by omega
      have HF2 := Lib.hid hf2
      clear hf hf2
      go_wp2_with (at_builtin; refine wpList_app w _ rfl _ _ 86 rfl sl_words (hb.alloc _) _ (l.length + k) _ rfl (ownsRow_blw hown ((Blw.refl _).alloc _)) _ 1 1 [.int .u32 ((2882343476 + k : Nat) : Int)] rfl (by simp) (Arr.lit _ _ _ _) (by simp) (by simp [Value.oneCell']) (by unfold maxLen; omega) (by omega) ?_; intro v' w1 hown1 hb1 _ _)
      go_roundw
      case rel => exact ⟨k + 1, by omega, by go_num, by
        rw [HF2.out, ← List.append_assoc]; exact hown1, hb1⟩
      case measure => simp [intOf]; omega
    · have hk3 : k = 3 := by omega
      subst hk3
      go_wp2_with fail
      go_ret
      refine RetOwn.of ?_ hb
      have e : u32s (l ++ mkW) = u32s l ++ u32s (mkW.take 3) := List.map_append (l₁ := l) (l₂ := mkW)
      rw [e]; exact hown

set_option maxHeartbeats 400000 in
theorem keptWords_any (a b : Option Addr) (l : List Nat) (c d : Nat) (w : World) (ha : Arr w a (u32s (l ++ mkW))) (hb : Arr w b (u32s l)) (hn : b = none → d = 0) (hl : l.length ≤ 1000000000) :
    Calls Try.prog 150 #[.slice a (l.length + 3) c, .slice b l.length d] w fun e w' => e = .returned (.bool true) ∧ ∃ x, w' = w.ext x := by
  have H1 := Lib.hid (lentWords_any b l d w hb hn (by omega))
  have hlen : (l ++ mkW).length = l.length + 3 := by simp [mkW]
  have H2 := fun (W : World) (hW : Blw w W) (a3 : Option Addr) (c3 : Nat) (h3 : Arr W a3 (u32s (l ++ mkW))) => sameWords_any a a3 (l ++ mkW) (l ++ mkW) c c3 W (ha.blw hW) h3 (by omega) (by omega)
  rw [hlen] at H2
  have hbe : ((l ++ mkW) == (l ++ mkW)) = true := by simp
  rw [hbe] at H2
  have HH2 := Lib.hid H2
  clear H2 hbe
  go_enter Try.func150, Try.ntmps150
  go_wp2_with fail
  refine Calls.mono H1.out ?_
  rintro e w1 ⟨a3, c3, x3, rfl, rfl, r1, r2, r3⟩
  go_wp2_with fail
  refine Calls.mono (HH2.out _ (World.blw_ext _ _) a3 c3 r2) ?_
  rintro e w2 ⟨rfl, x2, rfl⟩
  go_wp2
  go_ret
  exact ⟨rfl, Blw.is (by repeat (first | exact Blw.refl _ | apply Blw.ext | apply Blw.alloc | apply Blw.drewN | apply Blw.drew | refine Blw.setCell ?_ _ _ (by simp)))⟩

/-- A fraction that is lent: its words have room behind them. -/
def LentFL (B : Nat) (w : World) (x : FL) : Prop :=
  w.ownsRow B 135 1 (.slice x.a (x.r.num.length + 3) x.c) (x.r.num.length + 3) (u32s (x.r.num ++ mkW)) ∧ w.ownsRow B 135 1 (.slice x.b (x.r.den.length + 3) x.d) (x.r.den.length + 3) (u32s (x.r.den ++ mkW)) ∧ W.WF x.r.num ∧ W.WF x.r.den
theorem LentFL.blw {B : Nat} {w w' : World} {x : FL} (h : LentFL B w x) (k : Blw w w') : LentFL B w' x := ⟨ownsRow_blw h.1 k, ownsRow_blw h.2.1 k, h.2.2.1, h.2.2.2⟩
theorem LentFL.mono {B B' : Nat} {w : World} {x : FL} (h : LentFL B w x) (k : B' ≤ B) : LentFL B' w x := ⟨ownsRow_mono h.1 k, ownsRow_mono h.2.1 k, h.2.2.1, h.2.2.2⟩
theorem LentFL.past {B B2 n2 size2 : Nat} {e2 : TypeId} {w w' : World} {v2 : Value} {cs2 : List Value} {x : FL} (h : LentFL B w x) (k : w.ownsRow B2 e2 size2 v2 n2 cs2) (hne : (135 : TypeId) ≠ e2) (hg : w.grownBy w' v2.ownBlock) : LentFL B w' x :=
  ⟨own_past h.1 (Blw.refl w) hg (fun i hi => own_types h.1 k hne i hi), own_past h.2.1 (Blw.refl w) hg (fun i hi => own_types h.2.1 k hne i hi), h.2.2.1, h.2.2.2⟩
theorem LentFL.arrs {B : Nat} {w : World} {x : FL} (h : LentFL B w x) : Arr w x.a (u32s (x.r.num ++ mkW)) ∧ Arr w x.b (u32s (x.r.den ++ mkW)) ∧ x.r.num.length + 3 ≤ x.c ∧ x.r.den.length + 3 ≤ x.d ∧ x.c ≤ 9223372036854775807 ∧ x.d ≤ 9223372036854775807 ∧ ¬ x.a = none ∧ ¬ x.b = none := by
  obtain ⟨h1, h2, -, -⟩ := h
  obtain ⟨_, _, e, k1, k2, k3, k4, k5⟩ := own_arr h1
  cases e
  obtain ⟨_, _, e, j1, j2, j3, j4, j5⟩ := own_arr h2
  cases e
  exact ⟨k1, j1, k3, j3, k4, j4, fun e => by have := (k5 e).1; omega, fun e => by have := (j5 e).1; omega⟩
theorem LentFL.in {B : Nat} {w : World} {x : FL} (h : LentFL B w x) : FL.In w x := by
  obtain ⟨k1, j1, k3, j3, k4, j4, n1, n2⟩ := h.arrs
  exact ⟨arr_pre k1 (List.prefix_append _ _), arr_pre j1 (List.prefix_append _ _), by omega, k4, by omega, j4, fun e => absurd e n1, fun e => absurd e n2, h.2.2.1, h.2.2.2⟩

set_option maxRecDepth 100000 in
set_option maxHeartbeats 4000000 in
theorem lentRatio_any (r : Fr) (a : Option Addr) (c : Nat) (b : Option Addr) (d : Nat) (w : World) (h : FrA w r a c b d) (ln : r.num.length ≤ 1000000) (ld : r.den.length ≤ 1000000) :
    Calls Try.prog 120 #[frV r a c b d] w fun e w' => ∃ (a2 : Option Addr) (c2 : Nat) (b2 : Option Addr) (d2 : Nat), e = .returned (frV r a2 c2 b2 d2) ∧ Blw w w' ∧ LentFL w.heap.size w' ⟨r, a2, c2, b2, d2⟩ := by
  have wn := h.wn
  have wd := h.wd
  obtain ⟨S, hS⟩ : ∃ S : World → Prop, S = fun W => w.heap.size + 1 < W.heap.size ∧ Blw w W ∧ W.cell? ⟨w.heap.size, 0, none⟩ = some (.bool r.neg) ∧ W.cell? ⟨w.heap.size, 1, none⟩ = some (.slice a r.num.length c) ∧ W.cell? ⟨w.heap.size, 2, none⟩ = some (.slice b r.den.length d) := ⟨_, rfl⟩
  have KS : ∀ W W' : World, S W → Blw W W' → S W' := by
    subst hS
    rintro W W' ⟨h1, h2, h3, h4, h5⟩ hb
    exact ⟨Nat.lt_of_lt_of_le h1 hb.size, h2.trans hb, (Below.cell hb (by show w.heap.size < _; omega)).trans h3, (Below.cell hb (by show w.heap.size < _; omega)).trans h4, (Below.cell hb (by show w.heap.size < _; omega)).trans h5⟩
  have KR : ∀ W W' : World, W.heap[w.heap.size + 1]? = some (.cells #[.bool false, .slice none 0 0, .slice none 0 0] 88 (0, 0)) → Blw W W' → W'.heap[w.heap.size + 1]? = some (.cells #[.bool false, .slice none 0 0, .slice none 0 0] 88 (0, 0)) :=
    fun W W' hF hb => (KeptO.of_blw (O := fun _ => False) hb).heap hF id
  have RR : ∀ W : World, W.heap[w.heap.size + 1]? = some (.cells #[.bool false, .slice none 0 0, .slice none 0 0] 88 (0, 0)) → (∀ i, W.frozen? ⟨w.heap.size + 1, i, none⟩ = false) ∧ W.cell? ⟨w.heap.size + 1, 0, none⟩ = some (.bool false) ∧ W.cell? ⟨w.heap.size + 1, 1, none⟩ = some (.slice none 0 0) ∧ W.cell? ⟨w.heap.size + 1, 2, none⟩ = some (.slice none 0 0) :=
    fun W hF => ⟨fun i => frozen_of_row W _ i _ _ hF, (cell_of_row W _ 0 _ _ _ hF).trans rfl, (cell_of_row W _ 1 _ _ _ hF).trans rfl, (cell_of_row W _ 2 _ _ _ hF).trans rfl⟩
  have SB : ∀ W : World, S W → Blw w W := by
    subst hS
    rintro W ⟨h1, h2, -⟩; exact h2
  have T1 := fun (W : World) (hb : S W) => lentWords_any a r.num c W (h.an.blw (SB W hb)) (fun e => (h.na e).2) (by omega)
  have T2 := fun (W : World) (hb : S W) => lentWords_any b r.den d W (h.ad.blw (SB W hb)) (fun e => (h.nb e).2) (by omega)
  have HT1 := Lib.hid T1
  have HT2 := Lib.hid T2
  have HKS := Lib.hid KS
  have HSB := Lib.hid SB
  have HKR := Lib.hid KR
  have HRR := Lib.hid RR
  obtain ⟨rn, rnum, rden⟩ := r
  simp only at hS HT1 HT2 ln ld wn wd
  clear T1 T2 KS KR RR SB h
  go_enter Try.func120, Try.ntmps120
  go_wp2_with fail
  have hS0 : S ((w.alloc (.cells #[.bool rn, .slice a rnum.length c, .slice b rden.length d] 88 (0, 0))).alloc (.cells #[.bool false, .slice none 0 0, .slice none 0 0] 88 (0, 0))).drew := by
    rw [hS]
    exact ⟨by simp, (by repeat (first | exact Blw.refl _ | apply Blw.ext | apply Blw.alloc | apply Blw.drewN | apply Blw.drew | refine Blw.setCell ?_ _ _ (by simp))), by go_simp, by go_simp, by go_simp⟩
  have hR0 : ((w.alloc (.cells #[.bool rn, .slice a rnum.length c, .slice b rden.length d] 88 (0, 0))).alloc (.cells #[.bool false, .slice none 0 0, .slice none 0 0] 88 (0, 0))).drew.heap[w.heap.size + 1]? = some (.cells #[.bool false, .slice none 0 0, .slice none 0 0] 88 (0, 0)) := by
    have := heap_alloc_new (w.alloc (.cells #[.bool rn, .slice a rnum.length c, .slice b rden.length d] 88 (0, 0))) (.cells #[.bool false, .slice none 0 0, .slice none 0 0] 88 (0, 0))
    rw [show (w.alloc (.cells #[.bool rn, .slice a rnum.length c, .slice b rden.length d] 88 (0, 0))).heap.size = w.heap.size + 1 by simp] at this
    exact this
  have hsz : w.heap.size + 2 ≤ ((w.alloc (.cells #[.bool rn, .slice a rnum.length c, .slice b rden.length d] 88 (0, 0))).alloc (.cells #[.bool false, .slice none 0 0, .slice none 0 0] 88 (0, 0))).drew.heap.size := by simp
  subst hS
  go_region_held3 (fun W => w.heap.size + 1 < W.heap.size ∧ Blw w W ∧ W.cell? ⟨w.heap.size, 0, none⟩ = some (.bool rn) ∧ W.cell? ⟨w.heap.size, 1, none⟩ = some (.slice a rnum.length c) ∧ W.cell? ⟨w.heap.size, 2, none⟩ = some (.slice b rden.length d)) (first | assumption | (refine ⟨?_, blw_three (HSB.out _ (by assumption)) (Nat.le_succ _) _ _ _, ?_, ?_, ?_⟩ <;> go_keep) | go_keep) (first
    | (go_at_call 149; (with_reducible refine Calls.mono (HT1.out _ (by assumption)) ?_); rintro e w9 ⟨p1, q1, y1, rfl, rfl, o1, -, -⟩; have hc1 := own_cap o1; have hc1i : (rnum.length : Int) ≤ (q1 : Int) := (by omega); have hS1 := HKS.out _ _ (by assumption) (World.blw_ext _ y1); have hR1 := HKR.out _ _ (by assumption) (World.blw_ext _ y1); have hRR := HRR.out _ hR1)
    | (go_at_call 149; (with_reducible refine Calls.mono (HT2.out _ (by assumption)) ?_); rintro e w9 ⟨p2, q2, y2, rfl, rfl, o2, -, -⟩; have hc2 := own_cap o2; have hc2i : (rden.length : Int) ≤ (q2 : Int) := (by omega); have hS2 := HKS.out _ _ (by assumption) (World.blw_ext _ y2); have hR2 := HKR.out _ _ (by assumption) (World.blw_ext _ y2); have hRR2 := HRR.out _ hR2))
  clear HT1 HT2 HKS HKR HRR hS0 hR0 hS1 hS2 hRR hRR2
  obtain ⟨hfz, e0, e1, e2, r0, r1, r2⟩ := three hR2 (.bool rn) (.slice p1 rnum.length q1) (.slice p2 rden.length q2)
  have oF := ownsRow_mono (ownsRow_blw o1 (World.blw_ext _ y2)) hsz
  have oS := ownsRow_mono o2 (Nat.le_trans hsz (World.le_ext _ y1))
  go_wp2_with fail
  refine bodyPost_ret (v := .agg #[.bool rn, .slice p1 rnum.length q1, .slice p2 rden.length q2]) (by simp [results, Try.results120, go_sem, r0, r1, r2]) rfl ?_
  exact ⟨p1, q1, p2, q2, rfl, blw_three (by repeat (first | exact Blw.refl _ | apply Blw.ext | apply Blw.alloc | apply Blw.drewN | apply Blw.drew | refine Blw.setCell ?_ _ _ (by simp))) (Nat.le_succ _) _ _ _, own_three oF (Nat.lt_succ_self _) _ _ _ |> (ownsRow_mono · (by omega)), own_three oS (Nat.lt_succ_self _) _ _ _ |> (ownsRow_mono · (by omega)), wn, wd⟩

set_option maxRecDepth 100000 in
set_option maxHeartbeats 4000000 in
theorem keptRatio_any (B : Nat) (x : FL) (a : Option Addr) (c : Nat) (b : Option Addr) (d : Nat) (w : World) (hx : LentFL B w x) (h : FrA w x.r a c b d) (ln : x.r.num.length ≤ 1000000) (ld : x.r.den.length ≤ 1000000) :
    Calls Try.prog 125 #[frV x.r x.a x.c x.b x.d, frV x.r a c b d] w fun e w' => e = .returned (.bool true) ∧ ∃ z, w' = w.ext z := by
  obtain ⟨k1, j1, k3, j3, -, -, -, -⟩ := hx.arrs
  have H1 := Lib.hid (fun (W : World) (hW : Blw w W) => keptWords_any x.a a x.r.num x.c c W (k1.blw hW) (h.an.blw hW) (fun e => (h.na e).2) (by omega))
  have H2 := Lib.hid (fun (W : World) (hW : Blw w W) => keptWords_any x.b b x.r.den x.d d W (j1.blw hW) (h.ad.blw hW) (fun e => (h.nb e).2) (by omega))
  clear hx h k1 j1
  obtain ⟨⟨rn, rnum, rden⟩, xa, xc, xb, xd⟩ := x
  simp only at H1 H2 k3 j3 ln ld
  have i1 : (rnum.length : Int) + 3 ≤ (xc : Int) := by omega
  have i2 : (rden.length : Int) + 3 ≤ (xd : Int) := by omega
  have i3 : IntKind.i64.wrap ((rnum.length : Int) + 3) = (rnum.length : Int) + 3 := by rw [IntKind.wrap_i64]; omega
  have i4 : IntKind.i64.wrap ((rden.length : Int) + 3) = (rden.length : Int) + 3 := by rw [IntKind.wrap_i64]; omega
  have i5 : ((rnum.length : Int) + 3).toNat = rnum.length + 3 := by omega
  have i6 : ((rden.length : Int) + 3).toNat = rden.length + 3 := by omega
  have i7 : (0 : Int) ≤ (rnum.length : Int) + 3 := by omega
  have i8 : (0 : Int) ≤ (rden.length : Int) + 3 := by omega
  cases rn
  all_goals
    go_enter Try.func125, Try.ntmps125
    go_wp2_with fail
    refine wp_region_ext_lit (by kernel_rfl) (by kernel_rfl) ?_
    repeat (quiet_step ((go_at_call 150; first | (with_reducible exact Calls.ext_of (H1.out _ (by repeat (first | exact Blw.refl _ | apply Blw.ext | apply Blw.alloc | apply Blw.drewN | apply Blw.drew | refine Blw.setCell ?_ _ _ (by simp))))) | (with_reducible exact Calls.ext_of (H2.out _ (by repeat (first | exact Blw.refl _ | apply Blw.ext | apply Blw.alloc | apply Blw.drewN | apply Blw.drew | refine Blw.setCell ?_ _ _ (by simp))))))))
    refine wpQuiet_nil ?_
    rintro _ ⟨z, rfl⟩
    go_wp2
    go_ret
    exact ⟨rfl, Blw.is (by repeat (first | exact Blw.refl _ | apply Blw.ext | apply Blw.alloc | apply Blw.drewN | apply Blw.drew | refine Blw.setCell ?_ _ _ (by simp)))⟩
end Go.Proofs.Ytigkfdoeneemeaa
/- slackwaterkit: waters that are lent, walked. -/
namespace Go.Proofs.Ytigkfdoeneemeaa
open Go.RowKit

/-- What stands behind waters that are lent. -/
def wSp (k : Nat) : List WL := List.replicate k ⟨-7, 0, false, fl0⟩
theorem wls_app (l m : List WL) : wls (l ++ m) = wls l ++ wls m := List.flatMap_append
theorem wSp_cells (k : Nat) : wls (wSp (k + 1)) = wls (wSp k) ++ [.int .i64 (-7), .int .i64 0, .bool false, .bool false, .slice none 0 0, .slice none 0 0] := by
  unfold wSp
  rw [List.replicate_succ', wls, List.flatMap_append]; rfl

set_option maxRecDepth 100000 in
set_option maxHeartbeats 8000000 in
theorem lentWaters_any (A : Option Addr) (l : List WL) (cap : Nat) (w : World) (hA : Arr w A (wls l)) (hin : ∀ x ∈ l, FL.In w x.h) (hl : l.length ≤ 100000) (hs : ∀ x ∈ l, x.h.r.num.length ≤ 1000000 ∧ x.h.r.den.length ≤ 1000000) :
    Calls Try.prog 66 #[.slice A l.length cap] w fun e w' => ∃ (ls : List WL) (a : Option Addr) (c : Nat), e = .returned (.slice a (l.length + 3) c) ∧ Blw w w' ∧ w'.ownsRow w.heap.size 90 6 (.slice a (l.length + 3) c) (l.length + 3) (wls (ls ++ wSp 3)) ∧ ls.map WL.key = l.map WL.key ∧ ∀ x ∈ ls, LentFL w.heap.size w' x.h := by
  have HIN := Lib.hid hin
  have HS := Lib.hid hs
  clear hin hs
  go_enter Try.func66, Try.ntmps66
  go_wp2_with fail
  go_loopw [3, 4] (fun v i wr => ∃ (k : Nat) (ls : List WL), k ≤ l.length ∧ i = .int .i64 k ∧ wr.ownsRow w.heap.size 90 6 v k (wls ls) ∧ Blw w wr ∧ Hid (ls.map WL.key = (l.take k).map WL.key) ∧ Hid (∀ x ∈ ls, LentFL w.heap.size wr x.h)) (fun _ i _ => l.length - (intOf i).toNat)
  case atStart => exact ⟨0, [], Nat.zero_le _, rfl, World.ownsRow_nil _ _ _ _, Blw.refl w, rfl, fun x hx => by simp at hx⟩
  case round =>
    obtain ⟨k, ls, hk, rfl, hown, hb, hkey, hll⟩ := hrel
    by_cases hlt : k < l.length
    · obtain ⟨x, b, o, hgx, hmx, rfl, hbs, c0, c1, c2, c3, c4, c5⟩ := wl_at hA hlt
      have hxin := HIN.out x hmx
      obtain ⟨lnx, ldx⟩ := HS.out x hmx
      obtain ⟨xt, xl, xp, ⟨⟨rn, rnum, rden⟩, ra, rc, rb, rd⟩⟩ := x
      simp only at c0 c1 c2 c3 c4 c5 lnx ldx hxin
      obtain ⟨S, hS⟩ : ∃ S : World → Prop, S = fun W => b < W.heap.size ∧ Blw w W ∧ W.cell? ⟨b, o + k * 6, none⟩ = some (.int .i64 xt) ∧ W.cell? ⟨b, o + k * 6 + 1, none⟩ = some (.int .i64 xl) ∧ W.cell? ⟨b, o + k * 6 + 2, none⟩ = some (.bool xp) ∧ W.cell? ⟨b, o + k * 6 + 3, none⟩ = some (.bool rn) ∧ W.cell? ⟨b, o + k * 6 + 4, none⟩ = some (.slice ra rnum.length rc) ∧ W.cell? ⟨b, o + k * 6 + 5, none⟩ = some (.slice rb rden.length rd) := ⟨_, rfl⟩
      have KS : ∀ W W' : World, S W → Blw W W' → S W' := by
        subst hS
        rintro W W' ⟨h1, h2, d0, d1, d2, d3, d4, d5⟩ hW
        exact ⟨Nat.lt_of_lt_of_le h1 hW.size, h2.trans hW, (Below.cell hW h1).trans d0, (Below.cell hW h1).trans d1, (Below.cell hW h1).trans d2, (Below.cell hW h1).trans d3, (Below.cell hW h1).trans d4, (Below.cell hW h1).trans d5⟩
      have SB : ∀ W : World, S W → Blw w W := by
        subst hS
        rintro W ⟨h1, h2, -⟩; exact h2
      have HLR := Lib.hid (fun (W : World) (hW : S W) => lentRatio_any ⟨rn, rnum, rden⟩ ra rc rb rd W (FrA.blw hxin (SB W hW)) lnx ldx)
      have hS0 : S w := by rw [hS]; exact ⟨hbs, Blw.refl w, c0, c1, c2, c3, c4, c5⟩
      have hSd := KS _ _ hS0 hb.drew
      have HGX := Lib.hid hgx
      have HWX := Lib.hid (And.intro (FrA.wn hxin) (FrA.wd hxin))
      have HKS := Lib.hid KS
      have HSB := Lib.hid SB
      clear hxin hgx hmx lnx ldx KS SB c0 c1 c2 c3 c4 c5
      have hk1 : k ≤ 100000 := by omega
      have HCL := Lib.hid (cells_len WL.cells 6 (fun _ => rfl) ls)
      go_wp2_with fail
      subst hS
      go_region_held3 (fun W => b < W.heap.size ∧ Blw w W ∧ W.cell? ⟨b, o + k * 6, none⟩ = some (.int .i64 xt) ∧ W.cell? ⟨b, o + k * 6 + 1, none⟩ = some (.int .i64 xl) ∧ W.cell? ⟨b, o + k * 6 + 2, none⟩ = some (.bool xp) ∧ W.cell? ⟨b, o + k * 6 + 3, none⟩ = some (.bool rn) ∧ W.cell? ⟨b, o + k * 6 + 4, none⟩ = some (.slice ra rnum.length rc) ∧ W.cell? ⟨b, o + k * 6 + 5, none⟩ = some (.slice rb rden.length rd)) (first | assumption | (exact HKS.out _ _ (by assumption) ((Blw.refl _).alloc _))) (first
        | (go_at_call 120; (with_reducible refine Calls.mono (HLR.out _ (by assumption)) ?_); rintro e w9 ⟨p1, q1, p2, q2, rfl, b9, L9⟩; have hS1 := HKS.out _ _ (by assumption) b9)
        | (refine step_app w _ (by rfl) _ _ 84 (by rfl) sl_waters ?_ _ k (wls ls) (by rfl) (ownsRow_blw hown ?_) _ 1 1 [.int .i64 xt, .int .i64 xl, .bool xp, .bool rn, .slice p1 rnum.length q1, .slice p2 rden.length q2] (by rfl) (by simp) (Arr.lit_at _ _ _ _ rfl) (by simp) (by simp [Value.oneCell']) (by unfold maxLen; omega) (by omega) ?_
           · exact (HSB.out _ hS1).alloc _
           · exact ((Blw.refl wr).drew.trans b9).alloc _
           intro v7 w7 hown7 hb7 hg7 _
           have hS7 := HKS.out _ _ hS0 hb7))
      have HKY : Hid ((ls ++ [(⟨xt, xl, xp, ⟨⟨rn, rnum, rden⟩, p1, q1, p2, q2⟩⟩ : WL)]).map WL.key = (l.take (k + 1)).map WL.key) := by
        show _ = _
        rw [List.map_append, hkey.out, List.take_add_one, HGX.out]
        simp [WL.key]
      have HO : Hid (∀ x ∈ ls ++ [(⟨xt, xl, xp, ⟨⟨rn, rnum, rden⟩, p1, q1, p2, q2⟩⟩ : WL)], LentFL w.heap.size w7 x.h) := by
        intro x hx
        rw [List.mem_append, List.mem_singleton] at hx
        have hB9 := ((Blw.refl wr).drew.trans b9)
        rcases hx with hx | rfl
        · exact LentFL.past ((hll.out x hx).blw (hB9.alloc _)) (ownsRow_blw hown (hB9.alloc _)) (by decide) hg7
        · exact LentFL.past (LentFL.blw (LentFL.mono L9 hb.size) ((Blw.refl w9).alloc _)) (ownsRow_blw hown (hB9.alloc _)) (by decide) hg7
      have HOL : Hid (w7.ownsRow w.heap.size 90 6 v7 (k + 1) (wls (ls ++ [(⟨xt, xl, xp, ⟨⟨rn, rnum, rden⟩, p1, q1, p2, q2⟩⟩ : WL)]))) := by
        have e : wls (ls ++ [(⟨xt, xl, xp, ⟨⟨rn, rnum, rden⟩, p1, q1, p2, q2⟩⟩ : WL)]) = wls ls ++ [.int .i64 xt, .int .i64 xl, .bool xp, .bool rn, .slice p1 rnum.length q1, .slice p2 rden.length q2] := by
          rw [wls, List.flatMap_append]; rfl
        show World.ownsRow _ _ _ _ _ _ _
        rw [e]
        exact hown7
      clear hown7 hg7 hS7 hS1 hS0 hSd HSB HKS HLR L9 b9 hown hll hkey
      go_wp2
      go_roundw
      case rel => exact ⟨k + 1, _, by omega, by go_num, HOL.out, hb7, HKY, HO⟩
      case measure => simp [intOf]; omega
    · have hkl : k = l.length := by omega
      subst hkl
      have hlen : ls.length = l.length := by
        have := congrArg List.length hkey.out
        simpa using this
      have HKY : Hid (ls.map WL.key = l.map WL.key) := by
        show _ = _
        rw [hkey.out, List.take_length]
      have HLEN := Lib.hid hlen
      clear hkey hlen hA
      go_wp2_with fail
      go_loopw [3, 5] (fun v i wx => ∃ k : Nat, k ≤ 3 ∧ i = .int .i64 k ∧ wx.ownsRow w.heap.size 90 6 v (l.length + k) (wls (ls ++ wSp k)) ∧ Blw w wx ∧ Hid (∀ x ∈ ls, LentFL w.heap.size wx x.h)) (fun _ i _ => 3 - (intOf i).toNat)
      case atStart => exact ⟨0, by omega, rfl, by simpa [wSp] using hown, hb, hll⟩
      case round =>
        obtain ⟨k, hk3, rfl, hown2, hb2, hll2⟩ := hrel
        by_cases hlt2 : k < 3
        · have HCL := Lib.hid (cells_len WL.cells 6 (fun _ => rfl) ls)
          have k3 : l.length + k + 1 ≤ 100010 := by omega
          go_wp2_with (at_builtin; refine wpList_app w _ rfl _ _ 84 rfl sl_waters (hb2.alloc _) _ (l.length + k) _ rfl (ownsRow_blw hown2 ((Blw.refl _).alloc _)) _ 1 1 [.int .i64 (-7), .int .i64 0, .bool false, .bool false, .slice none 0 0, .slice none 0 0] rfl (by simp) (Arr.lit _ _ _ _) (by simp) (by simp [Value.oneCell']) (by unfold maxLen; omega) (by omega) ?_; intro v7 w7 hown7 hb7 hg7 _)
          have HO : Hid (∀ x ∈ ls, LentFL w.heap.size w7 x.h) := fun x hx => LentFL.past ((hll2.out x hx).blw ((Blw.refl _).alloc _)) (ownsRow_blw hown2 ((Blw.refl _).alloc _)) (by decide) hg7
          have HOL : Hid (w7.ownsRow w.heap.size 90 6 v7 (l.length + (k + 1)) (wls (ls ++ wSp (k + 1)))) := by
            have e : wls (ls ++ wSp (k + 1)) = wls (ls ++ wSp k) ++ [.int .i64 (-7), .int .i64 0, .bool false, .bool false, .slice none 0 0, .slice none 0 0] := by
              rw [wls_app, wls_app, List.append_assoc]
              exact congrArg _ (wSp_cells k)
            show World.ownsRow _ _ _ _ _ _ _
            rw [e]
            exact hown7
          clear hown7 hg7 hll2 hown2 hll hown
          go_roundw
          case rel => exact ⟨k + 1, by omega, by go_num, HOL.out, hb7, HO⟩
          case measure => simp [intOf]; omega
        · have : k = 3 := by omega
          subst this
          obtain ⟨a7, c7, rfl, -, -, -, -, -⟩ := own_arr hown2
          go_wp2_with fail
          go_ret
          exact ⟨ls, a7, c7, rfl, hb2, hown2, HKY.out, hll2.out⟩
end Go.Proofs.Ytigkfdoeneemeaa
/- slackwaterkit.KeptWaters, walked. -/
namespace Go.Proofs.Ytigkfdoeneemeaa
open Go.RowKit

set_option maxRecDepth 100000 in
set_option maxHeartbeats 8000000 in
theorem keptWaters_any (G : Nat) (A B : Option Addr) (ls l : List WL) (c d : Nat) (w : World) (hA : Arr w A (wls (ls ++ wSp 3))) (hB : Arr w B (wls l)) (hkey : ls.map WL.key = l.map WL.key) (hL : ∀ x ∈ ls, LentFL G w x.h) (hin : ∀ x ∈ l, FL.In w x.h) (hl : l.length ≤ 100000) (hs : ∀ x ∈ l, x.h.r.num.length ≤ 1000000 ∧ x.h.r.den.length ≤ 1000000) :
    Calls Try.prog 73 #[.slice A (l.length + 3) c, .slice B l.length d] w fun e w' => e = .returned (.bool true) ∧ ∃ z, w' = w.ext z := by
  have hlen : ls.length = l.length := by simpa using congrArg List.length hkey
  have hfl : (ls ++ wSp 3).length = l.length + 3 := by simp [wSp, hlen]
  have HK := Lib.hid hkey
  have HL := Lib.hid hL
  have HIN := Lib.hid hin
  have HS := Lib.hid hs
  have HLEN := Lib.hid hlen
  have HFL := Lib.hid hfl
  have d1 : ((l.length : Int) + 3 != (l.length : Int) + 3) = false := by simp
  clear hkey hL hin hs hlen hfl
  go_enter Try.func73, Try.ntmps73
  go_wp2_with fail
  clear d1
  go_loopw [5] (fun i wr => ∃ k : Nat, k ≤ l.length ∧ i = .int .i64 k ∧ Blw w wr) (fun i _ => l.length - (intOf i).toNat)
  case atStart => exact ⟨0, Nat.zero_le _, rfl, Blw.refl w⟩
  case round =>
    obtain ⟨k, hk, rfl, hb⟩ := hrel
    by_cases hlt : k < l.length
    · obtain ⟨y, b2, o2, hgy, hmy, rfl, hbs2, e0, e1, e2, e3, e4, e5⟩ := wl_at (hB.blw hb) hlt
      obtain ⟨x, b1, o1, hgx, hmx, rfl, hbs1, c0, c1, c2, c3, c4, c5⟩ := wl_at (hA.blw hb) (show k < (ls ++ wSp 3).length by rw [HFL.out]; omega)
      have hgx2 : ls[k]? = some x := by rw [← hgx, List.getElem?_append_left (by rw [HLEN.out]; exact hlt)]
      have hky : WL.key x = WL.key y := by
        have := congrArg (fun z : List (Int × Int × Bool × Fr) => z[k]?) HK.out
        simp only [List.getElem?_map, hgx2, hgy, Option.map_some, Option.some.injEq] at this
        exact this
      have hml : x ∈ ls := List.mem_of_getElem? hgx2
      have hxl := (HL.out x hml).blw hb
      have hyn := (HIN.out y hmy).blw hb
      obtain ⟨lny, ldy⟩ := HS.out y hmy
      obtain ⟨xt, xl, xp, ⟨xr, xa, xc, xb, xd⟩⟩ := x
      obtain ⟨yt, yl, yp, ⟨yr, ya, yc, yb, yd⟩⟩ := y
      simp only [WL.key, Prod.mk.injEq] at hky
      obtain ⟨rfl, rfl, rfl, rfl⟩ := hky
      have HKR := Lib.hid (fun (W : World) (hW : Blw wr W) => keptRatio_any G ⟨xr, xa, xc, xb, xd⟩ ya yc yb yd W (hxl.blw hW) (FrA.blw hyn hW) lny ldy)
      obtain ⟨rn, rnum, rden⟩ := xr
      simp only at HKR c3 c4 c5 e3 e4 e5
      have j1 : (k : Int) < (l.length : Int) + 3 := by omega
      have j2 : (0 : Int) ≤ (k : Int) := by omega
      have j3 : (k : Int) < (l.length : Int) := by omega
      clear hgx hgy hgx2 hmx hmy hml hxl hyn lny ldy
      cases xp
      all_goals
        go_wp2_with fail
        refine wp_region_ext_lit (by kernel_rfl) (by kernel_rfl) ?_
        repeat (quiet_step ((go_at_call 125; (with_reducible exact Calls.ext_of (HKR.out _ (by repeat (first | exact Blw.refl _ | apply Blw.ext | apply Blw.alloc | apply Blw.drewN | apply Blw.drew | refine Blw.setCell ?_ _ _ (by simp))))))))
        refine wpQuiet_nil ?_
        rintro _ ⟨z, rfl⟩
        go_wp2
        go_roundw
        case rel => exact ⟨k + 1, by omega, by go_num, hb.ext z⟩
        case measure => simp [intOf]; omega
    · have hkl : k = l.length := by omega
      subst hkl
      go_wp2_with fail
      go_loopw [6] (fun i wx => ∃ k : Nat, k ≤ 3 ∧ i = .int .i64 ((l.length + k : Nat) : Int) ∧ Blw w wx) (fun i _ => l.length + 3 - (intOf i).toNat)
      case atStart => exact ⟨0, by omega, rfl, hb⟩
      case round =>
        obtain ⟨k, hk3, rfl, hb2⟩ := hrel
        by_cases hlt2 : k < 3
        · obtain ⟨x, b1, o1, hgx, hmx, rfl, hbs1, c0, c1, c2, c3, c4, c5⟩ := wl_at (k := l.length + k) (hA.blw hb2) (by rw [HFL.out]; omega)
          have hx : x = ⟨-7, 0, false, fl0⟩ := by
            rw [List.getElem?_append_right (by rw [HLEN.out]; omega), HLEN.out, Nat.add_sub_cancel_left, wSp, List.getElem?_replicate, if_pos hlt2] at hgx
            exact (Option.some.inj hgx).symm
          subst hx
          simp only at c0
          have j1 : (l.length : Int) + (k : Int) < (l.length : Int) + 3 := by omega
          have j2 : (0 : Int) ≤ (l.length : Int) + (k : Int) := by omega
          have j3 : ((l.length : Int) + (k : Int)).toNat = l.length + k := by omega
          clear hgx hmx c1 c2 c3 c4 c5
          go_wp2_with fail
          go_roundw
          case rel => exact ⟨k + 1, by omega, by go_num, hb2⟩
          case measure => simp [intOf]; omega
        · have : k = 3 := by omega
          subst this
          have j1 : decide ((l.length : Int) + 3 < (l.length : Int) + 3) = false := by simp
          go_wp2_with fail
          go_ret
          exact ⟨rfl, Blw.is hb2⟩
end Go.Proofs.Ytigkfdoeneemeaa
/- Waters that are the same but for where they lie: the same checks, the same highest one. -/
namespace Go.Proofs.Ytigkfdoeneemeaa
open Go.RowKit

theorem key_at {ls l : List WL} (h : ls.map WL.key = l.map WL.key) (i : Nat) : (ls[i]? = none ∧ l[i]? = none) ∨ ∃ x y, ls[i]? = some x ∧ l[i]? = some y ∧ WL.key x = WL.key y := by
  have := congrArg (fun z : List (Int × Int × Bool × Fr) => z[i]?) h
  simp only [List.getElem?_map] at this
  cases h1 : ls[i]? with
  | none =>
    cases h2 : l[i]? with
    | none => exact .inl ⟨rfl, rfl⟩
    | some y => rw [h1, h2] at this; simp at this
  | some x =>
    cases h2 : l[i]? with
    | none => rw [h1, h2] at this; simp at this
    | some y =>
      rw [h1, h2] at this
      exact .inr ⟨x, y, rfl, rfl, by simpa using this⟩
theorem key_parts {x y : WL} (h : WL.key x = WL.key y) : x.tick = y.tick ∧ x.last = y.last ∧ x.top = y.top ∧ x.h.r = y.h.r := by
  simp only [WL.key, Prod.mk.injEq] at h
  exact h
theorem wrongN_key {x y : WL} (h : WL.key x = WL.key y) : wrongN x = wrongN y := by
  obtain ⟨h1, h2, h3, h4⟩ := key_parts h
  unfold wrongN
  rw [h1, h2, h4]
theorem wrongS_key {x y x' y' : WL} (h : WL.key x = WL.key x') (k : WL.key y = WL.key y') : wrongS y x = wrongS y' x' := by
  obtain ⟨h1, h2, h3, h4⟩ := key_parts h
  obtain ⟨k1, k2, k3, k4⟩ := key_parts k
  unfold wrongS
  rw [h1, h2, h3, h4, k2, k3, k4]
theorem chkAt_key {ls l : List WL} (h : ls.map WL.key = l.map WL.key) (i : Nat) : chkAt ls i = chkAt l i := by
  unfold chkAt
  rcases key_at h i with ⟨h1, h2⟩ | ⟨x, y, h1, h2, h3⟩
  · rw [h1, h2]
  · rw [h1, h2]
    simp only
    split
    · exact wrongN_key h3
    · rcases key_at h (i - 1) with ⟨g1, g2⟩ | ⟨x', y', g1, g2, g3⟩
      · rw [g1, g2]
      · rw [g1, g2]; exact wrongS_key h3 g3
theorem checkW_key {ls l : List WL} (h : ls.map WL.key = l.map WL.key) : checkW ls = checkW l := by
  have hl : ls.length = l.length := by simpa using congrArg List.length h
  have hf : chkAt ls = chkAt l := funext (chkAt_key h)
  unfold checkW
  rw [hl, hf]
theorem rgW_key {ls l : List WL} (h : ls.map WL.key = l.map WL.key) (b : Nat) : rgW ls b = rgW l b := by
  unfold rgW
  rcases key_at h b with ⟨h1, h2⟩ | ⟨x, y, h1, h2, h3⟩
  · rw [h1, h2]
  · rw [h1, h2]; exact (key_parts h3).2.2.2
theorem farS_key {ls l : List WL} (h : ls.map WL.key = l.map WL.key) (top : Bool) (to : Int) : ∀ k, farS ls top to k = farS l top to k := by
  intro k
  induction k with
  | zero => rfl
  | succ k ih =>
    unfold farS
    rcases key_at h k with ⟨h1, h2⟩ | ⟨x, y, h1, h2, h3⟩
    · rw [h1, h2]; exact ih
    · obtain ⟨-, -, e3, e4⟩ := key_parts h3
      rw [h1, h2]
      simp only [ih, e3, e4]
      split
      · split
        · rfl
        · rw [rgW_key h]
      · rfl
theorem farW_key {ls l : List WL} (h : ls.map WL.key = l.map WL.key) (top : Bool) (to : Int) : farW ls top to = farW l top to := by
  have hl : ls.length = l.length := by simpa using congrArg List.length h
  unfold farW
  rw [checkW_key h, hl, farS_key h]
end Go.Proofs.Ytigkfdoeneemeaa
/- The walk of the law WaterChecks. -/
namespace Go.Proofs.Ytigkfdoeneemeaa
open Go.RowKit

theorem smF_len {r : Fr} (h : smF r = true) : r.num.length ≤ 1000000 ∧ r.den.length ≤ 1000000 := by
  unfold smF smW at h
  simp at h
  omega

set_option maxRecDepth 100000 in
set_option maxHeartbeats 4000000 in
theorem checks_walk (A : Option Addr) (l : List WL) (cap : Nat) (w : World) (hA : Arr w A (wls l)) (hin : ∀ x ∈ l, FL.In w x.h) (hl : l.length ≤ 9223372036854775807) (hcap : l.length ≤ cap) (hcm : cap ≤ 9223372036854775807) :
    Calls Try.prog 10 #[.slice A l.length cap] w fun e w' => e = .returned (.bool true) ∧ ∃ x, w' = w.ext x := by
  by_cases h0 : (60 < l.length ∧ l.length ≤ 4096) ∨ 4105 < l.length
  · rcases h0 with ⟨h1, h2⟩ | h1
    · have d1 : decide ((60 : Int) < (l.length : Int)) = true := by simp; omega
      have d2 : decide ((l.length : Int) ≤ 4096) = true := by simp; omega
      go_enter Try.func10, Try.ntmps10
      go_wp2
      go_ret
      exact ⟨rfl, Blw.is (by repeat (first | exact Blw.refl _ | apply Blw.ext | apply Blw.alloc | apply Blw.drewN | apply Blw.drew | refine Blw.setCell ?_ _ _ (by simp)))⟩
    · have d1 : decide ((60 : Int) < (l.length : Int)) = true := by simp; omega
      have d2 : decide ((l.length : Int) ≤ 4096) = false := by simp; omega
      have d3 : decide ((4105 : Int) < (l.length : Int)) = true := by simp; omega
      go_enter Try.func10, Try.ntmps10
      go_wp2
      go_ret
      exact ⟨rfl, Blw.is (by repeat (first | exact Blw.refl _ | apply Blw.ext | apply Blw.alloc | apply Blw.drewN | apply Blw.drew | refine Blw.setCell ?_ _ _ (by simp)))⟩
  have hcs : decide ((60 : Int) < (l.length : Int)) = false ∨ (decide ((60 : Int) < (l.length : Int)) = true ∧ decide ((l.length : Int) ≤ 4096) = false) := by
    by_cases h1 : 60 < l.length
    · exact .inr ⟨by simp; omega, by simp; omega⟩
    · exact .inl (by simp; omega)
  have d3 : decide ((4105 : Int) < (l.length : Int)) = false := by simp; omega
  have hl4 : l.length ≤ 4105 := by omega
  have HIN := Lib.hid hin
  clear h0 hin hl
  go_enter Try.func10, Try.ntmps10
  rcases hcs with d1 | ⟨d1, d2⟩
  all_goals
    go_wp2
    clear d1 d3
    (try clear d2)
    go_loopw [3] (fun i wr => ∃ k : Nat, k ≤ l.length ∧ i = .int .i64 k ∧ Blw w wr ∧ Hid (∀ x ∈ l.take k, smF x.h.r = true)) (fun i _ => l.length - (intOf i).toNat)
    case atStart => exact ⟨0, Nat.zero_le _, rfl, Blw.refl w, fun x hx => by simp at hx⟩
    case round =>
      obtain ⟨k, hk, rfl, hb, hsm⟩ := hrel
      by_cases hlt : k < l.length
      · obtain ⟨x, b, o, hgx, hmx, rfl, hbs, c0, c1, c2, c3, c4, c5⟩ := wl_at (hA.blw hb) hlt
        have hxin : FrA wr x.h.r x.h.a x.h.c x.h.b x.h.d := (HIN.out x hmx).blw hb
        have hsc := law04Small_any x.h.r x.h.a x.h.c x.h.b x.h.d wr (Nat.le_trans hxin.cn hxin.cm) (Nat.le_trans hxin.dn hxin.dm)
        have HT : Hid (l.take (k + 1) = l.take k ++ [x]) := by show _ = _; rw [List.take_add_one, hgx]; rfl
        obtain ⟨xt, xl, xp, ⟨⟨rn, rnum, rden⟩, ra, rc, rb, rd⟩⟩ := x
        simp only at hsc c3 c4 c5
        obtain ⟨bs, hbs2⟩ : ∃ bs, bs = smF ⟨rn, rnum, rden⟩ := ⟨_, rfl⟩
        rw [← hbs2] at hsc
        have HBS := Lib.hid hbs2
        have HSC := Lib.hid hsc
        clear hxin hgx hmx hsc hbs2 c0 c1 c2
        cases bs
        · go_wp2_with fail
          refine Calls.mono HSC.out ?_
          rintro e w1 ⟨rfl, x1, rfl⟩
          go_wp2
          go_ret
          exact ⟨rfl, Blw.is (hb.ext x1)⟩
        · go_wp2_with fail
          refine Calls.mono HSC.out ?_
          rintro e w1 ⟨rfl, x1, rfl⟩
          go_wp2
          go_roundw
          case rel => exact ⟨k + 1, by omega, by go_num, hb.ext x1, fun x hx => by
            rw [HT.out, List.mem_append, List.mem_singleton] at hx
            rcases hx with hx | rfl
            · exact hsm.out x hx
            · exact HBS.out.symm⟩
          case measure => simp [intOf]; omega
      · have hkl : k = l.length := by omega
        subst hkl
        have hall : ∀ x ∈ l, x.h.r.num.length ≤ 1000000 ∧ x.h.r.den.length ≤ 1000000 := fun x hx => smF_len (hsm.out x (by rw [List.take_length]; exact hx))
        have hinr : ∀ x ∈ l, FL.In wr x.h := fun x hx => (HIN.out x hx).blw hb
        have HLW := Lib.hid (lentWaters_any A l cap wr (hA.blw hb) hinr (by omega) hall)
        have HALL := Lib.hid hall
        clear hall hinr hsm
        go_wp2_with fail
        refine Calls.mono HLW.out ?_
        rintro e w2 ⟨ls, a, c, rfl, hb2, hown, hkey, hlent⟩
        obtain ⟨_, _, ee, hA2, -, hc2, hc2m, -⟩ := own_arr hown
        cases ee
        have hlen : ls.length = l.length := by simpa using congrArg List.length hkey
        have hbw2 : Blw w w2 := hb.trans hb2
        have hA2' : Arr w2 a (wls ls) := hA2.pre (by rw [wls_app]; exact List.prefix_append _ _)
        have hin2 : ∀ x ∈ ls, FL.In w2 x.h := fun x hx => (hlent x hx).in
        have E1 := farW_key hkey true 1
        have E2 := farW_key hkey false (-1)
        have E3 := checkW_key hkey
        have P1 := fun (W : World) (hW : Blw w2 W) => waterHighest_any a ls c W (hA2'.blw hW) (fun x hx => (hin2 x hx).blw hW) (by omega)
        have P2 := fun (W : World) (hW : Blw w2 W) => waterLowest_any a ls c W (hA2'.blw hW) (fun x hx => (hin2 x hx).blw hW) (by omega)
        have P3 := fun (W : World) (hW : Blw w2 W) => waterCheck_any a ls c W (hA2'.blw hW) (fun x hx => (hin2 x hx).blw hW) (by omega)
        have Q1 := fun (W : World) (hW : Blw w2 W) => ref25Highest_any A l cap W ((hA.blw hbw2).blw hW) (fun x hx => ((HIN.out x hx).blw hbw2).blw hW) (by omega)
        have Q2 := fun (W : World) (hW : Blw w2 W) => ref25Lowest_any A l cap W ((hA.blw hbw2).blw hW) (fun x hx => ((HIN.out x hx).blw hbw2).blw hW) (by omega)
        have Q3 := fun (W : World) (hW : Blw w2 W) => refCheck25_any A l cap W ((hA.blw hbw2).blw hW) (fun x hx => ((HIN.out x hx).blw hbw2).blw hW) (by omega)
        have KW := Lib.hid (fun (W : World) (hW : Blw w2 W) => keptWaters_any wr.heap.size a A ls l c cap W (hA2.blw hW) ((hA.blw hbw2).blw hW) hkey (fun x hx => (hlent x hx).blw hW) (fun x hx => ((HIN.out x hx).blw hbw2).blw hW) (by omega) HALL.out)
        rw [E1, hlen] at P1
        rw [E2, hlen] at P2
        rw [E3, hlen] at P3
        clear E1 E2 E3 hA2 hA2' hin2 hown hkey hlent HLW
        generalize (farW l true 1).1 = u1 at *
        generalize (farW l true 1).2 = v1 at *
        generalize (farW l false (-1)).1 = u2 at *
        generalize (farW l false (-1)).2 = v2 at *
        generalize (checkW l).1 = u3 at *
        generalize (checkW l).2 = v3 at *
        have HP1 := Lib.hid P1
        have HP2 := Lib.hid P2
        have HP3 := Lib.hid P3
        have HQ1 := Lib.hid Q1
        have HQ2 := Lib.hid Q2
        have HQ3 := Lib.hid Q3
        have i1 : (l.length : Int) ≤ (c : Int) := by omega
        clear P1 P2 P3 Q1 Q2 Q3 hlen
        go_wp2_with (first
          | (go_at_call 67; (with_reducible refine Calls.mono (HP1.out _ ?_) ?_); (· exact (by repeat (first | exact Blw.refl _ | apply Blw.ext | apply Blw.alloc | apply Blw.drewN | apply Blw.drew | refine Blw.setCell ?_ _ _ (by simp)))); rintro e w9 ⟨rfl, z1, rfl⟩)
          | (go_at_call 68; (with_reducible refine Calls.mono (HQ1.out _ ?_) ?_); (· exact (by repeat (first | exact Blw.refl _ | apply Blw.ext | apply Blw.alloc | apply Blw.drewN | apply Blw.drew | refine Blw.setCell ?_ _ _ (by simp)))); rintro e w9 ⟨rfl, z2, rfl⟩)
          | (go_at_call 69; (with_reducible refine Calls.mono (HP2.out _ ?_) ?_); (· exact (by repeat (first | exact Blw.refl _ | apply Blw.ext | apply Blw.alloc | apply Blw.drewN | apply Blw.drew | refine Blw.setCell ?_ _ _ (by simp)))); rintro e w9 ⟨rfl, z3, rfl⟩)
          | (go_at_call 70; (with_reducible refine Calls.mono (HQ2.out _ ?_) ?_); (· exact (by repeat (first | exact Blw.refl _ | apply Blw.ext | apply Blw.alloc | apply Blw.drewN | apply Blw.drew | refine Blw.setCell ?_ _ _ (by simp)))); rintro e w9 ⟨rfl, z4, rfl⟩)
          | (go_at_call 71; (with_reducible refine Calls.mono (HP3.out _ ?_) ?_); (· exact (by repeat (first | exact Blw.refl _ | apply Blw.ext | apply Blw.alloc | apply Blw.drewN | apply Blw.drew | refine Blw.setCell ?_ _ _ (by simp)))); rintro e w9 ⟨rfl, z5, rfl⟩)
          | (go_at_call 72; (with_reducible refine Calls.mono (HQ3.out _ ?_) ?_); (· exact (by repeat (first | exact Blw.refl _ | apply Blw.ext | apply Blw.alloc | apply Blw.drewN | apply Blw.drew | refine Blw.setCell ?_ _ _ (by simp)))); rintro e w9 ⟨rfl, z6, rfl⟩)
          | (go_at_call 73; (with_reducible refine Calls.mono (KW.out _ ?_) ?_); (· exact (by repeat (first | exact Blw.refl _ | apply Blw.ext | apply Blw.alloc | apply Blw.drewN | apply Blw.drew | refine Blw.setCell ?_ _ _ (by simp)))); rintro e w9 ⟨rfl, z7, rfl⟩))
        go_ret
        exact ⟨rfl, Blw.is (hbw2.trans (by repeat (first | exact Blw.refl _ | apply Blw.ext | apply Blw.alloc | apply Blw.drewN | apply Blw.drew | refine Blw.setCell ?_ _ _ (by simp))))⟩
end Go.Proofs.Ytigkfdoeneemeaa
/- WaterMirror, in plain Lean: the waters of the negated heights and of those turned round. -/
namespace Go.Proofs.Ytigkfdoeneemeaa

theorem sg_cases {l : List FL} (hok : ∀ x ∈ l, x.r.Ok) {i : Nat} (h0 : 0 < i) (hi : i < l.length) : sg l i = -1 ∨ sg l i = 0 ∨ sg l i = 1 := by
  unfold sg
  rw [rg_at (List.getElem?_eq_getElem hi), rg_at (List.getElem?_eq_getElem (show i - 1 < l.length by omega))]
  exact cmpF_cases (hok _ (List.getElem_mem hi)) (hok _ (List.getElem_mem _))
theorem sg_neg {l nl : List FL} (hok : ∀ x ∈ l, x.r.Ok) (h : nl.map (·.r) = l.map fun x => negF x.r) {i : Nat} (h0 : 0 < i) (hi : i < l.length) : sg nl i = - sg l i := by
  have hl : nl.length = l.length := by have := congrArg List.length h; simpa using this
  have at_ : ∀ j, (hj : j < l.length) → rg nl j = negF (l[j]).r := by
    intro j hj
    rw [rg_at (List.getElem?_eq_getElem (show j < nl.length by omega))]
    have := congrArg (fun m => m[j]?) h
    simp only [List.getElem?_map, List.getElem?_eq_getElem (show j < nl.length by omega), List.getElem?_eq_getElem hj, Option.map_some, Option.some.injEq] at this
    exact this
  unfold sg
  rw [at_ i hi, at_ (i - 1) (by omega), rg_at (List.getElem?_eq_getElem hi), rg_at (List.getElem?_eq_getElem (show i - 1 < l.length by omega))]
  exact cmpF_neg (hok _ (List.getElem_mem hi)) (hok _ (List.getElem_mem _))
theorem sg_round {l : List FL} (hok : ∀ x ∈ l, x.r.Ok) {i : Nat} (h0 : 0 < i) (hi : i < l.length) : sg l.reverse i = - sg l (l.length - i) := by
  have at_ : ∀ j, (hj : j < l.length) → rg l.reverse j = (l[l.length - 1 - j]).r := by
    intro j hj
    rw [rg_at (List.getElem?_eq_getElem (show j < l.reverse.length by simpa using hj))]
    rw [List.getElem_reverse]
  unfold sg
  rw [at_ i hi, at_ (i - 1) (by omega), rg_at (List.getElem?_eq_getElem (show l.length - i < l.length by omega)), rg_at (List.getElem?_eq_getElem (show l.length - i - 1 < l.length by omega))]
  have e1 : l.length - 1 - i = l.length - i - 1 := by omega
  have e2 : l.length - 1 - (i - 1) = l.length - i := by omega
  simp only [e1, e2]
  exact cmpF_swap (hok _ (List.getElem_mem _)) (hok _ (List.getElem_mem _))

theorem nextS_lt {f : Nat → Int} {n : Nat} : ∀ d m j, n - m = d → nextS f n m = some j → m ≤ j ∧ j < n := by
  intro d
  induction d with
  | zero => intro m j hd h; rw [nextS_out (by omega)] at h; cases h
  | succ d ih =>
    intro m j hd h
    by_cases h0 : f m = 0
    · rw [nextS_on (by omega) h0] at h
      have := ih (m + 1) j (by omega) h
      omega
    · rw [nextS_at (by omega) h0] at h
      cases h; omega
theorem wats_in {f : Nat → Int} {n i : Nat} {t : Nat × Nat × Bool} (h : t ∈ wats f n i) : 1 ≤ t.1 ∧ t.1 ≤ t.2.1 ∧ t.2.1 + 1 < n := by
  unfold wats at h
  rw [List.mem_filterMap] at h
  obtain ⟨a, -, h⟩ := h
  unfold wat at h
  split at h
  · cases h
  · rename_i h0
    split at h
    · cases h
    · rename_i k hk
      have := nextS_lt _ _ _ rfl hk
      split at h
      · cases h
      · cases h; simp; omega

/-- What the law asks of the three lists of waters, place by place. -/
theorem mirror_at {l nl : List FL} {wa wb wc : List WL} (hok : ∀ x ∈ l, x.r.Ok) (hn : nl.map (·.r) = l.map fun x => negF x.r)
    (ha : wa.map WL.key = (wats (sg l) l.length l.length).map (wkey l 0)) (hb : wb.map WL.key = (wats (sg nl) nl.length nl.length).map (wkey nl 0)) (hc : wc.map WL.key = (wats (sg l.reverse) l.reverse.length l.reverse.length).map (wkey l.reverse 0)) :
    wb.length = wa.length ∧ wc.length = wa.length ∧ ∀ i, i < wa.length → ∀ x y z, wa[i]? = some x → wb[i]? = some y → wc[wa.length - 1 - i]? = some z →
      y.tick = x.tick ∧ y.last = x.last ∧ y.top = !x.top ∧ z.tick = (l.length : Int) - 1 - x.last ∧ z.last = (l.length : Int) - 1 - x.tick ∧ z.top = x.top ∧ 0 ≤ x.tick ∧ x.tick ≤ l.length ∧ 0 ≤ x.last ∧ x.last ≤ l.length := by
  have hl : nl.length = l.length := by have := congrArg List.length hn; simpa using this
  rw [hl, wats_neg (f := sg l) (fun i h0 hi => sg_cases hok h0 hi) (fun i h0 hi => sg_neg hok hn h0 hi)] at hb
  rw [List.length_reverse, wats_round (f := sg l) (fun i h0 hi => sg_cases hok h0 hi) (fun i h0 hi => sg_round hok h0 hi)] at hc
  have hin : ∀ t ∈ wats (sg l) l.length l.length, 1 ≤ t.1 ∧ t.1 ≤ t.2.1 ∧ t.2.1 + 1 < l.length := fun t ht => wats_in ht
  generalize wats (sg l) l.length l.length = ws at *
  have la : wa.length = ws.length := by have := congrArg List.length ha; simpa using this
  have lb : wb.length = ws.length := by have := congrArg List.length hb; simpa using this
  have lc : wc.length = ws.length := by have := congrArg List.length hc; simpa using this
  refine ⟨by omega, by omega, fun i hi x y z hx hy hz => ?_⟩
  have hiw : i < ws.length := by omega
  have e1 := congrArg (fun m => m[i]?) ha
  have e2 := congrArg (fun m => m[i]?) hb
  have e3 := congrArg (fun m => m[wa.length - 1 - i]?) hc
  simp only [List.getElem?_map, hx, hy, hz, List.getElem?_eq_getElem hiw, Option.map_some, Option.some.injEq] at e1 e2 e3
  rw [List.getElem?_reverse (by simp; omega)] at e3
  have e4 : (List.map (fun p : Nat × Nat × Bool => (l.length - 1 - p.2.1, l.length - 1 - p.1, p.2.2)) ws).length - 1 - (wa.length - 1 - i) = i := by simp; omega
  rw [e4, List.getElem?_map, List.getElem?_eq_getElem hiw] at e3
  have hw := hin _ (List.getElem_mem hiw)
  simp only [Option.map_some, Option.some.injEq, WL.key, wkey, Prod.mk.injEq] at e1 e2 e3
  obtain ⟨x1, x2, x3, -⟩ := e1
  obtain ⟨y1, y2, y3, -⟩ := e2
  obtain ⟨z1, z2, z3, -⟩ := e3
  refine ⟨by omega, by omega, by rw [y3, x3], by omega, by omega, by rw [z3, x3], by omega, by omega, by omega, by omega⟩
end Go.Proofs.Ytigkfdoeneemeaa
/- WaterMeans, in plain Lean: a list's waters pass Check. -/
namespace Go.Proofs.Ytigkfdoeneemeaa

theorem cmpI_eq {x y : Int} : cmpI x y = 0 ↔ x = y := by unfold cmpI; split <;> (try split) <;> omega
theorem cmpI_lt {x y : Int} : cmpI x y = -1 ↔ x < y := by unfold cmpI; split <;> (try split) <;> omega
theorem cmpI_gt {x y : Int} : cmpI x y = 1 ↔ y < x := by unfold cmpI; split <;> (try split) <;> omega
/-- Cross products, carried over a third fraction. -/
theorem cross_le {p q r a b c : Int} (hb : 0 < b) (ha : 0 < a) (hc : 0 < c) (h1 : p * b ≤ q * a) (h2 : q * c ≤ r * b) : p * c ≤ r * a := by
  have e1 := Int.mul_le_mul_of_nonneg_right h1 (Int.le_of_lt hc)
  have e2 := Int.mul_le_mul_of_nonneg_right h2 (Int.le_of_lt ha)
  have e : (p * c) * b ≤ (r * a) * b := by
    have x1 : p * b * c = p * c * b := Int.mul_right_comm p b c
    have x2 : q * a * c = q * c * a := Int.mul_right_comm q a c
    have x3 : r * b * a = r * a * b := Int.mul_right_comm r b a
    omega
  exact Int.le_of_mul_le_mul_right e hb
theorem cross_lt {p q r a b c : Int} (hb : 0 < b) (ha : 0 < a) (hc : 0 < c) (h1 : p * b < q * a) (h2 : q * c ≤ r * b) : p * c < r * a := by
  have e1 := Int.mul_lt_mul_of_pos_right h1 hc
  have e2 := Int.mul_le_mul_of_nonneg_right h2 (Int.le_of_lt ha)
  have e : (p * c) * b < (r * a) * b := by
    have x1 : p * b * c = p * c * b := Int.mul_right_comm p b c
    have x2 : q * a * c = q * c * a := Int.mul_right_comm q a c
    have x3 : r * b * a = r * a * b := Int.mul_right_comm r b a
    omega
  exact Int.lt_of_mul_lt_mul_right e (Int.le_of_lt hb)
theorem cross_lt' {p q r a b c : Int} (hb : 0 < b) (ha : 0 < a) (hc : 0 < c) (h1 : p * b ≤ q * a) (h2 : q * c < r * b) : p * c < r * a := by
  have e1 := Int.mul_le_mul_of_nonneg_right h1 (Int.le_of_lt hc)
  have e2 := Int.mul_lt_mul_of_pos_right h2 ha
  have e : (p * c) * b < (r * a) * b := by
    have x1 : p * b * c = p * c * b := Int.mul_right_comm p b c
    have x2 : q * a * c = q * c * a := Int.mul_right_comm q a c
    have x3 : r * b * a = r * a * b := Int.mul_right_comm r b a
    omega
  exact Int.lt_of_mul_lt_mul_right e (Int.le_of_lt hb)
theorem Fr.Ok.dp {r : Fr} (h : r.Ok) : (0 : Int) < (W.val r.den : Int) := by have := h.den_pos; omega
theorem cmpF_self {r : Fr} (hr : r.Ok) : cmpF r r = 0 := by rw [cmpF_is hr hr]; exact cmpI_eq.2 rfl
/-- Comparing over a third one. -/
theorem cmpF_trans {a b c : Fr} {s : Int} (ha : a.Ok) (hb : b.Ok) (hc : c.Ok) (hs : s = 1 ∨ s = -1) (h1 : cmpF a b = 0 ∨ cmpF a b = s) (h2 : cmpF b c = 0 ∨ cmpF b c = s) :
    (cmpF a c = 0 ∧ cmpF a b = 0 ∧ cmpF b c = 0) ∨ (cmpF a c = s ∧ (cmpF a b = s ∨ cmpF b c = s)) := by
  rw [cmpF_is ha hb] at h1 ⊢
  rw [cmpF_is hb hc] at h2 ⊢
  rw [cmpF_is ha hc]
  have da := ha.dp
  have db := hb.dp
  have dc := hc.dp
  generalize (W.val a.den : Int) = A at *
  generalize (W.val b.den : Int) = B at *
  generalize (W.val c.den : Int) = C at *
  generalize a.p = p at *
  generalize b.p = q at *
  generalize c.p = r at *
  rcases hs with rfl | rfl
  · rcases h1 with h1 | h1
    · have e1 := cmpI_eq.1 h1
      rcases h2 with h2 | h2
      · have e2 := cmpI_eq.1 h2
        exact .inl ⟨cmpI_eq.2 (Int.le_antisymm (cross_le (q := q) db da dc (by omega) (by omega)) (cross_le (q := q) db dc da (by omega) (by omega))), h1, h2⟩
      · have e2 := cmpI_gt.1 h2
        exact .inr ⟨cmpI_gt.2 (cross_lt (q := q) db dc da e2 (by omega)), .inr h2⟩
    · have e1 := cmpI_gt.1 h1
      rcases h2 with h2 | h2
      · have e2 := cmpI_eq.1 h2
        exact .inr ⟨cmpI_gt.2 (cross_lt' (q := q) db dc da (by omega) e1), .inl h1⟩
      · have e2 := cmpI_gt.1 h2
        exact .inr ⟨cmpI_gt.2 (cross_lt (q := q) db dc da e2 (by omega)), .inl h1⟩
  · rcases h1 with h1 | h1
    · have e1 := cmpI_eq.1 h1
      rcases h2 with h2 | h2
      · have e2 := cmpI_eq.1 h2
        exact .inl ⟨cmpI_eq.2 (Int.le_antisymm (cross_le (q := q) db da dc (by omega) (by omega)) (cross_le (q := q) db dc da (by omega) (by omega))), h1, h2⟩
      · have e2 := cmpI_lt.1 h2
        exact .inr ⟨cmpI_lt.2 (cross_lt' (q := q) db da dc (by omega) e2), .inr h2⟩
    · have e1 := cmpI_lt.1 h1
      rcases h2 with h2 | h2
      · have e2 := cmpI_eq.1 h2
        exact .inr ⟨cmpI_lt.2 (cross_lt (q := q) db da dc e1 (by omega)), .inl h1⟩
      · have e2 := cmpI_lt.1 h2
        exact .inr ⟨cmpI_lt.2 (cross_lt (q := q) db da dc e1 (by omega)), .inl h1⟩
/-- Steps that all go one way, or nowhere. -/
theorem run_cmp {l : List FL} (hok : ∀ x ∈ l, x.r.Ok) {c : Int} (hc : c = 1 ∨ c = -1) {s : Nat} : ∀ d, s + d < l.length → (∀ j, s < j → j ≤ s + d → sg l j = 0 ∨ sg l j = c) →
    (cmpF (rg l (s + d)) (rg l s) = 0 ∧ ∀ j, s < j → j ≤ s + d → sg l j = 0) ∨ (cmpF (rg l (s + d)) (rg l s) = c ∧ ∃ j, s < j ∧ j ≤ s + d ∧ sg l j = c) := by
  have okr : ∀ i, i < l.length → (rg l i).Ok := fun i hi => by rw [rg_at (List.getElem?_eq_getElem hi)]; exact hok _ (List.getElem_mem hi)
  intro d
  induction d with
  | zero => intro h _; exact .inl ⟨cmpF_self (okr s (by omega)), fun j h1 h2 => by omega⟩
  | succ d ih =>
    intro h hj
    have h1 := ih (by omega) (fun j a b => hj j a (by omega))
    have e : sg l (s + (d + 1)) = cmpF (rg l (s + (d + 1))) (rg l (s + d)) := by unfold sg; rw [show s + (d + 1) - 1 = s + d by omega]
    have h2 := hj (s + (d + 1)) (by omega) (by omega)
    rw [e] at h2
    have h3 := cmpF_trans (okr _ h) (okr (s + d) (by omega)) (okr s (by omega)) hc h2 (by rcases h1 with ⟨k, -⟩ | ⟨k, -⟩; exact .inl k; exact .inr k)
    rcases h3 with ⟨k1, k2, k3⟩ | ⟨k1, k2⟩
    · refine .inl ⟨k1, fun j a b => ?_⟩
      by_cases hjd : j = s + (d + 1)
      · rw [hjd, e]; exact k2
      · rcases h1 with ⟨-, m⟩ | ⟨m, -⟩
        · exact m j a (by omega)
        · rw [k3] at m; rcases hc with rfl | rfl <;> cases m
    · refine .inr ⟨k1, ?_⟩
      rcases k2 with k2 | k2
      · exact ⟨s + (d + 1), by omega, by omega, by rw [e]; exact k2⟩
      · rcases h1 with ⟨m, -⟩ | ⟨-, j, a, b, m⟩
        · rw [m] at k2; rcases hc with rfl | rfl <;> cases k2
        · exact ⟨j, a, by omega, m⟩
theorem run_to {l : List FL} (hok : ∀ x ∈ l, x.r.Ok) {c : Int} (hc : c = 1 ∨ c = -1) {s t : Nat} (hst : s < t) (ht : t < l.length) (h : ∀ j, s < j → j ≤ t → sg l j = 0 ∨ sg l j = c) (hl : sg l t = c) : cmpF (rg l t) (rg l s) = c := by
  obtain ⟨d, rfl⟩ : ∃ d, t = s + d := ⟨t - s, by omega⟩
  rcases run_cmp hok hc d ht h with ⟨-, k⟩ | ⟨k, -⟩
  · have := k (s + d) (by omega) (by omega)
    rw [hl] at this; rcases hc with rfl | rfl <;> cases this
  · exact k
/-- Steps that go nowhere, and one more. -/
theorem flat_to {l : List FL} (hok : ∀ x ∈ l, x.r.Ok) {s t : Nat} (hst : s < t) (ht : t < l.length) (h : ∀ j, s < j → j < t → sg l j = 0) : cmpF (rg l t) (rg l s) = sg l t := by
  rcases sg_cases hok (show 0 < t by omega) ht with k | k | k
  · rw [k]
    exact run_to hok (.inr rfl) hst ht (fun j a b => by by_cases hj : j = t; (rw [hj]; exact .inr k); exact .inl (h j a (by omega))) k
  · rw [k]
    obtain ⟨d, rfl⟩ : ∃ d, t = s + d := ⟨t - s, by omega⟩
    have hz : ∀ j, s < j → j ≤ s + d → sg l j = 0 := fun j a b => by by_cases hj : j = s + d; (rw [hj]; exact k); exact h j a (by omega)
    rcases run_cmp hok (.inl rfl) d ht (fun j a b => .inl (hz j a b)) with ⟨m, -⟩ | ⟨-, j, a, b, m⟩
    · exact m
    · rw [hz j a b] at m; cases m
  · rw [k]
    exact run_to hok (.inl rfl) hst ht (fun j a b => by by_cases hj : j = t; (rw [hj]; exact .inr k); exact .inl (h j a (by omega))) k
end Go.Proofs.Ytigkfdoeneemeaa
