/- Walks of package nat: one word, in place. -/
import Derived.Test.YtigkfdoeneemeaaMul
namespace Go.Proofs.Ytigkfdoeneemeaa
open Go.RowKit

theorem tdiv_nat (a b : Nat) : ((a : Int)).tdiv (b : Int) = ((a / b : Nat) : Int) := rfl
theorem tmod_nat (a b : Nat) : ((a : Int)).tmod (b : Int) = ((a % b : Nat) : Int) := rfl
theorem u32_of {n : Nat} {i : Int} (h : i = (n : Int)) : Value.int .u32 i = .int .u32 (n : Int) := by rw [h]
theorem u64_of {n : Nat} {i : Int} (h : i = (n : Int)) : Value.int .u64 i = .int .u64 (n : Int) := by rw [h]
/-- The step of a division by one word. -/
theorem W.small_step {r x d V D : Nat} (h : V * d + r = D) : (((r * 4294967296 + x) / d) + 4294967296 * V) * d + (r * 4294967296 + x) % d = x + 4294967296 * D := by
  have e := Nat.div_add_mod (r * 4294967296 + x) d
  rw [Nat.add_mul, Nat.mul_assoc, Nat.mul_comm ((r * 4294967296 + x) / d) d]
  have : 4294967296 * (V * d) + 4294967296 * r = 4294967296 * D := by rw [← Nat.mul_add, h]
  omega
theorem or_low (y x : Nat) (hy : y < 4294967296) (hx : x < 4294967296) : bits .or .u64 ((y : Int) * 4294967296) (x : Int) = ((y * 4294967296 + x : Nat) : Int) := by
  rw [bits_join .u64 64 (by decide) wraps_u64 32 _ _ (by omega) (by omega) (by omega) (by omega) (by omega) (by omega)]; omega
theorem val_drop {l : List Nat} {k x : Nat} (h : l[k]? = some x) : W.val (l.drop k) = x + 4294967296 * W.val (l.drop (k + 1)) := by
  have hk : k < l.length := (List.getElem?_eq_some_iff.1 h).1
  rw [List.drop_eq_getElem_cons hk, W.val, (List.getElem?_eq_some_iff.1 h).2]
theorem drop_set {l : List Nat} {k v : Nat} (hk : k < l.length) : (l.set k v).drop k = v :: l.drop (k + 1) := by
  rw [List.drop_eq_getElem_cons (by simpa using hk)]
  simp [List.drop_set]

set_option maxRecDepth 100000 in
set_option maxHeartbeats 1000000 in
theorem natSmall_any (g o : Nat) (pre post : List Value) (l : List Nat) (cap d : Nat) (w : World) (ho : pre.length = o) (h : Wn w g pre l post) (hc : l.length ≤ cap) (hl : cap ≤ 9223372036854775807) (hll : l.length ≤ 1099511627776) (wl : W.WF l) (hd : 0 < d) (hd2 : d < 4294967296) :
    Calls Try.prog 184 #[.slice (some ⟨g, o, none⟩) l.length cap, .int .u32 d] w fun e w' => ∃ q : List Nat, e = .returned (.tuple #[.slice (some ⟨g, o, none⟩) (W.toW (W.val l / d)).length cap, .int .u32 (W.val l % d : Nat)]) ∧
      Wn w' g pre q post ∧ W.WF q ∧ q.length = l.length ∧ W.val q = W.val l / d ∧ KeptO (· = g) w w' := by
  subst ho
  have p1 : l.length ≤ 1099511627776 := by omega
  have d0 : ((d : Int) == 0) = false := beq_false_of_ne (by omega)
  go_enter Try.func184, Try.ntmps184
  go_wp2_with fail
  go_loopw [6, 7] (fun r i wr => ∃ (k r' : Nat) (ds : List Nat), k ≤ l.length ∧ i = .int .i64 ((k : Int) - 1) ∧ r = .int .u64 r' ∧ r' < d ∧ Wn wr g pre ds post ∧ KeptO (· = g) w wr ∧ Hid (ds.length = l.length) ∧ Hid (W.WF ds) ∧ Hid (ds.take k = l.take k) ∧ Hid (W.val (ds.drop k) * d + r' = W.val (l.drop k))) (fun _ i _ => (intOf i + 1).toNat)
  case atStart => exact ⟨l.length, 0, l, Nat.le_refl _, rfl, rfl, hd, h, KeptO.refl w, rfl, wl, rfl, by show _ = _; rw [List.drop_length, W.val, Nat.zero_mul]⟩
  case round =>
    obtain ⟨k, r, ds, hk, rfl, rfl, hr, hg, hw, hdl, hdw, hdt, hdv⟩ := hrel
    by_cases h0 : 0 < k
    · obtain ⟨j, rfl⟩ : ∃ j, k = j + 1 := ⟨k - 1, by omega⟩
      have ej : (((j + 1 : Nat) : Int) - 1) = (j : Int) := by omega
      rw [ej]
      clear ej
      obtain ⟨x, hx, hx1, hx2⟩ := hg.elem (k := j) (by rw [hdl.out]; omega)
      have hxl := hdw.out.at hx.out
      have hlx : Hid (l[j]? = some x) := by
        show l[j]? = some x
        have : (l.take (j + 1))[j]? = some x := by rw [← hdt.out, List.getElem?_take, if_pos (by omega)]; exact hx.out
        rwa [List.getElem?_take, if_pos (by omega)] at this
      have r1 : r < 4294967296 := by omega
      have i1 : (j : Int) < (l.length : Int) := by omega
      have i0 : (0 : Int) ≤ (j : Int) := by omega
      clear h0
      go_wp2_with fail
      rw [or_low r x r1 hxl, tdiv_nat, tmod_nat, IntKind.wrap_u64]
      have hq : (r * 4294967296 + x) / d < 4294967296 := Nat.div_lt_of_lt_mul (by
        have : (r + 1) * 4294967296 ≤ d * 4294967296 := Nat.mul_le_mul_right _ hr
        omega)
      have hm : (r * 4294967296 + x) % d < d := Nat.mod_lt _ hd
      have key := W.small_step (r := r) (x := x) (d := d) hdv.out
      have hjl : j < ds.length := by rw [hdl.out]; omega
      rw [← val_drop hlx.out] at key
      generalize hqq : (r * 4294967296 + x) / d = q at *
      generalize hmm : (r * 4294967296 + x) % d = m at *
      go_roundw
      case rel => exact ⟨j, m, ds.set j q, by omega, rfl, rfl, hm, hg.set hjl (u32_of (by omega)), hw.setCell _ _ (.inl rfl), by (show _ = _; rw [List.length_set]; exact hdl.out), hdw.out.set _ hq, by
        show _ = _
        rw [List.take_set_of_le (Nat.le_refl _)]
        have := congrArg (List.take j) hdt.out
        rwa [List.take_take, List.take_take, Nat.min_eq_left (by omega)] at this, by
        show _ = _
        rw [drop_set hjl, W.val]; exact key⟩
      case measure => (first | (simp [intOf]; done) | (simp [intOf]; omega))
    · have : k = 0 := by omega
      subst this
      have e0 : (((0 : Nat) : Int) - 1) = -1 := by omega
      rw [e0]
      have hv : W.val ds * d + r = W.val l := by have := hdv.out; simpa using this
      have v1 : W.val ds = W.val l / d := by
        rw [← hv, Nat.add_comm, Nat.add_mul_div_right _ _ hd, Nat.div_eq_of_lt hr, Nat.zero_add]
      have v2 : Hid (r = W.val l % d) := by
        show r = W.val l % d
        rw [← hv, Nat.add_comm, Nat.add_mul_mod_self_right, Nat.mod_eq_of_lt hr]
      have r1 : r < 4294967296 := by omega
      have hcut := natCut_any (some ⟨g, pre.length, none⟩) ds cap wr hg.arr (by rw [hdl.out]; exact hc) (by omega) hdw.out
      rw [hdl.out, v1] at hcut
      clear h0
      go_wp2_with (go_at_call 175; refine Calls.mono hcut ?_; rintro e w' ⟨rfl, rfl⟩)
      go_ret2
      refine ⟨ds, ?_, hg, hdw.out, hdl.out, v1, hw⟩
      exact congrArg (fun x : Nat => Ending.returned (.tuple #[.slice (some ⟨g, pre.length, none⟩) (W.toW (W.val l / d)).length cap, .int .u32 (x : Int)])) v2.out
end Go.Proofs.Ytigkfdoeneemeaa
