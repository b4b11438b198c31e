/- The walk of nat.Mul. -/
import Derived.Test.YtigkfdoeneemeaaBk
namespace Go.Proofs.Ytigkfdoeneemeaa
open Go.RowKit

/-- A number, or ErrLong. -/
def RetN (w : World) (n : Nat) (e : Ending) (w' : World) : Prop :=
  (8192 < (W.toW n).length ∧ e = .returned (.tuple #[.slice none 0 0, .int .i64 3]) ∧ Blw w w') ∨
  ((W.toW n).length ≤ 8192 ∧ ∃ (a : Option Addr) (c : Nat), e = .returned (.tuple #[.slice a (W.toW n).length c, .int .i64 0]) ∧ w'.ownsRow w.heap.size 135 1 (.slice a (W.toW n).length c) (W.toW n).length (u32s (W.toW n)) ∧ Blw w w')

set_option maxRecDepth 100000 in
set_option maxHeartbeats 1000000 in
theorem natMul_main (a b : Option Addr) (l m : List Nat) (c d : Nat) (w : World) (h : Arr w a (u32s l)) (k : Arr w b (u32s m)) (wl : W.WF l) (wm : W.WF m)
    (c1 : chk l = 0) (c2 : chk m = 0) (l0 : 0 < l.length) (m0 : 0 < m.length) (hs : l.length + m.length ≤ 8193) :
    Calls Try.prog 181 #[.slice a l.length c, .slice b m.length d] w (RetN w (W.val l * W.val m)) := by
  have p1 : l.length ≤ 1099511627776 := by omega
  have p2 : m.length ≤ 1099511627776 := by omega
  have q1 : ((l.length : Int) == 0) = false := beq_false_of_ne (by omega)
  have q2 : ((m.length : Int) == 0) = false := beq_false_of_ne (by omega)
  have q3 : decide ((8193 : Int) < (l.length : Int) + (m.length : Int)) = false := by simp; omega
  go_enter Try.func181, Try.ntmps181
  go_wp2_with fail
  refine Calls.mono (natChecked_any a b l m c d w h k (by omega) (by omega)) ?_
  rintro e w' ⟨rfl, rfl⟩
  rw [c1, if_pos rfl, c2]
  go_wp2_with (refine wpList_words _ rfl _ _ rfl .i64 .i64 _ _ (l.length + m.length) rfl rfl (by omega) (by omega) (by omega) ?_; intro w1 hbk hb1)
  clear c1 c2 q1 q2 q3
  go_loopw [41] (fun i wr => ∃ (k : Nat) (cs : List Nat), k ≤ l.length ∧ i = .int .i64 k ∧ Bk wr w'.heap.size cs ∧ Blw w' wr ∧ Hid (cs.length = l.length + m.length) ∧ Hid (W.WF cs) ∧ Hid (W.val (cs.take (k + m.length)) = W.val (l.take k) * W.val m)) (fun i _ => (l.length - intOf i).toNat)
  case atStart => exact ⟨0, _, Nat.zero_le _, rfl, hbk, hb1, List.length_replicate, W.WF.rep _, by
    show W.val _ = W.val _ * _
    rw [List.take_replicate, W.val_rep]; simp [W.val]⟩
  case round =>
    obtain ⟨i, cs, hi, rfl, hg, hbw, hcl, hcw, hcv⟩ := hrel
    by_cases h0 : i < l.length
    · obtain ⟨x, b1, o1, -, -, hx, rfl, hq1, hq2⟩ := (h.blw hbw).elem (k := i) h0
      have hxl := wl.at hx.out
      go_wp2_with fail
      go_loopw [10, 48] (fun c j wx => ∃ (k c' : Nat) (ds : List Nat), k ≤ m.length ∧ j = .int .i64 k ∧ c = .int .u64 c' ∧ c' < 4294967296 ∧ Bk wx w'.heap.size ds ∧ Blw w' wx ∧ Hid (ds.length = l.length + m.length) ∧ Hid (W.WF ds) ∧
        Hid (W.val (ds.take (i + m.length)) + W.pw (i + k) * c' = W.val (l.take i) * W.val m + W.pw i * (x * W.val (m.take k)))) (fun _ j _ => (m.length - intOf j).toNat)
      case atStart => exact ⟨0, 0, cs, Nat.zero_le _, rfl, rfl, by decide, hg, hbw, hcl, hcw, by
        show _ = _
        rw [hcv.out, Nat.mul_zero, List.take_zero, W.val, Nat.mul_zero, Nat.mul_zero]⟩
      case round =>
        obtain ⟨j, c', ds, hj, rfl, rfl, hc', hgx, hbx, hdl, hdw, hdv⟩ := hrel
        by_cases h1 : j < m.length
        · obtain ⟨y, b2, o2, -, -, hy, rfl, hr1, hr2⟩ := (k.blw hbx).elem (k := j) h1
          have hyl := wm.at hy.out
          obtain ⟨z, hz, hz1, hz2⟩ := hgx.elem (k := i + j) (by rw [hdl.out]; omega)
          have hzl := hdw.out.at hz.out
          have hxy := W.mul_words hxl hyl
          have hxy2 : (x : Int) * (y : Int) ≤ 18446744065119617025 := by rw [← Int.natCast_mul]; omega
          have hxy3 : (0 : Int) ≤ (x : Int) * (y : Int) := Int.mul_nonneg (Int.natCast_nonneg x) (Int.natCast_nonneg y)
          have hdl1 : i + j < l.length + m.length := by omega
          go_wp2_with fail
          have ep : (x : Int) * (y : Int) = ((x * y : Nat) : Int) := (Int.natCast_mul x y).symm
          rw [ep]
          have key := fun (v c'' : Nat) (ht : c' + (x * y + z) = v + 4294967296 * c'') => W.mul_step (W.val_take_set v (N := i + m.length) (by omega) hz.out) rfl ht hdv.out
          rw [← W.val_take_succ hy.out] at key
          have KEY := Lib.hid key
          clear key hxy2 hxy3 ep
          go_roundw
          case rel => exact ⟨j + 1, (c' + (x * y + z)) / 4294967296, ds.set (i + j) ((c' + (x * y + z)) % 4294967296), h1, by go_num, congrArg (Value.int .u64) (by omega), by omega, hgx.set _ (congrArg (Value.int .u32) (by omega)), hbx.setCell _ _ (Nat.le_refl _), by (show _ = _; rw [List.length_set]; exact hdl.out), hdw.out.set _ (by omega), KEY.out _ _ (by omega)⟩
          case measure => (first | (simp [intOf]; done) | (simp [intOf]; omega))
        · have : j = m.length := by omega
          subst this
          rw [List.take_length] at hdv
          obtain ⟨z, hz, hz1, hz2⟩ := hgx.elem (k := i + m.length) (by rw [hdl.out]; omega)
          have hdl1 : i + m.length < l.length + m.length := by omega
          go_wp2_with fail
          go_roundw
          case rel => exact ⟨i + 1, ds.set (i + m.length) c', h0, by go_num, hgx.set _ (congrArg (Value.int .u32) (by omega)), hbx.setCell _ _ (Nat.le_refl _), by (show _ = _; rw [List.length_set]; exact hdl.out), hdw.out.set _ hc', by
            show _ = _
            rw [show i + 1 + m.length = i + m.length + 1 by omega, W.val_take_set_end _ (by rw [hdl.out]; omega), hdv.out, W.val_take_succ hx.out, Nat.add_mul, Nat.mul_assoc]⟩
          case measure => (first | (simp [intOf]; done) | (simp [intOf]; omega))
    · have : i = l.length := by omega
      subst this
      have e1 : W.val cs = W.val l * W.val m := by
        have := hcv.out
        rwa [List.take_length, ← hcl.out, List.take_length] at this
      go_wp2_with fail
      have hcap : l.length + m.length ≤ 1099511627776 := by omega
      have own := hg.own (Nat.le_refl _) (by rw [hcl.out]; unfold maxLen; omega)
      have own2 := own_cut own hcw.out
      have hA := hg.arr
      have hln := hcl.out
      rw [hcl.out, e1] at own2
      refine Calls.mono (P := Try.prog) (show Calls Try.prog 196 #[.slice (some ⟨w'.heap.size, 0, none⟩) (l.length + m.length) (l.length + m.length)] wr _ from by
        have := natTold_any (some ⟨w'.heap.size, 0, none⟩) cs (l.length + m.length) wr hA (by omega) (by omega) (by omega) hcw.out
        rw [hln, e1] at this; exact this) ?_
      rintro e w2 ⟨rfl, rfl⟩
      by_cases h8 : 8192 < (W.toW (W.val l * W.val m)).length
      · rw [if_pos h8]
        go_wp2
        go_ret2
        exact .inl ⟨h8, rfl, hbw⟩
      · rw [if_neg h8]
        go_wp2
        go_ret2
        exact .inr ⟨Nat.le_of_not_lt h8, _, _, rfl, own2, hbw⟩
end Go.Proofs.Ytigkfdoeneemeaa
