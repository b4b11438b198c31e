/- The walk of nat.Gcd. -/
import Derived.Test.YtigkfdoeneemeaaNat4
namespace Go.Proofs.Ytigkfdoeneemeaa
open Go.RowKit

/-- A number in memory of the call's own. -/
def OwnN (B : Nat) (w : World) (v : Value) (n : Nat) : Prop := ∃ (a : Option Addr) (c : Nat), v = .slice a (W.toW n).length c ∧ w.ownsRow B 135 1 (.slice a (W.toW n).length c) (W.toW n).length (u32s (W.toW n))
theorem OwnN.blw {B : Nat} {w w' : World} {v : Value} {n : Nat} (h : OwnN B w v n) (k : Blw w w') : OwnN B w' v n := by
  obtain ⟨a, c, e, h⟩ := h; exact ⟨a, c, e, ownsRow_blw h k⟩
theorem OwnN.parts {B : Nat} {w : World} {v : Value} {n : Nat} (h : OwnN B w v n) : ∃ (a : Option Addr) (c : Nat), v = .slice a (W.toW n).length c ∧ Arr w a (u32s (W.toW n)) ∧ (W.toW n).length ≤ c ∧ c ≤ 9223372036854775807 ∧ (a = none → (W.toW n).length = 0 ∧ c = 0) := by
  obtain ⟨a, c, e, h⟩ := h
  obtain ⟨a', c', e', k1, k2, k3, k4, k5⟩ := own_arr h
  cases e'
  exact ⟨a, c, e, k1, k3, k4, k5⟩
theorem OwnN.num {B : Nat} {w : World} {v : Value} {n : Nat} (h : OwnN B w v n) : NumV w v n := by
  obtain ⟨a, c, e, k, _⟩ := h.parts; exact ⟨a, c, e, k⟩
theorem gcd_step (X Y : Nat) : Nat.gcd Y (X % Y) = Nat.gcd X Y := by rw [Nat.gcd_comm Y, ← Nat.gcd_rec, Nat.gcd_comm]

set_option maxRecDepth 100000 in
set_option maxHeartbeats 4000000 in
theorem natGcd_any (a b : Option Addr) (l m : List Nat) (c d : Nat) (w : World) (h : Arr w a (u32s l)) (k : Arr w b (u32s m)) (ha : a = none → l.length = 0 ∧ c = 0) (hb : b = none → m.length = 0 ∧ d = 0)
    (wl : W.WF l) (wm : W.WF m) (nl : W.Nrm l) (nm : W.Nrm m) (hl : l.length ≤ 8192) (hm : m.length ≤ 8192) :
    Calls Try.prog 153 #[.slice a l.length c, .slice b m.length d] w (RetOk w (Nat.gcd (W.val l) (W.val m))) := by
  have c1 := chk_zero (l := l) (by omega) nl
  have c2 := chk_zero (l := m) (by omega) nm
  have hck := natChecked_any a b l m c d w h k (by omega) (by omega)
  rw [c1, if_pos rfl, c2] at hck
  have L1 := Lib.hid (W.toW_val wl nl)
  have L2 := Lib.hid (W.toW_val wm nm)
  have B1 := Lib.hid (W.len_toW_le.1 (by rw [L1.out]; exact hl))
  have B2 := Lib.hid (W.len_toW_le.1 (by rw [L2.out]; exact hm))
  clear c1 c2
  go_enter Try.func153, Try.ntmps153
  go_wp2_with fail
  refine Calls.mono hck ?_
  rintro e w' ⟨rfl, rfl⟩
  clear hck
  go_wp2_with fail
  refine Calls.mono (cloneWords_any a l c _ h ha (by omega)) ?_
  rintro e w1 ⟨a1, c1, x1, rfl, rfl, r1, r2, r3⟩
  go_wp2_with fail
  refine Calls.mono (cloneWords_any b m d _ (k.ext x1) hb (by omega)) ?_
  rintro e w1 ⟨a2, c2, x2, rfl, rfl, s1, s2, s3⟩
  go_wp2_with fail
  go_loopw [7, 8] (fun x y wr => ∃ (X Y : Nat), OwnN w'.heap.size wr x X ∧ OwnN w'.heap.size wr y Y ∧ Blw w' wr ∧ Hid (Nat.gcd X Y = Nat.gcd (W.val l) (W.val m)) ∧ Hid (X < W.pw 8192) ∧ Hid (Y < W.pw 8192)) (fun _ y wr => readN wr y)
  case atStart => exact ⟨W.val l, W.val m, ⟨a1, c1, by rw [L1.out], by rw [L1.out]; exact ownsRow_blw r1 (World.blw_ext _ _)⟩, ⟨a2, c2, by rw [L2.out], by rw [L2.out]; exact ownsRow_mono s1 (World.le_ext _ _)⟩, ((Blw.refl w').ext x1).ext x2, rfl, B1.out, B2.out⟩
  case round =>
    obtain ⟨X, Y, hX, hY, hB, hG, hX8, hY8⟩ := hrel
    have nX := readN_is hX.num
    have nY := readN_is hY.num
    obtain ⟨p1, q1, rfl, A1, A2, A3, A4⟩ := hX.parts
    obtain ⟨p2, q2, rfl, D1, D2, D3, D4⟩ := hY.parts
    have lX : (W.toW X).length ≤ 8192 := W.len_toW_le.2 hX8.out
    have lY : (W.toW Y).length ≤ 8192 := W.len_toW_le.2 hY8.out
    by_cases h2 : 2 < (W.toW Y).length
    · have hdiv := natDivide_any p1 p2 (W.toW X) (W.toW Y) q1 q2 wr A1 D1 A2 D2 A3 D3 A4 (W.wf_toW X) (W.wf_toW Y) (W.nrm_toW X) (W.nrm_toW Y) (by omega) (by omega)
      rw [W.val_toW, W.val_toW] at hdiv
      have hY0 : 0 < Y := by
        rcases Nat.eq_zero_or_pos Y with e | e
        · rw [e, W.toW_zero] at h2; simp at h2
        · exact e
      have HY := Lib.hid hY
      have HNY := Lib.hid nY
      have HY0 := Lib.hid hY0
      clear hX hY nX nY A1 A4 D1 D4 hY0
      go_wp2_with fail
      refine Calls.mono hdiv ?_
      rintro e w3 ⟨u1, v1, u2, v2, rfl, t1, t2, t3⟩
      clear hdiv
      go_wp2_with fail
      have hlt : X % Y < Y := Nat.mod_lt _ HY0.out
      have HLT := Lib.hid hlt
      have own2 : OwnN w'.heap.size w3 (.slice u2 (W.toW (X % Y)).length v2) (X % Y) := ⟨u2, v2, rfl, ownsRow_mono t3 hB.size⟩
      have nZ := Lib.hid (readN_is own2.num)
      have OWN2 := Lib.hid own2
      clear hlt own2 t2 t3
      go_roundw
      case rel => exact ⟨Y, X % Y, HY.out.blw t1, OWN2.out, hB.trans t1, by (show _ = _; rw [gcd_step]; exact hG.out), hY8, Nat.lt_trans HLT.out hY8.out⟩
      case measure => (rw [nZ.out, HNY.out]; exact HLT.out)
    · by_cases h0 : (W.toW Y).length = 0
      · have hY0 : Y = 0 := W.toW_nil.1 (List.eq_nil_of_length_eq_zero h0)
        have q1' : (((W.toW Y).length : Int) == 0) = true := by rw [h0]; rfl
        have hg : X = Nat.gcd (W.val l) (W.val m) := by rw [← hG.out, hY0, Nat.gcd_zero_right]
        have HG := Lib.hid hg
        have HX := Lib.hid hX
        clear hg hX hY nX nY A1 A4 D1 D4 hY0 h0
        go_wp2_with fail
        go_ret2
        obtain ⟨a3, c3, e3, o3⟩ := HX.out
        cases e3
        rw [← HG.out]
        exact ⟨_, _, rfl, hB, o3⟩
      · have hY0 : 0 < Y := Nat.pos_of_ne_zero (fun e => h0 (by rw [e, W.toW_zero]; rfl))
        have q1' : (((W.toW Y).length : Int) == 0) = false := beq_false_of_ne (by omega)
        have hdiv := natDivide_any p1 p2 (W.toW X) (W.toW Y) q1 q2 wr A1 D1 A2 D2 A3 D3 A4 (W.wf_toW X) (W.wf_toW Y) (W.nrm_toW X) (W.nrm_toW Y) (by omega) (by omega)
        rw [W.val_toW, W.val_toW] at hdiv
        have hYl : Y < 18446744073709551616 := by
          have := W.len_toW_le.1 (Nat.le_of_not_lt h2)
          exact Nat.lt_of_lt_of_le this (by decide)
        have hlt : X % Y < Y := Nat.mod_lt _ hY0
        have hZ2 : (W.toW (X % Y)).length ≤ 2 := W.len_toW_le.2 (Nat.lt_trans hlt (W.len_toW_le.1 (Nat.le_of_not_lt h2)))
        have HLT := Lib.hid hlt
        have hG2 : Hid (Nat.gcd Y (X % Y) = Nat.gcd (W.val l) (W.val m)) := by show _ = _; rw [gcd_step]; exact hG.out
        clear hX hY nX nY A1 A4 D4 hlt
        go_wp2_with fail
        refine Calls.mono hdiv ?_
        rintro e w3 ⟨u1, v1, u2, v2, rfl, t1, t2, t3⟩
        clear hdiv
        obtain ⟨zz, hzz⟩ : ∃ zz, zz = X % Y := ⟨_, rfl⟩
        rw [← hzz] at t3 hZ2 hG2 HLT ⊢
        have hzl : zz < 18446744073709551616 := Nat.lt_trans HLT.out hYl
        obtain ⟨u2', v2', e2, k1, k2, k3, k4, k5⟩ := own_arr t3
        cases e2
        have hua := natUint64_any p2 (W.toW Y) q2 w3 (D1.blw t1) D2 D3 (by omega) (W.wf_toW Y)
        rw [W.val_toW, if_neg h2] at hua
        have hub := natUint64_any u2 (W.toW zz) v2 w3 k1 k3 k4 (by omega) (W.wf_toW zz)
        rw [W.val_toW, if_neg (by omega)] at hub
        have HZZ := Lib.hid hzz
        clear hzz k1 k5 t2 t3 D1
        go_wp2_with fail
        refine Calls.mono hua ?_
        rintro e w4 ⟨rfl, rfl⟩
        clear hua
        go_wp2_with fail
        refine Calls.mono hub ?_
        rintro e w5 ⟨rfl, rfl⟩
        clear hub
        go_wp2_with fail
        go_loopw [13, 15] (fun x y wr => ∃ (M N : Nat) (z : World), x = .int .u64 M ∧ y = .int .u64 N ∧ M < 18446744073709551616 ∧ N < 18446744073709551616 ∧ Hid (Nat.gcd M N = Nat.gcd (W.val l) (W.val m)) ∧ wr = w5.ext z) (fun _ y _ => (intOf y).toNat)
        case atStart => exact ⟨Y, zz, w5, rfl, rfl, hYl, hzl, hG2, (World.ext_of (Blw.refl w5)).symm⟩
        case round =>
          obtain ⟨M, N, z, rfl, rfl, hM, hN, hMN, rfl⟩ := hrel
          by_cases hN0 : N = 0
          · subst hN0
            have e1 : M = Nat.gcd (W.val l) (W.val m) := by rw [← hMN.out, Nat.gcd_zero_right]
            have HE := Lib.hid e1
            clear e1
            go_wp2_with fail
            refine Calls.mono (natOf_any M _ hM) ?_
            rintro e w6 ⟨a6, c6, x6, rfl, rfl, r61, r62, r63⟩
            go_wp2
            go_ret2
            rw [← HE.out]
            exact ⟨a6, c6, rfl, (((hB.trans t1).ext z).ext x6), ownsRow_mono r61 ((hB.trans t1).ext z).size⟩
          · have hn : ((N : Int) != 0) = true := by simp; omega
            have hn2 : ((N : Int) == 0) = false := beq_false_of_ne (by omega)
            have hm := Nat.mod_lt M (Nat.pos_of_ne_zero hN0)
            go_wp2_with fail
            go_quiet (fail)
            go_wp2_with fail
            have em : ((M : Int) % (N : Int)) = ((M % N : Nat) : Int) := (Int.natCast_emod ..).symm
            have HMN : Hid (Nat.gcd N (M % N) = Nat.gcd (W.val l) (W.val m)) := by show _ = _; rw [gcd_step]; exact hMN.out
            generalize hR : M % N = R at *
            go_roundw
            case rel => exact ⟨N, R, _, rfl, congrArg (Value.int .u64) em, hN, by omega, HMN, (World.ext_of (by repeat (first | exact Blw.refl _ | apply Blw.ext | apply Blw.alloc | apply Blw.drewN | apply Blw.drew | refine Blw.setCell ?_ _ _ (by simp)))).symm⟩
            case measure => (simp only [intOf]; rw [em]; omega)
end Go.Proofs.Ytigkfdoeneemeaa
