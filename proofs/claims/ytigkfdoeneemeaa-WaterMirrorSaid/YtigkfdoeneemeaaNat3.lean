/- nat.divide, DivMod, Mul: the contracts. -/
import Derived.Test.YtigkfdoeneemeaaDivide
namespace Go.Proofs.Ytigkfdoeneemeaa
open Go.RowKit

theorem natDivide_any (a b : Option Addr) (l m : List Nat) (c d : Nat) (w : World) (h : Arr w a (u32s l)) (k : Arr w b (u32s m)) (hc : l.length ≤ c) (hd : m.length ≤ d) (hcm : c ≤ 9223372036854775807) (hdm : d ≤ 9223372036854775807) (ha : a = none → l.length = 0 ∧ c = 0)
    (wl : W.WF l) (wm : W.WF m) (nl : W.Nrm l) (nm : W.Nrm m) (hl : l.length ≤ 8193) (hm : 0 < m.length) :
    Calls Try.prog 173 #[.slice a l.length c, .slice b m.length d] w (RetTwo w (W.val l / W.val m) (W.val l % W.val m)) := by
  rcases Nat.lt_or_ge (W.val l) (W.val m) with hlt | hge
  · rw [Nat.div_eq_of_lt hlt, Nat.mod_eq_of_lt hlt]
    exact natDivide_less a b l m c d w h k hc hd hcm hdm ha wl wm nl hl hlt
  · rcases Nat.lt_or_ge m.length 2 with h2 | h2
    · obtain ⟨y, rfl⟩ : ∃ y, m = [y] := List.length_eq_one_iff.1 (by omega)
      have vy : W.val [y] = y := by rw [W.val, W.val, Nat.mul_zero, Nat.add_zero]
      rw [vy] at hge ⊢
      have y0 : 0 < y := by have := W.val_pos nm (by simp); rwa [vy] at this
      exact natDivide_one a b l y c d w h k hc hd hcm hdm wl (wm y (by simp)) y0 hl hge
    · obtain ⟨n, hn⟩ : ∃ n, m.length = n + 2 := ⟨m.length - 2, by omega⟩
      exact natDivide_long a b l m n c d w h k hc hd hcm hdm wl wm nm hl hn hge

/-- Numbers that may be. -/
theorem chk_zero {l : List Nat} (h : l.length ≤ 8192) (n : W.Nrm l) : chk l = 0 := by
  unfold chk; rw [if_neg (by omega), if_neg n]

/-- A number of the call's own and no error. -/
def RetOk (w : World) (n : Nat) (e : Ending) (w' : World) : Prop :=
  ∃ (a : Option Addr) (c : Nat), e = .returned (.tuple #[.slice a (W.toW n).length c, .int .i64 0]) ∧ Blw w w' ∧ w'.ownsRow w.heap.size 135 1 (.slice a (W.toW n).length c) (W.toW n).length (u32s (W.toW n))

set_option maxRecDepth 100000 in
set_option maxHeartbeats 1000000 in
theorem natMul_any (a b : Option Addr) (l m : List Nat) (c d : Nat) (w : World) (h : Arr w a (u32s l)) (k : Arr w b (u32s m)) (wl : W.WF l) (wm : W.WF m) (nl : W.Nrm l) (nm : W.Nrm m) (hs : l.length + m.length ≤ 8192) :
    Calls Try.prog 181 #[.slice a l.length c, .slice b m.length d] w (RetOk w (W.val l * W.val m)) := by
  have c1 := chk_zero (l := l) (by omega) nl
  have c2 := chk_zero (l := m) (by omega) nm
  by_cases h0 : l.length = 0 ∨ m.length = 0
  · have hv : W.val l * W.val m = 0 := by
      rcases h0 with h0 | h0
      · rw [List.eq_nil_of_length_eq_zero h0, W.val, Nat.zero_mul]
      · rw [List.eq_nil_of_length_eq_zero h0, W.val, Nat.mul_zero]
    have HV := Lib.hid hv
    have hz := W.toW_zero
    have post : RetOk w (W.val l * W.val m) (.returned (.tuple #[.slice none 0 0, .int .i64 0])) w := by
      rw [HV.out]
      refine ⟨none, 0, ?_, Blw.refl w, ?_⟩
      · rw [hz]; rfl
      · rw [hz]; exact World.ownsRow_nil _ _ _ _
    have hp := Lib.hid post
    clear hv hz post
    have p1 : l.length ≤ 8192 := by omega
    have p2 : m.length ≤ 8192 := by omega
    by_cases h1 : l.length = 0
    · have q1 : ((l.length : Int) == 0) = true := by rw [h1]; rfl
      have hck := natChecked_any a b l m c d w h k (by omega) (by omega)
      rw [c1, if_pos rfl, c2] at hck
      clear h1 h0
      go_enter Try.func181, Try.ntmps181
      go_wp2_with fail
      refine Calls.mono hck ?_
      rintro e w' ⟨rfl, rfl⟩
      go_wp2
      go_ret2
      exact hp.out
    · have q1 : ((l.length : Int) == 0) = false := beq_false_of_ne (by omega)
      have q2 : ((m.length : Int) == 0) = true := by rw [show m.length = 0 by omega]; rfl
      have hck := natChecked_any a b l m c d w h k (by omega) (by omega)
      rw [c1, if_pos rfl, c2] at hck
      clear h1 h0
      go_enter Try.func181, Try.ntmps181
      go_wp2_with fail
      refine Calls.mono hck ?_
      rintro e w' ⟨rfl, rfl⟩
      go_wp2
      go_ret2
      exact hp.out
  · refine Calls.mono (natMul_main a b l m c d w h k wl wm c1 c2 (by omega) (by omega) (by omega)) ?_
    rintro e w' (⟨h8, -⟩ | ⟨-, a1, c1, rfl, r1, r2⟩)
    · exfalso
      have h1 := W.val_lt wl
      have h2 := W.val_lt wm
      have h3 : W.val l * W.val m < W.pw (l.length + m.length) := by
        rw [W.pw_add]
        exact Nat.mul_lt_mul'' h1 h2
      have h4 := W.len_toW_le.2 h3
      omega
    · exact ⟨a1, c1, rfl, r2, r1⟩

set_option maxRecDepth 100000 in
set_option maxHeartbeats 1000000 in
theorem natDivMod_any (a b : Option Addr) (l m : List Nat) (c d : Nat) (w : World) (h : Arr w a (u32s l)) (k : Arr w b (u32s m)) (hc : l.length ≤ c) (hd : m.length ≤ d) (hcm : c ≤ 9223372036854775807) (hdm : d ≤ 9223372036854775807) (ha : a = none → l.length = 0 ∧ c = 0)
    (wl : W.WF l) (wm : W.WF m) (nl : W.Nrm l) (nm : W.Nrm m) (hl : l.length ≤ 8192) (hm : 0 < m.length) (hm2 : m.length ≤ 8192) :
    Calls Try.prog 182 #[.slice a l.length c, .slice b m.length d] w fun e w' => ∃ (a1 : Option Addr) (c1 : Nat) (a2 : Option Addr) (c2 : Nat), e = .returned (.tuple #[.slice a1 (W.toW (W.val l / W.val m)).length c1, .slice a2 (W.toW (W.val l % W.val m)).length c2, .int .i64 0]) ∧ Blw w w' ∧
      w'.ownsRow w.heap.size 135 1 (.slice a1 (W.toW (W.val l / W.val m)).length c1) (W.toW (W.val l / W.val m)).length (u32s (W.toW (W.val l / W.val m))) ∧ w'.ownsRow w.heap.size 135 1 (.slice a2 (W.toW (W.val l % W.val m)).length c2) (W.toW (W.val l % W.val m)).length (u32s (W.toW (W.val l % W.val m))) := by
  have c1 := chk_zero (l := l) (by omega) nl
  have c2 := chk_zero (l := m) (by omega) nm
  have hck := natChecked_any a b l m c d w h k (by omega) (by omega)
  rw [c1, if_pos rfl, c2] at hck
  have q2 : ((m.length : Int) == 0) = false := beq_false_of_ne (by omega)
  go_enter Try.func182, Try.ntmps182
  go_wp2_with fail
  refine Calls.mono hck ?_
  rintro e w' ⟨rfl, rfl⟩
  go_wp2_with fail
  refine Calls.mono (natDivide_any a b l m c d _ h k hc hd hcm hdm ha wl wm nl nm (by omega) hm) ?_
  rintro e w2 ⟨a1, c1', a2, c2', rfl, r1, r2, r3⟩
  go_wp2
  refine bodyPost_ret (v := .tuple #[.slice a1 (W.toW (W.val l / W.val m)).length c1', .slice a2 (W.toW (W.val l % W.val m)).length c2', .int .i64 0]) (by simp [results, Try.results182, go_sem]) rfl ?_
  exact ⟨a1, c1', a2, c2', rfl, r1, r2, r3⟩
end Go.Proofs.Ytigkfdoeneemeaa
