/- Walks of nat.divide: the short ways. -/
import Derived.Test.YtigkfdoeneemeaaGuess
import Derived.Deep.RegionHeld3
namespace Go.Proofs.Ytigkfdoeneemeaa
open Go.RowKit

/-- Two numbers in memory of the call's own. -/
def RetTwo (w : World) (x y : Nat) (e : Ending) (w' : World) : Prop :=
  ∃ (a1 : Option Addr) (c1 : Nat) (a2 : Option Addr) (c2 : Nat), e = .returned (.tuple #[.slice a1 (W.toW x).length c1, .slice a2 (W.toW y).length c2]) ∧ Blw w w' ∧
    w'.ownsRow w.heap.size 135 1 (.slice a1 (W.toW x).length c1) (W.toW x).length (u32s (W.toW x)) ∧ w'.ownsRow w.heap.size 135 1 (.slice a2 (W.toW y).length c2) (W.toW y).length (u32s (W.toW y))

/-- A copy of words, not none: a block of its own. -/
theorem cloneWords_new (a : Option Addr) (l : List Nat) (cap : Nat) (w : World) (h : Arr w a (u32s l)) (h0 : 0 < l.length) (hlen : l.length ≤ 1099511627776) :
    Calls Try.prog 172 #[.slice a l.length cap] w fun e w' => ∃ (g : Nat) (post : List Value) (x : World), e = .returned (.slice (some ⟨g, 0, none⟩) l.length (l.length + post.length)) ∧ w' = w.ext x ∧ w.heap.size ≤ g ∧ Wn (w.ext x) g [] l post ∧ l.length + post.length ≤ 9223372036854775807 := by
  have hn : a = none → l.length = 0 ∧ cap = 0 := by
    rintro rfl
    obtain ⟨x, b, o, -, -, -, e, -⟩ := h.elem (k := 0) h0
    cases e
  refine (cloneWords_any a l cap w h hn hlen).mono ?_
  rintro e w' ⟨a1, c1, x, rfl, rfl, r1, r2, r3⟩
  obtain ⟨g, post, rfl, hB, hw, -, rfl, hm⟩ := Wn.of_own r1 h0
  exact ⟨g, post, x, rfl, rfl, hB, hw, hm⟩

theorem cmp_lt (x y : Nat) : (decide (W.cmpN x y < 0)) = decide (x < y) := by
  unfold W.cmpN
  by_cases h : x < y
  · simp [h]
  · rw [if_neg h]; by_cases h2 : y < x <;> simp [h, h2]

set_option maxRecDepth 100000 in
set_option maxHeartbeats 1000000 in
theorem natDivide_less (a b : Option Addr) (l m : List Nat) (c d : Nat) (w : World) (h : Arr w a (u32s l)) (k : Arr w b (u32s m)) (hc : l.length ≤ c) (hd : m.length ≤ d) (hcm : c ≤ 9223372036854775807) (hdm : d ≤ 9223372036854775807) (ha : a = none → l.length = 0 ∧ c = 0)
    (wl : W.WF l) (wm : W.WF m) (nl : W.Nrm l) (hl : l.length ≤ 8193) (hlt : W.val l < W.val m) :
    Calls Try.prog 173 #[.slice a l.length c, .slice b m.length d] w (RetTwo w 0 (W.val l)) := by
  have c1 : decide (W.cmpN (W.val l) (W.val m) < 0) = true := by rw [cmp_lt]; simpa using hlt
  have HL := Lib.hid (W.toW_val wl nl)
  go_enter Try.func173, Try.ntmps173
  go_wp2_with fail
  refine Calls.mono (natCompare_any a b l m c d w h k hc hd hcm hdm wl wm) ?_
  rintro e w' ⟨rfl, x, rfl⟩
  go_wp2_with fail
  refine Calls.mono (cloneWords_any a l c _ (h.ext x) ha (by omega)) ?_
  rintro e w' ⟨a1, c1, x1, rfl, rfl, r1, r2, r3⟩
  go_wp2
  go_ret2
  refine ⟨none, 0, a1, c1, ?_, ((Blw.refl w).ext x).ext x1, ?_, ?_⟩
  · rw [HL.out, W.toW_zero]; rfl
  · rw [W.toW_zero]; exact World.ownsRow_nil _ _ _ _
  · rw [HL.out]; exact ownsRow_mono r1 (w.le_ext x)

set_option maxRecDepth 100000 in
set_option maxHeartbeats 4000000 in
theorem natDivide_one (a b : Option Addr) (l : List Nat) (y : Nat) (c d : Nat) (w : World) (h : Arr w a (u32s l)) (k : Arr w b (u32s [y])) (hc : l.length ≤ c) (hd : 1 ≤ d) (hcm : c ≤ 9223372036854775807) (hdm : d ≤ 9223372036854775807)
    (wl : W.WF l) (hy : y < 4294967296) (hy0 : 0 < y) (hl : l.length ≤ 8193) (hge : y ≤ W.val l) :
    Calls Try.prog 173 #[.slice a l.length c, .slice b 1 d] w (RetTwo w (W.val l / y) (W.val l % y)) := by
  have vy : W.val [y] = y := by simp [W.val]
  have l0 : 0 < l.length := by
    cases l with
    | nil => simp [W.val] at hge; omega
    | cons => simp
  have c1 : decide (W.cmpN (W.val l) y < 0) = false := by rw [cmp_lt]; simpa using hge
  obtain ⟨y', b1, o1, -, -, hyy, rfl, hb, hbc⟩ := k.elem (k := 0) (by simp)
  have : y' = y := by have := hyy.out; simpa using this.symm
  subst this
  simp only [Nat.add_zero] at hbc
  have hcmp := natCompare_any a (some ⟨b1, o1, none⟩) l [y'] c d w h k hc hd hcm hdm wl (W.WF.cons hy W.WF.nil)
  rw [vy] at hcmp
  have hmod : W.val l % y' < 18446744073709551616 := Nat.lt_trans (Nat.mod_lt _ hy0) (by omega)
  have hz : hyy = hyy := rfl
  clear hyy hz vy
  go_enter Try.func173, Try.ntmps173
  go_wp2_with fail
  refine Calls.mono hcmp ?_
  rintro e w' ⟨rfl, x, rfl⟩
  go_wp2_with fail
  have hbx : b1 < (w.ext x).drew.heap.size := Nat.lt_of_lt_of_le hb (w.le_ext x)
  have hcx : (w.ext x).drew.cell? ⟨b1, o1, none⟩ = some (.int .u32 y') := by go_simp
  go_region_held3 (fun w' => w'.cell? ⟨b1, o1, none⟩ = some (.int .u32 y')) (first | go_keep | assumption | go_simp) (first
    | (go_at_call 172; refine Calls.mono (cloneWords_new a l c _ ((h.ext x).drew) l0 (by omega)) ?_; rintro e w' ⟨g, post, x1, rfl, rfl, hg, hW, hm⟩; have hS1 := (World.cell?_ext (w.ext x).drew x1 b1 o1 none hbx).trans hcx)
    | (go_at_call 184; refine Calls.mono (natSmall_any g 0 [] post l (l.length + post.length) y' _ rfl hW (by omega) hm (by omega) wl hy0 hy) ?_; rintro e w' ⟨q, rfl, q1, q2, q3, q4, q5⟩; have hS2 := (World.cell?_of_block (a := ⟨b1, o1, none⟩) (q5.block b1 (Nat.lt_of_lt_of_le hbx (World.le_ext _ _)) (by omega))).trans hS1))
  have em : ((W.val l : Int) % (y' : Int)) = ((W.val l % y' : Nat) : Int) := (Int.natCast_emod ..).symm
  rw [em]
  clear em
  have hs := w.le_ext x
  have hgw : w.heap.size ≤ g := Nat.le_trans hs hg
  have ho := q1.own (B := w.heap.size) hgw (by rw [q3]; unfold maxLen; omega)
  have ho2 := own_cut ho q2
  rw [q4, q3] at ho2
  have hb3 : Blw w w' := KeptO.blw ((((Blw.refl w).ext x).drew).ext x1) q5 (fun i hi => by rw [hi]; exact hgw)
  have ml : W.val l % y' < y' := Nat.mod_lt _ hy0
  clear hcmp hge c1 hbc hcx hS1 hS2 k h hW q5
  go_wp2_with fail
  refine Calls.mono (natOf_any (W.val l % y') _ hmod) ?_
  rintro e w2 ⟨a2, c2, x2, rfl, rfl, r1, r2, r3⟩
  go_wp2
  go_ret2
  exact ⟨some ⟨g, 0, none⟩, l.length + post.length, a2, c2, rfl, hb3.ext x2, ownsRow_blw ho2 (w'.blw_ext x2), ownsRow_mono r1 hb3.size⟩
end Go.Proofs.Ytigkfdoeneemeaa
