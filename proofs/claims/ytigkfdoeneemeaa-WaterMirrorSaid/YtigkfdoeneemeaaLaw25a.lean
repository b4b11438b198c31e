/- The small functions of the law of waters: small, whole, sign, walked. -/
import Derived.Test.YtigkfdoeneemeaaWat3
import Derived.Test.YtigkfdoeneemeaaFin
namespace Go.Proofs.Ytigkfdoeneemeaa
open Go.RowKit

def smW (n most : Nat) : Bool := decide (n ≤ most) || (decide (2048 < n) && decide (n < 2057))
set_option maxHeartbeats 400000 in
theorem law04small_any (a : Option Addr) (n c most : Nat) (w : World) (hn : n ≤ 9223372036854775807) (hm : most ≤ 1000) :
    Calls Try.prog 119 #[.slice a n c, .int .i64 most] w fun e w' => e = .returned (.bool (smW n most)) ∧ w' = w := by
  by_cases h1 : n ≤ most
  · have d1 : decide ((n : Int) ≤ (most : Int)) = true := by simp; omega
    have d1' : decide (n ≤ most) = true := by simpa using h1
    have HE := Lib.hid (show smW n most = true by unfold smW; rw [d1']; rfl)
    go_enter Try.func119, Try.ntmps119
    go_wp2
    go_ret
    exact ⟨ret_bool HE.out.symm, rfl⟩
  · have d1 : decide ((n : Int) ≤ (most : Int)) = false := by simp; omega
    have d1' : decide (n ≤ most) = false := by simpa using h1
    by_cases h2 : 2048 < n
    · have d2 : decide ((2048 : Int) < (n : Int)) = true := by simp; omega
      have d2' : decide (2048 < n) = true := by simpa using h2
      by_cases h3 : n < 2057
      · have d3 : decide ((n : Int) < 2057) = true := by simp; omega
        have HE := Lib.hid (show smW n most = true by unfold smW; rw [d1', d2']; simpa using h3)
        go_enter Try.func119, Try.ntmps119
        go_wp2
        go_ret
        exact ⟨ret_bool HE.out.symm, rfl⟩
      · have d3 : decide ((n : Int) < 2057) = false := by simp; omega
        have HE := Lib.hid (show smW n most = false by unfold smW; rw [d1', d2']; simpa using h3)
        go_enter Try.func119, Try.ntmps119
        go_wp2
        go_ret
        exact ⟨ret_bool HE.out.symm, rfl⟩
    · have d2 : decide ((2048 : Int) < (n : Int)) = false := by simp; omega
      have d2' : decide (2048 < n) = false := by simpa using h2
      have HE := Lib.hid (show smW n most = false by unfold smW; rw [d1', d2']; rfl)
      go_enter Try.func119, Try.ntmps119
      go_wp2
      go_ret
      exact ⟨ret_bool HE.out.symm, rfl⟩

def smF (r : Fr) : Bool := smW r.num.length 20 && smW r.den.length 20
set_option maxHeartbeats 400000 in
theorem law04Small_any (r : Fr) (a : Option Addr) (c : Nat) (b : Option Addr) (d : Nat) (w : World) (hn : r.num.length ≤ 9223372036854775807) (hd : r.den.length ≤ 9223372036854775807) :
    Calls Try.prog 65 #[frV r a c b d, .int .i64 20] w fun e w' => e = .returned (.bool (smF r)) ∧ ∃ x, w' = w.ext x := by
  obtain ⟨rn, rnum, rden⟩ := r
  simp only at hn hd
  have L1 := fun W => law04small_any a rnum.length c 20 W hn (by decide)
  have L2 := fun W => law04small_any b rden.length d 20 W hd (by decide)
  have he : smF ⟨rn, rnum, rden⟩ = (smW rnum.length 20 && smW rden.length 20) := rfl
  generalize smW rnum.length 20 = u at *
  generalize smW rden.length 20 = v at *
  have H1 := Lib.hid L1
  have H2 := Lib.hid L2
  have HE := Lib.hid he
  clear L1 L2 he
  cases u
  · go_enter Try.func65, Try.ntmps65
    go_wp2_with (go_at_call 119; (first | (with_reducible refine Calls.mono (H1.out _) ?_) | (with_reducible refine Calls.mono (H2.out _) ?_)); rintro e w' ⟨rfl, rfl⟩)
    go_ret
    exact ⟨ret_bool (by rw [HE.out]; rfl), Blw.is (by repeat (first | exact Blw.refl _ | apply Blw.ext | apply Blw.alloc | apply Blw.drewN | apply Blw.drew | refine Blw.setCell ?_ _ _ (by simp)))⟩
  · go_enter Try.func65, Try.ntmps65
    go_wp2_with (go_at_call 119; (first | (with_reducible refine Calls.mono (H1.out _) ?_) | (with_reducible refine Calls.mono (H2.out _) ?_)); rintro e w' ⟨rfl, rfl⟩)
    go_ret
    exact ⟨ret_bool (by rw [HE.out]; rfl), Blw.is (by repeat (first | exact Blw.refl _ | apply Blw.ext | apply Blw.alloc | apply Blw.drewN | apply Blw.drew | refine Blw.setCell ?_ _ _ (by simp)))⟩

theorem sl_ratios : SlT Try.prog 97 88 (.agg #[.bool false, .slice none 0 0, .slice none 0 0]) 3 56 := ⟨Try.underlying97, by kernel_rfl, by kernel_rfl, by decide⟩
def wholeR (ns : List Int) : List Fr := ns.map (fun n => smallF n 1)
/-- Fractions of the call's own, in a slice of the call's own. -/
def RetFls (w : World) (rs : List Fr) (e : Ending) (w' : World) : Prop :=
  ∃ (out : List FL) (a : Option Addr) (c : Nat), e = .returned (.slice a out.length c) ∧ Blw w w' ∧ w'.ownsRow w.heap.size 88 3 (.slice a out.length c) out.length (fls out) ∧ (∀ x ∈ out, OwnFL w.heap.size w' x) ∧ out.map (·.r) = rs
theorem smallF_wf (n d : Int) : W.WF (smallF n d).num ∧ W.WF (smallF n d).den := ⟨W.wf_toW _, W.wf_toW _⟩

set_option maxRecDepth 100000 in
set_option maxHeartbeats 4000000 in
theorem whole_any (a : Option Addr) (ns : List Int) (cap : Nat) (w : World) (h : Arr w a (i64s ns)) (hl : ns.length ≤ 1000) (hb : ∀ n ∈ ns, -9223372036854775808 ≤ n ∧ n ≤ 9223372036854775807) :
    Calls Try.prog 92 #[.slice a ns.length cap] w (RetFls w (wholeR ns)) := by
  have HB := Lib.hid hb
  clear hb
  go_enter Try.func92, Try.ntmps92
  go_wp2_with fail
  go_loopw [3, 4] (fun vo vi wr => ∃ (k : Nat) (out : List FL) (b : Option Addr) (c : Nat), k ≤ ns.length ∧ vi = .int .i64 k ∧ vo = .slice b out.length c ∧ wr.ownsRow w.heap.size 88 3 (.slice b out.length c) out.length (fls out) ∧ (∀ x ∈ out, OwnFL w.heap.size wr x) ∧ Hid (out.map (·.r) = wholeR (ns.take k)) ∧ Blw w wr) (fun _ i _ => ns.length - (intOf i).toNat)
  case atStart => exact ⟨0, [], none, 0, Nat.zero_le _, rfl, rfl, World.ownsRow_nil _ _ _ _, (fun x h => by simp at h), rfl, Blw.refl _⟩
  case round =>
    obtain ⟨k, out, b, c, hk, rfl, rfl, hown, hio, hkey, hbw⟩ := hrel
    have HIO := Lib.hid hio
    clear hio
    have hlen : out.length = k := by
      have := congrArg List.length hkey.out
      simp [wholeR] at this; omega
    by_cases hlt : k < ns.length
    · obtain ⟨n, bb, o, -, hm, hg, rfl, hbs, hc⟩ := (h.blw hbw).elem hlt
      obtain ⟨n0, n1⟩ := HB.out n hm
      have HG := Lib.hid hg.out
      clear hg hm
      have HLN := Lib.hid hlen
      have hlen2 : out.length ≤ 1000 := by omega
      clear hlen
      go_wp2_with fail
      refine Calls.mono (ratioSmall_any n 1 _ n0 n1 (by decide) (by decide) (by decide)) ?_
      rintro e w5 ⟨p1, q1, p2, q2, rfl, hb5, oX, oY⟩
      obtain ⟨wf1, wf2⟩ := smallF_wf n 1
      have HWF1 := Lib.hid wf1
      have HWF2 := Lib.hid wf2
      obtain ⟨⟨ng, nw, dw⟩, hF⟩ := ex_hid (smallF n 1)
      rw [hF.out] at oX oY HWF1 HWF2 ⊢
      simp only at oX oY HWF1 HWF2
      have hown5 := ownsRow_blw hown hb5
      have HIO5 := Lib.hid (fun x hx => (HIO.out x hx).blw hb5)
      have oX5 := ownsRow_mono oX hbw.size
      have oY5 := ownsRow_mono oY hbw.size
      have hbw5 := hbw.trans hb5
      clear oX oY hown wf1 wf2 HIO
      have HCL := Lib.hid (cells_len FL.cells 3 (fun _ => rfl) out)
      go_wp2_with (at_builtin; refine wpList_app w _ rfl _ _ 97 rfl sl_ratios ((hbw5.alloc _).alloc _) _ out.length _ rfl (ownsRow_blw hown5 (((Blw.refl _).alloc _).alloc _)) _ 1 1 [.bool ng, .slice p1 nw.length q1, .slice p2 dw.length q2] rfl (by simp) (Arr.lit_at _ _ _ _ (by simp)) (by simp) (by simp [Value.oneCell']) (by unfold maxLen; omega) (by omega) ?_; intro v7 w7 hown7 hb7 hg7 _)
      obtain ⟨a7, c7, rfl, -, -, -, -, -⟩ := own_arr hown7
      have HKEY : Hid ((out ++ [(⟨⟨ng, nw, dw⟩, p1, q1, p2, q2⟩ : FL)]).map (·.r) = wholeR (ns.take (k + 1))) := by
        show _ = _
        rw [List.map_append, hkey.out, List.take_add_one, HG.out]
        simp [wholeR, hF.out]
      have HO : Hid (∀ x ∈ out ++ [(⟨⟨ng, nw, dw⟩, p1, q1, p2, q2⟩ : FL)], OwnFL w.heap.size w7 x) := by
        intro x hx
        rw [List.mem_append, List.mem_singleton] at hx
        rcases hx with hx | rfl
        · exact OwnFL.past ((HIO5.out x hx).blw (((Blw.refl _).alloc _).alloc _)) (ownsRow_blw hown5 (((Blw.refl _).alloc _).alloc _)) (by decide) hg7
        · exact OwnFL.past (OwnFL.blw ⟨oX5, oY5, HWF1.out, HWF2.out⟩ (((Blw.refl _).alloc _).alloc _)) (ownsRow_blw hown5 (((Blw.refl _).alloc _).alloc _)) (by decide) hg7
      have HOL : Hid (w7.ownsRow w.heap.size 88 3 (.slice a7 (out ++ [(⟨⟨ng, nw, dw⟩, p1, q1, p2, q2⟩ : FL)]).length c7) (out ++ [(⟨⟨ng, nw, dw⟩, p1, q1, p2, q2⟩ : FL)]).length (fls (out ++ [(⟨⟨ng, nw, dw⟩, p1, q1, p2, q2⟩ : FL)]))) := by
        have e : fls (out ++ [(⟨⟨ng, nw, dw⟩, p1, q1, p2, q2⟩ : FL)]) = fls out ++ [.bool ng, .slice p1 nw.length q1, .slice p2 dw.length q2] := by
          rw [fls, List.flatMap_append]; rfl
        show World.ownsRow _ _ _ _ _ _ _
        rw [e, List.length_append]
        exact hown7
      clear hown7 hg7
      go_roundw
      case rel => exact ⟨k + 1, _, a7, c7, by omega, by go_num, (by rw [List.length_append]; rfl), HOL.out, HO.out, HKEY, hb7⟩
      case measure => simp [intOf]; omega
    · have hkl : k = ns.length := by omega
      subst hkl
      have HK := Lib.hid (hkey.out.trans (by rw [List.take_length]))
      clear hkey hlen
      go_wp2
      go_ret
      exact ⟨out, b, c, rfl, hbw, hown, HIO.out, HK.out⟩

set_option maxHeartbeats 400000 in
theorem sign_ok (x y : FL) (w : World) (hx : FL.In w x) (hy : FL.In w y) (ox : x.r.Ok) (oy : y.r.Ok) :
    Calls Try.prog 90 #[frV x.r x.a x.c x.b x.d, frV y.r y.a y.c y.b y.d] w fun e w' => e = .returned (.int .i64 (cmpF x.r y.r)) ∧ ∃ z, w' = w.ext z := by
  have K := Lib.hid (fun (W : World) (hb : Blw w W) => ratioCompare_ok x.r y.r x.a x.c x.b x.d y.a y.c y.b y.d W (hx.blw hb) (hy.blw hb) ox oy)
  clear hx hy ox oy
  go_enter Try.func90, Try.ntmps90
  go_wp2_with fail
  refine Calls.mono (K.out _ (by repeat (first | exact Blw.refl _ | apply Blw.ext | apply Blw.alloc | apply Blw.drewN | apply Blw.drew | refine Blw.setCell ?_ _ _ (by simp)))) ?_
  rintro e w1 ⟨rfl, x1, rfl⟩
  go_wp2
  go_ret
  exact ⟨rfl, Blw.is (by repeat (first | exact Blw.refl _ | apply Blw.ext | apply Blw.alloc | apply Blw.drewN | apply Blw.drew | refine Blw.setCell ?_ _ _ (by simp)))⟩
end Go.Proofs.Ytigkfdoeneemeaa
