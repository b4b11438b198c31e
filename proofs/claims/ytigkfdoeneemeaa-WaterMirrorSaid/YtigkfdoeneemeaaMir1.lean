/- The walk of WaterMirror, to the end of its first loop. -/
import Derived.Test.YtigkfdoeneemeaaAwk1
import Derived.Test.YtigkfdoeneemeaaMir0
import Derived.Test.YtigkfdoeneemeaaTwo2
import Derived.Deep.RegionHeld3
namespace Go.Proofs.Ytigkfdoeneemeaa
open Go.RowKit

def flsn (l : List FL) : Nat := l.length
set_option maxRecDepth 100000 in
set_option maxHeartbeats 8000000 in
theorem mirror_walk (A : Option Addr) (l : List FL) (cap : Nat) (w : World) (hA : Arr w A (fls l)) (hin : ∀ x ∈ l, FL.In w x) (hl : l.length ≤ 9223372036854775807) :
    Calls Try.prog 12 #[.slice A l.length cap] w fun e w' => e = .returned (.bool true) ∧ ∃ x, w' = w.ext x := by
  have SM := Lib.hid (fun (W : World) (hb : Blw w W) => law25small_any A l cap W (hA.blw hb) hl (fun x hx => ⟨Nat.le_trans (hin x hx).cn (hin x hx).cm, Nat.le_trans (hin x hx).dn (hin x hx).dm⟩))
  have HIN := Lib.hid hin
  clear hin
  go_enter Try.func12, Try.ntmps12
  go_wp2_with fail
  refine Calls.mono (awake_any _) ?_
  rintro e w1 ⟨rfl, x1, rfl⟩
  go_wp2_with fail
  refine Calls.mono (SM.out _ (by repeat (first | exact Blw.refl _ | apply Blw.ext | apply Blw.alloc | apply Blw.drewN | apply Blw.drew | refine Blw.setCell ?_ _ _ (by simp)))) ?_
  rintro e w2 ⟨rfl, x2, rfl⟩
  generalize smallL l = sm at *
  clear SM
  cases sm
  · go_wp2
    go_ret
    exact ⟨rfl, Blw.is (by repeat (first | exact Blw.refl _ | apply Blw.ext | apply Blw.alloc | apply Blw.drewN | apply Blw.drew | refine Blw.setCell ?_ _ _ (by simp)))⟩
  by_cases h60 : 60 < l.length
  · have d1 : decide ((60 : Int) < (l.length : Int)) = true := by simp; omega
    go_wp2
    go_ret
    exact ⟨rfl, Blw.is (by repeat (first | exact Blw.refl _ | apply Blw.ext | apply Blw.alloc | apply Blw.drewN | apply Blw.drew | refine Blw.setCell ?_ _ _ (by simp)))⟩
  have d1 : decide ((60 : Int) < (l.length : Int)) = false := by simp; omega
  have hl60 : l.length ≤ 60 := by omega
  clear h60 hl
  go_wp2_with fail
  clear d1
  go_loopw [4, 5, 6] (fun v4 v5 vi wr => ∃ (k : Nat) (nl rl : List FL), k ≤ l.length ∧ vi = .int .i64 k ∧ Two w.heap.size wr 88 3 v4 k (fls nl) v5 k (fls rl) ∧ Blw w wr ∧ Hid (∀ x ∈ nl, OwnFL w.heap.size wr x) ∧ Hid (nl.map (·.r) = (l.take k).map fun x => negF x.r) ∧ Hid (rl = l.reverse.take k) ∧ Hid (∀ x ∈ l.take k, chkF x.r = 0)) (fun _ _ i _ => l.length - (intOf i).toNat)
  case atStart => exact ⟨0, [], [], Nat.zero_le _, rfl, Two.nil _, (by repeat (first | exact Blw.refl _ | apply Blw.ext | apply Blw.alloc | apply Blw.drewN | apply Blw.drew | refine Blw.setCell ?_ _ _ (by simp))), (fun x h => by simp at h), rfl, rfl, (fun x h => by simp at h)⟩
  case round =>
    obtain ⟨k, nl, rl, hk, rfl, hT, hb, hown, hneg, hrnd, hall⟩ := hrel
    by_cases hlt : k < l.length
    · obtain ⟨x, b, o, hgx, hmx, rfl, hbs, c0, c1, c2⟩ := fl_at (hA.blw hb) hlt
      have HX := Lib.hid hgx
      have hbw : b < w.heap.size := by
        obtain ⟨_, _, _, _, _, e, e2, _⟩ := fl_at hA hlt
        cases e; exact e2
      have HM := Lib.hid hmx
      clear hgx hmx
      by_cases hbad : chkF x.r = 0
      · have NG := ratioNeg_ok x.r x.a x.c x.b x.d wr ((HIN.out x HM.out).blw hb) (ok_chkF hbad)
        have HN := Lib.hid NG
        have HBAD := Lib.hid hbad
        obtain ⟨p1, q1, e1, -, -, -, -, -⟩ := own_arr hT.o1
        obtain ⟨p2, q2, e2, -, -, -, -, -⟩ := own_arr hT.o2
        subst e1 e2
        clear NG hbad
        go_wp2_with fail
        refine Calls.mono HN.out ?_
        rintro e w5 ⟨a7, c7, a8, c8, rfl, hb5, oX, oY⟩
        clear HN c0 c1 c2
        obtain ⟨y, b', o', hgy, hmy, e1, hbs5, d0, d1, d2⟩ := fl_at ((hA.blw hb).blw hb5) (show l.length - 1 - k < l.length by omega)
        simp only [Option.some.injEq, Addr.mk.injEq] at e1
        obtain ⟨rfl, rfl, -⟩ := e1
        have hi1 : ((l.length : Int) - 1 - (k : Int)).toNat = l.length - 1 - k := by omega
        have hi2 : (0 : Int) ≤ (l.length : Int) - 1 - (k : Int) := by omega
        have hi3 : (l.length : Int) - 1 - (k : Int) < (l.length : Int) := by omega
        have hi4 : (k : Int) ≤ (l.length : Int) - 1 := by omega
        have hi5 : (l.length : Int) - 1 < (l.length : Int) + (k : Int) := by omega
        have hi6 : IntKind.i64.wrap ((l.length : Int) - 1) = (l.length : Int) - 1 := by rw [IntKind.wrap_i64]; omega
        have hi7 : IntKind.i64.wrap ((l.length : Int) - 1 - (k : Int)) = (l.length : Int) - 1 - (k : Int) := by rw [IntKind.wrap_i64]; omega
        have HGY := Lib.hid hgy
        clear hgy hmy
        go_wp2_with fail
        refine gen_world (fun W => (w5.heap.size < W.heap.size ∧ W.cell? ⟨w5.heap.size, 0, none⟩ = some (.bool (negF x.r).neg) ∧ W.cell? ⟨w5.heap.size, 1, none⟩ = some (.slice a7 (negF x.r).num.length c7) ∧ W.cell? ⟨w5.heap.size, 2, none⟩ = some (.slice a8 (negF x.r).den.length c8) ∧ b < W.heap.size ∧ W.cell? ⟨b, o + (l.length - 1 - k) * 3, none⟩ = some (.bool y.r.neg) ∧ W.cell? ⟨b, o + (l.length - 1 - k) * 3 + 1, none⟩ = some (.slice y.a y.r.num.length y.c) ∧ W.cell? ⟨b, o + (l.length - 1 - k) * 3 + 2, none⟩ = some (.slice y.b y.r.den.length y.d)) ∧ Two w.heap.size W 88 3 (.slice p1 k q1) k (fls nl) (.slice p2 k q2) k (fls rl) ∧ Blw w W ∧ Hid (W.heap.size = w5.heap.size + 1) ∧ Blw w5 W) ⟨⟨by simp, by go_simp, by go_simp, by go_simp, by go_simp, by go_simp, by go_simp, by go_simp⟩, hT.blw (hb5.alloc _), (hb.trans hb5).alloc _, by (show _ = _; simp), (Blw.refl _).alloc _⟩ ?_
        rintro wq ⟨hS, hTq, hbq, hzq, hb5q⟩
        have HOQ := Lib.hid (fun x hx => ((hown.out x hx).blw hb5).blw hb5q)
        have HT := Lib.hid hTq
        have HNE := Lib.hid (fun (j : Nat) (hj : w5.heap.size ≤ j) => And.intro (fun e => Nat.lt_irrefl j (Nat.lt_of_lt_of_le (World.ownsRow.lt (hT.o1) j e).2 (Nat.le_trans hb5.size hj))) (fun e => Nat.lt_irrefl j (Nat.lt_of_lt_of_le (World.ownsRow.lt (hT.o2) j e).2 (Nat.le_trans hb5.size hj))))
        have HS := Lib.hid (fun (W : World) (hK : KeptO (fun j => (Value.slice p1 k q1).ownBlock = some j ∨ (Value.slice p2 k q2).ownBlock = some j) wq W) => show w5.heap.size < W.heap.size ∧ W.cell? ⟨w5.heap.size, 0, none⟩ = some (.bool (negF x.r).neg) ∧ W.cell? ⟨w5.heap.size, 1, none⟩ = some (.slice a7 (negF x.r).num.length c7) ∧ W.cell? ⟨w5.heap.size, 2, none⟩ = some (.slice a8 (negF x.r).den.length c8) ∧ b < W.heap.size ∧ W.cell? ⟨b, o + (l.length - 1 - k) * 3, none⟩ = some (.bool y.r.neg) ∧ W.cell? ⟨b, o + (l.length - 1 - k) * 3 + 1, none⟩ = some (.slice y.a y.r.num.length y.c) ∧ W.cell? ⟨b, o + (l.length - 1 - k) * 3 + 2, none⟩ = some (.slice y.b y.r.den.length y.d) from by
          obtain ⟨s0, s1, s2, s3, s4, s5, s6, s7⟩ := hS
          have n1 : ¬ ((Value.slice p1 k q1).ownBlock = some w5.heap.size ∨ (Value.slice p2 k q2).ownBlock = some w5.heap.size) := by rintro (e | e); exact (HNE.out _ (Nat.le_refl _)).1 e; exact (HNE.out _ (Nat.le_refl _)).2 e
          have n2 : ¬ ((Value.slice p1 k q1).ownBlock = some b ∨ (Value.slice p2 k q2).ownBlock = some b) := by rintro (e | e); have := (World.ownsRow.lt HT.out.o1 b e).1; omega; have := (World.ownsRow.lt HT.out.o2 b e).1; omega
          exact ⟨Nat.lt_of_lt_of_le s0 hK.size, (hK.cell s0 n1).trans s1, (hK.cell s0 n1).trans s2, (hK.cell s0 n1).trans s3, Nat.lt_of_lt_of_le s4 hK.size, (hK.cell s4 n2).trans s5, (hK.cell s4 n2).trans s6, (hK.cell s4 n2).trans s7⟩)
        have HBQ := Lib.hid (fun (W : World) (hK : KeptO (fun j => (Value.slice p1 k q1).ownBlock = some j ∨ (Value.slice p2 k q2).ownBlock = some j) wq W) => KeptO.blw hbq hK (fun j hj => by rcases hj with e | e; exact (World.ownsRow.lt HT.out.o1 j e).1; exact (World.ownsRow.lt HT.out.o2 j e).1))
        have hS' := hS
        clear hT d0 d1 d2 hTq hS
        have OX := Lib.hid oX
        have OY := Lib.hid oY
        clear oX oY
        go_region_held3 (fun W => w5.heap.size < W.heap.size ∧ W.cell? ⟨w5.heap.size, 0, none⟩ = some (.bool (negF x.r).neg) ∧ W.cell? ⟨w5.heap.size, 1, none⟩ = some (.slice a7 (negF x.r).num.length c7) ∧ W.cell? ⟨w5.heap.size, 2, none⟩ = some (.slice a8 (negF x.r).den.length c8) ∧ b < W.heap.size ∧ W.cell? ⟨b, o + (l.length - 1 - k) * 3, none⟩ = some (.bool y.r.neg) ∧ W.cell? ⟨b, o + (l.length - 1 - k) * 3 + 1, none⟩ = some (.slice y.a y.r.num.length y.c) ∧ W.cell? ⟨b, o + (l.length - 1 - k) * 3 + 2, none⟩ = some (.slice y.b y.r.den.length y.d)) (first | assumption | (refine HS.out _ ?_; repeat (first | assumption | exact KeptO.refl _ | apply KeptO.alloc | apply KeptO.drew))) (first
          | (refine step_app w _ (by rfl) _ _ 97 (by rfl) sl_ratios ?_ (.slice p1 k q1) k (fls nl) (by rfl) ?_ _ 1 1 [.bool (negF x.r).neg, .slice a7 (negF x.r).num.length c7, .slice a8 (negF x.r).den.length c8] (by rfl) (by simp) ?_ (by simp) (by simp [Value.oneCell']) (by unfold maxLen; omega) (by omega) ?_
             · refine HBQ.out _ ?_
               repeat (first | assumption | exact KeptO.refl _ | apply KeptO.alloc | apply KeptO.drew)
             · refine (HT.out.blw ?_).o1
               repeat (first | exact Blw.refl _ | apply Blw.alloc | apply Blw.drew)
             · (first | exact Arr.lit_at _ _ _ _ (by simp) | exact Arr.lit_at2 _ _ _ _ _ (by simp) | exact Arr.drew (Arr.lit_at _ _ _ _ (by simp)) | exact Arr.drew (Arr.lit_at2 _ _ _ _ _ (by simp)))
             intro v1 w1 r1 r2 r3 r4
             have hKA := KeptO.grown (O := fun j => (Value.slice p1 k q1).ownBlock = some j ∨ (Value.slice p2 k q2).ownBlock = some j) (a := wq) (by repeat (first | assumption | exact KeptO.refl _ | apply KeptO.alloc | apply KeptO.drew)) r3 (fun j hj => .inl (.inl hj))
             have TA := Lib.hid (Two.app1 (HT.out.blw (by repeat (first | exact Blw.refl _ | apply Blw.alloc | apply Blw.drew))) r1 r3 r4)
             have HGA := Lib.hid (fun (q : Option Addr) (cs : List Value) (h : Arr _ q cs) (hn : ∀ a, q = some a → ¬ ((.slice p1 k q1) : Value).ownBlock = some a.block) => KeptO.arr (O := fun j => ((.slice p1 k q1) : Value).ownBlock = some j) (KeptO.grown (KeptO.refl _) r3 (fun j hj => .inl hj)) h hn)
             obtain ⟨s1, z1, rfl, -, -, -, -, -⟩ := own_arr r1
             clear r1 r2 r3 r4)
          | (refine step_app w _ (by rfl) _ _ 97 (by rfl) sl_ratios ?_ (.slice p2 k q2) k (fls rl) (by rfl) ?_ _ 1 1 [.bool y.r.neg, .slice y.a y.r.num.length y.c, .slice y.b y.r.den.length y.d] (by rfl) (by simp) ?_ (by simp) (by simp [Value.oneCell']) (by unfold maxLen; omega) (by omega) ?_
             · refine HBQ.out _ ?_
               repeat (first | assumption | exact KeptO.refl _ | apply KeptO.alloc | apply KeptO.drew)
             · refine (TA.out.blw ?_).o2
               repeat (first | exact Blw.refl _ | apply Blw.alloc | apply Blw.drew)
             · (first | exact Arr.lit_at _ _ _ _ (by simp) | exact Arr.lit_at2 _ _ _ _ _ (by simp) | exact Arr.drew (Arr.lit_at _ _ _ _ (by simp)) | exact Arr.drew (Arr.lit_at2 _ _ _ _ _ (by simp)) | (refine HGA.out _ _ ?_ ?_; (first | exact Arr.lit_at _ _ _ _ (by simp) | exact Arr.lit_at2 _ _ _ _ _ (by simp) | exact Arr.drew (Arr.lit_at _ _ _ _ (by simp)) | exact Arr.drew (Arr.lit_at2 _ _ _ _ _ (by simp))); intro q hq e; cases hq; exact (HNE.out _ (by have h9 := hzq.out; first | omega | (simp; omega))).1 e))
             intro v2 w2 r1 r2 r3 r4
             have hKB := KeptO.grown (O := fun j => (Value.slice p1 k q1).ownBlock = some j ∨ (Value.slice p2 k q2).ownBlock = some j) (a := wq) (by repeat (first | assumption | exact KeptO.refl _ | apply KeptO.alloc | apply KeptO.drew)) r3 (fun j hj => .inl (.inr hj))
             have TB := Lib.hid (Two.app2 (TA.out.blw (by repeat (first | exact Blw.refl _ | apply Blw.alloc | apply Blw.drew))) r1 r3 r4)
             have HGB := Lib.hid (fun (q : Option Addr) (cs : List Value) (h : Arr _ q cs) (hn : ∀ a, q = some a → ¬ ((.slice p2 k q2) : Value).ownBlock = some a.block) => KeptO.arr (O := fun j => ((.slice p2 k q2) : Value).ownBlock = some j) (KeptO.grown (KeptO.refl _) r3 (fun j hj => .inl hj)) h hn)
             obtain ⟨s2, z2, rfl, -, -, -, -, -⟩ := own_arr r1
             clear r1 r2 r3 r4))
        all_goals
          have HOW : Hid (∀ z ∈ nl ++ [(⟨negF x.r, a7, c7, a8, c8⟩ : FL)], OwnFL w.heap.size w2 z) := by
            intro z hz
            rw [List.mem_append, List.mem_singleton] at hz
            refine OwnFL.kept (w := wq) ?_ HT.out.o1 HT.out.o2 (by decide) (by decide) hKB
            rcases hz with hz | rfl
            · exact HOQ.out z hz
            · exact ⟨ownsRow_mono (ownsRow_blw OX.out hb5q) hb.size, ownsRow_mono (ownsRow_blw OY.out hb5q) hb.size, (HIN.out x HM.out).wn, (HIN.out x HM.out).wd⟩
          have HNG : Hid ((nl ++ [(⟨negF x.r, a7, c7, a8, c8⟩ : FL)]).map (·.r) = (l.take (k + 1)).map fun x => negF x.r) := by
            show _ = _
            rw [List.map_append, hneg.out, List.take_add_one, HX.out]; simp
          have HRD : Hid (rl ++ [y] = l.reverse.take (k + 1)) := by
            show _ = _
            rw [hrnd.out, List.take_add_one, List.getElem?_reverse (by omega), HGY.out]; rfl
          have HAL : Hid (∀ z ∈ l.take (k + 1), chkF z.r = 0) := by
            intro z hz
            rw [List.take_add_one, HX.out] at hz
            rw [List.mem_append] at hz
            rcases hz with hz | hz
            · exact hall.out z hz
            · simp at hz; rw [hz]; exact HBAD.out
          have HTT : Hid (Two w.heap.size w2 88 3 (.slice s1 (k + 1) z1) (k + 1) (fls (nl ++ [(⟨negF x.r, a7, c7, a8, c8⟩ : FL)])) (.slice s2 (k + 1) z2) (k + 1) (fls (rl ++ [y]))) := by
            show Two _ _ _ _ _ _ _ _ _ _
            rw [fls_snoc, fls_snoc]; exact TB.out
          have hb2 := HBQ.out _ hKB
          clear hi1 hi2 hi3 hi4 hi5 hi6 hi7 HS hS' HBQ hKA hKB HT hown hneg hrnd hall
          go_wp2
          go_roundw
          case rel => exact ⟨k + 1, _, _, by omega, by go_num, HTT.out, hb2, HOW, HNG, HRD, HAL⟩
          case measure => simp [intOf]; omega
      · have NG := ratioNeg_bad x.r x.a x.c x.b x.d wr ((HIN.out x HM.out).blw hb) hbad
        generalize chkF x.r = u at *
        have q : (u != 0) = true := by simpa using hbad
        have HN := Lib.hid NG
        clear NG hbad hT
        go_wp2_with fail
        refine Calls.mono HN.out ?_
        rintro e w5 ⟨rfl, x5, rfl⟩
        clear HN
        go_wp2
        go_ret
        exact ⟨rfl, Blw.is (hb.trans (by repeat (first | exact Blw.refl _ | apply Blw.ext | apply Blw.alloc | apply Blw.drewN | apply Blw.drew | refine Blw.setCell ?_ _ _ (by simp))))⟩
    · have hkl : k = l.length := by omega
      subst hkl
      have hok : ∀ x ∈ l, x.r.Ok := fun x hx => ok_chkF (hall.out x (by rw [List.take_length]; exact hx))
      have hneg' : nl.map (·.r) = l.map fun x => negF x.r := by have := hneg.out; rwa [List.take_length] at this
      have hrl : rl = l.reverse := by have := hrnd.out; rwa [List.take_of_length_le (by simp)] at this
      subst hrl
      have hnl : nl.length = l.length := by have := congrArg List.length hneg'; simpa using this
      obtain ⟨p1, q1, e1, hA1, -, -, -, -⟩ := own_arr hT.o1
      obtain ⟨p2, q2, e2, hA2, -, -, -, -⟩ := own_arr hT.o2
      subst e1 e2
      have hc0 : cntd l.length 0 = 0 := by unfold cntd; rw [if_neg (by omega), if_neg (by omega)]
      have C1 := Lib.hid (waterOf_ok A l cap 0 wr (hA.blw hb) (fun x hx => (HIN.out x hx).blw hb) hok hc0)
      have C2 := Lib.hid (fun (W : World) (hW : Blw wr W) => hnl ▸ waterOf_ok p1 nl q1 0 W (hA1.blw hW) (fun x hx => ((hown.out x hx).blw hW).in) (fun x hx => by
        have hm : x.r ∈ nl.map (·.r) := List.mem_map_of_mem hx
        rw [hneg', List.mem_map] at hm
        obtain ⟨y, hy, e⟩ := hm
        rw [← e]; exact negF_ok (hok y hy)) (by rw [hnl]; exact hc0))
      have C3 := Lib.hid (fun (W : World) (hW : Blw wr W) => (show l.reverse.length = l.length by simp) ▸ waterOf_ok p2 l.reverse q2 0 W (hA2.blw hW) (fun x hx => ((HIN.out x (List.mem_reverse.1 hx)).blw hb).blw hW) (fun x hx => hok x (List.mem_reverse.1 hx)) (by rw [List.length_reverse]; exact hc0))
      have HMI := Lib.hid (fun (wa wb wc : List WL) h1 h2 h3 => mirror_at (wa := wa) (wb := wb) (wc := wc) hok hneg' h1 h2 h3)
      clear hT hown hneg hrnd hall hok hneg' hnl hA1 hA2 hc0 hlt
      go_wp2_with fail
      refine Calls.mono C1.out ?_
      rintro e w6 ⟨wa, g1, c1, rfl, hb6, own6, -, key6⟩
      have KEY6 := Lib.hid key6
      clear key6 C1
      go_wp2_with fail
      refine Calls.mono (C2.out _ hb6) ?_
      rintro e w7 ⟨wb, g2, c2, rfl, hb7, own7, -, key7⟩
      have KEY7 := Lib.hid key7
      clear key7 C2
      go_wp2_with fail
      refine Calls.mono (C3.out _ (hb6.trans hb7)) ?_
      rintro e w8 ⟨wc, g3, c3, rfl, hb8, own8, -, key8⟩
      have KEY8 := Lib.hid key8
      clear key8 C3
      obtain ⟨hlb, hlc, hat⟩ := HMI.out wa wb wc KEY6.out KEY7.out KEY8.out
      have o6 := ownsRow_blw (ownsRow_blw own6 hb7) hb8
      have o7 := ownsRow_blw own7 hb8
      obtain ⟨_, _, e, W6, -, hl6, hm6, -⟩ := own_arr o6
      cases e
      obtain ⟨_, _, e, W7, -, -, -, -⟩ := own_arr o7
      cases e
      obtain ⟨_, _, e, W8, -, -, -, -⟩ := own_arr own8
      cases e
      rw [hlb, hlc]
      have HAT := Lib.hid hat
      have HLB := Lib.hid hlb
      have HLC := Lib.hid hlc
      have hb28 : Blw w w8 := ((hb.trans hb6).trans hb7).trans hb8
      clear HMI KEY6 KEY7 KEY8 hlb hlc hat own6 own7 own8 o6 o7 hb6 hb7 hb8
      go_wp2_with fail
      go_loopw [15] (fun vi wr2 => ∃ i : Nat, i ≤ wa.length ∧ vi = .int .i64 i ∧ Blw w8 wr2) (fun i _ => wa.length - (intOf i).toNat)
      case atStart => exact ⟨0, Nat.zero_le _, rfl, Blw.refl _⟩
      case round =>
        obtain ⟨i, hi, rfl, hb8⟩ := hrel
        by_cases hlt : i < wa.length
        · obtain ⟨⟨xt, xl, xp, xh⟩, b1, o1, hx, -, rfl, f1, x0, x1, x2, x3, x4, x5⟩ := wl_at (W6.blw hb8) hlt
          obtain ⟨⟨yt, yl, yp, yh⟩, b2, o2, hy, -, rfl, f2, y0, y1, y2, y3, y4, y5⟩ := wl_at (W7.blw hb8) (show i < wb.length by rw [HLB.out]; exact hlt)
          obtain ⟨⟨zt, zl, zp, zh⟩, b3, o3, hz, -, rfl, f3, z0, z1, z2, z3, z4, z5⟩ := wl_at (W8.blw hb8) (show wa.length - 1 - i < wc.length by rw [HLC.out]; omega)
          obtain ⟨k1, k2, k3, k4, k5, k6, k7, k8, k9, k10⟩ := HAT.out i hlt _ _ _ hx hy hz
          simp only at k1 k2 k3 k4 k5 k6 k7 k8 k9 k10 x0 x1 x2 x3 x4 x5 y0 y1 y2 y3 y4 y5 z0 z1 z2 z3 z4 z5
          clear hx hy hz
          replace k1 := k1.symm
          replace k2 := k2.symm
          replace k6 := k6.symm
          subst k1 k2 k3 k4 k5 k6
          unfold maxLen at hm6
          have hi1 : ((wa.length : Int) - 1 - (i : Int)).toNat = wa.length - 1 - i := by omega
          have hi2 : (0 : Int) ≤ (wa.length : Int) - 1 - (i : Int) := by omega
          have hi3 : (wa.length : Int) - 1 - (i : Int) < (wa.length : Int) := by omega
          have hi4 : (i : Int) ≤ (wa.length : Int) - 1 := by omega
          have hi6 : IntKind.i64.wrap ((wa.length : Int) - 1) = (wa.length : Int) - 1 := by rw [IntKind.wrap_i64]; omega
          have hi7 : IntKind.i64.wrap ((wa.length : Int) - 1 - (i : Int)) = (wa.length : Int) - 1 - (i : Int) := by rw [IntKind.wrap_i64]; omega
          have HS := Lib.hid (fun (W : World) (hW : Blw wr W) => show W.cell? ⟨b1, o1 + i * 6, none⟩ = some (.int .i64 xt) ∧ W.cell? ⟨b1, o1 + i * 6 + 1, none⟩ = some (.int .i64 xl) ∧ W.cell? ⟨b1, o1 + i * 6 + 2, none⟩ = some (.bool xp) ∧ W.cell? ⟨b1, o1 + i * 6 + 3, none⟩ = some (.bool xh.r.neg) ∧ W.cell? ⟨b1, o1 + i * 6 + 4, none⟩ = some (.slice xh.a xh.r.num.length xh.c) ∧ W.cell? ⟨b1, o1 + i * 6 + 5, none⟩ = some (.slice xh.b xh.r.den.length xh.d) ∧ W.cell? ⟨b2, o2 + i * 6, none⟩ = some (.int .i64 xt) ∧ W.cell? ⟨b2, o2 + i * 6 + 1, none⟩ = some (.int .i64 xl) ∧ W.cell? ⟨b2, o2 + i * 6 + 2, none⟩ = some (.bool (!xp)) ∧ W.cell? ⟨b2, o2 + i * 6 + 3, none⟩ = some (.bool yh.r.neg) ∧ W.cell? ⟨b2, o2 + i * 6 + 4, none⟩ = some (.slice yh.a yh.r.num.length yh.c) ∧ W.cell? ⟨b2, o2 + i * 6 + 5, none⟩ = some (.slice yh.b yh.r.den.length yh.d) ∧ W.cell? ⟨b3, o3 + (wa.length - 1 - i) * 6, none⟩ = some (.int .i64 ((l.length : Int) - 1 - xl)) ∧ W.cell? ⟨b3, o3 + (wa.length - 1 - i) * 6 + 1, none⟩ = some (.int .i64 ((l.length : Int) - 1 - xt)) ∧ W.cell? ⟨b3, o3 + (wa.length - 1 - i) * 6 + 2, none⟩ = some (.bool xp) ∧ W.cell? ⟨b3, o3 + (wa.length - 1 - i) * 6 + 3, none⟩ = some (.bool zh.r.neg) ∧ W.cell? ⟨b3, o3 + (wa.length - 1 - i) * 6 + 4, none⟩ = some (.slice zh.a zh.r.num.length zh.c) ∧ W.cell? ⟨b3, o3 + (wa.length - 1 - i) * 6 + 5, none⟩ = some (.slice zh.b zh.r.den.length zh.d) from
            ⟨(Below.cell hW f1).trans x0, (Below.cell hW f1).trans x1, (Below.cell hW f1).trans x2, (Below.cell hW f1).trans x3, (Below.cell hW f1).trans x4, (Below.cell hW f1).trans x5, (Below.cell hW f2).trans y0, (Below.cell hW f2).trans y1, (Below.cell hW f2).trans y2, (Below.cell hW f2).trans y3, (Below.cell hW f2).trans y4, (Below.cell hW f2).trans y5, (Below.cell hW f3).trans z0, (Below.cell hW f3).trans z1, (Below.cell hW f3).trans z2, (Below.cell hW f3).trans z3, (Below.cell hW f3).trans z4, (Below.cell hW f3).trans z5⟩)
          have hS := HS.out _ (Blw.refl _)
          clear x0 x1 x2 x3 x4 x5 y0 y1 y2 y3 y4 y5 z0 z1 z2 z3 z4 z5
          go_wp2_with fail
          go_region_held3 (fun W => W.cell? ⟨b1, o1 + i * 6, none⟩ = some (.int .i64 xt) ∧ W.cell? ⟨b1, o1 + i * 6 + 1, none⟩ = some (.int .i64 xl) ∧ W.cell? ⟨b1, o1 + i * 6 + 2, none⟩ = some (.bool xp) ∧ W.cell? ⟨b1, o1 + i * 6 + 3, none⟩ = some (.bool xh.r.neg) ∧ W.cell? ⟨b1, o1 + i * 6 + 4, none⟩ = some (.slice xh.a xh.r.num.length xh.c) ∧ W.cell? ⟨b1, o1 + i * 6 + 5, none⟩ = some (.slice xh.b xh.r.den.length xh.d) ∧ W.cell? ⟨b2, o2 + i * 6, none⟩ = some (.int .i64 xt) ∧ W.cell? ⟨b2, o2 + i * 6 + 1, none⟩ = some (.int .i64 xl) ∧ W.cell? ⟨b2, o2 + i * 6 + 2, none⟩ = some (.bool (!xp)) ∧ W.cell? ⟨b2, o2 + i * 6 + 3, none⟩ = some (.bool yh.r.neg) ∧ W.cell? ⟨b2, o2 + i * 6 + 4, none⟩ = some (.slice yh.a yh.r.num.length yh.c) ∧ W.cell? ⟨b2, o2 + i * 6 + 5, none⟩ = some (.slice yh.b yh.r.den.length yh.d) ∧ W.cell? ⟨b3, o3 + (wa.length - 1 - i) * 6, none⟩ = some (.int .i64 ((l.length : Int) - 1 - xl)) ∧ W.cell? ⟨b3, o3 + (wa.length - 1 - i) * 6 + 1, none⟩ = some (.int .i64 ((l.length : Int) - 1 - xt)) ∧ W.cell? ⟨b3, o3 + (wa.length - 1 - i) * 6 + 2, none⟩ = some (.bool xp) ∧ W.cell? ⟨b3, o3 + (wa.length - 1 - i) * 6 + 3, none⟩ = some (.bool zh.r.neg) ∧ W.cell? ⟨b3, o3 + (wa.length - 1 - i) * 6 + 4, none⟩ = some (.slice zh.a zh.r.num.length zh.c) ∧ W.cell? ⟨b3, o3 + (wa.length - 1 - i) * 6 + 5, none⟩ = some (.slice zh.b zh.r.den.length zh.d)) ((refine HS.out _ ?_; repeat (first | exact Blw.refl _ | apply Blw.alloc | apply Blw.drew | refine Blw.setCell ?_ _ _ (by simp)))) (fail)
          clear hS HS hi1 hi2 hi3 hi4 hi6 hi7
          have hj1 : IntKind.i64.wrap ((l.length : Int) - 1) = (l.length : Int) - 1 := by rw [IntKind.wrap_i64]; omega
          have hj2 : IntKind.i64.wrap ((l.length : Int) - 1 - xl) = (l.length : Int) - 1 - xl := by rw [IntKind.wrap_i64]; omega
          have hj3 : IntKind.i64.wrap ((l.length : Int) - 1 - xt) = (l.length : Int) - 1 - xt := by rw [IntKind.wrap_i64]; omega
          all_goals
            cases xp
            all_goals
              go_wp2
              go_roundw
              case rel => exact ⟨i + 1, by omega, by go_num, hb8.trans (by repeat (first | exact Blw.refl _ | apply Blw.ext | apply Blw.alloc | apply Blw.drewN | apply Blw.drew | refine Blw.setCell ?_ _ _ (by simp)))⟩
              case measure => simp [intOf]; omega
        · have hil : i = wa.length := by omega
          subst hil
          go_wp2
          go_ret
          exact ⟨rfl, Blw.is (hb28.trans hb8)⟩
end Go.Proofs.Ytigkfdoeneemeaa
