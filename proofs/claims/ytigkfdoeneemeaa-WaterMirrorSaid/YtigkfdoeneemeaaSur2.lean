/- The walk of water.Sures. -/
import Derived.Test.YtigkfdoeneemeaaSur1
import Derived.Deep.LoopGhost
namespace Go.Proofs.Ytigkfdoeneemeaa
open Go.RowKit

def scj (l : List (Nat × Nat)) (i j : Nat) : SC := if j = 0 then sc0 else if j = 1 then sc1 l i else sc2 l i
def SuresOut (w : World) (l : List (Nat × Nat)) (first : Int) (e : Ending) (w' : World) : Prop :=
  ∃ (v1 v2 v3 : Value), e = .returned (.tuple #[.agg #[v1, v2, v3], .int .i64 0]) ∧ Blw w w' ∧ w'.ownsRow w.heap.size 3 1 v1 (tks (isTop l) first l.length).length (i64s (tks (isTop l) first l.length)) ∧
    w'.ownsRow w.heap.size 3 1 v2 (tks (isBot l) first l.length).length (i64s (tks (isBot l) first l.length)) ∧ w'.ownsRow w.heap.size 3 1 v3 (tks (isDbt l) first l.length).length (i64s (tks (isDbt l) first l.length)) ∧
    (∀ i, v1.ownBlock = some i → v2.ownBlock ≠ some i) ∧ (∀ i, v1.ownBlock = some i → v3.ownBlock ≠ some i) ∧ (∀ i, v2.ownBlock = some i → v3.ownBlock ≠ some i)

theorem tks_is (p : Nat → Bool) (first : Int) (n : Nat) : tks p first (n + 1) = if p n then tks p first n ++ [first + (n : Int)] else tks p first n := by
  split
  · exact tks_yes (by assumption)
  · exact tks_no (by simpa using (by assumption : ¬ p n = true))
theorem sure_end {w wr : World} {l : List (Nat × Nat)} {first : Int} {v1 v2 v3 : Value} (h : SAt3 w wr (w.heap.size + 1) w.heap.size 108 (tks (isTop l) first l.length) (tks (isBot l) first l.length) (tks (isDbt l) first l.length) v1 v2 v3) :
    Blw w (((wr.setCell ⟨w.heap.size, 0, none⟩ v1).setCell ⟨w.heap.size, 1, none⟩ v2).setCell ⟨w.heap.size, 2, none⟩ v3) ∧
    (((wr.setCell ⟨w.heap.size, 0, none⟩ v1).setCell ⟨w.heap.size, 1, none⟩ v2).setCell ⟨w.heap.size, 2, none⟩ v3).ownsRow w.heap.size 3 1 v1 (tks (isTop l) first l.length).length (i64s (tks (isTop l) first l.length)) ∧
    (((wr.setCell ⟨w.heap.size, 0, none⟩ v1).setCell ⟨w.heap.size, 1, none⟩ v2).setCell ⟨w.heap.size, 2, none⟩ v3).ownsRow w.heap.size 3 1 v2 (tks (isBot l) first l.length).length (i64s (tks (isBot l) first l.length)) ∧
    (((wr.setCell ⟨w.heap.size, 0, none⟩ v1).setCell ⟨w.heap.size, 1, none⟩ v2).setCell ⟨w.heap.size, 2, none⟩ v3).ownsRow w.heap.size 3 1 v3 (tks (isDbt l) first l.length).length (i64s (tks (isDbt l) first l.length)) ∧
    (∀ i, v1.ownBlock = some i → v2.ownBlock ≠ some i) ∧ (∀ i, v1.ownBlock = some i → v3.ownBlock ≠ some i) ∧ (∀ i, v2.ownBlock = some i → v3.ownBlock ≠ some i) := by
  have set3 : ∀ {n : Nat} {v : Value} {cs : List Value}, wr.ownsRow w.heap.size 3 1 v n cs → (((wr.setCell ⟨w.heap.size, 0, none⟩ v1).setCell ⟨w.heap.size, 1, none⟩ v2).setCell ⟨w.heap.size, 2, none⟩ v3).ownsRow w.heap.size 3 1 v n cs :=
    fun o => KeptO.own (O := fun k => k = w.heap.size) (((KeptO.setCell (KeptO.refl (O := fun k => k = w.heap.size) wr) ⟨w.heap.size, 0, none⟩ v1 (.inl rfl)).setCell ⟨w.heap.size, 1, none⟩ v2 (.inl rfl)).setCell ⟨w.heap.size, 2, none⟩ v3 (.inl rfl)) o (fun k hk e => own_ne o h.rs h.hT (by rw [hk, e]))
  exact ⟨blw_three h.bl (Nat.le_refl _) _ _ _, set3 h.o1, set3 h.o2, set3 h.o3, h.n12, h.n13, h.n23⟩

theorem scAt_le (l : List (Nat × Nat)) (i k : Nat) (s : SC) : (scAt l i k s).hi ≤ s.hi + 1 ∧ (scAt l i k s).lo ≤ s.lo + 1 ∧ (scAt l i k s).nr ≤ s.nr + 1 := by
  unfold scAt
  refine ⟨?_, ?_, Nat.le_refl _⟩
  · simp only; split <;> omega
  · simp only; split <;> omega
theorem sc1_le (l : List (Nat × Nat)) (i : Nat) : (sc1 l i).hi ≤ 1 ∧ (sc1 l i).lo ≤ 1 ∧ (sc1 l i).nr ≤ 1 := by
  unfold sc1
  split
  · exact scAt_le l i (i - 1) sc0
  · exact ⟨Nat.zero_le _, Nat.zero_le _, Nat.zero_le _⟩
theorem sc2_le (l : List (Nat × Nat)) (i : Nat) : (sc2 l i).hi ≤ 2 ∧ (sc2 l i).lo ≤ 2 ∧ (sc2 l i).nr ≤ 2 := by
  have h := sc1_le l i
  unfold sc2
  split
  · have := scAt_le l i (i + 1) (sc1 l i)
    omega
  · omega
theorem put_eq {K : Act → World → Prop} {a : Act} {d : Option Nat} {v v' : Value} {w : World} (h : v = v') (k : K (a.put d v') w) : K (a.put d v) w := by rw [h]; exact k
theorem low_at {l : List (Nat × Nat)} {i k : Nat} {x y : Nat × Nat} (hx : l[i]? = some x) (hy : l[k]? = some y) : low l i k = lowerB x.1 x.2 y.1 y.2 := by
  unfold low; rw [List.getD_eq_getElem?_getD, List.getD_eq_getElem?_getD, hx, hy]; rfl

set_option maxRecDepth 100000 in
set_option maxHeartbeats 8000000 in
theorem sures_ok (A : Option Addr) (l : List (Nat × Nat)) (cap : Nat) (first : Int) (w : World) (hA : Arr w A (offs l)) (hc : cntd l.length first = 0) :
    Calls Try.prog 81 #[.slice A l.length cap, .int .i64 first] w (SuresOut w l first) := by
  obtain ⟨hlen, hf0, hf1, hfn⟩ := cntd_zero hc
  have CN := fun W => counted_any l.length first W (by omega)
  rw [hc] at CN
  have HCN := Lib.hid CN
  clear CN hc
  have hS0 : SAt3 w ((w.alloc (.cells #[.slice none 0 0, .slice none 0 0, .slice none 0 0] 108)).alloc (.cells #[.slice none 0 0, .slice none 0 0, .slice none 0 0] 108)) (w.heap.size + 1) w.heap.size 108 [] [] [] (.slice none 0 0) (.slice none 0 0) (.slice none 0 0) :=
    ⟨heap_alloc_at (by simp), at_alloc _ (heap_alloc_new _ _), by omega, by omega, (by repeat (first | exact Blw.refl _ | apply Blw.ext | apply Blw.alloc | apply Blw.drewN | apply Blw.drew | refine Blw.setCell ?_ _ _ (by simp))), by decide, World.ownsRow_nil _ _ _ _, World.ownsRow_nil _ _ _ _, World.ownsRow_nil _ _ _ _, (fun i h => by cases h), (fun i h => by cases h), (fun i h => by cases h)⟩
  go_enter Try.func81, Try.ntmps81
  go_wp2_with (go_at_call 126; refine Calls.mono (HCN.out _) ?_; rintro e w1 ⟨rfl, rfl⟩)
  clear HCN
  go_loopw [28] (fun vi wr => ∃ (i : Nat) (v1 v2 v3 : Value), i ≤ l.length ∧ vi = .int .i64 i ∧ SAt3 w wr (w.heap.size + 1) w.heap.size 108 (tks (isTop l) first i) (tks (isBot l) first i) (tks (isDbt l) first i) v1 v2 v3) (fun i _ => l.length - (intOf i).toNat)
  case atStart => exact ⟨0, _, _, _, Nat.zero_le _, rfl, hS0⟩
  case round =>
    obtain ⟨i, v1, v2, v3, hi, rfl, hS⟩ := hrel
    clear hS0
    have hb := hS.bl
    by_cases hlt : i < l.length
    · obtain ⟨x, b, o, hgx, -, rfl, hbs, c0, c1⟩ := off_at (hA.blw hb) hlt
      have HX := Lib.hid hgx
      have hbw : b < w.heap.size := by
        obtain ⟨_, _, _, _, _, e, e2, _⟩ := off_at hA hlt
        cases e; exact e2
      clear hgx
      have i1 : IntKind.i64.wrap ((i : Int) - 1) = (i : Int) - 1 := by rw [IntKind.wrap_i64]; omega
      have i2 : IntKind.i64.wrap ((i : Int) + 1) = (i : Int) + 1 := by rw [IntKind.wrap_i64]; omega
      have bx : ∀ W : World, Blw (wr.alloc (.cells #[.float .f64 x.1, .float .f64 x.2] 26)) W → W.cell? ⟨wr.heap.size, 0, none⟩ = some (.float .f64 x.1) ∧ W.cell? ⟨wr.heap.size, 1, none⟩ = some (.float .f64 x.2) ∧ wr.heap.size < W.heap.size ∧ Blw w W := by
        intro W hW
        have hz : wr.heap.size < (wr.alloc (.cells #[.float .f64 x.1, .float .f64 x.2] 26)).heap.size := by simp
        exact ⟨(Below.cell hW hz).trans (by go_simp), (Below.cell hW hz).trans (by go_simp), Nat.lt_of_lt_of_le hz hW.size, (hb.alloc _).trans hW⟩
      have HBX := Lib.hid bx
      clear bx
      go_wp2
      go_loopg [10, 11, 12, 13, 38] 2 (fun g vh vl vn vd vk wq => ∃ j : Nat, j + g = 2 ∧ vk = .int .i64 j ∧ vh = .int .i64 (scj l i j).hi ∧ vl = .int .i64 (scj l i j).lo ∧ vn = .int .i64 (scj l i j).nr ∧ vd = .bool (scj l i j).db ∧ Blw (wr.alloc (.cells #[.float .f64 x.1, .float .f64 x.2] 26)) wq)
      case atStart => exact ⟨0, rfl, rfl, rfl, rfl, rfl, rfl, Blw.refl _⟩
      case round =>
        obtain ⟨j, hj, rfl, rfl, rfl, rfl, rfl, hby⟩ := hrel
        have ix0 : ∀ (p q : Value) (w : World), (Instr.index 150 (.agg #[p, q]) (.int .i64 0)).run Try.prog w = .ok p w := fun _ _ _ => by kernel_rfl
        have ix1 : ∀ (p q : Value) (w : World), (Instr.index 150 (.agg #[p, q]) (.int .i64 1)).run Try.prog w = .ok q w := fun _ _ _ => by kernel_rfl
        have hj3 : j = 0 ∨ j = 1 ∨ j = 2 := by omega
        rcases hj3 with rfl | rfl | rfl
        · by_cases hz0 : i = 0
          · subst hz0
            obtain rfl : gk = 2 := by omega
            have hs : scj l 0 1 = scj l 0 0 := rfl
            go_wp2
            go_roundg 1
            case rel => exact ⟨1, by omega, rfl, rfl, rfl, rfl, rfl, hby⟩
            case measure => omega
          · obtain ⟨m, hm⟩ : ∃ m, i = m + 1 := ⟨i - 1, by omega⟩
            have HM := Lib.hid hm
            have hml : m < l.length := by omega
            have t0 : (0 : Int) ≤ (i : Int) - 1 := by omega
            have t1 : (i : Int) - 1 < (l.length : Int) := by omega
            have t2 : ((i : Int) - 1).toNat = m := by omega
            have t5 : (1 : Int) ≤ (i : Int) := by omega
            have t6 : 1 ≤ i := by omega
            have t7 : ((i : Int) - 1).toNat * 2 = m * 2 := by omega
            have t3 : decide ((i : Int) - 1 < 0) = false := by simp; omega
            have t4 : decide ((l.length : Int) ≤ (i : Int) - 1) = false := by simp; omega
            clear hm
            obtain rfl : gk = 2 := by omega
            obtain ⟨bx0, bx1, bxl, hbW⟩ := HBX.out _ hby
            obtain ⟨y, b2, o2, hgy, -, e2, hbs2, d0, d1⟩ := off_at (k := m) (hA.blw hbW) hml
            simp only [Option.some.injEq, Addr.mk.injEq] at e2
            obtain ⟨rfl, rfl, -⟩ := e2
            have hlo1 := low_at hgy HX.out
            have hlo2 := low_at HX.out hgy
            have U1 := fun W => lower_any y.1 y.2 x.1 x.2 W
            have U2 := fun W => lower_any x.1 x.2 y.1 y.2 W
            have hn : scj l i 1 = scAt l i (m) (scj l i 0) := by have h := HM.out; clear HM; subst h; rfl
            unfold scAt at hn
            rw [hlo1, hlo2] at hn
            have bd : (scj l i 0).hi ≤ 1 ∧ (scj l i 0).lo ≤ 1 ∧ (scj l i 0).nr ≤ 1 := ⟨Nat.zero_le _, Nat.zero_le _, Nat.zero_le _⟩
            obtain ⟨⟨sa, sb, sn, sd⟩, hs⟩ := ex_hid (scj l i 0)
            rw [hs.out] at hn bd ⊢
            generalize lowerB y.1 y.2 x.1 x.2 = ab at *
            generalize lowerB x.1 x.2 y.1 y.2 = be at *
            simp only at hn bd ⊢
            have HU1 := Lib.hid U1
            have HU2 := Lib.hid U2
            have HN := Lib.hid hn
            have HGY := Lib.hid hgy
            clear U1 U2 hlo1 hlo2 hn hgy
            have hz1 := Lib.hid hz0
            clear hz0
            have wa : IntKind.i64.wrap ((sa : Int) + 1) = (sa : Int) + 1 := by rw [IntKind.wrap_i64]; omega
            have wb : IntKind.i64.wrap ((sb : Int) + 1) = (sb : Int) + 1 := by rw [IntKind.wrap_i64]; omega
            have wn : IntKind.i64.wrap ((sn : Int) + 1) = (sn : Int) + 1 := by rw [IntKind.wrap_i64]; omega
            go_wp2
            refine wp_region_ext_lit (by kernel_rfl) (by kernel_rfl) ?_
            repeat (quiet_step (first | (go_at_call 16; (with_reducible exact Calls.ext_of (HU1.out _))) | (go_at_call 16; (with_reducible exact Calls.ext_of (HU2.out _)))))
            refine wpQuiet_nil ?_
            rintro _ ⟨z, rfl⟩
            clear d0 d1 bx0 bx1 HU1 HU2
            cases ab <;> cases be <;> cases sd
            all_goals
              go_wp2
              go_roundg 1
              case rel => exact ⟨1, by omega, by go_num, by rw [HN.out]; simp, by rw [HN.out]; simp, by rw [HN.out]; simp, by rw [HN.out]; simp, hby.ext z⟩
              case measure => omega
        · obtain rfl : gk = 1 := by omega
          have t0 : (0 : Int) ≤ (i : Int) + 1 := by omega
          have t2 : ((i : Int) + 1).toNat = i + 1 := by omega
          have t3 : decide ((i : Int) + 1 < 0) = false := by simp; omega
          by_cases hk1 : i + 1 < l.length
          · have t1 : (i : Int) + 1 < (l.length : Int) := by omega
            have t4 : decide ((l.length : Int) ≤ (i : Int) + 1) = false := by simp; omega
            obtain ⟨bx0, bx1, bxl, hbW⟩ := HBX.out _ hby
            obtain ⟨y, b2, o2, hgy, -, e2, hbs2, d0, d1⟩ := off_at (k := i + 1) (hA.blw hbW) hk1
            simp only [Option.some.injEq, Addr.mk.injEq] at e2
            obtain ⟨rfl, rfl, -⟩ := e2
            have hlo1 := low_at hgy HX.out
            have hlo2 := low_at HX.out hgy
            have U1 := fun W => lower_any y.1 y.2 x.1 x.2 W
            have U2 := fun W => lower_any x.1 x.2 y.1 y.2 W
            have hn : scj l i 2 = scAt l i (i + 1) (scj l i 1) := by show sc2 l i = _; unfold sc2; rw [if_pos hk1]; rfl
            unfold scAt at hn
            rw [hlo1, hlo2] at hn
            have bd : (scj l i 1).hi ≤ 1 ∧ (scj l i 1).lo ≤ 1 ∧ (scj l i 1).nr ≤ 1 := sc1_le l i
            obtain ⟨⟨sa, sb, sn, sd⟩, hs⟩ := ex_hid (scj l i 1)
            rw [hs.out] at hn bd ⊢
            generalize lowerB y.1 y.2 x.1 x.2 = ab at *
            generalize lowerB x.1 x.2 y.1 y.2 = be at *
            simp only at hn bd ⊢
            have HU1 := Lib.hid U1
            have HU2 := Lib.hid U2
            have HN := Lib.hid hn
            have HGY := Lib.hid hgy
            clear U1 U2 hlo1 hlo2 hn hgy
            have wa : IntKind.i64.wrap ((sa : Int) + 1) = (sa : Int) + 1 := by rw [IntKind.wrap_i64]; omega
            have wb : IntKind.i64.wrap ((sb : Int) + 1) = (sb : Int) + 1 := by rw [IntKind.wrap_i64]; omega
            have wn : IntKind.i64.wrap ((sn : Int) + 1) = (sn : Int) + 1 := by rw [IntKind.wrap_i64]; omega
            go_wp2
            refine wp_region_ext_lit (by kernel_rfl) (by kernel_rfl) ?_
            repeat (quiet_step (first | (go_at_call 16; (with_reducible exact Calls.ext_of (HU1.out _))) | (go_at_call 16; (with_reducible exact Calls.ext_of (HU2.out _)))))
            refine wpQuiet_nil ?_
            rintro _ ⟨z, rfl⟩
            clear d0 d1 bx0 bx1 HU1 HU2
            cases ab <;> cases be <;> cases sd
            all_goals
              go_wp2
              go_roundg 0
              case rel => exact ⟨2, by omega, by go_num, by rw [HN.out]; simp, by rw [HN.out]; simp, by rw [HN.out]; simp, by rw [HN.out]; simp, hby.ext z⟩
              case measure => omega
          · have t4 : decide ((l.length : Int) ≤ (i : Int) + 1) = true := by simp; omega
            have hn : scj l i 2 = scj l i 1 := by show sc2 l i = _; unfold sc2; rw [if_neg hk1]; rfl
            have HN := Lib.hid hn
            clear hn
            go_wp2
            go_roundg 0
            case measure => omega
            case rel => exact ⟨2, by omega, by go_num, by rw [HN.out], by rw [HN.out], by rw [HN.out], by rw [HN.out], hby⟩
        · obtain rfl : gk = 0 := by omega
          have S0 := hS.blw (((Blw.refl _).alloc _).trans hby)
          have e2 : scj l i 2 = sc2 l i := rfl
          rw [e2]
          have hT : isTop l i = ((sc2 l i).nr == 2 && (sc2 l i).hi == 2) := rfl
          have hB : isBot l i = ((sc2 l i).nr == 2 && (sc2 l i).lo == 2) := rfl
          have hD : isDbt l i = (sc2 l i).db := rfl
          obtain ⟨⟨sa, sb, sn, sd⟩, hs⟩ := ex_hid (sc2 l i)
          rw [hs.out] at hT hB hD ⊢
          simp only at hT hB hD ⊢
          have cs : ∀ n : Nat, ((n : Int) == 2) = (n == 2) := fun n => by rw [Bool.eq_iff_iff, beq_iff_eq, beq_iff_eq]; omega
          have c1 := cs sa
          have c2 := cs sb
          have c3 := cs sn
          generalize (sa == 2) = ba at *
          generalize (sb == 2) = bb at *
          generalize (sn == 2) = bn at *
          have n1 := tks_len (isTop l) first i
          have n2 := tks_len (isBot l) first i
          have n3 := tks_len (isDbt l) first i
          have HR : ∀ (W : World) (u1 u2 u3 : Value), SAt3 w W (w.heap.size + 1) w.heap.size 108 (if bn && ba then tks (isTop l) first i ++ [first + (i : Int)] else tks (isTop l) first i) (if bn && bb then tks (isBot l) first i ++ [first + (i : Int)] else tks (isBot l) first i) (if sd then tks (isDbt l) first i ++ [first + (i : Int)] else tks (isDbt l) first i) u1 u2 u3 →
              SAt3 w W (w.heap.size + 1) w.heap.size 108 (tks (isTop l) first (i + 1)) (tks (isBot l) first (i + 1)) (tks (isDbt l) first (i + 1)) u1 u2 u3 := by
            intro W u1 u2 u3 h
            rw [tks_is, tks_is, tks_is, hT, hB, hD]; exact h
          have HHR := Lib.hid HR
          clear e2 hT hB hD hS hb hby cs hs HR
          generalize tks (isTop l) first i = L1 at *
          generalize tks (isBot l) first i = L2 at *
          generalize tks (isDbt l) first i = L3 at *
          obtain ⟨a1, cc1, rfl, -, -, -, -, -⟩ := own_arr S0.o1
          obtain ⟨a2, cc2, rfl, -, -, -, -, -⟩ := own_arr S0.o2
          obtain ⟨a3, cc3, rfl, -, -, -, -, -⟩ := own_arr S0.o3
          cases sd
          · cases bn
            · go_wp2
              go_roundw
              case rel => exact ⟨i + 1, _, _, _, by omega, by go_num, HHR.out _ _ _ _ S0⟩
              case measure => simp [intOf]; omega
            · cases ba
              · cases bb
                · go_wp2
                  go_roundw
                  case rel => exact ⟨i + 1, _, _, _, by omega, by go_num, HHR.out _ _ _ _ S0⟩
                  case measure => simp [intOf]; omega
                · obtain ⟨x1, x2, x3, x4, x5⟩ := S0.cells
                  go_wp2_with (first | (at_builtin; have p := S0.o2; refine wpList_app2 w _ rfl _ _ 106 rfl sl_ints (S0.bl.alloc _) _ L2.length (i64s L2) rfl (ownsRow_blw p ((Blw.refl _).alloc _)) _ 1 1 [.int .i64 (first + (i : Int))] rfl (by simp) (Arr.lit_at _ _ _ _ (by simp)) (by simp) (by simp [Value.oneCell']) (by unfold maxLen; omega) (by omega) ?_; intro v10 w10 q1 q2 q3 q4; obtain ⟨y1, y2, y3, y4, y5⟩ := cells3 (SAt3.grown2 (S0.blw ((Blw.refl _).alloc _)) q3); have S1 := SAt3.app2 (S0.blw ((Blw.refl _).alloc _)) q1 q2 q3 q4; obtain ⟨ab, cb, rfl, -, -, -, -, -⟩ := own_arr q1; clear p q1 q2 q3 q4 S0))
                  go_roundw
                  case rel => exact ⟨i + 1, _, _, _, by omega, by go_num, HHR.out _ _ _ _ S1⟩
                  case measure => simp [intOf]; omega
              · cases bb
                · obtain ⟨x1, x2, x3, x4, x5⟩ := S0.cells
                  go_wp2_with (first | (at_builtin; have p := S0.o1; refine wpList_app2 w _ rfl _ _ 106 rfl sl_ints (S0.bl.alloc _) _ L1.length (i64s L1) rfl (ownsRow_blw p ((Blw.refl _).alloc _)) _ 1 1 [.int .i64 (first + (i : Int))] rfl (by simp) (Arr.lit_at _ _ _ _ (by simp)) (by simp) (by simp [Value.oneCell']) (by unfold maxLen; omega) (by omega) ?_; intro v10 w10 q1 q2 q3 q4; obtain ⟨y1, y2, y3, y4, y5⟩ := cells3 (SAt3.grown1 (S0.blw ((Blw.refl _).alloc _)) q3); have S1 := SAt3.app1 (S0.blw ((Blw.refl _).alloc _)) q1 q2 q3 q4; obtain ⟨ab, cb, rfl, -, -, -, -, -⟩ := own_arr q1; clear p q1 q2 q3 q4 S0))
                  go_roundw
                  case rel => exact ⟨i + 1, _, _, _, by omega, by go_num, HHR.out _ _ _ _ S1⟩
                  case measure => simp [intOf]; omega
                · obtain ⟨x1, x2, x3, x4, x5⟩ := S0.cells
                  go_wp2_with (first | (at_builtin; have p := S0.o1; refine wpList_app2 w _ rfl _ _ 106 rfl sl_ints (S0.bl.alloc _) _ L1.length (i64s L1) rfl (ownsRow_blw p ((Blw.refl _).alloc _)) _ 1 1 [.int .i64 (first + (i : Int))] rfl (by simp) (Arr.lit_at _ _ _ _ (by simp)) (by simp) (by simp [Value.oneCell']) (by unfold maxLen; omega) (by omega) ?_; intro v10 w10 q1 q2 q3 q4; obtain ⟨y1, y2, y3, y4, y5⟩ := cells3 (SAt3.grown1 (S0.blw ((Blw.refl _).alloc _)) q3); have S1 := SAt3.app1 (S0.blw ((Blw.refl _).alloc _)) q1 q2 q3 q4; obtain ⟨ab, cb, rfl, -, -, -, -, -⟩ := own_arr q1; clear p q1 q2 q3 q4 S0) | (at_builtin; have p := S1.o2; refine wpList_app2 w _ rfl _ _ 106 rfl sl_ints (S1.bl.alloc _) _ L2.length (i64s L2) rfl (ownsRow_blw p ((Blw.refl _).alloc _)) _ 1 1 [.int .i64 (first + (i : Int))] rfl (by simp) (Arr.lit_at _ _ _ _ (by simp)) (by simp) (by simp [Value.oneCell']) (by unfold maxLen; omega) (by omega) ?_; intro v11 w11 q1 q2 q3 q4; obtain ⟨y1, y2, y3, y4, y5⟩ := cells3 (SAt3.grown2 (S1.blw ((Blw.refl _).alloc _)) q3); have S2 := SAt3.app2 (S1.blw ((Blw.refl _).alloc _)) q1 q2 q3 q4; obtain ⟨ab, cb, rfl, -, -, -, -, -⟩ := own_arr q1; clear p q1 q2 q3 q4 S1))
                  go_roundw
                  case rel => exact ⟨i + 1, _, _, _, by omega, by go_num, HHR.out _ _ _ _ S2⟩
                  case measure => simp [intOf]; omega
          · cases bn
            · obtain ⟨x1, x2, x3, x4, x5⟩ := S0.cells
              go_wp2_with (first | (at_builtin; have p := S0.o3; refine wpList_app2 w _ rfl _ _ 106 rfl sl_ints (S0.bl.alloc _) _ L3.length (i64s L3) rfl (ownsRow_blw p ((Blw.refl _).alloc _)) _ 1 1 [.int .i64 (first + (i : Int))] rfl (by simp) (Arr.lit_at _ _ _ _ (by simp)) (by simp) (by simp [Value.oneCell']) (by unfold maxLen; omega) (by omega) ?_; intro v10 w10 q1 q2 q3 q4; obtain ⟨y1, y2, y3, y4, y5⟩ := cells3 (SAt3.grown3 (S0.blw ((Blw.refl _).alloc _)) q3); have S1 := SAt3.app3 (S0.blw ((Blw.refl _).alloc _)) q1 q2 q3 q4; obtain ⟨ab, cb, rfl, -, -, -, -, -⟩ := own_arr q1; clear p q1 q2 q3 q4 S0))
              go_roundw
              case rel => exact ⟨i + 1, _, _, _, by omega, by go_num, HHR.out _ _ _ _ S1⟩
              case measure => simp [intOf]; omega
            · cases ba
              · cases bb
                · obtain ⟨x1, x2, x3, x4, x5⟩ := S0.cells
                  go_wp2_with (first | (at_builtin; have p := S0.o3; refine wpList_app2 w _ rfl _ _ 106 rfl sl_ints (S0.bl.alloc _) _ L3.length (i64s L3) rfl (ownsRow_blw p ((Blw.refl _).alloc _)) _ 1 1 [.int .i64 (first + (i : Int))] rfl (by simp) (Arr.lit_at _ _ _ _ (by simp)) (by simp) (by simp [Value.oneCell']) (by unfold maxLen; omega) (by omega) ?_; intro v10 w10 q1 q2 q3 q4; obtain ⟨y1, y2, y3, y4, y5⟩ := cells3 (SAt3.grown3 (S0.blw ((Blw.refl _).alloc _)) q3); have S1 := SAt3.app3 (S0.blw ((Blw.refl _).alloc _)) q1 q2 q3 q4; obtain ⟨ab, cb, rfl, -, -, -, -, -⟩ := own_arr q1; clear p q1 q2 q3 q4 S0))
                  go_roundw
                  case rel => exact ⟨i + 1, _, _, _, by omega, by go_num, HHR.out _ _ _ _ S1⟩
                  case measure => simp [intOf]; omega
                · obtain ⟨x1, x2, x3, x4, x5⟩ := S0.cells
                  go_wp2_with (first | (at_builtin; have p := S0.o3; refine wpList_app2 w _ rfl _ _ 106 rfl sl_ints (S0.bl.alloc _) _ L3.length (i64s L3) rfl (ownsRow_blw p ((Blw.refl _).alloc _)) _ 1 1 [.int .i64 (first + (i : Int))] rfl (by simp) (Arr.lit_at _ _ _ _ (by simp)) (by simp) (by simp [Value.oneCell']) (by unfold maxLen; omega) (by omega) ?_; intro v10 w10 q1 q2 q3 q4; obtain ⟨y1, y2, y3, y4, y5⟩ := cells3 (SAt3.grown3 (S0.blw ((Blw.refl _).alloc _)) q3); have S1 := SAt3.app3 (S0.blw ((Blw.refl _).alloc _)) q1 q2 q3 q4; obtain ⟨ab, cb, rfl, -, -, -, -, -⟩ := own_arr q1; clear p q1 q2 q3 q4 S0) | (at_builtin; have p := S1.o2; refine wpList_app2 w _ rfl _ _ 106 rfl sl_ints (S1.bl.alloc _) _ L2.length (i64s L2) rfl (ownsRow_blw p ((Blw.refl _).alloc _)) _ 1 1 [.int .i64 (first + (i : Int))] rfl (by simp) (Arr.lit_at _ _ _ _ (by simp)) (by simp) (by simp [Value.oneCell']) (by unfold maxLen; omega) (by omega) ?_; intro v11 w11 q1 q2 q3 q4; obtain ⟨y1, y2, y3, y4, y5⟩ := cells3 (SAt3.grown2 (S1.blw ((Blw.refl _).alloc _)) q3); have S2 := SAt3.app2 (S1.blw ((Blw.refl _).alloc _)) q1 q2 q3 q4; obtain ⟨ab, cb, rfl, -, -, -, -, -⟩ := own_arr q1; clear p q1 q2 q3 q4 S1))
                  go_roundw
                  case rel => exact ⟨i + 1, _, _, _, by omega, by go_num, HHR.out _ _ _ _ S2⟩
                  case measure => simp [intOf]; omega
              · cases bb
                · obtain ⟨x1, x2, x3, x4, x5⟩ := S0.cells
                  go_wp2_with (first | (at_builtin; have p := S0.o3; refine wpList_app2 w _ rfl _ _ 106 rfl sl_ints (S0.bl.alloc _) _ L3.length (i64s L3) rfl (ownsRow_blw p ((Blw.refl _).alloc _)) _ 1 1 [.int .i64 (first + (i : Int))] rfl (by simp) (Arr.lit_at _ _ _ _ (by simp)) (by simp) (by simp [Value.oneCell']) (by unfold maxLen; omega) (by omega) ?_; intro v10 w10 q1 q2 q3 q4; obtain ⟨y1, y2, y3, y4, y5⟩ := cells3 (SAt3.grown3 (S0.blw ((Blw.refl _).alloc _)) q3); have S1 := SAt3.app3 (S0.blw ((Blw.refl _).alloc _)) q1 q2 q3 q4; obtain ⟨ab, cb, rfl, -, -, -, -, -⟩ := own_arr q1; clear p q1 q2 q3 q4 S0) | (at_builtin; have p := S1.o1; refine wpList_app2 w _ rfl _ _ 106 rfl sl_ints (S1.bl.alloc _) _ L1.length (i64s L1) rfl (ownsRow_blw p ((Blw.refl _).alloc _)) _ 1 1 [.int .i64 (first + (i : Int))] rfl (by simp) (Arr.lit_at _ _ _ _ (by simp)) (by simp) (by simp [Value.oneCell']) (by unfold maxLen; omega) (by omega) ?_; intro v11 w11 q1 q2 q3 q4; obtain ⟨y1, y2, y3, y4, y5⟩ := cells3 (SAt3.grown1 (S1.blw ((Blw.refl _).alloc _)) q3); have S2 := SAt3.app1 (S1.blw ((Blw.refl _).alloc _)) q1 q2 q3 q4; obtain ⟨ab, cb, rfl, -, -, -, -, -⟩ := own_arr q1; clear p q1 q2 q3 q4 S1))
                  go_roundw
                  case rel => exact ⟨i + 1, _, _, _, by omega, by go_num, HHR.out _ _ _ _ S2⟩
                  case measure => simp [intOf]; omega
                · obtain ⟨x1, x2, x3, x4, x5⟩ := S0.cells
                  go_wp2_with (first | (at_builtin; have p := S0.o3; refine wpList_app2 w _ rfl _ _ 106 rfl sl_ints (S0.bl.alloc _) _ L3.length (i64s L3) rfl (ownsRow_blw p ((Blw.refl _).alloc _)) _ 1 1 [.int .i64 (first + (i : Int))] rfl (by simp) (Arr.lit_at _ _ _ _ (by simp)) (by simp) (by simp [Value.oneCell']) (by unfold maxLen; omega) (by omega) ?_; intro v10 w10 q1 q2 q3 q4; obtain ⟨y1, y2, y3, y4, y5⟩ := cells3 (SAt3.grown3 (S0.blw ((Blw.refl _).alloc _)) q3); have S1 := SAt3.app3 (S0.blw ((Blw.refl _).alloc _)) q1 q2 q3 q4; obtain ⟨ab, cb, rfl, -, -, -, -, -⟩ := own_arr q1; clear p q1 q2 q3 q4 S0) | (at_builtin; have p := S1.o1; refine wpList_app2 w _ rfl _ _ 106 rfl sl_ints (S1.bl.alloc _) _ L1.length (i64s L1) rfl (ownsRow_blw p ((Blw.refl _).alloc _)) _ 1 1 [.int .i64 (first + (i : Int))] rfl (by simp) (Arr.lit_at _ _ _ _ (by simp)) (by simp) (by simp [Value.oneCell']) (by unfold maxLen; omega) (by omega) ?_; intro v11 w11 q1 q2 q3 q4; obtain ⟨y1, y2, y3, y4, y5⟩ := cells3 (SAt3.grown1 (S1.blw ((Blw.refl _).alloc _)) q3); have S2 := SAt3.app1 (S1.blw ((Blw.refl _).alloc _)) q1 q2 q3 q4; obtain ⟨ab, cb, rfl, -, -, -, -, -⟩ := own_arr q1; clear p q1 q2 q3 q4 S1) | (at_builtin; have p := S2.o2; refine wpList_app2 w _ rfl _ _ 106 rfl sl_ints (S2.bl.alloc _) _ L2.length (i64s L2) rfl (ownsRow_blw p ((Blw.refl _).alloc _)) _ 1 1 [.int .i64 (first + (i : Int))] rfl (by simp) (Arr.lit_at _ _ _ _ (by simp)) (by simp) (by simp [Value.oneCell']) (by unfold maxLen; omega) (by omega) ?_; intro v12 w12 q1 q2 q3 q4; obtain ⟨y1, y2, y3, y4, y5⟩ := cells3 (SAt3.grown2 (S2.blw ((Blw.refl _).alloc _)) q3); have S3 := SAt3.app2 (S2.blw ((Blw.refl _).alloc _)) q1 q2 q3 q4; obtain ⟨ab, cb, rfl, -, -, -, -, -⟩ := own_arr q1; clear p q1 q2 q3 q4 S2))
                  go_roundw
                  case rel => exact ⟨i + 1, _, _, _, by omega, by go_num, HHR.out _ _ _ _ S3⟩
                  case measure => simp [intOf]; omega
    · have hil : i = l.length := by omega
      subst hil
      have k1 := hS.o1
      have k2 := hS.o2
      have k3 := hS.o3
      obtain ⟨a1, c1, rfl, -, -, -, -, -⟩ := own_arr k1
      obtain ⟨a2, c2, rfl, -, -, -, -, -⟩ := own_arr k2
      obtain ⟨a3, c3, rfl, -, -, -, -, -⟩ := own_arr k3
      obtain ⟨s0, s1, s2, -, gl⟩ := hS.cells
      have HF := Lib.hid (sure_end hS)
      obtain ⟨hfz, d0, d1, d2, r0, r1, r2⟩ := three hS.rs (.slice a1 (tks (isTop l) first l.length).length c1) (.slice a2 (tks (isBot l) first l.length).length c2) (.slice a3 (tks (isDbt l) first l.length).length c3)
      clear hS k1 k2 k3 hlt hb
      go_wp2
      exact bodyPost_ret (v := .tuple #[.agg #[.slice a1 (tks (isTop l) first l.length).length c1, .slice a2 (tks (isBot l) first l.length).length c2, .slice a3 (tks (isDbt l) first l.length).length c3], .int .i64 0]) (by simp [results, Try.results81, go_sem, r0, r1, r2]) rfl ⟨_, _, _, rfl, HF.out⟩
end Go.Proofs.Ytigkfdoeneemeaa
