/- Walks of both Sum of floats: the same function of the list. -/
import Derived.Test.YtigkfdoeneemeaaTwoSum
import Derived.Test.YtigkfdoeneemeaaArr
import Derived.Test.YtigkfdoeneemeaaVals
namespace Go.Proofs.Ytigkfdoeneemeaa
open Go.RowKit

/-- The place of the first that is not finite. -/
def badAt : List Nat → Nat → Option Nat
  | [], _ => none
  | x :: l, i => if Fl.isFin x = false then some i else badAt l (i + 1)
def sumGo : List Nat → Nat → Nat → Nat → Nat × Nat × Int × Int
  | [], s, c, _ => (s, c, 0, 0)
  | x :: l, s, c, i =>
    if ((twoSum s x).2.2 = 0 ∧ Fl.isFin (Fl.fop .add c (twoSum s x).2.1 default) = true) then sumGo l (twoSum s x).1 (Fl.fop .add c (twoSum s x).2.1 default) (i + 1)
    else (0, 0, 9, i)
theorem sumGo_err {l : List Nat} {k x s c s2 t2 : Nat} {r : Int} {R : Nat × Nat × Int × Int} (h : Hid (l.drop k = x :: l.drop (k + 1))) (hb : Hid (R = sumGo (l.drop k) s c k)) (ht : Hid (twoSum s x = (s2, t2, r))) (hr : ¬ r = 0) : R = (0, 0, 9, (k : Int)) := by
  rw [hb.out, h.out, sumGo, ht.out, if_neg (fun a => hr a.1)]
theorem sumGo_inf {l : List Nat} {k x s c s2 t2 : Nat} {r : Int} {R : Nat × Nat × Int × Int} {w : World} (h : Hid (l.drop k = x :: l.drop (k + 1))) (hb : Hid (R = sumGo (l.drop k) s c k)) (ht : Hid (twoSum s x = (s2, t2, r))) (hc : (!Fl.isFin (Fl.fop .add c t2 w)) = true) : R = (0, 0, 9, (k : Int)) := by
  rw [hb.out, h.out, sumGo, ht.out, if_neg]
  intro ⟨_, b⟩
  rw [(Fl.same_add (.refl c) (.refl t2) default w).fin, nt hc] at b
  simp at b
theorem sumGo_on {l : List Nat} {k x s c s2 t2 : Nat} {r : Int} {R : Nat × Nat × Int × Int} {w : World} (h : Hid (l.drop k = x :: l.drop (k + 1))) (hb : Hid (R = sumGo (l.drop k) s c k)) (ht : Hid (twoSum s x = (s2, t2, r))) (hr : r = 0) (hc : (!Fl.isFin (Fl.fop .add c t2 w)) = false) :
    Hid (R = sumGo (l.drop (k + 1)) s2 (Fl.fop .add c t2 w) (k + 1)) := by
  show R = _
  have e := (Fl.same_add (.refl c) (.refl t2) w default).eq (nf hc)
  rw [hb.out, h.out, sumGo, ht.out, if_pos ⟨hr, by rw [← e]; exact nf hc⟩, e]
theorem sumGo_end {l : List Nat} {k s c : Nat} {R : Nat × Nat × Int × Int} (hk : k = l.length) (hb : Hid (R = sumGo (l.drop k) s c k)) : R = (s, c, 0, 0) := by
  rw [hb.out, hk, List.drop_length, sumGo]
def sumAll (l : List Nat) : Nat × Nat × Int × Int :=
  match badAt l 0 with
  | some i => (0, 0, 8, i)
  | none => sumGo l 0 0 0
def sumV (p : Nat × Nat × Int × Int) : Value := .tuple #[.float .f64 p.1, .float .f64 p.2.1, .agg #[.int .i64 p.2.2.1, .int .i64 p.2.2.2]]


theorem badAt_ok {l : List Nat} {k : Nat} {x : Nat} (h : Hid (l.drop k = x :: l.drop (k + 1))) (hb : Hid (badAt l 0 = badAt (l.drop k) k)) (f : (!Fl.isFin x) = false) : Hid (badAt l 0 = badAt (l.drop (k + 1)) (k + 1)) := by
  show badAt l 0 = _
  rw [hb.out, h.out, badAt, if_neg (by rw [nf f]; simp)]
theorem badAt_bad {l : List Nat} {k : Nat} {x : Nat} (h : Hid (l.drop k = x :: l.drop (k + 1))) (hb : Hid (badAt l 0 = badAt (l.drop k) k)) (f : (!Fl.isFin x) = true) : sumAll l = (0, 0, 8, (k : Int)) := by
  unfold sumAll
  rw [hb.out, h.out, badAt, if_pos (nt f)]
theorem badAt_end {l : List Nat} {k : Nat} (hk : k = l.length) (hb : Hid (badAt l 0 = badAt (l.drop k) k)) : sumAll l = sumGo (l.drop 0) 0 0 0 := by
  unfold sumAll
  rw [hb.out, hk, List.drop_length, badAt, List.drop_zero]
theorem sumV_of {p : Nat × Nat × Int × Int} {a b : Nat} {c d : Int} (h : p = (a, b, c, d)) : Ending.returned (.tuple #[.float .f64 a, .float .f64 b, .agg #[.int .i64 c, .int .i64 d]]) = .returned (sumV p) := by rw [h]; rfl

set_option maxHeartbeats 400000 in
theorem realSum_any (a : Option Addr) (l : List Nat) (cap : Nat) (w : World) (h : Arr w a (flt l)) (hl : l.length ≤ 4611686018427387904) (hx : ∀ x ∈ l, x < 2 ^ 64) :
    Calls Try.prog 21 #[.slice a l.length cap] w fun e w' => e = .returned (sumV (sumAll l)) ∧ ∃ x, w' = w.ext x := by
  go_enter Try.func21, Try.ntmps21
  go_wp2
  go_loop [5, 6, 16] (fun _ _ i => ∃ k : Nat, k ≤ l.length ∧ i = .int .i64 k ∧ Hid (badAt l 0 = badAt (l.drop k) k)) (fun _ _ i => l.length - (intOf i).toNat)
  case atStart => exact ⟨0, Nat.zero_le _, rfl, rfl⟩
  case round =>
    obtain ⟨k, hk, rfl, hb⟩ := hrel
    by_cases hlt : k < l.length
    · obtain ⟨x, b, o, hd, hm, -, rfl, hbs, hc⟩ := h.elem hlt
      have hx1 := hx x hm
      go_wp2_with (go_at_call 94; refine (realFinite_any _ _ (by assumption)).mono ?_; rintro e w' ⟨rfl, rfl⟩)
      · exact bodyPost_ret (v := .tuple #[.float .f64 0, .float .f64 0, .agg #[.int .i64 8, .int .i64 k]]) (by simp [results, Try.results21, go_sem]) rfl ⟨sumV_of (badAt_bad hd hb (by assumption)), Blw.is (by repeat (first | exact Blw.refl _ | apply Blw.ext | apply Blw.alloc | apply Blw.drewN | apply Blw.drew | refine Blw.setCell ?_ _ _ (by simp)))⟩
      · go_round
        case rel => exact ⟨k + 1, by omega, by go_num, badAt_ok hd hb (by assumption)⟩
        case measure => simp [intOf]; omega
    · have hb2 : Hid (sumAll l = sumGo (l.drop 0) 0 0 0) := badAt_end (by omega) hb
      go_wp2_with fail
      clear hb hlt hk
      go_loopw [7, 8, 29] (fun vs vc i wr => ∃ (k s c n : Nat), k ≤ l.length ∧ i = .int .i64 k ∧ vs = .float .f64 s ∧ vc = .float .f64 c ∧ s < 2 ^ 64 ∧ Hid (sumAll l = sumGo (l.drop k) s c k) ∧ wr = (w.alloc (Obj.cells #[Value.int IntKind.i64 0, Value.int IntKind.i64 0] 36)).drewN n) (fun _ _ i _ => l.length - (intOf i).toNat)
      case atStart => exact ⟨0, 0, 0, 0, Nat.zero_le _, rfl, rfl, rfl, by decide, hb2, rfl⟩
      case round =>
        obtain ⟨k, s, c, n, hk, rfl, rfl, rfl, hs, hb, rfl⟩ := hrel
        by_cases hlt : k < l.length
        · obtain ⟨x, b, o, hd, hm, -, rfl, hbs, hc⟩ := h.elem hlt
          have hx1 := hx x hm
          go_wp2_with (first | (go_at_call 94; refine (realFinite_any _ _ (Fl.fop_lt _ _ _ _)).mono ?_; rintro e w' ⟨rfl, rfl⟩) | (go_at_call 18; refine (twoSum_any _ _ _ hs hx1).mono ?_; rintro e w' ⟨he, n2, rfl⟩; obtain ⟨s2, t2, r, rfl, hts, hs2, ht2⟩ := TsRes.of he; clear he))
          · exact bodyPost_ret (v := .tuple #[.float .f64 0, .float .f64 0, .agg #[.int .i64 9, .int .i64 k]]) (by simp [results, Try.results21, go_sem]) rfl ⟨sumV_of (sumGo_inf hd hb hts (by assumption)), Blw.is (by repeat (first | exact Blw.refl _ | apply Blw.ext | apply Blw.alloc | apply Blw.drewN | apply Blw.drew | refine Blw.setCell ?_ _ _ (by simp)))⟩
          · go_roundw
            case rel => exact ⟨k + 1, s2, _, _, by omega, by go_num, rfl, rfl, hs2, sumGo_on hd hb hts (by assumption) (by assumption), rfl⟩
            case measure => simp [intOf]; omega
          · exact bodyPost_ret (v := .tuple #[.float .f64 0, .float .f64 0, .agg #[.int .i64 9, .int .i64 k]]) (by simp [results, Try.results21, go_sem]) rfl ⟨sumV_of (sumGo_err hd hb hts (by assumption)), Blw.is (by repeat (first | exact Blw.refl _ | apply Blw.ext | apply Blw.alloc | apply Blw.drewN | apply Blw.drew | refine Blw.setCell ?_ _ _ (by simp)))⟩
        · go_wp2_with fail
          exact bodyPost_ret (v := .tuple #[.float .f64 s, .float .f64 c, .agg #[.int .i64 0, .int .i64 0]]) (by simp [results, Try.results21, go_sem]) rfl ⟨sumV_of (sumGo_end (by omega) hb), Blw.is (by repeat (first | exact Blw.refl _ | apply Blw.ext | apply Blw.alloc | apply Blw.drewN | apply Blw.drew | refine Blw.setCell ?_ _ _ (by simp)))⟩

theorem sumGo_on2 {l : List Nat} {k x s c s2 t2 : Nat} {r : Int} {R : Nat × Nat × Int × Int} {w w' : World} (h : Hid (l.drop k = x :: l.drop (k + 1))) (hb : Hid (R = sumGo (l.drop k) s c k)) (ht : Hid (twoSum s x = (s2, t2, r))) (hr : r = 0) (hc : (!Fl.isFin (Fl.fop .add c t2 w)) = false) :
    Hid (R = sumGo (l.drop (k + 1)) s2 (Fl.fop .add c t2 w') (k + 1)) := by
  have e := (Fl.same_add (.refl c) (.refl t2) w w').eq (nf hc)
  have := sumGo_on h hb ht hr hc
  rw [e] at this; exact this
theorem twoSum_err (a b : Nat) : (twoSum a b).2.2 = 0 ∨ (twoSum a b).2.2 = 8 ∨ (twoSum a b).2.2 = 9 := by
  unfold twoSum
  split
  · simp
  · split
    · simp
    · split <;> simp
theorem sumGo_err2 {l : List Nat} {k x s c s2 t2 : Nat} {r : Int} {R : Nat × Nat × Int × Int} (hx : Fl.isFin x = true) (hs : Fl.isFin s = true) (h : Hid (l.drop k = x :: l.drop (k + 1))) (hb : Hid (R = sumGo (l.drop k) s c k)) (ht : Hid (twoSum s x = (s2, t2, r))) (hr : ¬ r = 0) : R = (0, 0, r, (k : Int)) := by
  have e : r = 9 := by
    have h8 : (twoSum s x).2.2 = 0 ∨ (twoSum s x).2.2 = 9 := by
      unfold twoSum
      rw [if_neg (by simp [hx, hs])]
      split
      · simp
      · split <;> simp
    rw [ht.out] at h8
    simpa [hr] using h8
  rw [e]; exact sumGo_err h hb ht hr
theorem twoSum_fin {a b s t : Nat} {r : Int} (h : Hid (twoSum a b = (s, t, r))) (hr : r = 0) : Fl.isFin s = true := by
  have h' := h.out
  unfold twoSum at h'
  split at h'
  · simp at h'; omega
  · split at h'
    · simp at h'; omega
    · rename_i hs
      split at h'
      · simp at h'; omega
      · simp at h'; rw [← h'.1]; simpa using hs
theorem badAt_all {l : List Nat} (i : Nat) (h : badAt l i = none) : ∀ x ∈ l, Fl.isFin x = true := by
  induction l generalizing i with
  | nil => simp
  | cons y l ih =>
    rw [badAt] at h
    split at h
    · cases h
    · rename_i hy
      intro x hx
      rcases List.mem_cons.1 hx with rfl | hx
      · simpa using hy
      · exact ih _ h x hx
theorem badAt_end2 {l : List Nat} {k : Nat} (hk : k = l.length) (hb : Hid (badAt l 0 = badAt (l.drop k) k)) : ∀ x ∈ l, Fl.isFin x = true := by
  refine badAt_all 0 ?_
  rw [hb.out, hk, List.drop_length, badAt]

set_option maxHeartbeats 400000 in
theorem ref06Sum_any (a : Option Addr) (l : List Nat) (cap : Nat) (w : World) (h : Arr w a (flt l)) (hl : l.length ≤ 4611686018427387904) :
    Calls Try.prog 22 #[.slice a l.length cap] w fun e w' => e = .returned (sumV (sumAll l)) ∧ ∃ x, w' = w.ext x := by
  go_enter Try.func22, Try.ntmps22
  go_wp2
  go_loop [5] (fun i => ∃ k : Nat, k ≤ l.length ∧ i = .int .i64 k ∧ Hid (badAt l 0 = badAt (l.drop k) k)) (fun i => l.length - (intOf i).toNat)
  case atStart => exact ⟨0, Nat.zero_le _, rfl, rfl⟩
  case round =>
    obtain ⟨k, hk, rfl, hb⟩ := hrel
    by_cases hlt : k < l.length
    · obtain ⟨x, b, o, hd, hm, -, rfl, hbs, hc⟩ := h.elem hlt
      go_wp2_with (go_at_call 95; refine (ref06Finite_any _ _).mono ?_; rintro e w' ⟨rfl, rfl⟩)
      · exact bodyPost_ret (v := .tuple #[.float .f64 0, .float .f64 0, .agg #[.int .i64 8, .int .i64 k]]) (by simp [results, Try.results22, go_sem]) rfl ⟨sumV_of (badAt_bad hd hb (by assumption)), Blw.is (by repeat (first | exact Blw.refl _ | apply Blw.ext | apply Blw.alloc | apply Blw.drewN | apply Blw.drew | refine Blw.setCell ?_ _ _ (by simp)))⟩
      · go_round
        case rel => exact ⟨k + 1, by omega, by go_num, badAt_ok hd hb (by assumption)⟩
        case measure => simp [intOf]; omega
    · have hb2 : Hid (sumAll l = sumGo (l.drop 0) 0 0 0) := badAt_end (by omega) hb
      have hfin := badAt_end2 (by omega) hb
      go_wp2_with fail
      clear hb hlt hk
      go_loopw [6, 7, 8] (fun vs vc i wr => ∃ (k s c n : Nat), k ≤ l.length ∧ i = .int .i64 k ∧ vs = .float .f64 s ∧ vc = .float .f64 c ∧ Hid (Fl.isFin s = true) ∧ Hid (sumAll l = sumGo (l.drop k) s c k) ∧ wr = (w.alloc (Obj.cells #[Value.int IntKind.i64 0, Value.int IntKind.i64 0] 36)).drewN n) (fun _ _ i _ => l.length - (intOf i).toNat)
      case atStart => exact ⟨0, 0, 0, 0, Nat.zero_le _, rfl, rfl, rfl, by show Fl.isFin 0 = true; decide, hb2, rfl⟩
      case round =>
        obtain ⟨k, s, c, n, hk, rfl, rfl, rfl, hs, hb, rfl⟩ := hrel
        by_cases hlt : k < l.length
        · obtain ⟨x, b, o, hd, hm, -, rfl, hbs, hc⟩ := h.elem hlt
          have hx1 : Hid (Fl.isFin x = true) := hfin x hm
          clear hfin
          go_wp2_with (first | (go_at_call 95; refine (ref06Finite_any _ _).mono ?_; rintro e w' ⟨rfl, rfl⟩) | (go_at_call 19; refine (ref06TwoSum_any _ _ _).mono ?_; rintro e w' ⟨he, n2, rfl⟩; obtain ⟨s2, t2, r, rfl, hts, hs2, ht2⟩ := TsRes.of he; clear he))
          · exact bodyPost_ret (v := .tuple #[.float .f64 0, .float .f64 0, .agg #[.int .i64 9, .int .i64 k]]) (by simp [results, Try.results22, go_sem]) rfl ⟨sumV_of (sumGo_inf hd hb hts (by assumption)), Blw.is (by repeat (first | exact Blw.refl _ | apply Blw.ext | apply Blw.alloc | apply Blw.drewN | apply Blw.drew | refine Blw.setCell ?_ _ _ (by simp)))⟩
          · go_roundw
            case rel => exact ⟨k + 1, s2, _, _, by omega, by go_num, rfl, rfl, twoSum_fin hts (by assumption), sumGo_on2 hd hb hts (by assumption) (by assumption), rfl⟩
            case measure => simp [intOf]; omega
          · exact bodyPost_ret (v := .tuple #[.float .f64 0, .float .f64 0, .agg #[.int .i64 r, .int .i64 k]]) (by simp [results, Try.results22, go_sem]) rfl ⟨sumV_of (sumGo_err2 hx1.out hs.out hd hb hts (by assumption)), Blw.is (by repeat (first | exact Blw.refl _ | apply Blw.ext | apply Blw.alloc | apply Blw.drewN | apply Blw.drew | refine Blw.setCell ?_ _ _ (by simp)))⟩
        · go_wp2_with fail
          exact bodyPost_ret (v := .tuple #[.float .f64 s, .float .f64 c, .agg #[.int .i64 0, .int .i64 0]]) (by simp [results, Try.results22, go_sem]) rfl ⟨sumV_of (sumGo_end (by omega) hb), Blw.is (by repeat (first | exact Blw.refl _ | apply Blw.ext | apply Blw.alloc | apply Blw.drewN | apply Blw.drew | refine Blw.setCell ?_ _ _ (by simp)))⟩
end Go.Proofs.Ytigkfdoeneemeaa
