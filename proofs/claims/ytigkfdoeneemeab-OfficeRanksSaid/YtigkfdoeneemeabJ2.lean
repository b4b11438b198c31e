/- Several texts, joined. -/
import Derived.Test.YtigkfdoeneemeabJ1
import Derived.Lib.Hide
import Derived.BigQuiet
import Derived.Deep.AppendLies
import Derived.Test.YtigkfdoeneemeabJ0
import Derived.ProofKit
import Derived.OpenShut
set_option linter.unusedVariables false
set_option linter.unusedSimpArgs false
/- The library's stable sort: ranges changed about, rotations. -/
namespace Go.Proofs.Ytigkfdoeneemeab
open Go.RowKit

abbrev Dt (w : World) (g : Nat) (D : List Int) (rest : List Value) : Prop := Rw w g 3 (i64s D ++ rest)
section
variable {w w' : World} {g : Nat} {D : List Int} {rest : List Value}
theorem Dt.at (h : Dt w g D rest) {k : Nat} {x : Int} (hx : D[k]? = some x) : w.cell? ⟨g, k, none⟩ = some (.int .i64 x) := by
  refine Rw.cell h ?_
  have hk : k < D.length := (List.getElem?_eq_some_iff.1 hx).1
  rw [List.getElem?_append_left (by simpa using hk), List.getElem?_map, hx]; rfl
theorem Dt.elem (h : Dt w g D rest) {k : Nat} (hk : k < D.length) : ∃ x, Hid (D[k]? = some x) ∧ w.cell? ⟨g, k, none⟩ = some (.int .i64 x) :=
  ⟨D[k], List.getElem?_eq_getElem hk, h.at (List.getElem?_eq_getElem hk)⟩
theorem Dt.set (h : Dt w g D rest) {k : Nat} (hk : k < D.length) (x : Int) : Dt (w.setCell ⟨g, k, none⟩ (.int .i64 x)) g (D.set k x) rest := by
  have := Rw.set h k (.int .i64 x)
  rwa [List.set_append_left _ _ (by simpa using hk), show (Value.int .i64 x) = (fun n : Int => Value.int .i64 n) x from rfl, ← List.map_set] at this
theorem Dt.ext (h : Dt w g D rest) (x : World) : Dt (w.ext x) g D rest := Rw.blw h (w.blw_ext x)
end
theorem set_two (P1 P2 P3 : List Int) (x y : Int) : ((P1 ++ x :: (P2 ++ y :: P3)).set P1.length y).set (P1.length + 1 + P2.length) x = P1 ++ y :: (P2 ++ x :: P3) := by
  rw [List.set_append_right _ _ (Nat.le_refl _), Nat.sub_self, List.set_cons_zero, List.set_append_right _ _ (by omega)]
  rw [show P1.length + 1 + P2.length - P1.length = P2.length + 1 by omega, List.set_cons_succ, List.set_append_right _ _ (Nat.le_refl _), Nat.sub_self, List.set_cons_zero]
/-- What the i-th turn of the change finds and leaves. -/
def chg (A X B Y C : List Int) (i : Nat) : List Int := A ++ (Y.take i ++ X.drop i) ++ B ++ (X.take i ++ Y.drop i) ++ C
theorem chg_zero (A X B Y C : List Int) : chg A X B Y C 0 = A ++ X ++ B ++ Y ++ C := by simp [chg]
theorem chg_all (A X B Y C : List Int) (n : Nat) (hx : X.length = n) (hy : Y.length = n) : chg A X B Y C n = A ++ Y ++ B ++ X ++ C := by
  unfold chg; rw [List.take_of_length_le (by omega), List.take_of_length_le (by omega), List.drop_of_length_le (by omega), List.drop_of_length_le (by omega)]; simp
theorem chg_len (A X B Y C : List Int) (n i : Nat) (hx : X.length = n) (hy : Y.length = n) (hi : i ≤ n) : (chg A X B Y C i).length = A.length + n + B.length + n + C.length := by
  simp [chg]; omega
theorem chg_step (A X B Y C : List Int) (n i : Nat) (hx : X.length = n) (hy : Y.length = n) (hi : i < n) :
    ∃ x y, (chg A X B Y C i)[A.length + i]? = some x ∧ (chg A X B Y C i)[A.length + n + B.length + i]? = some y ∧ ((chg A X B Y C i).set (A.length + i) y).set (A.length + n + B.length + i) x = chg A X B Y C (i + 1) := by
  have ex : X.drop i = X[i] :: X.drop (i + 1) := List.drop_eq_getElem_cons (by omega)
  have ey : Y.drop i = Y[i] :: Y.drop (i + 1) := List.drop_eq_getElem_cons (by omega)
  have e0 : chg A X B Y C i = (A ++ Y.take i) ++ X[i] :: ((X.drop (i + 1) ++ B ++ X.take i) ++ Y[i] :: (Y.drop (i + 1) ++ C)) := by
    unfold chg; rw [ex, ey]; simp only [List.append_assoc, List.cons_append]
  have e1 : chg A X B Y C (i + 1) = (A ++ Y.take i) ++ Y[i] :: ((X.drop (i + 1) ++ B ++ X.take i) ++ X[i] :: (Y.drop (i + 1) ++ C)) := by
    unfold chg; rw [List.take_succ_eq_append_getElem (show i < X.length by omega), List.take_succ_eq_append_getElem (show i < Y.length by omega)]; simp only [List.append_assoc, List.cons_append, List.nil_append]
  have l1 : (A ++ Y.take i).length = A.length + i := by simp; omega
  have l2 : (A ++ Y.take i).length + 1 + (X.drop (i + 1) ++ B ++ X.take i).length = A.length + n + B.length + i := by simp; omega
  refine ⟨X[i], Y[i], ?_, ?_, ?_⟩
  · rw [e0, ← l1, List.getElem?_append_right (Nat.le_refl _), Nat.sub_self]; rfl
  · rw [e0, ← l2, List.getElem?_append_right (by omega), show (A ++ Y.take i).length + 1 + (X.drop (i + 1) ++ B ++ X.take i).length - (A ++ Y.take i).length = (X.drop (i + 1) ++ B ++ X.take i).length + 1 by omega, List.getElem?_cons_succ, List.getElem?_append_right (Nat.le_refl _), Nat.sub_self]; rfl
  · rw [e0, e1, ← l1, ← l2]; exact set_two _ _ _ _ _

set_option maxRecDepth 100000 in
set_option maxHeartbeats 1000000 in
theorem swapRange_any (g : Nat) (A X B Y C : List Int) (rest : List Value) (a b n len cap : Nat) (fv : Value) (w : World) (h : Dt w g (A ++ X ++ B ++ Y ++ C) rest) (hx : X.length = n) (hy : Y.length = n) (ha : A.length = a) (hb : A.length + n + B.length = b)
    (hlen : (A ++ X ++ B ++ Y ++ C).length = len) (hm : len ≤ 1000000) :
    Calls Try.prog 78 #[.slice (some ⟨g, 0, none⟩) len cap, .int .i64 a, .int .i64 b, .int .i64 n, fv] w fun e w' =>
      e = .returned (.tuple #[]) ∧ Dt w' g (A ++ Y ++ B ++ X ++ C) rest ∧ KeptO (· = g) w w' := by
  have hl2 : a + n + B.length + n + C.length = len := by rw [← hlen, ← ha]; simp; omega
  have hb2 : a + n + B.length = b := by rw [← ha]; exact hb
  have HX := Lib.hid hx
  have HY := Lib.hid hy
  have HA := Lib.hid ha
  have HB := Lib.hid hb
  clear hx hy ha hb hlen
  go_enter Try.func78, Try.ntmps78
  go_wp2
  go_loopw [10] (fun i wr => ∃ (k : Nat) (D : List Int), i = .int .i64 k ∧ k ≤ n ∧ Hid (D = chg A X B Y C k) ∧ Dt wr g D rest ∧ KeptO (· = g) w wr) (fun i _ => (n - intOf i).toNat)
  case atStart => exact ⟨0, _, rfl, Nat.zero_le _, (chg_zero _ _ _ _ _).symm, h, KeptO.refl w⟩
  case round =>
    obtain ⟨k, D, rfl, hk, hD, hd, hw⟩ := hrel
    by_cases h0 : k < n
    · obtain ⟨x, y, q1, q2, q3⟩ := chg_step A X B Y C n k HX.out HY.out h0
      rw [HB.out] at q2 q3
      rw [HA.out] at q1 q3
      have dl : D.length = len := by rw [hD.out, chg_len A X B Y C n k HX.out HY.out hk, HA.out]; omega
      rw [← hD.out] at q1 q2 q3
      have c1 := hd.at q1
      have c2 := hd.at q2
      have f1 := Rw.frozen hd (a + k)
      have f2 := Rw.frozen hd (b + k)
      have Q3 := Lib.hid q3
      have l1 : a + k < len := by omega
      have l2 : b + k < len := by omega
      have ne : a + k ≠ b + k := by omega
      clear q1 q2 q3
      go_wp2
      go_region
      all_goals go_wp2
      go_roundw
      case rel => exact ⟨k + 1, _, by go_num, h0, Q3.out, Rw.blw (Dt.set (Dt.set hd (by omega) y) (by rw [List.length_set]; omega) x) (Blw.refl _).drew, ((hw.setCell _ _ (.inl rfl)).setCell _ _ (.inl rfl)).drew⟩
      case measure => (first | (simp [intOf]; done) | (simp [intOf]; omega))
    · have : k = n := by omega
      subst this
      go_wp2
      go_end0
      refine ⟨rfl, ?_, hw⟩
      rw [hD.out, chg_all A X B Y C k HX.out HY.out] at hd
      exact hd

/-- Two stretches that lie side by side change places. -/
theorem rot_facts (X Y : List Int) (i j : Nat) (hx : X.length = i) (hy : Y.length = j) :
    (j < i → X = X.take j ++ X.drop j ∧ (X.take j).length = j ∧ (X.drop j).length = i - j) ∧ (i < j → Y = Y.take (j - i) ++ Y.drop (j - i) ∧ (Y.take (j - i)).length = j - i ∧ (Y.drop (j - i)).length = i) :=
  ⟨fun h => ⟨(List.take_append_drop j X).symm, by simp; omega, by simp; omega⟩, fun h => ⟨(List.take_append_drop _ Y).symm, by simp; omega, by simp; omega⟩⟩

set_option maxRecDepth 100000 in
set_option maxHeartbeats 1000000 in
theorem rotate_any (g : Nat) (P X Y Q : List Int) (rest : List Value) (a m b len cap : Nat) (fv : Value) (w : World) (h : Dt w g (P ++ X ++ Y ++ Q) rest) (ha : P.length = a) (hx : 0 < X.length) (hy : 0 < Y.length) (hxm : a + X.length = m) (hyb : m + Y.length = b)
    (hlen : (P ++ X ++ Y ++ Q).length = len) (hm : len ≤ 1000000) :
    Calls Try.prog 68 #[.slice (some ⟨g, 0, none⟩) len cap, .int .i64 a, .int .i64 m, .int .i64 b, fv] w fun e w' =>
      e = .returned (.tuple #[]) ∧ Dt w' g (P ++ Y ++ X ++ Q) rest ∧ KeptO (· = g) w w' := by
  have hl2 : b + Q.length = len := by rw [← hlen]; simp; omega
  obtain ⟨E, hE⟩ := ex_hid (P ++ Y ++ X ++ Q)
  rw [hE.out]
  have hle : len = (P ++ X ++ Y ++ Q).length := hlen.symm
  have HLE := Lib.hid hle
  have i0 : m - a = X.length := by omega
  have j0 : b - m = Y.length := by omega
  have am : a ≤ m := by omega
  have mb : m ≤ b := by omega
  have at0 : ∃ (i j : Nat) (P' X' Y' Q' : List Int), Value.int .i64 ((m : Int) - (a : Int)) = .int .i64 i ∧ Value.int .i64 ((b : Int) - (m : Int)) = .int .i64 j ∧ 0 < i ∧ 0 < j ∧ i ≤ m ∧ m + j ≤ len ∧ Hid (X'.length = i) ∧ Hid (Y'.length = j) ∧ Hid (P'.length + i = m) ∧ Hid (P' ++ Y' ++ X' ++ Q' = E) ∧ Hid ((P' ++ X' ++ Y' ++ Q').length = len) ∧ Dt w g (P' ++ X' ++ Y' ++ Q') rest ∧ KeptO (· = g) w w :=
    ⟨X.length, Y.length, P, X, Y, Q, by congr 1; omega, by congr 1; omega, hx, hy, by omega, by omega, rfl, rfl, by (show _ = _; omega), hE, hlen, h, KeptO.refl w⟩
  have AT0 := Lib.hid at0
  clear hE hx hy hxm hyb hlen hle i0 j0 at0 h ha
  go_enter Try.func68, Try.ntmps68
  go_wp2
  go_loopw [10, 11] (fun vi vj wr => ∃ (i j : Nat) (P' X' Y' Q' : List Int), vi = .int .i64 i ∧ vj = .int .i64 j ∧ 0 < i ∧ 0 < j ∧ i ≤ m ∧ m + j ≤ len ∧ Hid (X'.length = i) ∧ Hid (Y'.length = j) ∧ Hid (P'.length + i = m) ∧ Hid (P' ++ Y' ++ X' ++ Q' = E) ∧ Hid ((P' ++ X' ++ Y' ++ Q').length = len) ∧ Dt wr g (P' ++ X' ++ Y' ++ Q') rest ∧ KeptO (· = g) w wr) (fun vi vj _ => (intOf vi + intOf vj).toNat)
  case atStart => exact AT0.out
  case round =>
    obtain ⟨i, j, P', X', Y', Q', rfl, rfl, hi, hj, him, hjl, hX, hY, hP, hEE, hL, hd, hw⟩ := hrel
    have e1 : (m : Int) - (i : Int) = ((m - i : Nat) : Int) := by omega
    have pl : P'.length = m - i := by have := hP.out; omega
    have PL := Lib.hid pl
    clear pl
    rcases Nat.lt_trichotomy j i with c | c | c
    · obtain ⟨f1, f2, f3⟩ := (rot_facts X' Y' i j hX.out hY.out).1 c
      obtain ⟨X1, g1⟩ := ex_hid (X'.take j)
      obtain ⟨X2, g2⟩ := ex_hid (X'.drop j)
      rw [g1.out] at f1 f2
      rw [g2.out] at f1 f3
      have hc := swapRange_any g P' X1 X2 Y' Q' rest (m - i) m j len cap fv wr (by rw [f1, ← List.append_assoc] at hd; exact hd) f2 hY.out PL.out (by rw [PL.out, f3]; omega) (by rw [f1, ← List.append_assoc] at hL; exact hL.out) hm
      have F1 := Lib.hid f1
      have F2 := Lib.hid f2
      have F3 := Lib.hid f3
      have HC := Lib.hid hc
      have ne : ((i : Int) != (j : Int)) = true := by simp; omega
      have gt : decide ((j : Int) < (i : Int)) = true := by simp; omega
      clear f1 f2 f3 hc
      go_wp2_with fail
      refine Calls.mono HC.out ?_
      rintro e w1 ⟨rfl, d1, k1⟩
      go_wp2
      go_roundw
      case rel =>
        refine ⟨i - j, j, P' ++ Y', X2, X1, Q', by congr 1; omega, rfl, by omega, hj, by omega, hjl, F3.out, F2.out, ?_, ?_, ?_, d1, hw.trans k1⟩
        · show _ = _; rw [List.length_append, PL.out, hY.out]; omega
        · show _ = _; rw [← hEE.out, F1.out]; simp only [List.append_assoc]
        · show _ = _; rw [← hL.out, F1.out]; simp; omega
      case measure => simp [intOf]; omega
    · subst c
      have hc := swapRange_any g P' X' [] Y' Q' rest (m - j) m j len cap fv wr (by rw [List.append_nil]; exact hd) hX.out hY.out PL.out (by rw [PL.out]; simp; omega) (by rw [List.append_nil]; exact hL.out) hm
      have HC := Lib.hid hc
      clear hc
      go_wp2_with fail
      refine Calls.mono HC.out ?_
      rintro e w1 ⟨rfl, d1, k1⟩
      go_wp2
      go_end0
      refine ⟨rfl, ?_, hw.trans k1⟩
      rw [List.append_nil, hEE.out] at d1
      exact d1
    · obtain ⟨f1, f2, f3⟩ := (rot_facts X' Y' i j hX.out hY.out).2 c
      obtain ⟨Y1, g1⟩ := ex_hid (Y'.take (j - i))
      obtain ⟨Y2, g2⟩ := ex_hid (Y'.drop (j - i))
      rw [g1.out] at f1 f2
      rw [g2.out] at f1 f3
      have hc := swapRange_any g P' X' Y1 Y2 Q' rest (m - i) (m + j - i) i len cap fv wr (by rw [f1, ← List.append_assoc] at hd; exact hd) hX.out f3 PL.out (by rw [PL.out, f2]; omega) (by rw [f1, ← List.append_assoc] at hL; exact hL.out) hm
      have F1 := Lib.hid f1
      have F2 := Lib.hid f2
      have F3 := Lib.hid f3
      have HC := Lib.hid hc
      have ne : ((i : Int) != (j : Int)) = true := by simp; omega
      have gt : decide ((j : Int) < (i : Int)) = false := by simp; omega
      have e2 : (m : Int) + (j : Int) - (i : Int) = ((m + j - i : Nat) : Int) := by omega
      clear f1 f2 f3 hc
      go_wp2_with fail
      refine Calls.mono HC.out ?_
      rintro e w1 ⟨rfl, d1, k1⟩
      go_wp2
      go_roundw
      case rel =>
        refine ⟨i, j - i, P', Y2, Y1, X' ++ Q', rfl, by congr 1; omega, hi, by omega, him, by omega, F3.out, F2.out, hP, ?_, ?_, ?_, hw.trans k1⟩
        · show _ = _; rw [← hEE.out, F1.out]; simp only [List.append_assoc]
        · show _ = _; rw [← hL.out, F1.out]; simp; omega
        · rw [← List.append_assoc]; exact d1
      case measure => simp [intOf]; omega

end Go.Proofs.Ytigkfdoeneemeab
/- The library's stable sort: the blocks' insertions. -/
namespace Go.Proofs.Ytigkfdoeneemeab
open Go.RowKit

/-- The comparison that is handed to the sort. -/
abbrev cmpV (bx : Nat) : Value := .func (.func 26) #[] #[.pointer (some ⟨bx, 0, none⟩)]
/-- What the sort may ask of it, from a world on in which but block g was turned. -/
def CmpOk (cv : Int → Int → Int) (V : Int → Prop) (bx g : Nat) (w : World) : Prop :=
  ∀ wr : World, KeptO (· = g) w wr → ∀ x y : Int, V x → V y → Calls Try.prog 26 #[.int .i64 x, .int .i64 y, .pointer (some ⟨bx, 0, none⟩)] wr fun e w' => e = .returned (.int .i64 (cv x y)) ∧ ∃ z, w' = wr.ext z
theorem CmpOk.kept {cv : Int → Int → Int} {V : Int → Prop} {bx g : Nat} {w w' : World} (h : CmpOk cv V bx g w) (k : KeptO (· = g) w w') : CmpOk cv V bx g w' := fun wr hk => h wr (k.trans hk)

namespace Srt
theorem ins_end {cv : Int → Int → Int} {V : Int → Prop} (F : Fit cv V) {U W : List Int} {x : Int} (hv : ∀ y ∈ U ++ W, V y) (hx : V x) (hs : (U ++ W).Pairwise (lo cv)) (hw : ∀ y ∈ W, lo cv x y) (hlt : ∀ y ∈ U ++ W, y < x)
    (he : U = [] ∨ ∃ U' u, U = U' ++ [u] ∧ ¬ cv x u < 0) : (U ++ x :: W).Pairwise (lo cv) := by
  rw [List.pairwise_append] at hs ⊢
  obtain ⟨s1, s2, s3⟩ := hs
  refine ⟨s1, List.pairwise_cons.2 ⟨hw, s2⟩, fun y hy z hz => ?_⟩
  rcases List.mem_cons.1 hz with rfl | hz
  · rcases he with he | ⟨U', u, he, hn⟩
    · rw [he] at hy; simp at hy
    · have hu : lo cv u z := lo_of_not F hx (hv u (by simp [he])) hn (hlt u (by simp [he]))
      rw [he] at hy s1
      rcases List.mem_append.1 hy with hy' | hy'
      · rw [List.pairwise_append] at s1
        exact lo_trans F (hv y (by simp [he, hy'])) (hv u (by simp [he])) hx (s1.2.2 y hy' u (by simp)) hu
      · simp at hy'; subst hy'; exact hu
  · exact s3 y hy z hz
theorem ins_next {cv : Int → Int → Int} {W : List Int} {x u : Int} (hw : ∀ y ∈ W, lo cv x y) (h : cv x u < 0) : ∀ y ∈ u :: W, lo cv x y := fun y hy => by
  rcases List.mem_cons.1 hy with rfl | hy
  · exact .inl h
  · exact hw y hy
end Srt

set_option maxRecDepth 100000 in
set_option maxHeartbeats 2000000 in
theorem insertion_any (cv : Int → Int → Int) (V : Int → Prop) (F : Srt.Fit cv V) (bx g : Nat) (P X Q : List Int) (rest : List Value) (a b len cap : Nat) (w : World) (h : Dt w g (P ++ X ++ Q) rest) (ha : P.length = a) (hb : a + X.length = b) (hlen : (P ++ X ++ Q).length = len) (hm : len ≤ 1000000)
    (hv : ∀ x ∈ X, V x) (hi : X.Pairwise (· < ·)) (hbd : ∀ x y, V x → V y → -9223372036854775808 ≤ cv x y ∧ cv x y ≤ 9223372036854775807) (hc : CmpOk cv V bx g w) :
    Calls Try.prog 53 #[.slice (some ⟨g, 0, none⟩) len cap, .int .i64 a, .int .i64 b, cmpV bx] w fun e w' =>
      e = .returned (.tuple #[]) ∧ KeptO (· = g) w w' ∧ ∃ M, Dt w' g (P ++ M ++ Q) rest ∧ M.Perm X ∧ M.Pairwise (Srt.lo cv) := by
  have hbl : b + Q.length = len := by rw [← hlen]; simp; omega
  have ab : a ≤ b := by omega
  have HLEN := Lib.hid hlen
  have HA := Lib.hid ha
  have HB := Lib.hid hb
  have HC := Lib.hid hc
  have HV := Lib.hid hv
  have HI := Lib.hid hi
  have HF := Lib.hid F
  have HBD := Lib.hid hbd
  clear hlen ha hc hv hi F hbd
  have at0 : ∃ (i : Nat) (S T : List Int), Value.int .i64 ((a : Int) + 1) = .int .i64 i ∧ a < i ∧ i ≤ b + 1 ∧ Hid (a + S.length = min i b) ∧ Hid ((S ++ T).length = X.length) ∧ Hid (T = X.drop S.length) ∧ Hid (S.Perm (X.take S.length)) ∧ Hid (S.Pairwise (Srt.lo cv)) ∧ Dt w g (P ++ S ++ T ++ Q) rest ∧ KeptO (· = g) w w := by
    refine ⟨a + 1, X.take 1, X.drop 1, by go_num, by omega, by omega, ?_, by (show _ = _; simp; omega), ?_, ?_, ?_, by rw [List.append_assoc P, List.take_append_drop]; exact h, KeptO.refl w⟩
    · show _ = _; rw [List.length_take]; omega
    · show _ = _
      cases X with
      | nil => rfl
      | cons x X => simp
    · show List.Perm _ _
      cases X with
      | nil => exact List.Perm.refl _
      | cons x X => simp
    · show List.Pairwise _ _
      cases X with
      | nil => exact List.Pairwise.nil
      | cons x X => simp
  have AT0 := Lib.hid at0
  clear at0 h hb
  go_enter Try.func53, Try.ntmps53
  go_wp2
  go_loopw [8] (fun vi wr => ∃ (i : Nat) (S T : List Int), vi = .int .i64 i ∧ a < i ∧ i ≤ b + 1 ∧ Hid (a + S.length = min i b) ∧ Hid ((S ++ T).length = X.length) ∧ Hid (T = X.drop S.length) ∧ Hid (S.Perm (X.take S.length)) ∧ Hid (S.Pairwise (Srt.lo cv)) ∧ Dt wr g (P ++ S ++ T ++ Q) rest ∧ KeptO (· = g) w wr) (fun i _ => (b + 1 - intOf i).toNat)
  case atStart => exact AT0.out
  case round =>
    obtain ⟨i, S, T, rfl, hai, hib, hS, hST, hT, hperm, hsort, hd, hw⟩ := hrel
    by_cases h0 : i < b
    · -- the element that is put in its place
      have sl : a + S.length = i := by have := hS.out; omega
      obtain ⟨x, T', hx⟩ : ∃ x T', T = x :: T' := by
        cases T with
        | nil => exfalso; have := hST.out; have := HB.out; simp at *; omega
        | cons x T' => exact ⟨x, T', rfl⟩
      have at1 : ∃ (j : Nat) (U W : List Int), Value.int .i64 (i : Int) = .int .i64 j ∧ a ≤ j ∧ j ≤ i ∧ Hid (a + U.length = j) ∧ Hid (U ++ W = S) ∧ Hid (∀ y ∈ W, Srt.lo cv x y) ∧ Dt wr g (P ++ U ++ x :: (W ++ T' ++ Q)) rest ∧ KeptO (· = g) w wr :=
        ⟨i, S, [], rfl, by omega, Nat.le_refl _, sl, by (show _ = _; simp), by (show ∀ y ∈ [], _; simp), by rw [hx] at hd; simpa using hd, hw⟩
      have out : ∀ (U W : List Int) (wq : World), U ++ W = S → (∀ y ∈ W, Srt.lo cv x y) → Dt wq g (P ++ U ++ x :: (W ++ T' ++ Q)) rest → KeptO (· = g) w wq → (U = [] ∨ ∃ U' u, U = U' ++ [u] ∧ ¬ cv x u < 0) →
          ∃ (i1 : Nat) (S T : List Int), Value.int .i64 ((i : Int) + 1) = .int .i64 i1 ∧ a < i1 ∧ i1 ≤ b + 1 ∧ Hid (a + S.length = min i1 b) ∧ Hid ((S ++ T).length = X.length) ∧ Hid (T = X.drop S.length) ∧ Hid (S.Perm (X.take S.length)) ∧ Hid (S.Pairwise (Srt.lo cv)) ∧ Dt wq g (P ++ S ++ T ++ Q) rest ∧ KeptO (· = g) w wq := by
        intro U W wq hUW hlo hd hk he
        have ln : (U ++ x :: W).length = S.length + 1 := by rw [← hUW]; simp; omega
        have hT' := hT.out
        rw [hx] at hT'
        have hspl := List.take_append_drop S.length X
        have hpw := HI.out
        rw [← hspl, List.pairwise_append, ← hT'] at hpw
        have lts : ∀ y ∈ U ++ W, y < x := fun y hy => hpw.2.2 y (hperm.out.subset (by rw [← hUW]; exact hy)) x List.mem_cons_self
        have hvs : ∀ y ∈ U ++ W, V y := fun y hy => HV.out y (List.mem_of_mem_take (hperm.out.subset (by rw [← hUW]; exact hy)))
        have hvx : V x := HV.out x (List.mem_of_mem_drop (by rw [← hT']; exact List.mem_cons_self))
        refine ⟨i + 1, U ++ x :: W, T', by go_num, by omega, by omega, ?_, ?_, ?_, ?_, ?_, ?_, hk⟩
        · show _ = _; rw [ln]; omega
        · show _ = _
          have := hST.out
          rw [hx] at this
          simp only [List.length_append, List.length_cons] at this ln ⊢; omega
        · show _ = _
          rw [ln, ← List.drop_drop, ← hT']; rfl
        · show List.Perm _ _
          rw [ln]
          have e1 : X.take (S.length + 1) = X.take S.length ++ [x] := by
            have : (X.take S.length ++ x :: T').take (S.length + 1) = X.take S.length ++ [x] := by
              have hl : (X.take S.length).length = S.length := by have := hperm.out.length_eq; omega
              rw [List.take_append, hl, List.take_of_length_le (by omega), show S.length + 1 - S.length = 1 by omega]; rfl
            rwa [hT', hspl] at this
          rw [e1]
          have p1 : (U ++ x :: W).Perm (x :: (U ++ W)) := List.perm_middle
          refine p1.trans (List.Perm.trans ?_ (List.perm_append_singleton x _).symm)
          rw [hUW]; exact hperm.out.cons x
        · exact Srt.ins_end HF.out hvs hvx (by rw [hUW]; exact hsort.out) hlo lts he
        · simpa using hd
      have OUT := Lib.hid out
      clear out
      have AT1 := Lib.hid at1
      have SL := Lib.hid sl
      have HX := Lib.hid hx
      obtain ⟨wO, eO⟩ : ∃ wO, wO = wr := ⟨_, rfl⟩
      have EO := Lib.hid eO
      clear at1 hd sl hx eO
      go_wp2
      go_loopw [9] (fun vj wr2 => ∃ (j : Nat) (U W : List Int), vj = .int .i64 j ∧ a ≤ j ∧ j ≤ i ∧ Hid (a + U.length = j) ∧ Hid (U ++ W = S) ∧ Hid (∀ y ∈ W, Srt.lo cv x y) ∧ Dt wr2 g (P ++ U ++ x :: (W ++ T' ++ Q)) rest ∧ KeptO (· = g) w wr2) (fun j _ => (intOf j).toNat)
      case atStart => exact AT1.out
      case round =>
        obtain ⟨j, U, W, rfl, haj, hji, hU, hUW, hlo, hd, hw2⟩ := hrel
        have vx : V x := HV.out x (List.mem_of_mem_drop (by rw [← hT.out, HX.out]; exact List.mem_cons_self))
        by_cases hja : a < j
        · obtain ⟨U', u, hu⟩ : ∃ U' u, U = U' ++ [u] := by
            rcases List.eq_nil_or_concat U with e | ⟨U', u, e⟩
            · exfalso; have := hU.out; rw [e] at this; simp at this; omega
            · exact ⟨U', u, by rw [e, List.concat_eq_append]⟩
          have ul : a + U'.length = j - 1 := by have := hU.out; rw [hu] at this; simp at this; omega
          have c1 : (P ++ U ++ x :: (W ++ T' ++ Q))[j]? = some x := by
            have : (P ++ U).length = j := by rw [List.length_append, HA.out]; exact hU.out
            rw [← this, List.getElem?_append_right (Nat.le_refl _), Nat.sub_self]; rfl
          have c2 : (P ++ U ++ x :: (W ++ T' ++ Q))[j - 1]? = some u := by
            have : (P ++ U').length = j - 1 := by rw [List.length_append, HA.out]; exact ul
            rw [hu, show P ++ (U' ++ [u]) ++ x :: (W ++ T' ++ Q) = (P ++ U') ++ u :: x :: (W ++ T' ++ Q) by simp, ← this, List.getElem?_append_right (Nat.le_refl _), Nat.sub_self]; rfl
          have vu : V u := HV.out u (by
            have h1 : u ∈ S := by rw [← hUW.out, hu]; simp
            exact List.mem_of_mem_take (hperm.out.subset h1))
          have q1 := hd.at c1
          have q2 := hd.at c2
          have jl : j < len := by omega
          have f1 := Rw.frozen hd j
          have f2 := Rw.frozen hd (j - 1)
          have gl : g < wr.heap.size := Rw.lt hd
          have e1 : ((j : Int) - 1) = ((j - 1 : Nat) : Int) := by omega
          have hcall := HC.out
          obtain ⟨cB1, cB2⟩ := HBD.out x u vx vu
          have st : ((P ++ U ++ x :: (W ++ T' ++ Q)).set j u).set (j - 1) x = P ++ U' ++ x :: ((u :: W) ++ T' ++ Q) := by
            have l1 : (P ++ U').length = j - 1 := by rw [List.length_append, HA.out]; exact ul
            have l2 : (P ++ U' ++ [u]).length = j := by rw [List.length_append, l1]; simp; omega
            rw [hu, ← List.append_assoc]
            have s1 : (P ++ U' ++ [u] ++ x :: (W ++ T' ++ Q)).set j u = P ++ U' ++ [u] ++ u :: (W ++ T' ++ Q) := by
              rw [List.set_append_right _ _ (by omega), show j - (P ++ U' ++ [u]).length = 0 by omega, List.set_cons_zero]
            rw [s1, List.append_assoc (P ++ U'), List.set_append_right _ _ (by omega), show j - 1 - (P ++ U').length = 0 by omega]
            simp
          have dl : (P ++ U ++ x :: (W ++ T' ++ Q)).length = len := by
            rw [← HLEN.out]
            have a1 := hST.out; have a2 := HB.out; have a3 := HX.out; have a4 := hUW.out
            rw [← a4, a3] at a1
            simp at a1 ⊢; omega
          have HU := Lib.hid hu
          have UL := Lib.hid ul
          have ST := Lib.hid st
          have DL := Lib.hid dl
          have hcc := HC.out.kept hw2 
          have HCC := Lib.hid hcc
          clear hu ul c1 c2 hcall hcc st dl
          by_cases hlt : cv x u < 0
          · go_wp2
            refine wp_region_ext_lit (by kernel_rfl) (by kernel_rfl) ?_
            repeat (go_big_quiet_step ((go_at_call 26; exact Calls.ext_of (HCC.out _ (KeptO.of_blw (World.blw_ext _ _)) x u vx vu))))
            refine wpQuiet_nil ?_
            rintro _ ⟨z, rfl⟩
            go_wp2
            go_region
            all_goals go_wp2
            go_roundw
            case rel =>
              refine ⟨j - 1, U', u :: W, rfl, by omega, by omega, UL.out, ?_, Srt.ins_next hlo.out hlt, ?_, ?_⟩
              · show _ = _; rw [← hUW.out, HU.out]; simp
              · rw [← ST.out]
                exact Rw.blw (Dt.set (Dt.set (hd.ext z) (by rw [DL.out]; exact jl) u) (by rw [List.length_set, DL.out]; omega) x) (Blw.refl _).drew
              · exact (((hw2.ext z).setCell _ _ (.inl rfl)).setCell _ _ (.inl rfl)).drew
            case measure => (first | (simp [intOf]; done) | (simp [intOf]; omega))
          · go_wp2
            refine wp_region_ext_lit (by kernel_rfl) (by kernel_rfl) ?_
            repeat (go_big_quiet_step ((go_at_call 26; exact Calls.ext_of (HCC.out _ (KeptO.of_blw (World.blw_ext _ _)) x u vx vu))))
            refine wpQuiet_nil ?_
            rintro _ ⟨z, rfl⟩
            go_wp2
            go_roundw
            case rel => exact OUT.out U W _ hUW.out hlo.out (hd.ext z) (hw2.ext z) (.inr ⟨U', u, HU.out, hlt⟩)
            case measure => (first | (simp [intOf]; done) | (simp [intOf]; omega))
        · have jz : ((j : Int) > (a : Int)) = False := by simp; omega
          have U0 : U = [] := List.eq_nil_of_length_eq_zero (by have := hU.out; omega)
          have HU0 := Lib.hid U0
          clear U0
          go_wp2
          refine wp_region_ext_lit (by kernel_rfl) (by kernel_rfl) ?_
          repeat (go_big_quiet_step (fail))
          refine wpQuiet_nil ?_
          rintro _ ⟨z, rfl⟩
          go_wp2
          go_roundw
          case rel => exact OUT.out U W _ hUW.out hlo.out (hd.ext z) (hw2.ext z) (.inl HU0.out)
          case measure => (first | (simp [intOf]; done) | (simp [intOf]; omega))
    · go_wp2
      go_end0
      have sl : S.length = X.length := by have := hS.out; have := HB.out; omega
      have tn : T = [] := List.eq_nil_of_length_eq_zero (by have := hST.out; simp at this; omega)
      refine ⟨rfl, hw, S, ?_, ?_, hsort.out⟩
      · rw [tn, List.append_nil] at hd; exact hd
      · have := hperm.out
        rwa [sl, List.take_length] at this
end Go.Proofs.Ytigkfdoeneemeab
/- The library's stable sort: a merge where one of the two lists has one element. -/
namespace Go.Proofs.Ytigkfdoeneemeab
open Go.RowKit

namespace Srt
theorem two_at {A B : List Int} {u v : Int} {p : Nat} (h : A.length = p) :
    (A ++ u :: v :: B)[p]? = some u ∧ (A ++ u :: v :: B)[p + 1]? = some v ∧ ((A ++ u :: v :: B).set p v).set (p + 1) u = A ++ v :: u :: B ∧ ((A ++ u :: v :: B).set (p + 1) u).set p v = A ++ v :: u :: B := by
  subst h
  have e1 : ∀ (l : List Int), (A ++ l)[A.length]? = l[0]? := fun l => by rw [List.getElem?_append_right (Nat.le_refl _), Nat.sub_self]
  have e2 : ∀ (l : List Int), (A ++ l)[A.length + 1]? = l[1]? := fun l => by rw [List.getElem?_append_right (by omega), show A.length + 1 - A.length = 1 by omega]
  have e3 : ∀ (l : List Int) (z : Int), (A ++ l).set A.length z = A ++ l.set 0 z := fun l z => by rw [List.set_append_right _ _ (Nat.le_refl _), Nat.sub_self]
  have e4 : ∀ (l : List Int) (z : Int), (A ++ l).set (A.length + 1) z = A ++ l.set 1 z := fun l z => by rw [List.set_append_right _ _ (by omega), show A.length + 1 - A.length = 1 by omega]
  refine ⟨by rw [e1]; rfl, by rw [e2]; rfl, by rw [e3, e4]; rfl, by rw [e4, e3]; rfl⟩
theorem up_at (P R Q : List Int) (x : Int) (a t : Nat) (ha : P.length = a) (ht : t < R.length) :
    ∃ y, (P ++ R.take t ++ x :: (R.drop t ++ Q))[a + t]? = some x ∧ (P ++ R.take t ++ x :: (R.drop t ++ Q))[a + t + 1]? = some y ∧ ((P ++ R.take t ++ x :: (R.drop t ++ Q)).set (a + t) y).set (a + t + 1) x = P ++ R.take (t + 1) ++ x :: (R.drop (t + 1) ++ Q) := by
  have ex : R.drop t = R[t] :: R.drop (t + 1) := List.drop_eq_getElem_cons ht
  have l1 : (P ++ R.take t).length = a + t := by rw [List.length_append, List.length_take, ha]; omega
  obtain ⟨h1, h2, h3, -⟩ := two_at (A := P ++ R.take t) (B := R.drop (t + 1) ++ Q) (u := x) (v := R[t]) l1
  have e : P ++ R.take t ++ x :: (R.drop t ++ Q) = P ++ R.take t ++ x :: R[t] :: (R.drop (t + 1) ++ Q) := by rw [ex]; rfl
  refine ⟨R[t], by rw [e]; exact h1, by rw [e]; exact h2, by rw [e, h3, List.take_succ_eq_append_getElem ht]; simp only [List.append_assoc, List.cons_append, List.nil_append]⟩
theorem dn_at (P L Q : List Int) (y : Int) (a t : Nat) (ha : P.length = a) (ht : t < L.length) :
    ∃ x, (P ++ L.take (t + 1) ++ y :: (L.drop (t + 1) ++ Q))[a + t + 1]? = some y ∧ (P ++ L.take (t + 1) ++ y :: (L.drop (t + 1) ++ Q))[a + t]? = some x ∧ ((P ++ L.take (t + 1) ++ y :: (L.drop (t + 1) ++ Q)).set (a + t + 1) x).set (a + t) y = P ++ L.take t ++ y :: (L.drop t ++ Q) := by
  have ex : L.drop t = L[t] :: L.drop (t + 1) := List.drop_eq_getElem_cons ht
  have l1 : (P ++ L.take t).length = a + t := by rw [List.length_append, List.length_take, ha]; omega
  obtain ⟨h1, h2, -, h4⟩ := two_at (A := P ++ L.take t) (B := L.drop (t + 1) ++ Q) (u := L[t]) (v := y) l1
  have e : P ++ L.take (t + 1) ++ y :: (L.drop (t + 1) ++ Q) = P ++ L.take t ++ L[t] :: y :: (L.drop (t + 1) ++ Q) := by rw [List.take_succ_eq_append_getElem ht]; simp only [List.append_assoc, List.cons_append, List.nil_append]
  refine ⟨L[t], by rw [e]; exact h2, by rw [e]; exact h1, by rw [e, h4, ex]; rfl⟩

theorem Mrg.join {cv : Int → Int → Int} {L1 L2 R1 R2 M1 M2 : List Int} (m1 : Mrg cv L1 R1 M1) (m2 : Mrg cv L2 R2 M2) (h11 : ∀ x ∈ L1, ∀ y ∈ L2, lo cv x y) (h12 : ∀ x ∈ L1, ∀ y ∈ R2, lo cv x y) (h21 : ∀ x ∈ R1, ∀ y ∈ L2, lo cv x y) (h22 : ∀ x ∈ R1, ∀ y ∈ R2, lo cv x y) :
    Mrg cv (L1 ++ L2) (R1 ++ R2) (M1 ++ M2) := by
  constructor
  · refine (m1.perm.append m2.perm).trans ?_
    rw [List.append_assoc, List.append_assoc]
    refine List.Perm.append_left L1 ?_
    rw [← List.append_assoc, ← List.append_assoc]
    exact List.Perm.append_right R2 List.perm_append_comm
  · rw [List.pairwise_append]
    refine ⟨m1.sort, m2.sort, fun x hx y hy => ?_⟩
    rcases List.mem_append.1 (m1.perm.subset hx) with hx | hx <;> rcases List.mem_append.1 (m2.perm.subset hy) with hy | hy
    · exact h11 x hx y hy
    · exact h12 x hx y hy
    · exact h21 x hx y hy
    · exact h22 x hx y hy
theorem take_last {R : List Int} {k : Nat} {y : Int} (hk : 0 < k) (h : R[k - 1]? = some y) : (R.take k)[(R.take k).length - 1]? = some y := by
  have hl : k - 1 < R.length := (List.getElem?_eq_some_iff.1 h).1
  rw [List.length_take, show min k R.length - 1 = k - 1 by omega, List.getElem?_take_of_lt (by omega)]; exact h
section
variable {cv : Int → Int → Int} {V : Int → Prop} (F : Fit cv V)
include F
/-- What lies up to a place is below all behind it, if it is so at the place. -/
theorem below_all {A B : List Int} (hA : A.Pairwise (lo cv)) (hB : B.Pairwise (lo cv)) (vA : ∀ x ∈ A, V x) (vB : ∀ x ∈ B, V x) (h : A = [] ∨ B = [] ∨ ∃ x y, A[A.length - 1]? = some x ∧ B[0]? = some y ∧ lo cv x y) : ∀ x ∈ A, ∀ y ∈ B, lo cv x y := by
  intro u hu v hv
  rcases h with h | h | ⟨x, y, hx, hy, hxy⟩
  · rw [h] at hu; cases hu
  · rw [h] at hv; cases hv
  · obtain ⟨i, hi, rfl⟩ := List.mem_iff_getElem.1 hu
    obtain ⟨j, hj, rfl⟩ := List.mem_iff_getElem.1 hv
    obtain ⟨lx, rfl⟩ := List.getElem?_eq_some_iff.1 hx
    obtain ⟨ly, rfl⟩ := List.getElem?_eq_some_iff.1 hy
    have h1 : lo cv A[i] B[0] := by
      by_cases e : i = A.length - 1
      · subst e; exact hxy
      · exact lo_trans F (vA _ (List.getElem_mem _)) (vA _ (List.getElem_mem _)) (vB _ (List.getElem_mem _)) (List.pairwise_iff_getElem.1 hA i (A.length - 1) hi lx (by omega)) hxy
    by_cases e : j = 0
    · subst e; exact h1
    · exact lo_trans F (vA _ (List.getElem_mem _)) (vB _ (List.getElem_mem _)) (vB _ (List.getElem_mem _)) h1 (List.pairwise_iff_getElem.1 hB 0 j ly hj (by omega))
theorem one_end {R : List Int} {x : Int} {k : Nat} (hs : R.Pairwise (lo cv)) (vR : ∀ y ∈ R, V y) (vx : V x) (hk : k ≤ R.length) (h1 : k = 0 ∨ ∃ y, R[k - 1]? = some y ∧ cv y x < 0) (h2 : k = R.length ∨ ∃ y, R[k]? = some y ∧ ¬ cv y x < 0) (hlt : ∀ y ∈ R, x < y) :
    Mrg cv [x] R (R.take k ++ x :: R.drop k) := by
  have hs' := hs
  rw [← List.take_append_drop k R, List.pairwise_append] at hs'
  obtain ⟨s1, s2, s3⟩ := hs'
  have b1 : ∀ y ∈ R.take k, ∀ z ∈ [x], lo cv y z := by
    refine below_all F s1 (List.pairwise_singleton _ _) (fun y hy => vR y (List.mem_of_mem_take hy)) (by simpa using vx) ?_
    rcases h1 with h | ⟨y, h, c⟩
    · left; rw [h]; rfl
    · by_cases k0 : k = 0
      · left; rw [k0]; rfl
      · exact .inr (.inr ⟨y, x, take_last (by omega) h, rfl, .inl c⟩)
  have b2 : ∀ z ∈ [x], ∀ y ∈ R.drop k, lo cv z y := by
    refine below_all F (List.pairwise_singleton _ _) s2 (by simpa using vx) (fun y hy => vR y (List.mem_of_mem_drop hy)) ?_
    rcases h2 with h | ⟨y, h, c⟩
    · right; left; rw [h, List.drop_length]
    · exact .inr (.inr ⟨x, y, rfl, by rw [List.getElem?_drop]; exact h, lo_of_not F (vR y (List.mem_of_getElem? h)) vx c (hlt y (List.mem_of_getElem? h))⟩)
  constructor
  · refine List.perm_middle.trans ?_
    rw [List.take_append_drop]; exact List.Perm.refl _
  · rw [List.pairwise_append]
    refine ⟨s1, List.pairwise_cons.2 ⟨fun y hy => b2 x (by simp) y hy, s2⟩, fun y hy z hz => ?_⟩
    rcases List.mem_cons.1 hz with rfl | hz
    · exact b1 y hy z (by simp)
    · exact s3 y hy z hz
theorem last_end {L : List Int} {y : Int} {k : Nat} (hs : L.Pairwise (lo cv)) (vL : ∀ x ∈ L, V x) (vy : V y) (hk : k ≤ L.length) (h1 : k = 0 ∨ ∃ x, L[k - 1]? = some x ∧ ¬ cv y x < 0) (h2 : k = L.length ∨ ∃ x, L[k]? = some x ∧ cv y x < 0) (hlt : ∀ x ∈ L, x < y) :
    Mrg cv L [y] (L.take k ++ y :: L.drop k) := by
  have hs' := hs
  rw [← List.take_append_drop k L, List.pairwise_append] at hs'
  obtain ⟨s1, s2, s3⟩ := hs'
  have b1 : ∀ x ∈ L.take k, ∀ z ∈ [y], lo cv x z := by
    refine below_all F s1 (List.pairwise_singleton _ _) (fun y hy => vL y (List.mem_of_mem_take hy)) (by simpa using vy) ?_
    rcases h1 with h | ⟨x, h, c⟩
    · left; rw [h]; rfl
    · by_cases k0 : k = 0
      · left; rw [k0]; rfl
      · exact .inr (.inr ⟨x, y, take_last (by omega) h, rfl, lo_of_not F vy (vL x (List.mem_of_getElem? h)) c (hlt x (List.mem_of_getElem? h))⟩)
  have b2 : ∀ z ∈ [y], ∀ x ∈ L.drop k, lo cv z x := by
    refine below_all F (List.pairwise_singleton _ _) s2 (by simpa using vy) (fun y hy => vL y (List.mem_of_mem_drop hy)) ?_
    rcases h2 with h | ⟨x, h, c⟩
    · right; left; rw [h, List.drop_length]
    · exact .inr (.inr ⟨y, x, rfl, by rw [List.getElem?_drop]; exact h, .inl c⟩)
  constructor
  · refine List.perm_middle.trans ?_
    rw [List.take_append_drop]; exact (List.perm_append_singleton y L).symm
  · rw [List.pairwise_append]
    refine ⟨s1, List.pairwise_cons.2 ⟨fun x hx => b2 y (by simp) x hx, s2⟩, fun x hx z hz => ?_⟩
    rcases List.mem_cons.1 hz with rfl | hz
    · exact b1 x hx z (by simp)
    · exact s3 x hx z hz
end
end Srt
def MergePost (cv : Int → Int → Int) (g : Nat) (P L R Q : List Int) (rest : List Value) (w : World) (e : Ending) (w' : World) : Prop :=
  e = .returned (.tuple #[]) ∧ KeptO (· = g) w w' ∧ ∃ M, Dt w' g (P ++ M ++ Q) rest ∧ Srt.Mrg cv L R M
theorem app_at {P R Q : List Int} {a k : Nat} {x : Int} (ha : P.length = a) (h : R[k]? = some x) : (P ++ R ++ Q)[a + k]? = some x := by
  have hk := (List.getElem?_eq_some_iff.1 h).1
  rw [List.append_assoc, List.getElem?_append_right (by omega), show a + k - P.length = k by omega, List.getElem?_append_left hk]; exact h

set_option maxRecDepth 100000 in
set_option maxHeartbeats 2000000 in
theorem symMerge_one (cv : Int → Int → Int) (V : Int → Prop) (F : Srt.Fit cv V) (bx g : Nat) (P R Q : List Int) (x : Int) (rest : List Value) (a b len cap : Nat) (w : World) (h : Dt w g (P ++ [x] ++ R ++ Q) rest) (ha : P.length = a) (hb : a + 1 + R.length = b) (hlen : (P ++ [x] ++ R ++ Q).length = len) (hm : len ≤ 1000000)
    (vR : ∀ y ∈ R, V y) (vx : V x) (hs : R.Pairwise (Srt.lo cv)) (hlt : ∀ y ∈ R, x < y) (hbd : ∀ x y, V x → V y → -9223372036854775808 ≤ cv x y ∧ cv x y ≤ 9223372036854775807) (hc : CmpOk cv V bx g w) :
    Calls Try.prog 54 #[.slice (some ⟨g, 0, none⟩) len cap, .int .i64 a, .int .i64 ((a + 1 : Nat) : Int), .int .i64 b, cmpV bx] w (MergePost cv g P [x] R Q rest w) := by
  have hbl : b + Q.length = len := by rw [← hlen]; simp; omega
  have HLEN := Lib.hid hlen
  have HA := Lib.hid ha
  have HB := Lib.hid hb
  have HC := Lib.hid hc
  have HV := Lib.hid vR
  have HS := Lib.hid hs
  have HF := Lib.hid F
  have HLT := Lib.hid hlt
  have HBD := Lib.hid hbd
  have HD := Lib.hid h
  have ab : a + 1 ≤ b := by omega
  have e1 : ((a + 1 : Nat) : Int) - (a : Int) = 1 := by omega
  have cx := h.at (k := a) (x := x) (by rw [List.append_assoc, List.append_assoc, ← ha, List.getElem?_append_right (Nat.le_refl _), Nat.sub_self]; rfl)
  have gl : g < w.heap.size := Rw.lt h
  clear hlen ha hc vR hs F hlt hbd h hb
  go_enter Try.func54, Try.ntmps54
  go_wp2
  go_loopw [10, 11] (fun vi vj wr => ∃ (i j : Nat), vi = .int .i64 i ∧ vj = .int .i64 j ∧ a + 1 ≤ i ∧ i ≤ j ∧ j ≤ b ∧ Hid (i = a + 1 ∨ ∃ y, R[i - 1 - (a + 1)]? = some y ∧ cv y x < 0) ∧ Hid (j = b ∨ ∃ y, R[j - (a + 1)]? = some y ∧ ¬ cv y x < 0) ∧ Blw w wr) (fun vi vj _ => (intOf vj - intOf vi).toNat)
  case atStart => exact ⟨a + 1, b, rfl, rfl, Nat.le_refl _, ab, Nat.le_refl _, .inl rfl, .inl rfl, Blw.refl w⟩
  case round =>
    obtain ⟨i, j, rfl, rfl, hi, hij, hj, h1, h2, hw⟩ := hrel
    obtain ⟨z0, rfl⟩ := hw.is
    by_cases hlt : i < j
    · obtain ⟨hh, eh⟩ : ∃ hh, (i + j) / 2 = hh := ⟨_, rfl⟩
      have hh1 : i ≤ hh := by omega
      have hh2 : hh < j := by omega
      have eh' : ((i : Int) + (j : Int)) / 2 = (hh : Int) := by omega
      have EH := Lib.hid eh
      clear eh
      obtain ⟨y, hy⟩ : ∃ y, R[hh - (a + 1)]? = some y := ⟨R[hh - (a + 1)]'(by have := HB.out; omega), List.getElem?_eq_getElem _⟩
      have cy := HD.out.at (app_at (P := P ++ [x]) (a := a + 1) (by rw [List.length_append, HA.out]; rfl) hy)
      rw [show a + 1 + (hh - (a + 1)) = hh by omega] at cy
      have vy : V y := HV.out y (List.mem_of_getElem? hy)
      have hl : hh < len := by omega
      have HY := Lib.hid hy
      have hcc := HC.out.kept (KeptO.of_blw (World.blw_ext w z0))
      have HCC := Lib.hid hcc
      obtain ⟨cB1, cB2⟩ := HBD.out y x vy vx
      clear hy hcc
      by_cases c : cv y x < 0
      · go_wp2
        refine wp_region_ext_lit (by kernel_rfl) (by kernel_rfl) ?_
        repeat (go_big_quiet_step ((go_at_call 26; exact Calls.ext_of (HCC.out _ (KeptO.of_blw (World.blw_ext _ _)) y x vy vx))))
        refine wpQuiet_nil ?_
        rintro _ ⟨z, rfl⟩
        go_wp2
        go_roundw
        case rel => exact ⟨hh + 1, by go_num, j, rfl, by omega, by omega, hj, .inr ⟨y, by rw [show hh + 1 - 1 - (a + 1) = hh - (a + 1) by omega]; exact HY.out, c⟩, h2, (World.blw_ext w z0).ext z⟩
        case measure => simp [intOf]; omega
      · go_wp2
        refine wp_region_ext_lit (by kernel_rfl) (by kernel_rfl) ?_
        repeat (go_big_quiet_step ((go_at_call 26; exact Calls.ext_of (HCC.out _ (KeptO.of_blw (World.blw_ext _ _)) y x vy vx))))
        refine wpQuiet_nil ?_
        rintro _ ⟨z, rfl⟩
        go_wp2
        go_roundw
        case rel => exact ⟨i, rfl, hh, rfl, hi, hh1, by omega, h1, .inr ⟨y, HY.out, c⟩, (World.blw_ext w z0).ext z⟩
        case measure => simp [intOf]; omega
    · have : j = i := by omega
      subst this
      -- the element goes up to its place
      have mg : Srt.Mrg cv [x] R (R.take (j - (a + 1)) ++ x :: R.drop (j - (a + 1))) := by
        refine Srt.one_end HF.out HS.out HV.out vx (by have := HB.out; omega) ?_ ?_ HLT.out
        · rcases h1.out with h | ⟨y, h, c⟩
          · left; omega
          · right; exact ⟨y, by rw [show j - (a + 1) - 1 = j - 1 - (a + 1) by omega]; exact h, c⟩
        · rcases h2.out with h | ⟨y, h, c⟩
          · left; have := HB.out; omega
          · right; exact ⟨y, h, c⟩
      have MG := Lib.hid mg
      have at0 : ∃ t : Nat, Value.int .i64 (a : Int) = .int .i64 ((a + t : Nat) : Int) ∧ t ≤ j - (a + 1) ∧ Dt (w.ext z0) g (P ++ R.take t ++ x :: (R.drop t ++ Q)) rest ∧ KeptO (· = g) w (w.ext z0) :=
        ⟨0, rfl, Nat.zero_le _, by have := HD.out.ext z0; simpa using this, KeptO.of_blw (World.blw_ext w z0)⟩
      have AT0 := Lib.hid at0
      clear mg at0
      go_wp2
      go_loopw [13] (fun vk wr => ∃ t : Nat, vk = .int .i64 ((a + t : Nat) : Int) ∧ t ≤ j - (a + 1) ∧ Dt wr g (P ++ R.take t ++ x :: (R.drop t ++ Q)) rest ∧ KeptO (· = g) w wr) (fun vk _ => (b - intOf vk).toNat)
      case atStart => exact AT0.out
      case round =>
        obtain ⟨t, rfl, ht, hd, hw⟩ := hrel
        by_cases h0 : t < j - (a + 1)
        · obtain ⟨y, q1, q2, q3⟩ := Srt.up_at P R Q x a t HA.out (by have := HB.out; omega)
          have c1 := hd.at q1
          have c2 := hd.at q2
          have dl : (P ++ R.take t ++ x :: (R.drop t ++ Q)).length = len := by
            rw [← HLEN.out]; have := HB.out; simp; omega
          have f1 := Rw.frozen hd (a + t)
          have f2 := Rw.frozen hd (a + t + 1)
          have Q3 := Lib.hid q3
          have DL := Lib.hid dl
          have l1 : a + t + 1 < len := by omega
          clear q1 q2 q3 dl
          go_wp2
          go_region
          all_goals go_wp2
          go_roundw
          case rel => exact ⟨t + 1, by first | (congr 1; omega) | congr 1, h0, by rw [← Q3.out]; exact Rw.blw (Dt.set (Dt.set hd (by rw [DL.out]; omega) y) (by rw [List.length_set, DL.out]; omega) x) (Blw.refl _).drew, ((hw.setCell _ _ (.inl rfl)).setCell _ _ (.inl rfl)).drew⟩
          case measure => simp [intOf]; omega
        · have : t = j - (a + 1) := by omega
          subst this
          go_wp2
          go_end0
          refine ⟨rfl, hw, _, ?_, MG.out⟩
          rw [List.append_assoc] at hd ⊢
          simpa using hd

set_option maxRecDepth 100000 in
set_option maxHeartbeats 2000000 in
theorem symMerge_last (cv : Int → Int → Int) (V : Int → Prop) (F : Srt.Fit cv V) (bx g : Nat) (P L Q : List Int) (y : Int) (rest : List Value) (a m len cap : Nat) (w : World) (h : Dt w g (P ++ L ++ [y] ++ Q) rest) (ha : P.length = a) (hb : a + L.length = m) (hlen : (P ++ L ++ [y] ++ Q).length = len) (hm : len ≤ 1000000) (hL : 1 < L.length)
    (vL : ∀ y ∈ L, V y) (vy : V y) (hs : L.Pairwise (Srt.lo cv)) (hlt : ∀ x ∈ L, x < y) (hbd : ∀ x y, V x → V y → -9223372036854775808 ≤ cv x y ∧ cv x y ≤ 9223372036854775807) (hc : CmpOk cv V bx g w) :
    Calls Try.prog 54 #[.slice (some ⟨g, 0, none⟩) len cap, .int .i64 a, .int .i64 m, .int .i64 ((m + 1 : Nat) : Int), cmpV bx] w (MergePost cv g P L [y] Q rest w) := by
  have hbl : m + 1 + Q.length = len := by rw [← hlen]; simp; omega
  have HLEN := Lib.hid hlen
  have HA := Lib.hid ha
  have HB := Lib.hid hb
  have HC := Lib.hid hc
  have HV := Lib.hid vL
  have HS := Lib.hid hs
  have HF := Lib.hid F
  have HLT := Lib.hid hlt
  have HBD := Lib.hid hbd
  have HD := Lib.hid h
  have ab : a + 1 < m := by omega
  have e1 : ((m : Int) - (a : Int) == 1) = false := beq_false_of_ne (by omega)
  have e2 : ((m + 1 : Nat) : Int) - (m : Int) = 1 := by omega
  have cx := h.at (k := m) (x := y) (by rw [List.append_assoc, show m = (P ++ L).length by rw [List.length_append, ha]; exact hb.symm, List.getElem?_append_right (Nat.le_refl _), Nat.sub_self]; rfl)
  have gl : g < w.heap.size := Rw.lt h
  clear hlen ha hc vL hs F hlt hbd h hb hL
  go_enter Try.func54, Try.ntmps54
  go_wp2
  go_loopw [14, 15] (fun vi vj wr => ∃ (i j : Nat), vi = .int .i64 i ∧ vj = .int .i64 j ∧ a ≤ i ∧ i ≤ j ∧ j ≤ m ∧ Hid (i = a ∨ ∃ x, L[i - 1 - a]? = some x ∧ ¬ cv y x < 0) ∧ Hid (j = m ∨ ∃ x, L[j - a]? = some x ∧ cv y x < 0) ∧ Blw w wr) (fun vi vj _ => (intOf vj - intOf vi).toNat)
  case atStart => exact ⟨a, m, rfl, rfl, Nat.le_refl _, by omega, Nat.le_refl _, .inl rfl, .inl rfl, Blw.refl w⟩
  case round =>
    obtain ⟨i, j, rfl, rfl, hi, hij, hj, h1, h2, hw⟩ := hrel
    obtain ⟨z0, rfl⟩ := hw.is
    by_cases hlt : i < j
    · obtain ⟨hh, eh⟩ : ∃ hh, (i + j) / 2 = hh := ⟨_, rfl⟩
      have hh1 : i ≤ hh := by omega
      have hh2 : hh < j := by omega
      have eh' : ((i : Int) + (j : Int)) / 2 = (hh : Int) := by omega
      have EH := Lib.hid eh
      clear eh
      obtain ⟨x, hx⟩ : ∃ x, L[hh - a]? = some x := ⟨L[hh - a]'(by have := HB.out; omega), List.getElem?_eq_getElem _⟩
      have cy := HD.out.at (k := hh) (x := x) (by
        have := app_at (P := P) (Q := [y] ++ Q) HA.out hx
        rwa [← List.append_assoc, show a + (hh - a) = hh by omega] at this)
      have vx : V x := HV.out x (List.mem_of_getElem? hx)
      have hl : hh < len := by omega
      have HX := Lib.hid hx
      have hcc := HC.out.kept (KeptO.of_blw (World.blw_ext w z0))
      have HCC := Lib.hid hcc
      obtain ⟨cB1, cB2⟩ := HBD.out y x vy vx
      clear hx hcc
      by_cases c : cv y x < 0
      · have cd : (!decide (cv y x < 0)) = false := by simp; omega
        go_wp2
        refine wp_region_ext_lit (by kernel_rfl) (by kernel_rfl) ?_
        repeat (go_big_quiet_step ((go_at_call 26; exact Calls.ext_of (HCC.out _ (KeptO.of_blw (World.blw_ext _ _)) y x vy vx))))
        refine wpQuiet_nil ?_
        rintro _ ⟨z, rfl⟩
        go_wp2
        go_roundw
        case rel => exact ⟨i, rfl, hh, rfl, hi, hh1, by omega, h1, .inr ⟨x, HX.out, c⟩, (World.blw_ext w z0).ext z⟩
        case measure => simp [intOf]; omega
      · have cd : (!decide (cv y x < 0)) = true := by simp; omega
        go_wp2
        refine wp_region_ext_lit (by kernel_rfl) (by kernel_rfl) ?_
        repeat (go_big_quiet_step ((go_at_call 26; exact Calls.ext_of (HCC.out _ (KeptO.of_blw (World.blw_ext _ _)) y x vy vx))))
        refine wpQuiet_nil ?_
        rintro _ ⟨z, rfl⟩
        go_wp2
        go_roundw
        case rel => exact ⟨hh + 1, by go_num, j, rfl, by omega, by omega, hj, .inr ⟨x, by rw [show hh + 1 - 1 - a = hh - a by omega]; exact HX.out, by omega⟩, h2, (World.blw_ext w z0).ext z⟩
        case measure => simp [intOf]; omega
    · have : j = i := by omega
      subst this
      have mg : Srt.Mrg cv L [y] (L.take (j - a) ++ y :: L.drop (j - a)) := by
        refine Srt.last_end HF.out HS.out HV.out vy (by have := HB.out; omega) ?_ ?_ HLT.out
        · rcases h1.out with h | ⟨y, h, c⟩
          · left; omega
          · right; exact ⟨y, by rw [show j - a - 1 = j - 1 - a by omega]; exact h, by omega⟩
        · rcases h2.out with h | ⟨y, h, c⟩
          · left; have := HB.out; omega
          · right; exact ⟨y, h, c⟩
      have MG := Lib.hid mg
      have at0 : ∃ t : Nat, Value.int .i64 (m : Int) = .int .i64 ((a + t : Nat) : Int) ∧ j - a ≤ t ∧ t ≤ L.length ∧ Dt (w.ext z0) g (P ++ L.take t ++ y :: (L.drop t ++ Q)) rest ∧ KeptO (· = g) w (w.ext z0) :=
        ⟨L.length, by congr 1; have := HB.out; omega, by have := HB.out; omega, Nat.le_refl _, by have := HD.out.ext z0; simpa using this, KeptO.of_blw (World.blw_ext w z0)⟩
      have AT0 := Lib.hid at0
      clear mg at0
      go_wp2
      go_loopw [17] (fun vk wr => ∃ t : Nat, vk = .int .i64 ((a + t : Nat) : Int) ∧ j - a ≤ t ∧ t ≤ L.length ∧ Dt wr g (P ++ L.take t ++ y :: (L.drop t ++ Q)) rest ∧ KeptO (· = g) w wr) (fun vk _ => (intOf vk).toNat)
      case atStart => exact AT0.out
      case round =>
        obtain ⟨t, rfl, ht, ht2, hd, hw⟩ := hrel
        by_cases h0 : j - a < t
        · obtain ⟨s, rfl⟩ : ∃ s, t = s + 1 := ⟨t - 1, by omega⟩
          obtain ⟨x, q1, q2, q3⟩ := Srt.dn_at P L Q y a s HA.out (by omega)
          rw [Nat.add_assoc] at q1 q3
          have c1 := hd.at q1
          have c2 := hd.at q2
          have e5 : (a : Int) + ((s : Int) + 1) - 1 = ((a + s : Nat) : Int) := by omega
          have dl : (P ++ L.take (s + 1) ++ y :: (L.drop (s + 1) ++ Q)).length = len := by
            rw [← HLEN.out]; have := HB.out; simp; omega
          have f1 := Rw.frozen hd (a + s)
          have f2 := Rw.frozen hd (a + (s + 1))
          have Q3 := Lib.hid q3
          have DL := Lib.hid dl
          have l1 : a + s + 1 < len := by have := HB.out; omega
          clear q1 q2 q3 dl
          go_wp2
          go_region
          all_goals go_wp2
          go_roundw
          case rel => exact ⟨s, by first | (congr 1; omega) | congr 1, by omega, by omega, by rw [← Q3.out]; exact Rw.blw (Dt.set (Dt.set hd (by rw [DL.out]; omega) x) (by rw [List.length_set, DL.out]; omega) y) (Blw.refl _).drew, ((hw.setCell _ _ (.inl rfl)).setCell _ _ (.inl rfl)).drew⟩
          case measure => simp [intOf]; omega
        · have : t = j - a := by omega
          subst this
          go_wp2
          go_end0
          refine ⟨rfl, hw, _, ?_, MG.out⟩
          rw [List.append_assoc] at hd ⊢
          simpa using hd
end Go.Proofs.Ytigkfdoeneemeab
/- The library's stable sort: the merge. -/
namespace Go.Proofs.Ytigkfdoeneemeab
open Go.RowKit

namespace Srt
theorem Mrg.left (cv : Int → Int → Int) {L : List Int} (h : L.Pairwise (lo cv)) : Mrg cv L [] L := ⟨by rw [List.append_nil], h⟩
theorem Mrg.right (cv : Int → Int → Int) {R : List Int} (h : R.Pairwise (lo cv)) : Mrg cv [] R R := ⟨List.Perm.refl _, h⟩
/-- The place where two lists are parted. -/
structure Cut (cv : Int → Int → Int) (L R : List Int) (i j : Nat) : Prop where
  li : i ≤ L.length
  lj : j ≤ R.length
  h12 : ∀ x ∈ L.take i, ∀ y ∈ R.drop j, lo cv x y
  h21 : ∀ x ∈ R.take j, ∀ y ∈ L.drop i, lo cv x y
section
variable {cv : Int → Int → Int} {V : Int → Prop} (F : Fit cv V)
include F
theorem Cut.of {L R : List Int} {i j : Nat} (hL : L.Pairwise (lo cv)) (hR : R.Pairwise (lo cv)) (vL : ∀ x ∈ L, V x) (vR : ∀ x ∈ R, V x) (hlt : ∀ x ∈ L, ∀ y ∈ R, x < y) (li : i ≤ L.length) (lj : j ≤ R.length)
    (h1 : i = 0 ∨ j = R.length ∨ ∃ x y, L[i - 1]? = some x ∧ R[j]? = some y ∧ ¬ cv y x < 0) (h2 : i = L.length ∨ j = 0 ∨ ∃ x y, L[i]? = some x ∧ R[j - 1]? = some y ∧ cv y x < 0) : Cut cv L R i j := by
  refine ⟨li, lj, ?_, ?_⟩
  · refine below_all F (hL.sublist (List.take_sublist _ _)) (hR.sublist (List.drop_sublist _ _)) (fun x hx => vL x (List.mem_of_mem_take hx)) (fun x hx => vR x (List.mem_of_mem_drop hx)) ?_
    rcases h1 with h | h | ⟨x, y, hx, hy, c⟩
    · left; rw [h]; rfl
    · right; left; rw [h, List.drop_length]
    · by_cases i0 : i = 0
      · left; rw [i0]; rfl
      · exact .inr (.inr ⟨x, y, take_last (by omega) hx, by rw [List.getElem?_drop]; exact hy, lo_of_not F (vR y (List.mem_of_getElem? hy)) (vL x (List.mem_of_getElem? hx)) c (hlt x (List.mem_of_getElem? hx) y (List.mem_of_getElem? hy))⟩)
  · refine below_all F (hR.sublist (List.take_sublist _ _)) (hL.sublist (List.drop_sublist _ _)) (fun x hx => vR x (List.mem_of_mem_take hx)) (fun x hx => vL x (List.mem_of_mem_drop hx)) ?_
    rcases h2 with h | h | ⟨x, y, hx, hy, c⟩
    · right; left; rw [h, List.drop_length]
    · left; rw [h]; rfl
    · by_cases j0 : j = 0
      · left; rw [j0]; rfl
      · exact .inr (.inr ⟨y, x, take_last (by omega) hy, by rw [List.getElem?_drop]; exact hx, .inl c⟩)
end
theorem Cut.join {cv : Int → Int → Int} {L R : List Int} {i j : Nat} (c : Cut cv L R i j) (hL : L.Pairwise (lo cv)) (hR : R.Pairwise (lo cv)) {M1 M2 : List Int} (m1 : Mrg cv (L.take i) (R.take j) M1) (m2 : Mrg cv (L.drop i) (R.drop j) M2) : Mrg cv L R (M1 ++ M2) := by
  have hL' := hL
  have hR' := hR
  rw [← List.take_append_drop i L, List.pairwise_append] at hL'
  rw [← List.take_append_drop j R, List.pairwise_append] at hR'
  have := Mrg.join m1 m2 hL'.2.2 c.h12 c.h21 hR'.2.2
  rwa [List.take_append_drop, List.take_append_drop] at this
end Srt

/-- What is asked of the two lists. -/
structure MIn (cv : Int → Int → Int) (V : Int → Prop) (L R : List Int) : Prop where
  vL : ∀ x ∈ L, V x
  vR : ∀ x ∈ R, V x
  sL : L.Pairwise (Srt.lo cv)
  sR : R.Pairwise (Srt.lo cv)
  lt : ∀ x ∈ L, ∀ y ∈ R, x < y
theorem MIn.take {cv : Int → Int → Int} {V : Int → Prop} {L R : List Int} (h : MIn cv V L R) (i j : Nat) : MIn cv V (L.take i) (R.take j) :=
  ⟨fun x hx => h.vL x (List.mem_of_mem_take hx), fun x hx => h.vR x (List.mem_of_mem_take hx), h.sL.sublist (List.take_sublist _ _), h.sR.sublist (List.take_sublist _ _), fun x hx y hy => h.lt x (List.mem_of_mem_take hx) y (List.mem_of_mem_take hy)⟩
theorem MIn.drop {cv : Int → Int → Int} {V : Int → Prop} {L R : List Int} (h : MIn cv V L R) (i j : Nat) : MIn cv V (L.drop i) (R.drop j) :=
  ⟨fun x hx => h.vL x (List.mem_of_mem_drop hx), fun x hx => h.vR x (List.mem_of_mem_drop hx), h.sL.sublist (List.drop_sublist _ _), h.sR.sublist (List.drop_sublist _ _), fun x hx y hy => h.lt x (List.mem_of_mem_drop hx) y (List.mem_of_mem_drop hy)⟩

/-- The contract of the merge, for lists of at most N elements together. -/
def MergeUpto (N : Nat) : Prop :=
  ∀ (cv : Int → Int → Int) (V : Int → Prop) (_ : Srt.Fit cv V) (bx g : Nat) (P L R Q : List Int) (rest : List Value) (a m b len cap : Nat) (w : World) (_ : L.length + R.length ≤ N) (_ : Dt w g (P ++ L ++ R ++ Q) rest) (_ : P.length = a) (_ : a + L.length = m) (_ : m + R.length = b) (_ : (P ++ L ++ R ++ Q).length = len) (_ : len ≤ 1000000) (_ : 0 < L.length) (_ : 0 < R.length)
    (_ : MIn cv V L R) (_ : ∀ x y, V x → V y → -9223372036854775808 ≤ cv x y ∧ cv x y ≤ 9223372036854775807) (_ : CmpOk cv V bx g w),
    Calls Try.prog 54 #[.slice (some ⟨g, 0, none⟩) len cap, .int .i64 a, .int .i64 m, .int .i64 b, cmpV bx] w (MergePost cv g P L R Q rest w)

/-- The lists, parted: what the rotation and the two lesser merges take up. -/
structure MC (N : Nat) (cv : Int → Int → Int) (V : Int → Prop) (bx g : Nat) (P L R Q L1 L2 R1 R2 : List Int) (rest : List Value) (a m b mid t en len : Nat) (w : World) : Prop where
  ih : MergeUpto N
  fit : Srt.Fit cv V
  bd : ∀ x y, V x → V y → -9223372036854775808 ≤ cv x y ∧ cv x y ≤ 9223372036854775807
  cmp : CmpOk cv V bx g w
  eL : L = L1 ++ L2
  eR : R = R1 ++ R2
  la : P.length = a
  l1 : a + L1.length = t
  l2 : t + L2.length = m
  l3 : m + R1.length = en
  l4 : en + R2.length = b
  l5 : t + R1.length = mid
  l6 : mid + L2.length = en
  ln : (P ++ L ++ R ++ Q).length = len
  lm : len ≤ 1000000
  n1 : L1.length + R1.length ≤ N
  n2 : L2.length + R2.length ≤ N
  i1 : MIn cv V L1 R1
  i2 : MIn cv V L2 R2
  join : ∀ M1 M2, Srt.Mrg cv L1 R1 M1 → Srt.Mrg cv L2 R2 M2 → Srt.Mrg cv L R (M1 ++ M2)
section
variable {N : Nat} {cv : Int → Int → Int} {V : Int → Prop} {bx g : Nat} {P L R Q L1 L2 R1 R2 : List Int} {rest : List Value} {a m b mid t en len : Nat} {w : World}
def S1 (g : Nat) (P L1 R1 L2 R2 Q : List Int) (rest : List Value) (w wr : World) : Prop := KeptO (· = g) w wr ∧ Dt wr g (P ++ L1 ++ R1 ++ L2 ++ R2 ++ Q) rest
def S2 (cv : Int → Int → Int) (g : Nat) (P L1 R1 L2 R2 Q : List Int) (rest : List Value) (w wr : World) : Prop := KeptO (· = g) w wr ∧ ∃ M1, Srt.Mrg cv L1 R1 M1 ∧ Dt wr g (P ++ M1 ++ L2 ++ R2 ++ Q) rest
def S3 (cv : Int → Int → Int) (g : Nat) (P L1 R1 L2 R2 Q : List Int) (rest : List Value) (w wr : World) : Prop := KeptO (· = g) w wr ∧ ∃ M1 M2, Srt.Mrg cv L1 R1 M1 ∧ Srt.Mrg cv L2 R2 M2 ∧ Dt wr g (P ++ M1 ++ M2 ++ Q) rest
theorem MC.rot (c : MC N cv V bx g P L R Q L1 L2 R1 R2 rest a m b mid t en len w) (cap : Nat) (wr : World) (k : KeptO (· = g) w wr) (h : Dt wr g (P ++ L ++ R ++ Q) rest) (hq : t < m ∧ m < en) :
    Calls Try.prog 68 #[.slice (some ⟨g, 0, none⟩) len cap, .int .i64 t, .int .i64 m, .int .i64 en, cmpV bx] wr fun e w' => e = .returned (.tuple #[]) ∧ S1 g P L1 R1 L2 R2 Q rest w w' := by
  have e : P ++ L ++ R ++ Q = P ++ L1 ++ L2 ++ R1 ++ (R2 ++ Q) := by rw [c.eL, c.eR]; simp only [List.append_assoc]
  have l1 := c.l1; have l2 := c.l2; have l3 := c.l3; have ln := c.ln
  rw [e] at h ln
  refine Calls.mono (rotate_any g (P ++ L1) L2 R1 (R2 ++ Q) rest t m en len cap (cmpV bx) wr h (by rw [List.length_append, c.la]; exact l1) (by omega) (by omega) l2 l3 ln c.lm) ?_
  rintro e w' ⟨rfl, d, k'⟩
  exact ⟨rfl, k.trans k', by simpa only [List.append_assoc] using d⟩
theorem MC.nor (c : MC N cv V bx g P L R Q L1 L2 R1 R2 rest a m b mid t en len w) (wr : World) (k : KeptO (· = g) w wr) (h : Dt wr g (P ++ L ++ R ++ Q) rest) (hq : ¬ t < m ∨ ¬ m < en) : S1 g P L1 R1 L2 R2 Q rest w wr := by
  have e : P ++ L ++ R ++ Q = P ++ L1 ++ R1 ++ L2 ++ R2 ++ Q := by
    have l2 := c.l2; have l3 := c.l3
    rw [c.eL, c.eR]
    rcases hq with q | q
    · have : L2 = [] := List.eq_nil_of_length_eq_zero (by omega)
      rw [this]; simp
    · have : R1 = [] := List.eq_nil_of_length_eq_zero (by omega)
      rw [this]; simp
  rw [e] at h
  exact ⟨k, h⟩
theorem MC.lft (c : MC N cv V bx g P L R Q L1 L2 R1 R2 rest a m b mid t en len w) (cap : Nat) (wr : World) (s : S1 g P L1 R1 L2 R2 Q rest w wr) (hq : a < t ∧ t < mid) :
    Calls Try.prog 54 #[.slice (some ⟨g, 0, none⟩) len cap, .int .i64 a, .int .i64 t, .int .i64 mid, cmpV bx] wr fun e w' => e = .returned (.tuple #[]) ∧ S2 cv g P L1 R1 L2 R2 Q rest w w' := by
  have l1 := c.l1; have l5 := c.l5; have ln := c.ln
  rw [c.eL, c.eR] at ln
  have ln' : (P ++ L1 ++ R1 ++ (L2 ++ R2 ++ Q)).length = len := by rw [← ln]; simp; omega
  refine Calls.mono (c.ih cv V c.fit bx g P L1 R1 (L2 ++ R2 ++ Q) rest a t mid len cap wr c.n1 (by simpa only [List.append_assoc] using s.2) c.la l1 l5 ln' c.lm (by omega) (by omega) c.i1 c.bd (c.cmp.kept s.1)) ?_
  rintro e w' ⟨rfl, k', M, d, mg⟩
  exact ⟨rfl, s.1.trans k', M, mg, by simpa only [List.append_assoc] using d⟩
theorem MC.nol (c : MC N cv V bx g P L R Q L1 L2 R1 R2 rest a m b mid t en len w) (wr : World) (s : S1 g P L1 R1 L2 R2 Q rest w wr) (hq : ¬ a < t ∨ ¬ t < mid) : S2 cv g P L1 R1 L2 R2 Q rest w wr := by
  have l1 := c.l1; have l5 := c.l5
  refine ⟨s.1, L1 ++ R1, ?_, by simpa only [List.append_assoc] using s.2⟩
  rcases hq with q | q
  · have : L1 = [] := List.eq_nil_of_length_eq_zero (by omega)
    rw [this]; exact Srt.Mrg.right cv c.i1.sR
  · have : R1 = [] := List.eq_nil_of_length_eq_zero (by omega)
    rw [this, List.append_nil]; exact Srt.Mrg.left cv c.i1.sL
theorem MC.rgt (c : MC N cv V bx g P L R Q L1 L2 R1 R2 rest a m b mid t en len w) (cap : Nat) (wr : World) (s : S2 cv g P L1 R1 L2 R2 Q rest w wr) (hq : mid < en ∧ en < b) :
    Calls Try.prog 54 #[.slice (some ⟨g, 0, none⟩) len cap, .int .i64 mid, .int .i64 en, .int .i64 b, cmpV bx] wr fun e w' => e = .returned (.tuple #[]) ∧ S3 cv g P L1 R1 L2 R2 Q rest w w' := by
  obtain ⟨k, M1, mg, d⟩ := s
  have l1 := c.l1; have l4 := c.l4; have l5 := c.l5; have l6 := c.l6; have ln := c.ln
  have pl := mg.perm.length_eq
  rw [List.length_append] at pl
  rw [c.eL, c.eR] at ln
  have ln' : (P ++ M1 ++ L2 ++ R2 ++ Q).length = len := by rw [← ln]; simp; omega
  refine Calls.mono (c.ih cv V c.fit bx g (P ++ M1) L2 R2 Q rest mid en b len cap wr c.n2 d (by rw [List.length_append, c.la]; omega) l6 l4 ln' c.lm (by omega) (by omega) c.i2 c.bd (c.cmp.kept k)) ?_
  rintro e w' ⟨rfl, k', M2, d2, mg2⟩
  exact ⟨rfl, k.trans k', M1, M2, mg, mg2, d2⟩
theorem MC.noe (c : MC N cv V bx g P L R Q L1 L2 R1 R2 rest a m b mid t en len w) (wr : World) (s : S2 cv g P L1 R1 L2 R2 Q rest w wr) (hq : ¬ mid < en ∨ ¬ en < b) : S3 cv g P L1 R1 L2 R2 Q rest w wr := by
  obtain ⟨k, M1, mg, d⟩ := s
  have l4 := c.l4; have l6 := c.l6
  refine ⟨k, M1, L2 ++ R2, mg, ?_, by simpa only [List.append_assoc] using d⟩
  rcases hq with q | q
  · have : L2 = [] := List.eq_nil_of_length_eq_zero (by omega)
    rw [this]; exact Srt.Mrg.right cv c.i2.sR
  · have : R2 = [] := List.eq_nil_of_length_eq_zero (by omega)
    rw [this, List.append_nil]; exact Srt.Mrg.left cv c.i2.sL
theorem MC.fin (c : MC N cv V bx g P L R Q L1 L2 R1 R2 rest a m b mid t en len w) (wr : World) (s : S3 cv g P L1 R1 L2 R2 Q rest w wr) : MergePost cv g P L R Q rest w (.returned (.tuple #[])) wr := by
  obtain ⟨k, M1, M2, mg, mg2, d⟩ := s
  exact ⟨rfl, k, M1 ++ M2, by simpa only [List.append_assoc] using d, c.join M1 M2 mg mg2⟩
end
def CaseA (mid m b s0 : Nat) : Prop := mid < m ∧ b ≤ mid + m ∧ mid + m - b = s0
def CaseB (mid m _b _s0 : Nat) : Prop := m ≤ mid
theorem CaseA.int {mid m b s0 : Nat} (h : CaseA mid m b s0) : (mid : Int) + (m : Int) - (b : Int) = (s0 : Int) := by obtain ⟨h1, h2, h3⟩ := h; omega
theorem CaseB.int {mid m b s0 : Nat} (h : CaseB mid m b s0) : (mid : Int) < (m : Int) ↔ False := by unfold CaseB at h; exact ⟨fun q => by omega, fun q => q.elim⟩
set_option maxRecDepth 100000 in
set_option maxHeartbeats 8000000 in
theorem symMerge_hi (N : Nat) (IH : MergeUpto N) (cv : Int → Int → Int) (V : Int → Prop) (F : Srt.Fit cv V) (bx g : Nat) (P L R Q : List Int) (rest : List Value) (a m b mid s0 len cap : Nat) (w : World) (hN : L.length + R.length ≤ N + 1) (h : Dt w g (P ++ L ++ R ++ Q) rest) (ha : P.length = a) (hm : a + L.length = m) (hb : m + R.length = b) (hlen : (P ++ L ++ R ++ Q).length = len) (hlm : len ≤ 1000000) (hL : 1 < L.length) (hR : 1 < R.length)
    (hin : MIn cv V L R) (hbd : ∀ x y, V x → V y → -9223372036854775808 ≤ cv x y ∧ cv x y ≤ 9223372036854775807) (hc : CmpOk cv V bx g w) (hmid : (a + b) / 2 = mid) (hcase : CaseA mid m b s0) :
    Calls Try.prog 54 #[.slice (some ⟨g, 0, none⟩) len cap, .int .i64 a, .int .i64 m, .int .i64 b, cmpV bx] w (MergePost cv g P L R Q rest w) := by
  have hbl : b + Q.length = len := by rw [← hlen]; simp; omega
  have am : a + 1 < m := by omega
  have mb : m + 1 < b := by omega
  have hmid1 : a < mid := by omega
  have hmid2 : mid < b := by omega
  have e4 := hcase.int
  unfold CaseA at hcase
  have s0a : a ≤ s0 := by omega
  have r0m : mid ≤ m := by omega
  have s0r0 : s0 ≤ mid := by omega
  have sb : ∀ c, s0 ≤ c → c < mid → m ≤ mid + m - 1 - c ∧ mid + m - 1 - c < b := fun c h1 h2 => by omega
  have cutS : s0 = a ∨ mid + m - s0 = b := by omega
  have cutR : mid = m ∨ mid + m - mid = m := by omega
  have bnd : ∀ s, s0 ≤ s → s ≤ mid → a ≤ s ∧ s ≤ m ∧ m ≤ mid + m - s ∧ mid + m - s ≤ b := fun s h1 h2 => by omega
  have e1 : ((m : Int) - (a : Int) == 1) = false := beq_false_of_ne (by omega)
  have e2 : ((b : Int) - (m : Int) == 1) = false := beq_false_of_ne (by omega)
  have e3 : ((a : Int) + (b : Int)) / 2 = (mid : Int) := by omega
  have gl : g < w.heap.size := Rw.lt h
  have HLEN := Lib.hid hlen
  have HA := Lib.hid ha
  have HM := Lib.hid hm
  have HB := Lib.hid hb
  have HN := Lib.hid hN
  have HC := Lib.hid hc
  have HIN := Lib.hid hin
  have HF := Lib.hid F
  have HBD := Lib.hid hbd
  have HD := Lib.hid h
  have HIH := Lib.hid IH
  have SB := Lib.hid sb
  have BND := Lib.hid bnd
  have CS := Lib.hid cutS
  have CR := Lib.hid cutR
  have HMID := Lib.hid hmid
  have at0 : ∃ (s t : Nat), Value.int .i64 (s0 : Int) = .int .i64 s ∧ Value.int .i64 (mid : Int) = .int .i64 t ∧ s0 ≤ s ∧ s ≤ t ∧ t ≤ mid ∧ Hid (s = s0 ∨ ∃ x y, L[s - 1 - a]? = some x ∧ R[mid + m - s - m]? = some y ∧ 0 ≤ cv y x) ∧ Hid (t = mid ∨ ∃ x y, L[t - a]? = some x ∧ R[mid + m - t - 1 - m]? = some y ∧ cv y x < 0) ∧ Blw w w :=
    ⟨s0, mid, rfl, rfl, Nat.le_refl _, s0r0, Nat.le_refl _, .inl rfl, .inl rfl, Blw.refl w⟩
  have AT0 := Lib.hid at0
  clear hlen ha hm hN hc hin F hbd h hb hL hR IH sb bnd cutS cutR at0 hmid
  go_enter Try.func54, Try.ntmps54
  go_wp2
  go_loopw [20, 21] (fun vi vj wr => ∃ (s t : Nat), vi = .int .i64 s ∧ vj = .int .i64 t ∧ s0 ≤ s ∧ s ≤ t ∧ t ≤ mid ∧ Hid (s = s0 ∨ ∃ x y, L[s - 1 - a]? = some x ∧ R[mid + m - s - m]? = some y ∧ 0 ≤ cv y x) ∧ Hid (t = mid ∨ ∃ x y, L[t - a]? = some x ∧ R[mid + m - t - 1 - m]? = some y ∧ cv y x < 0) ∧ Blw w wr) (fun vi vj _ => (intOf vj - intOf vi).toNat)
  case atStart => exact AT0.out
  case round =>
    obtain ⟨s, t, rfl, rfl, hs, hst, ht, h1, h2, hw⟩ := hrel
    obtain ⟨z0, rfl⟩ := hw.is
    by_cases hlt : s < t
    · obtain ⟨hh, eh⟩ : ∃ hh, (s + t) / 2 = hh := ⟨_, rfl⟩
      have hh1 : s ≤ hh := by omega
      have hh2 : hh < t := by omega
      have eh' : ((s : Int) + (t : Int)) / 2 = (hh : Int) := by omega
      have EH := Lib.hid eh
      clear eh
      obtain ⟨g1, g2, -, -⟩ := BND.out hh (by omega) (by omega)
      obtain ⟨g3, g4⟩ := SB.out hh (by omega) (by omega)
      obtain ⟨k, ek⟩ : ∃ k, mid + m - 1 - hh = k := ⟨_, rfl⟩
      rw [ek] at g3 g4
      have ek' : (mid : Int) + (m : Int) - 1 - (hh : Int) = (k : Int) := by omega
      have EK := Lib.hid ek
      clear ek
      obtain ⟨x, hx⟩ : ∃ x, L[hh - a]? = some x := ⟨L[hh - a]'(by have := HM.out; omega), List.getElem?_eq_getElem _⟩
      obtain ⟨y, hy⟩ : ∃ y, R[k - m]? = some y := ⟨R[k - m]'(by have := HB.out; omega), List.getElem?_eq_getElem _⟩
      have cx := HD.out.at (k := hh) (x := x) (by
        have := app_at (P := P) (Q := R ++ Q) HA.out hx
        rwa [← List.append_assoc, show a + (hh - a) = hh by omega] at this)
      have cy := HD.out.at (k := k) (x := y) (by
        have := app_at (P := P ++ L) (Q := Q) (a := m) (by rw [List.length_append, HA.out]; exact HM.out) hy
        rwa [show m + (k - m) = k by omega] at this)
      have vx : V x := HIN.out.vL x (List.mem_of_getElem? hx)
      have vy : V y := HIN.out.vR y (List.mem_of_getElem? hy)
      have hl : hh < len := by omega
      have kl : k < len := by omega
      have HX := Lib.hid hx
      have HY := Lib.hid hy
      have hcc := HC.out.kept (KeptO.of_blw (World.blw_ext w z0))
      have HCC := Lib.hid hcc
      obtain ⟨cB1, cB2⟩ := HBD.out y x vy vx
      clear hx hy hcc
      by_cases c : cv y x < 0
      · have cd : (!decide (cv y x < 0)) = false := by simp; omega
        go_wp2
        refine wp_region_ext_lit (by kernel_rfl) (by kernel_rfl) ?_
        repeat (go_big_quiet_step ((go_at_call 26; exact Calls.ext_of (HCC.out _ (KeptO.of_blw (World.blw_ext _ _)) y x vy vx))))
        refine wpQuiet_nil ?_
        rintro _ ⟨z, rfl⟩
        go_wp2
        go_roundw
        case rel => exact ⟨s, hh, rfl, rfl, hs, hh1, by omega, h1, .inr ⟨x, y, HX.out, by rw [show mid + m - hh - 1 - m = k - m by have := EK.out; omega]; exact HY.out, c⟩, (World.blw_ext w z0).ext z⟩
        case measure => simp [intOf]; omega
      · have cd : (!decide (cv y x < 0)) = true := by simp; omega
        go_wp2
        refine wp_region_ext_lit (by kernel_rfl) (by kernel_rfl) ?_
        repeat (go_big_quiet_step ((go_at_call 26; exact Calls.ext_of (HCC.out _ (KeptO.of_blw (World.blw_ext _ _)) y x vy vx))))
        refine wpQuiet_nil ?_
        rintro _ ⟨z, rfl⟩
        go_wp2
        go_roundw
        case rel => exact ⟨hh + 1, t, by go_num, rfl, by omega, by omega, ht, .inr ⟨x, y, by rw [show hh + 1 - 1 - a = hh - a by omega]; exact HX.out, by rw [show mid + m - (hh + 1) - m = k - m by have := EK.out; omega]; exact HY.out, by omega⟩, h2, (World.blw_ext w z0).ext z⟩
        case measure => simp [intOf]; omega
    · have : t = s := by omega
      subst this
      obtain ⟨g1, g2, g3, g4⟩ := BND.out t hs ht
      obtain ⟨en, ee⟩ : ∃ en, mid + m - t = en := ⟨_, rfl⟩
      rw [ee] at g3 g4
      have ee' : (mid : Int) + (m : Int) - (t : Int) = (en : Int) := by omega
      have cut : Srt.Cut cv L R (t - a) (en - m) := by
        refine Srt.Cut.of HF.out HIN.out.sL HIN.out.sR HIN.out.vL HIN.out.vR HIN.out.lt (by have := HM.out; omega) (by have := HB.out; omega) ?_ ?_
        · rcases h1.out with h | ⟨x, y, h, k, c⟩
          · rcases CS.out with q | q
            · left; omega
            · right; left; have := HB.out; omega
          · right; right; exact ⟨x, y, by rw [show t - a - 1 = t - 1 - a by omega]; exact h, by rw [← ee]; exact k, by omega⟩
        · rcases h2.out with h | ⟨x, y, h, k, c⟩
          · rcases CR.out with q | q
            · left; have := HM.out; omega
            · right; left; omega
          · right; right; exact ⟨x, y, h, by rw [show en - m - 1 = mid + m - t - 1 - m by omega]; exact k, c⟩
      have tl1 : (L.take (t - a)).length = t - a := by rw [List.length_take]; have := HM.out; omega
      have tl2 : (R.take (en - m)).length = en - m := by rw [List.length_take]; have := HB.out; omega
      have mc : MC N cv V bx g P L R Q (L.take (t - a)) (L.drop (t - a)) (R.take (en - m)) (R.drop (en - m)) rest a m b mid t en len w :=
        { ih := HIH.out, fit := HF.out, bd := HBD.out, cmp := HC.out, eL := (List.take_append_drop _ _).symm, eR := (List.take_append_drop _ _).symm, la := HA.out
          l1 := by omega
          l2 := by rw [List.length_drop]; have := HM.out; omega
          l3 := by omega
          l4 := by rw [List.length_drop]; have := HB.out; omega
          l5 := by omega
          l6 := by rw [List.length_drop]; have := HM.out; omega
          ln := HLEN.out, lm := hlm
          n1 := by have := HN.out; have := HM.out; have := HB.out; omega
          n2 := by rw [List.length_drop, List.length_drop]; have := HN.out; have := HM.out; have := HB.out; omega
          i1 := HIN.out.take _ _, i2 := HIN.out.drop _ _
          join := fun M1 M2 m1 m2 => cut.join HIN.out.sL HIN.out.sR m1 m2 }
      have ROT := Lib.hid (mc.rot cap (w.ext z0) (KeptO.of_blw (World.blw_ext w z0)) (HD.out.ext z0))
      have NOR := Lib.hid (mc.nor (w.ext z0) (KeptO.of_blw (World.blw_ext w z0)) (HD.out.ext z0))
      have LFT := Lib.hid (mc.lft cap)
      have NOL := Lib.hid mc.nol
      have RGT := Lib.hid (mc.rgt cap)
      have NOE := Lib.hid mc.noe
      have FIN := Lib.hid mc.fin
      have r1 : t ≤ m := g2
      have l5' := mc.l5
      have l6' := mc.l6
      have l1' := mc.l1
      have l2' := mc.l2
      have l3' := mc.l3
      have l4' := mc.l4
      clear mc cut tl1 tl2 ee
      generalize (L.take (t - a)).length = n1 at l5' l6' l1' l2' l3' l4'
      generalize (L.drop (t - a)).length = n2 at l5' l6' l1' l2' l3' l4'
      generalize (R.take (en - m)).length = n3 at l5' l6' l1' l2' l3' l4'
      generalize (R.drop (en - m)).length = n4 at l5' l6' l1' l2' l3' l4'
-- THE END OF THE WALK (printed by gen_srtg.py)
      rcases (by omega : (t < m ∧ m < en) ∨ (¬ t < m) ∨ (t < m ∧ ¬ m < en)) with c0 | c0 | c0
      · first | (exfalso; omega) | skip
        all_goals
          have d0a := c0.1
          have d0b := c0.2
          go_wp2_with fail
          refine Calls.mono (ROT.out c0) ?_
          rintro e w0 ⟨rfl, t0⟩
          rcases (by omega : (a < t ∧ t < mid) ∨ (¬ a < t) ∨ (a < t ∧ ¬ t < mid)) with c1 | c1 | c1
          · first | (exfalso; omega) | skip
            all_goals
              have d1a := c1.1
              have d1b := c1.2
              go_wp2_with fail
              refine Calls.mono (LFT.out _ t0 c1) ?_
              rintro e w1 ⟨rfl, t1⟩
              rcases (by omega : (mid < en ∧ en < b) ∨ (¬ mid < en) ∨ (mid < en ∧ ¬ en < b)) with c2 | c2 | c2
              · first | (exfalso; omega) | skip
                all_goals
                  have d2a := c2.1
                  have d2b := c2.2
                  go_wp2_with fail
                  refine Calls.mono (RGT.out _ t1 c2) ?_
                  rintro e w2 ⟨rfl, t2⟩
                  all_goals go_wp2
                  go_end0
                  exact FIN.out _ t2
              · first | (exfalso; omega) | skip
                all_goals
                  have t2 := NOE.out _ t1 (by omega)
                  all_goals go_wp2
                  go_end0
                  exact FIN.out _ t2
              · first | (exfalso; omega) | skip
                all_goals
                  have d2a := c2.1
                  have d2b := c2.2
                  have t2 := NOE.out _ t1 (by omega)
                  all_goals go_wp2
                  go_end0
                  exact FIN.out _ t2
          · first | (exfalso; omega) | skip
            all_goals
              have t1 := NOL.out _ t0 (by omega)
              rcases (by omega : (mid < en ∧ en < b) ∨ (¬ mid < en) ∨ (mid < en ∧ ¬ en < b)) with c2 | c2 | c2
              · first | (exfalso; omega) | skip
                all_goals
                  have d2a := c2.1
                  have d2b := c2.2
                  go_wp2_with fail
                  refine Calls.mono (RGT.out _ t1 c2) ?_
                  rintro e w2 ⟨rfl, t2⟩
                  all_goals go_wp2
                  go_end0
                  exact FIN.out _ t2
              · first | (exfalso; omega) | skip
                all_goals
                  have t2 := NOE.out _ t1 (by omega)
                  all_goals go_wp2
                  go_end0
                  exact FIN.out _ t2
              · first | (exfalso; omega) | skip
                all_goals
                  have d2a := c2.1
                  have d2b := c2.2
                  have t2 := NOE.out _ t1 (by omega)
                  all_goals go_wp2
                  go_end0
                  exact FIN.out _ t2
          · first | (exfalso; omega) | skip
            all_goals
              have d1a := c1.1
              have d1b := c1.2
              have t1 := NOL.out _ t0 (by omega)
              rcases (by omega : (mid < en ∧ en < b) ∨ (¬ mid < en) ∨ (mid < en ∧ ¬ en < b)) with c2 | c2 | c2
              · first | (exfalso; omega) | skip
                all_goals
                  have d2a := c2.1
                  have d2b := c2.2
                  go_wp2_with fail
                  refine Calls.mono (RGT.out _ t1 c2) ?_
                  rintro e w2 ⟨rfl, t2⟩
                  all_goals go_wp2
                  go_end0
                  exact FIN.out _ t2
              · first | (exfalso; omega) | skip
                all_goals
                  have t2 := NOE.out _ t1 (by omega)
                  all_goals go_wp2
                  go_end0
                  exact FIN.out _ t2
              · first | (exfalso; omega) | skip
                all_goals
                  have d2a := c2.1
                  have d2b := c2.2
                  have t2 := NOE.out _ t1 (by omega)
                  all_goals go_wp2
                  go_end0
                  exact FIN.out _ t2
      · first | (exfalso; omega) | skip
        all_goals
          have t0 := NOR.out (by omega)
          rcases (by omega : (a < t ∧ t < mid) ∨ (¬ a < t) ∨ (a < t ∧ ¬ t < mid)) with c1 | c1 | c1
          · first | (exfalso; omega) | skip
            all_goals
              have d1a := c1.1
              have d1b := c1.2
              go_wp2_with fail
              refine Calls.mono (LFT.out _ t0 c1) ?_
              rintro e w1 ⟨rfl, t1⟩
              rcases (by omega : (mid < en ∧ en < b) ∨ (¬ mid < en) ∨ (mid < en ∧ ¬ en < b)) with c2 | c2 | c2
              · first | (exfalso; omega) | skip
                all_goals
                  have d2a := c2.1
                  have d2b := c2.2
                  go_wp2_with fail
                  refine Calls.mono (RGT.out _ t1 c2) ?_
                  rintro e w2 ⟨rfl, t2⟩
                  all_goals go_wp2
                  go_end0
                  exact FIN.out _ t2
              · first | (exfalso; omega) | skip
                all_goals
                  have t2 := NOE.out _ t1 (by omega)
                  all_goals go_wp2
                  go_end0
                  exact FIN.out _ t2
              · first | (exfalso; omega) | skip
                all_goals
                  have d2a := c2.1
                  have d2b := c2.2
                  have t2 := NOE.out _ t1 (by omega)
                  all_goals go_wp2
                  go_end0
                  exact FIN.out _ t2
          · first | (exfalso; omega) | skip
            all_goals
              have t1 := NOL.out _ t0 (by omega)
              rcases (by omega : (mid < en ∧ en < b) ∨ (¬ mid < en) ∨ (mid < en ∧ ¬ en < b)) with c2 | c2 | c2
              · first | (exfalso; omega) | skip
                all_goals
                  have d2a := c2.1
                  have d2b := c2.2
                  go_wp2_with fail
                  refine Calls.mono (RGT.out _ t1 c2) ?_
                  rintro e w2 ⟨rfl, t2⟩
                  all_goals go_wp2
                  go_end0
                  exact FIN.out _ t2
              · first | (exfalso; omega) | skip
                all_goals
                  have t2 := NOE.out _ t1 (by omega)
                  all_goals go_wp2
                  go_end0
                  exact FIN.out _ t2
              · first | (exfalso; omega) | skip
                all_goals
                  have d2a := c2.1
                  have d2b := c2.2
                  have t2 := NOE.out _ t1 (by omega)
                  all_goals go_wp2
                  go_end0
                  exact FIN.out _ t2
          · first | (exfalso; omega) | skip
            all_goals
              have d1a := c1.1
              have d1b := c1.2
              have t1 := NOL.out _ t0 (by omega)
              rcases (by omega : (mid < en ∧ en < b) ∨ (¬ mid < en) ∨ (mid < en ∧ ¬ en < b)) with c2 | c2 | c2
              · first | (exfalso; omega) | skip
                all_goals
                  have d2a := c2.1
                  have d2b := c2.2
                  go_wp2_with fail
                  refine Calls.mono (RGT.out _ t1 c2) ?_
                  rintro e w2 ⟨rfl, t2⟩
                  all_goals go_wp2
                  go_end0
                  exact FIN.out _ t2
              · first | (exfalso; omega) | skip
                all_goals
                  have t2 := NOE.out _ t1 (by omega)
                  all_goals go_wp2
                  go_end0
                  exact FIN.out _ t2
              · first | (exfalso; omega) | skip
                all_goals
                  have d2a := c2.1
                  have d2b := c2.2
                  have t2 := NOE.out _ t1 (by omega)
                  all_goals go_wp2
                  go_end0
                  exact FIN.out _ t2
      · first | (exfalso; omega) | skip
        all_goals
          have d0a := c0.1
          have d0b := c0.2
          have t0 := NOR.out (by omega)
          rcases (by omega : (a < t ∧ t < mid) ∨ (¬ a < t) ∨ (a < t ∧ ¬ t < mid)) with c1 | c1 | c1
          · first | (exfalso; omega) | skip
            all_goals
              have d1a := c1.1
              have d1b := c1.2
              go_wp2_with fail
              refine Calls.mono (LFT.out _ t0 c1) ?_
              rintro e w1 ⟨rfl, t1⟩
              rcases (by omega : (mid < en ∧ en < b) ∨ (¬ mid < en) ∨ (mid < en ∧ ¬ en < b)) with c2 | c2 | c2
              · first | (exfalso; omega) | skip
                all_goals
                  have d2a := c2.1
                  have d2b := c2.2
                  go_wp2_with fail
                  refine Calls.mono (RGT.out _ t1 c2) ?_
                  rintro e w2 ⟨rfl, t2⟩
                  all_goals go_wp2
                  go_end0
                  exact FIN.out _ t2
              · first | (exfalso; omega) | skip
                all_goals
                  have t2 := NOE.out _ t1 (by omega)
                  all_goals go_wp2
                  go_end0
                  exact FIN.out _ t2
              · first | (exfalso; omega) | skip
                all_goals
                  have d2a := c2.1
                  have d2b := c2.2
                  have t2 := NOE.out _ t1 (by omega)
                  all_goals go_wp2
                  go_end0
                  exact FIN.out _ t2
          · first | (exfalso; omega) | skip
            all_goals
              have t1 := NOL.out _ t0 (by omega)
              rcases (by omega : (mid < en ∧ en < b) ∨ (¬ mid < en) ∨ (mid < en ∧ ¬ en < b)) with c2 | c2 | c2
              · first | (exfalso; omega) | skip
                all_goals
                  have d2a := c2.1
                  have d2b := c2.2
                  go_wp2_with fail
                  refine Calls.mono (RGT.out _ t1 c2) ?_
                  rintro e w2 ⟨rfl, t2⟩
                  all_goals go_wp2
                  go_end0
                  exact FIN.out _ t2
              · first | (exfalso; omega) | skip
                all_goals
                  have t2 := NOE.out _ t1 (by omega)
                  all_goals go_wp2
                  go_end0
                  exact FIN.out _ t2
              · first | (exfalso; omega) | skip
                all_goals
                  have d2a := c2.1
                  have d2b := c2.2
                  have t2 := NOE.out _ t1 (by omega)
                  all_goals go_wp2
                  go_end0
                  exact FIN.out _ t2
          · first | (exfalso; omega) | skip
            all_goals
              have d1a := c1.1
              have d1b := c1.2
              have t1 := NOL.out _ t0 (by omega)
              rcases (by omega : (mid < en ∧ en < b) ∨ (¬ mid < en) ∨ (mid < en ∧ ¬ en < b)) with c2 | c2 | c2
              · first | (exfalso; omega) | skip
                all_goals
                  have d2a := c2.1
                  have d2b := c2.2
                  go_wp2_with fail
                  refine Calls.mono (RGT.out _ t1 c2) ?_
                  rintro e w2 ⟨rfl, t2⟩
                  all_goals go_wp2
                  go_end0
                  exact FIN.out _ t2
              · first | (exfalso; omega) | skip
                all_goals
                  have t2 := NOE.out _ t1 (by omega)
                  all_goals go_wp2
                  go_end0
                  exact FIN.out _ t2
              · first | (exfalso; omega) | skip
                all_goals
                  have d2a := c2.1
                  have d2b := c2.2
                  have t2 := NOE.out _ t1 (by omega)
                  all_goals go_wp2
                  go_end0
                  exact FIN.out _ t2
set_option maxRecDepth 100000 in
set_option maxHeartbeats 8000000 in
theorem symMerge_lo (N : Nat) (IH : MergeUpto N) (cv : Int → Int → Int) (V : Int → Prop) (F : Srt.Fit cv V) (bx g : Nat) (P L R Q : List Int) (rest : List Value) (a m b mid s0 len cap : Nat) (w : World) (hN : L.length + R.length ≤ N + 1) (h : Dt w g (P ++ L ++ R ++ Q) rest) (ha : P.length = a) (hm : a + L.length = m) (hb : m + R.length = b) (hlen : (P ++ L ++ R ++ Q).length = len) (hlm : len ≤ 1000000) (hL : 1 < L.length) (hR : 1 < R.length)
    (hin : MIn cv V L R) (hbd : ∀ x y, V x → V y → -9223372036854775808 ≤ cv x y ∧ cv x y ≤ 9223372036854775807) (hc : CmpOk cv V bx g w) (hmid : (a + b) / 2 = mid) (hcase : CaseB mid m b s0) :
    Calls Try.prog 54 #[.slice (some ⟨g, 0, none⟩) len cap, .int .i64 a, .int .i64 m, .int .i64 b, cmpV bx] w (MergePost cv g P L R Q rest w) := by
  have hbl : b + Q.length = len := by rw [← hlen]; simp; omega
  have am : a + 1 < m := by omega
  have mb : m + 1 < b := by omega
  have hmid1 : a < mid := by omega
  have hmid2 : mid < b := by omega
  have e4 := hcase.int
  unfold CaseB at hcase
  have s0a : a ≤ a := by omega
  have r0m : m ≤ m := by omega
  have s0r0 : a ≤ m := by omega
  have sb : ∀ c, a ≤ c → c < m → m ≤ mid + m - 1 - c ∧ mid + m - 1 - c < b := fun c h1 h2 => by omega
  have cutS : a = a ∨ mid + m - a = b := by omega
  have cutR : m = m ∨ mid + m - m = m := by omega
  have bnd : ∀ s, a ≤ s → s ≤ m → a ≤ s ∧ s ≤ m ∧ m ≤ mid + m - s ∧ mid + m - s ≤ b := fun s h1 h2 => by omega
  have e1 : ((m : Int) - (a : Int) == 1) = false := beq_false_of_ne (by omega)
  have e2 : ((b : Int) - (m : Int) == 1) = false := beq_false_of_ne (by omega)
  have e3 : ((a : Int) + (b : Int)) / 2 = (mid : Int) := by omega
  have gl : g < w.heap.size := Rw.lt h
  have HLEN := Lib.hid hlen
  have HA := Lib.hid ha
  have HM := Lib.hid hm
  have HB := Lib.hid hb
  have HN := Lib.hid hN
  have HC := Lib.hid hc
  have HIN := Lib.hid hin
  have HF := Lib.hid F
  have HBD := Lib.hid hbd
  have HD := Lib.hid h
  have HIH := Lib.hid IH
  have SB := Lib.hid sb
  have BND := Lib.hid bnd
  have CS := Lib.hid cutS
  have CR := Lib.hid cutR
  have HMID := Lib.hid hmid
  have at0 : ∃ (s t : Nat), Value.int .i64 (a : Int) = .int .i64 s ∧ Value.int .i64 (m : Int) = .int .i64 t ∧ a ≤ s ∧ s ≤ t ∧ t ≤ m ∧ Hid (s = a ∨ ∃ x y, L[s - 1 - a]? = some x ∧ R[mid + m - s - m]? = some y ∧ 0 ≤ cv y x) ∧ Hid (t = m ∨ ∃ x y, L[t - a]? = some x ∧ R[mid + m - t - 1 - m]? = some y ∧ cv y x < 0) ∧ Blw w w :=
    ⟨a, m, rfl, rfl, Nat.le_refl _, s0r0, Nat.le_refl _, .inl rfl, .inl rfl, Blw.refl w⟩
  have AT0 := Lib.hid at0
  clear hlen ha hm hN hc hin F hbd h hb hL hR IH sb bnd cutS cutR at0 hmid
  go_enter Try.func54, Try.ntmps54
  go_wp2
  go_loopw [20, 21] (fun vi vj wr => ∃ (s t : Nat), vi = .int .i64 s ∧ vj = .int .i64 t ∧ a ≤ s ∧ s ≤ t ∧ t ≤ m ∧ Hid (s = a ∨ ∃ x y, L[s - 1 - a]? = some x ∧ R[mid + m - s - m]? = some y ∧ 0 ≤ cv y x) ∧ Hid (t = m ∨ ∃ x y, L[t - a]? = some x ∧ R[mid + m - t - 1 - m]? = some y ∧ cv y x < 0) ∧ Blw w wr) (fun vi vj _ => (intOf vj - intOf vi).toNat)
  case atStart => exact AT0.out
  case round =>
    obtain ⟨s, t, rfl, rfl, hs, hst, ht, h1, h2, hw⟩ := hrel
    obtain ⟨z0, rfl⟩ := hw.is
    by_cases hlt : s < t
    · obtain ⟨hh, eh⟩ : ∃ hh, (s + t) / 2 = hh := ⟨_, rfl⟩
      have hh1 : s ≤ hh := by omega
      have hh2 : hh < t := by omega
      have eh' : ((s : Int) + (t : Int)) / 2 = (hh : Int) := by omega
      have EH := Lib.hid eh
      clear eh
      obtain ⟨g1, g2, -, -⟩ := BND.out hh (by omega) (by omega)
      obtain ⟨g3, g4⟩ := SB.out hh (by omega) (by omega)
      obtain ⟨k, ek⟩ : ∃ k, mid + m - 1 - hh = k := ⟨_, rfl⟩
      rw [ek] at g3 g4
      have ek' : (mid : Int) + (m : Int) - 1 - (hh : Int) = (k : Int) := by omega
      have EK := Lib.hid ek
      clear ek
      obtain ⟨x, hx⟩ : ∃ x, L[hh - a]? = some x := ⟨L[hh - a]'(by have := HM.out; omega), List.getElem?_eq_getElem _⟩
      obtain ⟨y, hy⟩ : ∃ y, R[k - m]? = some y := ⟨R[k - m]'(by have := HB.out; omega), List.getElem?_eq_getElem _⟩
      have cx := HD.out.at (k := hh) (x := x) (by
        have := app_at (P := P) (Q := R ++ Q) HA.out hx
        rwa [← List.append_assoc, show a + (hh - a) = hh by omega] at this)
      have cy := HD.out.at (k := k) (x := y) (by
        have := app_at (P := P ++ L) (Q := Q) (a := m) (by rw [List.length_append, HA.out]; exact HM.out) hy
        rwa [show m + (k - m) = k by omega] at this)
      have vx : V x := HIN.out.vL x (List.mem_of_getElem? hx)
      have vy : V y := HIN.out.vR y (List.mem_of_getElem? hy)
      have hl : hh < len := by omega
      have kl : k < len := by omega
      have HX := Lib.hid hx
      have HY := Lib.hid hy
      have hcc := HC.out.kept (KeptO.of_blw (World.blw_ext w z0))
      have HCC := Lib.hid hcc
      obtain ⟨cB1, cB2⟩ := HBD.out y x vy vx
      clear hx hy hcc
      by_cases c : cv y x < 0
      · have cd : (!decide (cv y x < 0)) = false := by simp; omega
        go_wp2
        refine wp_region_ext_lit (by kernel_rfl) (by kernel_rfl) ?_
        repeat (go_big_quiet_step ((go_at_call 26; exact Calls.ext_of (HCC.out _ (KeptO.of_blw (World.blw_ext _ _)) y x vy vx))))
        refine wpQuiet_nil ?_
        rintro _ ⟨z, rfl⟩
        go_wp2
        go_roundw
        case rel => exact ⟨s, hh, rfl, rfl, hs, hh1, by omega, h1, .inr ⟨x, y, HX.out, by rw [show mid + m - hh - 1 - m = k - m by have := EK.out; omega]; exact HY.out, c⟩, (World.blw_ext w z0).ext z⟩
        case measure => simp [intOf]; omega
      · have cd : (!decide (cv y x < 0)) = true := by simp; omega
        go_wp2
        refine wp_region_ext_lit (by kernel_rfl) (by kernel_rfl) ?_
        repeat (go_big_quiet_step ((go_at_call 26; exact Calls.ext_of (HCC.out _ (KeptO.of_blw (World.blw_ext _ _)) y x vy vx))))
        refine wpQuiet_nil ?_
        rintro _ ⟨z, rfl⟩
        go_wp2
        go_roundw
        case rel => exact ⟨hh + 1, t, by go_num, rfl, by omega, by omega, ht, .inr ⟨x, y, by rw [show hh + 1 - 1 - a = hh - a by omega]; exact HX.out, by rw [show mid + m - (hh + 1) - m = k - m by have := EK.out; omega]; exact HY.out, by omega⟩, h2, (World.blw_ext w z0).ext z⟩
        case measure => simp [intOf]; omega
    · have : t = s := by omega
      subst this
      obtain ⟨g1, g2, g3, g4⟩ := BND.out t hs ht
      obtain ⟨en, ee⟩ : ∃ en, mid + m - t = en := ⟨_, rfl⟩
      rw [ee] at g3 g4
      have ee' : (mid : Int) + (m : Int) - (t : Int) = (en : Int) := by omega
      have cut : Srt.Cut cv L R (t - a) (en - m) := by
        refine Srt.Cut.of HF.out HIN.out.sL HIN.out.sR HIN.out.vL HIN.out.vR HIN.out.lt (by have := HM.out; omega) (by have := HB.out; omega) ?_ ?_
        · rcases h1.out with h | ⟨x, y, h, k, c⟩
          · rcases CS.out with q | q
            · left; omega
            · right; left; have := HB.out; omega
          · right; right; exact ⟨x, y, by rw [show t - a - 1 = t - 1 - a by omega]; exact h, by rw [← ee]; exact k, by omega⟩
        · rcases h2.out with h | ⟨x, y, h, k, c⟩
          · rcases CR.out with q | q
            · left; have := HM.out; omega
            · right; left; omega
          · right; right; exact ⟨x, y, h, by rw [show en - m - 1 = mid + m - t - 1 - m by omega]; exact k, c⟩
      have tl1 : (L.take (t - a)).length = t - a := by rw [List.length_take]; have := HM.out; omega
      have tl2 : (R.take (en - m)).length = en - m := by rw [List.length_take]; have := HB.out; omega
      have mc : MC N cv V bx g P L R Q (L.take (t - a)) (L.drop (t - a)) (R.take (en - m)) (R.drop (en - m)) rest a m b mid t en len w :=
        { ih := HIH.out, fit := HF.out, bd := HBD.out, cmp := HC.out, eL := (List.take_append_drop _ _).symm, eR := (List.take_append_drop _ _).symm, la := HA.out
          l1 := by omega
          l2 := by rw [List.length_drop]; have := HM.out; omega
          l3 := by omega
          l4 := by rw [List.length_drop]; have := HB.out; omega
          l5 := by omega
          l6 := by rw [List.length_drop]; have := HM.out; omega
          ln := HLEN.out, lm := hlm
          n1 := by have := HN.out; have := HM.out; have := HB.out; omega
          n2 := by rw [List.length_drop, List.length_drop]; have := HN.out; have := HM.out; have := HB.out; omega
          i1 := HIN.out.take _ _, i2 := HIN.out.drop _ _
          join := fun M1 M2 m1 m2 => cut.join HIN.out.sL HIN.out.sR m1 m2 }
      have ROT := Lib.hid (mc.rot cap (w.ext z0) (KeptO.of_blw (World.blw_ext w z0)) (HD.out.ext z0))
      have NOR := Lib.hid (mc.nor (w.ext z0) (KeptO.of_blw (World.blw_ext w z0)) (HD.out.ext z0))
      have LFT := Lib.hid (mc.lft cap)
      have NOL := Lib.hid mc.nol
      have RGT := Lib.hid (mc.rgt cap)
      have NOE := Lib.hid mc.noe
      have FIN := Lib.hid mc.fin
      have r1 : t ≤ m := g2
      have l5' := mc.l5
      have l6' := mc.l6
      have l1' := mc.l1
      have l2' := mc.l2
      have l3' := mc.l3
      have l4' := mc.l4
      clear mc cut tl1 tl2 ee
      generalize (L.take (t - a)).length = n1 at l5' l6' l1' l2' l3' l4'
      generalize (L.drop (t - a)).length = n2 at l5' l6' l1' l2' l3' l4'
      generalize (R.take (en - m)).length = n3 at l5' l6' l1' l2' l3' l4'
      generalize (R.drop (en - m)).length = n4 at l5' l6' l1' l2' l3' l4'
-- THE END OF THE WALK (printed by gen_srtg.py)
      rcases (by omega : (t < m ∧ m < en) ∨ (¬ t < m) ∨ (t < m ∧ ¬ m < en)) with c0 | c0 | c0
      · first | (exfalso; omega) | skip
        all_goals
          have d0a := c0.1
          have d0b := c0.2
          go_wp2_with fail
          refine Calls.mono (ROT.out c0) ?_
          rintro e w0 ⟨rfl, t0⟩
          rcases (by omega : (a < t ∧ t < mid) ∨ (¬ a < t) ∨ (a < t ∧ ¬ t < mid)) with c1 | c1 | c1
          · first | (exfalso; omega) | skip
            all_goals
              have d1a := c1.1
              have d1b := c1.2
              go_wp2_with fail
              refine Calls.mono (LFT.out _ t0 c1) ?_
              rintro e w1 ⟨rfl, t1⟩
              rcases (by omega : (mid < en ∧ en < b) ∨ (¬ mid < en) ∨ (mid < en ∧ ¬ en < b)) with c2 | c2 | c2
              · first | (exfalso; omega) | skip
                all_goals
                  have d2a := c2.1
                  have d2b := c2.2
                  go_wp2_with fail
                  refine Calls.mono (RGT.out _ t1 c2) ?_
                  rintro e w2 ⟨rfl, t2⟩
                  all_goals go_wp2
                  go_end0
                  exact FIN.out _ t2
              · first | (exfalso; omega) | skip
                all_goals
                  have t2 := NOE.out _ t1 (by omega)
                  all_goals go_wp2
                  go_end0
                  exact FIN.out _ t2
              · first | (exfalso; omega) | skip
                all_goals
                  have d2a := c2.1
                  have d2b := c2.2
                  have t2 := NOE.out _ t1 (by omega)
                  all_goals go_wp2
                  go_end0
                  exact FIN.out _ t2
          · first | (exfalso; omega) | skip
            all_goals
              have t1 := NOL.out _ t0 (by omega)
              rcases (by omega : (mid < en ∧ en < b) ∨ (¬ mid < en) ∨ (mid < en ∧ ¬ en < b)) with c2 | c2 | c2
              · first | (exfalso; omega) | skip
                all_goals
                  have d2a := c2.1
                  have d2b := c2.2
                  go_wp2_with fail
                  refine Calls.mono (RGT.out _ t1 c2) ?_
                  rintro e w2 ⟨rfl, t2⟩
                  all_goals go_wp2
                  go_end0
                  exact FIN.out _ t2
              · first | (exfalso; omega) | skip
                all_goals
                  have t2 := NOE.out _ t1 (by omega)
                  all_goals go_wp2
                  go_end0
                  exact FIN.out _ t2
              · first | (exfalso; omega) | skip
                all_goals
                  have d2a := c2.1
                  have d2b := c2.2
                  have t2 := NOE.out _ t1 (by omega)
                  all_goals go_wp2
                  go_end0
                  exact FIN.out _ t2
          · first | (exfalso; omega) | skip
            all_goals
              have d1a := c1.1
              have d1b := c1.2
              have t1 := NOL.out _ t0 (by omega)
              rcases (by omega : (mid < en ∧ en < b) ∨ (¬ mid < en) ∨ (mid < en ∧ ¬ en < b)) with c2 | c2 | c2
              · first | (exfalso; omega) | skip
                all_goals
                  have d2a := c2.1
                  have d2b := c2.2
                  go_wp2_with fail
                  refine Calls.mono (RGT.out _ t1 c2) ?_
                  rintro e w2 ⟨rfl, t2⟩
                  all_goals go_wp2
                  go_end0
                  exact FIN.out _ t2
              · first | (exfalso; omega) | skip
                all_goals
                  have t2 := NOE.out _ t1 (by omega)
                  all_goals go_wp2
                  go_end0
                  exact FIN.out _ t2
              · first | (exfalso; omega) | skip
                all_goals
                  have d2a := c2.1
                  have d2b := c2.2
                  have t2 := NOE.out _ t1 (by omega)
                  all_goals go_wp2
                  go_end0
                  exact FIN.out _ t2
      · first | (exfalso; omega) | skip
        all_goals
          have t0 := NOR.out (by omega)
          rcases (by omega : (a < t ∧ t < mid) ∨ (¬ a < t) ∨ (a < t ∧ ¬ t < mid)) with c1 | c1 | c1
          · first | (exfalso; omega) | skip
            all_goals
              have d1a := c1.1
              have d1b := c1.2
              go_wp2_with fail
              refine Calls.mono (LFT.out _ t0 c1) ?_
              rintro e w1 ⟨rfl, t1⟩
              rcases (by omega : (mid < en ∧ en < b) ∨ (¬ mid < en) ∨ (mid < en ∧ ¬ en < b)) with c2 | c2 | c2
              · first | (exfalso; omega) | skip
                all_goals
                  have d2a := c2.1
                  have d2b := c2.2
                  go_wp2_with fail
                  refine Calls.mono (RGT.out _ t1 c2) ?_
                  rintro e w2 ⟨rfl, t2⟩
                  all_goals go_wp2
                  go_end0
                  exact FIN.out _ t2
              · first | (exfalso; omega) | skip
                all_goals
                  have t2 := NOE.out _ t1 (by omega)
                  all_goals go_wp2
                  go_end0
                  exact FIN.out _ t2
              · first | (exfalso; omega) | skip
                all_goals
                  have d2a := c2.1
                  have d2b := c2.2
                  have t2 := NOE.out _ t1 (by omega)
                  all_goals go_wp2
                  go_end0
                  exact FIN.out _ t2
          · first | (exfalso; omega) | skip
            all_goals
              have t1 := NOL.out _ t0 (by omega)
              rcases (by omega : (mid < en ∧ en < b) ∨ (¬ mid < en) ∨ (mid < en ∧ ¬ en < b)) with c2 | c2 | c2
              · first | (exfalso; omega) | skip
                all_goals
                  have d2a := c2.1
                  have d2b := c2.2
                  go_wp2_with fail
                  refine Calls.mono (RGT.out _ t1 c2) ?_
                  rintro e w2 ⟨rfl, t2⟩
                  all_goals go_wp2
                  go_end0
                  exact FIN.out _ t2
              · first | (exfalso; omega) | skip
                all_goals
                  have t2 := NOE.out _ t1 (by omega)
                  all_goals go_wp2
                  go_end0
                  exact FIN.out _ t2
              · first | (exfalso; omega) | skip
                all_goals
                  have d2a := c2.1
                  have d2b := c2.2
                  have t2 := NOE.out _ t1 (by omega)
                  all_goals go_wp2
                  go_end0
                  exact FIN.out _ t2
          · first | (exfalso; omega) | skip
            all_goals
              have d1a := c1.1
              have d1b := c1.2
              have t1 := NOL.out _ t0 (by omega)
              rcases (by omega : (mid < en ∧ en < b) ∨ (¬ mid < en) ∨ (mid < en ∧ ¬ en < b)) with c2 | c2 | c2
              · first | (exfalso; omega) | skip
                all_goals
                  have d2a := c2.1
                  have d2b := c2.2
                  go_wp2_with fail
                  refine Calls.mono (RGT.out _ t1 c2) ?_
                  rintro e w2 ⟨rfl, t2⟩
                  all_goals go_wp2
                  go_end0
                  exact FIN.out _ t2
              · first | (exfalso; omega) | skip
                all_goals
                  have t2 := NOE.out _ t1 (by omega)
                  all_goals go_wp2
                  go_end0
                  exact FIN.out _ t2
              · first | (exfalso; omega) | skip
                all_goals
                  have d2a := c2.1
                  have d2b := c2.2
                  have t2 := NOE.out _ t1 (by omega)
                  all_goals go_wp2
                  go_end0
                  exact FIN.out _ t2
      · first | (exfalso; omega) | skip
        all_goals
          have d0a := c0.1
          have d0b := c0.2
          have t0 := NOR.out (by omega)
          rcases (by omega : (a < t ∧ t < mid) ∨ (¬ a < t) ∨ (a < t ∧ ¬ t < mid)) with c1 | c1 | c1
          · first | (exfalso; omega) | skip
            all_goals
              have d1a := c1.1
              have d1b := c1.2
              go_wp2_with fail
              refine Calls.mono (LFT.out _ t0 c1) ?_
              rintro e w1 ⟨rfl, t1⟩
              rcases (by omega : (mid < en ∧ en < b) ∨ (¬ mid < en) ∨ (mid < en ∧ ¬ en < b)) with c2 | c2 | c2
              · first | (exfalso; omega) | skip
                all_goals
                  have d2a := c2.1
                  have d2b := c2.2
                  go_wp2_with fail
                  refine Calls.mono (RGT.out _ t1 c2) ?_
                  rintro e w2 ⟨rfl, t2⟩
                  all_goals go_wp2
                  go_end0
                  exact FIN.out _ t2
              · first | (exfalso; omega) | skip
                all_goals
                  have t2 := NOE.out _ t1 (by omega)
                  all_goals go_wp2
                  go_end0
                  exact FIN.out _ t2
              · first | (exfalso; omega) | skip
                all_goals
                  have d2a := c2.1
                  have d2b := c2.2
                  have t2 := NOE.out _ t1 (by omega)
                  all_goals go_wp2
                  go_end0
                  exact FIN.out _ t2
          · first | (exfalso; omega) | skip
            all_goals
              have t1 := NOL.out _ t0 (by omega)
              rcases (by omega : (mid < en ∧ en < b) ∨ (¬ mid < en) ∨ (mid < en ∧ ¬ en < b)) with c2 | c2 | c2
              · first | (exfalso; omega) | skip
                all_goals
                  have d2a := c2.1
                  have d2b := c2.2
                  go_wp2_with fail
                  refine Calls.mono (RGT.out _ t1 c2) ?_
                  rintro e w2 ⟨rfl, t2⟩
                  all_goals go_wp2
                  go_end0
                  exact FIN.out _ t2
              · first | (exfalso; omega) | skip
                all_goals
                  have t2 := NOE.out _ t1 (by omega)
                  all_goals go_wp2
                  go_end0
                  exact FIN.out _ t2
              · first | (exfalso; omega) | skip
                all_goals
                  have d2a := c2.1
                  have d2b := c2.2
                  have t2 := NOE.out _ t1 (by omega)
                  all_goals go_wp2
                  go_end0
                  exact FIN.out _ t2
          · first | (exfalso; omega) | skip
            all_goals
              have d1a := c1.1
              have d1b := c1.2
              have t1 := NOL.out _ t0 (by omega)
              rcases (by omega : (mid < en ∧ en < b) ∨ (¬ mid < en) ∨ (mid < en ∧ ¬ en < b)) with c2 | c2 | c2
              · first | (exfalso; omega) | skip
                all_goals
                  have d2a := c2.1
                  have d2b := c2.2
                  go_wp2_with fail
                  refine Calls.mono (RGT.out _ t1 c2) ?_
                  rintro e w2 ⟨rfl, t2⟩
                  all_goals go_wp2
                  go_end0
                  exact FIN.out _ t2
              · first | (exfalso; omega) | skip
                all_goals
                  have t2 := NOE.out _ t1 (by omega)
                  all_goals go_wp2
                  go_end0
                  exact FIN.out _ t2
              · first | (exfalso; omega) | skip
                all_goals
                  have d2a := c2.1
                  have d2b := c2.2
                  have t2 := NOE.out _ t1 (by omega)
                  all_goals go_wp2
                  go_end0
                  exact FIN.out _ t2
end Go.Proofs.Ytigkfdoeneemeab
/- The library's stable sort: the whole of it. -/
namespace Go.Proofs.Ytigkfdoeneemeab
open Go.RowKit

theorem mergeUpto : ∀ N, MergeUpto N := by
  intro N
  induction N with
  | zero => intro cv V F bx g P L R Q rest a m b len cap w hN h ha hm hb hlen hlm hL hR hin hbd hc; omega
  | succ N ih =>
    intro cv V F bx g P L R Q rest a m b len cap w hN h ha hm hb hlen hlm hL hR hin hbd hc
    by_cases h1 : L.length = 1
    · obtain ⟨x, rfl⟩ := List.length_eq_one_iff.1 h1
      have e : m = a + 1 := by simp at hm; omega
      subst e
      exact symMerge_one cv V F bx g P R Q x rest a b len cap w h ha hb hlen hlm hin.vR (hin.vL x (by simp)) hin.sR (hin.lt x (by simp)) hbd hc
    · by_cases h2 : R.length = 1
      · obtain ⟨y, rfl⟩ := List.length_eq_one_iff.1 h2
        have e : b = m + 1 := by simp at hb; omega
        subst e
        exact symMerge_last cv V F bx g P L Q y rest a m len cap w h ha hm hlen hlm (by omega) hin.vL (hin.vR y (by simp)) hin.sL (fun x hx => hin.lt x hx y (by simp)) hbd hc
      · by_cases c : (a + b) / 2 < m
        · exact symMerge_hi N ih cv V F bx g P L R Q rest a m b ((a + b) / 2) ((a + b) / 2 + m - b) len cap w hN h ha hm hb hlen hlm (by omega) (by omega) hin hbd hc rfl ⟨c, by omega, rfl⟩
        · exact symMerge_lo N ih cv V F bx g P L R Q rest a m b ((a + b) / 2) 0 len cap w hN h ha hm hb hlen hlm (by omega) (by omega) hin hbd hc rfl (by unfold CaseB; omega)

/-- Blocks in the making: those that are done, those that are not yet. -/
structure Bl (cv : Int → Int → Int) (V : Int → Prop) (bs1 bs2 : Nat) (D0 D : List Int) (Ds Bs : List (List Int)) : Prop where
  eq : D = (Ds ++ Bs).flatten
  perm : D.Perm D0
  bks : Srt.Bks cv (Ds ++ Bs)
  full : ∀ B ∈ Ds, B.length = bs1
  blk : Srt.Blk bs2 Bs
theorem flat_mem {Bs : List (List Int)} {B : List Int} (h : B ∈ Bs) {x : Int} (hx : x ∈ B) : x ∈ Bs.flatten := List.mem_flatten.2 ⟨B, h, hx⟩
section
variable {cv : Int → Int → Int} {V : Int → Prop} {bs1 bs2 : Nat} {D0 D : List Int} {Ds Bs : List (List Int)}
theorem Bl.all (h : Bl cv V bs1 bs2 D0 D Ds Bs) (hv : ∀ x ∈ D0, V x) {B : List Int} (hB : B ∈ Ds ++ Bs) : ∀ x ∈ B, V x := fun x hx => hv x (h.perm.subset (by rw [h.eq]; exact flat_mem hB hx))
theorem Bl.min {B C : List Int} {Cs : List (List Int)} (h : Bl cv V bs1 bs2 D0 D Ds (B :: C :: Cs)) (hv : ∀ x ∈ D0, V x) : MIn cv V B C := by
  have hb := h.bks
  have hc := hb.cross
  rw [List.pairwise_append] at hc
  exact ⟨h.all hv (by simp), h.all hv (by simp), hb.each B (by simp), hb.each C (by simp), (List.pairwise_cons.1 hc.2.1).1 C (by simp)⟩
theorem Bl.step {B C M D' : List Int} {Cs : List (List Int)} (h : Bl cv V (2 * bs2) bs2 D0 D Ds (B :: C :: Cs)) (hl : B.length = bs2) (hl2 : C.length = bs2) (m : Srt.Mrg cv B C M) (hD : D' = (Ds ++ [M] ++ Cs).flatten) : Bl cv V (2 * bs2) bs2 D0 D' (Ds ++ [M]) Cs := by
  have ml := m.perm.length_eq
  rw [List.length_append] at ml
  refine ⟨hD, ?_, h.bks.merge m, fun A hA => ?_, h.blk.2.2.2.2⟩
  · refine List.Perm.trans ?_ h.perm
    rw [hD, h.eq]
    simp only [List.flatten_append, List.flatten_cons, List.flatten_nil, List.append_nil, List.append_assoc]
    refine List.Perm.append_left _ ?_
    rw [← List.append_assoc]
    exact List.Perm.append_right _ m.perm
  · rcases List.mem_append.1 hA with h1 | h1
    · exact h.full A h1
    · simp at h1; rw [h1]; omega
/-- The last two, of which the second may be short. -/
theorem Bl.last {B C M D' : List Int} (h : Bl cv V (2 * bs2) bs2 D0 D Ds [B, C]) (m : Srt.Mrg cv B C M) (hD : D' = (Ds ++ [M]).flatten) : Bl cv V 0 (2 * bs2) D0 D' [] (Ds ++ [M]) := by
  have ml := m.perm.length_eq
  rw [List.length_append] at ml
  have h1 := h.blk.1
  have h2 := h.blk.2.2.1
  refine ⟨hD, ?_, ?_, fun A hA => (by cases hA), Srt.Blk.snoc h.full (by omega)⟩
  · refine List.Perm.trans ?_ h.perm
    rw [hD, h.eq]
    simp only [List.flatten_append, List.flatten_cons, List.flatten_nil, List.append_nil]
    exact List.Perm.append_left _ m.perm
  · have := h.bks.merge (Cs := []) m
    simpa using this
/-- What is left over is one block. -/
theorem Bl.short (h : Bl cv V (2 * bs2) bs2 D0 D Ds Bs) (hl : Bs.flatten.length ≤ bs2) : Bl cv V 0 (2 * bs2) D0 D [] (Ds ++ [Bs.flatten]) := by
  have hc := h.bks.cross
  rw [List.pairwise_append] at hc
  have kb : Srt.Bks cv Bs := ⟨fun B hB => h.bks.each B (List.mem_append_right _ hB), hc.2.1⟩
  refine ⟨by rw [h.eq]; simp, h.perm, ⟨fun B hB => ?_, ?_⟩, fun A hA => (by cases hA), Srt.Blk.snoc h.full (by omega)⟩
  · rw [List.nil_append] at hB
    rcases List.mem_append.1 hB with h1 | h1
    · exact h.bks.each B (List.mem_append_left _ h1)
    · simp only [List.mem_singleton] at h1
      rw [h1]; exact h.blk.done kb hl
  · rw [List.nil_append, List.pairwise_append]
    refine ⟨hc.1, List.pairwise_singleton _ _, fun A hA B hB x hx y hy => ?_⟩
    simp only [List.mem_singleton] at hB
    rw [hB] at hy
    obtain ⟨C, hC, hy⟩ := List.mem_flatten.1 hy
    exact hc.2.2 A hA C hC x hx y hy
theorem Bl.done (h : Bl cv V 0 bs2 D0 D [] Bs) (hl : D.length ≤ bs2) : D.Pairwise (Srt.lo cv) := by
  have e := h.eq
  rw [List.nil_append] at e
  have kb := h.bks
  rw [List.nil_append] at kb
  rw [e] at hl ⊢
  exact h.blk.done kb hl
end

/-- The first pass: blocks of twenty. -/
structure Fst (cv : Int → Int → Int) (D0 : List Int) (a : Nat) (Ds : List (List Int)) : Prop where
  perm : Ds.flatten.Perm (D0.take a)
  len : Ds.flatten.length = a
  each : ∀ B ∈ Ds, B.Pairwise (Srt.lo cv) ∧ B.length = 20
  cross : Ds.Pairwise (fun A B => ∀ x ∈ A, ∀ y ∈ B, x < y)
section
variable {cv : Int → Int → Int} {V : Int → Prop} {D0 : List Int} {Ds : List (List Int)} {a : Nat}
theorem Fst.below (h : Fst cv D0 a Ds) (hi : D0.Pairwise (· < ·)) {M : List Int} (hM : ∀ y ∈ M, y ∈ D0.drop a) : ∀ A ∈ Ds, ∀ x ∈ A, ∀ y ∈ M, x < y := by
  intro A hA x hx y hy
  rw [← List.take_append_drop a D0, List.pairwise_append] at hi
  exact hi.2.2 x (h.perm.subset (flat_mem hA hx)) y (hM y hy)
theorem Fst.next (h : Fst cv D0 a Ds) (hi : D0.Pairwise (· < ·)) {M : List Int} (hp : M.Perm ((D0.drop a).take 20)) (hs : M.Pairwise (Srt.lo cv)) (hl : a + 20 ≤ D0.length) : Fst cv D0 (a + 20) (Ds ++ [M]) := by
  have ml := hp.length_eq
  rw [List.length_take, List.length_drop] at ml
  refine ⟨?_, ?_, fun B hB => ?_, ?_⟩
  · rw [List.flatten_append, List.take_add]
    simp only [List.flatten_cons, List.flatten_nil, List.append_nil]
    exact h.perm.append hp
  · rw [List.flatten_append, List.length_append, h.len]
    simp only [List.flatten_cons, List.flatten_nil, List.append_nil]; omega
  · rcases List.mem_append.1 hB with h1 | h1
    · exact h.each B h1
    · simp only [List.mem_singleton] at h1; rw [h1]; exact ⟨hs, by omega⟩
  · rw [List.pairwise_append]
    refine ⟨h.cross, List.pairwise_singleton _ _, fun A hA B hB => ?_⟩
    simp only [List.mem_singleton] at hB; rw [hB]
    exact h.below hi (fun y hy => List.mem_of_mem_take (hp.subset hy)) A hA
theorem Fst.last (h : Fst cv D0 a Ds) (hi : D0.Pairwise (· < ·)) {M : List Int} (hp : M.Perm (D0.drop a)) (hs : M.Pairwise (Srt.lo cv)) (hl : D0.length < a + 20) : Bl cv V 0 20 D0 (Ds.flatten ++ M) [] (Ds ++ [M]) := by
  have ml := hp.length_eq
  rw [List.length_drop] at ml
  refine ⟨by simp, ?_, ⟨fun B hB => ?_, ?_⟩, fun A hA => (by cases hA), Srt.Blk.snoc (fun B hB => (h.each B hB).2) (by omega)⟩
  · have := h.perm.append hp
    rwa [List.take_append_drop] at this
  · rw [List.nil_append] at hB
    rcases List.mem_append.1 hB with h1 | h1
    · exact (h.each B h1).1
    · simp only [List.mem_singleton] at h1; rw [h1]; exact hs
  · rw [List.nil_append, List.pairwise_append]
    refine ⟨h.cross, List.pairwise_singleton _ _, fun A hA B hB => ?_⟩
    simp only [List.mem_singleton] at hB; rw [hB]
    exact h.below hi (fun y hy => hp.subset hy) A hA
end

set_option maxRecDepth 100000 in
set_option maxHeartbeats 8000000 in
theorem stable_any (cv : Int → Int → Int) (V : Int → Prop) (F : Srt.Fit cv V) (bx g : Nat) (D0 : List Int) (rest : List Value) (len cap : Nat) (w : World) (h : Dt w g D0 rest) (hlen : D0.length = len) (hlm : len ≤ 100000)
    (hv : ∀ x ∈ D0, V x) (hi : D0.Pairwise (· < ·)) (hbd : ∀ x y, V x → V y → -9223372036854775808 ≤ cv x y ∧ cv x y ≤ 9223372036854775807) (hc : CmpOk cv V bx g w) :
    Calls Try.prog 37 #[.slice (some ⟨g, 0, none⟩) len cap, .int .i64 len, cmpV bx] w fun e w' =>
      e = .returned (.tuple #[]) ∧ KeptO (· = g) w w' ∧ ∃ D, Dt w' g D rest ∧ D.Perm D0 ∧ D.Pairwise (Srt.lo cv) := by
  have HLEN := Lib.hid hlen
  have HC := Lib.hid hc
  have HV := Lib.hid hv
  have HI := Lib.hid hi
  have HF := Lib.hid F
  have HBD := Lib.hid hbd
  have f0 : Fst cv D0 0 [] := ⟨List.Perm.refl _, rfl, fun B hB => (by cases hB), List.Pairwise.nil⟩
  have at0 : ∃ (a : Nat) (Ds : List (List Int)), Value.int .i64 (0 : Int) = .int .i64 a ∧ Value.int .i64 (20 : Int) = .int .i64 ((a + 20 : Nat) : Int) ∧ a ≤ len ∧ Hid (Fst cv D0 a Ds) ∧ Dt w g (Ds.flatten ++ D0.drop a) rest ∧ KeptO (· = g) w w :=
    ⟨0, [], rfl, rfl, Nat.zero_le _, f0, h, KeptO.refl w⟩
  have AT0 := Lib.hid at0
  clear hlen hc hv hi F hbd f0 at0 h
  go_enter Try.func37, Try.ntmps37
  go_wp2
  go_loopw [7, 8] (fun va vb wr => ∃ (a : Nat) (Ds : List (List Int)), va = .int .i64 a ∧ vb = .int .i64 ((a + 20 : Nat) : Int) ∧ a ≤ len ∧ Hid (Fst cv D0 a Ds) ∧ Dt wr g (Ds.flatten ++ D0.drop a) rest ∧ KeptO (· = g) w wr) (fun va _ _ => (len - intOf va).toNat)
  case atStart => exact AT0.out
  case round =>
    obtain ⟨a, Ds, rfl, rfl, ha, hF, hd, hw⟩ := hrel
    have al : Ds.flatten.length = a := hF.out.len
    have AL := Lib.hid al
    clear al
    by_cases hb : a + 20 ≤ len
    · have hcall := insertion_any cv V HF.out bx g Ds.flatten ((D0.drop a).take 20) ((D0.drop a).drop 20) rest a (a + 20) len cap wr (by rw [List.append_assoc, List.take_append_drop]; exact hd) AL.out (by rw [List.length_take, List.length_drop, HLEN.out]; omega)
        (by rw [List.append_assoc, List.take_append_drop, List.length_append, AL.out, List.length_drop, HLEN.out]; omega) (by omega) (fun x hx => HV.out x (List.mem_of_mem_drop (List.mem_of_mem_take hx))) ((HI.out.sublist (List.drop_sublist _ _)).sublist (List.take_sublist _ _)) HBD.out (HC.out.kept hw)
      have HCALL := Lib.hid hcall
      clear hcall
      go_wp2_with fail
      refine Calls.mono HCALL.out ?_
      rintro e w1 ⟨rfl, k1, M, d1, p1, s1⟩
      go_wp2
      go_roundw
      case rel => exact ⟨a + 20, Ds ++ [M], by go_num, by go_num, hb, hF.out.next HI.out p1 s1 (by rw [HLEN.out]; exact hb), by
        have e : Ds.flatten ++ M ++ (D0.drop a).drop 20 = (Ds ++ [M]).flatten ++ D0.drop (a + 20) := by rw [List.drop_drop]; simp
        rw [← e]; exact d1, hw.trans k1⟩
      case measure => simp [intOf]; omega
    · have hcall := insertion_any cv V HF.out bx g Ds.flatten (D0.drop a) [] rest a len len cap wr (by rw [List.append_nil]; exact hd) AL.out (by rw [List.length_drop, HLEN.out]; omega)
        (by rw [List.append_nil, List.length_append, AL.out, List.length_drop, HLEN.out]; omega) (by omega) (fun x hx => HV.out x (List.mem_of_mem_drop hx)) (HI.out.sublist (List.drop_sublist _ _)) HBD.out (HC.out.kept hw)
      have HCALL := Lib.hid hcall
      clear hcall
      go_wp2_with fail
      refine Calls.mono HCALL.out ?_
      rintro e w1 ⟨rfl, k1, M, d1, p1, s1⟩
      have b1 := hF.out.last (V := V) HI.out p1 s1 (by rw [HLEN.out]; omega)
      rw [List.append_nil] at d1
      have at1 : ∃ (bs : Nat) (D : List Int) (Bs : List (List Int)), Value.int .i64 (20 : Int) = .int .i64 bs ∧ 0 < bs ∧ bs ≤ 1000000 ∧ Hid (Bl cv V 0 bs D0 D [] Bs) ∧ Dt w1 g D rest ∧ KeptO (· = g) w w1 :=
        ⟨20, _, _, rfl, by omega, by omega, b1, d1, hw.trans k1⟩
      have AT1 := Lib.hid at1
      clear b1 at1 d1 p1 s1
      go_wp2
      go_loopw [6] (fun vs wr => ∃ (bs : Nat) (D : List Int) (Bs : List (List Int)), vs = .int .i64 bs ∧ 0 < bs ∧ bs ≤ 1000000 ∧ Hid (Bl cv V 0 bs D0 D [] Bs) ∧ Dt wr g D rest ∧ KeptO (· = g) w wr) (fun vs _ => (len - intOf vs).toNat)
      case atStart => exact AT1.out
      case round =>
        obtain ⟨bs, D, Bs, rfl, hbs, hbs2, hB, hd2, hw2⟩ := hrel
        have dlen : D.length = len := by rw [hB.out.perm.length_eq]; exact HLEN.out
        have DLEN := Lib.hid dlen
        clear dlen
        by_cases hlt : bs < len
        · -- one pass of merges
          have bl0 : Bl cv V (2 * bs) bs D0 D [] Bs := ⟨hB.out.eq, hB.out.perm, hB.out.bks, fun A hA => (by cases hA), hB.out.blk⟩
          have at2 : ∃ (a : Nat) (D : List Int) (Ds Bs : List (List Int)), Value.int .i64 (0 : Int) = .int .i64 a ∧ Value.int .i64 (2 * (bs : Int)) = .int .i64 ((a + 2 * bs : Nat) : Int) ∧ a ≤ len ∧ Hid (Ds.flatten.length = a) ∧ Hid (Bl cv V (2 * bs) bs D0 D Ds Bs) ∧ Dt wr g D rest ∧ KeptO (· = g) w wr :=
            ⟨0, D, [], Bs, rfl, by congr 1; omega, Nat.zero_le _, rfl, bl0, hd2, hw2⟩
          have AT2 := Lib.hid at2
          obtain ⟨wO, eO⟩ : ∃ wO, wO = wr := ⟨_, rfl⟩
          have EO := Lib.hid eO
          clear bl0 at2 hd2 eO
          go_wp2
          go_loopw [7, 8] (fun va vb wr => ∃ (a : Nat) (D : List Int) (Ds Bs : List (List Int)), va = .int .i64 a ∧ vb = .int .i64 ((a + 2 * bs : Nat) : Int) ∧ a ≤ len ∧ Hid (Ds.flatten.length = a) ∧ Hid (Bl cv V (2 * bs) bs D0 D Ds Bs) ∧ Dt wr g D rest ∧ KeptO (· = g) w wr) (fun va _ _ => (len - intOf va).toNat)
          case atStart => exact AT2.out
          case round =>
            obtain ⟨a, D, Ds, Bs, rfl, rfl, ha, hal, hB, hd, hw⟩ := hrel
            have dlen : D.length = len := by rw [hB.out.perm.length_eq]; exact HLEN.out
            have rem : a + Bs.flatten.length = len := by
              have := hB.out.eq; rw [this, List.flatten_append, List.length_append, hal.out] at dlen; exact dlen
            by_cases hb : a + 2 * bs ≤ len
            · obtain ⟨B, C, Cs, e, l1, -, l2, -⟩ := hB.out.blk.two (by omega)
              subst e
              have l2 := l2 (by omega)
              have hq := hB.out.eq
              have dq : D = Ds.flatten ++ B ++ C ++ Cs.flatten := by rw [hq]; simp
              obtain ⟨mm, em⟩ : ∃ mm, a + bs = mm := ⟨_, rfl⟩
              obtain ⟨bb, eb⟩ : ∃ bb, a + 2 * bs = bb := ⟨_, rfl⟩
              have em' : (a : Int) + (bs : Int) = (mm : Int) := by omega
              have eb' : (a : Int) + 2 * (bs : Int) = (bb : Int) := by omega
              have bbl : bb ≤ len := by omega
              have hcall := mergeUpto _ cv V HF.out bx g Ds.flatten B C Cs.flatten rest a mm bb len cap wr (Nat.le_refl _) (by rw [← dq]; exact hd) hal.out (by omega) (by omega) (by rw [← dq]; exact dlen) (by omega) (by omega) (by omega) (hB.out.min HV.out) HBD.out (HC.out.kept hw)
              have HCALL := Lib.hid hcall
              have L1 := Lib.hid l1
              have L2 := Lib.hid l2
              have EB := Lib.hid eb
              clear hcall l1 l2 dq hq rem eb em
              go_wp2_with fail
              refine Calls.mono HCALL.out ?_
              rintro e w2 ⟨rfl, k2, M, d2, m2⟩
              have MM := Lib.hid m2
              clear m2
              go_wp2
              go_roundw
              case rel =>
                refine ⟨bb, _, Ds ++ [M], Cs, rfl, by go_num, bbl, ?_, hB.out.step L1.out L2.out MM.out rfl, ?_, hw.trans k2⟩
                · show _ = _
                  have pl := MM.out.perm.length_eq
                  have h1 := L1.out; have h2 := L2.out; have h3 := hal.out; have h4 := EB.out
                  rw [List.length_append] at pl
                  rw [List.flatten_append, List.length_append, h3]; simp; omega
                · have e : Ds.flatten ++ M ++ Cs.flatten = (Ds ++ [M] ++ Cs).flatten := by simp
                  rw [← e]; exact d2
              case measure => simp [intOf]; omega
            · -- the last ones
              obtain ⟨mm, em⟩ : ∃ mm, a + bs = mm := ⟨_, rfl⟩
              have em' : (a : Int) + (bs : Int) = (mm : Int) := by omega
              by_cases hm : mm < len
              · obtain ⟨B, C, Cs, e, l1, -, -, l2⟩ := hB.out.blk.two (by omega)
                obtain ⟨l2, l3⟩ := l2 (by omega)
                subst e l3
                have hq := hB.out.eq
                have dq : D = Ds.flatten ++ B ++ C ++ [] := by rw [hq]; simp
                have hcall := mergeUpto _ cv V HF.out bx g Ds.flatten B C [] rest a mm len len cap wr (Nat.le_refl _) (by rw [← dq]; exact hd) hal.out (by omega) (by omega) (by rw [← dq]; exact dlen) (by omega) (by omega) (by omega) (hB.out.min HV.out) HBD.out (HC.out.kept hw)
                have HCALL := Lib.hid hcall
                clear hcall l1 l2 dq hq rem em dlen
                go_wp2_with fail
                refine Calls.mono HCALL.out ?_
                rintro e w2 ⟨rfl, k2, M, d2, m2⟩
                have MM := Lib.hid m2
                clear m2
                go_wp2
                go_roundw
                case rel =>
                  refine ⟨bs * 2, (Ds ++ [M]).flatten, Ds ++ [M], by go_num, by omega, by omega, ?_, ?_, hw.trans k2⟩
                  · rw [Nat.mul_comm bs 2]; exact hB.out.last MM.out rfl
                  · have e : Ds.flatten ++ M ++ [] = (Ds ++ [M]).flatten := by simp
                    rw [← e]; simpa using d2
                case measure => simp [intOf]; omega
              · have bsh := hB.out.short (by omega)
                have BSH := Lib.hid bsh
                clear bsh rem em
                go_wp2
                go_roundw
                case rel => exact ⟨bs * 2, D, _, by go_num, by omega, by omega, by rw [Nat.mul_comm bs 2]; exact BSH.out, hd, hw⟩
                case measure => simp [intOf]; omega
        · go_wp2
          go_end0
          exact ⟨rfl, hw2, D, hd2, hB.out.perm, hB.out.done (by rw [DLEN.out]; omega)⟩

set_option maxHeartbeats 1000000 in
theorem sortStable_any (cv : Int → Int → Int) (V : Int → Prop) (F : Srt.Fit cv V) (bx g : Nat) (D0 : List Int) (rest : List Value) (len cap : Nat) (w : World) (h : Dt w g D0 rest) (hlen : D0.length = len) (hlm : len ≤ 100000)
    (hv : ∀ x ∈ D0, V x) (hi : D0.Pairwise (· < ·)) (hbd : ∀ x y, V x → V y → -9223372036854775808 ≤ cv x y ∧ cv x y ≤ 9223372036854775807) (hc : CmpOk cv V bx g w) :
    Calls Try.prog 25 #[.slice (some ⟨g, 0, none⟩) len cap, cmpV bx] w fun e w' =>
      e = .returned (.tuple #[]) ∧ KeptO (· = g) w w' ∧ ∃ D, Dt w' g D rest ∧ D.Perm D0 ∧ D.Pairwise (Srt.lo cv) := by
  have hcall := stable_any cv V F bx g D0 rest len cap w h hlen hlm hv hi hbd hc
  have HC := Lib.hid hcall
  clear hcall hlen hv hi F hbd hc
  go_enter Try.func25, Try.ntmps25
  go_wp2_with fail
  refine Calls.mono HC.out ?_
  rintro e w1 ⟨rfl, k1, D, d1, p1, s1⟩
  have P1 := Lib.hid p1
  have SS := Lib.hid s1
  clear p1 s1
  go_wp2
  go_end0
  exact ⟨rfl, k1, D, d1, P1.out, SS.out⟩
end Go.Proofs.Ytigkfdoeneemeab
/- The order of reports, plain; the comparison that office.Order hands to the sort. -/
namespace Go.Proofs.Ytigkfdoeneemeab
open Go.RowKit

namespace Srt
theorem cmpI_le {x y : Int} : cmpI x y ≤ 0 ↔ x ≤ y := by unfold cmpI; split <;> (try split) <;> omega
theorem cmpI_z {x y : Int} : cmpI x y = 0 ↔ x = y := by unfold cmpI; split <;> (try split) <;> omega
theorem cross {p q r a b c : Int} (hb : 0 < b) (ha : 0 < a) (hc : 0 < c) (h1 : p * b ≤ q * a) (h2 : q * c ≤ r * b) : p * c ≤ r * a ∧ (p * c = r * a → p * b = q * a ∧ q * c = r * b) := by
  have e1 := Int.mul_le_mul_of_nonneg_right h1 (Int.le_of_lt hc)
  have e2 := Int.mul_le_mul_of_nonneg_right h2 (Int.le_of_lt ha)
  have x1 : p * b * c = p * c * b := Int.mul_right_comm p b c
  have x2 : q * a * c = q * c * a := Int.mul_right_comm q a c
  have x3 : r * b * a = r * a * b := Int.mul_right_comm r b a
  have e : (p * c) * b ≤ (r * a) * b := by omega
  refine ⟨Int.le_of_mul_le_mul_right e hb, fun h => ?_⟩
  rw [h] at x1
  constructor
  · have : p * b * c = q * a * c := by omega
    exact Int.eq_of_mul_eq_mul_right (Int.ne_of_gt hc) this
  · have : q * c * a = r * b * a := by omega
    exact Int.eq_of_mul_eq_mul_right (Int.ne_of_gt ha) this
theorem cmpF_le3 {a b c : Fr} (ha : a.Ok) (hb : b.Ok) (hc : c.Ok) (h1 : cmpF a b ≤ 0) (h2 : cmpF b c ≤ 0) : cmpF a c ≤ 0 ∧ (cmpF a c = 0 → cmpF a b = 0 ∧ cmpF b c = 0) := by
  rw [cmpF_is ha hb] at h1 ⊢
  rw [cmpF_is hb hc] at h2 ⊢
  rw [cmpF_is ha hc]
  have pa : (0 : Int) < (W.val a.den : Int) := by have := ha.den_pos; omega
  have pb : (0 : Int) < (W.val b.den : Int) := by have := hb.den_pos; omega
  have pc : (0 : Int) < (W.val c.den : Int) := by have := hc.den_pos; omega
  obtain ⟨k1, k2⟩ := cross pb pa pc (cmpI_le.1 h1) (cmpI_le.1 h2)
  refine ⟨cmpI_le.2 k1, fun h => ?_⟩
  obtain ⟨q1, q2⟩ := k2 (cmpI_z.1 h)
  exact ⟨cmpI_z.2 q1, cmpI_z.2 q2⟩
end Srt

/-- What the comparison says of the reports at two places. -/
def cvK (K : List KF) (x y : Int) : Int := match K[x.toNat]?, K[y.toNat]? with | some a, some b => cmpA b.hi a.hi | _, _ => 0
def VK (K : List KF) (x : Int) : Prop := 0 ≤ x ∧ ∃ a, K[x.toNat]? = some a ∧ a.er = 0 ∧ a.hi.Ok
theorem cntK_iff {K : List KF} {k : Nat} : cntK K KF.hi k = true ↔ VK K (k : Int) := by
  unfold cntK VK
  rw [Int.toNat_natCast]
  cases e : K[k]? with
  | none => simp
  | some a =>
    simp only [cntF, Option.some.injEq, Bool.and_eq_true, beq_iff_eq]
    constructor
    · rintro ⟨h1, h2⟩; exact ⟨by omega, a, rfl, h1, ok_chkF h2⟩
    · rintro ⟨-, b, rfl, h1, h2⟩; exact ⟨h1, chkF_ok h2⟩
theorem cvK_ok {K : List KF} {x y : Int} {a b : KF} (ha : K[x.toNat]? = some a) (hb : K[y.toNat]? = some b) (oa : a.hi.Ok) (ob : b.hi.Ok) : cvK K x y = cmpF b.hi a.hi := by
  unfold cvK; rw [ha, hb]; exact cmpA_ok ob oa
theorem cvK_b (K : List KF) (x y : Int) : -9223372036854775808 ≤ cvK K x y ∧ cvK K x y ≤ 9223372036854775807 := by
  unfold cvK
  split
  · rename_i a b _ _
    have := cmpA_b b.hi a.hi
    omega
  · omega
theorem fitK (K : List KF) : Srt.Fit (cvK K) (VK K) := by
  refine ⟨?_, ?_, ?_⟩
  · rintro x y ⟨-, a, ha, -, oa⟩ ⟨-, b, hb, -, ob⟩
    rw [cvK_ok ha hb oa ob, cvK_ok hb ha ob oa, cmpF_swap ob oa]; omega
  · rintro x y z ⟨-, a, ha, -, oa⟩ ⟨-, b, hb, -, ob⟩ ⟨-, c, hc, -, oc⟩ h1 h2
    rw [cvK_ok ha hb oa ob] at h1
    rw [cvK_ok hb hc ob oc] at h2
    rw [cvK_ok ha hc oa oc]
    exact (Srt.cmpF_le3 oc ob oa h2 h1).1
  · rintro x y z ⟨-, a, ha, -, oa⟩ ⟨-, b, hb, -, ob⟩ ⟨-, c, hc, -, oc⟩ h1 h2 h3
    rw [cvK_ok ha hb oa ob] at h1 ⊢
    rw [cvK_ok hb hc ob oc] at h2 ⊢
    rw [cvK_ok ha hc oa oc] at h3
    have := (Srt.cmpF_le3 oc ob oa h2 h1).2 h3
    exact ⟨this.2, this.1⟩
/-- The places that count, up to a place. -/
def outK (K : List KF) : Nat → List Int
  | 0 => []
  | k + 1 => if cntK K KF.hi k = true then outK K k ++ [(k : Int)] else outK K k
theorem outK_mem (K : List KF) : ∀ n x, x ∈ outK K n → VK K x ∧ x < n := by
  intro n
  induction n with
  | zero => intro x h; cases h
  | succ n ih =>
    intro x h
    rw [outK] at h
    split at h
    · rename_i c
      rcases List.mem_append.1 h with h | h
      · have := ih x h; exact ⟨this.1, by omega⟩
      · simp only [List.mem_singleton] at h; subst h; exact ⟨cntK_iff.1 c, by omega⟩
    · have := ih x h; exact ⟨this.1, by omega⟩
theorem outK_inc (K : List KF) : ∀ n, (outK K n).Pairwise (· < ·) := by
  intro n
  induction n with
  | zero => exact List.Pairwise.nil
  | succ n ih =>
    rw [outK]
    split
    · rw [List.pairwise_append]
      exact ⟨ih, List.pairwise_singleton _ _, fun x hx y hy => by simp only [List.mem_singleton] at hy; subst hy; exact (outK_mem K n x hx).2⟩
    · exact ih
theorem outK_len (K : List KF) : ∀ n, (outK K n).length ≤ n := by
  intro n
  induction n with
  | zero => exact Nat.le_refl _
  | succ n ih =>
    rw [outK]
    split
    · rw [List.length_append, List.length_singleton]; omega
    · omega
/-- The order of all that counts. -/
structure OrdK (K : List KF) (n : Nat) (D : List Int) : Prop where
  perm : D.Perm (outK K n)
  sort : D.Pairwise (Srt.lo (cvK K))
theorem OrdK.uniq {K : List KF} {n : Nat} {D E : List Int} (h : OrdK K n D) (k : OrdK K n E) : D = E :=
  Srt.sorted_uniq (fitK K) (fun x hx => (outK_mem K n x (h.perm.subset hx)).1) h.sort k.sort (h.perm.trans k.perm.symm)
def OrdPost (w : World) (K : List KF) (n : Nat) (e : Ending) (w' : World) : Prop := ∃ D, OrdK K n D ∧ RetOwn w 3 1 D.length (i64s D) e w'

set_option maxRecDepth 100000 in
set_option maxHeartbeats 1000000 in
theorem orderCmp_any (A : Option Addr) (l : List RL) (cap : Nat) (w0 wr : World) (hA : Arr w0 A (rls l)) (hin : ∀ x ∈ l, RL.In w0 x) (_ : l.length ≤ 100000) (hb : Blw (w0.alloc (.cells #[.slice A l.length cap] 22)) wr) (i k : Int) (hi : VK (l.map RL.key) i) (hk : VK (l.map RL.key) k) :
    Calls Try.prog 26 #[.int .i64 i, .int .i64 k, .pointer (some ⟨w0.heap.size, 0, none⟩)] wr fun e w' => e = .returned (.int .i64 (cvK (l.map RL.key) i k)) ∧ ∃ z, w' = wr.ext z := by
  have hb0 : Blw w0 wr := ((Blw.refl w0).alloc _).trans hb
  have hbx : wr.cell? ⟨w0.heap.size, 0, none⟩ = some (.slice A l.length cap) := by
    have h1 : w0.heap.size < (w0.alloc (.cells #[.slice A l.length cap] 22)).heap.size := by simp
    have hh : wr.heap[w0.heap.size]? = some (.cells #[.slice A l.length cap] 22 (0, 0)) := (Below.block hb _ h1).trans (heap_alloc_new w0 _)
    exact (cell_of_row wr _ 0 _ _ _ hh).trans rfl
  have hsz : w0.heap.size < wr.heap.size := by have := hb.size; simp at this; omega
  obtain ⟨i0, a, hia, -, oa⟩ := hi
  obtain ⟨k0, b, hkb, -, ob⟩ := hk
  obtain ⟨n, rfl⟩ : ∃ n : Nat, i = (n : Int) := ⟨i.toNat, by omega⟩
  obtain ⟨m, rfl⟩ : ∃ m : Nat, k = (m : Int) := ⟨k.toNat, by omega⟩
  rw [Int.toNat_natCast] at hia hkb
  have hn : n < l.length := by have := (List.getElem?_eq_some_iff.1 hia).1; simpa using this
  have hm : m < l.length := by have := (List.getElem?_eq_some_iff.1 hkb).1; simpa using this
  obtain ⟨x, bb, oo, hgx, hmx, e1, hbs, c0, c1, c2, c3, c4, c5, c6, c7, c8, c9, c10, c11⟩ := rl_at (hA.blw hb0) hn
  obtain ⟨y, b2, o2, hgy, hmy, e2, hbs2, d0, d1, d2, d3, d4, d5, d6, d7, d8, d9, d10, d11⟩ := rl_at (hA.blw hb0) hm
  rw [e1] at e2
  simp only [Option.some.injEq, Addr.mk.injEq] at e2
  obtain ⟨rfl, rfl, -⟩ := e2
  subst e1
  have hcv : cvK (l.map RL.key) n m = cmpA y.hi.r x.hi.r := by
    unfold cvK; rw [Int.toNat_natCast, Int.toNat_natCast, keys_at hgx, keys_at hgy]; rfl
  rw [hcv]
  have H1 := Lib.hid (fun (W : World) (hW : Blw wr W) => compareA y.hi x.hi W ((((hin y hmy).blw hb0).hi).blw hW) ((((hin x hmx).blw hb0).hi).blw hW))
  generalize cmpA y.hi.r x.hi.r = cv at *
  generalize chk2 y.hi.r x.hi.r = ck at *
  clear hA hin hb hb0 hgx hgy hmx hmy hia hkb hcv i0 k0 oa ob c0 c1 c2 c6 c7 c8 c9 c10 c11 d0 d1 d2 d6 d7 d8 d9 d10 d11
  obtain ⟨nm, er, wa, wn, wc, ⟨⟨hn', hnum, hden⟩, ha, hc, hb', hd⟩, hat, lw, lat, off⟩ := x
  obtain ⟨ynm, yer, ywa, ywn, ywc, ⟨⟨yhn, yhnum, yhden⟩, yha, yhc, yhb, yhd⟩, yhat, ylw, ylat, yoff⟩ := y
  simp only at *
  go_enter Try.func26, Try.ntmps26
  go_wp2
  refine wp_region_ext_lit (by kernel_rfl) (by kernel_rfl) ?_
  repeat (go_big_quiet_step ((go_at_call 27; exact Calls.ext_of (H1.out _ (by repeat (first | exact Blw.refl _ | apply Blw.ext | apply Blw.alloc | apply Blw.drewN | apply Blw.drew | refine Blw.setCell ?_ _ _ (by simp)))))))
  refine wpQuiet_nil ?_
  rintro _ ⟨z, rfl⟩
  go_wp2
  go_ret
  exact ⟨rfl, Blw.is (by repeat (first | exact Blw.refl _ | apply Blw.ext | apply Blw.alloc | apply Blw.drewN | apply Blw.drew | refine Blw.setCell ?_ _ _ (by simp)))⟩
theorem orderCmpOk (A : Option Addr) (l : List RL) (cap g : Nat) (w0 w : World) (hA : Arr w0 A (rls l)) (hin : ∀ x ∈ l, RL.In w0 x) (hl : l.length ≤ 100000) (hb : Blw (w0.alloc (.cells #[.slice A l.length cap] 22)) w) (hg : w0.heap.size < g) :
    CmpOk (cvK (l.map RL.key)) (VK (l.map RL.key)) w0.heap.size g w := fun wr hk x y hx hy =>
  orderCmp_any A l cap w0 wr hA hin hl (KeptO.blw hb hk (fun i hi => by subst hi; simp; omega)) x y hx hy
end Go.Proofs.Ytigkfdoeneemeab
/- office.Order. -/
namespace Go.Proofs.Ytigkfdoeneemeab
open Go.RowKit

set_option maxHeartbeats 1000000 in
theorem insertion_nil (fv : Value) (w : World) : Calls Try.prog 53 #[.slice none 0 0, .int .i64 0, .int .i64 0, fv] w fun e w' => e = .returned (.tuple #[]) ∧ w' = w := by
  go_enter Try.func53, Try.ntmps53
  go_wp2
  go_loopw [8] (fun vi wr => vi = .int .i64 1 ∧ wr = w) (fun _ _ => 0)
  case atStart => exact ⟨rfl, rfl⟩
  case round =>
    obtain ⟨rfl, rfl⟩ := hrel
    go_wp2
    go_end0
    exact ⟨rfl, rfl⟩
set_option maxHeartbeats 1000000 in
theorem stable_nil (fv : Value) (w : World) : Calls Try.prog 37 #[.slice none 0 0, .int .i64 0, fv] w fun e w' => e = .returned (.tuple #[]) ∧ w' = w := by
  go_enter Try.func37, Try.ntmps37
  go_wp2
  go_loopw [7, 8] (fun va vb wr => va = .int .i64 0 ∧ vb = .int .i64 20 ∧ wr = w) (fun _ _ _ => 0)
  case atStart => exact ⟨rfl, rfl, rfl⟩
  case round =>
    obtain ⟨rfl, rfl, rfl⟩ := hrel
    go_wp2_with fail
    refine Calls.mono (insertion_nil _ _) ?_
    rintro e w1 ⟨rfl, rfl⟩
    go_wp2
    go_loopw [6] (fun va wr => va = .int .i64 20 ∧ wr = w1) (fun _ _ => 0)
    case atStart => exact ⟨rfl, rfl⟩
    case round =>
      obtain ⟨rfl, rfl⟩ := hrel
      go_wp2
      go_end0
      exact ⟨rfl, rfl⟩
set_option maxHeartbeats 1000000 in
theorem sort_nil (fv : Value) (w : World) : Calls Try.prog 25 #[.slice none 0 0, fv] w fun e w' => e = .returned (.tuple #[]) ∧ w' = w := by
  go_enter Try.func25, Try.ntmps25
  go_wp2_with fail
  refine Calls.mono (stable_nil _ _) ?_
  rintro e w1 ⟨rfl, rfl⟩
  go_wp2
  go_end0
  exact ⟨rfl, rfl⟩

set_option maxRecDepth 100000 in
set_option maxHeartbeats 4000000 in
theorem order_any (A : Option Addr) (l : List RL) (cap : Nat) (w : World) (hA : Arr w A (rls l)) (hin : ∀ x ∈ l, RL.In w x) (hl : l.length ≤ 100000) :
    Calls Try.prog 10 #[.slice A l.length cap] w (OrdPost w (l.map RL.key) l.length) := by
  have HIN := Lib.hid hin
  have HCO := Lib.hid (fun (g : Nat) (W : World) (hb : Blw (w.alloc (.cells #[.slice A l.length cap] 22)) W) (hg : w.heap.size < g) => orderCmpOk A l cap g w W hA hin hl hb hg)
  have wsz : (w.alloc (.cells #[.slice A l.length cap] 22)).heap.size = w.heap.size + 1 := by simp
  have WSZ := Lib.hid wsz
  clear hin wsz
  go_enter Try.func10, Try.ntmps10
  go_wp2
  go_loopw [3, 4, 5, 8] (fun v3 _ _ vi wr => ∃ k : Nat, k ≤ l.length ∧ vi = .int .i64 k ∧ Blw (w.alloc (.cells #[.slice A l.length cap] 22)) wr ∧ wr.ownsRow (w.heap.size + 1) 3 1 v3 (outK (l.map RL.key) k).length (i64s (outK (l.map RL.key) k)) ∧ (outK (l.map RL.key) k = [] → v3 = .slice none 0 0)) (fun _ _ _ i _ => l.length - (intOf i).toNat)
  case atStart => exact ⟨0, Nat.zero_le _, rfl, Blw.refl _, World.ownsRow_nil _ _ _ _, fun _ => rfl⟩
  case round =>
    obtain ⟨k, hk, rfl, hb1, hown, hnil⟩ := hrel
    have hb : Blw w wr := ((Blw.refl w).alloc _).trans hb1
    by_cases hlt : k < l.length
    · obtain ⟨x, b, o, hgx, hmx, e1, hbs, c0, c1, c2, c3, c4, c5, c6, c7, c8, c9, c10, c11⟩ := rl_at (hA.blw hb) hlt
      have hxin := (HIN.out x hmx).blw hb
      have hst : outK (l.map RL.key) (k + 1) = if cntF x.er x.hi.r = true then outK (l.map RL.key) k ++ [(k : Int)] else outK (l.map RL.key) k := by
        rw [outK]; unfold cntK; rw [keys_at hgx]; rfl
      have CK := Lib.hid (fun (W : World) (hW : Blw wr W) => ratioCheck_any x.hi.r x.hi.a x.hi.c x.hi.b x.hi.d W ((hxin.hi).blw hW))
      have HST := Lib.hid hst
      have ol := outK_len (l.map RL.key) k
      subst e1
      clear hst hxin hgx hmx
      obtain ⟨nm, er, wa, wn, wc, ⟨⟨hn, hnum, hden⟩, ha, hc, hb', hd⟩, hat, ⟨⟨ln, lnum, lden⟩, la, lc, lb, ld⟩, lat, off⟩ := x
      simp only at HST CK c0 c1 c2 c3 c4 c5 c6 c7 c8 c9 c10 c11
      generalize hfk : outK (l.map RL.key) k = fk at *
      clear hfk
      by_cases her : er = 0
      · subst her
        go_wp2_with fail
        refine Calls.mono (CK.out _ (by repeat (first | exact Blw.refl _ | apply Blw.ext | apply Blw.alloc | apply Blw.drewN | apply Blw.drew | refine Blw.setCell ?_ _ _ (by simp)))) ?_
        rintro e w2 ⟨rfl, x2, rfl⟩
        have hcc : cntF 0 ⟨hn, hnum, hden⟩ = (chkF ⟨hn, hnum, hden⟩ == 0) := by unfold cntF; simp
        have HST2 := Lib.hid (hcc ▸ HST.out)
        clear HST CK hcc
        generalize chkF _ = ck at *
        by_cases hck : ck = 0
        · subst hck
          have HS3 : Hid (outK (l.map RL.key) (k + 1) = fk ++ [(k : Int)]) := HST2.out
          clear HST2
          go_wp2_with (at_builtin; refine wpList_app (w.alloc (.cells #[.slice (some ⟨b, o, none⟩) l.length cap] 22)) _ rfl _ _ 35 rfl sl_is (hb1.trans (by repeat (first | exact Blw.refl _ | apply Blw.ext | apply Blw.alloc | apply Blw.drewN | apply Blw.drew | refine Blw.setCell ?_ _ _ (by simp)))) _ fk.length _ rfl (by rw [WSZ.out]; exact ownsRow_blw hown (by repeat (first | exact Blw.refl _ | apply Blw.ext | apply Blw.alloc | apply Blw.drewN | apply Blw.drew | refine Blw.setCell ?_ _ _ (by simp)))) _ 1 1 [.int .i64 (k : Int)] rfl (by simp) (Arr.lit_at _ _ _ _ (by simp)) (by simp) (by simp [Value.oneCell']) (by unfold maxLen; omega) (by omega) ?_; intro v7 w7 hown7 hb7 hg7 hn7)
          rw [WSZ.out] at hown7
          go_roundw
          case rel => exact ⟨k + 1, hlt, by go_num, hb7, by rw [HS3.out, List.length_append]; simpa using hown7, fun h => by rw [HS3.out] at h; simp at h⟩
          case measure => simp [intOf]; omega
        · have HS3 : Hid (outK (l.map RL.key) (k + 1) = fk) := by
            have := HST2.out
            rwa [if_neg (by simpa using hck)] at this
          have q : (ck == 0) = false := by simpa using hck
          clear HST2 hck
          go_wp2
          go_roundw
          case rel => exact ⟨k + 1, hlt, by go_num, hb1.trans (by repeat (first | exact Blw.refl _ | apply Blw.ext | apply Blw.alloc | apply Blw.drewN | apply Blw.drew | refine Blw.setCell ?_ _ _ (by simp))), by rw [HS3.out]; exact ownsRow_blw hown (by repeat (first | exact Blw.refl _ | apply Blw.ext | apply Blw.alloc | apply Blw.drewN | apply Blw.drew | refine Blw.setCell ?_ _ _ (by simp))), fun h => by rw [HS3.out] at h; exact hnil h⟩
          case measure => simp [intOf]; omega
      · have HS3 : Hid (outK (l.map RL.key) (k + 1) = fk) := by
          have := HST.out
          rwa [if_neg (by unfold cntF; simp [her])] at this
        have q : (er == 0) = false := by simpa using her
        clear HST her
        go_wp2
        go_roundw
        case rel => exact ⟨k + 1, hlt, by go_num, hb1.trans (by repeat (first | exact Blw.refl _ | apply Blw.ext | apply Blw.alloc | apply Blw.drewN | apply Blw.drew | refine Blw.setCell ?_ _ _ (by simp))), by rw [HS3.out]; exact ownsRow_blw hown (by repeat (first | exact Blw.refl _ | apply Blw.ext | apply Blw.alloc | apply Blw.drewN | apply Blw.drew | refine Blw.setCell ?_ _ _ (by simp))), fun h => by rw [HS3.out] at h; exact hnil h⟩
        case measure => simp [intOf]; omega
    · have hkl : k = l.length := by omega
      subst hkl
      have ol := outK_len (l.map RL.key) l.length
      by_cases h0 : outK (l.map RL.key) l.length = []
      · have hv := hnil h0
        subst hv
        go_wp2_with fail
        refine Calls.mono (sort_nil _ _) ?_
        rintro e w2 ⟨rfl, rfl⟩
        go_wp2
        go_ret
        refine ⟨[], ⟨by rw [h0], List.Pairwise.nil⟩, RetOwn.of ?_ hb⟩
        exact World.ownsRow_nil _ _ _ _
      · have hlen : 0 < (outK (l.map RL.key) l.length).length := List.length_pos_iff.2 h0
        obtain ⟨g, rest, rfl, hg, hrow, hcl, hml⟩ := Rw.of_own hown hlen
        have hs := sortStable_any (cvK (l.map RL.key)) (VK (l.map RL.key)) (fitK _) w.heap.size g (outK (l.map RL.key) l.length) rest _ ((outK (l.map RL.key) l.length).length + rest.length) wr hrow rfl (by omega) (fun x hx => (outK_mem _ _ x hx).1) (outK_inc _ _) (fun x y _ _ => cvK_b _ x y) (HCO.out g wr hb1 (by omega))
        have HS := Lib.hid hs
        clear hs hown hnil hrow h0
        go_wp2_with fail
        refine Calls.mono HS.out ?_
        rintro e w2 ⟨rfl, kp, D, hd, hp, hso⟩
        have HP := Lib.hid hp
        have HSO := Lib.hid hso
        have hb2 : Blw w w2 := KeptO.blw hb kp (fun i hi => by subst hi; omega)
        have pl : D.length = (outK (l.map RL.key) l.length).length := hp.length_eq
        clear hp hso
        go_wp2
        go_ret
        refine ⟨D, ⟨HP.out, HSO.out⟩, RetOwn.of ?_ hb2⟩
        have := Rw.own hd (B := w.heap.size) (n := D.length) (by omega) (by simp) (by simp; unfold maxLen at *; omega)
        rw [List.take_left' (by simp)] at this
        simpa [pl] using this
end Go.Proofs.Ytigkfdoeneemeab
/- The reference's Order. -/
namespace Go.Proofs.Ytigkfdoeneemeab
open Go.RowKit

theorem OrdK.next {K : List KF} {k : Nat} {D : List Int} {j : Nat} (h : OrdK K k D) (hc : cntK K KF.hi k = true) (_ : j ≤ D.length) (hw : ∀ y ∈ D.drop j, cvK K (k : Int) y < 0) (he : j = 0 ∨ ∃ u, D[j - 1]? = some u ∧ ¬ cvK K (k : Int) u < 0) : OrdK K (k + 1) (D.take j ++ (k : Int) :: D.drop j) := by
  have hv : ∀ y ∈ D.take j ++ D.drop j, VK K y ∧ y < k := fun y hy => outK_mem K k y (h.perm.subset (by rwa [List.take_append_drop] at hy))
  constructor
  · rw [outK, if_pos hc]
    refine List.perm_middle.trans ?_
    rw [List.take_append_drop]
    exact (h.perm.cons _).trans (List.perm_append_singleton _ _).symm
  · refine Srt.ins_end (fitK K) (fun y hy => (hv y hy).1) (cntK_iff.1 hc) (by rw [List.take_append_drop]; exact h.sort) (fun y hy => .inl (hw y hy)) (fun y hy => (hv y hy).2) ?_
    rcases he with he | ⟨u, hu, c⟩
    · left; rw [he]; rfl
    · by_cases j0 : j = 0
      · left; rw [j0]; rfl
      · right
        have hl := (List.getElem?_eq_some_iff.1 hu).1
        refine ⟨D.take (j - 1), u, ?_, c⟩
        have := List.take_succ_eq_append_getElem hl
        rw [show j - 1 + 1 = j by omega] at this
        rw [this]
        congr 1
        have := (List.getElem?_eq_some_iff.1 hu).2
        rw [this]
theorem OrdK.skip {K : List KF} {k : Nat} {D : List Int} (h : OrdK K k D) (hc : ¬ cntK K KF.hi k = true) : OrdK K (k + 1) D := ⟨by rw [outK, if_neg hc]; exact h.perm, h.sort⟩
theorem drop_step {D : List Int} {j : Nat} {u : Int} (hj : 0 < j) (hu : D[j - 1]? = some u) {P : Int → Prop} (h : ∀ y ∈ D.drop j, P y) (hp : P u) : ∀ y ∈ D.drop (j - 1), P y := by
  have hl := (List.getElem?_eq_some_iff.1 hu).1
  intro y hy
  rw [List.drop_eq_getElem_cons hl, show j - 1 + 1 = j by omega] at hy
  rcases List.mem_cons.1 hy with rfl | hy
  · have := (List.getElem?_eq_some_iff.1 hu).2
    rw [this]; exact hp
  · exact h y hy
theorem abv_cv {K : List KF} {k m : Nat} {a b : KF} (ha : K[k]? = some a) (hb : K[m]? = some b) (oa : a.hi.Ok) (ob : b.hi.Ok) : abvF a.hi b.hi = decide (cvK K (k : Int) (m : Int) < 0) := by
  rw [cvK_ok (by rw [Int.toNat_natCast]; exact ha) (by rw [Int.toNat_natCast]; exact hb) oa ob]
  unfold abvF
  rw [cmpA_ok oa ob, cmpF_swap oa ob]
  exact decide_eq_decide.2 (by omega)
theorem Arr.cutI {w : World} {b o : Nat} {l : List Int} (h : Arr w (some ⟨b, o, none⟩) (i64s l)) (q : Nat) : Arr w (some ⟨b, o + q, none⟩) (i64s (l.drop q)) := by
  rcases h with h | ⟨b', o', e, hb, hc⟩
  · left
    have : l = [] := by simpa using h
    subst this; simp
  · cases e
    refine .inr ⟨b, o + q, rfl, hb, fun i hi => ?_⟩
    have hi' : i < l.length - q := by simpa using hi
    have := hc (q + i) (by simp; omega)
    rw [Nat.add_assoc, this]
    simp
theorem Arr.preI {w : World} {a : Option Addr} {l : List Int} (h : Arr w a (i64s l)) (q : Nat) : Arr w a (i64s (l.take q)) := h.pre ((List.take_prefix q l).map _)

theorem own_ins {w : World} {B j : Nat} {v : Value} {D : List Int} {k : Int} (hj : j ≤ D.length) (h : w.ownsRow B 3 1 v (0 + j + 1 + (D.length - j)) (([] ++ i64s (D.take j)) ++ [.int .i64 k] ++ i64s (D.drop j))) :
    w.ownsRow B 3 1 v (D.take j ++ k :: D.drop j).length (i64s (D.take j ++ k :: D.drop j)) := by
  have e1 : (D.take j ++ k :: D.drop j).length = 0 + j + 1 + (D.length - j) := by simp; omega
  have e2 : i64s (D.take j ++ k :: D.drop j) = ([] ++ i64s (D.take j)) ++ [.int .i64 k] ++ i64s (D.drop j) := by simp
  rw [e1, e2]; exact h

set_option maxRecDepth 100000 in
set_option maxHeartbeats 8000000 in
theorem refOrder31_any (A : Option Addr) (l : List RL) (cap : Nat) (w : World) (hA : Arr w A (rls l)) (hin : ∀ x ∈ l, RL.In w x) (hl : l.length ≤ 100000) :
    Calls Try.prog 12 #[.slice A l.length cap] w (OrdPost w (l.map RL.key) l.length) := by
  have HIN := Lib.hid hin
  clear hin
  go_enter Try.func12, Try.ntmps12
  go_wp2
  go_loopw [3, 4] (fun v3 vi wr => ∃ (k : Nat) (D : List Int), k ≤ l.length ∧ vi = .int .i64 k ∧ Blw w wr ∧ Hid (OrdK (l.map RL.key) k D) ∧ wr.ownsRow w.heap.size 3 1 v3 D.length (i64s D) ∧ (D = [] → v3 = .slice none 0 0)) (fun _ i _ => l.length - (intOf i).toNat)
  case atStart => exact ⟨0, [], Nat.zero_le _, rfl, Blw.refl _, ⟨List.Perm.refl _, List.Pairwise.nil⟩, World.ownsRow_nil _ _ _ _, fun _ => rfl⟩
  case round =>
    obtain ⟨k, D, hk, rfl, hb, hD, hown, hnil⟩ := hrel
    by_cases hlt : k < l.length
    · obtain ⟨x, b, o, hgx, hmx, e1, hbs, c0, c1, c2, c3, c4, c5, c6, c7, c8, c9, c10, c11⟩ := rl_at (hA.blw hb) hlt
      have hxin := (HIN.out x hmx).blw hb
      have CK := Lib.hid (fun (W : World) (hW : Blw wr W) => refCounts_any x x.hi W ((hxin.hi).blw hW))
      have hct : cntK (l.map RL.key) KF.hi k = cntF x.er x.hi.r := by unfold cntK; rw [keys_at hgx]; rfl
      have HB : Hid (cntF x.er x.hi.r = true → ∀ u : Int, u ∈ D → ∃ (m : Nat) (y : RL), u = (m : Int) ∧ m < l.length ∧ (∀ j, j < 12 → wr.cell? ⟨b, o + m * 12 + j, none⟩ = y.cells[j]?) ∧
          (∀ W : World, Blw wr W → Calls Try.prog 21 #[frV x.hi.r x.hi.a x.hi.c x.hi.b x.hi.d, frV y.hi.r y.hi.a y.hi.c y.hi.b y.hi.d] W fun e w' => e = .returned (.bool (decide (cvK (l.map RL.key) (k : Int) u < 0))) ∧ ∃ z, w' = W.ext z)) := by
        intro hc u hu
        obtain ⟨⟨u0, a, hua, -, oa⟩, -⟩ := outK_mem _ _ u (hD.out.perm.subset hu)
        obtain ⟨m, rfl⟩ : ∃ m : Nat, u = (m : Int) := ⟨u.toNat, by omega⟩
        rw [Int.toNat_natCast] at hua
        have hm : m < l.length := by have := (List.getElem?_eq_some_iff.1 hua).1; simpa using this
        obtain ⟨y, b2, o2, hgy, hmy, e3, hbs2, hcs⟩ := cells_arr RL.cells 12 (fun _ => rfl) (by decide) (hA.blw hb) hm
        rw [e1] at e3
        simp only [Option.some.injEq, Addr.mk.injEq] at e3
        obtain ⟨rfl, rfl, -⟩ := e3
        obtain ⟨-, a', ha', -, oa'⟩ := cntK_iff.1 (hct.trans hc)
        rw [Int.toNat_natCast] at ha'
        refine ⟨m, y, rfl, hm, hcs, fun W hW => ?_⟩
        rw [← abv_cv ha' hua oa' oa]
        have k1 := ha'.symm.trans (keys_at hgx)
        have k2 := hua.symm.trans (keys_at hgy)
        simp only [Option.some.injEq] at k1 k2
        rw [k1, k2]
        exact refHigher_any x.hi y.hi W ((hxin.hi).blw hW) ((((HIN.out y hmy).blw hb).hi).blw hW)
      have HCT := Lib.hid hct
      have dk : D.length ≤ k := by rw [hD.out.perm.length_eq]; exact outK_len _ _
      subst e1
      clear hxin hgx hmx hct
      obtain ⟨nm, er, wa, wn, wc, ⟨⟨hn, hnum, hden⟩, ha, hc, hb', hd⟩, hat, ⟨⟨ln, lnum, lden⟩, la, lc, lb, ld⟩, lat, off⟩ := x
      simp only at HB CK HCT c0 c1 c2 c3 c4 c5 c6 c7 c8 c9 c10 c11
      generalize cntF er ⟨hn, hnum, hden⟩ = ct at *
      cases ct with
      | false =>
        clear HB
        go_wp2
        refine wp_region_ext_lit (by kernel_rfl) (by kernel_rfl) ?_
        repeat (go_big_quiet_step ((go_at_call 20; exact Calls.ext_of (CK.out _ (by repeat (first | exact Blw.refl _ | apply Blw.ext | apply Blw.alloc | apply Blw.drewN | apply Blw.drew | refine Blw.setCell ?_ _ _ (by simp)))))))
        refine wpQuiet_nil ?_
        rintro _ ⟨z, rfl⟩
        go_wp2
        go_roundw
        case rel => exact ⟨k + 1, D, hlt, by go_num, hb.trans (by repeat (first | exact Blw.refl _ | apply Blw.ext | apply Blw.alloc | apply Blw.drewN | apply Blw.drew | refine Blw.setCell ?_ _ _ (by simp))), hD.out.skip (by rw [HCT.out]; simp), ownsRow_blw hown (by repeat (first | exact Blw.refl _ | apply Blw.ext | apply Blw.alloc | apply Blw.drewN | apply Blw.drew | refine Blw.setCell ?_ _ _ (by simp))), hnil⟩
        case measure => simp [intOf]; omega
      | true =>
        have HB2 := Lib.hid (HB.out rfl)
        clear HB
        obtain ⟨wO, rfl⟩ : ∃ wO, wO = wr := ⟨_, rfl⟩
        by_cases hD0 : D = []
        · have hv := hnil hD0
          subst hv hD0
          have fin := hD.out.next (j := 0) (HCT.out) (Nat.le_refl _) (by simp) (.inl rfl)
          have FIN := Lib.hid fin
          clear fin hown hD
          go_wp2
          refine wp_region_ext_lit (by kernel_rfl) (by kernel_rfl) ?_
          repeat (go_big_quiet_step ((go_at_call 20; exact Calls.ext_of (CK.out _ (by repeat (first | exact Blw.refl _ | apply Blw.ext | apply Blw.alloc | apply Blw.drewN | apply Blw.drew | refine Blw.setCell ?_ _ _ (by simp)))))))
          refine wpQuiet_nil ?_
          rintro _ ⟨z, rfl⟩
          go_wp2
          go_loopw [5] (fun vj wr => vj = .int .i64 0 ∧ Blw wO wr) (fun j _ => (intOf j).toNat)
          case atStart => exact ⟨rfl, (by repeat (first | exact Blw.refl _ | apply Blw.ext | apply Blw.alloc | apply Blw.drewN | apply Blw.drew | refine Blw.setCell ?_ _ _ (by simp)))⟩
          case round =>
            obtain ⟨rfl, hbj⟩ := hrel
            go_wp2
            refine wp_region_ext_lit (by kernel_rfl) (by kernel_rfl) ?_
            repeat (go_big_quiet_step (fail))
            refine wpQuiet_nil ?_
            rintro _ ⟨z2, rfl⟩
            have hbw : Blw w wr := hb.trans hbj
            go_wp2_with (first
              | (at_builtin; refine wpList_app w _ rfl _ _ 35 rfl sl_is (hbw.trans (by repeat (first | exact Blw.refl _ | apply Blw.ext | apply Blw.alloc | apply Blw.drewN | apply Blw.drew | refine Blw.setCell ?_ _ _ (by simp)))) (.slice none 0 0) 0 [] rfl (World.ownsRow_nil _ _ _ _) _ 1 1 [.int .i64 (k : Int)] rfl (by simp) (Arr.lit_at _ _ _ _ (by simp)) (by simp) (by simp [Value.oneCell']) (by unfold maxLen; omega) (by omega) ?_; intro v7 w7 hown7 hb7 hg7 hn7)
              | (at_builtin; refine wpList_app w _ rfl _ _ 35 rfl sl_is hb7 v7 (0 + 1) _ rfl hown7 none 0 0 [] rfl (fun _ => rfl) (Arr.nil _ _) rfl (by simp) (by unfold maxLen; omega) (by omega) ?_; intro v8 w8 hown8 hb8 hg8 hn8))
            go_roundw
            case rel => exact ⟨k + 1, [(k : Int)], hlt, by go_num, hb8, FIN.out, by simpa using hown8, fun h => by cases h⟩
            case measure => simp [intOf]; omega
        · have hlen : 0 < D.length := List.length_pos_iff.2 hD0
          have hd := hown
          obtain ⟨g, rest, rfl, hg, hrow, hcl, hml⟩ := Rw.of_own hown hlen
          have hgl : g < wO.heap.size := Rw.lt hrow
          have harr : Arr wO (some ⟨g, 0, none⟩) (i64s D) := by
            have := Rw.arr hrow
            exact this.pre (List.prefix_append _ _)
          clear hown hnil hD0 hd
          go_wp2
          refine wp_region_ext_lit (by kernel_rfl) (by kernel_rfl) ?_
          repeat (go_big_quiet_step ((go_at_call 20; exact Calls.ext_of (CK.out _ (by repeat (first | exact Blw.refl _ | apply Blw.ext | apply Blw.alloc | apply Blw.drewN | apply Blw.drew | refine Blw.setCell ?_ _ _ (by simp)))))))
          refine wpQuiet_nil ?_
          rintro _ ⟨z, rfl⟩
          go_wp2
          go_loopw [5] (fun vj wr => ∃ j : Nat, vj = .int .i64 j ∧ j ≤ D.length ∧ Blw wO wr ∧ Hid (∀ y ∈ D.drop j, cvK (l.map RL.key) (k : Int) y < 0)) (fun j _ => (intOf j).toNat)
          case atStart => exact ⟨D.length, rfl, Nat.le_refl _, (by repeat (first | exact Blw.refl _ | apply Blw.ext | apply Blw.alloc | apply Blw.drewN | apply Blw.drew | refine Blw.setCell ?_ _ _ (by simp))), by (show ∀ y ∈ _, _); rw [List.drop_length]; simp⟩
          case round =>
            obtain ⟨j, rfl, hj, hbj, hdr⟩ := hrel
            have hbw : Blw w wr := hb.trans hbj
            have fin : (j = 0 ∨ ∃ u, D[j - 1]? = some u ∧ ¬ cvK (l.map RL.key) (k : Int) u < 0) → OrdK (l.map RL.key) (k + 1) (D.take j ++ (k : Int) :: D.drop j) := fun he => hD.out.next HCT.out hj hdr.out he
            have FIN := Lib.hid fin
            clear fin
            by_cases hj0 : 0 < j
            · obtain ⟨u, hu⟩ : ∃ u, D[j - 1]? = some u := ⟨D[j - 1]'(by omega), List.getElem?_eq_getElem _⟩
              obtain ⟨m, y, rfl, hm, hcs, hcall⟩ := HB2.out u (List.mem_of_getElem? hu)
              have HC := Lib.hid hcall
              have q1 : wr.cell? ⟨g, j - 1, none⟩ = some (.int .i64 (m : Int)) := by
                rw [Below.cell hbj hgl]
                refine Rw.cell hrow ?_
                rw [List.getElem?_append_left (by simp; omega), List.getElem?_map, hu]; rfl
              have e7 : (j : Int) - 1 = ((j - 1 : Nat) : Int) := by omega
              obtain ⟨ynm, yer, ywa, ywn, ywc, ⟨⟨yhn, yhnum, yhden⟩, yha, yhc, yhb, yhd⟩, yhat, ylw, ylat, yoff⟩ := y
              have g3 := (Below.cell hbj hbs).trans ((hcs 3 (by decide)).trans rfl)
              have g4 := (Below.cell hbj hbs).trans ((hcs 4 (by decide)).trans rfl)
              have g5 := (Below.cell hbj hbs).trans ((hcs 5 (by decide)).trans rfl)
              replace c3 := (Below.cell hbj hbs).trans c3
              replace c4 := (Below.cell hbj hbs).trans c4
              replace c5 := (Below.cell hbj hbs).trans c5
              simp only [RL.cells, List.getElem?_cons_zero, List.getElem?_cons_succ] at g3 g4 g5
              simp only at HC
              have hbsr : b < wr.heap.size := Nat.lt_of_lt_of_le hbs hbj.size
              have hglr : g < wr.heap.size := Nat.lt_of_lt_of_le hgl hbj.size
              have HU := Lib.hid hu
              clear hcs hcall hu
              generalize hcv : cvK (l.map RL.key) (k : Int) (m : Int) = cv at *
              have HCV := Lib.hid hcv
              clear hcv
              by_cases c : cv < 0
              · have cd : decide (cv < 0) = true := by simpa using c
                rw [cd] at HC
                go_wp2
                refine wp_region_ext_lit (by kernel_rfl) (by kernel_rfl) ?_
                repeat (go_big_quiet_step ((go_at_call 21; exact Calls.ext_of (HC.out _ (hbj.trans (by repeat (first | exact Blw.refl _ | apply Blw.ext | apply Blw.alloc | apply Blw.drewN | apply Blw.drew | refine Blw.setCell ?_ _ _ (by simp))))))))
                refine wpQuiet_nil ?_
                rintro _ ⟨z2, rfl⟩
                go_wp2
                go_roundw
                case rel => exact ⟨j - 1, rfl, by omega, hbj.trans (by repeat (first | exact Blw.refl _ | apply Blw.ext | apply Blw.alloc | apply Blw.drewN | apply Blw.drew | refine Blw.setCell ?_ _ _ (by simp))), drop_step hj0 HU.out hdr.out (by rw [HCV.out]; exact c)⟩
                case measure => simp [intOf]; omega
              · have cd : decide (cv < 0) = false := by simpa using c
                rw [cd] at HC
                have fin := FIN.out (.inr ⟨m, HU.out, by rw [HCV.out]; exact c⟩)
                have FIN2 := Lib.hid fin
                clear FIN fin
                rcases (by omega : D.length + rest.length = j ∨ ¬ D.length + rest.length = j) with hq | hq
                all_goals
                  go_wp2
                  refine wp_region_ext_lit (by kernel_rfl) (by kernel_rfl) ?_
                  repeat (go_big_quiet_step ((go_at_call 21; exact Calls.ext_of (HC.out _ (hbj.trans (by repeat (first | exact Blw.refl _ | apply Blw.ext | apply Blw.alloc | apply Blw.drewN | apply Blw.drew | refine Blw.setCell ?_ _ _ (by simp))))))))
                  refine wpQuiet_nil ?_
                  rintro _ ⟨z2, rfl⟩
                  go_wp2_with (first
                    | (at_builtin; refine wpList_app wO _ rfl _ _ 35 rfl sl_is (hbj.trans (by repeat (first | exact Blw.refl _ | apply Blw.ext | apply Blw.alloc | apply Blw.drewN | apply Blw.drew | refine Blw.setCell ?_ _ _ (by simp)))) (.slice none 0 0) 0 [] rfl (World.ownsRow_nil _ _ _ _) (some ⟨g, 0, none⟩) j _ (i64s (D.take j)) rfl (fun h => by cases h) (Arr.preI (harr.blw (hbj.trans (by repeat (first | exact Blw.refl _ | apply Blw.ext | apply Blw.alloc | apply Blw.drewN | apply Blw.drew | refine Blw.setCell ?_ _ _ (by simp))))) j) (by simp; omega) (i64s_one _) (by unfold maxLen; omega) (by omega) ?_; intro v7 w7 hown7 hb7 hg7 hn7)
                    | (at_builtin; refine wpList_app wO _ rfl _ _ 35 rfl sl_is (hb7.alloc _) v7 (0 + j) _ rfl (ownsRow_blw hown7 ((Blw.refl _).alloc _)) _ 1 1 [.int .i64 (k : Int)] rfl (by simp) (Arr.lit_at _ _ _ _ (by simp)) (by simp) (by simp [Value.oneCell']) (by unfold maxLen; omega) (by omega) ?_; intro v8 w8 hown8 hb8 hg8 hn8)
                    | (at_builtin; refine wpList_app wO _ rfl _ _ 35 rfl sl_is hb8 v8 (0 + j + 1) _ rfl hown8 (some ⟨g, j, none⟩) (D.length - j) _ (i64s (D.drop j)) rfl (fun h => by cases h) (by have := Arr.cutI (harr.blw hb8) j; simpa using this) (by simp) (i64s_one _) (by unfold maxLen; omega) (by omega) ?_; intro v9 w9 hown9 hb9 hg9 hn9)
                    | (at_builtin; refine wpList_app wO _ rfl _ _ 35 rfl sl_is hb8 v8 (0 + j + 1) _ rfl hown8 (some ⟨g, 0, none⟩) (D.length - j) _ (i64s (D.drop j)) rfl (fun h => by cases h) (by rw [List.drop_of_length_le (by omega)]; exact Arr.nil _ _) (by simp) (i64s_one _) (by unfold maxLen; omega) (by omega) ?_; intro v9 w9 hown9 hb9 hg9 hn9))
                  all_goals go_roundw
                  all_goals first | (simp [intOf]; omega; done) | skip
                  all_goals exact ⟨k + 1, D.take j ++ (k : Int) :: D.drop j, hlt, by go_num, hb.trans hb9, FIN2.out, ownsRow_mono (own_ins hj hown9) hb.size, fun h => by simp at h⟩
            · have hj1 : j = 0 := by omega
              have fin := FIN.out (.inl hj1)
              have FIN2 := Lib.hid fin
              clear FIN fin
              have HJ := Lib.hid hj1
              have jd : decide ((0 : Int) < (j : Int)) = false := by simp; omega
              clear hj1
              go_wp2
              refine wp_region_ext_lit (by kernel_rfl) (by kernel_rfl) ?_
              repeat (go_big_quiet_step (fail))
              refine wpQuiet_nil ?_
              rintro _ ⟨z2, rfl⟩
              go_wp2_with (first
                | (at_builtin; refine wpList_app wO _ rfl _ _ 35 rfl sl_is (hbj.trans (by repeat (first | exact Blw.refl _ | apply Blw.ext | apply Blw.alloc | apply Blw.drewN | apply Blw.drew | refine Blw.setCell ?_ _ _ (by simp)))) (.slice none 0 0) 0 [] rfl (World.ownsRow_nil _ _ _ _) (some ⟨g, 0, none⟩) j _ (i64s (D.take j)) rfl (fun h => by cases h) (Arr.preI (harr.blw (hbj.trans (by repeat (first | exact Blw.refl _ | apply Blw.ext | apply Blw.alloc | apply Blw.drewN | apply Blw.drew | refine Blw.setCell ?_ _ _ (by simp))))) j) (by simp; omega) (i64s_one _) (by unfold maxLen; omega) (by omega) ?_; intro v7 w7 hown7 hb7 hg7 hn7)
                | (at_builtin; refine wpList_app wO _ rfl _ _ 35 rfl sl_is (hb7.alloc _) v7 (0 + j) _ rfl (ownsRow_blw hown7 ((Blw.refl _).alloc _)) _ 1 1 [.int .i64 (k : Int)] rfl (by simp) (Arr.lit_at _ _ _ _ (by simp)) (by simp) (by simp [Value.oneCell']) (by unfold maxLen; omega) (by omega) ?_; intro v8 w8 hown8 hb8 hg8 hn8)
                | (at_builtin; refine wpList_app wO _ rfl _ _ 35 rfl sl_is hb8 v8 (0 + j + 1) _ rfl hown8 (some ⟨g, j, none⟩) (D.length - j) _ (i64s (D.drop j)) rfl (fun h => by cases h) (by have := Arr.cutI (harr.blw hb8) j; simpa using this) (by simp) (i64s_one _) (by unfold maxLen; omega) (by omega) ?_; intro v9 w9 hown9 hb9 hg9 hn9)
                  | (at_builtin; refine wpList_app wO _ rfl _ _ 35 rfl sl_is hb8 v8 (0 + j + 1) _ rfl hown8 (some ⟨g, 0, none⟩) (D.length - j) _ (i64s (D.drop j)) rfl (fun h => by cases h) (by rw [List.drop_of_length_le (by omega)]; exact Arr.nil _ _) (by simp) (i64s_one _) (by unfold maxLen; omega) (by omega) ?_; intro v9 w9 hown9 hb9 hg9 hn9))
              all_goals go_roundw
              all_goals first | (simp [intOf]; omega; done) | skip
              all_goals exact ⟨k + 1, D.take j ++ (k : Int) :: D.drop j, hlt, by go_num, hb.trans hb9, FIN2.out, ownsRow_mono (own_ins hj hown9) hb.size, fun h => by simp at h⟩
    · have hkl : k = l.length := by omega
      subst hkl
      go_wp2
      go_ret
      exact ⟨D, hD.out, RetOwn.of hown hb⟩
end Go.Proofs.Ytigkfdoeneemeab
/- The walk of the law OfficeRanks: the reports that are lent. -/
namespace Go.Proofs.Ytigkfdoeneemeab
open Go.RowKit

theorem sl_reports : SlT Try.prog 22 31 (.agg #[.string ByteArray.empty, .int .i64 0, .slice none 0 0, .bool false, .slice none 0 0, .slice none 0 0, .int .i64 0, .bool false, .slice none 0 0, .slice none 0 0, .int .i64 0, .float .f64 0]) 12 184 := ⟨Try.underlying22, by kernel_rfl, by kernel_rfl, by decide⟩
theorem smF_len' {r : Fr} (h : smF r = true) : r.num.length ≤ 1000000 ∧ r.den.length ≤ 1000000 := by
  unfold smF smW at h
  simp at h
  omega
/-- The reports as they are lent. -/
structure Lent (B : Nat) (w : World) (x : RL) : Prop where
  hi : LentFL B w x.hi
  lw : LentFL B w x.lw
theorem Lent.blw {B : Nat} {w w' : World} {x : RL} (h : Lent B w x) (k : Blw w w') : Lent B w' x := ⟨h.hi.blw k, h.lw.blw k⟩
theorem Lent.in {B : Nat} {w : World} {x : RL} (h : Lent B w x) : RL.In w x := ⟨h.hi.in, h.lw.in⟩
theorem Lent.past {B B2 n2 size2 : Nat} {e2 : TypeId} {w w' : World} {v2 : Value} {cs2 : List Value} {x : RL} (h : Lent B w x) (k : w.ownsRow B2 e2 size2 v2 n2 cs2) (hne : (54 : TypeId) ≠ e2) (hg : w.grownBy w' v2.ownBlock) : Lent B w' x := ⟨LentFL.past h.hi k hne hg, LentFL.past h.lw k hne hg⟩

theorem own_rng {w : World} {B size n : Nat} {e : TypeId} {v : Value} {cs : List Value} (h : w.ownsRow B e size v n cs) : ∀ k, v.ownBlock = some k → B ≤ k ∧ k < w.heap.size := by
  intro k hk
  rcases h.2 with ⟨rfl, -⟩ | ⟨g, cap, cur, rfl, hg, hh, -⟩
  · cases hk
  · cases hk
    exact ⟨hg, (Array.getElem?_eq_some_iff.1 hh).1⟩
theorem LentFL.kept {B g : Nat} {w w' : World} {x : FL} (h : LentFL B w x) (k : KeptO (· = g) w w') (hg : g < B ∨ w.heap.size ≤ g) : LentFL B w' x :=
  ⟨k.own h.1 (fun i hi e => by subst e; have := own_rng h.1 i hi; omega), k.own h.2.1 (fun i hi e => by subst e; have := own_rng h.2.1 i hi; omega), h.2.2.1, h.2.2.2⟩
theorem Lent.kept {B g : Nat} {w w' : World} {x : RL} (h : Lent B w x) (k : KeptO (· = g) w w') (hg : g < B ∨ w.heap.size ≤ g) : Lent B w' x := ⟨h.hi.kept k hg, h.lw.kept k hg⟩
theorem Lent.mono {B B' : Nat} {w : World} {x : RL} (h : Lent B w x) (k : B' ≤ B) : Lent B' w x := ⟨h.hi.mono k, h.lw.mono k⟩
/-- Six cells of a box, written one by one. -/
theorem six_set {w : World} {g : Nat} {T : TypeId} {u0 u1 u2 u3 u4 u5 u6 u7 u8 u9 u10 u11 : Value} (h : w.heap[g]? = some (.cells #[u0, u1, u2, u3, u4, u5, u6, u7, u8, u9, u10, u11] T (0, 0))) (z3 z4 z5 z7 z8 z9 : Value) :
    ((((((w.setCell ⟨g, 3, none⟩ z3).setCell ⟨g, 4, none⟩ z4).setCell ⟨g, 5, none⟩ z5).setCell ⟨g, 7, none⟩ z7).setCell ⟨g, 8, none⟩ z8).setCell ⟨g, 9, none⟩ z9).heap[g]? = some (.cells #[u0, u1, u2, z3, z4, z5, u6, z7, z8, z9, u10, u11] T (0, 0)) ∧
    KeptO (· = g) w ((((((w.setCell ⟨g, 3, none⟩ z3).setCell ⟨g, 4, none⟩ z4).setCell ⟨g, 5, none⟩ z5).setCell ⟨g, 7, none⟩ z7).setCell ⟨g, 8, none⟩ z8).setCell ⟨g, 9, none⟩ z9) :=
  ⟨at_set 9 z9 (at_set 8 z8 (at_set 7 z7 (at_set 5 z5 (at_set 4 z4 (at_set 3 z3 h))))),
   by repeat (refine KeptO.setCell ?_ _ _ (.inl rfl))
      exact KeptO.refl w⟩
theorem box12' {W : World} {g : Nat} {T : TypeId} {u0 u1 u2 u3 u4 u5 u6 u7 u8 u9 u10 u11 : Value} (hh : W.heap[g]? = some (.cells #[u0, u1, u2, u3, u4, u5, u6, u7, u8, u9, u10, u11] T (0, 0))) :
    g < W.heap.size ∧ W.cell? ⟨g, 0, none⟩ = some u0 ∧ W.cell? ⟨g, 1, none⟩ = some u1 ∧ W.cell? ⟨g, 2, none⟩ = some u2 ∧ W.cell? ⟨g, 3, none⟩ = some u3 ∧ W.cell? ⟨g, 4, none⟩ = some u4 ∧ W.cell? ⟨g, 5, none⟩ = some u5 ∧
      W.cell? ⟨g, 6, none⟩ = some u6 ∧ W.cell? ⟨g, 7, none⟩ = some u7 ∧ W.cell? ⟨g, 8, none⟩ = some u8 ∧ W.cell? ⟨g, 9, none⟩ = some u9 ∧ W.cell? ⟨g, 10, none⟩ = some u10 ∧ W.cell? ⟨g, 11, none⟩ = some u11 :=
  ⟨(Array.getElem?_eq_some_iff.1 hh).1, (cell_of_row W _ 0 _ _ _ hh).trans rfl, (cell_of_row W _ 1 _ _ _ hh).trans rfl, (cell_of_row W _ 2 _ _ _ hh).trans rfl, (cell_of_row W _ 3 _ _ _ hh).trans rfl, (cell_of_row W _ 4 _ _ _ hh).trans rfl, (cell_of_row W _ 5 _ _ _ hh).trans rfl,
    (cell_of_row W _ 6 _ _ _ hh).trans rfl, (cell_of_row W _ 7 _ _ _ hh).trans rfl, (cell_of_row W _ 8 _ _ _ hh).trans rfl, (cell_of_row W _ 9 _ _ _ hh).trans rfl, (cell_of_row W _ 10 _ _ _ hh).trans rfl, (cell_of_row W _ 11 _ _ _ hh).trans rfl⟩

set_option maxRecDepth 100000 in
set_option maxHeartbeats 4000000 in
theorem ranks_walk (A : Option Addr) (l : List RL) (cap : Nat) (w : World) (hA : Arr w A (rls l)) (hin : ∀ x ∈ l, RL.In w x) (hl : l.length ≤ 9223372036854775807) :
    Calls Try.prog 3 #[.slice A l.length cap] w fun e w' => e = .returned (.bool true) ∧ ∃ x, w' = w.ext x := by
  by_cases h0 : 80 < l.length
  · have d1 : decide ((80 : Int) < (l.length : Int)) = true := by simp; omega
    go_enter Try.func3, Try.ntmps3
    go_wp2
    go_ret
    exact ⟨rfl, Blw.is (by repeat (first | exact Blw.refl _ | apply Blw.ext | apply Blw.alloc | apply Blw.drewN | apply Blw.drew | refine Blw.setCell ?_ _ _ (by simp)))⟩
  have d1 : decide ((80 : Int) < (l.length : Int)) = false := by simp; omega
  have hl8 : l.length ≤ 80 := by omega
  have HIN := Lib.hid hin
  clear h0 hin hl
  go_enter Try.func3, Try.ntmps3
  go_wp2
  clear d1
  go_loopw [3, 4, 5] (fun v i _ wr => ∃ (k : Nat) (ls : List RL), k ≤ l.length ∧ i = .int .i64 k ∧ Blw w wr ∧ wr.ownsRow w.heap.size 31 12 v k (rls ls) ∧ Hid (ls.map RL.key = (l.take k).map RL.key) ∧ Hid (∀ x ∈ ls, Lent w.heap.size wr x) ∧ Hid (∀ x ∈ l.take k, smF x.hi.r = true ∧ smF x.lw.r = true)) (fun _ i _ _ => l.length - (intOf i).toNat)
  case atStart => exact ⟨0, [], Nat.zero_le _, rfl, Blw.refl w, World.ownsRow_nil _ _ _ _, rfl, fun x hx => by simp at hx, fun x hx => by simp at hx⟩
  case round =>
    obtain ⟨k, ls, hk, rfl, hb, hown, hkey, hll, hsm⟩ := hrel
    by_cases hlt : k < l.length
    · obtain ⟨x, b, o, hgx, hmx, rfl, hbs, c0, c1, c2, c3, c4, c5, c6, c7, c8, c9, c10, c11⟩ := rl_at (hA.blw hb) hlt
      have hxin := (HIN.out x hmx).blw hb
      have S1 := fun (W : World) (hW : Blw wr W) => law04Small_any x.hi.r x.hi.a x.hi.c x.hi.b x.hi.d W (Nat.le_trans hxin.hi.cn hxin.hi.cm) (Nat.le_trans hxin.hi.dn hxin.hi.dm)
      have S2 := fun (W : World) (hW : Blw wr W) => law04Small_any x.lw.r x.lw.a x.lw.c x.lw.b x.lw.d W (Nat.le_trans hxin.lw.cn hxin.lw.cm) (Nat.le_trans hxin.lw.dn hxin.lw.dm)
      have HT : Hid (l.take (k + 1) = l.take k ++ [x]) := by show _ = _; rw [List.take_add_one, hgx]; rfl
      have L1 := fun (hs : smF x.hi.r = true) (W : World) (hW : Blw wr W) => lentRatio_any x.hi.r x.hi.a x.hi.c x.hi.b x.hi.d W (FL.In.blw hxin.hi hW) (smF_len' hs).1 (smF_len' hs).2
      have L2 := fun (hs : smF x.lw.r = true) (W : World) (hW : Blw wr W) => lentRatio_any x.lw.r x.lw.a x.lw.c x.lw.b x.lw.d W (FL.In.blw hxin.lw hW) (smF_len' hs).1 (smF_len' hs).2
      have HWX := Lib.hid (And.intro (And.intro hxin.hi.wn hxin.hi.wd) (And.intro hxin.lw.wn hxin.lw.wd))
      have HCL := Lib.hid (cells_len RL.cells 12 (fun _ => rfl) ls)
      obtain ⟨nm, er, wa, wn, wc, ⟨⟨hn, hnum, hden⟩, ha, hc, hb', hd⟩, hat, ⟨⟨ln, lnum, lden⟩, la, lc, lb, ld⟩, lat, off⟩ := x
      simp only at S1 S2 L1 L2 HT HWX c0 c1 c2 c3 c4 c5 c6 c7 c8 c9 c10 c11
      obtain ⟨p1, hp1⟩ : ∃ p1, p1 = smF ⟨hn, hnum, hden⟩ := ⟨_, rfl⟩
      obtain ⟨p2, hp2⟩ : ∃ p2, p2 = smF ⟨ln, lnum, lden⟩ := ⟨_, rfl⟩
      rw [← hp1] at S1 L1
      rw [← hp2] at S2 L2
      have HP1 := Lib.hid hp1
      have HP2 := Lib.hid hp2
      have HS1 := Lib.hid S1
      have HS2 := Lib.hid S2
      have HL1 := Lib.hid L1
      have HL2 := Lib.hid L2
      clear hxin hgx hmx S1 S2 L1 L2 hp1 hp2
      cases p1
      · go_wp2_with fail
        refine Calls.mono (HS1.out _ (by repeat (first | exact Blw.refl _ | apply Blw.ext | apply Blw.alloc | apply Blw.drewN | apply Blw.drew | refine Blw.setCell ?_ _ _ (by simp)))) ?_
        rintro e w1 ⟨rfl, x1, rfl⟩
        go_wp2
        go_ret
        exact ⟨rfl, Blw.is (hb.ext x1)⟩
      cases p2
      · go_wp2_with fail
        refine Calls.mono (HS1.out _ (by repeat (first | exact Blw.refl _ | apply Blw.ext | apply Blw.alloc | apply Blw.drewN | apply Blw.drew | refine Blw.setCell ?_ _ _ (by simp)))) ?_
        rintro e w1 ⟨rfl, x1, rfl⟩
        go_wp2_with fail
        refine Calls.mono (HS2.out _ (by repeat (first | exact Blw.refl _ | apply Blw.ext | apply Blw.alloc | apply Blw.drewN | apply Blw.drew | refine Blw.setCell ?_ _ _ (by simp)))) ?_
        rintro e w1 ⟨rfl, x2, rfl⟩
        go_wp2
        go_ret
        exact ⟨rfl, Blw.is (hb.trans (by repeat (first | exact Blw.refl _ | apply Blw.ext | apply Blw.alloc | apply Blw.drewN | apply Blw.drew | refine Blw.setCell ?_ _ _ (by simp))))⟩
      have HM1 := Lib.hid (HL1.out rfl)
      have HM2 := Lib.hid (HL2.out rfl)
      clear HL1 HL2
      go_wp2_with fail
      refine Calls.mono (HS1.out _ (by repeat (first | exact Blw.refl _ | apply Blw.ext | apply Blw.alloc | apply Blw.drewN | apply Blw.drew | refine Blw.setCell ?_ _ _ (by simp)))) ?_
      rintro e w1 ⟨rfl, x1, rfl⟩
      go_wp2_with fail
      refine Calls.mono (HS2.out _ (by repeat (first | exact Blw.refl _ | apply Blw.ext | apply Blw.alloc | apply Blw.drewN | apply Blw.drew | refine Blw.setCell ?_ _ _ (by simp)))) ?_
      rintro e W0 ⟨rfl, x2, hx2⟩
      have hbW : Blw wr W0 := by rw [hx2]; exact (by repeat (first | exact Blw.refl _ | apply Blw.ext | apply Blw.alloc | apply Blw.drewN | apply Blw.drew | refine Blw.setCell ?_ _ _ (by simp)))
      clear HS1 HS2 hx2
      have hbsW := Nat.lt_of_lt_of_le hbs hbW.size
      replace c0 := (Below.cell hbW hbs).trans c0
      replace c1 := (Below.cell hbW hbs).trans c1
      replace c2 := (Below.cell hbW hbs).trans c2
      replace c3 := (Below.cell hbW hbs).trans c3
      replace c4 := (Below.cell hbW hbs).trans c4
      replace c5 := (Below.cell hbW hbs).trans c5
      replace c6 := (Below.cell hbW hbs).trans c6
      replace c7 := (Below.cell hbW hbs).trans c7
      replace c8 := (Below.cell hbW hbs).trans c8
      replace c9 := (Below.cell hbW hbs).trans c9
      replace c10 := (Below.cell hbW hbs).trans c10
      replace c11 := (Below.cell hbW hbs).trans c11
      have BX := Lib.hid (fun (W : World) (hW : Blw (W0.alloc (.cells #[.string nm, .int .i64 er, .slice wa wn wc, .bool hn, .slice ha hnum.length hc, .slice hb' hden.length hd, .int .i64 hat, .bool ln, .slice la lnum.length lc, .slice lb lden.length ld, .int .i64 lat, .float .f64 off] 31)) W) => box12 hW)
      have FX := Lib.hid (fun (W : World) (hW : Blw (W0.alloc (.cells #[.string nm, .int .i64 er, .slice wa wn wc, .bool hn, .slice ha hnum.length hc, .slice hb' hden.length hd, .int .i64 hat, .bool ln, .slice la lnum.length lc, .slice lb lden.length ld, .int .i64 lat, .float .f64 off] 31)) W) => (KeptO.of_blw (O := fun _ => False) hW).heap (heap_alloc_new W0 _) id)
      go_wp2
      have BB := Lib.hid (fun (W : World) (hW : Blw (W0.alloc (.cells #[.string nm, .int .i64 er, .slice wa wn wc, .bool hn, .slice ha hnum.length hc, .slice hb' hden.length hd, .int .i64 hat, .bool ln, .slice la lnum.length lc, .slice lb lden.length ld, .int .i64 lat, .float .f64 off] 31)) W) => hbW.trans (((Blw.refl W0).alloc _).trans hW))
      have B0 : Blw (W0.alloc (.cells #[.string nm, .int .i64 er, .slice wa wn wc, .bool hn, .slice ha hnum.length hc, .slice hb' hden.length hd, .int .i64 hat, .bool ln, .slice la lnum.length lc, .slice lb lden.length ld, .int .i64 lat, .float .f64 off] 31)) (W0.alloc (.cells #[.string nm, .int .i64 er, .slice wa wn wc, .bool hn, .slice ha hnum.length hc, .slice hb' hden.length hd, .int .i64 hat, .bool ln, .slice la lnum.length lc, .slice lb lden.length ld, .int .i64 lat, .float .f64 off] 31)).drew := (Blw.refl _).drew
      go_region_law (first
        | (go_simp; go_at_call 5; (with_reducible refine Calls.mono (HM1.out _ (BB.out _ (by assumption))) ?_); rintro e w9 ⟨p1, q1, p2, q2, rfl, b9, M1⟩; have b9' := B0.trans b9; obtain ⟨gs, d0, d1, d2, d3, d4, d5, d6, d7, d8, d9, d10, d11⟩ := BX.out _ b9')
        | (go_simp; go_at_call 5; (with_reducible refine Calls.mono (HM2.out _ (BB.out _ (by assumption))) ?_); rintro e wA ⟨p3, q3, p4, q4, rfl, bA, M2⟩; have bA' := b9'.trans bA; obtain ⟨hs, f0, f1, f2, f3, f4, f5, f6, f7, f8, f9, f10, f11⟩ := BX.out _ bA'; have hF := FX.out _ bA'; have hfz : ∀ i, wA.frozen? ⟨W0.heap.size, i, none⟩ = false := fun i => frozen_of_row _ _ i _ _ hF))
      all_goals
        obtain ⟨hFB, hKB⟩ := six_set hF (.bool hn) (.slice p1 hnum.length q1) (.slice p2 hden.length q2) (.bool ln) (.slice p3 lnum.length q3) (.slice p4 lden.length q4)
        generalize hWB : ((((((wA.setCell ⟨W0.heap.size, 3, none⟩ (.bool hn)).setCell ⟨W0.heap.size, 4, none⟩ (.slice p1 hnum.length q1)).setCell ⟨W0.heap.size, 5, none⟩ (.slice p2 hden.length q2)).setCell ⟨W0.heap.size, 7, none⟩ (.bool ln)).setCell ⟨W0.heap.size, 8, none⟩ (.slice p3 lnum.length q3)).setCell ⟨W0.heap.size, 9, none⟩ (.slice p4 lden.length q4)) = WB at hFB hKB ⊢
        clear hWB
        have kwr : KeptO (· = W0.heap.size) wr WB := (KeptO.of_blw ((hbW.trans ((Blw.refl W0).alloc _)).trans bA')).trans hKB
        have hgw : wr.heap.size ≤ W0.heap.size := hbW.size
        have HOLD : Hid (∀ y ∈ ls, Lent w.heap.size WB y) := fun y hy => (hll.out y hy).kept kwr (.inr hgw)
        have hown2 : WB.ownsRow w.heap.size 31 12 _ k (rls ls) := kwr.own hown (fun i hi e => by have := own_rng hown i hi; omega)
        have hN1 : LentFL w.heap.size WB ⟨⟨hn, hnum, hden⟩, p1, q1, p2, q2⟩ := LentFL.mono (LentFL.kept (M1.blw bA) hKB (.inl (by simp))) (by have := hb.size; simp; omega)
        have hN2 : LentFL w.heap.size WB ⟨⟨ln, lnum, lden⟩, p3, q3, p4, q4⟩ := LentFL.mono (LentFL.kept M2 hKB (.inl gs)) (by have := hb.size; omega)
        have hbB : Blw w WB := KeptO.blw hb kwr (fun i hi => by subst hi; have := hb.size; omega)
        obtain ⟨gB, k0, k1, k2, k3, k4, k5, k6, k7, k8, k9, k10, k11⟩ := box12' hFB
        have HN1 := Lib.hid hN1
        have HN2 := Lib.hid hN2
        clear hFB hKB bA bA' b9 b9' M1 M2 hF hfz f0 f1 f2 f3 f4 f5 f6 f7 f8 f9 f10 f11 d0 d1 d2 d3 d4 d5 d6 d7 d8 d9 d10 d11 hs gs kwr hown hN1 hN2 c0 c1 c2 c3 c4 c5 c6 c7 c8 c9 c10 c11 BX FX BB B0 HM1 HM2 hll
        go_wp2_with (at_builtin; refine wpList_app w _ rfl _ _ 22 rfl sl_reports (hbB.alloc _) _ k _ rfl (ownsRow_blw hown2 ((Blw.refl _).alloc _)) _ 1 1 [.string nm, .int .i64 er, .slice wa wn wc, .bool hn, .slice p1 hnum.length q1, .slice p2 hden.length q2, .int .i64 hat, .bool ln, .slice p3 lnum.length q3, .slice p4 lden.length q4, .int .i64 lat, .float .f64 off] rfl (by simp) (Arr.lit_at _ _ _ _ (by simp)) (by simp) (by simp [Value.oneCell']) (by unfold maxLen; omega) (by omega) ?_; intro v7 w7 hown7 hb7 hg7 hn7)
        have HKY : Hid ((ls ++ [(⟨nm, er, wa, wn, wc, ⟨⟨hn, hnum, hden⟩, p1, q1, p2, q2⟩, hat, ⟨⟨ln, lnum, lden⟩, p3, q3, p4, q4⟩, lat, off⟩ : RL)]).map RL.key = (l.take (k + 1)).map RL.key) := by
          show _ = _
          rw [List.map_append, hkey.out, HT.out, List.map_append]; rfl
        have HO : Hid (∀ y ∈ ls ++ [(⟨nm, er, wa, wn, wc, ⟨⟨hn, hnum, hden⟩, p1, q1, p2, q2⟩, hat, ⟨⟨ln, lnum, lden⟩, p3, q3, p4, q4⟩, lat, off⟩ : RL)], Lent w.heap.size w7 y) := by
          intro y hy
          rw [List.mem_append, List.mem_singleton] at hy
          have hba := (Blw.refl WB).alloc (.cells #[.string nm, .int .i64 er, .slice wa wn wc, .bool hn, .slice p1 hnum.length q1, .slice p2 hden.length q2, .int .i64 hat, .bool ln, .slice p3 lnum.length q3, .slice p4 lden.length q4, .int .i64 lat, .float .f64 off] 31)
          rcases hy with hy | rfl
          · exact Lent.past ((HOLD.out y hy).blw hba) (ownsRow_blw hown2 hba) (by decide) hg7
          · exact Lent.past (⟨HN1.out.blw hba, HN2.out.blw hba⟩ : Lent _ _ _) (ownsRow_blw hown2 hba) (by decide) hg7
        have HOL : Hid (w7.ownsRow w.heap.size 31 12 v7 (k + 1) (rls (ls ++ [(⟨nm, er, wa, wn, wc, ⟨⟨hn, hnum, hden⟩, p1, q1, p2, q2⟩, hat, ⟨⟨ln, lnum, lden⟩, p3, q3, p4, q4⟩, lat, off⟩ : RL)]))) := by
          have e : rls (ls ++ [(⟨nm, er, wa, wn, wc, ⟨⟨hn, hnum, hden⟩, p1, q1, p2, q2⟩, hat, ⟨⟨ln, lnum, lden⟩, p3, q3, p4, q4⟩, lat, off⟩ : RL)]) = rls ls ++ [.string nm, .int .i64 er, .slice wa wn wc, .bool hn, .slice p1 hnum.length q1, .slice p2 hden.length q2, .int .i64 hat, .bool ln, .slice p3 lnum.length q3, .slice p4 lden.length q4, .int .i64 lat, .float .f64 off] := by
            rw [rls, List.flatMap_append]; rfl
          show World.ownsRow _ _ _ _ _ _ _
          rw [e]
          exact hown7
        have HSM : Hid (∀ y ∈ l.take (k + 1), smF y.hi.r = true ∧ smF y.lw.r = true) := by
          intro y hy
          rw [HT.out, List.mem_append, List.mem_singleton] at hy
          rcases hy with hy | rfl
          · exact hsm.out y hy
          · exact ⟨HP1.out.symm, HP2.out.symm⟩
        clear hown7 hg7 hn7 HOLD HN1 HN2 hown2
        go_roundw
        case rel => exact ⟨k + 1, _, hlt, by go_num, hb7, HOL.out, HKY, HO, HSM⟩
        case measure => simp [intOf]; omega
    · have hkl : k = l.length := by omega
      subst hkl
      rw [List.take_length] at hkey hsm
      have hlen : ls.length = l.length := by simpa using congrArg List.length hkey.out
      obtain ⟨a, c, rfl, hA2, -, hc2, hc2m, -⟩ := own_arr hown
      have hin2 : ∀ x ∈ ls, RL.In wr x := fun x hx => (hll.out x hx).in
      have hin1 : ∀ x ∈ l, RL.In wr x := fun x hx => (HIN.out x hx).blw hb
      have hA1 := hA.blw hb
      have P1 := fun (W : World) (hW : Blw wr W) => bestHi a ls c W (hA2.blw hW) (fun x hx => (hin2 x hx).blw hW) (by omega)
      have P2 := fun (W : World) (hW : Blw wr W) => bestLw a ls c W (hA2.blw hW) (fun x hx => (hin2 x hx).blw hW) (by omega)
      have P3 := fun (W : World) (hW : Blw wr W) => order_any a ls c W (hA2.blw hW) (fun x hx => (hin2 x hx).blw hW) (by omega)
      have Q1 := fun (W : World) (hW : Blw wr W) => refBest A l cap W (hA1.blw hW) (fun x hx => (hin1 x hx).blw hW) (by omega)
      have Q2 := fun (W : World) (hW : Blw wr W) => refDeepest A l cap W (hA1.blw hW) (fun x hx => (hin1 x hx).blw hW) (by omega)
      have Q3 := fun (W : World) (hW : Blw wr W) => refOrder31_any A l cap W (hA1.blw hW) (fun x hx => (hin1 x hx).blw hW) (by omega)
      rw [hkey.out, hlen] at P1 P2 P3
      have HAR := Lib.hid (And.intro hA1 hA2)
      have HIN2 := Lib.hid hin2
      have HIN1 := Lib.hid hin1
      have HLEN := Lib.hid hlen
      clear hin2 hin1 hA1 hown hA hA2
      generalize (bst (l.map RL.key) KF.hi false l.length).getD 0 = u1 at *
      generalize (bst (l.map RL.key) KF.hi false l.length).isSome = v1 at *
      generalize (bst (l.map RL.key) KF.lw true l.length).getD 0 = u2 at *
      generalize (bst (l.map RL.key) KF.lw true l.length).isSome = v2 at *
      have HP1 := Lib.hid P1
      have HP2 := Lib.hid P2
      have HP3 := Lib.hid P3
      have HQ1 := Lib.hid Q1
      have HQ2 := Lib.hid Q2
      have HQ3 := Lib.hid Q3
      clear P1 P2 P3 Q1 Q2 Q3
      have i1 : (l.length : Int) ≤ (c : Int) := by omega
      clear hlen
      go_wp2_with fail
      refine Calls.mono (HP1.out _ (by repeat (first | exact Blw.refl _ | apply Blw.ext | apply Blw.alloc | apply Blw.drewN | apply Blw.drew | refine Blw.setCell ?_ _ _ (by simp)))) ?_
      rintro e w1 ⟨rfl, z1, rfl⟩
      go_wp2_with fail
      refine Calls.mono (HQ1.out _ (by repeat (first | exact Blw.refl _ | apply Blw.ext | apply Blw.alloc | apply Blw.drewN | apply Blw.drew | refine Blw.setCell ?_ _ _ (by simp)))) ?_
      rintro e w1 ⟨rfl, z2, rfl⟩
      go_wp2_with fail
      refine Calls.mono (HP2.out _ (by repeat (first | exact Blw.refl _ | apply Blw.ext | apply Blw.alloc | apply Blw.drewN | apply Blw.drew | refine Blw.setCell ?_ _ _ (by simp)))) ?_
      rintro e w1 ⟨rfl, z3, rfl⟩
      go_wp2_with fail
      refine Calls.mono (HQ2.out _ (by repeat (first | exact Blw.refl _ | apply Blw.ext | apply Blw.alloc | apply Blw.drewN | apply Blw.drew | refine Blw.setCell ?_ _ _ (by simp)))) ?_
      rintro e w1 ⟨rfl, z4, rfl⟩
      go_wp2_with fail
      refine Calls.mono (HP3.out _ (by repeat (first | exact Blw.refl _ | apply Blw.ext | apply Blw.alloc | apply Blw.drewN | apply Blw.drew | refine Blw.setCell ?_ _ _ (by simp)))) ?_
      rintro e w1 ⟨D, o1, a1, c1, z5, rfl, rfl, r1, ar1, na1⟩
      go_wp2_with fail
      refine Calls.mono (HP3.out _ (by repeat (first | exact Blw.refl _ | apply Blw.ext | apply Blw.alloc | apply Blw.drewN | apply Blw.drew | refine Blw.setCell ?_ _ _ (by simp)))) ?_
      rintro e w1 ⟨D2, o2, a2, c2, z6, rfl, rfl, r2, ar2, na2⟩
      obtain rfl : D2 = D := o2.uniq o1
      have dl : D2.length ≤ 80 := by
        rw [o1.perm.length_eq]
        exact Nat.le_trans (outK_len _ _) hl8
      have O1 := Lib.hid o1
      clear o1 o2
      have bs1 : Blw w (((((wr.ext z1).ext z2).ext z3).ext z4).ext z5) := hb.trans (by repeat (first | exact Blw.refl _ | apply Blw.ext | apply Blw.alloc | apply Blw.drewN | apply Blw.drew | refine Blw.setCell ?_ _ _ (by simp)))
      have bs2 : Blw w ((((((wr.ext z1).ext z2).ext z3).ext z4).ext z5).ext z6) := hb.trans (by repeat (first | exact Blw.refl _ | apply Blw.ext | apply Blw.alloc | apply Blw.drewN | apply Blw.drew | refine Blw.setCell ?_ _ _ (by simp)))
      have far : ∀ p q, a1 = some p → a2 = some q → p.block ≠ q.block := by
        intro p q hp hq e
        subst hp hq
        have h1 := own_rng r1 p.block rfl
        have h2 := own_rng r2 q.block rfl
        omega
      have rr1 : ((((((wr.ext z1).ext z2).ext z3).ext z4).ext z5).ext z6).ownsRow w.heap.size 3 1 (.slice a1 D2.length c1) D2.length (i64s D2) := ownsRow_mono (ownsRow_blw r1 (by repeat (first | exact Blw.refl _ | apply Blw.ext | apply Blw.alloc | apply Blw.drewN | apply Blw.drew | refine Blw.setCell ?_ _ _ (by simp)))) (Blw.size (hb.trans (by repeat (first | exact Blw.refl _ | apply Blw.ext | apply Blw.alloc | apply Blw.drewN | apply Blw.drew | refine Blw.setCell ?_ _ _ (by simp)))))
      have aa1 := ar1.blw (World.blw_ext _ z6)
      have lt1 : ∀ p, a1 = some p → p.block < ((((((wr.ext z1).ext z2).ext z3).ext z4).ext z5).ext z6).heap.size := fun p hp => by subst hp; exact (own_rng rr1 p.block rfl).2
      obtain ⟨_, _, ee2, -, -, h2c, -, -⟩ := own_arr r2
      cases ee2
      have FAR := Lib.hid far
      have LT1 := Lib.hid lt1
      have HAR2 := Lib.hid (And.intro (HAR.out.1.blw (show Blw wr ((((((wr.ext z1).ext z2).ext z3).ext z4).ext z5).ext z6) from (by repeat (first | exact Blw.refl _ | apply Blw.ext | apply Blw.alloc | apply Blw.drewN | apply Blw.drew | refine Blw.setCell ?_ _ _ (by simp))))) (HAR.out.2.blw (show Blw wr ((((((wr.ext z1).ext z2).ext z3).ext z4).ext z5).ext z6) from (by repeat (first | exact Blw.refl _ | apply Blw.ext | apply Blw.alloc | apply Blw.drewN | apply Blw.drew | refine Blw.setCell ?_ _ _ (by simp))))))
      have HI2 := Lib.hid (fun x hx => (HIN2.out x hx).blw (show Blw wr ((((((wr.ext z1).ext z2).ext z3).ext z4).ext z5).ext z6) from (by repeat (first | exact Blw.refl _ | apply Blw.ext | apply Blw.alloc | apply Blw.drewN | apply Blw.drew | refine Blw.setCell ?_ _ _ (by simp)))))
      have HI1 := Lib.hid (fun x hx => (HIN1.out x hx).blw (show Blw wr ((((((wr.ext z1).ext z2).ext z3).ext z4).ext z5).ext z6) from (by repeat (first | exact Blw.refl _ | apply Blw.ext | apply Blw.alloc | apply Blw.drewN | apply Blw.drew | refine Blw.setCell ?_ _ _ (by simp)))))
      have HL2 := Lib.hid (fun x hx => (hll.out x hx).blw (show Blw wr ((((((wr.ext z1).ext z2).ext z3).ext z4).ext z5).ext z6) from (by repeat (first | exact Blw.refl _ | apply Blw.ext | apply Blw.alloc | apply Blw.drewN | apply Blw.drew | refine Blw.setCell ?_ _ _ (by simp)))))
      have HQ4 := Lib.hid (fun (W : World) (hW : Blw ((((((wr.ext z1).ext z2).ext z3).ext z4).ext z5).ext z6) W) => HQ3.out W ((show Blw wr ((((((wr.ext z1).ext z2).ext z3).ext z4).ext z5).ext z6) from (by repeat (first | exact Blw.refl _ | apply Blw.ext | apply Blw.alloc | apply Blw.drewN | apply Blw.drew | refine Blw.setCell ?_ _ _ (by simp)))).trans hW))
      clear HP1 HP2 HP3 HQ1 HQ2 HQ3 HAR HIN2 HIN1 hll far lt1 r1 r2 ar1 bs1 hb
      generalize ((((((wr.ext z1).ext z2).ext z3).ext z4).ext z5).ext z6) = W6 at *
      go_wp2_with fail
      refine Calls.mono (HQ4.out _ (Blw.refl _)) ?_
      rintro e w1 ⟨D3, o3, a3, c3, z7, rfl, rfl, r3, ar3, na3⟩
      obtain rfl : D3 = D2 := o3.uniq O1.out
      clear r3 o3
      go_wp2_with fail
      refine Calls.mono (sameInts_refl_any a1 a3 D3 c1 c3 _ (aa1.blw (by repeat (first | exact Blw.refl _ | apply Blw.ext | apply Blw.alloc | apply Blw.drewN | apply Blw.drew | refine Blw.setCell ?_ _ _ (by simp)))) ar3 (by omega)) ?_
      rintro e w1 ⟨rfl, z8, rfl⟩
      go_wp2_with fail
      refine Calls.mono (sameInts_refl_any a2 a1 D3 c2 c1 _ (ar2.blw (by repeat (first | exact Blw.refl _ | apply Blw.ext | apply Blw.alloc | apply Blw.drewN | apply Blw.drew | refine Blw.setCell ?_ _ _ (by simp)))) (aa1.blw (by repeat (first | exact Blw.refl _ | apply Blw.ext | apply Blw.alloc | apply Blw.drewN | apply Blw.drew | refine Blw.setCell ?_ _ _ (by simp)))) (by omega)) ?_
      rintro e w1 ⟨rfl, z9, rfl⟩
      go_wp2
      go_loopw [16] (fun i wr => ∃ k : Nat, k ≤ l.length ∧ i = .int .i64 k ∧ Blw W6 wr) (fun i _ => l.length - (intOf i).toNat)
      case atStart => exact ⟨0, Nat.zero_le _, rfl, (by repeat (first | exact Blw.refl _ | apply Blw.ext | apply Blw.alloc | apply Blw.drewN | apply Blw.drew | refine Blw.setCell ?_ _ _ (by simp)))⟩
      case round =>
        obtain ⟨k, hk, rfl, hb6⟩ := hrel
        by_cases hlt : k < l.length
        · obtain ⟨x, b, o, hgx, hmx, rfl, hbs, c0, c1', c2', c3', c4, c5, c6, c7, c8, c9, c10, c11⟩ := rl_at (HAR2.out.1.blw hb6) hlt
          obtain ⟨y, b2, o2, hgy, hmy, rfl, hbs2, d0, d1, d2, d3, d4, d5, d6, d7, d8, d9, d10, d11⟩ := rl_at (HAR2.out.2.blw hb6) (show k < ls.length by rw [HLEN.out]; exact hlt)
          have hkk : y.key = x.key := by
            have h1 : (ls.map RL.key)[k]? = some y.key := by rw [List.getElem?_map, hgy]; rfl
            have h2 : (l.map RL.key)[k]? = some x.key := by rw [List.getElem?_map, hgx]; rfl
            rw [hkey.out, h2] at h1
            exact (Option.some.inj h1).symm
          have hx1 := (HI1.out x hmx).blw hb6
          have hy2 := (HL2.out y hmy).blw hb6
          obtain ⟨s1, s2⟩ := hsm.out x hmx
          have e1 : y.hi.r = x.hi.r := by have := congrArg KF.hi hkk; exact this
          have e2 : y.lw.r = x.lw.r := by have := congrArg KF.lw hkk; exact this
          have T1 := fun (W : World) (hW : Blw wr W) => keptRatio_any w.heap.size y.hi x.hi.a x.hi.c x.hi.b x.hi.d W (hy2.hi.blw hW) (by rw [e1]; exact FL.In.blw hx1.hi hW) (by rw [e1]; exact (smF_len' s1).1) (by rw [e1]; exact (smF_len' s1).2)
          have T2 := fun (W : World) (hW : Blw wr W) => keptRatio_any w.heap.size y.lw x.lw.a x.lw.c x.lw.b x.lw.d W (hy2.lw.blw hW) (by rw [e2]; exact FL.In.blw hx1.lw hW) (by rw [e2]; exact (smF_len' s2).1) (by rw [e2]; exact (smF_len' s2).2)
          obtain ⟨nm, er, wa, wn, wc, ⟨⟨hn, hnum, hden⟩, ha, hc, hb', hd⟩, hat, ⟨⟨ln, lnum, lden⟩, la, lc, lb, ld⟩, lat, off⟩ := x
          obtain ⟨ynm, yer, ywa, ywn, ywc, ⟨yhr, yha, yhc, yhb, yhd⟩, yhat, ⟨ylr, yla, ylc, ylb, yld⟩, ylat, yoff⟩ := y
          simp only at e1 e2
          subst e1 e2
          simp only at T1 T2 c3' c4 c5 c7 c8 c9 d3 d4 d5 d7 d8 d9
          have HT1 := Lib.hid T1
          have HT2 := Lib.hid T2
          clear T1 T2 hx1 hy2 hkk hgx hgy hmx hmy s1 s2 c0 c1' c2' c6 c10 c11 d0 d1 d2 d6 d10 d11
          go_wp2
          refine wp_region_ext_lit (by kernel_rfl) (by kernel_rfl) ?_
          repeat (go_big_quiet_step ((go_at_call 13; first | (with_reducible exact Calls.ext_of (HT1.out _ (by repeat (first | exact Blw.refl _ | apply Blw.ext | apply Blw.alloc | apply Blw.drewN | apply Blw.drew | refine Blw.setCell ?_ _ _ (by simp))))) | (with_reducible exact Calls.ext_of (HT2.out _ (by repeat (first | exact Blw.refl _ | apply Blw.ext | apply Blw.alloc | apply Blw.drewN | apply Blw.drew | refine Blw.setCell ?_ _ _ (by simp))))))))
          refine wpQuiet_nil ?_
          rintro _ ⟨z, rfl⟩
          go_wp2
          go_roundw
          case rel => exact ⟨k + 1, hlt, by go_num, hb6.trans (by repeat (first | exact Blw.refl _ | apply Blw.ext | apply Blw.alloc | apply Blw.drewN | apply Blw.drew | refine Blw.setCell ?_ _ _ (by simp)))⟩
          case measure => simp [intOf]; omega
        · have hapart := fun (W : World) (hW : Blw W6 W) (oa : Option Addr) (hoa : Arr W oa (ois [⟨a2, c2, D3⟩])) (hq : ∀ q, oa = some q → W6.heap.size ≤ q.block) => apartInts_any w (.slice a1 D3.length c1) D3.length D3 oa [⟨a2, c2, D3⟩] 1 W (bs2.trans hW) (ownsRow_blw rr1 hW) hoa
            (fun oo hoo => by simp only [List.mem_singleton] at hoo; subst hoo; exact ⟨ar2.blw hW, na2, h2c, by (show D3.length ≤ _); omega⟩)
            (fun q hq2 hb2 => by
              have h1 := hq q hq2
              cases a1 with
              | none => cases hb2
              | some p => have h2 := LT1.out p rfl; simp only [Value.ownBlock, Option.some.injEq] at hb2; omega)
            (fun oo hoo q hq2 hb2 => by
              simp only [List.mem_singleton] at hoo; subst hoo
              cases a1 with
              | none => cases hb2
              | some p => exact FAR.out p q rfl hq2 (by simpa [Value.ownBlock] using hb2))
            (by omega) (by simp)
          have HAP := Lib.hid hapart
          have RNG := Lib.hid (own_rng rr1)
          clear hapart
          go_wp2_with fail
          refine Calls.mono (HAP.out _ (hb6.trans (by repeat (first | exact Blw.refl _ | apply Blw.ext | apply Blw.alloc | apply Blw.drewN | apply Blw.drew | refine Blw.setCell ?_ _ _ (by simp)))) _ (Arr.lit wr #[.slice a2 D3.length c2] 35 (0, 0)) (fun q hq => by cases hq; exact hb6.size)) ?_
          rintro e w2 ⟨rfl, kk⟩
          go_wp2
          go_ret
          exact ⟨rfl, Blw.is (KeptO.blw (bs2.trans (hb6.trans (by repeat (first | exact Blw.refl _ | apply Blw.ext | apply Blw.alloc | apply Blw.drewN | apply Blw.drew | refine Blw.setCell ?_ _ _ (by simp))))) kk (fun i hi => (RNG.out i hi).1))⟩
end Go.Proofs.Ytigkfdoeneemeab
/- Arguments that came in, opened: slices of whole numbers as lists. -/
namespace Go.Proofs.Ytigkfdoeneemeab
open Go.RowKit Go.ChangeShapes Go.WideShapes Go.ChangeAt

theorem open_list {H : Type} {enc : TypeId × Value → H} {P : Program} {W : World} {d : DataW H} {ps : List MemPlace} {T E : TypeId} {k : IntKind} {a : Option Addr} {len cap : Nat}
    (hT : P.underlying T = some (.slice E)) (hE : P.underlying E = some (.int k)) (hC : P.cellsOf E = 1)
    (h : DataW.Trod enc P W 0 (fun _ => true) true T (.slice a len cap) d ps) :
    ∃ l : List Int, l.length = len ∧ Arr W a (l.map (Value.int k)) ∧ (∀ z ∈ l, (Lit.int k z).wf = true) ∧ (a = none → cap = 0) ∧ len ≤ cap ∧ cap ≤ maxLen := by
  obtain ⟨fuel, hf⟩ := h
  rcases open_ints hT hE hC hf with ⟨hcs, _⟩ | ⟨x, l, c, zs, hcs, _, hl, hm, hz, _, hcell, hwz⟩
  · simp [Value.cells] at hcs
    obtain ⟨rfl, rfl, rfl⟩ := hcs
    exact ⟨[], rfl, .inl rfl, by simp, fun _ => rfl, Nat.le_refl _, Nat.zero_le _⟩
  · simp [Value.cells] at hcs
    obtain ⟨rfl, rfl, rfl⟩ := hcs
    have hz' : zs.length = cap := by simpa using hz
    refine ⟨zs.take len, by simp; omega, ?_, (fun z hz => hwz z (List.mem_of_mem_take hz)), (fun h => by cases h), hl, hm⟩
    by_cases h0 : len = 0
    · subst h0; exact .inl (by simp)
    obtain ⟨b, o, s⟩ := x
    have c0 := hcell 0 (by omega)
    have hs : s = none := by simpa [Addr.add] using World.cell?_spot c0
    subst hs
    have ea : ∀ j, (⟨b, o, none⟩ : Addr).add j = ⟨b, o + j, none⟩ := fun j => by unfold Addr.add; split <;> simp_all
    refine .inr ⟨b, o, rfl, block_lt_of_cell c0, fun i hi => ?_⟩
    have hi' : i < zs.length ∧ i < len := by simp at hi; omega
    rw [← ea i, hcell i hi'.1]
    simp [hi'.1, hi'.2]

theorem open_u64s {H : Type} {enc : TypeId × Value → H} {P : Program} {W : World} {d : DataW H} {ps : List MemPlace} {T E : TypeId} {a : Option Addr} {len cap : Nat}
    (hT : P.underlying T = some (.slice E)) (hE : P.underlying E = some (.int .u64)) (hC : P.cellsOf E = 1)
    (h : DataW.Trod enc P W 0 (fun _ => true) true T (.slice a len cap) d ps) :
    ∃ l : List Nat, l.length = len ∧ Arr W a (u64s l) ∧ (∀ z ∈ l, z < 2 ^ 64) ∧ (a = none → cap = 0) ∧ len ≤ cap ∧ cap ≤ maxLen := by
  obtain ⟨l, h1, h2, h3, h4, h5, h6⟩ := open_list hT hE hC h
  have hb : ∀ z ∈ l, 0 ≤ z ∧ z < 2 ^ 64 := fun z hz => by
    have := h3 z hz
    simp [Lit.wf, IntKind.min, IntKind.max, IntKind.signed, IntKind.bits] at this
    omega
  refine ⟨l.map Int.toNat, by simpa using h1, ?_, ?_, h4, h5, h6⟩
  · have e : u64s (l.map Int.toNat) = l.map (Value.int .u64) := by
      rw [u64s, List.map_map]
      apply List.map_congr_left
      intro z hz
      have := hb z hz
      simp; omega
    rw [e]; exact h2
  · intro z hz
    obtain ⟨y, hy, rfl⟩ := List.mem_map.1 hz
    have := hb y hy
    omega
theorem wf_u64 {n : Int} (h : (Lit.int .u64 n).wf = true) : ∃ m : Nat, n = m ∧ m < 2 ^ 64 := by
  simp [Lit.wf, IntKind.min, IntKind.max, IntKind.signed, IntKind.bits] at h
  exact ⟨n.toNat, by omega, by omega⟩
end Go.Proofs.Ytigkfdoeneemeab
/- Arguments that came in, opened by their types: bools, numbers, floats, strings, structs, slices of anything. -/
namespace Go.Proofs.Ytigkfdoeneemeab
open Go.RowKit Go.ChangeShapes Go.WideShapes Go.ChangeAt

/-- Cells that are elements, one behind the other. -/
theorem chunks {α : Type} (f : α → List Value) (k : Nat) (P : α → Prop) (len : Nat) : ∀ (cells : List Value), cells.length = len * k → (∀ i, i < len → ∃ x, P x ∧ (cells.drop (i * k)).take k = f x) →
    ∃ l : List α, l.length = len ∧ cells = l.flatMap f ∧ ∀ x ∈ l, P x := by
  induction len with
  | zero => intro cells hl _; exact ⟨[], rfl, List.eq_nil_of_length_eq_zero (by omega), by simp⟩
  | succ n ih =>
    intro cells hl h
    obtain ⟨x, hx, h0⟩ := h 0 (by omega)
    obtain ⟨l, h1, h2, h3⟩ := ih (cells.drop k) (by rw [List.length_drop, hl, Nat.add_mul]; omega) (fun i hi => by
      obtain ⟨y, hy, e⟩ := h (i + 1) (by omega)
      refine ⟨y, hy, ?_⟩
      rw [List.drop_drop, ← e, Nat.add_mul, Nat.one_mul, Nat.add_comm k])
    refine ⟨x :: l, by simp [h1], ?_, ?_⟩
    · rw [List.flatMap_cons, ← h0, ← h2]; simp
    · intro y hy
      rcases List.mem_cons.1 hy with rfl | hy
      · exact hx
      · exact h3 y hy

section
variable {H : Type} {enc : TypeId × Value → H} {P : Program} {w : World} {t e : TypeId} {cs : List Value}

/-- These cells read as data of this type. -/
def Rds (enc : TypeId × Value → H) (P : Program) (w : World) (t : TypeId) (cs : List Value) : Prop := ∃ fuel x, DataW.trod enc P w 0 (fun _ => true) true fuel t cs = some x
theorem Rds.of {v : Value} {d : DataW H} {p : List MemPlace} (h : DataW.Trod enc P w 0 (fun _ => true) true t v d p) : Rds enc P w t v.cells.toList := by
  obtain ⟨f, h⟩ := h; exact ⟨f, _, h⟩
theorem rds_bool (ht : P.underlying t = some .bool) (h : Rds enc P w t cs) : ∃ b, cs = [.bool b] := by
  obtain ⟨f, x, h⟩ := h
  obtain ⟨b, h, _⟩ := DataW.trod_bool ht h
  exact ⟨b, h⟩
theorem rds_int {k : IntKind} (ht : P.underlying t = some (.int k)) (h : Rds enc P w t cs) : ∃ n, cs = [.int k n] ∧ (Lit.int k n).wf = true := by
  obtain ⟨f, x, h⟩ := h
  obtain ⟨n, h, _, hw⟩ := DataW.trod_int ht h
  exact ⟨n, h, hw⟩
theorem rds_float {k : FloatKind} (ht : P.underlying t = some (.float k)) (h : Rds enc P w t cs) : ∃ n, cs = [.float k n] ∧ (Lit.float k n).wf = true := by
  obtain ⟨f, x, h⟩ := h
  cases f with
  | zero => simp [DataW.trod] at h
  | succ n =>
    unfold DataW.trod at h
    rw [ht] at h
    split at h <;> simp_all
theorem rds_string (ht : P.underlying t = some .string) (h : Rds enc P w t cs) : ∃ s : ByteArray, cs = [.string s] ∧ s.size ≤ maxLen := by
  obtain ⟨f, x, h⟩ := h
  obtain ⟨s, h, _, hs⟩ := DataW.trod_string ht h
  exact ⟨s, h, hs⟩
theorem rds_struct {fs : Array Field} (ht : P.underlying t = some (.struct fs)) (h : Rds enc P w t cs) :
    cs.length = P.cellsOf t ∧ ∀ (i : Nat) (f : Field), fs[i]? = some f → Rds enc P w f.type ((cs.drop f.offset).take (P.cellsOf f.type)) := by
  obtain ⟨f, x, h⟩ := h
  obtain ⟨xs, n, _, _, hl, hx, hf⟩ := DataW.trod_struct ht h
  refine ⟨hl, fun i f hi => ?_⟩
  have hi' : i < xs.length := by rw [hx]; exact (Array.getElem?_eq_some_iff.1 hi).1
  exact ⟨n, xs[i], by rw [hf i f hi, List.getElem?_eq_getElem hi']⟩
theorem add_add (b o i j : Nat) : ((⟨b, o, none⟩ : Addr).add i).add j = ⟨b, o + (i + j), none⟩ := by
  have ea : ∀ o j, (⟨b, o, none⟩ : Addr).add j = ⟨b, o + j, none⟩ := fun o j => by unfold Addr.add; split <;> simp_all
  rw [ea, ea, Nat.add_assoc]
theorem rds_slice (ht : P.underlying t = some (.slice e)) (k : Nat) (hk : P.cellsOf e = k) (hk0 : 0 < k) (h : Rds enc P w t cs) :
    ∃ (a : Option Addr) (len cap : Nat) (cells : List Value), cs = [.slice a len cap] ∧ (a = none → cap = 0) ∧ len ≤ cap ∧ cap ≤ maxLen ∧ cells.length = len * k ∧ Arr w a cells ∧
      ∀ i, i < len → Rds enc P w e ((cells.drop (i * k)).take k) := by
  obtain ⟨f, x, h⟩ := h
  rcases DataW.trod_slice ht h with ⟨h, _⟩ | ⟨a, len, cap, elems, rest, n, _, h, _, _, hl, hc, he, hel, _⟩
  · exact ⟨none, 0, 0, [], h, fun _ => rfl, Nat.le_refl _, Nat.zero_le _, by simp, .inl rfl, fun i hi => by omega⟩
  · rw [hk] at hel
    by_cases h0 : len = 0
    · subst h0
      exact ⟨some a, 0, cap, [], h, (fun h => by cases h), hl, hc, by simp, .inl rfl, fun i hi => by omega⟩
    have cell : ∀ i, i < len → ∃ ci, w.cells? 0 (a.add (i * k)) k = some ci ∧ ∃ y, DataW.trod enc P w 0 (fun _ => true) true n e ci = some y := by
      intro i hi
      have := hel i hi
      rw [List.getElem?_eq_getElem (by omega)] at this
      obtain ⟨ci, h1, h2⟩ := Option.bind_eq_some_iff.1 this
      exact ⟨ci, h1, _, h2⟩
    obtain ⟨c0, hc0, _⟩ := cell 0 (by omega)
    obtain ⟨_, hcl, hcc⟩ := World.cells?_some hc0
    have hsp0 := hcc 0 hk0
    rw [List.getElem?_eq_getElem (by omega)] at hsp0
    obtain ⟨b, o, s⟩ := a
    have hs : s = none := by
      have := World.cell?_spot hsp0
      simpa [Addr.add] using this
    subst hs
    rw [add_add] at hsp0
    have cellat : ∀ i, i < len → ∀ r, r < k → ∃ v, w.cell? ⟨b, o + (i * k + r), none⟩ = some v := by
      intro i hi r hr
      obtain ⟨ci, h1, _⟩ := cell i hi
      obtain ⟨_, h2, h3⟩ := World.cells?_some h1
      have := h3 r hr
      rw [add_add, List.getElem?_eq_getElem (by omega)] at this
      exact ⟨_, this⟩
    let cells := (List.range (len * k)).map fun j => (w.cell? ⟨b, o + j, none⟩).getD undef
    have hlen : cells.length = len * k := by simp [cells]
    have hat : ∀ j, j < len * k → w.cell? ⟨b, o + j, none⟩ = cells[j]? := by
      intro j hj
      have hi : j / k < len := Nat.div_lt_of_lt_mul (by rw [Nat.mul_comm]; exact hj)
      obtain ⟨v, hv⟩ := cellat (j / k) hi (j % k) (Nat.mod_lt _ hk0)
      have e1 : j / k * k + j % k = j := Nat.div_add_mod' j k
      rw [e1] at hv
      simp [cells, hj, hv]
    refine ⟨some ⟨b, o, none⟩, len, cap, cells, h, (fun h => by cases h), hl, hc, hlen, .inr ⟨b, o, rfl, block_lt_of_cell hsp0, fun i hi => hat i (by omega)⟩, fun i hi => ?_⟩
    obtain ⟨ci, h1, y, hy⟩ := cell i hi
    obtain ⟨_, h2, h3⟩ := World.cells?_some h1
    refine ⟨n, y, ?_⟩
    have : (cells.drop (i * k)).take k = ci := by
      have hb : i * k + k ≤ len * k := by
        have := Nat.mul_le_mul_right k (show i + 1 ≤ len from hi)
        rw [Nat.add_mul, Nat.one_mul] at this; exact this
      apply List.ext_getElem?
      intro r
      by_cases hr : r < k
      · rw [List.getElem?_take, if_pos hr, List.getElem?_drop, ← hat (i * k + r) (by omega), ← h3 r hr, add_add]
      · rw [List.getElem?_eq_none (by simp; omega), List.getElem?_eq_none (by omega)]
    rw [this]; exact hy
end
end Go.Proofs.Ytigkfdoeneemeab
/- Fractions handed in, opened. -/
namespace Go.Proofs.Ytigkfdoeneemeab
open Go.RowKit Go.ChangeShapes Go.WideShapes Go.ChangeAt

theorem cellsU32 : Try.prog.cellsOf 54 = 1 := by kernel_rfl
theorem cellsWords : Try.prog.cellsOf 26 = 1 := by kernel_rfl
theorem cellsBool : Try.prog.cellsOf 4 = 1 := by kernel_rfl
theorem cellsRatio : Try.prog.cellsOf 28 = 3 := by kernel_rfl
theorem wf_u32' {n : Int} (h : (Lit.int .u32 n).wf = true) : ∃ m : Nat, n = (m : Int) ∧ m < 4294967296 := by
  simp [Lit.wf, IntKind.min, IntKind.max, IntKind.signed, IntKind.bits] at h
  exact ⟨n.toNat, by omega, by omega⟩
set_option maxRecDepth 100000 in
theorem rds_words {H : Type} {enc : TypeId × Value → H} {w : World} {cs : List Value} (h : Rds enc Try.prog w 26 cs) :
    ∃ (a : Option Addr) (l : List Nat) (cap : Nat), cs = [.slice a l.length cap] ∧ (a = none → l.length = 0 ∧ cap = 0) ∧ l.length ≤ cap ∧ cap ≤ maxLen ∧ Arr w a (u32s l) ∧ W.WF l := by
  obtain ⟨a, len, cap, cells, he, hn, hl, hc, hcl, harr, hel⟩ := rds_slice Try.underlying26 1 cellsU32 (by decide) h
  obtain ⟨l, h1, h2, h3⟩ := chunks (fun n : Nat => [Value.int .u32 n]) 1 (fun n => n < 4294967296) len cells hcl (fun i hi => by
    obtain ⟨n, hn, hw⟩ := rds_int Try.underlying54 (hel i hi)
    obtain ⟨m, rfl, hm⟩ := wf_u32' hw
    exact ⟨m, hm, hn⟩)
  have e : cells = u32s l := by rw [h2]; clear h1 h2 h3; induction l with
    | nil => rfl
    | cons x l ih => rw [List.flatMap_cons, ih]; rfl
  subst h1
  exact ⟨a, l, cap, he, fun h => ⟨by have := hn h; omega, hn h⟩, hl, hc, by rw [← e]; exact harr, h3⟩
set_option maxRecDepth 100000 in
theorem rds_ratio {H : Type} {enc : TypeId × Value → H} {w : World} {cs : List Value} (h : Rds enc Try.prog w 28 cs) : ∃ x : FL, FL.In w x ∧ cs = x.cells := by
  obtain ⟨hl, hf⟩ := rds_struct Try.underlying28 h
  have f0 := hf 0 _ rfl
  have f1 := hf 1 _ rfl
  have f2 := hf 2 _ rfl
  rw [cellsRatio] at hl
  match cs, hl with
  | [c0, c1, c2], _ =>
    simp [cellsBool, cellsWords] at f0 f1 f2
    obtain ⟨b, hb⟩ := rds_bool Try.underlying4 f0
    obtain ⟨a1, l1, k1, e1, n1, m1, q1, r1, w1⟩ := rds_words f1
    obtain ⟨a2, l2, k2, e2, n2, m2, q2, r2, w2⟩ := rds_words f2
    simp at hb e1 e2
    unfold maxLen at q1 q2
    exact ⟨⟨⟨b, l1, l2⟩, a1, k1, a2, k2⟩, ⟨r1, r2, m1, q1, m2, q2, n1, n2, w1, w2⟩, by rw [hb, e1, e2]; rfl⟩
set_option maxRecDepth 100000 in
theorem open_ratio {H : Type} {enc : TypeId × Value → H} {w : World} {r : Reach} {b0 : Nat} {v : Value} {d : DataW H} {p : List MemPlace} (hv : Value.okWide Try.prog w r b0 28 v)
    (h : DataW.Trod enc Try.prog w 0 (fun _ => true) true 28 v d p) : ∃ x : FL, v = frV x.r x.a x.c x.b x.d ∧ FL.In w x := by
  obtain ⟨cs, rfl, -⟩ := okWide_struct Try.underlying28 hv
  obtain ⟨x, hx, he⟩ := rds_ratio (Rds.of h)
  exact ⟨x, by obtain ⟨l⟩ := cs; simp only [Value.cells] at he; rw [he]; rfl, hx⟩
end Go.Proofs.Ytigkfdoeneemeab
/- Reports handed in, opened. -/
namespace Go.Proofs.Ytigkfdoeneemeab
open Go.RowKit Go.ChangeShapes Go.WideShapes Go.ChangeAt

theorem cellsIntR : Try.prog.cellsOf 3 = 1 := by kernel_rfl
theorem cellsStrR : Try.prog.cellsOf 9 = 1 := by kernel_rfl
theorem cellsErrR : Try.prog.cellsOf 24 = 1 := by kernel_rfl
theorem cellsFltR : Try.prog.cellsOf 29 = 1 := by kernel_rfl
theorem cellsWatR : Try.prog.cellsOf 25 = 1 := by kernel_rfl
theorem cellsRep : Try.prog.cellsOf 31 = 12 := by kernel_rfl
theorem cellsWaterR : 0 < Try.prog.cellsOf 106 := of_decide_eq_true (by kernel_rfl)
set_option maxRecDepth 100000 in
theorem rds_report {H : Type} {enc : TypeId × Value → H} {w : World} {cs : List Value} (h : Rds enc Try.prog w 31 cs) : ∃ x : RL, RL.In w x ∧ cs = x.cells := by
  obtain ⟨hl, hf⟩ := rds_struct Try.underlying31 h
  have f0 := hf 0 _ rfl
  have f1 := hf 1 _ rfl
  have f2 := hf 2 _ rfl
  have f3 := hf 3 _ rfl
  have f4 := hf 4 _ rfl
  have f5 := hf 5 _ rfl
  have f6 := hf 6 _ rfl
  have f7 := hf 7 _ rfl
  rw [cellsRep] at hl
  match cs, hl with
  | [c0, c1, c2, c3, c4, c5, c6, c7, c8, c9, c10, c11], _ =>
    simp [cellsIntR, cellsStrR, cellsErrR, cellsFltR, cellsWatR, cellsRatio] at f0 f1 f2 f3 f4 f5 f6 f7
    obtain ⟨s, hs, -⟩ := rds_string Try.underlying9 f0
    obtain ⟨e, he, -⟩ := rds_int Try.underlying24 f1
    obtain ⟨wa, wn, wc, _, hw, -⟩ := rds_slice Try.underlying25 _ rfl cellsWaterR f2
    obtain ⟨hi, hhi, ehi⟩ := rds_ratio f3
    obtain ⟨hat, hhat, -⟩ := rds_int Try.underlying3 f4
    obtain ⟨lw, hlw, elw⟩ := rds_ratio f5
    obtain ⟨lat, hlat, -⟩ := rds_int Try.underlying3 f6
    obtain ⟨off, hoff, -⟩ := rds_float Try.underlying29 f7
    simp [FL.cells] at hs he hw ehi hhat elw hlat hoff
    exact ⟨⟨s, e, wa, wn, wc, hi, hat, lw, lat, off⟩, ⟨hhi, hlw⟩, by rw [hs, he, hw, ehi.1, ehi.2.1, ehi.2.2, hhat, elw.1, elw.2.1, elw.2.2, hlat, hoff]; rfl⟩
set_option maxRecDepth 100000 in
theorem open_reports {H : Type} {enc : TypeId × Value → H} {w : World} {d : DataW H} {ps : List MemPlace} {a : Option Addr} {len cap : Nat}
    (h : DataW.Trod enc Try.prog w 0 (fun _ => true) true 22 (.slice a len cap) d ps) :
    ∃ l : List RL, l.length = len ∧ Arr w a (rls l) ∧ (∀ x ∈ l, RL.In w x) ∧ (a = none → cap = 0) ∧ len ≤ cap ∧ cap ≤ maxLen := by
  obtain ⟨a', len', cap', cells, he, hn, hl, hc, hcl, harr, hel⟩ := rds_slice Try.underlying22 12 cellsRep (by decide) (Rds.of h)
  simp [Value.cells] at he
  obtain ⟨rfl, rfl, rfl⟩ := he
  obtain ⟨l, h1, h2, h3⟩ := chunks RL.cells 12 (fun x => RL.In w x) len cells hcl (fun i hi => by
    obtain ⟨p, hp, e⟩ := rds_report (hel i hi)
    exact ⟨p, hp, e⟩)
  exact ⟨l, h1, by rw [rls, ← h2]; exact harr, h3, hn, hl, hc⟩
end Go.Proofs.Ytigkfdoeneemeab
