/- The walk of the law AlarmTurns. -/
import Derived.Test.YtigkfdoeneemeaaLives
import Derived.Test.YtigkfdoeneemeaaOpenSample
namespace Go.Proofs.Ytigkfdoeneemeaa
open Go.RowKit

/-- The element at a place, of a list of samples. -/
theorem smp_at {w : World} {a : Option Addr} {l : List (Int × Nat)} (h : Arr w a (smps l)) {k : Nat} (hk : k < l.length) :
    ∃ (t : Int) (x : Nat) (b o : Nat), l[k]? = some (t, x) ∧ (t, x) ∈ l ∧ a = some ⟨b, o, none⟩ ∧ b < w.heap.size ∧ w.cell? ⟨b, o + k * 2, none⟩ = some (.int .i64 t) ∧ w.cell? ⟨b, o + k * 2 + 1, none⟩ = some (.float .f64 x) := by
  have hlen : ∀ l : List (Int × Nat), (smps l).length = l.length * 2 := by
    intro l; induction l with
    | nil => rfl
    | cons a l ih => simp [smps, smp] at ih ⊢; omega
  have hget : ∀ (l : List (Int × Nat)) (k : Nat) (h : k < l.length), (smps l)[k * 2]? = some (.int .i64 l[k].1) ∧ (smps l)[k * 2 + 1]? = some (.float .f64 l[k].2) := by
    intro l; induction l with
    | nil => intro k h; simp at h
    | cons a l ih =>
      intro k h
      cases k with
      | zero => exact ⟨rfl, rfl⟩
      | succ k =>
        obtain ⟨h1, h2⟩ := ih k (by simpa using h)
        have e : ∀ j, (smps (a :: l))[(k + 1) * 2 + j]? = (smps l)[k * 2 + j]? := fun j => by
          show ((smp a ++ smps l))[(k + 1) * 2 + j]? = _
          rw [List.getElem?_append_right (by simp [smp]; omega)]
          congr 1
          simp [smp]; omega
        exact ⟨by have := e 0; simp only [Nat.add_zero] at this; rw [this]; exact h1, by rw [e 1]; exact h2⟩
  rcases h with h | ⟨b, o, e, hb, hc⟩
  · have := hlen l; rw [h] at this; simp at this; omega
  · have hl := hlen l
    obtain ⟨h1, h2⟩ := hget l k hk
    refine ⟨l[k].1, l[k].2, b, o, by rw [List.getElem?_eq_getElem hk], List.getElem_mem hk, e, hb, ?_, ?_⟩
    · rw [hc _ (by omega), h1]
    · rw [Nat.add_assoc, hc _ (by omega), h2]

/-- What holds of a watch that was made and told samples. -/
structure WInv (s : WS) (level ease : Nat) (n : Nat) : Prop where
  lv : s.level = level
  es : s.ease = ease
  b : s.told = true → 0 ≤ s.heard ∧ s.heard ≤ 1048576
  len : s.al.length = n

theorem feedS_inv {s : WS} {level ease n : Nat} (h : WInv s level ease n) (t : Int) (x : Nat) (he : (feedS s t x).2.2 = 0) :
    WInv (feedS s t x).1 level ease (if (feedS s t x).2.1 = 0 then n else n + 1) ∧ 0 ≤ (feedS s t x).2.1 ∧ (feedS s t x).2.1 ≤ 3 ∧ (feedS s t x).1.up = (if (feedS s t x).2.1 = 1 then true else if (feedS s t x).2.1 = 2 then false else s.up) ∧
    ((feedS s t x).2.1 = 1 → Fl.isFin x = true ∧ gtB x level = true ∧ s.up = false) ∧ ((feedS s t x).2.1 = 2 → Fl.isFin x = true ∧ ltB x ease = true ∧ s.up = true) ∧
    ((feedS s t x).2.1 = 3 → Fl.isFin x = false ∧ s.silent = false) ∧ ((feedS s t x).2.1 = 0 → Fl.isFin x = true → (s.up = false → gtB x level = false) ∧ (s.up = true → ltB x ease = false)) ∧
    (feedS s t x).1.silent = (if Fl.isFin x then false else if (feedS s t x).2.1 = 3 then true else s.silent) := by
  obtain ⟨rfl, rfl, hb, hn⟩ := h
  unfold feedS at *
  by_cases h1 : t < 0 ∨ 1048576 < t ∨ (s.told = true ∧ t ≤ s.last)
  · rw [if_pos h1] at he; simp at he
  · rw [if_neg h1] at he ⊢
    by_cases h2 : 4096 ≤ s.al.length
    · rw [if_pos h2] at he; simp at he
    · rw [if_neg h2]
      have t0 : 0 ≤ t ∧ t ≤ 1048576 := ⟨by omega, by omega⟩
      clear he h1 h2
      obtain ⟨level, ease, up, told, last, heard, silent, al⟩ := s
      have hh : 0 ≤ (takeS ⟨level, ease, up, told, last, heard, silent, al⟩ t).heard ∧ (takeS ⟨level, ease, up, told, last, heard, silent, al⟩ t).heard ≤ 1048576 := by
        simp only [takeS]
        cases told
        · exact t0
        · exact hb rfl
      have hc : callS (takeS ⟨level, ease, up, told, last, heard, silent, al⟩ t) t x = if Fl.isFin x then (if gtB x level && !up then 1 else if ltB x ease && up then 2 else 0) else (if decide (6 ≤ t - (takeS ⟨level, ease, up, told, last, heard, silent, al⟩ t).heard) && !silent then 3 else 0) := rfl
      generalize callS (takeS ⟨level, ease, up, told, last, heard, silent, al⟩ t) t x = c at *
      have e1 : (doneS (takeS ⟨level, ease, up, told, last, heard, silent, al⟩ t) t x c) = ⟨level, ease, if c = 1 then true else if c = 2 then false else up, true, t, if Fl.isFin x then t else (takeS ⟨level, ease, up, told, last, heard, silent, al⟩ t).heard, if Fl.isFin x then false else if c = 3 then true else silent, if c = 0 then al else al ++ [(t, c)]⟩ := rfl
      rw [e1]
      generalize (takeS ⟨level, ease, up, told, last, heard, silent, al⟩ t).heard = hd at *
      simp only at hn
      generalize decide (6 ≤ t - hd) = d at *
      refine ⟨⟨rfl, rfl, fun _ => ?_, ?_⟩, ?_⟩
      · simp only; split
        · exact t0
        · exact hh
      · simp only; split <;> simp [hn]
      · clear e1 hb hn t0 hh
        generalize Fl.isFin x = F at *
        generalize gtB x level = G at *
        generalize ltB x ease = E at *
        subst hc
        cases F <;> cases G <;> cases E <;> cases up <;> cases silent <;> cases d <;> simp

theorem feedS_err {s : WS} {t : Int} {x : Nat} (he : ¬ (feedS s t x).2.2 = 0) : (feedS s t x).1 = s := by
  unfold feedS at *
  by_cases h1 : t < 0 ∨ 1048576 < t ∨ (s.told = true ∧ t ≤ s.last)
  · rw [if_pos h1]
  · rw [if_neg h1] at he ⊢
    by_cases h2 : 4096 ≤ s.al.length
    · rw [if_pos h2]
    · rw [if_neg h2] at he; simp at he

set_option maxRecDepth 100000 in
set_option maxHeartbeats 8000000 in
theorem alarmTurns_walk (level ease : Nat) (a : Option Addr) (l : List (Int × Nat)) (cap : Nat) (w : World) (hx : level < 2 ^ 64) (hy : ease < 2 ^ 64) (h : Arr w a (smps l)) (hl : ∀ p ∈ l, p.2 < 2 ^ 64) :
    Calls Try.prog 6 #[.float .f64 level, .float .f64 ease, .slice a l.length cap] w fun e w' => e = .returned (.bool true) ∧ ∃ x, w' = w.ext x := by
  go_enter Try.func6, Try.ntmps6
  go_wp2_with fail
  refine Calls.mono (lives_any _) ?_
  rintro e w' ⟨rfl, x0, rfl⟩
  go_wp2_with fail
  cases hf : (Fl.isFin level && Fl.isFin ease)
  · refine Calls.mono (new_bad level ease _ hx hy hf) ?_
    rintro e w' ⟨rfl, rfl⟩
    clear hf
    go_wp2
    go_ret
    exact ⟨rfl, Blw.is (by repeat (first | exact Blw.refl _ | apply Blw.ext | apply Blw.alloc | apply Blw.drewN | apply Blw.drew | refine Blw.setCell ?_ _ _ (by simp)))⟩
  have fx : Fl.isFin level = true := by cases hq : Fl.isFin level <;> simp_all
  have fy : Fl.isFin ease = true := by cases hq : Fl.isFin ease <;> simp_all
  clear hf
  cases hg : (FloatKind.f64.format.order ease level == some .gt)
  case true =>
    refine Calls.mono (new_arg level ease _ hx hy fx fy hg) ?_
    rintro e w' ⟨rfl, rfl⟩
    clear fx fy hg
    go_wp2
    go_ret
    exact ⟨rfl, Blw.is (by repeat (first | exact Blw.refl _ | apply Blw.ext | apply Blw.alloc | apply Blw.drewN | apply Blw.drew | refine Blw.setCell ?_ _ _ (by simp)))⟩
  refine Calls.mono (new_ok level ease _ hx hy fx fy hg) ?_
  clear fx fy hg
  rintro e w1 ⟨rfl, hw1⟩
  have hb1 : Blw w w1 := by rw [hw1]; exact (by repeat (first | exact Blw.refl _ | apply Blw.ext | apply Blw.alloc | apply Blw.drewN | apply Blw.drew | refine Blw.setCell ?_ _ _ (by simp)))
  obtain ⟨g, hgg⟩ := ex_hid (w.ext x0).heap.size
  rw [hgg.out]
  have hW1 : WAt w1 g (newS level ease) (.slice none 0 0) := by rw [hw1, ← hgg.out]; exact heap_alloc_new _ _
  have hg1 : w.heap.size ≤ g := by rw [← hgg.out]; exact w.le_ext x0
  clear hw1 hgg
  by_cases hbig : 120 < l.length
  · go_wp2
    go_ret
    exact ⟨rfl, Blw.is hb1⟩
  go_wp2_with fail
  go_loopw [9, 10, 11, 12] (fun vu vs vn vi wr => ∃ (k n : Nat) (s : WS) (a' : Option Addr) (cap' : Nat), k ≤ l.length ∧ n ≤ k ∧ vi = .int .i64 k ∧ vn = .int .i64 n ∧ vu = .bool s.up ∧ vs = .bool s.silent ∧ WInv s level ease n ∧
    WAt wr g s (.slice a' s.al.length cap') ∧ wr.ownsRow w.heap.size 68 2 (.slice a' s.al.length cap') s.al.length (alCells s.al) ∧ (∀ q, a' = some q → q.block ≠ g) ∧ Blw w wr) (fun _ _ _ i _ => l.length - (intOf i).toNat)
  case atStart => exact ⟨0, 0, newS level ease, none, 0, Nat.zero_le _, Nat.le_refl _, rfl, rfl, rfl, rfl, ⟨rfl, rfl, (fun h => by cases h), rfl⟩, hW1, World.ownsRow_nil _ _ _ _, (fun q h => by cases h), hb1⟩
  case round =>
    obtain ⟨k, n, s, a', cap', hk, hnk, rfl, rfl, rfl, rfl, hinv, hW, hown, hne, hb⟩ := hrel
    clear hW1 hb1
    by_cases hlt : k < l.length
    · obtain ⟨t, x, b, o, hgk, hm, rfl, hbs, c0, c1⟩ := smp_at (h.blw hb) hlt
      have HGK := Lib.hid hgk; clear hgk
      have hx2 := hl _ hm
      have gs : g < wr.heap.size := (Array.getElem?_eq_some_iff.1 hW).1
      go_wp2_with fail
      refine Calls.mono (feed_any g s a' cap' t x wr hW hx2 hinv.b w.heap.size hb.size hown hne) ?_
      obtain ⟨⟨s2, c, er⟩, hp⟩ := ex_hid (feedS s t x)
      have inv := feedS_inv hinv t x
      have ierr := feedS_err (s := s) (t := t) (x := x)
      rw [hp.out] at inv ierr ⊢
      simp only at inv ierr
      rintro e w2 h2
      obtain ⟨rfl, a2, cap2, hW2, own2, ne2, -, K2⟩ := h2.at
      have hb2 : Blw w w2 := K2.blw hb (by
        rintro i (rfl | ⟨q, h, rfl⟩)
        · exact hg1
        · exact (World.ownsRow.lt hown q.block (by subst h; rfl)).1)
      clear h2 K2 hown hne hW hb c0 c1 hbs gs hp
      obtain ⟨c0, c1⟩ : w2.cell? ⟨b, o + k * 2, none⟩ = some (.int .i64 t) ∧ w2.cell? ⟨b, o + k * 2 + 1, none⟩ = some (.float .f64 x) := by
        obtain ⟨t', x', b', o', hg', -, hbo, -, d0, d1⟩ := smp_at (h.blw hb2) hlt
        have := HGK.out.symm.trans hg'
        simp at this hbo
        obtain ⟨rfl, rfl⟩ := this
        obtain ⟨rfl, rfl⟩ := hbo
        exact ⟨d0, d1⟩
      by_cases her : er = 0
      · subst her
        obtain ⟨inv0, hc0, hc3, hup, i1, i2, i3, i4, hsl⟩ := inv rfl
        clear inv ierr
        have hc : c = 1 ∨ c = 2 ∨ c = 3 ∨ c = 0 := by omega
        rcases hc with rfl | rfl | rfl | rfl
        · obtain ⟨f1, f2, f3⟩ := i1 rfl
          clear i1 i2 i3 i4 hc0 hc3
          simp only [f1] at hup hsl
          simp at hup hsl inv0
          have one : ∀ w, (FloatKind.f64.format.order (Fl.fop .sub x x w) 0 == some .eq) = true := fun w => (Fl.sub_self_ord x w).trans f1
          clear f1
          have f2' : (FloatKind.f64.format.order x level == some .gt) = true := f2
          clear f2
          have h0 : (0 : Int) ≤ (k : Int) := by omega
          have h1 : (k : Int) < (l.length : Int) := by omega
          go_wp2_with fail
          go_region
          all_goals
            go_wp2_with (go_at_call 26; refine Calls.mono (up_any g s2 _ _ (by exact hW2)) ?_; rintro e w' ⟨rfl, rfl⟩)
            all_goals
              go_roundw
              case rel => exact ⟨k + 1, n + 1, s2, a2, cap2, by omega, by omega, by go_num, by go_num, (by first | rfl | simp [*]), (by first | rfl | simp [*]), inv0, hW2, own2, ne2, hb2.drewN _⟩
              case measure => simp [intOf]; omega
        · obtain ⟨f1, f2, f3⟩ := i2 rfl
          clear i1 i2 i3 i4 hc0 hc3
          simp only [f1] at hup hsl
          simp at hup hsl inv0
          have one : ∀ w, (FloatKind.f64.format.order (Fl.fop .sub x x w) 0 == some .eq) = true := fun w => (Fl.sub_self_ord x w).trans f1
          clear f1
          have f2' : (FloatKind.f64.format.order x ease == some .lt) = true := f2
          clear f2
          have h0 : (0 : Int) ≤ (k : Int) := by omega
          have h1 : (k : Int) < (l.length : Int) := by omega
          go_wp2_with fail
          go_region
          all_goals
            go_wp2_with (go_at_call 26; refine Calls.mono (up_any g s2 _ _ (by exact hW2)) ?_; rintro e w' ⟨rfl, rfl⟩)
            all_goals
              go_roundw
              case rel => exact ⟨k + 1, n + 1, s2, a2, cap2, by omega, by omega, by go_num, by go_num, (by first | rfl | simp [*]), (by first | rfl | simp [*]), inv0, hW2, own2, ne2, hb2.drewN _⟩
              case measure => simp [intOf]; omega
        · obtain ⟨f1, f3⟩ := i3 rfl
          clear i1 i2 i3 i4 hc0 hc3
          simp only [f1] at hup hsl
          simp at hup hsl inv0
          have one : ∀ w, (FloatKind.f64.format.order (Fl.fop .sub x x w) 0 == some .eq) = false := fun w => (Fl.sub_self_ord x w).trans f1
          clear f1
          have h0 : (0 : Int) ≤ (k : Int) := by omega
          have h1 : (k : Int) < (l.length : Int) := by omega
          go_wp2_with fail
          go_region
          all_goals
            go_wp2_with (go_at_call 26; refine Calls.mono (up_any g s2 _ _ (by exact hW2)) ?_; rintro e w' ⟨rfl, rfl⟩)
            all_goals
              go_roundw
              case rel => exact ⟨k + 1, n + 1, s2, a2, cap2, by omega, by omega, by go_num, by go_num, (by first | rfl | simp [*]), (by first | rfl | simp [*]), inv0, hW2, own2, ne2, hb2.drewN _⟩
              case measure => simp [intOf]; omega
        · clear i1 i2 i3 hc0 hc3
          have h0 : (0 : Int) ≤ (k : Int) := by omega
          have h1 : (k : Int) < (l.length : Int) := by omega
          cases hf : Fl.isFin x
          · simp only [hf] at hup hsl
            simp at hup hsl inv0
            clear i4
            have one : ∀ w, (FloatKind.f64.format.order (Fl.fop .sub x x w) 0 == some .eq) = false := fun w => (Fl.sub_self_ord x w).trans hf
            clear hf
            go_wp2_with fail
            go_region
            all_goals
              go_wp2_with (go_at_call 26; refine Calls.mono (up_any g s2 _ _ (by exact hW2)) ?_; rintro e w' ⟨rfl, rfl⟩)
              all_goals
                go_roundw
                case rel => exact ⟨k + 1, n, s2, a2, cap2, by omega, by omega, by go_num, rfl, (by first | rfl | simp [*]), (by first | rfl | simp [*]), inv0, hW2, own2, ne2, hb2.drewN _⟩
                case measure => simp [intOf]; omega
          · obtain ⟨j1, j2⟩ := i4 rfl hf
            clear i4
            simp only [hf] at hup hsl
            simp at hup hsl inv0
            have one : ∀ w, (FloatKind.f64.format.order (Fl.fop .sub x x w) 0 == some .eq) = true := fun w => (Fl.sub_self_ord x w).trans hf
            clear hf
            cases hu : s.up
            · have f2' : (FloatKind.f64.format.order x level == some .gt) = false := j1 hu
              clear j1 j2
              go_wp2_with fail
              go_region
              all_goals
                go_wp2_with (go_at_call 26; refine Calls.mono (up_any g s2 _ _ (by exact hW2)) ?_; rintro e w' ⟨rfl, rfl⟩)
                all_goals
                  go_roundw
                  case rel => exact ⟨k + 1, n, s2, a2, cap2, by omega, by omega, by go_num, rfl, (by first | rfl | simp [*]), (by first | rfl | simp [*]), inv0, hW2, own2, ne2, hb2.drewN _⟩
                  case measure => simp [intOf]; omega
            · have f2' : (FloatKind.f64.format.order x ease == some .lt) = false := j2 hu
              clear j1 j2
              go_wp2_with fail
              go_region
              all_goals
                go_wp2_with (go_at_call 26; refine Calls.mono (up_any g s2 _ _ (by exact hW2)) ?_; rintro e w' ⟨rfl, rfl⟩)
                all_goals
                  go_roundw
                  case rel => exact ⟨k + 1, n, s2, a2, cap2, by omega, by omega, by go_num, rfl, (by first | rfl | simp [*]), (by first | rfl | simp [*]), inv0, hW2, own2, ne2, hb2.drewN _⟩
                  case measure => simp [intOf]; omega
      · have her2 : (er != 0) = true := by simpa using her
        have es : s2 = s := ierr her
        subst es
        clear inv ierr her
        go_wp2_with fail
        go_roundw
        case rel => exact ⟨k + 1, n, s2, a2, cap2, by omega, by omega, by go_num, rfl, rfl, rfl, hinv, hW2, own2, ne2, hb2⟩
        case measure => simp [intOf]; omega
    · obtain ⟨a3, c3, he, har, -, -, -, hn3⟩ := own_arr hown
      injection he with e1 e2 e3
      subst e1 e3
      have hlen : s.al.length ≤ 1048576 := by rw [hinv.len]; omega
      have e5 : ((s.al.length : Int) == (n : Int)) = true := by rw [hinv.len]; simp
      have HN := Lib.hid hn3
      clear hn3 hinv hown e2
      go_wp2_with (go_at_call 27; refine Calls.mono (alarms_any g s a' cap' _ hW har HN.out hlen) ?_; rintro e w' ⟨a1, c1, x, rfl, rfl, -, -, -⟩)
      go_ret
      exact ⟨by simp, Blw.is (hb.ext _)⟩
end Go.Proofs.Ytigkfdoeneemeaa
