/- Several texts, joined. -/
import Derived.Test.YtigkfdoeneemeaaJ2
import Derived.Test.YtigkfdoeneemeaaJ1
import Derived.Laws.OwnMore
import Derived.Test.YtigkfdoeneemeaaJ0
import Derived.ProofKit
import Derived.OpenShut
set_option linter.unusedVariables false
set_option linter.unusedSimpArgs false
/- WaterMeans, in plain Lean: tops and bottoms take turns, and each stands to the one ahead as it must. -/
namespace Go.Proofs.Ytigkfdoeneemeaa

/-- Each with the one behind stands so. -/
def chn {α : Type} (P : α → α → Prop) : List α → Prop
  | a :: b :: r => P a b ∧ chn P (b :: r)
  | _ => True
theorem chn_at {α : Type} {P : α → α → Prop} : ∀ (l : List α), chn P l → ∀ i a b, l[i]? = some a → l[i + 1]? = some b → P a b := by
  intro l
  induction l with
  | nil => intro _ i a b h; simp at h
  | cons x l ih =>
    intro h i a b h1 h2
    cases l with
    | nil => simp at h2
    | cons y r =>
      cases i with
      | zero =>
        simp at h1 h2
        rw [← h1, ← h2]; exact h.1
      | succ i => exact ih h.2 i a b (by simpa using h1) (by simpa using h2)
def nxt (f : Nat → Int) (s t : Nat × Nat × Bool) : Prop := s.2.1 < t.1 ∧ s.2.2 = (f s.1 == 1) ∧ t.2.2 = (f t.1 == 1) ∧ f t.1 = - f s.1 ∧ ∀ j, s.1 < j → j ≤ t.1 → f j = 0 ∨ f j = f t.1
def inv (f : Nat → Int) (p : Option (Nat × Nat × Bool)) (a : Nat) : Prop := ∀ s, p = some s → s.2.1 < a ∧ s.2.2 = (f s.1 == 1) ∧ f a = - f s.1 ∧ ∀ j, s.1 < j → j ≤ a → f j = 0 ∨ f j = f a
theorem chn_some {α : Type} {P : α → α → Prop} {p : Option α} {t : α} {r : List α} (h : ∀ s, p = some s → P s t) (k : chn P (t :: r)) : chn P (p.toList ++ t :: r) := by
  cases p with
  | none => exact k
  | some s => exact ⟨h s rfl, k⟩
theorem chn_go {f : Nat → Int} {n : Nat} (hf : ∀ i, 0 < i → i < n → f i = -1 ∨ f i = 0 ∨ f i = 1) :
    ∀ d m a p, n - m = d → 0 < a → a < m → a < n → ¬ f a = 0 → (∀ j, a < j → j < m → f j = 0) → inv f p a → chn (nxt f) (p.toList ++ (cons2 (a :: plc f n m)).filterMap (wat2 f)) := by
  intro d
  induction d with
  | zero =>
    intro m a p hd h0 ha han hfa hz hi
    rw [plc_out (by omega)]
    cases p <;> exact True.intro
  | succ d ih =>
    intro m a p hd h0 ha han hfa hz hi
    by_cases hm : f m = 0
    · rw [plc_on (by omega) hm]
      exact ih (m + 1) a p (by omega) h0 (by omega) han hfa (fun j h1 h2 => by by_cases e : j = m; (rw [e]; exact hm); exact hz j h1 (by omega)) hi
    · rw [plc_at (by omega) hm]
      show chn (nxt f) (p.toList ++ ((a, m) :: cons2 (m :: plc f n (m + 1))).filterMap (wat2 f))
      have hmm : ∀ j, a < j → j ≤ m → f j = 0 ∨ f j = f m := fun j h1 h2 => by
        by_cases e : j = m
        · rw [e]; exact .inr rfl
        · exact .inl (hz j h1 (by omega))
      by_cases he : f m = f a
      · rw [List.filterMap_cons, show wat2 f (a, m) = none from if_pos he]
        refine ih (m + 1) m p (by omega) (by omega) (by omega) (by omega) hm (fun j h1 h2 => by omega) ?_
        intro s hs
        obtain ⟨i1, i2, i3, i4⟩ := hi s hs
        refine ⟨by omega, i2, by rw [he]; exact i3, fun j h1 h2 => ?_⟩
        by_cases hja : j ≤ a
        · rw [he]; exact i4 j h1 hja
        · exact hmm j (by omega) h2
      · rw [List.filterMap_cons, show wat2 f (a, m) = some (a, m - 1, f a == 1) from if_neg he]
        have h1 := hf a h0 han
        have h2 := hf m (by omega) (by omega)
        have hneg : f m = - f a := by omega
        refine chn_some ?_ ?_
        · intro s hs
          obtain ⟨i1, i2, i3, i4⟩ := hi s hs
          exact ⟨i1, i2, rfl, i3, i4⟩
        · refine ih (m + 1) m (some (a, m - 1, f a == 1)) (by omega) (by omega) (by omega) (by omega) hm (fun j h1 h2 => by omega) ?_
          intro s hs
          cases hs
          exact ⟨by show m - 1 < m; omega, rfl, hneg, hmm⟩
theorem chn_start {f : Nat → Int} {n : Nat} (hf : ∀ i, 0 < i → i < n → f i = -1 ∨ f i = 0 ∨ f i = 1) : ∀ d m, n - m = d → 0 < m → chn (nxt f) ((cons2 (plc f n m)).filterMap (wat2 f)) := by
  intro d
  induction d with
  | zero => intro m hd h0; rw [plc_out (by omega)]; exact True.intro
  | succ d ih =>
    intro m hd h0
    by_cases hm : f m = 0
    · rw [plc_on (by omega) hm]; exact ih (m + 1) (by omega) (by omega)
    · rw [plc_at (by omega) hm]
      exact chn_go hf _ (m + 1) m none rfl h0 (by omega) (by omega) hm (fun j h1 h2 => by omega) (fun s hs => by cases hs)
theorem wats_chn {f : Nat → Int} {n : Nat} (hf : ∀ i, 0 < i → i < n → f i = -1 ∨ f i = 0 ∨ f i = 1) : chn (nxt f) (wats f n n) := by rw [wats_plc]; exact chn_start hf _ 1 rfl (by decide)
theorem firstBad_all {f : Nat → Int} : ∀ n i, (∀ j, i ≤ j → j < i + n → f j = 0) → firstBad f i n = none := by
  intro n
  induction n with
  | zero => intro i _; rfl
  | succ n ih => intro i h; rw [firstBad_on (h i (Nat.le_refl _) (by omega))]; exact ih _ (fun j a b => h j (by omega) (by omega))

/-- The waters of a list pass Check. -/
theorem waters_good {l : List FL} {ws : List WL} {first : Int} (hok : ∀ x ∈ l, x.r.Ok) (hc : cntd l.length first = 0) (k : ws.map WL.key = (wats (sg l) l.length l.length).map (wkey l first)) : checkW ws = (0, 0) := by
  obtain ⟨hlen, hf0, hf1, hfn⟩ := cntd_zero hc
  have hch := wats_chn (f := sg l) (n := l.length) (fun i h0 hi => sg_cases hok h0 hi)
  have hin : ∀ t ∈ wats (sg l) l.length l.length, 1 ≤ t.1 ∧ t.1 ≤ t.2.1 ∧ t.2.1 + 1 < l.length := fun t ht => wats_in ht
  have hwl : (wats (sg l) l.length l.length).length ≤ l.length := by
    unfold wats; exact Nat.le_trans (List.length_filterMap_le _ _) (by simp)
  have hlw : ws.length = (wats (sg l) l.length l.length).length := by have := congrArg List.length k; simpa using this
  have at_ : ∀ (i : Nat) (x : WL), ws[i]? = some x → ∃ t : Nat × Nat × Bool, (wats (sg l) l.length l.length)[i]? = some t ∧ x.tick = first + t.1 ∧ x.last = first + t.2.1 ∧ x.top = t.2.2 ∧ x.h.r = rg l t.1 := by
    intro i x hx
    have := congrArg (fun m => m[i]?) k
    simp only [List.getElem?_map, hx, Option.map_some] at this
    cases ht : (wats (sg l) l.length l.length)[i]? with
    | none => rw [ht] at this; cases this
    | some t =>
      rw [ht] at this
      simp only [Option.map_some, Option.some.injEq, WL.key, wkey, Prod.mk.injEq] at this
      exact ⟨t, rfl, this.1, this.2.1, this.2.2.1, this.2.2.2⟩
  unfold checkW
  rw [if_neg (by omega), firstBad_all]
  intro i _ hi
  have hi' : i < ws.length := by omega
  unfold chkAt
  rw [List.getElem?_eq_getElem hi']
  obtain ⟨t, ht, x1, x2, x3, x4⟩ := at_ i _ (List.getElem?_eq_getElem hi')
  obtain ⟨t1, t2, t3⟩ := hin t (List.mem_of_getElem? ht)
  have hck : chkF (ws[i]).h.r = 0 := by
    rw [x4, rg_at (List.getElem?_eq_getElem (show t.1 < l.length by omega))]
    exact chkF_ok (hok _ (List.getElem_mem _))
  simp only
  split
  · unfold wrongN
    rw [if_neg (by omega), if_neg (by omega), if_neg (by omega), hck]
  · rename_i h0
    rw [List.getElem?_eq_getElem (show i - 1 < ws.length by omega)]
    obtain ⟨s, hs, y1, y2, y3, y4⟩ := at_ (i - 1) _ (List.getElem?_eq_getElem (show i - 1 < ws.length by omega))
    obtain ⟨s1, s2, s3⟩ := hin s (List.mem_of_getElem? hs)
    obtain ⟨n1, n2, n3, n4, n5⟩ := chn_at _ hch (i - 1) s t hs (by rw [show i - 1 + 1 = i by omega]; exact ht)
    have hs1 := sg_cases hok (show 0 < s.1 by omega) (show s.1 < l.length by omega)
    have ht1 := sg_cases hok (show 0 < t.1 by omega) (show t.1 < l.length by omega)
    have hnz : ¬ sg l t.1 = 0 := by
      intro e
      have hm := List.mem_of_getElem? ht
      unfold wats at hm
      rw [List.mem_filterMap] at hm
      obtain ⟨a, -, ha⟩ := hm
      unfold wat at ha
      split at ha
      · cases ha
      · rename_i hne
        split at ha
        · cases ha
        · split at ha
          · cases ha
          · cases ha; exact hne (.inr e)
    simp only
    unfold wrongS
    rw [if_neg (by omega), if_neg (by omega), if_neg (by omega), if_neg (by omega), if_neg (by rw [hck]; simp), if_neg, if_pos]
    · rw [x4, y4, x3, n3]
      rw [run_to hok (c := sg l t.1) (by omega) (by omega) (by omega) n5 rfl]
      rcases ht1 with e | e | e
      · rw [e]; rfl
      · exact absurd e hnz
      · rw [e]; rfl
    · rw [x3, y3, n2, n3, n4]
      rcases hs1 with e | e | e
      · rw [e]; decide
      · exact absurd (by rw [n4, e]; rfl) hnz
      · rw [e]; decide
end Go.Proofs.Ytigkfdoeneemeaa
/- WaterMeans, in plain Lean: what its loop finds. -/
namespace Go.Proofs.Ytigkfdoeneemeaa

theorem nextS_skip {f : Nat → Int} {n : Nat} : ∀ d m, (∀ j, m ≤ j → j < m + d → f j = 0) → m + d ≤ n → nextS f n m = nextS f n (m + d) := by
  intro d
  induction d with
  | zero => intro m _ _; rfl
  | succ d ih =>
    intro m h hn
    rw [nextS_on (by omega) (h m (Nat.le_refl _) (by omega)), ih (m + 1) (fun j a b => h j (by omega) (by omega)) (by omega), show m + 1 + d = m + (d + 1) by omega]
/-- How the height at k stands to that at i, all between being as that one. -/
def toI (l : List FL) (i k : Nat) : Int := if k = i then 0 else sg l k
theorem toI_is {l : List FL} (hok : ∀ x ∈ l, x.r.Ok) {i k : Nat} (hik : i ≤ k) (hk : k < l.length) (h : ∀ j, i < j → j < k → sg l j = 0) : cmpF (rg l k) (rg l i) = toI l i k := by
  unfold toI
  split
  · rename_i e
    subst e
    exact cmpF_self (by rw [rg_at (List.getElem?_eq_getElem hk)]; exact hok _ (List.getElem_mem hk))
  · exact flat_to hok (by omega) hk h
theorem back_is {l : List FL} (hok : ∀ x ∈ l, x.r.Ok) {i : Nat} (hi : i + 1 < l.length) : cmpF (rg l i) (rg l (i + 1)) = - sg l (i + 1) := by
  unfold sg
  exact cmpF_swap (by rw [rg_at (List.getElem?_eq_getElem hi)]; exact hok _ (List.getElem_mem hi)) (by rw [rg_at (List.getElem?_eq_getElem (show i < l.length by omega))]; exact hok _ (List.getElem_mem _))
/-- The three ways of a place where the list goes up or down. -/
theorem way_end {l : List FL} {i : Nat} (hi : 0 < i) (hil : i < l.length) (h0 : ¬ sg l i = 0) (h : ∀ j, i < j → j < l.length → sg l j = 0) : wats (sg l) l.length (i + 1) = wats (sg l) l.length i := by
  have e : nextS (sg l) l.length (i + 1) = none := by
    have := nextS_skip (f := sg l) (n := l.length) (l.length - (i + 1)) (i + 1) (fun j a b => h j (by omega) (by omega)) (by omega)
    rw [this]; exact nextS_out (by omega)
  exact wats_none (wat_out hi h0 e)
theorem way_next {l : List FL} {i k : Nat} (hik : i < k) (hkl : k < l.length) (h : ∀ j, i < j → j < k → sg l j = 0) (hk : ¬ sg l k = 0) : nextS (sg l) l.length (i + 1) = some k := by
  have := nextS_skip (f := sg l) (n := l.length) (k - (i + 1)) (i + 1) (fun j a b => h j (by omega) (by omega)) (by omega)
  rw [this, show i + 1 + (k - (i + 1)) = k by omega]; exact nextS_at hkl hk
theorem way_same {l : List FL} {i k : Nat} (hi : 0 < i) (h0 : ¬ sg l i = 0) (hik : i < k) (hkl : k < l.length) (h : ∀ j, i < j → j < k → sg l j = 0) (hk : ¬ sg l k = 0) (e : sg l k = sg l i) : wats (sg l) l.length (i + 1) = wats (sg l) l.length i :=
  wats_none (wat_same hi h0 (way_next hik hkl h hk) e)
theorem way_turn {l : List FL} {i k : Nat} (hi : 0 < i) (h0 : ¬ sg l i = 0) (hik : i < k) (hkl : k < l.length) (h : ∀ j, i < j → j < k → sg l j = 0) (hk : ¬ sg l k = 0) (e : ¬ sg l k = sg l i) : wats (sg l) l.length (i + 1) = wats (sg l) l.length i ++ [(i, k - 1, sg l i == 1)] :=
  wats_some (wat_turn hi h0 (way_next hik hkl h hk) e)
theorem wats_pre {f : Nat → Int} {n : Nat} : ∀ d i, wats f n i <+: wats f n (i + d) := by
  intro d
  induction d with
  | zero => intro i; exact List.prefix_refl _
  | succ d ih =>
    intro i
    refine (ih i).trans ?_
    show wats f n (i + d) <+: wats f n (i + d + 1)
    unfold wats; rw [List.range_succ (n := i + d), List.filterMap_append]; exact List.prefix_append _ _
/-- The water that stands at the place that the law has come to. -/
theorem means_at {l : List FL} {ws : List WL} {first : Int} {i k : Nat} {b : Bool} (hk : ws.map WL.key = (wats (sg l) l.length l.length).map (wkey l first)) (hil : i < l.length) (ht : wats (sg l) l.length (i + 1) = wats (sg l) l.length i ++ [(i, k, b)]) :
    (wats (sg l) l.length i).length < ws.length ∧ ∀ x, ws[(wats (sg l) l.length i).length]? = some x → x.tick = first + i ∧ x.last = first + k ∧ x.top = b ∧ x.h.r = rg l i := by
  have hp := wats_pre (f := sg l) (n := l.length) (l.length - (i + 1)) (i + 1)
  rw [show i + 1 + (l.length - (i + 1)) = l.length by omega, ht] at hp
  obtain ⟨r, hr⟩ := hp
  have hg : (wats (sg l) l.length l.length)[(wats (sg l) l.length i).length]? = some (i, k, b) := by
    rw [← hr, List.append_assoc, List.getElem?_append_right (Nat.le_refl _)]; simp
  have hlw : ws.length = (wats (sg l) l.length l.length).length := by have := congrArg List.length hk; simpa using this
  refine ⟨by rw [hlw]; exact (List.getElem?_eq_some_iff.1 hg).1, fun x hx => ?_⟩
  have := congrArg (fun m => m[(wats (sg l) l.length i).length]?) hk
  simp only [List.getElem?_map, hx, hg, Option.map_some, Option.some.injEq, WL.key, wkey, Prod.mk.injEq] at this
  exact ⟨this.1, this.2.1, this.2.2.1, this.2.2.2⟩
theorem wats_full {l : List FL} {i : Nat} (h1 : 1 ≤ i) (h2 : ¬ i < l.length) (h3 : i ≤ l.length ∨ i = 1) : (wats (sg l) l.length i).length = (wats (sg l) l.length l.length).length := by
  rcases h3 with h3 | h3
  · rw [show i = l.length by omega]
  · subst h3
    rw [wats_one]
    have : l.length = 0 ∨ l.length = 1 := by omega
    rcases this with h | h
    · rw [h]; simp [wats]
    · rw [h, wats_one]
end Go.Proofs.Ytigkfdoeneemeaa
/- water.Of of what may not be: the errors. -/
namespace Go.Proofs.Ytigkfdoeneemeaa
open Go.RowKit

/-- The error of a list of heights and a first tick. -/
def errO (l : List FL) (first : Int) : Int := if cntd l.length first = 0 then (match firstBad (fun i => chkF (rg l i)) 0 l.length with | none => 0 | some i => chkF (rg l i)) else cntd l.length first
theorem errO_ok {l : List FL} {first : Int} (h : errO l first = 0) : cntd l.length first = 0 ∧ ∀ x ∈ l, x.r.Ok := by
  unfold errO at h
  split at h
  · rename_i h0
    refine ⟨h0, ?_⟩
    split at h
    · rename_i hn
      intro x hx
      obtain ⟨i, hi, rfl⟩ := List.getElem_of_mem hx
      have key : ∀ n i, firstBad (fun i => chkF (rg l i)) i n = none → ∀ j, i ≤ j → j < i + n → chkF (rg l j) = 0 := by
        intro n
        induction n with
        | zero => intro i _ j h1 h2; omega
        | succ n ih =>
          intro i h j h1 h2
          by_cases h0 : chkF (rg l i) = 0
          · rw [firstBad_on h0] at h
            by_cases hj : j = i
            · rw [hj]; exact h0
            · exact ih (i + 1) h j (by omega) (by omega)
          · rw [firstBad_at h0] at h; cases h
      have := key _ _ hn i (Nat.zero_le _) (by omega)
      rw [rg_at (List.getElem?_eq_getElem hi)] at this
      exact ok_chkF this
    · rename_i i hi
      exfalso
      have : ∀ n j, firstBad (fun i => chkF (rg l i)) j n = some i → ¬ chkF (rg l i) = 0 := by
        intro n
        induction n with
        | zero => intro j h; simp [firstBad] at h
        | succ n ih =>
          intro j h
          by_cases hj : chkF (rg l j) = 0
          · rw [firstBad_on hj] at h; exact ih _ h
          · rw [firstBad_at hj] at h; cases h; exact hj
      exact this _ _ hi h
  · rename_i h0; exact absurd h h0

set_option maxRecDepth 100000 in
set_option maxHeartbeats 4000000 in
theorem waterOf_err (A : Option Addr) (l : List FL) (cap : Nat) (first : Int) (w : World) (hA : Arr w A (fls l)) (hin : ∀ x ∈ l, FL.In w x) (hl : l.length ≤ 9223372036854775807) (he : ¬ errO l first = 0) :
    Calls Try.prog 76 #[.slice A l.length cap, .int .i64 first] w fun e w' => e = .returned (.tuple #[.slice none 0 0, .int .i64 (errO l first)]) ∧ ∃ x, w' = w.ext x := by
  have CN := fun W => counted_any l.length first W hl
  by_cases h0 : cntd l.length first = 0
  · have hE : errO l first = match firstBad (fun i => chkF (rg l i)) 0 l.length with | none => 0 | some i => chkF (rg l i) := if_pos h0
    obtain ⟨hlen, hf0, hf1, hfn⟩ := cntd_zero h0
    rw [h0] at CN
    have HCN := Lib.hid CN
    have HIN := Lib.hid hin
    have HE := Lib.hid hE
    have HNE := Lib.hid he
    clear CN h0 hin hE he hl
    go_enter Try.func76, Try.ntmps76
    go_wp2
    go_step3
    go_wp2_with (go_at_call 126; refine Calls.mono (HCN.out _) ?_; rintro e w1 ⟨rfl, rfl⟩)
    clear HCN
    go_loopw [24] (fun vi wr => ∃ k : Nat, k ≤ l.length ∧ vi = .int .i64 k ∧ Blw w1 wr ∧ Hid (firstBad (fun i => chkF (rg l i)) 0 l.length = firstBad (fun i => chkF (rg l i)) k (l.length - k))) (fun i _ => l.length - (intOf i).toNat)
    case atStart => exact ⟨0, Nat.zero_le _, rfl, Blw.refl _, rfl⟩
    case round =>
      obtain ⟨k, hk, rfl, hb, hfb⟩ := hrel
      by_cases hlt : k < l.length
      · obtain ⟨x, b, o, hgk, hm, rfl, hbs, c0, c1, c2⟩ := fl_at (hA.blw hb) hlt
        have hx := (HIN.out x hm).blw hb
        have hck := fun W (hb : Blw wr W) => ratioCheck_any x.r x.a x.c x.b x.d W (FL.In.blw hx hb)
        have hrg := rg_at hgk
        have hlk : l.length - k = l.length - (k + 1) + 1 := by omega
        rw [hlk] at hfb
        have key : (chkF x.r = 0 → firstBad (fun i => chkF (rg l i)) 0 l.length = firstBad (fun i => chkF (rg l i)) (k + 1) (l.length - (k + 1))) ∧ (¬ chkF x.r = 0 → errO l first = chkF x.r) := by
          rw [← hrg]
          constructor
          · intro h; rw [hfb.out, firstBad_on h]
          · intro h; rw [HE.out, hfb.out, firstBad_at h]
        have HK := Lib.hid key
        generalize chkF x.r = u at *
        have HCK := Lib.hid hck
        clear hck hgk hm hx key hrg hlk hfb
        go_wp2_with fail
        refine Calls.mono (HCK.out _ (by repeat (first | exact Blw.refl _ | apply Blw.ext | apply Blw.alloc | apply Blw.drewN | apply Blw.drew | refine Blw.setCell ?_ _ _ (by simp)))) ?_
        rintro e w2 ⟨rfl, x2, rfl⟩
        clear HCK
        by_cases hu : u = 0
        · have HF := Lib.hid (HK.out.1 hu)
          subst hu
          clear HK
          go_wp2_with fail
          go_roundw
          case rel => exact ⟨k + 1, by omega, by go_num, (hb.alloc _).ext x2, HF⟩
          case measure => simp [intOf]; omega
        · have q : (u != 0) = true := by simpa using hu
          have HF := Lib.hid (HK.out.2 hu)
          clear HK hu
          go_wp2
          (try rw [Exit.noGoto_ret])
          go_ret2
          exact ⟨by rw [HF.out]; rfl, Blw.is ((hb.alloc _).ext x2)⟩
      · exfalso
        have hkl : k = l.length := by omega
        rw [hkl, Nat.sub_self] at hfb
        exact HNE.out (by rw [HE.out, hfb.out]; rfl)
  · have HE := Lib.hid (show errO l first = cntd l.length first from if_neg h0)
    generalize cntd l.length first = u at *
    have q : (u != 0) = true := by simpa using h0
    have HCN := Lib.hid CN
    clear CN h0 he hin
    go_enter Try.func76, Try.ntmps76
    go_wp2
    go_step3
    go_wp2_with (go_at_call 126; refine Calls.mono (HCN.out _) ?_; rintro e w1 ⟨rfl, rfl⟩)
    (try rw [Exit.noGoto_ret])
    go_ret2
    exact ⟨by rw [HE.out]; rfl, Blw.is (Blw.refl _)⟩
end Go.Proofs.Ytigkfdoeneemeaa
/- The walk of slackwaterref25.Of, of heights that may be. -/
namespace Go.Proofs.Ytigkfdoeneemeaa
open Go.RowKit

theorem wats_flat {f : Nat → Int} {n : Nat} : ∀ d m, (∀ j, m ≤ j → j < m + d → f j = 0) → wats f n (m + d) = wats f n m := by
  intro d
  induction d with
  | zero => intro m _; rfl
  | succ d ih =>
    intro m h
    rw [show m + (d + 1) = (m + d) + 1 by omega, wats_none (wat_zero (h (m + d) (by omega) (by omega)))]
    exact ih m (fun j a b => h j a (by omega))
theorem wats_first (f : Nat → Int) (n : Nat) : wats f n 1 = wats f n 0 := by rw [wats_one]; rfl
theorem wats_to {f : Nat → Int} {n i k : Nat} (hik : i ≤ k) (h : ∀ j, i < j → j ≤ k → f j = 0) : wats f n (k + 1) = wats f n (i + 1) := by
  have := wats_flat (f := f) (n := n) (k - i) (i + 1) (fun j a b => h j (by omega) (by omega))
  rwa [show i + 1 + (k - i) = k + 1 by omega] at this

theorem sg_vals {l : List FL} (hok : ∀ x ∈ l, x.r.Ok) {i : Nat} (hi : i < l.length) : sg l i = -1 ∨ sg l i = 0 ∨ sg l i = 1 := by
  unfold sg
  exact cmpF_cases (by rw [rg_at (List.getElem?_eq_getElem hi)]; exact hok _ (List.getElem_mem hi)) (by rw [rg_at (List.getElem?_eq_getElem (show i - 1 < l.length by omega))]; exact hok _ (List.getElem_mem _))

/-- What the reference tells of heights that may be: their heights lie where the list's lie. -/
def RefOfOut (w : World) (l : List FL) (first : Int) (e : Ending) (w' : World) : Prop :=
  ∃ (out : List WL) (a : Option Addr) (c : Nat), e = .returned (.tuple #[.slice a out.length c, .int .i64 0]) ∧ Blw w w' ∧ w'.ownsRow w.heap.size 90 6 (.slice a out.length c) out.length (wls out) ∧ (∀ x ∈ out, x.h ∈ l) ∧
    out.map WL.key = (wats (sg l) l.length l.length).map (wkey l first)

set_option maxRecDepth 100000 in
set_option maxHeartbeats 4000000 in
theorem refOf25_ok (A : Option Addr) (l : List FL) (cap : Nat) (first : Int) (w : World) (hA : Arr w A (fls l)) (hin : ∀ x ∈ l, FL.In w x) (hok : ∀ x ∈ l, x.r.Ok) (hc : cntd l.length first = 0) :
    Calls Try.prog 77 #[.slice A l.length cap, .int .i64 first] w (RefOfOut w l first) := by
  obtain ⟨hlen, hf0, hf1, hfn⟩ := cntd_zero hc
  have HIN := Lib.hid hin
  have HOK := Lib.hid hok
  have CMP := Lib.hid (fun (x y : FL) (hx : x ∈ l) (hy : y ∈ l) (W : World) (hW : Blw w W) => refCmp25_ok x.r y.r x.a x.c x.b x.d y.a y.c y.b y.d W (FrA.blw (hin x hx) hW) (FrA.blw (hin y hy) hW) (hok x hx) (hok y hy))
  have CHK := Lib.hid (fun (x : FL) (hx : x ∈ l) (W : World) (hW : Blw w W) => refCheck3_any x.r x.a x.c x.b x.d W (FrA.blw (hin x hx) hW))
  have d1 : decide ((4096 : Int) < (l.length : Int)) = false := by simp; omega
  have d2 : decide (first < 0) = false := by simp; omega
  have d3 : decide (1048576 < first) = false := by simp; omega
  have e1 : IntKind.i64.wrap (IntKind.i64.wrap (1048576 - (l.length : Int)) + 1) = 1048576 - (l.length : Int) + 1 := by rw [IntKind.wrap_i64, IntKind.wrap_i64]; omega
  have e2 : IntKind.i64.wrap (1048576 - (l.length : Int)) = 1048576 - (l.length : Int) := by rw [IntKind.wrap_i64]; omega
  have e3 : IntKind.i64.wrap (1048576 - (l.length : Int) + 1) = 1048576 - (l.length : Int) + 1 := by rw [IntKind.wrap_i64]; omega
  have hcs : (decide (0 < l.length) = false ∧ decide ((0 : Int) < (l.length : Int)) = false) ∨ (decide (0 < l.length) = true ∧ decide ((0 : Int) < (l.length : Int)) = true ∧ decide (1048576 - (l.length : Int) + 1 < first) = false) := by
    by_cases h4 : 0 < l.length
    · have := hfn h4
      exact .inr ⟨by simpa using h4, by simpa using h4, by simp; omega⟩
    · exact .inl ⟨by simpa using h4, by simpa using h4⟩
  clear hc hin hok hfn
  go_enter Try.func77, Try.ntmps77
  rcases hcs with ⟨g1, g1'⟩ | ⟨g1, g1', g2⟩
  all_goals
    go_wp2
    clear d1 d2 d3 e1 e2 e3 g1 g1'
    (try clear g2)
    go_loopw [6] (fun vi wr => ∃ k : Nat, k ≤ l.length ∧ vi = .int .i64 k ∧ Blw w wr) (fun i _ => l.length - (intOf i).toNat)
    case atStart => exact ⟨0, Nat.zero_le _, rfl, Blw.refl w⟩
    case round =>
      obtain ⟨k, hk, rfl, hb⟩ := hrel
      by_cases hlt : k < l.length
      · obtain ⟨x, b, o, hgx, hmx, rfl, hbs, c0, c1, c2⟩ := fl_at (hA.blw hb) hlt
        have hck := CHK.out x hmx wr hb
        rw [chkF_ok (HOK.out x hmx)] at hck
        have HCK := Lib.hid hck
        clear hck hgx hmx
        go_wp2_with fail
        refine Calls.mono HCK.out ?_
        rintro e w1 ⟨rfl, x1, rfl⟩
        go_wp2
        go_roundw
        case rel => exact ⟨k + 1, by omega, by go_num, hb.ext x1⟩
        case measure => simp [intOf]; omega
      · have hkl : k = l.length := by omega
        subst hkl
        go_wp2_with fail
        go_loopw [8, 9] (fun vo vi wx => ∃ (i : Nat) (out : List WL) (a : Option Addr) (c : Nat), i ≤ l.length ∧ vi = .int .i64 i ∧ vo = .slice a out.length c ∧ wx.ownsRow w.heap.size 90 6 (.slice a out.length c) out.length (wls out) ∧ Blw w wx ∧ out.length ≤ i ∧ Hid (∀ x ∈ out, x.h ∈ l) ∧
          Hid (out.map WL.key = (wats (sg l) l.length i).map (wkey l first)) ∧ (i = 0 ∨ i = l.length ∨ ¬ sg l i = 0)) (fun _ i _ => l.length - (intOf i).toNat)
        case atStart => exact ⟨0, [], none, 0, Nat.zero_le _, rfl, rfl, World.ownsRow_nil _ _ _ _, hb, Nat.le_refl _, fun x hx => by simp at hx, rfl, .inl rfl⟩
        case round =>
          obtain ⟨i, out, a, c, hi, rfl, rfl, hown, hb2, hol, hmem, hkey, hsi⟩ := hrel
          by_cases hlt2 : i < l.length
          · obtain ⟨wO, rfl⟩ : ∃ wO, wO = wr := ⟨_, rfl⟩
            go_wp2_with fail
            go_loopw [10] (fun vk wy => ∃ k : Nat, i ≤ k ∧ k < l.length ∧ vk = .int .i64 k ∧ Hid (∀ j, i < j → j ≤ k → sg l j = 0) ∧ Blw wO wy) (fun k _ => l.length - (intOf k).toNat)
            case atStart => exact ⟨i, Nat.le_refl _, hlt2, rfl, fun j a b => by omega, Blw.refl wO⟩
            case round =>
              obtain ⟨k, hik, hkl, rfl, hflat, hbk⟩ := hrel
              have hbw : Blw w wr := hb2.trans hbk
              have HOWN := Lib.hid (ownsRow_blw hown hbk)
              have w1 : IntKind.i64.wrap ((k : Int) + 1) = (k : Int) + 1 := by rw [IntKind.wrap_i64]; omega
              have hkt : wats (sg l) l.length (k + 1) = wats (sg l) l.length (i + 1) := wats_to hik hflat.out
              by_cases hk1 : k + 1 < l.length
              · obtain ⟨x, b, o, hgx, hmx, rfl, hbs, c0, c1, c2⟩ := fl_at (hA.blw hbw) hk1
                obtain ⟨y, b4, o4, hgy, hmy, e4, -, f0, f1, f2⟩ := fl_at (hA.blw hbw) hlt2
                simp only [Option.some.injEq, Addr.mk.injEq] at e4
                obtain ⟨rfl, rfl, -⟩ := e4
                have hcm : cmpF x.r y.r = sg l (k + 1) := by
                  have := flat_to HOK.out (s := i) (t := k + 1) (by omega) hk1 (fun j a b => hflat.out j a (by omega))
                  rwa [rg_at hgx, rg_at hgy] at this
                have hcp := CMP.out x y hmx hmy
                rw [hcm] at hcp
                have HC := Lib.hid (fun (W : World) (hW : Blw wr W) => hcp W (hbw.trans hW))
                have hsc := sg_vals HOK.out hk1
                have hst : Hid (∀ S, sg l (k + 1) = S → ¬ S = 0 → 0 < i → ¬ sg l i = 0 → (S = sg l i → wats (sg l) l.length (i + 1) = wats (sg l) l.length i) ∧ (¬ S = sg l i → wats (sg l) l.length (i + 1) = wats (sg l) l.length i ++ [(i, k, sg l i == 1)])) := by
                  rintro S rfl hS0 hi0 hsi0
                  exact ⟨fun e => way_same hi0 hsi0 (show i < k + 1 by omega) hk1 (fun j a b => hflat.out j a (by omega)) hS0 e, fun e => by
                    have := way_turn hi0 hsi0 (show i < k + 1 by omega) hk1 (fun j a b => hflat.out j a (by omega)) hS0 e
                    simpa using this⟩
                have i1 : ((k : Int) + 1).toNat = k + 1 := by omega
                have i2 : (0 : Int) ≤ (k : Int) + 1 := by omega
                have i3 : (k : Int) + 1 < (l.length : Int) := by omega
                have i4 : (i : Int) < (l.length : Int) := by omega
                have i5 : (0 : Int) ≤ (i : Int) := by omega
                obtain ⟨S, hS⟩ : ∃ S, S = sg l (k + 1) := ⟨_, rfl⟩
                have HS := Lib.hid hS
                rw [← hS] at HC hsc
                have HGY := Lib.hid hgy
                have HMY := Lib.hid hmy
                clear hcm hcp hgx hgy hmx hmy hS
                by_cases hS0 : S = 0
                · have HF : Hid (∀ j, i < j → j ≤ k + 1 → sg l j = 0) := fun j a b => by
                    by_cases hj : j = k + 1
                    · rw [hj, ← HS.out, hS0]
                    · exact hflat.out j a (by omega)
                  subst hS0
                  clear hsc hst hkt hflat HS
                  go_wp2_with fail
                  refine wp_region_ext_lit (by kernel_rfl) (by kernel_rfl) ?_
                  repeat (go_big_quiet_step ((go_at_call 131; (with_reducible exact Calls.ext_of (HC.out _ (by repeat (first | exact Blw.refl _ | apply Blw.ext | apply Blw.alloc | apply Blw.drewN | apply Blw.drew | refine Blw.setCell ?_ _ _ (by simp))))))))
                  refine wpQuiet_nil ?_
                  rintro _ ⟨z, rfl⟩
                  go_wp2
                  go_roundw
                  case rel => exact ⟨k + 1, by omega, hk1, by go_num, HF, hbk.ext z⟩
                  case measure => simp [intOf]; omega
                · have q1 : (S == 0) = false := by simpa using hS0
                  have HSI : k + 1 = 0 ∨ k + 1 = l.length ∨ ¬ sg l (k + 1) = 0 := .inr (.inr (by rw [← HS.out]; exact hS0))
                  go_wp2_with fail
                  refine wp_region_ext_lit (by kernel_rfl) (by kernel_rfl) ?_
                  repeat (go_big_quiet_step ((go_at_call 131; (with_reducible exact Calls.ext_of (HC.out _ (by repeat (first | exact Blw.refl _ | apply Blw.ext | apply Blw.alloc | apply Blw.drewN | apply Blw.drew | refine Blw.setCell ?_ _ _ (by simp))))))))
                  refine wpQuiet_nil ?_
                  rintro W9 ⟨z, hz⟩
                  have hb9 : Blw wr W9 := by rw [hz]; exact (by repeat (first | exact Blw.refl _ | apply Blw.ext | apply Blw.alloc | apply Blw.drewN | apply Blw.drew | refine Blw.setCell ?_ _ _ (by simp)))
                  have HOWN9 := Lib.hid (ownsRow_blw HOWN.out hb9)
                  have HBW := Lib.hid (hbw.trans hb9)
                  clear hz
                  by_cases hi0 : i = 0
                  · have d1 : decide ((0 : Int) < (i : Int)) = false := by simp; omega
                    have d2 : decide (0 < i) = false := by simp; omega
                    have HK1 : Hid (out.map WL.key = (wats (sg l) l.length (k + 1)).map (wkey l first)) := by
                      show _ = _
                      rw [hkt, hi0, wats_first, ← hi0]; exact hkey.out
                    clear hkey hkt hst hsi hi0 hflat hsc
                    go_wp2_with fail
                    go_roundw
                    case rel => exact ⟨k + 1, out, a, c, by omega, by go_num, rfl, HOWN9.out, HBW.out, by omega, hmem, HK1, HSI⟩
                    case measure => simp [intOf]; omega
                  · have hi1 : 0 < i := by omega
                    have hsi0 : ¬ sg l i = 0 := by rcases hsi with h | h | h; exact absurd h hi0; omega; exact h
                    obtain ⟨t1, t2⟩ := hst.out S HS.out.symm hS0 hi1 hsi0
                    have d1 : decide ((0 : Int) < (i : Int)) = true := by simp; omega
                    have d2 : decide (0 < i) = true := by simp; omega
                    have w2 : IntKind.i64.wrap ((i : Int) - 1) = (i : Int) - 1 := by rw [IntKind.wrap_i64]; omega
                    have w3 : ((i : Int) - 1).toNat = i - 1 := by omega
                    have w4 : (0 : Int) ≤ (i : Int) - 1 := by omega
                    have w5 : (i : Int) - 1 < (l.length : Int) := by omega
                    have w6 : (1 : Int) ≤ (i : Int) := by omega
                    obtain ⟨y', b5, o5, hgy', hmy', e5, -, h0, h1, h2⟩ := fl_at (k := i) (hA.blw HBW.out) hlt2
                    simp only [Option.some.injEq, Addr.mk.injEq] at e5
                    obtain ⟨rfl, rfl, -⟩ := e5
                    obtain rfl : y = y' := by have := HGY.out.symm.trans hgy'; simpa using this
                    obtain ⟨x', b6, o6, hgx', hmx', e6, -, j0, j1, j2⟩ := fl_at (k := k + 1) (hA.blw HBW.out) hk1
                    simp only [Option.some.injEq, Addr.mk.injEq] at e6
                    obtain ⟨rfl, rfl, -⟩ := e6
                    obtain ⟨v, b7, o7, hgv, hmv, e7, -, k0, k1, k2⟩ := fl_at (k := i - 1) (hA.blw HBW.out) (by omega)
                    simp only [Option.some.injEq, Addr.mk.injEq] at e7
                    obtain ⟨rfl, rfl, -⟩ := e7
                    have hcm1 : cmpF v.r y.r = - sg l i := by
                      have := back_is HOK.out (i := i - 1) (by omega)
                      rw [show i - 1 + 1 = i by omega, rg_at hgv, rg_at hgy'] at this
                      exact this
                    have hcm2 : cmpF x'.r y.r = S := by
                      have := flat_to HOK.out (s := i) (t := k + 1) (by omega) hk1 (fun j a b => hflat.out j a (by omega))
                      rw [rg_at hgx', rg_at hgy'] at this
                      rw [this]; exact HS.out.symm
                    have hc1 := CMP.out v y hmv hmy'
                    have hc2 := CMP.out x' y hmx' hmy'
                    rw [hcm1] at hc1
                    rw [hcm2] at hc2
                    have HC1 := Lib.hid (fun (W : World) (hW : Blw W9 W) => hc1 W (HBW.out.trans hW))
                    have HC2 := Lib.hid (fun (W : World) (hW : Blw W9 W) => hc2 W (HBW.out.trans hW))
                    have hsci := sg_vals HOK.out hlt2
                    have hbs9 := Nat.lt_of_lt_of_le hbs hb9.size
                    have hryi : rg l i = y.r := rg_at hgy'
                    have HRY := Lib.hid hryi
                    have HMY' := Lib.hid hmy'
                    obtain ⟨T, hT⟩ : ∃ T, T = sg l i := ⟨_, rfl⟩
                    rw [← hT] at HC1 hsci t1 t2 hsi0
                    have HT := Lib.hid hT
                    clear hcm1 hcm2 hc1 hc2 hgv hmv hgx' hmx' hgy' hmy' hT hryi hst hsi hflat HC c0 c1 c2 f0 f1 f2 hi0
                    by_cases hST : S = T
                    · have HK1 : Hid (out.map WL.key = (wats (sg l) l.length (k + 1)).map (wkey l first)) := by
                        show _ = _
                        rw [hkt, t1 hST]; exact hkey.out
                      have q2 : (-T == S) = false := by simp; omega
                      clear hkey hkt t1 t2
                      go_wp2_with fail
                      refine wp_region_ext_lit (by kernel_rfl) (by kernel_rfl) ?_
                      repeat (go_big_quiet_step ((go_at_call 131; first | (with_reducible exact Calls.ext_of (HC1.out _ (by repeat (first | exact Blw.refl _ | apply Blw.ext | apply Blw.alloc | apply Blw.drewN | apply Blw.drew | refine Blw.setCell ?_ _ _ (by simp))))) | (with_reducible exact Calls.ext_of (HC2.out _ (by repeat (first | exact Blw.refl _ | apply Blw.ext | apply Blw.alloc | apply Blw.drewN | apply Blw.drew | refine Blw.setCell ?_ _ _ (by simp))))))))
                      refine wpQuiet_nil ?_
                      rintro _ ⟨z2, rfl⟩
                      go_wp2_with fail
                      go_roundw
                      case rel => exact ⟨k + 1, out, a, c, by omega, by go_num, rfl, ownsRow_blw HOWN9.out (World.blw_ext _ _), HBW.out.ext z2, by omega, hmem, HK1, HSI⟩
                      case measure => simp [intOf]; omega
                    · have hw := t2 hST
                      have q2 : (-T == S) = true := by simp; omega
                      have HW := Lib.hid hw
                      have u1 : IntKind.i64.wrap (first + (i : Int)) = first + (i : Int) := by rw [IntKind.wrap_i64]; omega
                      have u2 : IntKind.i64.wrap (first + (k : Int)) = first + (k : Int) := by rw [IntKind.wrap_i64]; omega
                      have hneg : decide (-T < 0) = (T == 1) := by rcases hsci with h | h | h <;> rw [h] <;> rfl
                      have hneg2 : decide (0 < T) = (T == 1) := by rcases hsci with h | h | h <;> rw [h] <;> rfl
                      clear t1 t2 hw
                      go_wp2_with fail
                      refine wp_region_ext_lit (by kernel_rfl) (by kernel_rfl) ?_
                      repeat (go_big_quiet_step ((go_at_call 131; first | (with_reducible exact Calls.ext_of (HC1.out _ (by repeat (first | exact Blw.refl _ | apply Blw.ext | apply Blw.alloc | apply Blw.drewN | apply Blw.drew | refine Blw.setCell ?_ _ _ (by simp))))) | (with_reducible exact Calls.ext_of (HC2.out _ (by repeat (first | exact Blw.refl _ | apply Blw.ext | apply Blw.alloc | apply Blw.drewN | apply Blw.drew | refine Blw.setCell ?_ _ _ (by simp))))))))
                      refine wpQuiet_nil ?_
                      rintro W8 ⟨z2, hz2⟩
                      have hb8 : Blw W9 W8 := by rw [hz2]; exact (by repeat (first | exact Blw.refl _ | apply Blw.ext | apply Blw.alloc | apply Blw.drewN | apply Blw.drew | refine Blw.setCell ?_ _ _ (by simp)))
                      have hown8 := ownsRow_blw HOWN9.out hb8
                      have hbw8 := HBW.out.trans hb8
                      replace h0 := (Below.cell hb8 hbs9).trans h0
                      replace h1 := (Below.cell hb8 hbs9).trans h1
                      replace h2 := (Below.cell hb8 hbs9).trans h2
                      clear HC1 HC2 hz2 j0 j1 j2 k0 k1 k2 HOWN9 HBW HOWN
                      have hol2 : out.length ≤ 4096 := by omega
                      go_wp2_with (at_builtin; refine wpList_app w _ rfl _ _ 84 rfl sl_waters (hbw8.alloc _) _ out.length _ rfl (ownsRow_blw hown8 ((Blw.refl _).alloc _)) _ 1 1 [.int .i64 (first + (i : Int)), .int .i64 (first + (k : Int)), .bool (T == 1), .bool y.r.neg, .slice y.a y.r.num.length y.c, .slice y.b y.r.den.length y.d] rfl (by simp) (Arr.lit _ _ _ _) (by simp) (by simp [Value.oneCell']) (by unfold maxLen; omega) (by omega) ?_; intro v7 w7 hown7 hb7 hg7 _)
                      obtain ⟨a7, c7, rfl, -, -, -, -, -⟩ := own_arr hown7
                      have HK1 : Hid ((out ++ [(⟨first + (i : Int), first + (k : Int), T == 1, y⟩ : WL)]).map WL.key = (wats (sg l) l.length (k + 1)).map (wkey l first)) := by
                        show _ = _
                        rw [hkt, HW.out, List.map_append, List.map_append, hkey.out]
                        simp [WL.key, wkey, HRY.out]
                      have HM1 : Hid (∀ x ∈ out ++ [(⟨first + (i : Int), first + (k : Int), T == 1, y⟩ : WL)], x.h ∈ l) := by
                        intro x hx
                        rw [List.mem_append, List.mem_singleton] at hx
                        rcases hx with hx | rfl
                        · exact hmem.out x hx
                        · exact HMY'.out
                      have HOL : Hid (w7.ownsRow w.heap.size 90 6 (.slice a7 (out ++ [(⟨first + (i : Int), first + (k : Int), T == 1, y⟩ : WL)]).length c7) (out ++ [(⟨first + (i : Int), first + (k : Int), T == 1, y⟩ : WL)]).length (wls (out ++ [(⟨first + (i : Int), first + (k : Int), T == 1, y⟩ : WL)]))) := by
                        have e : wls (out ++ [(⟨first + (i : Int), first + (k : Int), T == 1, y⟩ : WL)]) = wls out ++ [.int .i64 (first + (i : Int)), .int .i64 (first + (k : Int)), .bool (T == 1), .bool y.r.neg, .slice y.a y.r.num.length y.c, .slice y.b y.r.den.length y.d] := by
                          rw [wls, List.flatMap_append]; rfl
                        show World.ownsRow _ _ _ _ _ _ _
                        rw [e, List.length_append]
                        exact hown7
                      clear hown7 hg7 hown8 hkey hkt
                      go_roundw
                      case rel => exact ⟨k + 1, _, a7, c7, by omega, by go_num, (by rw [List.length_append]; rfl), HOL.out, hb7, (by rw [List.length_append]; simp; omega), HM1, HK1, HSI⟩
                      case measure => simp [intOf]; omega
              · have hkl1 : k + 1 = l.length := by omega
                have i3 : decide ((k : Int) + 1 < (l.length : Int)) = false := by simp; omega
                have HSI : k + 1 = 0 ∨ k + 1 = l.length ∨ ¬ sg l (k + 1) = 0 := .inr (.inl hkl1)
                have HK1 : Hid (out.map WL.key = (wats (sg l) l.length (k + 1)).map (wkey l first)) := by
                  show _ = _
                  rw [hkt]
                  by_cases hi0 : i = 0
                  · rw [hi0, wats_first, ← hi0]; exact hkey.out
                  · have hsi0 : ¬ sg l i = 0 := by rcases hsi with h | h | h; exact absurd h hi0; omega; exact h
                    rw [way_end (by omega) hlt2 hsi0 (fun j a b => hflat.out j a (by omega))]; exact hkey.out
                have hics : (decide ((0 : Int) < (i : Int)) = false ∧ decide (0 < i) = false) ∨ (decide ((0 : Int) < (i : Int)) = true ∧ decide (0 < i) = true) := by
                  by_cases hi0 : i = 0
                  · exact .inl ⟨by simp; omega, by simp; omega⟩
                  · exact .inr ⟨by simp; omega, by simp; omega⟩
                clear hkey hkt hflat hsi
                rcases hics with ⟨d1, d2⟩ | ⟨d1, d2⟩
                all_goals
                  go_wp2_with fail
                  go_quiet (fail)
                  go_wp2_with fail
                  go_roundw
                  case rel => exact ⟨k + 1, out, a, c, by omega, by go_num, rfl, ownsRow_blw HOWN.out (by repeat (first | exact Blw.refl _ | apply Blw.ext | apply Blw.alloc | apply Blw.drewN | apply Blw.drew | refine Blw.setCell ?_ _ _ (by simp))), hbw.trans (by repeat (first | exact Blw.refl _ | apply Blw.ext | apply Blw.alloc | apply Blw.drewN | apply Blw.drew | refine Blw.setCell ?_ _ _ (by simp))), by omega, hmem, HK1, HSI⟩
                  case measure => simp [intOf]; omega
          · have hil : i = l.length := by omega
            have HK1 : Hid (out.map WL.key = (wats (sg l) l.length l.length).map (wkey l first)) := by show _ = _; rw [hkey.out, hil]
            clear hkey
            go_wp2_with fail
            go_ret2
            exact ⟨out, a, c, rfl, hb2, hown, hmem.out, HK1.out⟩
end Go.Proofs.Ytigkfdoeneemeaa
/- slackwaterref25.Of of what may not be: the errors. -/
namespace Go.Proofs.Ytigkfdoeneemeaa
open Go.RowKit

set_option maxRecDepth 100000 in
set_option maxHeartbeats 4000000 in
theorem refOf25_err (A : Option Addr) (l : List FL) (cap : Nat) (first : Int) (w : World) (hA : Arr w A (fls l)) (hin : ∀ x ∈ l, FL.In w x) (hl : l.length ≤ 100000) (hi0 : -9223372036854775808 ≤ first) (hi1 : first ≤ 9223372036854775807) (he : ¬ errO l first = 0) :
    Calls Try.prog 77 #[.slice A l.length cap, .int .i64 first] w fun e w' => e = .returned (.tuple #[.slice none 0 0, .int .i64 (errO l first)]) ∧ ∃ x, w' = w.ext x := by
  have hcn : cntd l.length first = if 4096 < l.length then 3 else if first < 0 ∨ 1048576 < first ∨ (0 < l.length ∧ 1048576 - (l.length : Int) + 1 < first) then 2 else 0 := rfl
  by_cases h1 : 4096 < l.length
  · have HE : Hid (errO l first = 3) := by
      show _ = _
      unfold errO
      rw [hcn, if_pos h1]; simp
    have d1 : decide ((4096 : Int) < (l.length : Int)) = true := by simp; omega
    clear he hcn h1
    go_enter Try.func77, Try.ntmps77
    go_wp2
    go_ret2
    exact ⟨by rw [HE.out]; rfl, Blw.is (by repeat (first | exact Blw.refl _ | apply Blw.ext | apply Blw.alloc | apply Blw.drewN | apply Blw.drew | refine Blw.setCell ?_ _ _ (by simp)))⟩
  have d1 : decide ((4096 : Int) < (l.length : Int)) = false := by simp; omega
  rw [if_neg h1] at hcn
  by_cases h2 : first < 0 ∨ 1048576 < first ∨ (0 < l.length ∧ 1048576 - (l.length : Int) + 1 < first)
  · have HE : Hid (errO l first = 2) := by
      show _ = _
      unfold errO
      rw [hcn, if_pos h2]; simp
    clear he hcn
    have e1 : IntKind.i64.wrap (IntKind.i64.wrap (1048576 - (l.length : Int)) + 1) = 1048576 - (l.length : Int) + 1 := by rw [IntKind.wrap_i64, IntKind.wrap_i64]; omega
    have e2 : IntKind.i64.wrap (1048576 - (l.length : Int)) = 1048576 - (l.length : Int) := by rw [IntKind.wrap_i64]; omega
    have e3 : IntKind.i64.wrap (1048576 - (l.length : Int) + 1) = 1048576 - (l.length : Int) + 1 := by rw [IntKind.wrap_i64]; omega
    by_cases g1 : first < 0
    · have d2 : decide (first < 0) = true := by simpa using g1
      go_enter Try.func77, Try.ntmps77
      go_wp2
      go_ret2
      exact ⟨by rw [HE.out]; rfl, Blw.is (by repeat (first | exact Blw.refl _ | apply Blw.ext | apply Blw.alloc | apply Blw.drewN | apply Blw.drew | refine Blw.setCell ?_ _ _ (by simp)))⟩
    · have d2 : decide (first < 0) = false := by simpa using g1
      by_cases g2 : 1048576 < first
      · have d3 : decide (1048576 < first) = true := by simpa using g2
        go_enter Try.func77, Try.ntmps77
        go_wp2
        go_ret2
        exact ⟨by rw [HE.out]; rfl, Blw.is (by repeat (first | exact Blw.refl _ | apply Blw.ext | apply Blw.alloc | apply Blw.drewN | apply Blw.drew | refine Blw.setCell ?_ _ _ (by simp)))⟩
      · have d3 : decide (1048576 < first) = false := by simpa using g2
        have h3 : 0 < l.length ∧ 1048576 - (l.length : Int) + 1 < first := by rcases h2 with h | h | h; exact absurd h g1; exact absurd h g2; exact h
        have d4 : decide (0 < l.length) = true := by simpa using h3.1
        have d4' : decide ((0 : Int) < (l.length : Int)) = true := by simp; omega
        have d5 : decide (1048576 - (l.length : Int) + 1 < first) = true := by simpa using h3.2
        clear h2 h3
        go_enter Try.func77, Try.ntmps77
        go_wp2
        go_ret2
        exact ⟨by rw [HE.out]; rfl, Blw.is (by repeat (first | exact Blw.refl _ | apply Blw.ext | apply Blw.alloc | apply Blw.drewN | apply Blw.drew | refine Blw.setCell ?_ _ _ (by simp)))⟩
  · rw [if_neg h2] at hcn
    obtain ⟨hlen, hf0, hf1, hfn⟩ := cntd_zero hcn
    have hE : errO l first = match firstBad (fun i => chkF (rg l i)) 0 l.length with | none => 0 | some i => chkF (rg l i) := if_pos hcn
    have HIN := Lib.hid hin
    have HE := Lib.hid hE
    have HNE := Lib.hid he
    have CHK := Lib.hid (fun (x : FL) (hx : x ∈ l) (W : World) (hW : Blw w W) => refCheck3_any x.r x.a x.c x.b x.d W (FrA.blw (hin x hx) hW))
    have d2 : decide (first < 0) = false := by simp; omega
    have d3 : decide (1048576 < first) = false := by simp; omega
    have e1 : IntKind.i64.wrap (IntKind.i64.wrap (1048576 - (l.length : Int)) + 1) = 1048576 - (l.length : Int) + 1 := by rw [IntKind.wrap_i64, IntKind.wrap_i64]; omega
    have e2 : IntKind.i64.wrap (1048576 - (l.length : Int)) = 1048576 - (l.length : Int) := by rw [IntKind.wrap_i64]; omega
    have e3 : IntKind.i64.wrap (1048576 - (l.length : Int) + 1) = 1048576 - (l.length : Int) + 1 := by rw [IntKind.wrap_i64]; omega
    have hcs : (decide (0 < l.length) = false ∧ decide ((0 : Int) < (l.length : Int)) = false) ∨ (decide (0 < l.length) = true ∧ decide ((0 : Int) < (l.length : Int)) = true ∧ decide (1048576 - (l.length : Int) + 1 < first) = false) := by
      by_cases h4 : 0 < l.length
      · have := hfn h4
        exact .inr ⟨by simpa using h4, by simpa using h4, by simp; omega⟩
      · exact .inl ⟨by simpa using h4, by simpa using h4⟩
    clear hcn hin hE he hfn h2 h1 hi0 hi1
    go_enter Try.func77, Try.ntmps77
    rcases hcs with ⟨g1, g1'⟩ | ⟨g1, g1', g2⟩
    all_goals
      go_wp2
      clear d1 d2 d3 e1 e2 e3 g1 g1'
      (try clear g2)
      go_loopw [6] (fun vi wr => ∃ k : Nat, k ≤ l.length ∧ vi = .int .i64 k ∧ Hid (firstBad (fun i => chkF (rg l i)) 0 l.length = firstBad (fun i => chkF (rg l i)) k (l.length - k)) ∧ Blw w wr) (fun i _ => l.length - (intOf i).toNat)
      case atStart => exact ⟨0, Nat.zero_le _, rfl, rfl, Blw.refl w⟩
      case round =>
        obtain ⟨k, hk, rfl, hfb, hb⟩ := hrel
        by_cases hlt : k < l.length
        · obtain ⟨x, b, o, hgx, hmx, rfl, hbs, c0, c1, c2⟩ := fl_at (hA.blw hb) hlt
          have hck := CHK.out x hmx wr hb
          have hrx := rg_at hgx
          have hlk : l.length - k = l.length - (k + 1) + 1 := by omega
          rw [hlk] at hfb
          have key : (chkF x.r = 0 → firstBad (fun i => chkF (rg l i)) 0 l.length = firstBad (fun i => chkF (rg l i)) (k + 1) (l.length - (k + 1))) ∧ (¬ chkF x.r = 0 → errO l first = chkF x.r) := by
            constructor
            · intro h; rw [hfb.out]; exact firstBad_on (f := fun i => chkF (rg l i)) (by show chkF (rg l k) = 0; rw [hrx]; exact h)
            · intro h
              have e := firstBad_at (f := fun i => chkF (rg l i)) (i := k) (n := l.length - (k + 1)) (by show ¬ chkF (rg l k) = 0; rw [hrx]; exact h)
              rw [HE.out, hfb.out, e]
              show chkF (rg l k) = _
              rw [hrx]
          have HK := Lib.hid key
          have HCK := Lib.hid hck
          clear hck hgx hmx key hfb hlk hrx
          generalize chkF x.r = u at *
          go_wp2_with fail
          refine Calls.mono HCK.out ?_
          rintro e w1 ⟨rfl, x1, rfl⟩
          by_cases hz : u = 0
          · have HF := Lib.hid (HK.out.1 hz)
            subst hz
            clear HK HCK
            go_wp2
            go_roundw
            case rel => exact ⟨k + 1, by omega, by go_num, HF, hb.ext x1⟩
            case measure => simp [intOf]; omega
          · have q : (u != 0) = true := by simpa using hz
            have HF := Lib.hid (HK.out.2 hz)
            clear HK HCK hz
            go_wp2
            go_ret2
            exact ⟨by rw [HF.out]; rfl, Blw.is (hb.ext x1)⟩
        · exfalso
          have hkl : k = l.length := by omega
          subst hkl
          refine HNE.out ?_
          rw [HE.out, hfb.out, Nat.sub_self]; rfl
end Go.Proofs.Ytigkfdoeneemeaa
/- slackwaterkit: LentRatios, KeptRatios, walked. -/
namespace Go.Proofs.Ytigkfdoeneemeaa
open Go.RowKit

def rSp : Fr := ⟨true, [77], []⟩
theorem fls_app (l m : List FL) : fls (l ++ m) = fls l ++ fls m := List.flatMap_append

set_option maxRecDepth 100000 in
set_option maxHeartbeats 4000000 in
theorem lentRatios_any (A : Option Addr) (l : List FL) (cap : Nat) (w : World) (hA : Arr w A (fls l)) (hin : ∀ x ∈ l, FL.In w x) (hl : l.length ≤ 100000) (hs : ∀ x ∈ l, x.r.num.length ≤ 1000000 ∧ x.r.den.length ≤ 1000000) :
    Calls Try.prog 75 #[.slice A l.length cap] w fun e w' => ∃ (ls sp : List FL) (a : Option Addr) (c : Nat), e = .returned (.slice a (l.length + 3) c) ∧ Blw w w' ∧ w'.ownsRow w.heap.size 88 3 (.slice a (l.length + 3) c) (l.length + 3) (fls (ls ++ sp)) ∧ ls.map (·.r) = l.map (·.r) ∧ (∀ x ∈ ls, LentFL w.heap.size w' x) ∧ sp.length = 3 ∧ (∀ x ∈ sp, x.r = rSp ∧ OwnFL w.heap.size w' x) := by
  have HIN := Lib.hid hin
  have HS := Lib.hid hs
  clear hin hs
  go_enter Try.func75, Try.ntmps75
  go_wp2_with fail
  go_loopw [3, 4] (fun v i wr => ∃ (k : Nat) (ls : List FL), k ≤ l.length ∧ i = .int .i64 k ∧ wr.ownsRow w.heap.size 88 3 v k (fls ls) ∧ Blw w wr ∧ Hid (ls.map (·.r) = (l.take k).map (·.r)) ∧ Hid (∀ x ∈ ls, LentFL w.heap.size wr x)) (fun _ i _ => l.length - (intOf i).toNat)
  case atStart => exact ⟨0, [], Nat.zero_le _, rfl, World.ownsRow_nil _ _ _ _, Blw.refl w, rfl, fun x hx => by simp at hx⟩
  case round =>
    obtain ⟨k, ls, hk, rfl, hown, hb, hkey, hll⟩ := hrel
    by_cases hlt : k < l.length
    · obtain ⟨x, b, o, hgx, hmx, rfl, hbs, c0, c1, c2⟩ := fl_at (hA.blw hb) hlt
      have hxin : FrA wr x.r x.a x.c x.b x.d := (HIN.out x hmx).blw hb
      obtain ⟨lnx, ldx⟩ := HS.out x hmx
      have HLR := Lib.hid (lentRatio_any x.r x.a x.c x.b x.d wr hxin lnx ldx)
      have HGX := Lib.hid hgx
      have hk1 : k ≤ 100000 := by omega
      have HCL := Lib.hid (cells_len FL.cells 3 (fun _ => rfl) ls)
      obtain ⟨⟨rn, rnum, rden⟩, ra, rc, rb, rd⟩ := x
      simp only at HLR c0 c1 c2
      clear hxin hgx hmx lnx ldx
      go_wp2_with fail
      refine Calls.mono HLR.out ?_
      rintro e w9 ⟨p1, q1, p2, q2, rfl, b9, L9⟩
      clear HLR
      go_wp2_with (at_builtin; refine wpList_app w _ rfl _ _ 97 rfl sl_ratios ((hb.trans b9).alloc _) _ k (fls ls) rfl (ownsRow_blw hown (b9.alloc _)) _ 1 1 [.bool rn, .slice p1 rnum.length q1, .slice p2 rden.length q2] rfl (by simp) (Arr.lit _ _ _ _) (by simp) (by simp [Value.oneCell']) (by unfold maxLen; omega) (by omega) ?_; intro v7 w7 hown7 hb7 hg7 _)
      have HKY : Hid ((ls ++ [(⟨⟨rn, rnum, rden⟩, p1, q1, p2, q2⟩ : FL)]).map (·.r) = (l.take (k + 1)).map (·.r)) := by
        show _ = _
        rw [List.map_append, hkey.out, List.take_add_one, HGX.out]
        simp
      have HO : Hid (∀ x ∈ ls ++ [(⟨⟨rn, rnum, rden⟩, p1, q1, p2, q2⟩ : FL)], LentFL w.heap.size w7 x) := by
        intro x hx
        rw [List.mem_append, List.mem_singleton] at hx
        rcases hx with hx | rfl
        · exact LentFL.past ((hll.out x hx).blw (b9.alloc _)) (ownsRow_blw hown (b9.alloc _)) (by decide) hg7
        · exact LentFL.past (LentFL.blw (LentFL.mono L9 hb.size) ((Blw.refl w9).alloc _)) (ownsRow_blw hown (b9.alloc _)) (by decide) hg7
      have HOL : Hid (w7.ownsRow w.heap.size 88 3 v7 (k + 1) (fls (ls ++ [(⟨⟨rn, rnum, rden⟩, p1, q1, p2, q2⟩ : FL)]))) := by
        have e : fls (ls ++ [(⟨⟨rn, rnum, rden⟩, p1, q1, p2, q2⟩ : FL)]) = fls ls ++ [.bool rn, .slice p1 rnum.length q1, .slice p2 rden.length q2] := by
          rw [fls_app]; rfl
        show World.ownsRow _ _ _ _ _ _ _
        rw [e]
        exact hown7
      clear hown7 hg7 L9 b9 hown hll hkey
      go_roundw
      case rel => exact ⟨k + 1, _, by omega, by go_num, HOL.out, hb7, HKY, HO⟩
      case measure => simp [intOf]; omega
    · have hkl : k = l.length := by omega
      subst hkl
      have hlen : ls.length = l.length := by
        have := congrArg List.length hkey.out
        simpa using this
      have HKY : Hid (ls.map (·.r) = l.map (·.r)) := by
        show _ = _
        rw [hkey.out, List.take_length]
      have HLEN := Lib.hid hlen
      clear hkey hlen hA
      go_wp2_with fail
      go_loopw [3, 5] (fun v i wx => ∃ (k : Nat) (sp : List FL), k ≤ 3 ∧ i = .int .i64 k ∧ Hid (sp.length = k) ∧ wx.ownsRow w.heap.size 88 3 v (l.length + k) (fls (ls ++ sp)) ∧ Blw w wx ∧ Hid (∀ x ∈ ls, LentFL w.heap.size wx x) ∧ Hid (∀ x ∈ sp, x.r = rSp ∧ OwnFL w.heap.size wx x)) (fun _ i _ => 3 - (intOf i).toNat)
      case atStart => exact ⟨0, [], by omega, rfl, rfl, by simpa using hown, hb, hll, fun x hx => by simp at hx⟩
      case round =>
        obtain ⟨k, sp, hk3, rfl, hsl, hown2, hb2, hll2, hsp⟩ := hrel
        by_cases hlt2 : k < 3
        · have k3 : l.length + k + 1 ≤ 100010 := by omega
          have hlit := own_lit wr [77] (show 1 ≤ maxLen by decide)
          go_wp2_with (at_builtin; refine wpList_app w _ rfl _ _ 97 rfl sl_ratios ((hb2.alloc _).alloc _) _ (l.length + k) _ rfl (ownsRow_blw hown2 (((Blw.refl _).alloc _).alloc _)) _ 1 1 [.bool true, .slice (some ⟨wr.heap.size, 0, none⟩) 1 1, .slice none 0 0] rfl (by simp) (Arr.lit_at _ _ _ _ (by simp)) (by simp) (by simp [Value.oneCell']) (by unfold maxLen; omega) (by omega) ?_; intro v7 w7 hown7 hb7 hg7 _)
          have HO : Hid (∀ x ∈ ls, LentFL w.heap.size w7 x) := fun x hx => LentFL.past ((hll2.out x hx).blw (((Blw.refl _).alloc _).alloc _)) (ownsRow_blw hown2 (((Blw.refl _).alloc _).alloc _)) (by decide) hg7
          have HP : Hid (∀ x ∈ sp ++ [(⟨rSp, some ⟨wr.heap.size, 0, none⟩, 1, none, 0⟩ : FL)], x.r = rSp ∧ OwnFL w.heap.size w7 x) := by
            intro x hx
            rw [List.mem_append, List.mem_singleton] at hx
            rcases hx with hx | rfl
            · exact ⟨(hsp.out x hx).1, OwnFL.past ((hsp.out x hx).2.blw (((Blw.refl _).alloc _).alloc _)) (ownsRow_blw hown2 (((Blw.refl _).alloc _).alloc _)) (by decide) hg7⟩
            · exact ⟨rfl, OwnFL.past (OwnFL.blw ⟨ownsRow_mono hlit hb2.size, World.ownsRow_nil _ _ _ _, W.WF.cons (by decide) W.WF.nil, W.WF.nil⟩ ((Blw.refl _).alloc _)) (ownsRow_blw hown2 (((Blw.refl _).alloc _).alloc _)) (by decide) hg7⟩
          have HOL : Hid (w7.ownsRow w.heap.size 88 3 v7 (l.length + (k + 1)) (fls (ls ++ (sp ++ [(⟨rSp, some ⟨wr.heap.size, 0, none⟩, 1, none, 0⟩ : FL)])))) := by
            have e : fls (ls ++ (sp ++ [(⟨rSp, some ⟨wr.heap.size, 0, none⟩, 1, none, 0⟩ : FL)])) = fls (ls ++ sp) ++ [.bool true, .slice (some ⟨wr.heap.size, 0, none⟩) 1 1, .slice none 0 0] := by
              rw [← List.append_assoc, fls_app]; rfl
            show World.ownsRow _ _ _ _ _ _ _
            rw [e]
            exact hown7
          clear hown7 hg7 hll2 hown2 hll hown hlit
          go_roundw
          case rel => exact ⟨k + 1, _, by omega, by go_num, by (show _ = _; rw [List.length_append, hsl.out]; rfl), HOL.out, hb7, HO, HP⟩
          case measure => simp [intOf]; omega
        · have : k = 3 := by omega
          subst this
          obtain ⟨a7, c7, rfl, -, -, -, -, -⟩ := own_arr hown2
          go_wp2_with fail
          go_ret
          exact ⟨ls, sp, a7, c7, rfl, hb2, hown2, HKY.out, hll2.out, hsl.out, hsp.out⟩

set_option maxRecDepth 100000 in
set_option maxHeartbeats 4000000 in
theorem keptRatios_any (G : Nat) (A B : Option Addr) (ls sp l : List FL) (c d : Nat) (w : World) (hA : Arr w A (fls (ls ++ sp))) (hB : Arr w B (fls l)) (hkey : ls.map (·.r) = l.map (·.r)) (hL : ∀ x ∈ ls, LentFL G w x) (hspl : sp.length = 3) (hsp : ∀ x ∈ sp, x.r = rSp ∧ OwnFL G w x) (hin : ∀ x ∈ l, FL.In w x) (hl : l.length ≤ 100000) (hs : ∀ x ∈ l, x.r.num.length ≤ 1000000 ∧ x.r.den.length ≤ 1000000) :
    Calls Try.prog 79 #[.slice A (l.length + 3) c, .slice B l.length d] w fun e w' => e = .returned (.bool true) ∧ ∃ z, w' = w.ext z := by
  have hlen : ls.length = l.length := by simpa using congrArg List.length hkey
  have hfl : (ls ++ sp).length = l.length + 3 := by simp [hspl, hlen]
  have HK := Lib.hid hkey
  have HL := Lib.hid hL
  have HIN := Lib.hid hin
  have HS := Lib.hid hs
  have HLEN := Lib.hid hlen
  have HFL := Lib.hid hfl
  have HSP := Lib.hid hsp
  have HSPL := Lib.hid hspl
  have d1 : ((l.length : Int) + 3 != (l.length : Int) + 3) = false := by simp
  clear hkey hL hin hs hlen hfl hsp hspl
  go_enter Try.func79, Try.ntmps79
  go_wp2_with fail
  clear d1
  go_loopw [5] (fun i wr => ∃ k : Nat, k ≤ l.length ∧ i = .int .i64 k ∧ Blw w wr) (fun i _ => l.length - (intOf i).toNat)
  case atStart => exact ⟨0, Nat.zero_le _, rfl, Blw.refl w⟩
  case round =>
    obtain ⟨k, hk, rfl, hb⟩ := hrel
    by_cases hlt : k < l.length
    · obtain ⟨y, b2, o2, hgy, hmy, rfl, hbs2, e0, e1, e2⟩ := fl_at (hB.blw hb) hlt
      obtain ⟨x, b1, o1, hgx, hmx, rfl, hbs1, c0, c1, c2⟩ := fl_at (hA.blw hb) (show k < (ls ++ sp).length by rw [HFL.out]; omega)
      have hgx2 : ls[k]? = some x := by rw [← hgx, List.getElem?_append_left (by rw [HLEN.out]; exact hlt)]
      have hky : x.r = y.r := by
        have := congrArg (fun z : List Fr => z[k]?) HK.out
        simp only [List.getElem?_map, hgx2, hgy, Option.map_some, Option.some.injEq] at this
        exact this
      have hml : x ∈ ls := List.mem_of_getElem? hgx2
      have hxl := (HL.out x hml).blw hb
      have hyn := (HIN.out y hmy).blw hb
      obtain ⟨lny, ldy⟩ := HS.out y hmy
      obtain ⟨xr, xa, xc, xb, xd⟩ := x
      obtain ⟨yr, ya, yc, yb, yd⟩ := y
      simp only at hky
      subst hky
      have HKR := Lib.hid (fun (W : World) (hW : Blw wr W) => keptRatio_any G ⟨xr, xa, xc, xb, xd⟩ ya yc yb yd W (hxl.blw hW) (FrA.blw hyn hW) lny ldy)
      obtain ⟨rn, rnum, rden⟩ := xr
      simp only at HKR c0 c1 c2 e0 e1 e2
      have j1 : (k : Int) < (l.length : Int) + 3 := by omega
      have j2 : (0 : Int) ≤ (k : Int) := by omega
      have j3 : (k : Int) < (l.length : Int) := by omega
      clear hgx hgy hgx2 hmx hmy hml hxl hyn lny ldy
      go_wp2_with fail
      refine wp_region_ext_lit (by kernel_rfl) (by kernel_rfl) ?_
      repeat (go_big_quiet_step ((go_at_call 125; (with_reducible exact Calls.ext_of (HKR.out _ (by repeat (first | exact Blw.refl _ | apply Blw.ext | apply Blw.alloc | apply Blw.drewN | apply Blw.drew | refine Blw.setCell ?_ _ _ (by simp))))))))
      refine wpQuiet_nil ?_
      rintro _ ⟨z, rfl⟩
      go_wp2
      go_roundw
      case rel => exact ⟨k + 1, by omega, by go_num, hb.ext z⟩
      case measure => simp [intOf]; omega
    · have hkl : k = l.length := by omega
      subst hkl
      go_wp2_with fail
      go_loopw [6] (fun i wx => ∃ k : Nat, k ≤ 3 ∧ i = .int .i64 ((l.length + k : Nat) : Int) ∧ Blw w wx) (fun i _ => l.length + 3 - (intOf i).toNat)
      case atStart => exact ⟨0, by omega, rfl, hb⟩
      case round =>
        obtain ⟨k, hk3, rfl, hb2⟩ := hrel
        by_cases hlt2 : k < 3
        · obtain ⟨x, b1, o1, hgx, hmx, rfl, hbs1, c0, c1, c2⟩ := fl_at (k := l.length + k) (hA.blw hb2) (by rw [HFL.out]; omega)
          have hx : x ∈ sp := by
            rw [List.getElem?_append_right (by rw [HLEN.out]; omega), HLEN.out, Nat.add_sub_cancel_left] at hgx
            exact List.mem_of_getElem? hgx
          obtain ⟨hxr, hxo⟩ := HSP.out x hx
          have hxin : FL.In wr x := (hxo.blw hb2).in
          obtain ⟨xr, xa, xc, xb, xd⟩ := x
          simp only at hxr
          subst hxr
          have hlit := own_lit wr [77] (show 1 ≤ maxLen by decide)
          have hyin : FL.In (wr.alloc (.cells (u32s [77]).toArray 135 (0, 0))) ⟨rSp, some ⟨wr.heap.size, 0, none⟩, 1, none, 0⟩ := FrA.own hlit (World.ownsRow_nil _ _ _ _) (W.WF.cons (by decide) W.WF.nil) W.WF.nil
          have HSM := Lib.hid (sameRatio_any ⟨rSp, xa, xc, xb, xd⟩ ⟨rSp, some ⟨wr.heap.size, 0, none⟩, 1, none, 0⟩ (wr.alloc (.cells (u32s [77]).toArray 135 (0, 0))) (FL.In.blw hxin ((Blw.refl _).alloc _)) hyin ⟨show rSp.num.length ≤ 1099511627776 by decide, show rSp.den.length ≤ 1099511627776 by decide⟩ ⟨show rSp.num.length ≤ 1099511627776 by decide, show rSp.den.length ≤ 1099511627776 by decide⟩)
          rw [sameR_refl] at HSM
          simp only [rSp] at c0 c1 c2 HSM
          have j1 : (l.length : Int) + (k : Int) < (l.length : Int) + 3 := by omega
          have j2 : (0 : Int) ≤ (l.length : Int) + (k : Int) := by omega
          have j3 : ((l.length : Int) + (k : Int)).toNat = l.length + k := by omega
          clear hgx hmx hx hxo hxin hlit hyin
          go_wp2_with fail
          refine Calls.mono HSM.out ?_
          rintro e w8 ⟨rfl, z8, rfl⟩
          go_wp2_with fail
          go_roundw
          case rel => exact ⟨k + 1, by omega, by go_num, (hb2.alloc _).ext z8⟩
          case measure => simp [intOf]; omega
        · have : k = 3 := by omega
          subst this
          have j1 : decide ((l.length : Int) + 3 < (l.length : Int) + 3) = false := by simp
          go_wp2_with fail
          go_ret
          exact ⟨rfl, Blw.is hb2⟩
end Go.Proofs.Ytigkfdoeneemeaa
/- append within a row's room. -/
namespace Go
open Go.RowKit
theorem wpList_appIn {P : Program} {ops : Array Oper} {rest : List Oper} {o : Oper} {a : Act} {Q : Exit → Act → World → Prop} (w : World) (hgd : o.guard = none) (s x : Operand) (t : TypeId) (ho : o.op = .call { callee := .builtin .append, args := #[s, x], argTypes := #[t, t] })
    {e : TypeId} {z : Value} {size bytes : Nat} (hT : SlT P t e z size bytes) (B g n cap : Nat) (xs : List Value) (hs : a.eval s = .slice (some ⟨g, 0, none⟩) n cap) (hown : w.ownsRow B e size (.slice (some ⟨g, 0, none⟩) n cap) n xs)
    (ad : Addr) (m c : Nat) (news : List Value) (hx : a.eval x = .slice (some ad) m c) (hr : Arr w (some ad) news) (hl : news.length = m * size) (h1 : ∀ u ∈ news, u.oneCell' = true) (hroom : n + m ≤ cap)
    (h : ∀ w', w'.ownsRow B e size (.slice (some ⟨g, 0, none⟩) (n + m) cap) (n + m) (xs ++ news) → w.grownBy w' (some g) → wpList P ops Q rest (a.put o.dst (.slice (some ⟨g, 0, none⟩) (n + m) cap)) w') : wpList P ops Q (o :: rest) a w := by
  refine wpList_plain hgd fun K hK => ?_
  obtain ⟨i, hi, hz0, hz1, hz2⟩ := info_parts hT.info
  have hnews : ∀ j u, news[j]? = some u → w.cell? (ad.add j) = some u := by
    intro j u hj
    rcases hr with h | ⟨b, o, e, hbs, hc⟩
    · subst h; simp at hj
    · cases e
      have hjl : j < news.length := by rw [List.getElem?_eq_some_iff] at hj; exact hj.1
      have := hc j hjl
      rw [hj] at this
      have ea : (⟨b, o, none⟩ : Addr).add j = ⟨b, o + j, none⟩ := by unfold Addr.add; split <;> simp_all
      rw [ea]; exact this
  obtain ⟨w', hrun, g1, g2⟩ := run_append_fits (P := P) w B t o.type e i size hT.under hi hz1 g n cap xs hown ad m c news hl hnews h1 hroom
  unfold Oper.wp execOp
  simp only [ho, resolve, invoke, builtin, Sem.run_bind, Sem.run_pure, Result.andThen_ok, List.map_toArray, List.map_cons, List.map_nil, hs, hx, hrun]
  exact hK _ _ (h w' g1 g2)
end Go
/- slackwaterkit.OverWords, walked. -/
namespace Go.Proofs.Ytigkfdoeneemeaa
open Go.RowKit

def cpl (x : Nat) : Nat := 4294967295 - x
theorem cpl_wf {l : List Nat} : W.WF (l.map cpl) := fun x hx => by
  obtain ⟨y, -, rfl⟩ := List.mem_map.1 hx
  unfold cpl; omega

theorem xor_ones32 (b : Nat) (hb : b < 2 ^ 32) : (2 ^ 32 - 1) ^^^ b = 2 ^ 32 - 1 - b := by
  apply Nat.eq_of_testBit_eq
  intro i
  rw [Nat.testBit_xor, Nat.testBit_two_pow_sub_one, show 2 ^ 32 - 1 - b = 2 ^ 32 - (b + 1) by omega, Nat.testBit_two_pow_sub_succ hb]
  by_cases hi : i < 32
  · simp [hi]
  · have : b.testBit i = false := Nat.testBit_lt_two_pow (Nat.lt_of_lt_of_le hb (Nat.pow_le_pow_right (by decide) (by omega)))
    simp [hi, this]
theorem u32_not (x : Nat) (hx : x < 4294967296) : bits .xor .u32 (if IntKind.u32.signed = true then -1 else IntKind.u32.max) (x : Int) = ((cpl x : Nat) : Int) := by
  show IntKind.u32.wrap ((BitVec.ofInt 32 4294967295 ^^^ BitVec.ofInt 32 (x : Int)).toNat : Int) = _
  have h1 : (BitVec.ofInt 32 4294967295).toNat = 2 ^ 32 - 1 := by decide
  have h2 : (BitVec.ofInt 32 (x : Int)).toNat = x := by
    rw [BitVec.ofInt_natCast, BitVec.toNat_ofNat]; exact Nat.mod_eq_of_lt (by omega)
  rw [BitVec.toNat_xor, h1, h2, xor_ones32 x (by omega), IntKind.wrap_u32]
  unfold cpl
  omega

set_option maxRecDepth 100000 in
set_option maxHeartbeats 2000000 in
theorem overWords_nil (w : World) : Calls Try.prog 162 #[.slice none 0 0] w fun e w' => e = .returned (.tuple #[]) ∧ w' = w := by
  go_enter Try.func162, Try.ntmps162
  go_wp2
  go_loopw [3] (fun i wr => i = .int .i64 0 ∧ wr = w) (fun _ _ => 0)
  case atStart => exact ⟨rfl, rfl⟩
  case round =>
    obtain ⟨rfl, rfl⟩ := hrel
    go_wp2
    go_loopw [4] (fun i wx => i = .int .i64 0 ∧ wx = wr) (fun _ _ => 0)
    case atStart => exact ⟨rfl, rfl⟩
    case round =>
      obtain ⟨rfl, rfl⟩ := hrel
      go_wp2
      go_end0
      exact ⟨rfl, rfl⟩

set_option maxRecDepth 100000 in
set_option maxHeartbeats 2000000 in
theorem overWords_any (B g n c : Nat) (l : List Nat) (w : World) (hown : w.ownsRow B 135 1 (.slice (some ⟨g, 0, none⟩) n c) n (u32s l)) (wl : W.WF l) (hn : n ≤ 1000000) :
    Calls Try.prog 162 #[.slice (some ⟨g, 0, none⟩) n c] w fun e w' => e = .returned (.tuple #[]) ∧ w'.ownsRow B 135 1 (.slice (some ⟨g, 0, none⟩) n c) n (u32s (l.map cpl)) ∧ KeptO (· = g) w w' := by
  obtain ⟨g', rest, ee, hc, hgB, -, hln, hcm⟩ := Rw.of_own_any hown
  cases ee
  have hll : l.length = n := by simpa using hln
  have hcm2 : c ≤ 9223372036854775807 := by unfold maxLen at hcm; omega
  have hnc : n ≤ c := by omega
  have HC := Lib.hid hc
  have HLL := Lib.hid hll
  clear hln hc hll
  go_enter Try.func162, Try.ntmps162
  go_wp2_with fail
  go_loopw [3] (fun i wr => ∃ (k : Nat), k ≤ n ∧ i = .int .i64 k ∧ Hid (wr.ownsRow B 135 1 (.slice (some ⟨g, 0, none⟩) n c) n (u32s ((l.take k).map cpl ++ l.drop k))) ∧ KeptO (· = g) w wr) (fun i _ => n - (intOf i).toNat)
  case atStart => exact ⟨0, Nat.zero_le _, rfl, hown, KeptO.refl _⟩
  case round =>
    obtain ⟨k, hk, rfl, hwn, hK⟩ := hrel
    by_cases hlt : k < n
    · obtain ⟨g2, rest2, ee, hc2, hgB2, hRw, hl2, hm2⟩ := Rw.of_own_any hwn.out
      cases ee
      have hkl : k < l.length := by rw [HLL.out]; exact hlt
      obtain ⟨x, hx⟩ : ∃ x, l[k]? = some x := ⟨l[k], List.getElem?_eq_getElem hkl⟩
      have hxl := wl.at hx
      have hlt2 : ((l.take k).map cpl).length = k := by simp; omega
      have hat : ((l.take k).map cpl ++ l.drop k)[k]? = some x := by
        rw [List.getElem?_append_right (by omega), hlt2, Nat.sub_self, List.getElem?_drop, Nat.add_zero]; exact hx
      have hcell := hRw.cell (k := k) (v := .int .u32 x) (by rw [List.getElem?_append_left (by rw [hl2]; exact hlt), List.getElem?_map, hat]; rfl)
      have hfr := hRw.frozen k
      have HS := Lib.hid (fun y : Nat => Rw.set_own (.int .u32 (y : Int)) hRw hgB2 hl2 hc2 (by rw [← hc2]; exact hm2) hlt)
      have HE : Hid (∀ y, (u32s ((l.take k).map cpl ++ l.drop k)).set k (.int .u32 ((cpl y : Nat) : Int)) = u32s ((l.take k).map cpl ++ l.drop k |>.set k (cpl y))) := fun y => List.map_set.symm
      have HE2 : Hid (((l.take k).map cpl ++ l.drop k).set k (cpl x) = (l.take (k + 1)).map cpl ++ l.drop (k + 1)) := by
        show _ = _
        rw [List.set_append_right _ _ (by omega), hlt2, Nat.sub_self, List.drop_eq_getElem_cons hkl, List.set_cons_zero, List.take_add_one, hx, List.map_append]
        simp
      have j1 : (k : Int) < (n : Int) := by omega
      have j2 : (0 : Int) ≤ (k : Int) := by omega
      clear hRw hwn hx hat hl2 hc2 hm2 hlt2
      go_wp2_with fail
      have hset := HS.out (cpl x)
      rw [HE.out x, HE2.out] at hset
      have HSET := Lib.hid hset
      rw [u32_not x hxl]
      clear HS HE hset
      go_roundw
      case rel => exact ⟨k + 1, by omega, by go_num, HSET.out, hK.setCell _ _ (.inl rfl)⟩
      case measure => simp [intOf]; omega
    · have hkn : k = n := by omega
      subst hkn
      have hfull : (l.take k).map cpl ++ l.drop k = l.map cpl := by
        rw [List.take_of_length_le (by rw [HLL.out]; exact Nat.le_refl _), List.drop_eq_nil_of_le (by rw [HLL.out]; exact Nat.le_refl _), List.append_nil]
      have hw2 := hwn.out
      rw [hfull] at hw2
      have hgb : g < wr.heap.size := (World.ownsRow.lt hw2 g rfl).2
      have HW2 := Lib.hid hw2
      clear hwn hw2 hfull hlt hown
      go_wp2_with fail
      go_loopw [0, 4] (fun vs i wx => ∃ (j : Nat) (more : List Nat), k ≤ j ∧ j ≤ c ∧ i = .int .i64 j ∧ vs = .slice (some ⟨g, 0, none⟩) j c ∧ Hid (wx.ownsRow B 135 1 (.slice (some ⟨g, 0, none⟩) j c) j (u32s (l.map cpl ++ more))) ∧ KeptO (· = g) w wx) (fun _ i _ => c - (intOf i).toNat)
      case atStart => exact ⟨k, [], Nat.le_refl _, hnc, rfl, rfl, by (show World.ownsRow _ _ _ _ _ _ _; rw [List.append_nil]; exact HW2.out), hK⟩
      case round =>
        obtain ⟨j, more, hj, hjc, rfl, rfl, hwn2, hK2⟩ := hrel
        by_cases hlt : j < c
        · have j1 : (j : Int) < (c : Int) := by omega
          have d1 : decide ((j : Int) < (c : Int)) = true := by simp; omega
          go_wp2_with (at_builtin; refine wpList_appIn _ rfl _ _ 86 rfl sl_words B g j c (u32s (l.map cpl ++ more)) rfl (ownsRow_blw hwn2.out ((Blw.refl _).alloc _)) _ 1 1 [.int .u32 2882343476] rfl (Arr.lit _ _ _ _) (by simp) (by simp [Value.oneCell']) (by omega) ?_; intro w7 hown7 hg7)
          have H7 : Hid (w7.ownsRow B 135 1 (.slice (some ⟨g, 0, none⟩) (j + 1) c) (j + 1) (u32s (l.map cpl ++ (more ++ [2882343476])))) := by
            have e : u32s (l.map cpl ++ (more ++ [2882343476])) = u32s (l.map cpl ++ more) ++ [.int .u32 2882343476] := by
              rw [← List.append_assoc]; exact List.map_append
            show World.ownsRow _ _ _ _ _ _ _
            rw [e]; exact hown7
          have hK7 : KeptO (· = g) w w7 := (hK2.alloc _).grown hg7 (fun q hq => .inl (Option.some.inj hq).symm)
          clear hown7 hg7 hwn2 HW2
          go_roundw
          case rel => exact ⟨j + 1, _, by omega, by omega, by go_num, rfl, H7.out, hK7⟩
          case measure => simp [intOf]; omega
        · have hjc2 : j = c := by omega
          have d1 : decide ((j : Int) < (c : Int)) = false := by simp; omega
          have hfin : wr.ownsRow B 135 1 (.slice (some ⟨g, 0, none⟩) k c) k (u32s (l.map cpl)) := by
            obtain ⟨h1, h2⟩ := hwn2.out
            refine ⟨by simp; exact HLL.out, ?_⟩
            rcases h2 with ⟨h3, -⟩ | ⟨g9, cap9, cur, hv, hg, hh, hn9, hm9, hs9, ht9⟩
            · cases h3
            · cases hv
              refine .inr ⟨g, c, cur, rfl, hg, hh, hnc, hm9, hs9, ?_⟩
              have hpre : u32s (l.map cpl) = (u32s (l.map cpl ++ more)).take k := by
                have e9 : u32s (l.map cpl ++ more) = u32s (l.map cpl) ++ u32s more := List.map_append
                rw [e9, List.take_append_of_le_length (by simp; rw [HLL.out]; exact Nat.le_refl _), List.take_of_length_le (by simp; rw [HLL.out]; exact Nat.le_refl _)]
              rw [hpre, ← ht9, List.take_take, Nat.mul_one, Nat.mul_one, Nat.min_eq_left hj]
          clear hwn2 HW2
          go_wp2_with fail
          go_end0
          exact ⟨rfl, hfin, hK2⟩
end Go.Proofs.Ytigkfdoeneemeaa
/- slackwaterkit.ApartWords, walked. -/
namespace Go.Proofs.Ytigkfdoeneemeaa
open Go.RowKit

theorem sl_wss : SlT Try.prog 155 86 (.slice none 0 0) 1 24 := ⟨Try.underlying155, by kernel_rfl, by kernel_rfl, by decide⟩
theorem pw_far {os : List OW} (h : os.Pairwise OW.far) {i j : Nat} {x y : OW} (hi : os[i]? = some x) (hj : os[j]? = some y) (hne : i ≠ j) : OW.far x y := by
  obtain ⟨hi1, rfl⟩ := List.getElem?_eq_some_iff.1 hi
  obtain ⟨hj1, rfl⟩ := List.getElem?_eq_some_iff.1 hj
  rcases Nat.lt_or_gt_of_ne hne with h1 | h1
  · exact List.pairwise_iff_getElem.1 h i j hi1 hj1 h1
  · exact (List.pairwise_iff_getElem.1 h j i hj1 hi1 h1).symm

/-- A list of words of the call's own, that may be written over. -/
structure OW.Own (B : Nat) (w : World) (o : OW) : Prop where
  row : w.ownsRow B 135 1 o.val o.l.length (u32s o.l)
  wf : W.WF o.l
  ln : o.l.length ≤ 1000000

set_option maxRecDepth 100000 in
set_option maxHeartbeats 4000000 in
theorem apartWords_any (w0 : World) (oa : Option Addr) (os : List OW) (oc : Nat) (w : World) (hb0 : Blw w0 w) (hoa : Arr w oa (ows os)) (hos : ∀ o ∈ os, OW.Own w0.heap.size w o) (hfar : os.Pairwise OW.far)
    (hna : ∀ q, oa = some q → ∀ o ∈ os, o.val.ownBlock ≠ some q.block) (hlen : os.length ≤ 1000000) :
    Calls Try.prog 137 #[.slice oa os.length oc] w fun e w' => e = .returned (.bool true) ∧ KeptO (fun k => ∃ o ∈ os, o.val.ownBlock = some k) w w' := by
  obtain ⟨O, hO⟩ : ∃ O : Nat → Prop, O = fun k => ∃ o ∈ os, o.val.ownBlock = some k := ⟨_, rfl⟩
  have HO := Lib.hid hO
  rw [← hO]
  have hOlt : ∀ j, O j → w0.heap.size ≤ j ∧ j < w.heap.size := fun j hj => by
    rw [hO] at hj
    obtain ⟨o, ho, h1⟩ := hj
    exact World.ownsRow.lt (hos o ho).row j h1
  have HOL := Lib.hid hOlt
  have HOS := Lib.hid hos
  have HHOA := Lib.hid hoa
  have HFAR := Lib.hid hfar
  have HNA : Hid (∀ q, oa = some q → ¬ O q.block) := fun q hq h => by
    rw [hO] at h
    obtain ⟨o, ho, h1⟩ := h
    exact hna q hq o ho h1
  clear hos hO hOlt hna hfar
  go_enter Try.func137, Try.ntmps137
  go_wp2_with (refine wpList_rows _ rfl _ _ 155 rfl sl_wss rfl .i64 .i64 _ _ os.length rfl rfl (by omega) (by omega) (by omega) (by decide) ?_; intro w1 hrw hb1)
  go_loopw [4] (fun i wr => ∃ (k : Nat) (ws : List OW), k ≤ os.length ∧ i = .int .i64 k ∧ Blw w wr ∧ Rw wr w.heap.size 86 (ows ws ++ List.replicate (os.length - k) (.slice none 0 0)) ∧ Hid (ws.map (·.l) = (os.take k).map (·.l)) ∧ Hid (∀ o ∈ ws, wr.ownsRow w.heap.size 135 1 o.val o.l.length (u32s o.l))) (fun i _ => os.length - (intOf i).toNat)
  case atStart => exact ⟨0, [], Nat.zero_le _, rfl, hb1, hrw, rfl, fun o ho => by simp at ho⟩
  case round =>
    obtain ⟨k, ws, hk, rfl, hb, hR, hkey, hws⟩ := hrel
    by_cases hlt : k < os.length
    · obtain ⟨o, b, of, -, hmo, hgo, rfl, hbs, hc⟩ := (show Arr wr oa (ows os) from hoa.blw hb).elem hlt
      have hoi := HOS.out o hmo
      have hln := hoi.ln
      obtain ⟨_, _, ee, k1, _, -, -, k5⟩ := own_arr (ownsRow_blw hoi.row hb)
      cases ee
      have hcp := copyWords_any o.a o.l o.c wr k1 (fun e => (k5 e).2) (by omega)
      have HCP := Lib.hid hcp
      have HGO := Lib.hid hgo.out
      have hwl : (ows ws).length = k := by
        have := congrArg List.length hkey.out
        simp at this ⊢; omega
      have HWL := Lib.hid hwl
      have j1 : (k : Int) < (os.length : Int) := by omega
      have j2 : (0 : Int) ≤ (k : Int) := by omega
      clear hcp hgo hmo hwl hoi hln k1 k5
      go_wp2_with fail
      refine Calls.mono HCP.out ?_
      rintro e w2 ⟨a2, c2, x2, rfl, rfl, r1, r2, r3⟩
      have hRx := hR.blw (World.blw_ext wr x2)
      have hfx := hRx.frozen k
      have hzx := hRx.cell (fill_at HWL.out hlt)
      have HR1 := Lib.hid r1
      clear HCP r1 r2 r3
      go_wp2_with fail
      have hset := hRx.set k (.slice a2 o.l.length c2)
      rw [fill_set _ HWL.out hlt] at hset
      have hset2 : Rw ((wr.ext x2).setCell ⟨w.heap.size, k, none⟩ (.slice a2 o.l.length c2)) w.heap.size 86 (ows (ws ++ [⟨a2, c2, o.l⟩]) ++ List.replicate (os.length - (k + 1)) (.slice none 0 0)) := by
        have e : ows (ws ++ [(⟨a2, c2, o.l⟩ : OW)]) = ows ws ++ [.slice a2 o.l.length c2] := List.map_append
        rw [e]; exact hset
      have HK2 : Hid ((ws ++ [(⟨a2, c2, o.l⟩ : OW)]).map (·.l) = (os.take (k + 1)).map (·.l)) := by
        show _ = _
        rw [List.map_append, hkey.out, List.take_add_one, HGO.out]
        simp
      have hko : KeptO (fun j => j = w.heap.size) (wr.ext x2) ((wr.ext x2).setCell ⟨w.heap.size, k, none⟩ (.slice a2 o.l.length c2)) := (KeptO.refl _).setCell _ _ (.inl rfl)
      have HW2 : Hid (∀ o' ∈ ws ++ [(⟨a2, c2, o.l⟩ : OW)], ((wr.ext x2).setCell ⟨w.heap.size, k, none⟩ (.slice a2 o.l.length c2)).ownsRow w.heap.size 135 1 o'.val o'.l.length (u32s o'.l)) := by
        intro o' ho
        rw [List.mem_append, List.mem_singleton] at ho
        rcases ho with ho | rfl
        · have ho1 := ownsRow_blw (hws.out o' ho) (World.blw_ext wr x2)
          exact hko.own ho1 (fun i hi => hRx.ne_own ho1 (by decide) i hi)
        · have ho1 := ownsRow_mono HR1.out hb.size
          exact hko.own ho1 (fun i hi => hRx.ne_own ho1 (by decide) i hi)
      clear hR hws hkey hset hko hRx hfx hzx
      go_roundw
      case rel => exact ⟨k + 1, _, by omega, by go_num, (hb.ext x2).setCell _ _ (Nat.le_refl _), hset2, HK2, HW2⟩
      case measure => simp [intOf]; omega
    · have hkl : k = os.length := by omega
      subst hkl
      rw [Nat.sub_self, List.replicate_zero, List.append_nil] at hR
      rw [List.take_length] at hkey
      have HKEY := Lib.hid hkey.out
      have HWS := Lib.hid hws.out
      have hgw : ¬ O w.heap.size := fun h => by have := (HOL.out _ h).2; omega
      have HLW : Hid (ws.length = os.length) := by show _ = _; simpa using congrArg List.length hkey.out
      obtain ⟨wA, hwA⟩ : ∃ wA, wA = wr := ⟨_, rfl⟩
      rw [← hwA] at hR HWS hb ⊢
      have HST : Hid (∀ j o, os[j]? = some o → wA.ownsRow w0.heap.size 135 1 o.val o.l.length (u32s (if j < 0 then o.l.map cpl else o.l))) := fun j o hj => by
        rw [if_neg (by omega)]; exact ownsRow_blw (HOS.out o (List.mem_of_getElem? hj)).row hb
      -- what stands at a place
      have HAT : Hid (∀ (p : Nat) (W : World), p < os.length → KeptO O wA W → ∃ (o o' : OW) (b of : Nat), os[p]? = some o ∧ o ∈ os ∧ o'.l = o.l ∧ oa = some ⟨b, of, none⟩ ∧ b < W.heap.size ∧ W.cell? ⟨b, of + p, none⟩ = some o.val ∧ w.heap.size < W.heap.size ∧ W.cell? ⟨w.heap.size, p, none⟩ = some (.slice o'.a o.l.length o'.c) ∧ Arr W o'.a (u32s o.l)) := by
        intro p W hp hKW
        have hoa3 : Arr W oa (ows os) := ((KeptO.of_blw hb).trans hKW).arr HHOA.out (fun q hq h => HNA.out q hq h)
        obtain ⟨o, b5, of, -, hmo, hgo, e5, hbs, hc5⟩ := hoa3.elem hp
        obtain ⟨o', ho'⟩ : ∃ o', ws[p]? = some o' := ⟨ws[p]'(by rw [HLW.out]; exact hp), List.getElem?_eq_getElem _⟩
        have hl5 : o'.l = o.l := by
          have := congrArg (fun z : List (List Nat) => z[p]?) HKEY.out
          simp only [List.getElem?_map, ho', hgo.out, Option.map_some, Option.some.injEq] at this
          exact this
        have hR3 := hR.keptO hKW hgw
        have hc6 := hR3.cell (k := p) (v := o'.val) (by rw [List.getElem?_map, ho']; rfl)
        have hrow := HWS.out o' (List.mem_of_getElem? ho')
        refine ⟨o, o', b5, of, hgo.out, hmo, hl5, e5, hbs, hc5, hR3.lt, by rw [← hl5]; exact hc6, ?_⟩
        rw [← hl5]
        have hk := hKW.own hrow (fun i hi h => by
          have h1 := (HOL.out _ h).2
          have h2 := (World.ownsRow.lt hrow i hi).1
          omega)
        obtain ⟨_, _, ee, k1, _⟩ := own_arr hk
        cases ee
        exact k1
      clear hkey hws hoa hlt hwA hb1 hrw HKEY HWS hR
      go_wp2_with fail
      go_loopw [5] (fun i wx => ∃ k : Nat, k ≤ os.length ∧ i = .int .i64 k ∧ KeptO O wA wx ∧ Hid (∀ j o, os[j]? = some o → wx.ownsRow w0.heap.size 135 1 o.val o.l.length (u32s (if j < k then o.l.map cpl else o.l)))) (fun i _ => os.length - (intOf i).toNat)
      case atStart => exact ⟨0, Nat.zero_le _, rfl, KeptO.refl _, HST⟩
      case round =>
        obtain ⟨k, hk, rfl, hK, hst⟩ := hrel
        clear HST
        by_cases hlt : k < os.length
        · obtain ⟨o, o', b, of, hgo, hmo, hl5, rfl, hbs, hc5, hws, hc6, ha6⟩ := HAT.out k wr hlt hK
          have hrow := hst.out k o hgo
          rw [if_neg (by omega)] at hrow
          obtain ⟨_, _, ee, k1, _, -, -, k5⟩ := own_arr hrow
          cases ee
          have hoo := HOS.out o hmo
          have hln := hoo.ln
          have hsw := Lib.hid (fun (W : World) (hW : Blw wr W) => sameWords_any o.a o'.a o.l o.l o.c o'.c W (k1.blw hW) (ha6.blw hW) (by omega) (by omega))
          have hbe : (o.l == o.l) = true := by simp
          rw [hbe] at hsw
          have hwf := hoo.wf
          have i1 : (k : Int) < (os.length : Int) := by omega
          have i2 : (0 : Int) ≤ (k : Int) := by omega
          have HOVER : Hid (∀ W : World, Blw wr W → Calls Try.prog 162 #[.slice o.a o.l.length o.c] W fun e w' => e = .returned (.tuple #[]) ∧ w'.ownsRow w0.heap.size 135 1 o.val o.l.length (u32s (o.l.map cpl)) ∧ KeptO (fun j => o.val.ownBlock = some j) W w') := by
            intro W hW
            have hrW := ownsRow_blw hrow hW
            rcases hrW.2 with ⟨h3, h4⟩ | ⟨g, cap, cur, hv, -⟩
            · have hv : Value.slice o.a o.l.length o.c = .slice none 0 0 := h3
              have hl0 : o.l = [] := List.eq_nil_of_length_eq_zero h4
              rw [hv]
              refine (overWords_nil W).mono ?_
              rintro e w' ⟨rfl, rfl⟩
              refine ⟨rfl, ?_, KeptO.refl _⟩
              rw [hl0] at hrW ⊢; exact hrW
            · have hv' : Value.slice o.a o.l.length o.c = .slice (some ⟨g, 0, none⟩) o.l.length cap := hv
              injection hv' with hv1 hv2 hv3
              have hrg : W.ownsRow w0.heap.size 135 1 (.slice (some ⟨g, 0, none⟩) o.l.length o.c) o.l.length (u32s o.l) := by rw [← hv1]; exact hrW
              have := overWords_any w0.heap.size g o.l.length o.c o.l W hrg hwf hln
              rw [hv1]
              refine this.mono ?_
              rintro e w' ⟨rfl, h1, h2⟩
              refine ⟨rfl, by show World.ownsRow _ _ _ _ (.slice o.a o.l.length o.c) _ _; rw [hv1]; exact h1, h2.mono fun i _ hi => ?_⟩
              show (Value.slice o.a o.l.length o.c).ownBlock = some i
              rw [hv1, hi]; rfl
          have HGO := Lib.hid hgo
          have HMO := Lib.hid hmo
          clear hgo hmo hrow k1 k5 hoo hwf ha6 hbe
          go_wp2_with fail
          refine wp_region_ext_lit (by kernel_rfl) (by kernel_rfl) ?_
          repeat (go_big_quiet_step ((go_at_call 116; (with_reducible exact Calls.ext_of (hsw.out _ (by repeat (first | exact Blw.refl _ | apply Blw.ext | apply Blw.alloc | apply Blw.drewN | apply Blw.drew | refine Blw.setCell ?_ _ _ (by simp))))))))
          refine wpQuiet_nil ?_
          rintro W9 ⟨z, hz⟩
          have hb9 : Blw wr W9 := by rw [hz]; exact (by repeat (first | exact Blw.refl _ | apply Blw.ext | apply Blw.alloc | apply Blw.drewN | apply Blw.drew | refine Blw.setCell ?_ _ _ (by simp)))
          have hc9 := (Below.cell hb9 hbs).trans hc5
          have hbs9 := Nat.lt_of_lt_of_le hbs hb9.size
          clear hz hsw hc5 hc6
          simp only [OW.val] at hc9
          go_wp2_with fail
          refine Calls.mono (HOVER.out W9 hb9) ?_
          rintro e w7 ⟨rfl, h7, hK7⟩
          have hOo : ∀ i, o.val.ownBlock = some i → O i := fun i hi => by rw [HO.out]; exact ⟨o, HMO.out, hi⟩
          have HK9 : KeptO O wA w7 := (hK.trans (KeptO.of_blw hb9)).trans (hK7.mono fun i _ hi => hOo i hi)
          have HST2 : Hid (∀ j o2, os[j]? = some o2 → w7.ownsRow w0.heap.size 135 1 o2.val o2.l.length (u32s (if j < k + 1 then o2.l.map cpl else o2.l))) := by
            intro j o2 hj
            by_cases hjk : j = k
            · subst hjk
              have : o2 = o := by rw [HGO.out] at hj; exact (Option.some.inj hj).symm
              subst this
              rw [if_pos (by omega)]; exact h7
            · have h2 := ownsRow_blw (hst.out j o2 hj) hb9
              have h3 : (if j < k + 1 then o2.l.map cpl else o2.l) = (if j < k then o2.l.map cpl else o2.l) := by
                by_cases hh : j < k
                · rw [if_pos hh, if_pos (by omega)]
                · rw [if_neg hh, if_neg (by omega)]
              rw [h3]
              exact hK7.own h2 (fun i hi h => pw_far HFAR.out hj HGO.out hjk i hi h)
          clear hst h7 hK7 HOVER
          go_wp2_with fail
          go_roundw
          case rel => exact ⟨k + 1, by omega, by go_num, HK9, HST2⟩
          case measure => simp [intOf]; omega
        · have hkl : k = os.length := by omega
          subst hkl
          have HAL : Hid (∀ (j : Nat) (o : OW), os[j]? = some o → wr.ownsRow w0.heap.size 135 1 o.val o.l.length (u32s (o.l.map cpl))) := fun j o hj => by
            have := hst.out j o hj
            rwa [if_pos (List.getElem?_eq_some_iff.1 hj).1] at this
          obtain ⟨wB, rfl⟩ : ∃ wB, wB = wr := ⟨_, rfl⟩
          clear hst
          go_wp2_with fail
          go_loopw [6] (fun i wx => ∃ k : Nat, k ≤ os.length ∧ i = .int .i64 k ∧ Blw wB wx) (fun i _ => os.length - (intOf i).toNat)
          case atStart => exact ⟨0, Nat.zero_le _, rfl, Blw.refl _⟩
          case round =>
            obtain ⟨p, hp, rfl, hbB⟩ := hrel
            by_cases hlt3 : p < os.length
            · obtain ⟨wC, rfl⟩ : ∃ wC, wC = wr := ⟨_, rfl⟩
              obtain ⟨o, o', b, of, hgo, hmo, hl5, rfl, hbs, hc5, hws, hc6, ha6⟩ := HAT.out p wC hlt3 (hK.trans (KeptO.of_blw hbB))
              obtain ⟨_, _, ee, k1, _, -, -, k5⟩ := own_arr (ownsRow_blw (HAL.out p o hgo) hbB)
              cases ee
              have hwf := (HOS.out o hmo).wf
              have hln := (HOS.out o hmo).ln
              have i1 : (p : Int) < (os.length : Int) := by omega
              have i2 : (0 : Int) ≤ (p : Int) := by omega
              simp only [OW.val] at hc5
              obtain ⟨oA, oC, oL⟩ := o
              simp only at hc5 hc6 ha6 k1 hwf hln
              clear hgo hmo hl5 k5
              go_wp2_with fail
              go_loopw [7] (fun i wx => ∃ j : Nat, j ≤ oL.length ∧ i = .int .i64 j ∧ Blw wC wx) (fun i _ => oL.length - (intOf i).toNat)
              case atStart => exact ⟨0, Nat.zero_le _, rfl, Blw.refl _⟩
              case round =>
                obtain ⟨j, hj, rfl, hbC⟩ := hrel
                have hc5' := (Below.cell hbC hbs).trans hc5
                have hc6' := (Below.cell hbC hws).trans hc6
                have hbs' := Nat.lt_of_lt_of_le hbs hbC.size
                have hws' := Nat.lt_of_lt_of_le hws hbC.size
                by_cases hlt4 : j < oL.length
                · obtain ⟨x, b1, o1, -, -, hx, rfl, hq1, hq2⟩ := (k1.blw hbC).elem (k := j) (by simp; exact hlt4)
                  obtain ⟨y, b2, o2, -, -, hy, hya, hr1, hr2⟩ := (ha6.blw hbC).elem (k := j) hlt4
                  have hxy : x = cpl y := by
                    have h1 := hx.out
                    rw [List.getElem?_map, hy.out] at h1
                    exact (Option.some.inj h1).symm
                  have hyl := hwf.at hy.out
                  subst hxy
                  have e1 := u32_not y hyl
                  have q1 : (((cpl y : Nat) : Int) != ((cpl y : Nat) : Int)) = false := by simp
                  have q2 : (((cpl y : Nat) : Int) == ((cpl y : Nat) : Int)) = true := by simp
                  have j1 : (j : Int) < (oL.length : Int) := by omega
                  have j2 : (0 : Int) ≤ (j : Int) := by omega
                  rw [hya] at hc6'
                  clear hx hy
                  go_wp2_with fail
                  go_quiet (fail)
                  go_wp2_with fail
                  go_roundw
                  case rel => exact ⟨j + 1, by omega, by go_num, hbC.drewN _⟩
                  case measure => simp [intOf]; omega
                · go_wp2_with fail
                  go_roundw
                  case rel => exact ⟨p + 1, by omega, by go_num, hbB.trans hbC⟩
                  case measure => simp [intOf]; omega
            · go_wp2_with fail
              go_ret
              exact ⟨rfl, (KeptO.of_blw hb).trans (hK.trans (KeptO.of_blw hbB))⟩

/-- A fraction's two lists are the call's own. -/
def OwnF (B : Nat) (w : World) (x : FL) : Prop := OW.Own B w ⟨x.a, x.c, x.r.num⟩ ∧ OW.Own B w ⟨x.b, x.d, x.r.den⟩

set_option maxRecDepth 100000 in
set_option maxHeartbeats 4000000 in
theorem apartRatios_any (w0 : World) (A : Option Addr) (xs : List FL) (cap : Nat) (w : World) (hb0 : Blw w0 w) (hA : Arr w A (fls xs)) (hin : ∀ x ∈ xs, OwnF w0.heap.size w x) (hap : apartF xs) (hl : xs.length ≤ 100000) :
    Calls Try.prog 86 #[.slice A xs.length cap] w fun e w' => e = .returned (.bool true) ∧ KeptO (fun k => w0.heap.size ≤ k) w w' := by
  have HIN := Lib.hid hin
  have HAP := Lib.hid hap
  clear hin hap
  go_enter Try.func86, Try.ntmps86
  go_wp2_with fail
  go_loopw [3, 4] (fun v i wr => ∃ k : Nat, k ≤ xs.length ∧ i = .int .i64 k ∧ wr.ownsRow w.heap.size 86 1 v (2 * k) (ows ((xs.take k).flatMap FL.ows)) ∧ Blw w wr) (fun _ i _ => xs.length - (intOf i).toNat)
  case atStart => exact ⟨0, Nat.zero_le _, rfl, World.ownsRow_nil _ _ _ _, Blw.refl w⟩
  case round =>
    obtain ⟨k, hk, rfl, hown, hb⟩ := hrel
    by_cases hlt : k < xs.length
    · obtain ⟨x, b, o, hgx, hmx, rfl, hbs, c0, c1, c2⟩ := fl_at hA hlt
      have HT : Hid (ows ((xs.take (k + 1)).flatMap FL.ows) = ows ((xs.take k).flatMap FL.ows) ++ [.slice x.a x.r.num.length x.c, .slice x.b x.r.den.length x.d]) := by
        show _ = _
        rw [List.take_add_one, hgx, List.flatMap_append]
        exact List.map_append
      have hk1 : k ≤ 100000 := by omega
      obtain ⟨S, hS⟩ : ∃ S : World → Prop, S = fun W => b < W.heap.size ∧ Blw w W ∧ W.cell? ⟨b, o + k * 3 + 1, none⟩ = some (.slice x.a x.r.num.length x.c) ∧ W.cell? ⟨b, o + k * 3 + 2, none⟩ = some (.slice x.b x.r.den.length x.d) := ⟨_, rfl⟩
      have KS : ∀ W : World, Blw w W → S W := by
        intro W hW
        rw [hS]
        exact ⟨Nat.lt_of_lt_of_le hbs hW.size, hW, (Below.cell hW hbs).trans c1, (Below.cell hW hbs).trans c2⟩
      have hSd := KS _ hb.drew
      have HKS := Lib.hid KS
      clear hgx hmx KS c0 c1 c2
      go_wp2_with fail
      subst hS
      go_region_held3 (fun W => b < W.heap.size ∧ Blw w W ∧ W.cell? ⟨b, o + k * 3 + 1, none⟩ = some (.slice x.a x.r.num.length x.c) ∧ W.cell? ⟨b, o + k * 3 + 2, none⟩ = some (.slice x.b x.r.den.length x.d)) (first | assumption | (exact HKS.out _ (hb.drew.alloc _)) | (exact HKS.out _ (hb.alloc _))) (first
        | (refine step_app w _ (by rfl) _ _ 155 (by rfl) sl_wss ?_ _ (2 * k) _ (by rfl) (ownsRow_blw hown ?_) _ 2 2 [.slice x.a x.r.num.length x.c, .slice x.b x.r.den.length x.d] (by rfl) (by simp) (Arr.lit_at _ _ _ _ (by simp)) (by simp) (by simp [Value.oneCell']) (by unfold maxLen; omega) (by omega) ?_
           · exact hb.drew.alloc _
           · exact (Blw.refl wr).drew.alloc _
           intro v7 w7 hown7 hb7 hg7 _
           have hS7 := HKS.out _ hb7))
      all_goals
        have HOL : Hid (w7.ownsRow w.heap.size 86 1 v7 (2 * (k + 1)) (ows ((xs.take (k + 1)).flatMap FL.ows))) := by
          show World.ownsRow _ _ _ _ _ _ _
          rw [HT.out]; exact hown7
        clear hown7 hg7 hS7 hSd HKS hown
        go_wp2
        go_roundw
        case rel => exact ⟨k + 1, by omega, by go_num, HOL.out, hb7⟩
        case measure => simp [intOf]; omega
    · have hkl : k = xs.length := by omega
      subst hkl
      obtain ⟨a7, c7, rfl, hA7, -, -, -, -⟩ := own_arr hown
      rw [List.take_length] at hown hA7
      have hlm : (xs.flatMap FL.ows).length = 2 * xs.length := by
        have := hown.1
        simpa using this
      have hap := apartWords_any w0 a7 (xs.flatMap FL.ows) c7 wr (hb0.trans hb) hA7 (fun o ho => by
        obtain ⟨x, hx, ho⟩ := List.mem_flatMap.1 ho
        obtain ⟨h1, h2⟩ := HIN.out x hx
        simp only [FL.ows, List.mem_cons, List.mem_nil_iff, or_false] at ho
        rcases ho with rfl | rfl
        · exact ⟨ownsRow_blw h1.row hb, h1.wf, h1.ln⟩
        · exact ⟨ownsRow_blw h2.row hb, h2.wf, h2.ln⟩) HAP.out (fun q hq o ho h => by
        obtain ⟨x, hx, ho⟩ := List.mem_flatMap.1 ho
        obtain ⟨h1, h2⟩ := HIN.out x hx
        have hr : ∃ n cs, wr.ownsRow w0.heap.size 135 1 o.val n cs := by
          simp only [FL.ows, List.mem_cons, List.mem_nil_iff, or_false] at ho
          rcases ho with rfl | rfl
          · exact ⟨_, _, ownsRow_blw h1.row hb⟩
          · exact ⟨_, _, ownsRow_blw h2.row hb⟩
        obtain ⟨n, cs, hr⟩ := hr
        have := own_types hr hown (by decide) q.block h
        rcases hown.2 with ⟨e, -⟩ | ⟨g, _, _, e, -⟩
        · rw [hq] at e; cases e
        · rw [hq] at e; cases e; exact this (by rw [hq]; rfl)) (by omega)
      rw [hlm] at hap
      have HAPT := Lib.hid hap
      clear hap hlm hA7
      go_wp2_with fail
      refine Calls.mono HAPT.out ?_
      rintro e w8 ⟨rfl, hK8⟩
      have hKf : KeptO (fun k => w0.heap.size ≤ k) w w8 := (KeptO.of_blw hb).trans (hK8.mono fun i hi ⟨o, ho, h⟩ => by
        obtain ⟨x, hx, ho⟩ := List.mem_flatMap.1 ho
        obtain ⟨h1, h2⟩ := HIN.out x hx
        simp only [FL.ows, List.mem_cons, List.mem_nil_iff, or_false] at ho
        rcases ho with rfl | rfl
        · exact (World.ownsRow.lt h1.row i h).1
        · exact (World.ownsRow.lt h2.row i h).1)
      clear HAPT hK8
      go_wp2
      go_ret
      exact ⟨rfl, hKf⟩
end Go.Proofs.Ytigkfdoeneemeaa
/- Of, errors and all, in one form; what the law's heights are. -/
namespace Go.Proofs.Ytigkfdoeneemeaa
open Go.RowKit

theorem smallL_parts {l : List FL} (h : smallL l = true) : l.length ≤ 4105 ∧ ∀ x ∈ l, x.r.num.length ≤ 1000000 ∧ x.r.den.length ≤ 1000000 := by
  unfold smallL at h
  split at h
  · cases h
  · refine ⟨by omega, fun x hx => smF_len ?_⟩
    exact List.all_eq_true.1 h x hx
theorem rg_same {ls l : List FL} (h : ls.map (·.r) = l.map (·.r)) : rg ls = rg l := by
  funext i
  have e : ∀ m : List FL, rg m i = ((m.map (·.r))[i]?).getD fl0.r := by
    intro m
    unfold rg
    rw [List.getD_eq_getElem?_getD, List.getElem?_map]
    cases m[i]? <;> rfl
  rw [e, e, h]
def outK (l : List FL) (first : Int) : List (Int × Int × Bool × Fr) := if errO l first = 0 then (wats (sg l) l.length l.length).map (wkey l first) else []
theorem errO_same {ls l : List FL} (h : ls.map (·.r) = l.map (·.r)) (first : Int) : errO ls first = errO l first := by
  have hl : ls.length = l.length := by simpa using congrArg List.length h
  unfold errO
  rw [rg_same h, hl]
theorem outK_same {ls l : List FL} (h : ls.map (·.r) = l.map (·.r)) (first : Int) : outK ls first = outK l first := by
  have hl : ls.length = l.length := by simpa using congrArg List.length h
  have hs : sg ls = sg l := by funext i; unfold sg; rw [rg_same h]
  have hw : wkey ls first = wkey l first := by funext t; unfold wkey; rw [rg_same h]
  unfold outK
  rw [errO_same h, hs, hw, hl]
theorem outK_len (l : List FL) (first : Int) : (outK l first).length ≤ l.length := by
  unfold outK
  split
  · rw [List.length_map]
    unfold wats
    exact Nat.le_trans (List.length_filterMap_le _ _) (by rw [List.length_range]; exact Nat.le_refl _)
  · exact Nat.zero_le _

/-- The waters, or none and the error; all of the call's own, past the world B. -/
def OfB (B : World) (er : Int) (K : List (Int × Int × Bool × Fr)) (e : Ending) (w' : World) : Prop :=
  ∃ (out : List WL) (a : Option Addr) (c : Nat), e = .returned (.tuple #[.slice a out.length c, .int .i64 er]) ∧ Blw B w' ∧ w'.ownsRow B.heap.size 90 6 (.slice a out.length c) out.length (wls out) ∧ (∀ x ∈ out, OwnFL B.heap.size w' x.h) ∧
    out.map WL.key = K ∧ apartF (out.map (·.h))
def RefB (B : World) (l : List FL) (er : Int) (K : List (Int × Int × Bool × Fr)) (e : Ending) (w' : World) : Prop :=
  ∃ (out : List WL) (a : Option Addr) (c : Nat), e = .returned (.tuple #[.slice a out.length c, .int .i64 er]) ∧ Blw B w' ∧ w'.ownsRow B.heap.size 90 6 (.slice a out.length c) out.length (wls out) ∧ (∀ x ∈ out, x.h ∈ l) ∧
    out.map WL.key = K
theorem OwnFL.mono {B B' : Nat} {w : World} {x : FL} (h : OwnFL B w x) (k : B' ≤ B) : OwnFL B' w x := ⟨ownsRow_mono h.1 k, ownsRow_mono h.2.1 k, h.2.2.1, h.2.2.2⟩

theorem waterOf_B (B : World) (A : Option Addr) (l : List FL) (cap : Nat) (first : Int) (w : World) (hB : Blw B w) (hA : Arr w A (fls l)) (hin : ∀ x ∈ l, FL.In w x) (hl : l.length ≤ 100000) :
    Calls Try.prog 76 #[.slice A l.length cap, .int .i64 first] w (OfB B (errO l first) (outK l first)) := by
  by_cases he : errO l first = 0
  · obtain ⟨hc, hok⟩ := errO_ok he
    refine (waterOf_okD A l cap first w hA hin hok hc).mono fun e w' ⟨out, a, c, h1, h2, h3, h4, h5, h6⟩ => ⟨out, a, c, ?_, hB.trans h2, ownsRow_mono h3 hB.size, fun x hx => (h4 x hx).mono hB.size, ?_, h6⟩
    · rw [he]; exact h1
    · unfold outK; rw [if_pos he]; exact h5
  · refine (waterOf_err A l cap first w hA hin (by omega) he).mono fun e w' ⟨h1, x, h2⟩ => ⟨[], none, 0, h1, h2 ▸ hB.ext x, World.ownsRow_nil _ _ _ _, (fun x hx => by cases hx), ?_, apartF_nil⟩
    unfold outK; rw [if_neg he]; rfl
theorem refOf_B (B : World) (A : Option Addr) (l : List FL) (cap : Nat) (first : Int) (w : World) (hB : Blw B w) (hA : Arr w A (fls l)) (hin : ∀ x ∈ l, FL.In w x) (hl : l.length ≤ 100000) (hi0 : -9223372036854775808 ≤ first) (hi1 : first ≤ 9223372036854775807) :
    Calls Try.prog 77 #[.slice A l.length cap, .int .i64 first] w (RefB B l (errO l first) (outK l first)) := by
  by_cases he : errO l first = 0
  · obtain ⟨hc, hok⟩ := errO_ok he
    refine (refOf25_ok A l cap first w hA hin hok hc).mono fun e w' ⟨out, a, c, h1, h2, h3, h4, h5⟩ => ⟨out, a, c, ?_, hB.trans h2, ownsRow_mono h3 hB.size, h4, ?_⟩
    · rw [he]; exact h1
    · unfold outK; rw [if_pos he]; exact h5
  · refine (refOf25_err A l cap first w hA hin hl hi0 hi1 he).mono fun e w' ⟨h1, x, h2⟩ => ⟨[], none, 0, h1, h2 ▸ hB.ext x, World.ownsRow_nil _ _ _ _, (fun x hx => by cases hx), ?_⟩
    unfold outK; rw [if_neg he]; rfl

/-- Three lists past the world B, apart, and the error. -/
def SurB (B : World) (u : Int) (L1 L2 L3 : List Int) (e : Ending) (w' : World) : Prop :=
  ∃ (a1 : Option Addr) (c1 : Nat) (a2 : Option Addr) (c2 : Nat) (a3 : Option Addr) (c3 : Nat), e = .returned (.tuple #[.agg #[.slice a1 L1.length c1, .slice a2 L2.length c2, .slice a3 L3.length c3], .int .i64 u]) ∧ Blw B w' ∧ (∀ o ∈ [(⟨a1, c1, L1⟩ : OI), ⟨a2, c2, L2⟩, ⟨a3, c3, L3⟩], OI.Own B.heap.size w' o) ∧ [(⟨a1, c1, L1⟩ : OI), ⟨a2, c2, L2⟩, ⟨a3, c3, L3⟩].Pairwise OI.far
theorem surL_len (p : Nat → Bool) (first : Int) (n : Nat) : (surL p n first).length ≤ n := by
  unfold surL
  split
  · exact tks_len _ _ _
  · exact Nat.zero_le _
theorem SurOut.b {B w : World} {l : List (Nat × Nat)} {first : Int} {e : Ending} {w' : World} (hB : Blw B w) (hl : l.length ≤ 100000) (h : SurOut w l first e w') : SurB B (cntd l.length first) (surL (isTop l) l.length first) (surL (isBot l) l.length first) (surL (isDbt l) l.length first) e w' := by
  obtain ⟨v1, v2, v3, h1, h2, h3, h4, h5, h6, h7, h8⟩ := h
  obtain ⟨a1, c1, rfl, -⟩ := own_arr h3
  obtain ⟨a2, c2, rfl, -⟩ := own_arr h4
  obtain ⟨a3, c3, rfl, -⟩ := own_arr h5
  have n1 := surL_len (isTop l) first l.length
  have n2 := surL_len (isBot l) first l.length
  have n3 := surL_len (isDbt l) first l.length
  refine ⟨a1, c1, a2, c2, a3, c3, h1, hB.trans h2, ?_, ?_⟩
  · intro o ho
    simp only [List.mem_cons, List.mem_nil_iff, or_false] at ho
    rcases ho with rfl | rfl | rfl
    · exact ⟨ownsRow_mono h3 hB.size, Nat.le_trans n1 (by omega)⟩
    · exact ⟨ownsRow_mono h4 hB.size, Nat.le_trans n2 (by omega)⟩
    · exact ⟨ownsRow_mono h5 hB.size, Nat.le_trans n3 (by omega)⟩
  · refine List.Pairwise.cons ?_ (List.Pairwise.cons ?_ (List.Pairwise.cons ?_ List.Pairwise.nil))
    · intro o ho
      simp only [List.mem_cons, List.mem_nil_iff, or_false] at ho
      rcases ho with rfl | rfl
      · exact h6
      · exact h7
    · intro o ho
      simp only [List.mem_cons, List.mem_nil_iff, or_false] at ho
      subst ho
      exact h8
    · intro o ho; cases ho
/-- Two answers, the second made behind the first: six lists apart. -/
theorem six_far {B w1 B2 w : World} {o1 o2 o3 o4 o5 o6 : OI} (h : ∀ o ∈ [o1, o2, o3], OI.Own B.heap.size w1 o) (hp : [o1, o2, o3].Pairwise OI.far) (k : ∀ o ∈ [o4, o5, o6], OI.Own B2.heap.size w o) (kp : [o4, o5, o6].Pairwise OI.far) (hb : Blw w1 B2) (hb2 : Blw w1 w) (hbB : Blw B B2) :
    (∀ o ∈ [o1, o2, o3, o4, o5, o6], OI.Own B.heap.size w o) ∧ [o1, o2, o3, o4, o5, o6].Pairwise OI.far := by
  constructor
  · intro o ho
    have : o ∈ [o1, o2, o3] ∨ o ∈ [o4, o5, o6] := by
      rw [← List.mem_append]; exact ho
    rcases this with ho | ho
    · exact ⟨ownsRow_blw (h o ho).row hb2, (h o ho).ln⟩
    · exact ⟨ownsRow_mono (k o ho).row hbB.size, (k o ho).ln⟩
  · show ([o1, o2, o3] ++ [o4, o5, o6]).Pairwise OI.far
    rw [List.pairwise_append]
    refine ⟨hp, kp, fun x hx y hy i h1 h2 => ?_⟩
    have a := (World.ownsRow.lt (h x hx).row i h1).2
    have b := (World.ownsRow.lt (k y hy).row i h2).1
    have c := hb.size
    omega
end Go.Proofs.Ytigkfdoeneemeaa
/- slackwaterkit: SameWater, SameWaters, HeightsOf, walked. -/
namespace Go.Proofs.Ytigkfdoeneemeaa
open Go.RowKit

set_option maxRecDepth 100000 in
set_option maxHeartbeats 2000000 in
theorem sameWater_yes (x y : WL) (w : World) (hk : WL.key x = WL.key y) (hx : FL.In w x.h) (hy : FL.In w y.h) (lx : x.h.r.num.length ≤ 1099511627776 ∧ x.h.r.den.length ≤ 1099511627776) :
    Calls Try.prog 132 #[wlV x, wlV y] w fun e w' => e = .returned (.bool true) ∧ ∃ z, w' = w.ext z := by
  obtain ⟨xt, xl, xp, ⟨xr, xa, xc, xb, xd⟩⟩ := x
  obtain ⟨yt, yl, yp, ⟨yr, ya, yc, yb, yd⟩⟩ := y
  obtain ⟨h1, h2, h3, h4⟩ := key_parts hk
  simp only at h1 h2 h3 h4
  subst h1 h2 h3 h4
  have HSM := Lib.hid (fun (W : World) (hW : Blw w W) => sameRatio_any ⟨xr, xa, xc, xb, xd⟩ ⟨xr, ya, yc, yb, yd⟩ W (FL.In.blw hx hW) (FL.In.blw hy hW) lx lx)
  simp only [sameR_refl] at HSM
  obtain ⟨rn, rnum, rden⟩ := xr
  clear hx hy hk lx
  cases xp
  all_goals
    go_enter Try.func132, Try.ntmps132
    go_wp2_with (go_at_call 91; (with_reducible refine Calls.mono (HSM.out _ ?_) ?_); (· exact (by repeat (first | exact Blw.refl _ | apply Blw.ext | apply Blw.alloc | apply Blw.drewN | apply Blw.drew | refine Blw.setCell ?_ _ _ (by simp)))); rintro e w9 ⟨rfl, z1, rfl⟩)
    go_ret
    exact ⟨rfl, Blw.is (by repeat (first | exact Blw.refl _ | apply Blw.ext | apply Blw.alloc | apply Blw.drewN | apply Blw.drew | refine Blw.setCell ?_ _ _ (by simp)))⟩

set_option maxRecDepth 100000 in
set_option maxHeartbeats 2000000 in
theorem sameWaters_yes (A B : Option Addr) (ls l : List WL) (c d : Nat) (w : World) (hA : Arr w A (wls ls)) (hB : Arr w B (wls l)) (hkey : ls.map WL.key = l.map WL.key) (h1 : ∀ x ∈ ls, FL.In w x.h) (h2 : ∀ x ∈ l, FL.In w x.h) (hl : l.length ≤ 100000) (hs : ∀ x ∈ ls, x.h.r.num.length ≤ 1099511627776 ∧ x.h.r.den.length ≤ 1099511627776) :
    Calls Try.prog 78 #[.slice A ls.length c, .slice B l.length d] w fun e w' => e = .returned (.bool true) ∧ ∃ z, w' = w.ext z := by
  have hlen : ls.length = l.length := by simpa using congrArg List.length hkey
  rw [hlen]
  have HK := Lib.hid hkey
  have H1 := Lib.hid h1
  have H2 := Lib.hid h2
  have HS := Lib.hid hs
  have HLEN := Lib.hid hlen
  clear hkey h1 h2 hs hlen
  go_enter Try.func78, Try.ntmps78
  go_wp2_with fail
  go_loopw [5] (fun i wr => ∃ k : Nat, k ≤ l.length ∧ i = .int .i64 k ∧ Blw w wr) (fun i _ => l.length - (intOf i).toNat)
  case atStart => exact ⟨0, Nat.zero_le _, rfl, Blw.refl w⟩
  case round =>
    obtain ⟨k, hk, rfl, hb⟩ := hrel
    by_cases hlt : k < l.length
    · obtain ⟨y, b2, o2, hgy, hmy, rfl, hbs2, e0, e1, e2, e3, e4, e5⟩ := wl_at (hB.blw hb) hlt
      obtain ⟨x, b1, o1, hgx, hmx, rfl, hbs1, c0, c1, c2, c3, c4, c5⟩ := wl_at (hA.blw hb) (show k < ls.length by rw [HLEN.out]; exact hlt)
      have hky : WL.key x = WL.key y := by
        rcases key_at HK.out k with ⟨g1, g2⟩ | ⟨x', y', g1, g2, g3⟩
        · rw [hgx] at g1; cases g1
        · rw [hgx] at g1; rw [hgy] at g2; cases g1; cases g2; exact g3
      have HSW := Lib.hid (fun (W : World) (hW : Blw wr W) => sameWater_yes x y W hky (((H1.out x hmx).blw hb).blw hW) (((H2.out y hmy).blw hb).blw hW) (HS.out x hmx))
      have j2 : (0 : Int) ≤ (k : Int) := by omega
      have j3 : (k : Int) < (l.length : Int) := by omega
      obtain ⟨xt, xl, xp, ⟨⟨xn, xnum, xden⟩, xa, xc, xb, xd⟩⟩ := x
      obtain ⟨yt, yl, yp, ⟨⟨yn, ynum, yden⟩, ya, yc, yb, yd⟩⟩ := y
      simp only at HSW c0 c1 c2 c3 c4 c5 e0 e1 e2 e3 e4 e5
      clear hgx hgy hmx hmy hky
      go_wp2_with fail
      refine wp_region_ext_lit (by kernel_rfl) (by kernel_rfl) ?_
      repeat (go_big_quiet_step ((go_at_call 132; (with_reducible exact Calls.ext_of (HSW.out _ (by repeat (first | exact Blw.refl _ | apply Blw.ext | apply Blw.alloc | apply Blw.drewN | apply Blw.drew | refine Blw.setCell ?_ _ _ (by simp))))))))
      refine wpQuiet_nil ?_
      rintro _ ⟨z, rfl⟩
      go_wp2
      go_roundw
      case rel => exact ⟨k + 1, by omega, by go_num, hb.ext z⟩
      case measure => simp [intOf]; omega
    · go_wp2
      go_ret
      exact ⟨rfl, Blw.is hb⟩

/-- Fractions gathered: their words lie where they lay. -/
def RetFls0 (w : World) (xs : List FL) (e : Ending) (w' : World) : Prop :=
  ∃ (a : Option Addr) (c : Nat), e = .returned (.slice a xs.length c) ∧ Blw w w' ∧ w'.ownsRow w.heap.size 88 3 (.slice a xs.length c) xs.length (fls xs)
set_option maxRecDepth 100000 in
set_option maxHeartbeats 2000000 in
theorem heightsOf_any (A : Option Addr) (l : List WL) (cap : Nat) (w : World) (hA : Arr w A (wls l)) (hl : l.length ≤ 100000) :
    Calls Try.prog 87 #[.slice A l.length cap] w (RetFls0 w (l.map (·.h))) := by
  go_enter Try.func87, Try.ntmps87
  go_wp2_with fail
  go_loopw [3, 4] (fun v i wr => ∃ k : Nat, k ≤ l.length ∧ i = .int .i64 k ∧ wr.ownsRow w.heap.size 88 3 v k (fls ((l.take k).map (·.h))) ∧ Blw w wr) (fun _ i _ => l.length - (intOf i).toNat)
  case atStart => exact ⟨0, Nat.zero_le _, rfl, World.ownsRow_nil _ _ _ _, Blw.refl w⟩
  case round =>
    obtain ⟨k, hk, rfl, hown, hb⟩ := hrel
    by_cases hlt : k < l.length
    · obtain ⟨x, b, o, hgx, hmx, rfl, hbs, c0, c1, c2, c3, c4, c5⟩ := wl_at (hA.blw hb) hlt
      have HT : Hid (fls ((l.take (k + 1)).map (·.h)) = fls ((l.take k).map (·.h)) ++ [.bool x.h.r.neg, .slice x.h.a x.h.r.num.length x.h.c, .slice x.h.b x.h.r.den.length x.h.d]) := by
        show _ = _
        rw [List.take_add_one, hgx, List.map_append, fls_app]; rfl
      have hk1 : k ≤ 100000 := by omega
      clear hgx hmx
      go_wp2_with (at_builtin; refine wpList_app w _ rfl _ _ 97 rfl sl_ratios (hb.alloc _) _ k _ rfl (ownsRow_blw hown ((Blw.refl _).alloc _)) _ 1 1 [.bool x.h.r.neg, .slice x.h.a x.h.r.num.length x.h.c, .slice x.h.b x.h.r.den.length x.h.d] rfl (by simp) (Arr.lit _ _ _ _) (by simp) (by simp [Value.oneCell']) (by unfold maxLen; omega) (by omega) ?_; intro v7 w7 hown7 hb7 hg7 _)
      have HOL : Hid (w7.ownsRow w.heap.size 88 3 v7 (k + 1) (fls ((l.take (k + 1)).map (·.h)))) := by
        show World.ownsRow _ _ _ _ _ _ _
        rw [HT.out]; exact hown7
      clear hown7 hg7 hown
      go_roundw
      case rel => exact ⟨k + 1, by omega, by go_num, HOL.out, hb7⟩
      case measure => simp [intOf]; omega
    · have hkl : k = l.length := by omega
      subst hkl
      obtain ⟨a7, c7, rfl, -, -, -, -, -⟩ := own_arr hown
      rw [List.take_length] at hown
      go_wp2
      go_ret
      have hlm : (l.map (·.h)).length = l.length := List.length_map _
      exact ⟨a7, c7, by rw [hlm]; rfl, hb, by rw [hlm]; exact hown⟩
end Go.Proofs.Ytigkfdoeneemeaa
/- The walk of the law WaterLists. -/
namespace Go.Proofs.Ytigkfdoeneemeaa
open Go.RowKit

theorem outB_in {B : World} {w' : World} {out : List WL} (h : ∀ x ∈ out, OwnFL B.heap.size w' x.h) : ∀ x ∈ out, FL.In w' x.h := fun x hx => (h x hx).in
/-- The answers' words are few. -/
theorem key_small {out want : List WL} {l : List FL} (hk : out.map WL.key = want.map WL.key) (hw : ∀ x ∈ want, x.h ∈ l) (hs : ∀ x ∈ l, x.r.num.length ≤ 1000000 ∧ x.r.den.length ≤ 1000000) : ∀ x ∈ out, x.h.r.num.length ≤ 1000000 ∧ x.h.r.den.length ≤ 1000000 := by
  intro x hx
  obtain ⟨i, hi, rfl⟩ := List.getElem_of_mem hx
  rcases key_at hk i with ⟨h1, -⟩ | ⟨x', y, h1, h2, h3⟩
  · rw [List.getElem?_eq_getElem hi] at h1; cases h1
  · rw [List.getElem?_eq_getElem hi] at h1
    cases h1
    have := (key_parts h3).2.2.2
    rw [this]
    exact hs _ (hw y (List.mem_of_getElem? h2))
theorem OI.Own.blw {B : Nat} {w w' : World} {o : OI} (h : OI.Own B w o) (k : Blw w w') : OI.Own B w' o := ⟨ownsRow_blw h.row k, h.ln⟩
theorem OI.Own.mono {B B' : Nat} {w : World} {o : OI} (h : OI.Own B w o) (k : B' ≤ B) : OI.Own B' w o := ⟨ownsRow_mono h.row k, h.ln⟩

theorem at_blw {w W : World} {g : Nat} {x : Obj} (h : Blw w W) (hh : w.heap[g]? = some x) : W.heap[g]? = some x := KeptO.heap (O := fun _ => False) ⟨Below.os h, Below.tape h, Below.output h, Below.size h, fun k hk _ => Below.block h k hk⟩ hh (fun h => h)
theorem heap_lt {w : World} {g : Nat} {x : Obj} (h : w.heap[g]? = some x) : g < w.heap.size := (Array.getElem?_eq_some_iff.1 h).1
/-- A box that was filled is read. -/
theorem box_read {w : World} {g : Nat} {u0 u1 u2 : Value} {T : TypeId} (h : w.heap[g]? = some (.cells #[u0, u1, u2] T (0, 0))) : g < w.heap.size ∧ (∀ i, w.frozen? ⟨g, i, none⟩ = false) ∧ w.cell? ⟨g, 0, none⟩ = some u0 ∧ w.cell? ⟨g, 1, none⟩ = some u1 ∧ w.cell? ⟨g, 2, none⟩ = some u2 := by
  obtain ⟨h1, h2, h3, h4, -⟩ := three h u0 u1 u2
  exact ⟨heap_lt h, h1, h2, h3, h4⟩
theorem sure_own {B1 B2 : Nat} {W1 W2 : World} {a1 a2 a3 b1 b2 b3 : Option Addr} {c1 c2 c3 d1 d2 d3 : Nat} {L1 L2 L3 : List Int} (h : ∀ o ∈ [(⟨a1, c1, L1⟩ : OI), ⟨a2, c2, L2⟩, ⟨a3, c3, L3⟩], OI.Own B1 W1 o) (k : ∀ o ∈ [(⟨b1, d1, L1⟩ : OI), ⟨b2, d2, L2⟩, ⟨b3, d3, L3⟩], OI.Own B2 W2 o) (n1 : L1.length ≤ 100000) (n2 : L2.length ≤ 100000) (n3 : L3.length ≤ 100000) (W : World) (h1 : Blw W1 W) (h2 : Blw W2 W) :
    Calls Try.prog 83 #[.agg #[.slice a1 L1.length c1, .slice a2 L2.length c2, .slice a3 L3.length c3], .agg #[.slice b1 L1.length d1, .slice b2 L2.length d2, .slice b3 L3.length d3]] W fun e w' => e = .returned (.bool true) ∧ ∃ x, w' = W.ext x :=
  sure_yes a1 a2 a3 b1 b2 b3 c1 c2 c3 d1 d2 d3 L1 L2 L3 W ((h ⟨a1, c1, L1⟩ (by simp)).blw h1).in.ar ((h ⟨a2, c2, L2⟩ (by simp)).blw h1).in.ar ((h ⟨a3, c3, L3⟩ (by simp)).blw h1).in.ar
    ((k ⟨b1, d1, L1⟩ (by simp)).blw h2).in.ar ((k ⟨b2, d2, L2⟩ (by simp)).blw h2).in.ar ((k ⟨b3, d3, L3⟩ (by simp)).blw h2).in.ar n1 n2 n3
theorem cells_one_fls (l : List FL) : ∀ u ∈ fls l, u.oneCell' = true := by
  intro u hu
  obtain ⟨x, _, hx⟩ := List.mem_flatMap.1 hu
  simp [FL.cells] at hx
  rcases hx with rfl | rfl | rfl <;> rfl
/-- A step whose guard stands open goes as one without a guard. -/
theorem wpList_free {P : Program} {ops : Array Oper} {Q : Exit → Act → World → Prop} {rest : List Oper} {d : Option Nat} {op : Op} {t : TypeId} {p : String} {af} {g : Option (Nat × Bool)} {a : Act} {w : World} (h : Region.wanted ⟨d, op, t, p, af, g⟩ (yielded ops a.tmps) = true) (k : wpList P ops Q (⟨d, op, t, p, af, none⟩ :: rest) a w) : wpList P ops Q (⟨d, op, t, p, af, g⟩ :: rest) a w := by
  unfold wpList at k ⊢
  rw [if_pos h]
  rw [if_pos (show Region.wanted ⟨d, op, t, p, af, none⟩ (yielded ops a.tmps) = true from rfl)] at k
  exact k
theorem fls_len (l : List FL) : (fls l).length = l.length * 3 := by
  induction l with
  | nil => rfl
  | cons x l ih => rw [show fls (x :: l) = x.cells ++ fls l from rfl, List.length_append, ih, List.length_cons]; show 3 + _ = _; omega
theorem OwnFL.kept {B : Nat} {w w' : World} {x : FL} {O : Nat → Prop} (h : OwnFL B w x) (k : KeptO O w w') (hO : ∀ i, i < w.heap.size → ¬ O i) : OwnFL B w' x :=
  ⟨k.own h.1 (fun i hi => hO i (World.ownsRow.lt h.1 i hi).2), k.own h.2.1 (fun i hi => hO i (World.ownsRow.lt h.2.1 i hi).2), h.2.2.1, h.2.2.2⟩
set_option maxRecDepth 100000 in
set_option maxHeartbeats 4000000 in
theorem lists_walk (A : Option Addr) (l : List FL) (cap : Nat) (B : Option Addr) (f : List (Nat × Nat)) (capf : Nat) (first : Int) (w : World) (hA : Arr w A (fls l)) (hin : ∀ x ∈ l, FL.In w x) (hl : l.length ≤ 9223372036854775807) (hB : Arr w B (bars f)) (hf : f.length ≤ 9223372036854775807) (hi0 : -9223372036854775808 ≤ first) (hi1 : first ≤ 9223372036854775807) :
    Calls Try.prog 11 #[.slice A l.length cap, .slice B f.length capf, .int .i64 first] w fun e w' => e = .returned (.bool true) ∧ ∃ x, w' = w.ext x := by
  have SM := Lib.hid (fun (W : World) (hb : Blw w W) => law25small_any A l cap W (hA.blw hb) hl (fun x hx => ⟨Nat.le_trans (hin x hx).cn (hin x hx).cm, Nat.le_trans (hin x hx).dn (hin x hx).dm⟩))
  obtain ⟨sm, hsm⟩ : ∃ sm, sm = smallL l := ⟨_, rfl⟩
  rw [← hsm] at SM
  have HSM := Lib.hid hsm
  have HIN := Lib.hid hin
  have HA := Lib.hid hA
  have HB := Lib.hid hB
  clear hsm hin hA hB
  go_enter Try.func11, Try.ntmps11
  go_wp2_with fail
  refine Calls.mono (SM.out _ (by repeat (first | exact Blw.refl _ | apply Blw.ext | apply Blw.alloc | apply Blw.drewN | apply Blw.drew | refine Blw.setCell ?_ _ _ (by simp)))) ?_
  rintro e w1 ⟨rfl, hx1⟩
  have hb1 : Blw w w1 := by obtain ⟨x, rfl⟩ := hx1; exact (by repeat (first | exact Blw.refl _ | apply Blw.ext | apply Blw.alloc | apply Blw.drewN | apply Blw.drew | refine Blw.setCell ?_ _ _ (by simp)))
  clear hx1 SM
  cases sm
  · go_wp2
    go_ret
    exact ⟨rfl, Blw.is hb1⟩
  by_cases h0 : (60 < f.length ∧ f.length ≤ 4096) ∨ 4105 < f.length
  · rcases h0 with ⟨h1, h2⟩ | h1
    · have d1 : decide ((60 : Int) < (f.length : Int)) = true := by simp; omega
      have d2 : decide ((f.length : Int) ≤ 4096) = true := by simp; omega
      go_wp2
      go_ret
      exact ⟨rfl, Blw.is hb1⟩
    · have d1 : decide ((60 : Int) < (f.length : Int)) = true := by simp; omega
      have d2 : decide ((f.length : Int) ≤ 4096) = false := by simp; omega
      have d3 : decide ((4105 : Int) < (f.length : Int)) = true := by simp; omega
      go_wp2
      go_ret
      exact ⟨rfl, Blw.is hb1⟩
  have hcs : decide ((60 : Int) < (f.length : Int)) = false ∨ (decide ((60 : Int) < (f.length : Int)) = true ∧ decide ((f.length : Int) ≤ 4096) = false) := by
    by_cases h1 : 60 < f.length
    · exact .inr ⟨by simp; omega, by simp; omega⟩
    · exact .inl (by simp; omega)
  have d3 : decide ((4105 : Int) < (f.length : Int)) = false := by simp; omega
  have hf4 : f.length ≤ 4105 := by omega
  obtain ⟨hl4, hsz⟩ := smallL_parts HSM.out.symm
  have HSZ := Lib.hid hsz
  have HIN1 : Hid (∀ x ∈ l, FL.In w1 x) := fun x hx => (HIN.out x hx).blw hb1
  have HA1 := Lib.hid (HA.out.blw hb1)
  have HB1 := Lib.hid (HB.out.blw hb1)
  have LRC := Lib.hid (lentRatios_any A l cap w1 HA1.out HIN1.out (by omega) hsz)
  clear h0 hf hl hsz HSM HIN HA HB
  rcases hcs with d1 | ⟨d1, d2⟩
  all_goals
    go_wp2_with fail
    clear d1 d3
    (try clear d2)
    refine Calls.mono LRC.out ?_
    rintro e w2 ⟨ls, sp, a, c, rfl, hb2, hown, hkey, hlent, hspl, hsp⟩
    obtain ⟨_, _, ee, hA2, -, hc2, hc2m, -⟩ := own_arr hown
    cases ee
    have hlen : ls.length = l.length := by simpa using congrArg List.length hkey
    have hA2' : Arr w2 a (fls ls) := hA2.pre (by rw [fls_app]; exact List.prefix_append _ _)
    have OFC := fun (W0 W : World) (h0 : Blw w2 W0) (h1 : Blw W0 W) => waterOf_B W0 a ls c first W h1 (hA2'.blw (h0.trans h1)) (fun x hx => (hlent x hx).in.blw (h0.trans h1)) (by omega)
    rw [errO_same hkey, outK_same hkey, hlen] at OFC
    have RFC := fun (W0 W : World) (h0 : Blw w2 W0) (h1 : Blw W0 W) => refOf_B W0 A l cap first W h1 (HA1.out.blw (hb2.trans (h0.trans h1))) (fun x hx => (HIN1.out x hx).blw (hb2.trans (h0.trans h1))) (by omega) hi0 hi1
    have KR := Lib.hid (fun (W : World) (hW : Blw w2 W) => keptRatios_any w1.heap.size a A ls sp l c cap W (hA2.blw hW) (HA1.out.blw (hb2.trans hW)) hkey (fun x hx => (hlent x hx).blw hW) hspl (fun x hx => ⟨(hsp x hx).1, (hsp x hx).2.blw hW⟩) (fun x hx => (HIN1.out x hx).blw (hb2.trans hW)) (by omega) HSZ.out)
    have hKl := outK_len l first
    generalize errO l first = er at *
    generalize outK l first = K at *
    have HOF := Lib.hid OFC
    have HRF := Lib.hid RFC
    have i1 : (l.length : Int) ≤ (c : Int) := by omega
    clear OFC RFC hA2 hA2' hown hkey hlent hspl hsp hlen LRC
    go_wp2_with fail
    refine Calls.mono (HOF.out w2 _ (Blw.refl _) (by repeat (first | exact Blw.refl _ | apply Blw.ext | apply Blw.alloc | apply Blw.drewN | apply Blw.drew | refine Blw.setCell ?_ _ _ (by simp)))) ?_
    rintro e w3 ⟨out1, a1, c1, rfl, hb3, own1, in1, key1, ap1⟩
    go_wp2_with fail
    refine Calls.mono (HOF.out w3 _ hb3 (by repeat (first | exact Blw.refl _ | apply Blw.ext | apply Blw.alloc | apply Blw.drewN | apply Blw.drew | refine Blw.setCell ?_ _ _ (by simp)))) ?_
    rintro e w4 ⟨out2, a2, c2, rfl, hb4, own2, in2, key2, ap2⟩
    go_wp2_with fail
    refine Calls.mono (HRF.out w4 _ (hb3.trans hb4) (by repeat (first | exact Blw.refl _ | apply Blw.ext | apply Blw.alloc | apply Blw.drewN | apply Blw.drew | refine Blw.setCell ?_ _ _ (by simp)))) ?_
    rintro e w5 ⟨want, a3, c3, rfl, hb5, own3, in3, key3⟩
    have n1 : out1.length ≤ 4105 := by have := congrArg List.length key1; rw [List.length_map] at this; omega
    have n2 : out2.length ≤ 4105 := by have := congrArg List.length key2; rw [List.length_map] at this; omega
    have n3 : want.length ≤ 4105 := by have := congrArg List.length key3; rw [List.length_map] at this; omega
    have sm1 := key_small (key1.trans key3.symm) in3 HSZ.out
    have sm2 := key_small (key2.trans key3.symm) in3 HSZ.out
    have hb25 : Blw w2 w5 := (hb3.trans hb4).trans hb5
    have hb15 : Blw w1 w5 := hb2.trans hb25
    have own1' := ownsRow_blw own1 (hb4.trans hb5)
    have own2' := ownsRow_blw own2 hb5
    obtain ⟨_, _, ee, arr1, -⟩ := own_arr own1'
    cases ee
    obtain ⟨_, _, ee, arr2, -⟩ := own_arr own2'
    cases ee
    obtain ⟨_, _, ee, arr3, -⟩ := own_arr own3
    cases ee
    have inl3 : ∀ x ∈ want, FL.In w5 x.h := fun x hx => (HIN1.out _ (in3 x hx)).blw hb15
    have SW1 := Lib.hid (fun (W : World) (hW : Blw w5 W) => sameWaters_yes a1 a3 out1 want c1 c3 W (arr1.blw hW) (arr3.blw hW) (key1.trans key3.symm) (fun x hx => ((in1 x hx).in.blw (hb4.trans hb5)).blw hW) (fun x hx => (inl3 x hx).blw hW) (by omega) (fun x hx => ⟨Nat.le_trans (sm1 x hx).1 (by omega), Nat.le_trans (sm1 x hx).2 (by omega)⟩))
    have SW2 := Lib.hid (fun (W : World) (hW : Blw w5 W) => sameWaters_yes a2 a3 out2 want c2 c3 W (arr2.blw hW) (arr3.blw hW) (key2.trans key3.symm) (fun x hx => ((in2 x hx).in.blw hb5).blw hW) (fun x hx => (inl3 x hx).blw hW) (by omega) (fun x hx => ⟨Nat.le_trans (sm2 x hx).1 (by omega), Nat.le_trans (sm2 x hx).2 (by omega)⟩))
    have KR5 := Lib.hid (fun (W : World) (hW : Blw w5 W) => KR.out W (hb25.trans hW))
    have LOC : Hid (∀ W : World, Blw w5 W → Calls Try.prog 80 #[.slice B f.length capf] W fun e w' => ∃ (p : Option Addr) (q : Nat), e = .returned (.slice p f.length q) ∧ Blw W w' ∧ Arr w' p (offs f)) := fun W hW =>
      (law25offs_any B f capf W (HB1.out.blw (hb15.trans hW)) (by omega)).mono fun e w' ⟨p, q, x, h1, h2, _, h4, _⟩ => ⟨p, q, h1, h2 ▸ World.blw_ext W x, h2 ▸ h4⟩
    have HOWN : Hid (∀ x ∈ out1, OwnFL w2.heap.size w5 x.h) := fun x hx => (in1 x hx).blw (hb4.trans hb5)
    have HOWN2 : Hid (∀ x ∈ out2, OwnFL w3.heap.size w5 x.h) := fun x hx => (in2 x hx).blw hb5
    have HFAR : Hid (apartF (out1.map (·.h) ++ out2.map (·.h))) := by
      refine apartF_app ap1 ap2 fun x hx y hy u hu v hv => ?_
      obtain ⟨x', hx', rfl⟩ := List.mem_map.1 hx
      obtain ⟨y', hy', rfl⟩ := List.mem_map.1 hy
      have h1 := in1 x' hx'
      have h2 := in2 y' hy'
      simp only [FL.ows, List.mem_cons, List.mem_nil_iff, or_false] at hu hv
      rcases hu with rfl | rfl <;> rcases hv with rfl | rfl
      · exact far_new h1.1 h2.1
      · exact far_new h1.1 h2.2.1
      · exact far_new h1.2.1 h2.1
      · exact far_new h1.2.1 h2.2.1
    have HSM1 := Lib.hid sm1
    have HSM2 := Lib.hid sm2
    have HA1' := Lib.hid arr1
    have HA2' := Lib.hid arr2
    have HR1 := Lib.hid own1'
    have HR2 := Lib.hid own2'
    clear arr1 arr2 arr3 own1 own2 own1' own2' own3 in1 in2 in3 inl3 sm1 sm2 key1 key2 key3 ap1 ap2 KR HOF HRF
    go_wp2_with (first
      | (go_at_call 78; (with_reducible refine Calls.mono (SW1.out _ ?_) ?_); (· exact (by repeat (first | exact Blw.refl _ | apply Blw.ext | apply Blw.alloc | apply Blw.drewN | apply Blw.drew | refine Blw.setCell ?_ _ _ (by simp)))); rintro e w9 ⟨rfl, z1, rfl⟩)
      | (go_at_call 78; (with_reducible refine Calls.mono (SW2.out _ ?_) ?_); (· exact (by repeat (first | exact Blw.refl _ | apply Blw.ext | apply Blw.alloc | apply Blw.drewN | apply Blw.drew | refine Blw.setCell ?_ _ _ (by simp)))); rintro e w9 ⟨rfl, z2, rfl⟩)
      | (go_at_call 79; (with_reducible refine Calls.mono (KR5.out _ ?_) ?_); (· exact (by repeat (first | exact Blw.refl _ | apply Blw.ext | apply Blw.alloc | apply Blw.drewN | apply Blw.drew | refine Blw.setCell ?_ _ _ (by simp)))); rintro e w9 ⟨rfl, z3, rfl⟩))
    refine Calls.mono (LOC.out _ (by repeat (first | exact Blw.refl _ | apply Blw.ext | apply Blw.alloc | apply Blw.drewN | apply Blw.drew | refine Blw.setCell ?_ _ _ (by simp)))) ?_
    rintro e w6 ⟨af, cf, rfl, hbx, harf⟩
    have hb6 : Blw w5 w6 := Blw.trans (by repeat (first | exact Blw.refl _ | apply Blw.ext | apply Blw.alloc | apply Blw.drewN | apply Blw.drew | refine Blw.setCell ?_ _ _ (by simp))) hbx
    have SUC := Lib.hid (fun (W0 W : World) (h0 : Blw w6 W0) (h1 : Blw W0 W) => (sures_any af f cf first W (harf.blw (h0.trans h1)) (by omega)).mono fun e w' h => SurOut.b h1 (by omega) h)
    have SOC := fun (b : Option Addr) (d : Nat) (W : World) (h0 : Blw w6 W) (h1 : Arr W b (offs f)) => sameOffs_self af b f cf d W (harf.blw h0) h1 (by omega)
    have HSO := Lib.hid SOC
    have RSC := fun (b : Option Addr) (d : Nat) (W : World) (h1 : Arr W b (offs f)) => (refSures_any b f d first W h1 (by omega) hi0 hi1).mono fun e w' h => SurOut.b (Blw.refl W) (by omega) h
    have g1 : (surL (isTop f) f.length first).length ≤ 100000 := Nat.le_trans (surL_len _ _ _) (by omega)
    have g2 : (surL (isBot f) f.length first).length ≤ 100000 := Nat.le_trans (surL_len _ _ _) (by omega)
    have g3 : (surL (isDbt f) f.length first).length ≤ 100000 := Nat.le_trans (surL_len _ _ _) (by omega)
    have SUC1 := SUC.out
    clear SUC
    generalize surL (isTop f) f.length first = L1 at *
    generalize surL (isBot f) f.length first = L2 at *
    generalize surL (isDbt f) f.length first = L3 at *
    generalize cntd f.length first = u at *
    have HSU := Lib.hid SUC1
    have HRS := Lib.hid RSC
    clear SUC1 RSC hbx harf SOC SW1 SW2 KR5
    go_wp2_with fail
    refine Calls.mono (HSU.out w6 _ (Blw.refl _) (by repeat (first | exact Blw.refl _ | apply Blw.ext | apply Blw.alloc | apply Blw.drewN | apply Blw.drew | refine Blw.setCell ?_ _ _ (by simp)))) ?_
    rintro e w7 ⟨xa1, xc1, xa2, xc2, xa3, xc3, rfl, hb7, hx7, hf7⟩
    go_wp2_with fail
    refine Calls.mono (HSU.out _ _ (hb7.alloc _) (Blw.refl _)) ?_
    rintro e w8 ⟨ya1, yc1, ya2, yc2, ya3, yc3, rfl, hb8, hx8, hf8⟩
    go_wp2_with fail
    have hb58 : Blw w5 w8 := ((hb6.trans hb7).alloc _).trans hb8
    refine Calls.mono (LOC.out _ (hb58.alloc _)) ?_
    rintro e w9 ⟨az, cz, rfl, hb9, harz⟩
    go_wp2_with fail
    refine Calls.mono (HRS.out az cz _ harz) ?_
    rintro e w10 ⟨za1, zc1, za2, zc2, za3, zc3, rfl, hb10, hx10, hf10⟩
    have X10 := at_blw hb10 (at_blw hb9 (at_alloc _ (at_blw hb8 (heap_alloc_new _ _))))
    have Y10 := at_blw hb10 (at_blw hb9 (heap_alloc_new _ _))
    have hb710 : Blw w7 w10 := (((((Blw.refl w7).alloc _).trans hb8).alloc _).trans hb9).trans hb10
    have hb810 : Blw w8 w10 := (((Blw.refl w8).alloc _).trans hb9).trans hb10
    have hb510 : Blw w5 w10 := (hb58.trans hb810)
    have SRx := Lib.hid (sure_own hx7 hx10 g1 g2 g3)
    have SRy := Lib.hid (sure_own hx8 hx10 g1 g2 g3)
    obtain ⟨bx, fx, x0, x1, x2⟩ := box_read X10
    have HX10 := Lib.hid X10
    have HY10 := Lib.hid Y10
    have HX7 := Lib.hid hx7
    have HX8 := Lib.hid hx8
    have HF7 := Lib.hid hf7
    have HF8 := Lib.hid hf8
    clear X10 Y10 hx7 hx8 hx10 hf7 hf8 hf10 harz HSU HRS
    go_wp2_with fail
    refine Calls.mono (SRx.out _ (hb710.alloc _) ((Blw.refl _).alloc _)) ?_
    rintro e w11 ⟨rfl, y11, hy11⟩
    have hb11 := hy11 ▸ World.blw_ext _ y11
    clear hy11
    obtain ⟨-, -, -, -, -⟩ : True ∧ True ∧ True ∧ True ∧ True := ⟨trivial, trivial, trivial, trivial, trivial⟩
    clear bx fx x0 x1 x2
    obtain ⟨bx, fx, x0, x1, x2⟩ := box_read (at_blw hb11 (at_alloc _ HY10.out))
    obtain ⟨bz, fz, z0, z1, z2⟩ := box_read (at_blw hb11 (heap_alloc_new _ _))
    go_wp2_with fail
    refine Calls.mono (SRy.out _ ((hb810.alloc _).trans hb11) (((Blw.refl _).alloc _).trans hb11)) ?_
    rintro e w12 ⟨rfl, y12, hy12⟩
    have hb12 : Blw w11 w12 := hy12 ▸ World.blw_ext _ y12
    have hb1012 : Blw w10 w12 := (((Blw.refl w10).alloc _).trans hb11).trans hb12
    clear hy12 bx fx x0 x1 x2 bz fz z0 z1 z2 SRx SRy
    go_wp2_with fail
    refine Calls.mono (LOC.out _ (hb510.trans hb1012)) ?_
    rintro e w13 ⟨ao, co, rfl, hb13, harz⟩
    have hb613 : Blw w6 w13 := (((hb7.trans hb710)).trans hb1012).trans hb13
    have SO13 := HSO.out ao co w13 hb613 harz
    have HSO13 := Lib.hid SO13
    clear SO13 harz
    go_wp2_with fail
    refine Calls.mono HSO13.out ?_
    rintro e w14 ⟨rfl, y14, hy14⟩
    have hb14 : Blw w13 w14 := hy14 ▸ World.blw_ext _ y14
    clear hy14
    have hb1014 : Blw w10 w14 := (hb1012.trans hb13).trans hb14
    obtain ⟨bx, fx, x0, x1, x2⟩ := box_read (at_blw hb1014 HX10.out)
    obtain ⟨bz, fz, z0, z1, z2⟩ := box_read (at_blw hb1014 HY10.out)
    obtain ⟨six1, six2⟩ := six_far HX7.out HF7.out HX8.out HF8.out ((Blw.refl w7).alloc _) (((Blw.refl w7).alloc _).trans hb8) (hb7.alloc _)
    have hb814 : Blw w8 w14 := hb810.trans hb1014
    have hb614 : Blw w6 w14 := hb613.trans hb14
    have APC := Lib.hid (apart_yes w6 ⟨xa1, xc1, L1⟩ ⟨xa2, xc2, L2⟩ ⟨xa3, xc3, L3⟩ ⟨ya1, yc1, L1⟩ ⟨ya2, yc2, L2⟩ ⟨ya3, yc3, L3⟩ w14 hb614 (fun o ho => (six1 o ho).blw hb814) six2)
    clear six1 six2 HX7 HF7 HX8 HF8 HX10 HY10 HSO13
    go_wp2_with fail
    refine Calls.mono APC.out ?_
    rintro e w15 ⟨rfl, hk15⟩
    clear bx fx x0 x1 x2 bz fz z0 z1 z2
    have hb514 : Blw w5 w14 := hb6.trans hb614
    have hk5 : KeptO (fun k => w6.heap.size ≤ k) w5 w15 := (KeptO.of_blw hb514).trans (hk15.mono fun i _ hi => hi)
    have hno : ∀ i, i < w5.heap.size → ¬ w6.heap.size ≤ i := fun i hi h => by have := hb6.size; omega
    have hb05 : Blw w w5 := hb1.trans hb15
    have hb15' : Blw w w15 := KeptO.blw (hb05.trans hb514) hk15 (fun i hi => Nat.le_trans (hb05.trans hb6).size hi)
    have ow1 : ∀ x ∈ out1, OwnFL w.heap.size w15 x.h := fun x hx => ((HOWN.out x hx).kept hk5 hno).mono (hb1.trans hb2).size
    have ow2 : ∀ x ∈ out2, OwnFL w.heap.size w15 x.h := fun x hx => ((HOWN2.out x hx).kept hk5 hno).mono ((hb1.trans hb2).trans hb3).size
    have or1 := hk5.own HR1.out (fun k hk => hno k (World.ownsRow.lt HR1.out k hk).2)
    have or2 := hk5.own HR2.out (fun k hk => hno k (World.ownsRow.lt HR2.out k hk).2)
    obtain ⟨_, _, ee, arr1, -⟩ := own_arr or1
    cases ee
    obtain ⟨_, _, ee, arr2, -⟩ := own_arr or2
    cases ee
    have HH1 := fun (W : World) (hW : Blw w15 W) => heightsOf_any a1 out1 c1 W (arr1.blw hW) (by omega)
    have HH2 := fun (W : World) (hW : Blw w15 W) => heightsOf_any a2 out2 c2 W (arr2.blw hW) (by omega)
    have hin1 : ∀ x ∈ out1.map (·.h) ++ out2.map (·.h), OwnFL w.heap.size w15 x ∧ x.r.num.length ≤ 1000000 ∧ x.r.den.length ≤ 1000000 := by
      intro x hx
      rcases List.mem_append.1 hx with hx | hx
      · obtain ⟨y, hy, rfl⟩ := List.mem_map.1 hx
        exact ⟨ow1 y hy, HSM1.out y hy⟩
      · obtain ⟨y, hy, rfl⟩ := List.mem_map.1 hx
        exact ⟨ow2 y hy, HSM2.out y hy⟩
    have HL1 : (out1.map (·.h)).length ≤ 4105 := by rw [List.length_map]; exact n1
    have HL2 : (out2.map (·.h)).length ≤ 4105 := by rw [List.length_map]; exact n2
    obtain ⟨H1, hH1⟩ : ∃ H1 : List FL, H1 = out1.map (·.h) := ⟨_, rfl⟩
    obtain ⟨H2, hH2⟩ : ∃ H2 : List FL, H2 = out2.map (·.h) := ⟨_, rfl⟩
    rw [← hH1] at HH1 HL1
    rw [← hH2] at HH2 HL2
    rw [← hH1, ← hH2] at hin1
    have HAPF : Hid (apartF (H1 ++ H2)) := by
      show apartF _
      rw [hH1, hH2]; exact HFAR.out
    have HHC1 := Lib.hid HH1
    have HHC2 := Lib.hid HH2
    have HIN15 := Lib.hid hin1
    clear hin1 HH1 HH2 hH1 hH2 ow1 ow2 or1 or2 arr1 arr2 HFAR HOWN HOWN2 HR1 HR2 HA1' HA2' HSM1 HSM2 APC hk15 hk5 hno
    go_wp2_with fail
    refine Calls.mono (HHC1.out _ (Blw.refl _)) ?_
    rintro e w16 ⟨p1, q1, rfl, hb16, own16⟩
    go_wp2_with fail
    refine Calls.mono (HHC2.out _ hb16) ?_
    rintro e w17 ⟨p2, q2, rfl, hb17, own17⟩
    obtain ⟨_, _, ee, arr17, -, -, -, nil17⟩ := own_arr own17
    cases ee
    have own16' := ownsRow_blw own16 hb17
    clear own16 own17
    go_wp2_with (at_builtin; (refine wpList_free (by first | rfl | decide | simp [Region.wanted, yielded]) ?_; refine wpList_app w15 _ rfl _ _ 97 rfl sl_ratios (hb16.trans hb17) _ H1.length (fls H1) rfl own16' p2 H2.length q2 (fls H2) rfl (fun e => (nil17 e).2) arr17 (fls_len _) (cells_one_fls _) (by unfold maxLen; omega) (by omega) ?_; intro v18 w18 own18 hb18 hg18 _))
    obtain ⟨p3, q3, rfl, arr18, -⟩ := own_arr own18
    have in18 : ∀ x ∈ H1 ++ H2, OwnF w.heap.size w18 x := fun x hx => by
      obtain ⟨h1, h2, h3⟩ := HIN15.out x hx
      have h4 := (h1.blw (hb16.trans hb17)).past own16' (by decide) hg18
      exact ⟨⟨h4.1, h4.2.2.1, h2⟩, ⟨h4.2.1, h4.2.2.2, h3⟩⟩
    have hb018 : Blw w w18 := hb15'.trans hb18
    have APR := apartRatios_any w p3 (H1 ++ H2) q3 w18 hb018 (by rw [fls_app]; exact arr18) in18 HAPF.out (by rw [List.length_append]; omega)
    rw [List.length_append] at APR
    have HAPR := Lib.hid APR
    clear APR in18 own18 own16' arr18 arr17 nil17 hg18 HAPF HIN15
    go_wp2_with fail
    refine Calls.mono HAPR.out ?_
    rintro e w19 ⟨rfl, hk19⟩
    have hb019 : Blw w w19 := KeptO.blw hb018 hk19 (fun i hi => hi)
    clear hk19 HAPR
    go_wp2
    go_ret
    exact ⟨rfl, Blw.is hb019⟩
end Go.Proofs.Ytigkfdoeneemeaa
/- Arguments that came in, opened: slices of whole numbers as lists. -/
namespace Go.Proofs.Ytigkfdoeneemeaa
open Go.RowKit Go.ChangeShapes Go.WideShapes Go.ChangeAt

theorem open_list {H : Type} {enc : TypeId × Value → H} {P : Program} {W : World} {d : DataW H} {ps : List MemPlace} {T E : TypeId} {k : IntKind} {a : Option Addr} {len cap : Nat}
    (hT : P.underlying T = some (.slice E)) (hE : P.underlying E = some (.int k)) (hC : P.cellsOf E = 1)
    (h : DataW.Trod enc P W 0 (fun _ => true) true T (.slice a len cap) d ps) :
    ∃ l : List Int, l.length = len ∧ Arr W a (l.map (Value.int k)) ∧ (∀ z ∈ l, (Lit.int k z).wf = true) ∧ (a = none → cap = 0) ∧ len ≤ cap ∧ cap ≤ maxLen := by
  obtain ⟨fuel, hf⟩ := h
  rcases open_ints hT hE hC hf with ⟨hcs, _⟩ | ⟨x, l, c, zs, hcs, _, hl, hm, hz, _, hcell, hwz⟩
  · simp [Value.cells] at hcs
    obtain ⟨rfl, rfl, rfl⟩ := hcs
    exact ⟨[], rfl, .inl rfl, by simp, fun _ => rfl, Nat.le_refl _, Nat.zero_le _⟩
  · simp [Value.cells] at hcs
    obtain ⟨rfl, rfl, rfl⟩ := hcs
    have hz' : zs.length = cap := by simpa using hz
    refine ⟨zs.take len, by simp; omega, ?_, (fun z hz => hwz z (List.mem_of_mem_take hz)), (fun h => by cases h), hl, hm⟩
    by_cases h0 : len = 0
    · subst h0; exact .inl (by simp)
    obtain ⟨b, o, s⟩ := x
    have c0 := hcell 0 (by omega)
    have hs : s = none := by simpa [Addr.add] using World.cell?_spot c0
    subst hs
    have ea : ∀ j, (⟨b, o, none⟩ : Addr).add j = ⟨b, o + j, none⟩ := fun j => by unfold Addr.add; split <;> simp_all
    refine .inr ⟨b, o, rfl, block_lt_of_cell c0, fun i hi => ?_⟩
    have hi' : i < zs.length ∧ i < len := by simp at hi; omega
    rw [← ea i, hcell i hi'.1]
    simp [hi'.1, hi'.2]

theorem open_u64s {H : Type} {enc : TypeId × Value → H} {P : Program} {W : World} {d : DataW H} {ps : List MemPlace} {T E : TypeId} {a : Option Addr} {len cap : Nat}
    (hT : P.underlying T = some (.slice E)) (hE : P.underlying E = some (.int .u64)) (hC : P.cellsOf E = 1)
    (h : DataW.Trod enc P W 0 (fun _ => true) true T (.slice a len cap) d ps) :
    ∃ l : List Nat, l.length = len ∧ Arr W a (u64s l) ∧ (∀ z ∈ l, z < 2 ^ 64) ∧ (a = none → cap = 0) ∧ len ≤ cap ∧ cap ≤ maxLen := by
  obtain ⟨l, h1, h2, h3, h4, h5, h6⟩ := open_list hT hE hC h
  have hb : ∀ z ∈ l, 0 ≤ z ∧ z < 2 ^ 64 := fun z hz => by
    have := h3 z hz
    simp [Lit.wf, IntKind.min, IntKind.max, IntKind.signed, IntKind.bits] at this
    omega
  refine ⟨l.map Int.toNat, by simpa using h1, ?_, ?_, h4, h5, h6⟩
  · have e : u64s (l.map Int.toNat) = l.map (Value.int .u64) := by
      rw [u64s, List.map_map]
      apply List.map_congr_left
      intro z hz
      have := hb z hz
      simp; omega
    rw [e]; exact h2
  · intro z hz
    obtain ⟨y, hy, rfl⟩ := List.mem_map.1 hz
    have := hb y hy
    omega
theorem wf_u64 {n : Int} (h : (Lit.int .u64 n).wf = true) : ∃ m : Nat, n = m ∧ m < 2 ^ 64 := by
  simp [Lit.wf, IntKind.min, IntKind.max, IntKind.signed, IntKind.bits] at h
  exact ⟨n.toNat, by omega, by omega⟩
end Go.Proofs.Ytigkfdoeneemeaa
/- Arguments that came in, opened by their types: bools, numbers, floats, strings, structs, slices of anything. -/
namespace Go.Proofs.Ytigkfdoeneemeaa
open Go.RowKit Go.ChangeShapes Go.WideShapes Go.ChangeAt

/-- Cells that are elements, one behind the other. -/
theorem chunks {α : Type} (f : α → List Value) (k : Nat) (P : α → Prop) (len : Nat) : ∀ (cells : List Value), cells.length = len * k → (∀ i, i < len → ∃ x, P x ∧ (cells.drop (i * k)).take k = f x) →
    ∃ l : List α, l.length = len ∧ cells = l.flatMap f ∧ ∀ x ∈ l, P x := by
  induction len with
  | zero => intro cells hl _; exact ⟨[], rfl, List.eq_nil_of_length_eq_zero (by omega), by simp⟩
  | succ n ih =>
    intro cells hl h
    obtain ⟨x, hx, h0⟩ := h 0 (by omega)
    obtain ⟨l, h1, h2, h3⟩ := ih (cells.drop k) (by rw [List.length_drop, hl, Nat.add_mul]; omega) (fun i hi => by
      obtain ⟨y, hy, e⟩ := h (i + 1) (by omega)
      refine ⟨y, hy, ?_⟩
      rw [List.drop_drop, ← e, Nat.add_mul, Nat.one_mul, Nat.add_comm k])
    refine ⟨x :: l, by simp [h1], ?_, ?_⟩
    · rw [List.flatMap_cons, ← h0, ← h2]; simp
    · intro y hy
      rcases List.mem_cons.1 hy with rfl | hy
      · exact hx
      · exact h3 y hy

section
variable {H : Type} {enc : TypeId × Value → H} {P : Program} {w : World} {t e : TypeId} {cs : List Value}

/-- These cells read as data of this type. -/
def Rds (enc : TypeId × Value → H) (P : Program) (w : World) (t : TypeId) (cs : List Value) : Prop := ∃ fuel x, DataW.trod enc P w 0 (fun _ => true) true fuel t cs = some x
theorem Rds.of {v : Value} {d : DataW H} {p : List MemPlace} (h : DataW.Trod enc P w 0 (fun _ => true) true t v d p) : Rds enc P w t v.cells.toList := by
  obtain ⟨f, h⟩ := h; exact ⟨f, _, h⟩
theorem rds_bool (ht : P.underlying t = some .bool) (h : Rds enc P w t cs) : ∃ b, cs = [.bool b] := by
  obtain ⟨f, x, h⟩ := h
  obtain ⟨b, h, _⟩ := DataW.trod_bool ht h
  exact ⟨b, h⟩
theorem rds_int {k : IntKind} (ht : P.underlying t = some (.int k)) (h : Rds enc P w t cs) : ∃ n, cs = [.int k n] ∧ (Lit.int k n).wf = true := by
  obtain ⟨f, x, h⟩ := h
  obtain ⟨n, h, _, hw⟩ := DataW.trod_int ht h
  exact ⟨n, h, hw⟩
theorem rds_float {k : FloatKind} (ht : P.underlying t = some (.float k)) (h : Rds enc P w t cs) : ∃ n, cs = [.float k n] ∧ (Lit.float k n).wf = true := by
  obtain ⟨f, x, h⟩ := h
  cases f with
  | zero => simp [DataW.trod] at h
  | succ n =>
    unfold DataW.trod at h
    rw [ht] at h
    split at h <;> simp_all
theorem rds_string (ht : P.underlying t = some .string) (h : Rds enc P w t cs) : ∃ s : ByteArray, cs = [.string s] ∧ s.size ≤ maxLen := by
  obtain ⟨f, x, h⟩ := h
  obtain ⟨s, h, _, hs⟩ := DataW.trod_string ht h
  exact ⟨s, h, hs⟩
theorem rds_struct {fs : Array Field} (ht : P.underlying t = some (.struct fs)) (h : Rds enc P w t cs) :
    cs.length = P.cellsOf t ∧ ∀ (i : Nat) (f : Field), fs[i]? = some f → Rds enc P w f.type ((cs.drop f.offset).take (P.cellsOf f.type)) := by
  obtain ⟨f, x, h⟩ := h
  obtain ⟨xs, n, _, _, hl, hx, hf⟩ := DataW.trod_struct ht h
  refine ⟨hl, fun i f hi => ?_⟩
  have hi' : i < xs.length := by rw [hx]; exact (Array.getElem?_eq_some_iff.1 hi).1
  exact ⟨n, xs[i], by rw [hf i f hi, List.getElem?_eq_getElem hi']⟩
theorem add_add (b o i j : Nat) : ((⟨b, o, none⟩ : Addr).add i).add j = ⟨b, o + (i + j), none⟩ := by
  have ea : ∀ o j, (⟨b, o, none⟩ : Addr).add j = ⟨b, o + j, none⟩ := fun o j => by unfold Addr.add; split <;> simp_all
  rw [ea, ea, Nat.add_assoc]
theorem rds_slice (ht : P.underlying t = some (.slice e)) (k : Nat) (hk : P.cellsOf e = k) (hk0 : 0 < k) (h : Rds enc P w t cs) :
    ∃ (a : Option Addr) (len cap : Nat) (cells : List Value), cs = [.slice a len cap] ∧ (a = none → cap = 0) ∧ len ≤ cap ∧ cap ≤ maxLen ∧ cells.length = len * k ∧ Arr w a cells ∧
      ∀ i, i < len → Rds enc P w e ((cells.drop (i * k)).take k) := by
  obtain ⟨f, x, h⟩ := h
  rcases DataW.trod_slice ht h with ⟨h, _⟩ | ⟨a, len, cap, elems, rest, n, _, h, _, _, hl, hc, he, hel, _⟩
  · exact ⟨none, 0, 0, [], h, fun _ => rfl, Nat.le_refl _, Nat.zero_le _, by simp, .inl rfl, fun i hi => by omega⟩
  · rw [hk] at hel
    by_cases h0 : len = 0
    · subst h0
      exact ⟨some a, 0, cap, [], h, (fun h => by cases h), hl, hc, by simp, .inl rfl, fun i hi => by omega⟩
    have cell : ∀ i, i < len → ∃ ci, w.cells? 0 (a.add (i * k)) k = some ci ∧ ∃ y, DataW.trod enc P w 0 (fun _ => true) true n e ci = some y := by
      intro i hi
      have := hel i hi
      rw [List.getElem?_eq_getElem (by omega)] at this
      obtain ⟨ci, h1, h2⟩ := Option.bind_eq_some_iff.1 this
      exact ⟨ci, h1, _, h2⟩
    obtain ⟨c0, hc0, _⟩ := cell 0 (by omega)
    obtain ⟨_, hcl, hcc⟩ := World.cells?_some hc0
    have hsp0 := hcc 0 hk0
    rw [List.getElem?_eq_getElem (by omega)] at hsp0
    obtain ⟨b, o, s⟩ := a
    have hs : s = none := by
      have := World.cell?_spot hsp0
      simpa [Addr.add] using this
    subst hs
    rw [add_add] at hsp0
    have cellat : ∀ i, i < len → ∀ r, r < k → ∃ v, w.cell? ⟨b, o + (i * k + r), none⟩ = some v := by
      intro i hi r hr
      obtain ⟨ci, h1, _⟩ := cell i hi
      obtain ⟨_, h2, h3⟩ := World.cells?_some h1
      have := h3 r hr
      rw [add_add, List.getElem?_eq_getElem (by omega)] at this
      exact ⟨_, this⟩
    let cells := (List.range (len * k)).map fun j => (w.cell? ⟨b, o + j, none⟩).getD undef
    have hlen : cells.length = len * k := by simp [cells]
    have hat : ∀ j, j < len * k → w.cell? ⟨b, o + j, none⟩ = cells[j]? := by
      intro j hj
      have hi : j / k < len := Nat.div_lt_of_lt_mul (by rw [Nat.mul_comm]; exact hj)
      obtain ⟨v, hv⟩ := cellat (j / k) hi (j % k) (Nat.mod_lt _ hk0)
      have e1 : j / k * k + j % k = j := Nat.div_add_mod' j k
      rw [e1] at hv
      simp [cells, hj, hv]
    refine ⟨some ⟨b, o, none⟩, len, cap, cells, h, (fun h => by cases h), hl, hc, hlen, .inr ⟨b, o, rfl, block_lt_of_cell hsp0, fun i hi => hat i (by omega)⟩, fun i hi => ?_⟩
    obtain ⟨ci, h1, y, hy⟩ := cell i hi
    obtain ⟨_, h2, h3⟩ := World.cells?_some h1
    refine ⟨n, y, ?_⟩
    have : (cells.drop (i * k)).take k = ci := by
      have hb : i * k + k ≤ len * k := by
        have := Nat.mul_le_mul_right k (show i + 1 ≤ len from hi)
        rw [Nat.add_mul, Nat.one_mul] at this; exact this
      apply List.ext_getElem?
      intro r
      by_cases hr : r < k
      · rw [List.getElem?_take, if_pos hr, List.getElem?_drop, ← hat (i * k + r) (by omega), ← h3 r hr, add_add]
      · rw [List.getElem?_eq_none (by simp; omega), List.getElem?_eq_none (by omega)]
    rw [this]; exact hy
end
end Go.Proofs.Ytigkfdoeneemeaa
/- Fractions handed in, opened. -/
namespace Go.Proofs.Ytigkfdoeneemeaa
open Go.RowKit Go.ChangeShapes Go.WideShapes Go.ChangeAt

theorem cellsU32 : Try.prog.cellsOf 135 = 1 := by kernel_rfl
theorem cellsWords : Try.prog.cellsOf 86 = 1 := by kernel_rfl
theorem cellsBool : Try.prog.cellsOf 4 = 1 := by kernel_rfl
theorem cellsRatio : Try.prog.cellsOf 88 = 3 := by kernel_rfl
theorem wf_u32' {n : Int} (h : (Lit.int .u32 n).wf = true) : ∃ m : Nat, n = (m : Int) ∧ m < 4294967296 := by
  simp [Lit.wf, IntKind.min, IntKind.max, IntKind.signed, IntKind.bits] at h
  exact ⟨n.toNat, by omega, by omega⟩
set_option maxRecDepth 100000 in
theorem rds_words {H : Type} {enc : TypeId × Value → H} {w : World} {cs : List Value} (h : Rds enc Try.prog w 86 cs) :
    ∃ (a : Option Addr) (l : List Nat) (cap : Nat), cs = [.slice a l.length cap] ∧ (a = none → l.length = 0 ∧ cap = 0) ∧ l.length ≤ cap ∧ cap ≤ maxLen ∧ Arr w a (u32s l) ∧ W.WF l := by
  obtain ⟨a, len, cap, cells, he, hn, hl, hc, hcl, harr, hel⟩ := rds_slice Try.underlying86 1 cellsU32 (by decide) h
  obtain ⟨l, h1, h2, h3⟩ := chunks (fun n : Nat => [Value.int .u32 n]) 1 (fun n => n < 4294967296) len cells hcl (fun i hi => by
    obtain ⟨n, hn, hw⟩ := rds_int Try.underlying135 (hel i hi)
    obtain ⟨m, rfl, hm⟩ := wf_u32' hw
    exact ⟨m, hm, hn⟩)
  have e : cells = u32s l := by rw [h2]; clear h1 h2 h3; induction l with
    | nil => rfl
    | cons x l ih => rw [List.flatMap_cons, ih]; rfl
  subst h1
  exact ⟨a, l, cap, he, fun h => ⟨by have := hn h; omega, hn h⟩, hl, hc, by rw [← e]; exact harr, h3⟩
set_option maxRecDepth 100000 in
theorem rds_ratio {H : Type} {enc : TypeId × Value → H} {w : World} {cs : List Value} (h : Rds enc Try.prog w 88 cs) : ∃ x : FL, FL.In w x ∧ cs = x.cells := by
  obtain ⟨hl, hf⟩ := rds_struct Try.underlying88 h
  have f0 := hf 0 _ rfl
  have f1 := hf 1 _ rfl
  have f2 := hf 2 _ rfl
  rw [cellsRatio] at hl
  match cs, hl with
  | [c0, c1, c2], _ =>
    simp [cellsBool, cellsWords] at f0 f1 f2
    obtain ⟨b, hb⟩ := rds_bool Try.underlying4 f0
    obtain ⟨a1, l1, k1, e1, n1, m1, q1, r1, w1⟩ := rds_words f1
    obtain ⟨a2, l2, k2, e2, n2, m2, q2, r2, w2⟩ := rds_words f2
    simp at hb e1 e2
    unfold maxLen at q1 q2
    exact ⟨⟨⟨b, l1, l2⟩, a1, k1, a2, k2⟩, ⟨r1, r2, m1, q1, m2, q2, n1, n2, w1, w2⟩, by rw [hb, e1, e2]; rfl⟩
set_option maxRecDepth 100000 in
theorem open_ratio {H : Type} {enc : TypeId × Value → H} {w : World} {r : Reach} {b0 : Nat} {v : Value} {d : DataW H} {p : List MemPlace} (hv : Value.okWide Try.prog w r b0 88 v)
    (h : DataW.Trod enc Try.prog w 0 (fun _ => true) true 88 v d p) : ∃ x : FL, v = frV x.r x.a x.c x.b x.d ∧ FL.In w x := by
  obtain ⟨cs, rfl, -⟩ := okWide_struct Try.underlying88 hv
  obtain ⟨x, hx, he⟩ := rds_ratio (Rds.of h)
  exact ⟨x, by obtain ⟨l⟩ := cs; simp only [Value.cells] at he; rw [he]; rfl, hx⟩
set_option maxRecDepth 100000 in
theorem open_ratios {H : Type} {enc : TypeId × Value → H} {w : World} {d : DataW H} {ps : List MemPlace} {a : Option Addr} {len cap : Nat}
    (h : DataW.Trod enc Try.prog w 0 (fun _ => true) true 97 (.slice a len cap) d ps) :
    ∃ l : List FL, l.length = len ∧ Arr w a (fls l) ∧ (∀ x ∈ l, FL.In w x) ∧ (a = none → cap = 0) ∧ len ≤ cap ∧ cap ≤ maxLen := by
  obtain ⟨a', len', cap', cells, he, hn, hl, hc, hcl, harr, hel⟩ := rds_slice Try.underlying97 3 cellsRatio (by decide) (Rds.of h)
  simp [Value.cells] at he
  obtain ⟨rfl, rfl, rfl⟩ := he
  obtain ⟨l, h1, h2, h3⟩ := chunks FL.cells 3 (FL.In w) len cells hcl (fun i hi => by
    obtain ⟨p, hp, e⟩ := rds_ratio (hel i hi)
    exact ⟨p, hp, e⟩)
  exact ⟨l, h1, by rw [fls, ← h2]; exact harr, h3, hn, hl, hc⟩
end Go.Proofs.Ytigkfdoeneemeaa
/- Heights in floats and their bounds, by their bits, handed in, opened. -/
namespace Go.Proofs.Ytigkfdoeneemeaa
open Go.RowKit Go.ChangeShapes Go.WideShapes Go.ChangeAt

theorem wf_i64 {n : Int} (h : (Lit.int .i64 n).wf = true) : -9223372036854775808 ≤ n ∧ n ≤ 9223372036854775807 := by
  simp [Lit.wf, IntKind.min, IntKind.max, IntKind.signed, IntKind.bits] at h
  omega
theorem cellsU64B : Try.prog.cellsOf 22 = 1 := by kernel_rfl
theorem cellsBare : Try.prog.cellsOf 149 = 2 := by kernel_rfl
set_option maxRecDepth 100000 in
theorem rds_bare {H : Type} {enc : TypeId × Value → H} {W : World} {cs : List Value} (h : Rds enc Try.prog W 149 cs) : ∃ p : Nat × Nat, True ∧ cs = bar p := by
  obtain ⟨hl, hf⟩ := rds_struct Try.underlying149 h
  have f0 := hf 0 _ rfl
  have f1 := hf 1 _ rfl
  rw [cellsBare] at hl
  match cs, hl with
  | [c0, c1], _ =>
    simp [cellsU64B] at f0 f1
    obtain ⟨x, hx, wx⟩ := rds_int Try.underlying22 f0
    obtain ⟨y, hy, wy⟩ := rds_int Try.underlying22 f1
    obtain ⟨n, rfl, -⟩ := wf_u64 wx
    obtain ⟨m, rfl, -⟩ := wf_u64 wy
    simp at hx hy
    exact ⟨(n, m), trivial, by rw [hx, hy]; rfl⟩
set_option maxRecDepth 100000 in
theorem open_bars {H : Type} {enc : TypeId × Value → H} {W : World} {d : DataW H} {ps : List MemPlace} {a : Option Addr} {len cap : Nat}
    (h : DataW.Trod enc Try.prog W 0 (fun _ => true) true 98 (.slice a len cap) d ps) :
    ∃ l : List (Nat × Nat), l.length = len ∧ Arr W a (bars l) ∧ (a = none → cap = 0) ∧ len ≤ cap ∧ cap ≤ maxLen := by
  obtain ⟨a', len', cap', cells, he, hn, hl, hc, hcl, harr, hel⟩ := rds_slice Try.underlying98 2 cellsBare (by decide) (Rds.of h)
  simp [Value.cells] at he
  obtain ⟨rfl, rfl, rfl⟩ := he
  obtain ⟨l, h1, h2, h3⟩ := chunks bar 2 (fun _ => True) len cells hcl (fun i hi => by
    obtain ⟨p, hp, e⟩ := rds_bare (hel i hi)
    exact ⟨p, hp, e⟩)
  exact ⟨l, h1, by rw [bars, ← h2]; exact harr, hn, hl, hc⟩
end Go.Proofs.Ytigkfdoeneemeaa
