/- Two lists of the call's own that grow side by side. -/
import Derived.Test.YtigkfdoeneemeaaWat3
import Derived.Test.YtigkfdoeneemeaaFeed
namespace Go.Proofs.Ytigkfdoeneemeaa
open Go.RowKit

theorem _root_.Go.KeptO.cell {O : Nat → Prop} {a b : World} (h : KeptO O a b) {p : Addr} (hp : p.block < a.heap.size) (ho : ¬ O p.block) : b.cell? p = a.cell? p := World.cell?_of_block (h.block _ hp ho)
theorem _root_.Go.Arr.lit_at2 (w : World) (cs : Array Value) (t : TypeId) (fr : Nat × Nat) (o : Obj) {k : Nat} (h : k = w.heap.size) : Arr ((w.alloc (.cells cs t fr)).alloc o) (some ⟨k, 0, none⟩) cs.toList := (Arr.lit_at w cs t fr h).blw ((Blw.refl _).alloc _)
structure Two (B : Nat) (w : World) (T size : Nat) (v1 : Value) (n1 : Nat) (c1 : List Value) (v2 : Value) (n2 : Nat) (c2 : List Value) : Prop where
  o1 : w.ownsRow B T size v1 n1 c1
  o2 : w.ownsRow B T size v2 n2 c2
  ap : ∀ i, v1.ownBlock = some i → v2.ownBlock ≠ some i
section
variable {B T size n1 n2 m : Nat} {w w' : World} {v1 v2 v' : Value} {c1 c2 new : List Value}
theorem Two.blw (h : Two B w T size v1 n1 c1 v2 n2 c2) (k : Blw w w') : Two B w' T size v1 n1 c1 v2 n2 c2 := ⟨ownsRow_blw h.o1 k, ownsRow_blw h.o2 k, h.ap⟩
theorem Two.nil (w : World) : Two B w T size (.slice none 0 0) 0 [] (.slice none 0 0) 0 [] := ⟨World.ownsRow_nil _ _ _ _, World.ownsRow_nil _ _ _ _, fun i h => by cases h⟩
theorem Two.app1 (h : Two B w T size v1 n1 c1 v2 n2 c2) (hown : w'.ownsRow B T size v' (n1 + m) (c1 ++ new)) (hg : w.grownBy w' v1.ownBlock) (ht : v'.ownBlock = v1.ownBlock ∨ v'.ownBlock = some w.heap.size) :
    Two B w' T size v' (n1 + m) (c1 ++ new) v2 n2 c2 :=
  ⟨hown, own_past h.o2 (Blw.refl w) hg (fun i hi e => h.ap i e hi), fun i hi hj => by
    rcases ht with t | t
    · exact h.ap i (t.symm.trans hi) hj
    · have := (World.ownsRow.lt h.o2 i hj).2
      rw [t] at hi; injection hi with hi; omega⟩
theorem Two.app2 (h : Two B w T size v1 n1 c1 v2 n2 c2) (hown : w'.ownsRow B T size v' (n2 + m) (c2 ++ new)) (hg : w.grownBy w' v2.ownBlock) (ht : v'.ownBlock = v2.ownBlock ∨ v'.ownBlock = some w.heap.size) :
    Two B w' T size v1 n1 c1 v' (n2 + m) (c2 ++ new) :=
  ⟨own_past h.o1 (Blw.refl w) hg (fun i hi e => h.ap i hi e), hown, fun i hi hj => by
    rcases ht with t | t
    · exact h.ap i hi (t.symm.trans hj)
    · have := (World.ownsRow.lt h.o1 i hi).2
      rw [t] at hj; injection hj with hj; omega⟩
end
theorem OwnFL.kept {B n1 n2 s1 s2 : Nat} {e1 e2 : TypeId} {w w' : World} {v1 v2 : Value} {c1 c2 : List Value} {x : FL} (h : OwnFL B w x) (k1 : w.ownsRow B e1 s1 v1 n1 c1) (k2 : w.ownsRow B e2 s2 v2 n2 c2) (ne1 : (135 : TypeId) ≠ e1) (ne2 : (135 : TypeId) ≠ e2)
    (hK : KeptO (fun j => v1.ownBlock = some j ∨ v2.ownBlock = some j) w w') : OwnFL B w' x :=
  ⟨hK.own h.1 (fun i hi e => by rcases e with e | e; exact own_types h.1 k1 ne1 i hi e; exact own_types h.1 k2 ne2 i hi e), hK.own h.2.1 (fun i hi e => by rcases e with e | e; exact own_types h.2.1 k1 ne1 i hi e; exact own_types h.2.1 k2 ne2 i hi e), h.2.2.1, h.2.2.2⟩
theorem fls_snoc (l : List FL) (x : FL) : fls (l ++ [x]) = fls l ++ [.bool x.r.neg, .slice x.a x.r.num.length x.c, .slice x.b x.r.den.length x.d] := by rw [fls, List.flatMap_append]; rfl
end Go.Proofs.Ytigkfdoeneemeaa
