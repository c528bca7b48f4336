/- Sets that are apart. -/
import Derived.Test.YtagbclijbeodaaaBmP
import Derived.Test.YtagbclijbeodaaaBmF
import Derived.Test.YtagbclijbeodaaaBmI
import Derived.Test.YtagbclijbeodaaaBmK
import Derived.Test.YtagbclijbeodaaaBmN
namespace Go.Proofs.Ytagbclijbeodaaa
open Go.RowKit
set_option linter.unusedVariables false

/-- Two sets have no block in common. -/
structure Far (s : Nat) (v : Value) (s' : Nat) (v' : Value) : Prop where
  heads : s ≠ s'
  left : v.ownBlock ≠ some s'
  right : v'.ownBlock ≠ some s
  rows : ∀ g, v.ownBlock = some g → v'.ownBlock ≠ some g

theorem Far.symm {s : Nat} {v : Value} {s' : Nat} {v' : Value} (h : Far s v s' v') : Far s' v' s v := ⟨fun e => h.heads e.symm, h.right, h.left, fun g h1 h2 => h.rows g h2 h1⟩

theorem far_made {w w' : World} {s n s' n' : Nat} {v v' : Value} {ws ws' : List Nat} {B : Nat} (h : SetAt w s n v ws) (hB : w.heap.size ≤ B) (h' : MadeSet B w' s' n' v' ws') : Far s v s' v' := by
  have h1 := h.lt
  refine ⟨by have := h'.2.1; omega, fun e => ?_, fun e => ?_, fun g e1 e2 => ?_⟩
  · have := h.own_lt e; have := h'.2.1; omega
  · have := h'.2.2 _ e; omega
  · have := h.own_lt e1; have := h'.2.2 _ e2; omega

theorem SetAt.far {w w' : World} {s n s' : Nat} {v v' : Value} {ws : List Nat} (h : SetAt w s n v ws) (k : Kept (fun j => v'.ownBlock = some j) w w') (f : Far s v s' v') : SetAt w' s n v ws :=
  h.kept k f.right (fun g h1 h2 => f.rows g h1 h2)

theorem SetAt.no {w w' : World} {s n : Nat} {v : Value} {ws : List Nat} (h : SetAt w s n v ws) (k : Kept No w w') : SetAt w' s n v ws := h.kept k (fun x => x) (fun _ _ x => x)

theorem Kept.own {B : Nat} {w a b : World} {v : Value} (h : Kept No w a) (k : Kept (fun j => v.ownBlock = some j) a b) (hB : w.heap.size ≤ B) (hv : ∀ g, v.ownBlock = some g → B ≤ g) : Kept No w b :=
  h.next k fun j hj e => by have := hv j e; omega

theorem mem_take_self (ws : List Nat) (x : Nat) (h : x / 64 < ws.length) : (((takeW ws x).getD (x / 64) 0).testBit (x % 64)) = false := by
  have := mem_takeW ws x x h
  unfold mem at this
  rw [this]; simp
theorem mem_put_self (ws : List Nat) (x : Nat) (h : x / 64 < ws.length) : (((putW ws x).getD (x / 64) 0).testBit (x % 64)) = true := by
  have := mem_putW ws x x h
  unfold mem at this
  rw [this]; simp

theorem cnt_zero (k : Nat) : cnt (List.replicate k 0) = 0 := by
  induction k with
  | zero => rfl
  | succ k ih => rw [List.replicate_succ]; unfold cnt at *; simp only [List.map_cons, List.sum_cons, ih]; decide

end Go.Proofs.Ytagbclijbeodaaa
