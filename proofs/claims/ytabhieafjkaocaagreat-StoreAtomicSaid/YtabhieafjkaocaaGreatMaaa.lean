/- A part. -/
import Derived.WalkKit
import Derived.KernelRfl
import Derived.Deep.QuietTactic
import Derived.BigQuiet
import Derived.Lib.Hide
set_option linter.unusedVariables false
set_option linter.unusedSimpArgs false
namespace Go.Proofs.YtabhieafjkaocaaGreat
open Go.RowKit
structure Kept (M : Nat → Prop) (w w' : World) : Prop where
  os : w'.os = w.os
  tape : w'.tape = w.tape
  output : w'.output = w.output
  size : w.heap.size ≤ w'.heap.size
  block : ∀ k, k < w.heap.size → ¬ M k → w'.heap[k]? = w.heap[k]?
abbrev No : Nat → Prop := fun _ => False
namespace Kept
variable {M N : Nat → Prop} {a b c w w' : World}
theorem refl (M : Nat → Prop) (w : World) : Kept M w w := ⟨rfl, rfl, rfl, Nat.le_refl _, fun _ _ _ => rfl⟩
theorem trans (h : Kept M a b) (k : Kept M b c) : Kept M a c :=
  ⟨k.os.trans h.os, k.tape.trans h.tape, k.output.trans h.output, Nat.le_trans h.size k.size, fun i hi hn => (k.block i (Nat.lt_of_lt_of_le hi h.size) hn).trans (h.block i hi hn)⟩
theorem mono (h : Kept M a b) (hm : ∀ k, k < a.heap.size → M k → N k) : Kept N a b := ⟨h.os, h.tape, h.output, h.size, fun k hk hn => h.block k hk (fun m => hn (hm k hk m))⟩
theorem next (h : Kept M a b) (k : Kept N b c) (hm : ∀ k, k < a.heap.size → N k → M k) : Kept M a c :=
  ⟨k.os.trans h.os, k.tape.trans h.tape, k.output.trans h.output, Nat.le_trans h.size k.size, fun i hi hn => (k.block i (Nat.lt_of_lt_of_le hi h.size) (fun m => hn (hm i hi m))).trans (h.block i hi hn)⟩
theorem of_no (h : Kept No a b) (M : Nat → Prop) : Kept M a b := h.mono fun _ _ m => m.elim
theorem drew (h : Kept M a b) : Kept M a b.drew := ⟨h.os, h.tape, h.output, h.size, h.block⟩
theorem alloc (h : Kept M a b) (o : Obj) : Kept M a (b.alloc o) := h.trans ⟨rfl, rfl, rfl, by simp, fun k hk _ => Below.heap_alloc b o k hk⟩
theorem setCell (h : Kept M a b) (p : Addr) (v : Value) (hp : p.block < a.heap.size → M p.block) : Kept M a (b.setCell p v) :=
  h.next (N := fun k => k = p.block) ⟨rfl, rfl, rfl, by simp [World.setCell], fun k _ hn => Below.heap_setCell b p v k hn⟩ (fun k hk e => by subst e; exact hp hk)
theorem of_grown {r : Option Nat} (h : w.grownBy w' r) : Kept (fun k => r = some k) w w' := ⟨h.os, h.tape, h.output, h.size, fun k hk hn => h.block k hk (fun e => hn e.symm)⟩
theorem of_grown_none (h : w.grownBy w' none) : Kept No w w' := ⟨h.os, h.tape, h.output, h.size, fun k hk _ => h.block k hk (by simp)⟩
theorem below (h : Kept M w w') {B : Nat} (hB : B ≤ w.heap.size) (hm : ∀ k, k < B → ¬ M k) : Below B w w' := ⟨h.os, h.tape, h.output, h.size, fun k hk => h.block k (Nat.lt_of_lt_of_le hk hB) (hm k hk)⟩
theorem heap (h : Kept M w w') {k : Nat} {o : Obj} (ho : w.heap[k]? = some o) (hm : ¬ M k) : w'.heap[k]? = some o := by
  rw [h.block k (Array.getElem?_eq_some_iff.1 ho).1 hm]; exact ho
theorem row (h : Kept M w w') {base : Nat} {e : TypeId} {z : Nat} {v : Value} {n : Nat} {xs : List Value} (ho : w.ownsRow base e z v n xs) (hm : ∀ g, v.ownBlock = some g → ¬ M g) : w'.ownsRow base e z v n xs := by
  refine ⟨ho.1, ?_⟩
  rcases ho.2 with hn | ⟨g, cap, cur, rfl, hb, hg, rest⟩
  · exact .inl hn
  · exact .inr ⟨g, cap, cur, rfl, hb, h.heap hg (hm g rfl), rest⟩
end Kept
theorem flip {P : Program} {f : FuncId} {args : Array Value} {w : World} {v : Value} (h : Calls P f args w fun e w' => e = .returned v ∧ w = w') : Calls P f args w fun e w' => e = .returned v ∧ w' = w :=
  h.mono fun _ _ ⟨h1, h2⟩ => ⟨h1, h2.symm⟩
theorem quiet {P : Program} {f : FuncId} {args : Array Value} {w : World} {n : Nat} {v : Value} (h : Calls P f args (w.drewN n) fun e w' => e = .returned v ∧ w.drewN n = w') :
    Calls P f args (w.drewN n) fun e w'' => e = .returned v ∧ ∃ m, w'' = w.drewN m := Calls.quiet_of_same (flip h)
theorem Kept.drewN {M : Nat → Prop} {a b : World} (h : Kept M a b) (n : Nat) : Kept M a (b.drewN n) := ⟨h.os, h.tape, h.output, h.size, h.block⟩
theorem lt_of_heap {w : World} {k : Nat} {o : Obj} (h : w.heap[k]? = some o) : k < w.heap.size := (Array.getElem?_eq_some_iff.1 h).1
end Go.Proofs.YtabhieafjkaocaaGreat
