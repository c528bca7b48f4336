/- A frame equals itself. -/
import Derived.Test.YtpkadglempbjiaaGreatEmE
namespace Go.Proofs.YtpkadglempbjiaaGreat
open Go.RowKit Go.Lib
set_option linter.unusedVariables false
set_option linter.unusedSimpArgs false
set_option maxRecDepth 100000

theorem frame_self (i0 i1 i2 f t q : Int) (b : ByteArray) (w : World) : (Op.equalIn 10000 38 (.agg (frameRow i0 i1 i2 f t q b)) (.agg (frameRow i0 i1 i2 f t q b))).run Tryz.prog w = .ok true w := by
  have hS : Tryz.prog.underlying 38 = some (.struct (Tryz.prog.fieldsOf 38)) := by kernel_rfl
  have hp : Tryz.prog.stoodInHeld 38 = false := by kernel_rfl
  unfold frameRow
  rw [show (10000 : Nat) = 9999 + 1 from rfl, run_equalIn_agg w 9999 38 _ _ hS hp]
  simp only [Program.fieldsOf, Tryz.underlying38]
  go_simp

theorem frame_neq (i0 i1 i2 f t q : Int) (b : ByteArray) (w : World) : (binOp .neq 38 (.agg (frameRow i0 i1 i2 f t q b)) (.agg (frameRow i0 i1 i2 f t q b))).run Tryz.prog w = .ok (.bool false) w := by
  rw [run_neq_struct, frame_self]
  rfl

/-- The rows that Start gives: nine cells, each of one cell, the row equal to itself. -/
theorem stRow_facts (i0 i1 i2 f t tw wait tries : Int) (n : Nat) (no : Bool) :
    ∃ a0 a1 a2 a3 a4 a5 b, stRow i0 i1 i2 f t tw wait tries n no = frameRow a0 a1 a2 a3 a4 a5 b := by
  unfold stRow
  split
  · exact ⟨_, _, _, _, _, _, _, rfl⟩
  · exact ⟨_, _, _, _, _, _, _, rfl⟩

/-- A pointer of Start's (NewDesk's), held against nil. -/
theorem xptr_nil (q : Option Addr) (c : Int) (h : q = none ↔ c ≠ 0) (w : World) : (binOp .eql 47 (.pointer q) (.pointer none)).run Tryz.prog w = .ok (.bool (c != 0)) w := by
  cases q with
  | none =>
    have hc : (c != 0) = true := by simpa using h.1 rfl
    rw [hc]
    go_simp
  | some a =>
    have hc : (c != 0) = false := by
      have : ¬ c ≠ 0 := fun x => by have := h.2 x; cases this
      simpa using this
    rw [hc]
    go_simp
theorem dptr_nil (q : Option Addr) (c : Int) (h : q = none ↔ c ≠ 0) (w : World) : (binOp .eql 56 (.pointer q) (.pointer none)).run Tryz.prog w = .ok (.bool (c != 0)) w := by
  cases q with
  | none =>
    have hc : (c != 0) = true := by simpa using h.1 rfl
    rw [hc]
    go_simp
  | some a =>
    have hc : (c != 0) = false := by
      have : ¬ c ≠ 0 := fun x => by have := h.2 x; cases this
      simpa using this
    rw [hc]
    go_simp

/-- A whole row loaded under a guard that holds. -/
theorem wpList_load_want {P : Program} {ops : Array Oper} {rest : List Oper} {o : Oper} {a : Act} {w : World} {Q : Exit → Act → World → Prop} (hw : Region.wanted o (yielded ops a.tmps) = true) (ty : TypeId) (x : Operand) (ho : o.op = .load ty x)
    (g : Nat) (hx : a.eval x = .pointer (some ⟨g, 0, none⟩)) (t : TypeId) (cs : Array Value) (fr : Nat × Nat) (d : TypeDesc) (hg : w.heap[g]? = some (.cells cs t fr))
    (hu : P.underlying ty = some d) (hd : (match d with | .struct _ | .array _ _ => true | _ => false) = true) (hi : (P.info? ty).map (·.size) = some cs.size)
    (h : wpList P ops Q rest (a.put o.dst (.agg cs)) w) : wpList P ops Q (o :: rest) a w :=
  BigFrame.wpList_want hw fun _ hK => wp_load_row ty x ho g hx t cs fr d hg hu hd hi (hK _ _ h)

theorem em_boxes (w : World) (a b : Obj) : Kept No w ((w.alloc a).alloc b) ∧ ((w.alloc a).alloc b).heap[w.heap.size]? = some a ∧ ((w.alloc a).alloc b).heap[w.heap.size + 1]? = some b := by
  refine ⟨((Kept.refl _ _).alloc _).alloc _, ?_, ?_⟩
  · exact ((Kept.refl No _).alloc b).heap (heap_alloc_new w a) (fun h => h)
  · have := heap_alloc_new (w.alloc a) b
    simpa using this
end Go.Proofs.YtpkadglempbjiaaGreat
