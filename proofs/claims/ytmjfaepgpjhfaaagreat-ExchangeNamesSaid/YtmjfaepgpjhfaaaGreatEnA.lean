/- Contracts: the methods of no asker and of no desk. -/
import Derived.Test.YtmjfaepgpjhfaaaGreatWld
import Derived.Test.YtmjfaepgpjhfaaaGreatChecked
import Derived.Laws.ResultCell
import Derived.Laws.Rows
namespace Go.Proofs.YtmjfaepgpjhfaaaGreat
open Go.RowKit
set_option linter.unusedVariables false
set_option maxRecDepth 100000

theorem stop_nil (w : World) : Calls Tryz.prog 4 #[.pointer none] w fun e w' => e = .returned (.tuple #[]) ∧ w = w' := by
  go_enter Tryz.func4, Tryz.ntmps4
  go_wp2
  go_end0
  exact ⟨rfl, rfl⟩
theorem over_nil (w : World) : Calls Tryz.prog 10 #[.pointer none] w fun e w' => e = .returned (.bool false) ∧ w = w' := by
  go_enter Tryz.func10, Tryz.ntmps10
  go_wp2
  go_ret
  exact ⟨rfl, rfl⟩
theorem tick_nil (w : World) : Calls Tryz.prog 9 #[.pointer none] w fun e w' => e = .returned (.slice none 0 0) ∧ w = w' := by
  go_enter Tryz.func9, Tryz.ntmps9
  go_wp2
  go_ret
  exact ⟨rfl, rfl⟩
theorem newdesk_nil (n l k : Int) (w : World) : Calls Tryz.prog 7 #[.int .u8 n, .int .u16 l, .int .i64 k, .nilIface] w fun e w' => e = .returned (.tuple #[.pointer none, .int .i64 2]) ∧ w = w' := by
  go_enter Tryz.func7, Tryz.ntmps7
  go_wp2
  go_ret2
  exact ⟨rfl, rfl⟩
def frameOf (a b c : Int) : Value := .agg #[.int .u8 a, .int .u8 b, .int .u8 0, .int .u16 0, .int .u32 0, .int .u64 0, .int .u32 c, .bool false, .string ByteArray.empty]
def noReport : Array Value := #[.int .u8 0, .int .u16 0, .int .u32 0, .int .u8 0, .int .i64 0, .int .i64 0, .slice none 0 0, .slice none 0 0, .int .i64 0, .int .i64 0]

theorem results_one {P : Program} {fn : Func} {p : Tmp} {ty : TypeId} (h : fn.results = #[.cell p ty]) (tmps : Array Value) (w : World) (g : Nat) (t : TypeId) (cs : Array Value) (fr : Nat × Nat) (d : TypeDesc)
    (hp : tmps.getD p undef = .pointer (some ⟨g, 0, none⟩)) (hg : w.heap[g]? = some (.cells cs t fr))
    (hu : P.underlying ty = some d) (hd : (match d with | .struct _ | .array _ _ => true | _ => false) = true) (hi : (P.info? ty).map (·.size) = some cs.size) :
    (results fn tmps).run P w = .ok (.agg cs) w := results_cell_row h tmps w g t cs fr d hp hg hu hd hi
theorem results_pair {P : Program} {fn : Func} {p u : Tmp} {ty : TypeId} (h : fn.results = #[.cell p ty, .tmp u]) (tmps : Array Value) (w : World) (g : Nat) (t : TypeId) (cs : Array Value) (fr : Nat × Nat) (d : TypeDesc)
    (hp : tmps.getD p undef = .pointer (some ⟨g, 0, none⟩)) (hg : w.heap[g]? = some (.cells cs t fr))
    (hu : P.underlying ty = some d) (hd : (match d with | .struct _ | .array _ _ => true | _ => false) = true) (hi : (P.info? ty).map (·.size) = some cs.size) :
    (results fn tmps).run P w = .ok (.tuple #[.agg cs, tmps.getD u undef]) w := by
  rw [results_cell_tmp h, hp]
  simp [asAddr, Result.andThen, run_loadVar_row w g t ty cs fr d hg hu hd hi]

/-- A store of what lies there. -/
theorem heap_same {w : World} {g : Nat} {cs : Array Value} {t : TypeId} {fr : Nat × Nat} (h : w.heap[g]? = some (.cells cs t fr)) (o : Nat) (v : Value) (hv : cs.setIfInBounds o v = cs) : (w.setCell ⟨g, o, none⟩ v).heap[g]? = some (.cells cs t fr) := by
  show (w.heap.modify g _)[g]? = _
  rw [Array.getElem?_modify]
  simp [h, hv]

theorem report_nil (w : World) : Calls Tryz.prog 5 #[.pointer none] w fun e w' => e = .returned (.agg noReport) ∧ Kept No w w' := by
  go_enter Tryz.func5, Tryz.ntmps5
  go_wp2
  refine bodyPost_ret (results_one rfl _ _ _ _ _ _ _ rfl (heap_alloc_new w _) Tryz.underlying32 rfl (by kernel_rfl)) rfl ?_
  exact ⟨rfl, (Kept.refl _ _).alloc _⟩
theorem open_nil (w : World) : Calls Tryz.prog 12 #[.pointer none] w fun e w' => e = .returned (.int .i64 0) ∧ w = w' := by
  go_enter Tryz.func12, Tryz.ntmps12
  go_wp2
  go_ret
  exact ⟨rfl, rfl⟩
theorem take_nil (a b c : Int) (w : World) : Calls Tryz.prog 8 #[.pointer none, frameOf a b c] w fun e w' => e = .returned (.slice none 0 0) ∧ Kept No w w' := by
  unfold frameOf
  go_enter Tryz.func8, Tryz.ntmps8
  go_wp2
  go_ret
  exact ⟨rfl, (Kept.refl _ _).alloc _⟩
theorem dtake_nil (a b c : Int) (w : World) : Calls Tryz.prog 6 #[.pointer none, frameOf a b c] w fun e w' => e = .returned (.tuple #[frameOf 0 0 0, .bool false]) ∧ Kept No w w' := by
  unfold frameOf
  go_enter Tryz.func6, Tryz.ntmps6
  go_wp2_with fail
  go_quiet (fail)
  go_wp2
  have base : (((w.alloc (.cells #[.int .u8 a, .int .u8 b, .int .u8 0, .int .u16 0, .int .u32 0, .int .u64 0, .int .u32 c, .bool false, .string ByteArray.empty] 36)).alloc (.cells #[.int .u8 0, .int .u8 0, .int .u8 0, .int .u16 0, .int .u32 0, .int .u64 0, .int .u32 0, .bool false, .string ByteArray.empty] 36)).drewN nq).heap[w.heap.size + 1]? = some (.cells #[.int .u8 0, .int .u8 0, .int .u8 0, .int .u16 0, .int .u32 0, .int .u64 0, .int .u32 0, .bool false, .string ByteArray.empty] 36) := heap_alloc2_new w _ _
  have k0 : Kept No w (((w.alloc (.cells #[.int .u8 a, .int .u8 b, .int .u8 0, .int .u16 0, .int .u32 0, .int .u64 0, .int .u32 c, .bool false, .string ByteArray.empty] 36)).alloc (.cells #[.int .u8 0, .int .u8 0, .int .u8 0, .int .u16 0, .int .u32 0, .int .u64 0, .int .u32 0, .bool false, .string ByteArray.empty] 36)).drewN nq) := (((Kept.refl _ _).alloc _).alloc _).drewN _
  have e0 : (Value.string { data := #[] }) = .string ByteArray.empty := rfl
  rw [e0]
  generalize ((w.alloc (.cells #[.int .u8 a, .int .u8 b, .int .u8 0, .int .u16 0, .int .u32 0, .int .u64 0, .int .u32 c, .bool false, .string ByteArray.empty] 36)).alloc (.cells #[.int .u8 0, .int .u8 0, .int .u8 0, .int .u16 0, .int .u32 0, .int .u64 0, .int .u32 0, .bool false, .string ByteArray.empty] 36)).drewN nq = W0 at base k0 ⊢
  replace base := heap_same base 0 (.int .u8 0) rfl
  replace k0 := k0.setCell ⟨w.heap.size + 1, 0, none⟩ (.int .u8 0) (fun h => absurd h (by simp))
  replace base := heap_same base 1 (.int .u8 0) rfl
  replace k0 := k0.setCell ⟨w.heap.size + 1, 1, none⟩ (.int .u8 0) (fun h => absurd h (by simp))
  replace base := heap_same base 2 (.int .u8 0) rfl
  replace k0 := k0.setCell ⟨w.heap.size + 1, 2, none⟩ (.int .u8 0) (fun h => absurd h (by simp))
  replace base := heap_same base 3 (.int .u16 0) rfl
  replace k0 := k0.setCell ⟨w.heap.size + 1, 3, none⟩ (.int .u16 0) (fun h => absurd h (by simp))
  replace base := heap_same base 4 (.int .u32 0) rfl
  replace k0 := k0.setCell ⟨w.heap.size + 1, 4, none⟩ (.int .u32 0) (fun h => absurd h (by simp))
  replace base := heap_same base 5 (.int .u64 0) rfl
  replace k0 := k0.setCell ⟨w.heap.size + 1, 5, none⟩ (.int .u64 0) (fun h => absurd h (by simp))
  replace base := heap_same base 6 (.int .u32 0) rfl
  replace k0 := k0.setCell ⟨w.heap.size + 1, 6, none⟩ (.int .u32 0) (fun h => absurd h (by simp))
  replace base := heap_same base 7 (.bool false) rfl
  replace k0 := k0.setCell ⟨w.heap.size + 1, 7, none⟩ (.bool false) (fun h => absurd h (by simp))
  replace base := heap_same base 8 (.string ByteArray.empty) rfl
  replace k0 := k0.setCell ⟨w.heap.size + 1, 8, none⟩ (.string ByteArray.empty) (fun h => absurd h (by simp))
  refine bodyPost_ret (results_pair rfl _ _ _ _ _ _ _ rfl base Tryz.underlying36 rfl (by kernel_rfl)) rfl ?_
  exact ⟨rfl, k0⟩
end Go.Proofs.YtmjfaepgpjhfaaaGreat
