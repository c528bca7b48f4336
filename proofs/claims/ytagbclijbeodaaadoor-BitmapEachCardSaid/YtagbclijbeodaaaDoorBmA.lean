/- Words and contracts on package bitmap: Len, right, Has, Put, Take. -/
import Derived.Test.YtagbclijbeodaaaDoorChecked
import Derived.Test.YtagbclijbeodaaaDoorWld
import Derived.WalkKit
import Derived.KernelRfl
import Derived.Deep.QuietTactic
import Derived.BigQuiet
import Derived.BigRegion
import Derived.Lib.Hide
namespace Go.Proofs.YtagbclijbeodaaaDoor
open Go.RowKit
set_option linter.unusedVariables false

theorem Tryd.infoU64 : (Tryd.prog.info? 44).map (fun i => (i.zero, i.size, i.bytes)) = some (some (.int .u64 0), 1, 8) := by kernel_rfl

def words (ws : List Nat) : List Value := ws.map fun x : Nat => Value.int .u64 (x : Int)

/-- A set's words, the head of it: block s holds the bound n and the slice v; v owns ws; the words' block is another one than s. -/
structure SetAt (w : World) (s n : Nat) (v : Value) (ws : List Nat) : Prop where
  head : w.heap[s]? = some (.cells #[.int .i64 (n : Int), v] 47 (0, 0))
  row : w.ownsRow 0 44 1 v ws.length (words ws)
  size : ws.length = (n + 63) / 64
  bound : n ≤ 65536
  low : ∀ x ∈ ws, x < 18446744073709551616
  other : v.ownBlock ≠ some s

theorem SetAt.n_cell {w : World} {s n : Nat} {v : Value} {ws : List Nat} (h : SetAt w s n v ws) : w.cell? ⟨s, 0, none⟩ = some (.int .i64 (n : Int)) := by rw [cell_of_row w s 0 _ _ _ h.head]; rfl
theorem SetAt.v_cell {w : World} {s n : Nat} {v : Value} {ws : List Nat} (h : SetAt w s n v ws) : w.cell? ⟨s, 1, none⟩ = some v := by rw [cell_of_row w s 1 _ _ _ h.head]; rfl

theorem SetAt.lt {w : World} {s n : Nat} {v : Value} {ws : List Nat} (h : SetAt w s n v ws) : s < w.heap.size := lt_of_heap h.head
theorem SetAt.own_lt {w : World} {s n : Nat} {v : Value} {ws : List Nat} (h : SetAt w s n v ws) {g : Nat} (hg : v.ownBlock = some g) : g < w.heap.size := (h.row.lt g hg).2

/-- A set stays where neither of its blocks is turned. -/
theorem SetAt.kept {M : Nat → Prop} {w w' : World} {s n : Nat} {v : Value} {ws : List Nat} (h : SetAt w s n v ws) (k : Kept M w w') (hs : ¬ M s) (hv : ∀ g, v.ownBlock = some g → ¬ M g) : SetAt w' s n v ws :=
  ⟨k.heap h.head hs, k.row h.row hv, h.size, h.bound, h.low, h.other⟩

theorem SetAt.drewN {w : World} {s n : Nat} {v : Value} {ws : List Nat} (h : SetAt w s n v ws) (k : Nat) : SetAt (w.drewN k) s n v ws := ⟨h.head, h.row, h.size, h.bound, h.low, h.other⟩
theorem SetAt.drew {w : World} {s n : Nat} {v : Value} {ws : List Nat} (h : SetAt w s n v ws) : SetAt w.drew s n v ws := ⟨h.head, h.row, h.size, h.bound, h.low, h.other⟩

theorem SetAt.made {w : World} {n : Nat} {v : Value} {ws : List Nat} (hr : w.ownsRow 0 44 1 v ws.length (words ws)) (hs : ws.length = (n + 63) / 64) (hb : n ≤ 65536) (hl : ∀ x ∈ ws, x < 18446744073709551616) :
    SetAt (w.alloc (.cells #[.int .i64 (n : Int), v] 47 (0, 0))) w.heap.size n v ws :=
  ⟨heap_alloc_new w _, hr.alloc _, hs, hb, hl, fun e => by have := (hr.lt _ e).2; omega⟩

theorem len_any (s n : Nat) (v : Value) (ws : List Nat) (w : World) (h : SetAt w s n v ws) :
    Calls Tryd.prog 16 #[.pointer (some ⟨s, 0, none⟩)] w fun e w' => e = .returned (.int .i64 (n : Int)) ∧ w = w' := by
  have hc := h.n_cell
  clear h
  go_enter Tryd.func16, Tryd.ntmps16
  go_wp2
  go_ret
  exact ⟨rfl, rfl⟩

theorem right_ok (s n : Nat) (v : Value) (ws : List Nat) (w : World) (i : Int) (h : SetAt w s n v ws) (h0 : 0 ≤ i) (h1 : i < n) :
    Calls Tryd.prog 22 #[.pointer (some ⟨s, 0, none⟩), .int .i64 i] w fun e w' => e = .returned (.int .i64 0) ∧ w = w' := by
  have hc := h.n_cell
  have hd : decide (i < 0) = false := by simp; omega
  have hd1 : decide ((n : Int) ≤ i) = false := by simp; omega
  clear h
  go_enter Tryd.func22, Tryd.ntmps22
  go_wp2
  go_ret
  exact ⟨rfl, rfl⟩

theorem right_low (s : Nat) (w : World) (i : Int) (h0 : i < 0) :
    Calls Tryd.prog 22 #[.pointer (some ⟨s, 0, none⟩), .int .i64 i] w fun e w' => e = .returned (.int .i64 1) ∧ w = w' := by
  have hd : decide (i < 0) = true := by simp; omega
  go_enter Tryd.func22, Tryd.ntmps22
  go_wp2
  go_ret
  exact ⟨rfl, rfl⟩

theorem right_high (s n : Nat) (v : Value) (ws : List Nat) (w : World) (i : Int) (h : SetAt w s n v ws) (h1 : (n : Int) ≤ i) :
    Calls Tryd.prog 22 #[.pointer (some ⟨s, 0, none⟩), .int .i64 i] w fun e w' => e = .returned (.int .i64 1) ∧ w = w' := by
  have hc := h.n_cell
  have hd : decide (i < 0) = false := by simp; omega
  have hd1 : decide ((n : Int) ≤ i) = true := by simp; omega
  clear h
  go_enter Tryd.func22, Tryd.ntmps22
  go_wp2
  go_ret
  exact ⟨rfl, rfl⟩

theorem right_nil (w : World) (i : Int) :
    Calls Tryd.prog 22 #[.pointer none, .int .i64 i] w fun e w' => e = .returned (.int .i64 2) ∧ w = w' := by
  go_enter Tryd.func22, Tryd.ntmps22
  go_wp2
  go_ret
  exact ⟨rfl, rfl⟩

end Go.Proofs.YtagbclijbeodaaaDoor
