/- A tree of no entries: tree.Build of nothing. -/
import Derived.Test.YtpkadglempbjiaaGreatWrC
import Derived.Laws.ResultCell
import Derived.Laws.Rows
namespace Go.Proofs.YtpkadglempbjiaaGreat
open Go.RowKit Go.Lib
set_option linter.unusedVariables false
set_option maxRecDepth 100000

/-- A tree's cells, of no entries. -/
def treeCells (n : Int) : List Value := .int .i64 n :: .int .i64 0 :: (List.replicate 4369 (.string ByteArray.empty) ++ List.replicate 4096 (.slice none 0 0))
def treeRow (n : Int) : Array Value := ⟨treeCells n⟩

theorem tree_build (n : Int) (w : World) : (Instr.build 80 #[(0, .int .i64 n), (1, .int .i64 0)]).run Tryz.prog w = .ok (.agg (treeRow n)) w := by kernel_rfl

theorem wlen_ok (B p : Nat) (v : Value) (l : List UInt8) (w : World) (h : WrAt B w p v l) :
    Calls Tryz.prog 71 #[.pointer (some ⟨p, 0, none⟩)] w fun e w' => e = .returned (.int .i64 (l.length : Int)) ∧ w = w' := by
  have hc := h.head.cell
  obtain ⟨a, cap, rfl⟩ := row_slice h.row
  have H := Lib.hid h
  clear h
  go_enter Tryz.func71, Tryz.ntmps71
  go_wp2
  go_ret
  exact ⟨rfl, rfl⟩

theorem wide_ok (n : Int) (h1 : 1 ≤ n) (h2 : n ≤ 32) (w : World) : Calls Tryz.prog 30 #[.int .i64 n] w fun e w' => e = .returned (.bool true) ∧ w = w' := by
  go_enter Tryz.func30, Tryz.ntmps30
  go_wp2
  go_ret
  exact ⟨rfl, rfl⟩

theorem valid_none (n : Int) (h1 : 1 ≤ n) (h2 : n ≤ 32) (w : World) : Calls Tryz.prog 14 #[.slice none 0 0, .int .i64 n] w fun e w' => e = .returned (.bool true) ∧ w = w' := by
  go_enter Tryz.func14, Tryz.ntmps14
  go_wp2_with fail
  go_loop [10] (fun i => i = .int .i64 0) (fun _ => 0)
  case atStart => rfl
  case round =>
    obtain rfl := hrel
    go_wp2_with fail
    refine (wide_ok n h1 h2 _).mono ?_
    rintro e w' ⟨rfl, rfl⟩
    go_wp2_with fail
    go_ret
    exact ⟨rfl, rfl⟩
end Go.Proofs.YtpkadglempbjiaaGreat
