/- A part. -/
import Derived.Test.YtabhieafjkaocaaGreatMabg
import Derived.Deep.Slices
import Derived.Test.YtabhieafjkaocaaGreatChecked
set_option linter.unusedVariables false
set_option linter.unusedSimpArgs false
namespace Go.Proofs.YtabhieafjkaocaaGreat
open Go.RowKit
structure StepM where
  kind : Int
  i : Int
  n : Int
  old : Bool
  page : UInt8
  text : List UInt8
  keep : List Bool
  torn : Int
  cut : Int
def BoolsAt (w : World) (v : Value) (l : List Bool) : Prop :=
  l.length ≤ 9223372036854775807 ∧ ((v = .slice none 0 0 ∧ l = []) ∨ ∃ a cap, v = .slice (some a) l.length cap ∧ l.length ≤ cap ∧ ∀ i, i < l.length → a.block < w.heap.size ∧ w.cell? (a.add i) = some (.bool (l.getD i false)))
def stepC (x : StepM) (kv : Value) : List Value := [.int .i64 x.kind, .int .i64 x.i, .int .i64 x.n, .bool x.old, .int .u8 (x.page.toNat : Int), .string ⟨⟨x.text⟩⟩, kv, .int .i64 x.torn, .int .i64 x.cut]
def I64 (x : Int) : Prop := -9223372036854775808 ≤ x ∧ x ≤ 9223372036854775807
structure StepIn (w : World) (x : StepM) (kv : Value) : Prop where
  kind : I64 x.kind
  i : I64 x.i
  n : I64 x.n
  torn : I64 x.torn
  cut : I64 x.cut
  text : x.text.length ≤ 9223372036854775807
  keep : BoolsAt w kv x.keep
def StepsAt (w : World) (v : Value) (l : List StepM) : Prop :=
  l.length ≤ 9223372036854775807 ∧ (((∃ a cap, v = .slice a 0 cap) ∧ l = []) ∨ ∃ b off cap, v = .slice (some ⟨b, off, none⟩) l.length cap ∧ b < w.heap.size ∧
    ∀ i (h : i < l.length), ∃ kv, StepIn w l[i] kv ∧ ∀ j c, (stepC l[i] kv)[j]? = some c → w.cell? ⟨b, off + i * 9 + j, none⟩ = some c)
theorem BoolsAt.kept {M : Nat → Prop} {w w' : World} {v : Value} {l : List Bool} (h : BoolsAt w v l) (k : Kept M w w') (hm : ∀ b, b < w.heap.size → ¬ M b) : BoolsAt w' v l := by
  refine ⟨h.1, ?_⟩
  rcases h.2 with h | ⟨a, cap, rfl, hcap, hc⟩
  · exact .inl h
  · refine .inr ⟨a, cap, rfl, hcap, fun i hi => ?_⟩
    obtain ⟨h1, h2⟩ := hc i hi
    refine ⟨Nat.lt_of_lt_of_le h1 k.size, ?_⟩
    have hb : (a.add i).block = a.block := by unfold Addr.add; split <;> rfl
    rw [World.cell?_of_block (w := w) (k.block _ (by rw [hb]; exact h1) (hm _ (by rw [hb]; exact h1)))]
    exact h2
theorem StepIn.kept {M : Nat → Prop} {w w' : World} {x : StepM} {kv : Value} (h : StepIn w x kv) (k : Kept M w w') (hm : ∀ b, b < w.heap.size → ¬ M b) : StepIn w' x kv :=
  ⟨h.kind, h.i, h.n, h.torn, h.cut, h.text, h.keep.kept k hm⟩
theorem StepsAt.kept {M : Nat → Prop} {w w' : World} {v : Value} {l : List StepM} (h : StepsAt w v l) (k : Kept M w w') (hm : ∀ b, b < w.heap.size → ¬ M b) : StepsAt w' v l := by
  refine ⟨h.1, ?_⟩
  rcases h.2 with h | ⟨b, off, cap, rfl, hb, hc⟩
  · exact .inl h
  · refine .inr ⟨b, off, cap, rfl, Nat.lt_of_lt_of_le hb k.size, fun i hi => ?_⟩
    obtain ⟨kv, h1, h2⟩ := hc i hi
    refine ⟨kv, h1.kept k hm, fun j c hj => ?_⟩
    rw [World.cell?_of_block (w := w) (k.block _ hb (hm _ hb))]
    exact h2 j c hj
theorem StepsAt.len {w : World} {v : Value} {l : List StepM} (h : StepsAt w v l) : ∃ a cap, v = .slice a l.length cap := by
  rcases h.2 with ⟨⟨a, cap, rfl⟩, rfl⟩ | ⟨b, off, cap, rfl, _⟩
  · exact ⟨a, cap, rfl⟩
  · exact ⟨_, _, rfl⟩
theorem StepsAt.at {w : World} {v : Value} {l : List StepM} (h : StepsAt w v l) (h0 : 0 < l.length) :
    ∃ b off cap, v = .slice (some ⟨b, off, none⟩) l.length cap ∧ b < w.heap.size ∧ ∀ i (h : i < l.length), ∃ kv, StepIn w l[i] kv ∧ ∀ j c, (stepC l[i] kv)[j]? = some c → w.cell? ⟨b, off + i * 9 + j, none⟩ = some c := by
  rcases h.2 with ⟨_, rfl⟩ | ⟨b, off, cap, rfl, hb, hc⟩
  · simp at h0
  · exact ⟨b, off, cap, rfl, hb, hc⟩
open Go.ChangeShapes Go.WideShapes
section
variable {H : Type} {enc : TypeId × Value → H} {W : World} {base : Nat} {spare : Nat → Bool} {held : Bool}
theorem nine {α : Type} {l : List α} (h : l.length = 9) : ∃ a b c d e f g i j, l = [a, b, c, d, e, f, g, i, j] := by
  match l, h with
  | [a, b, c, d, e, f, g, i, j], _ => exact ⟨a, b, c, d, e, f, g, i, j, rfl⟩
theorem seven {α : Type} {l : List α} (h : l.length = 7) : ∃ a b c d e f g, l = [a, b, c, d, e, f, g] := by
  match l, h with
  | [a, b, c, d, e, f, g], _ => exact ⟨a, b, c, d, e, f, g, rfl⟩
theorem three {α : Type} {l : List α} (h : l.length = 3) : ∃ a b c, l = [a, b, c] := by
  match l, h with
  | [a, b, c], _ => exact ⟨a, b, c, rfl⟩
theorem c_int : Tryz.prog.cellsOf 3 = 1 := by kernel_rfl
theorem c_bool : Tryz.prog.cellsOf 4 = 1 := by kernel_rfl
theorem c_u8 : Tryz.prog.cellsOf 5 = 1 := by kernel_rfl
theorem c_string : Tryz.prog.cellsOf 9 = 1 := by kernel_rfl
theorem c_bools : Tryz.prog.cellsOf 48 = 1 := by kernel_rfl
theorem c_fate : Tryz.prog.cellsOf 60 = 3 := by kernel_rfl
theorem c_step : Tryz.prog.cellsOf 62 = 9 := by kernel_rfl
end
end Go.Proofs.YtabhieafjkaocaaGreat
