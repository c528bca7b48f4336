/- Merged by wip/tools/merge.py out of: CmE. -/
import Derived.Test.YtabhieafjkaocaaGreatMubg
import Derived.Deep.Slices
import Derived.Test.YtabhieafjkaocaaGreatChecked
/- Slices of steps as they come in. -/
namespace Go.Proofs.YtabhieafjkaocaaGreat
open Go.RowKit
set_option linter.unusedVariables false

/-- A step. -/
structure StepM where
  kind : Int
  i : Int
  n : Int
  old : Bool
  page : UInt8
  text : List UInt8
  keep : List Bool
  torn : Int
  cut : Int
/-- A slice of bools that came in. -/
def BoolsAt (w : World) (v : Value) (l : List Bool) : Prop :=
  l.length ≤ 9223372036854775807 ∧ ((v = .slice none 0 0 ∧ l = []) ∨ ∃ a cap, v = .slice (some a) l.length cap ∧ l.length ≤ cap ∧ ∀ i, i < l.length → a.block < w.heap.size ∧ w.cell? (a.add i) = some (.bool (l.getD i false)))
/-- A step's cells. -/
def stepC (x : StepM) (kv : Value) : List Value := [.int .i64 x.kind, .int .i64 x.i, .int .i64 x.n, .bool x.old, .int .u8 (x.page.toNat : Int), .string ⟨⟨x.text⟩⟩, kv, .int .i64 x.torn, .int .i64 x.cut]
def I64 (x : Int) : Prop := -9223372036854775808 ≤ x ∧ x ≤ 9223372036854775807
/-- A step that came in. -/
structure StepIn (w : World) (x : StepM) (kv : Value) : Prop where
  kind : I64 x.kind
  i : I64 x.i
  n : I64 x.n
  torn : I64 x.torn
  cut : I64 x.cut
  text : x.text.length ≤ 9223372036854775807
  keep : BoolsAt w kv x.keep
/-- A slice of steps that came in. -/
def StepsAt (w : World) (v : Value) (l : List StepM) : Prop :=
  l.length ≤ 9223372036854775807 ∧ (((∃ a cap, v = .slice a 0 cap) ∧ l = []) ∨ ∃ b off cap, v = .slice (some ⟨b, off, none⟩) l.length cap ∧ b < w.heap.size ∧
    ∀ i (h : i < l.length), ∃ kv, StepIn w l[i] kv ∧ ∀ j c, (stepC l[i] kv)[j]? = some c → w.cell? ⟨b, off + i * 9 + j, none⟩ = some c)

theorem BoolsAt.kept {M : Nat → Prop} {w w' : World} {v : Value} {l : List Bool} (h : BoolsAt w v l) (k : Kept M w w') (hm : ∀ b, b < w.heap.size → ¬ M b) : BoolsAt w' v l := by
  refine ⟨h.1, ?_⟩
  rcases h.2 with h | ⟨a, cap, rfl, hcap, hc⟩
  · exact .inl h
  · refine .inr ⟨a, cap, rfl, hcap, fun i hi => ?_⟩
    obtain ⟨h1, h2⟩ := hc i hi
    refine ⟨Nat.lt_of_lt_of_le h1 k.size, ?_⟩
    have hb : (a.add i).block = a.block := by unfold Addr.add; split <;> rfl
    rw [World.cell?_of_block (w := w) (k.block _ (by rw [hb]; exact h1) (hm _ (by rw [hb]; exact h1)))]
    exact h2
theorem StepIn.kept {M : Nat → Prop} {w w' : World} {x : StepM} {kv : Value} (h : StepIn w x kv) (k : Kept M w w') (hm : ∀ b, b < w.heap.size → ¬ M b) : StepIn w' x kv :=
  ⟨h.kind, h.i, h.n, h.torn, h.cut, h.text, h.keep.kept k hm⟩
theorem StepsAt.kept {M : Nat → Prop} {w w' : World} {v : Value} {l : List StepM} (h : StepsAt w v l) (k : Kept M w w') (hm : ∀ b, b < w.heap.size → ¬ M b) : StepsAt w' v l := by
  refine ⟨h.1, ?_⟩
  rcases h.2 with h | ⟨b, off, cap, rfl, hb, hc⟩
  · exact .inl h
  · refine .inr ⟨b, off, cap, rfl, Nat.lt_of_lt_of_le hb k.size, fun i hi => ?_⟩
    obtain ⟨kv, h1, h2⟩ := hc i hi
    refine ⟨kv, h1.kept k hm, fun j c hj => ?_⟩
    rw [World.cell?_of_block (w := w) (k.block _ hb (hm _ hb))]
    exact h2 j c hj
theorem StepsAt.len {w : World} {v : Value} {l : List StepM} (h : StepsAt w v l) : ∃ a cap, v = .slice a l.length cap := by
  rcases h.2 with ⟨⟨a, cap, rfl⟩, rfl⟩ | ⟨b, off, cap, rfl, _⟩
  · exact ⟨a, cap, rfl⟩
  · exact ⟨_, _, rfl⟩
theorem StepsAt.at {w : World} {v : Value} {l : List StepM} (h : StepsAt w v l) (h0 : 0 < l.length) :
    ∃ b off cap, v = .slice (some ⟨b, off, none⟩) l.length cap ∧ b < w.heap.size ∧ ∀ i (h : i < l.length), ∃ kv, StepIn w l[i] kv ∧ ∀ j c, (stepC l[i] kv)[j]? = some c → w.cell? ⟨b, off + i * 9 + j, none⟩ = some c := by
  rcases h.2 with ⟨_, rfl⟩ | ⟨b, off, cap, rfl, hb, hc⟩
  · simp at h0
  · exact ⟨b, off, cap, rfl, hb, hc⟩

open Go.ChangeShapes Go.WideShapes
section
variable {H : Type} {enc : TypeId × Value → H} {W : World} {base : Nat} {spare : Nat → Bool} {held : Bool}
theorem bools_open {fuel : Nat} {cs : List Value} {x : DataW H × List MemPlace} (h : DataW.trod enc Tryz.prog W base spare held fuel 48 cs = some x) : ∃ v l, cs = [v] ∧ BoolsAt W v l := by
  rcases Deep.open_slice1 Tryz.underlying48 (by kernel_rfl) h with ⟨rfl, _⟩ | ⟨a, len, cap, m, n, V, D, Pl, rfl, hb, hl, hm, hmm, _, hx⟩
  · exact ⟨_, [], rfl, by simp, .inl ⟨rfl, rfl⟩⟩
  · have hx' : ∀ i, i < len → ∃ b, V i = .bool b := fun i hi => by
      have := (hx i (by rw [hmm]; split <;> omega)).2
      obtain ⟨b, hb, _⟩ := DataW.trod_bool Tryz.underlying4 this
      injection hb with hb
      exact ⟨b, hb⟩
    obtain ⟨B, hB⟩ := Deep.choose_lt (α := Bool) hx'
    refine ⟨_, (List.range len).map B, rfl, by simp; unfold maxLen at hm; omega, .inr ⟨a, cap, by simp, by simpa using hl, fun i hi => ?_⟩⟩
    have hi : i < len := by simpa using hi
    have h1 := (hx i (by rw [hmm]; split <;> omega)).1
    refine ⟨?_, ?_⟩
    · have := World.block_lt_of_cell? W _ h1
      have hb : (a.add i).block = a.block := by unfold Addr.add; split <;> rfl
      rwa [hb] at this
    · rw [h1, hB i hi]
      simp [hi]

theorem nine {α : Type} {l : List α} (h : l.length = 9) : ∃ a b c d e f g i j, l = [a, b, c, d, e, f, g, i, j] := by
  match l, h with
  | [a, b, c, d, e, f, g, i, j], _ => exact ⟨a, b, c, d, e, f, g, i, j, rfl⟩
theorem seven {α : Type} {l : List α} (h : l.length = 7) : ∃ a b c d e f g, l = [a, b, c, d, e, f, g] := by
  match l, h with
  | [a, b, c, d, e, f, g], _ => exact ⟨a, b, c, d, e, f, g, rfl⟩
theorem three {α : Type} {l : List α} (h : l.length = 3) : ∃ a b c, l = [a, b, c] := by
  match l, h with
  | [a, b, c], _ => exact ⟨a, b, c, rfl⟩
theorem c_int : Tryz.prog.cellsOf 3 = 1 := by kernel_rfl
theorem c_bool : Tryz.prog.cellsOf 4 = 1 := by kernel_rfl
theorem c_u8 : Tryz.prog.cellsOf 5 = 1 := by kernel_rfl
theorem c_string : Tryz.prog.cellsOf 9 = 1 := by kernel_rfl
theorem c_bools : Tryz.prog.cellsOf 48 = 1 := by kernel_rfl
theorem c_fate : Tryz.prog.cellsOf 60 = 3 := by kernel_rfl
theorem c_step : Tryz.prog.cellsOf 62 = 9 := by kernel_rfl
theorem step_open {fuel : Nat} {cs : List Value} {x : DataW H × List MemPlace} (h : DataW.trod enc Tryz.prog W base spare held fuel 62 cs = some x) : ∃ st kv, cs = stepC st kv ∧ StepIn W st kv := by
  obtain ⟨xs, n, _, _, hl, hxl, hg⟩ := DataW.trod_struct Tryz.underlying62 h
  obtain ⟨k0, k1, k2, k3, k4, k5, k6, k7, k8, rfl⟩ := nine (hl.trans c_step)
  obtain ⟨x0, x1, x2, x3, x4, x5, x6, rfl⟩ := seven (hxl.trans rfl)
  have g0 : DataW.trod enc Tryz.prog W base spare held n 3 [k0] = some x0 := by
    have h : DataW.trod enc Tryz.prog W base spare held n 3 (([k0, k1, k2, k3, k4, k5, k6, k7, k8].drop 0).take (Tryz.prog.cellsOf 3)) = some x0 := hg 0 _ rfl
    rw [c_int] at h
    exact h
  have g1 : DataW.trod enc Tryz.prog W base spare held n 3 [k1] = some x1 := by
    have h : DataW.trod enc Tryz.prog W base spare held n 3 (([k0, k1, k2, k3, k4, k5, k6, k7, k8].drop 1).take (Tryz.prog.cellsOf 3)) = some x1 := hg 1 _ rfl
    rw [c_int] at h
    exact h
  have g2 : DataW.trod enc Tryz.prog W base spare held n 3 [k2] = some x2 := by
    have h : DataW.trod enc Tryz.prog W base spare held n 3 (([k0, k1, k2, k3, k4, k5, k6, k7, k8].drop 2).take (Tryz.prog.cellsOf 3)) = some x2 := hg 2 _ rfl
    rw [c_int] at h
    exact h
  have g3 : DataW.trod enc Tryz.prog W base spare held n 4 [k3] = some x3 := by
    have h : DataW.trod enc Tryz.prog W base spare held n 4 (([k0, k1, k2, k3, k4, k5, k6, k7, k8].drop 3).take (Tryz.prog.cellsOf 4)) = some x3 := hg 3 _ rfl
    rw [c_bool] at h
    exact h
  have g4 : DataW.trod enc Tryz.prog W base spare held n 5 [k4] = some x4 := by
    have h : DataW.trod enc Tryz.prog W base spare held n 5 (([k0, k1, k2, k3, k4, k5, k6, k7, k8].drop 4).take (Tryz.prog.cellsOf 5)) = some x4 := hg 4 _ rfl
    rw [c_u8] at h
    exact h
  have g5 : DataW.trod enc Tryz.prog W base spare held n 9 [k5] = some x5 := by
    have h : DataW.trod enc Tryz.prog W base spare held n 9 (([k0, k1, k2, k3, k4, k5, k6, k7, k8].drop 5).take (Tryz.prog.cellsOf 9)) = some x5 := hg 5 _ rfl
    rw [c_string] at h
    exact h
  have g6 : DataW.trod enc Tryz.prog W base spare held n 60 [k6, k7, k8] = some x6 := by
    have h : DataW.trod enc Tryz.prog W base spare held n 60 (([k0, k1, k2, k3, k4, k5, k6, k7, k8].drop 6).take (Tryz.prog.cellsOf 60)) = some x6 := hg 6 _ rfl
    rw [c_fate] at h
    exact h
  obtain ⟨ys, n2, _, _, hl2, hyl, hg2⟩ := DataW.trod_struct Tryz.underlying60 g6
  obtain ⟨y0, y1, y2, rfl⟩ := three (hyl.trans rfl)
  have f0 : DataW.trod enc Tryz.prog W base spare held n2 48 [k6] = some y0 := by
    have h : DataW.trod enc Tryz.prog W base spare held n2 48 (([k6, k7, k8].drop 0).take (Tryz.prog.cellsOf 48)) = some y0 := hg2 0 _ rfl
    rw [c_bools] at h
    exact h
  have f1 : DataW.trod enc Tryz.prog W base spare held n2 3 [k7] = some y1 := by
    have h : DataW.trod enc Tryz.prog W base spare held n2 3 (([k6, k7, k8].drop 1).take (Tryz.prog.cellsOf 3)) = some y1 := hg2 1 _ rfl
    rw [c_int] at h
    exact h
  have f2 : DataW.trod enc Tryz.prog W base spare held n2 3 [k8] = some y2 := by
    have h : DataW.trod enc Tryz.prog W base spare held n2 3 (([k6, k7, k8].drop 2).take (Tryz.prog.cellsOf 3)) = some y2 := hg2 2 _ rfl
    rw [c_int] at h
    exact h
  obtain ⟨a0, e0, _, w0⟩ := DataW.trod_int Tryz.underlying3 g0
  obtain ⟨a1, e1, _, w1⟩ := DataW.trod_int Tryz.underlying3 g1
  obtain ⟨a2, e2, _, w2⟩ := DataW.trod_int Tryz.underlying3 g2
  obtain ⟨a3, e3, _⟩ := DataW.trod_bool Tryz.underlying4 g3
  obtain ⟨a4, e4, _, w4⟩ := DataW.trod_int Tryz.underlying5 g4
  obtain ⟨a5, e5, _, w5⟩ := DataW.trod_string Tryz.underlying9 g5
  obtain ⟨v6, l6, e6, h6⟩ := bools_open f0
  obtain ⟨a7, e7, _, w7⟩ := DataW.trod_int Tryz.underlying3 f1
  obtain ⟨a8, e8, _, w8⟩ := DataW.trod_int Tryz.underlying3 f2
  injection e0 with e0; injection e1 with e1; injection e2 with e2; injection e3 with e3; injection e4 with e4; injection e5 with e5; injection e6 with e6; injection e7 with e7; injection e8 with e8
  subst e0 e1 e2 e3 e4 e5 e6 e7 e8
  have b4 := bounds_u8 w4
  refine ⟨⟨a0, a1, a2, a3, UInt8.ofNat a4.toNat, a5.data.toList, l6, a7, a8⟩, k6, ?_, ⟨int_bounds w0, int_bounds w1, int_bounds w2, int_bounds w7, int_bounds w8, ?_, h6⟩⟩
  · unfold stepC
    have e4 : ((UInt8.ofNat a4.toNat).toNat : Int) = a4 := by
      rw [UInt8.toNat_ofNat']
      omega
    simp only
    rw [e4]
  · unfold maxLen at w5
    have : a5.data.toList.length = a5.size := by rw [Array.length_toList]; rfl
    show a5.data.toList.length ≤ _
    omega
theorem steps_open {a : Option Addr} {len cap : Nat} {d : DataW H} {ps : List MemPlace} (h : DataW.Trod enc Tryz.prog W base spare held 50 (.slice a len cap) d ps) : ∃ l, StepsAt W (.slice a len cap) l := by
  obtain ⟨fuel, hf⟩ := h
  rcases Deep.open_slice Tryz.underlying50 hf with ⟨hcs, _⟩ | ⟨x, l, c, m, n, D, Pl, hcs, hb, hl, hm, hmm, _, hx⟩
  · simp [Value.cells] at hcs
    obtain ⟨rfl, rfl, rfl⟩ := hcs
    exact ⟨[], by simp, .inl ⟨⟨_, _, rfl⟩, rfl⟩⟩
  · simp [Value.cells] at hcs
    obtain ⟨rfl, rfl, rfl⟩ := hcs
    have hx' : ∀ i, i < len → ∃ p : StepM × Value, StepIn W p.1 p.2 ∧ x.block < W.heap.size ∧ ∀ j c, (stepC p.1 p.2)[j]? = some c → W.cell? (x.add (i * 9 + j)) = some c := fun i hi => by
      obtain ⟨cs', h1, h2⟩ := hx i (by rw [hmm]; split <;> omega)
      rw [c_step] at h1
      obtain ⟨st, kv, rfl, hst⟩ := step_open h2
      obtain ⟨_, hlen, hcell⟩ := World.cells?_some h1
      have hc : ∀ j c, (stepC st kv)[j]? = some c → W.cell? (x.add (i * 9 + j)) = some c := fun j c hj => by
        have hj9 : j < 9 := by
          have := (List.getElem?_eq_some_iff.1 hj).1
          rwa [hlen] at this
        have := hcell j hj9
        rw [Deep.add_add, hj] at this
        exact this
      refine ⟨(st, kv), hst, ?_, hc⟩
      have := World.block_lt_of_cell? W _ (hc 0 _ rfl)
      have hb : (x.add (i * 9 + 0)).block = x.block := by unfold Addr.add; split <;> rfl
      rwa [hb] at this
    obtain ⟨F, hF⟩ : ∃ F : Nat → StepM × Value, ∀ i, i < len → StepIn W (F i).1 (F i).2 ∧ x.block < W.heap.size ∧ ∀ j c, (stepC (F i).1 (F i).2)[j]? = some c → W.cell? (x.add (i * 9 + j)) = some c := by
      classical
      refine ⟨fun i => if hi : i < len then Classical.choose (hx' i hi) else (⟨0, 0, 0, false, 0, [], [], 0, 0⟩, .bool false), fun i hi => ?_⟩
      simp only [dif_pos hi]
      exact Classical.choose_spec (hx' i hi)
    refine ⟨(List.range len).map fun i => (F i).1, by simp; unfold maxLen at hm; omega, ?_⟩
    by_cases h0 : 0 < len
    · obtain ⟨b, off, spot⟩ := x
      have hspot : spot = none := by simpa [Addr.add] using World.cell?_spot ((hF 0 h0).2.2 0 _ rfl)
      subst hspot
      refine .inr ⟨b, off, cap, by simp, (hF 0 h0).2.1, fun i hi => ?_⟩
      have hi' : i < len := by simpa using hi
      obtain ⟨q1, q2, q3⟩ := hF i hi'
      refine ⟨(F i).2, by simpa using q1, fun j c hj => ?_⟩
      have hj : (stepC (F i).1 (F i).2)[j]? = some c := by simpa using hj
      have := q3 j c hj
      rw [add_plain] at this
      rw [← this, show off + (i * 9 + j) = off + i * 9 + j by omega]
    · obtain rfl : len = 0 := by omega
      exact .inl ⟨⟨_, _, rfl⟩, rfl⟩
end
end Go.Proofs.YtabhieafjkaocaaGreat
