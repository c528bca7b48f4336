/- Contracts on package bitmap: Has, Put, Take. -/
import Derived.Test.YtagbclijbeodaaaDoorBm0
import Derived.Test.YtagbclijbeodaaaDoorBmA
namespace Go.Proofs.YtagbclijbeodaaaDoor
open Go.RowKit
set_option linter.unusedVariables false

theorem SetAt.slice {w : World} {s n : Nat} {v : Value} {ws : List Nat} (h : SetAt w s n v ws) (h0 : 0 < n) :
    ∃ g cap, v = .slice (some ⟨g, 0, none⟩) ws.length cap ∧ g ≠ s ∧ ws.length ≤ cap ∧ (∀ j, j < ws.length → w.cell? ⟨g, j, none⟩ = some (.int .u64 ((ws.getD j 0 : Nat) : Int))) ∧ (∀ j, w.frozen? ⟨g, j, none⟩ = false) := by
  have hs := h.size
  have hrow := h.row
  rcases h.row.2 with ⟨_, e⟩ | ⟨g, cap, cur, rfl, _, hg, hle, hm, hcs, ht⟩
  · omega
  · refine ⟨g, cap, rfl, fun e => h.other (by simp [Value.ownBlock, e]), hle, fun j hj => ?_, fun j => hrow.frozenAt j⟩
    rw [hrow.cellAt j (by omega)]
    simp [words, hj]

theorem SetAt.slen {w : World} {s n : Nat} {v : Value} {ws : List Nat} (h : SetAt w s n v ws) : ∃ a cap, v = .slice a ws.length cap := by
  rcases h.row.2 with ⟨h1, h2⟩ | ⟨g, cap, cur, h1, _⟩
  · rw [h1, h2]; exact ⟨_, _, rfl⟩
  · exact ⟨_, _, h1⟩
theorem SetAt.slice' {w : World} {s n : Nat} {v : Value} {ws : List Nat} (h : SetAt w s n v ws) (h0 : 0 < ws.length) :
    ∃ g cap, v = .slice (some ⟨g, 0, none⟩) ws.length cap ∧ g ≠ s ∧ ws.length ≤ cap ∧ (∀ j, j < ws.length → w.cell? ⟨g, j, none⟩ = some (.int .u64 ((ws.getD j 0 : Nat) : Int))) ∧ (∀ j, w.frozen? ⟨g, j, none⟩ = false) :=
  h.slice (by have := h.size; omega)

theorem SetAt.word {w : World} {s n : Nat} {v : Value} {ws : List Nat} (h : SetAt w s n v ws) (j : Nat) : ws.getD j 0 < 18446744073709551616 := by
  by_cases hj : j < ws.length
  · have e : ws.getD j 0 = ws[j] := by simp [hj]
    rw [e]; exact h.low _ (List.getElem_mem _)
  · have e : ws.getD j 0 = 0 := by simp [hj]
    rw [e]; omega

theorem SetAt.stored {w : World} {s n g m cap : Nat} {ws : List Nat} (h : SetAt w s n (.slice (some ⟨g, 0, none⟩) m cap) ws) (hm : m = ws.length) (j y : Nat) (hy : y < 18446744073709551616) :
    Kept (fun k => (Value.slice (some ⟨g, 0, none⟩) m cap).ownBlock = some k) w (w.setCell ⟨g, j, none⟩ (.int .u64 (y : Int))).drew ∧ SetAt (w.setCell ⟨g, j, none⟩ (.int .u64 (y : Int))).drew s n (.slice (some ⟨g, 0, none⟩) m cap) (ws.set j y) := by
  subst hm
  have hne : g ≠ s := fun e => h.other (by simp [Value.ownBlock, e])
  obtain ⟨h1, h2⟩ := h.row.stored j (.int .u64 (y : Int))
  refine ⟨(Kept.of_grown h2).drew, ⟨?_, ?_, by rw [List.length_set]; exact h.size, h.bound, ?_, h.other⟩⟩
  · show (w.setCell ⟨g, j, none⟩ (.int .u64 (y : Int))).heap[s]? = _
    rw [heap_setCell_other w ⟨g, j, none⟩ s _ (fun e => hne e.symm)]
    exact h.head
  · have e : words (ws.set j y) = (words ws).set j (.int .u64 (y : Int)) := by simp [words, List.map_set]
    rw [List.length_set, e]
    exact h1
  · intro x hx
    rcases List.mem_or_eq_of_mem_set hx with hx | hx
    · exact h.low x hx
    · omega

theorem has_in (s n : Nat) (v : Value) (ws : List Nat) (w : World) (i : Nat) (h : SetAt w s n v ws) (h1 : i < n) :
    Calls Tryd.prog 15 #[.pointer (some ⟨s, 0, none⟩), .int .i64 (i : Int)] w fun e w' => e = .returned (.bool ((ws.getD (i / 64) 0).testBit (i % 64))) ∧ w = w' := by
  obtain ⟨g, cap, rfl, hgs, hcap, hcell, hfr⟩ := h.slice (by omega)
  have hr := right_ok s n _ ws w i h (by omega) (by omega)
  have hv := h.v_cell
  have hsz := h.size
  have hb := h.bound
  have hg := hcell (i / 64) (by omega)
  have hlt : i / 64 < ws.length := by omega
  have hx0 := h.word (i / 64)
  generalize hx : ws.getD (i / 64) 0 = x at *
  clear h hcell hx
  go_enter Tryd.func15, Tryd.ntmps15
  go_wp2_with (go_at_call 22; refine hr.mono ?_; rintro e w' ⟨rfl, rfl⟩)
  go_ret
  exact ⟨by rw [← word_has x (i % 64) hx0]; rfl, rfl⟩

theorem has_out (s n : Nat) (v : Value) (ws : List Nat) (w : World) (i : Int) (h : SetAt w s n v ws) (h1 : i < 0 ∨ (n : Int) ≤ i) :
    Calls Tryd.prog 15 #[.pointer (some ⟨s, 0, none⟩), .int .i64 i] w fun e w' => e = .returned (.bool false) ∧ w = w' := by
  have hr : Calls Tryd.prog 22 #[.pointer (some ⟨s, 0, none⟩), .int .i64 i] w fun e w' => e = .returned (.int .i64 1) ∧ w = w' := by
    rcases h1 with h1 | h1
    · exact right_low s w i h1
    · by_cases h0 : i < 0
      · exact right_low s w i h0
      · exact right_high s n v ws w i h h1
  clear h h1
  go_enter Tryd.func15, Tryd.ntmps15
  go_wp2_with (go_at_call 22; refine hr.mono ?_; rintro e w' ⟨rfl, rfl⟩)
  go_ret
  exact ⟨rfl, rfl⟩

def putW (ws : List Nat) (i : Nat) : List Nat := ws.set (i / 64) (ws.getD (i / 64) 0 ||| 2 ^ (i % 64))
def takeW (ws : List Nat) (i : Nat) : List Nat := ws.set (i / 64) (ws.getD (i / 64) 0 &&& (18446744073709551615 - 2 ^ (i % 64)))

theorem put_ok (s n : Nat) (v : Value) (ws : List Nat) (w : World) (i : Nat) (h : SetAt w s n v ws) (h1 : i < n) :
    Calls Tryd.prog 8 #[.pointer (some ⟨s, 0, none⟩), .int .i64 (i : Int)] w fun e w' => e = .returned (.int .i64 0) ∧ Kept (fun k => v.ownBlock = some k) w w' ∧ SetAt w' s n v (putW ws i) := by
  obtain ⟨g, cap, rfl, hgs, hcap, hcell, hfr⟩ := h.slice (by omega)
  have hr := right_ok s n _ ws w i h (by omega) (by omega)
  have hv := h.v_cell
  have hsz := h.size
  have hb := h.bound
  have hg := hcell (i / 64) (by omega)
  have hf := hfr (i / 64)
  have hlt : i / 64 < ws.length := by omega
  have hx0 := h.word (i / 64)
  have H := Lib.hid h
  generalize hx : ws.getD (i / 64) 0 = x at *
  have HX := Lib.hid hx
  clear h hcell hx
  go_enter Tryd.func8, Tryd.ntmps8
  go_wp2_with (go_at_call 22; refine hr.mono ?_; rintro e w' ⟨rfl, rfl⟩)
  go_region
  go_wp2
  go_ret
  refine ⟨rfl, ?_⟩
  rw [wrap_pow2 _ (Nat.mod_lt _ (by omega)), word_put x _ hx0 (Nat.mod_lt _ (by omega)), putW, HX.out]
  exact H.out.stored rfl (i / 64) _ (word_put_lt x _ hx0 (Nat.mod_lt _ (by omega)))

theorem put_no (s n : Nat) (v : Value) (ws : List Nat) (w : World) (i : Int) (h : SetAt w s n v ws) (h1 : i < 0 ∨ (n : Int) ≤ i) :
    Calls Tryd.prog 8 #[.pointer (some ⟨s, 0, none⟩), .int .i64 i] w fun e w' => e = .returned (.int .i64 1) ∧ w = w' := by
  have hr : Calls Tryd.prog 22 #[.pointer (some ⟨s, 0, none⟩), .int .i64 i] w fun e w' => e = .returned (.int .i64 1) ∧ w = w' := by
    rcases h1 with h1 | h1
    · exact right_low s w i h1
    · by_cases h0 : i < 0
      · exact right_low s w i h0
      · exact right_high s n v ws w i h h1
  clear h h1
  go_enter Tryd.func8, Tryd.ntmps8
  go_wp2_with (go_at_call 22; refine hr.mono ?_; rintro e w' ⟨rfl, rfl⟩)
  go_ret
  exact ⟨rfl, rfl⟩

theorem take_ok (s n : Nat) (v : Value) (ws : List Nat) (w : World) (i : Nat) (h : SetAt w s n v ws) (h1 : i < n) :
    Calls Tryd.prog 9 #[.pointer (some ⟨s, 0, none⟩), .int .i64 (i : Int)] w fun e w' => e = .returned (.int .i64 0) ∧ Kept (fun k => v.ownBlock = some k) w w' ∧ SetAt w' s n v (takeW ws i) := by
  obtain ⟨g, cap, rfl, hgs, hcap, hcell, hfr⟩ := h.slice (by omega)
  have hr := right_ok s n _ ws w i h (by omega) (by omega)
  have hv := h.v_cell
  have hsz := h.size
  have hb := h.bound
  have hg := hcell (i / 64) (by omega)
  have hf := hfr (i / 64)
  have hlt : i / 64 < ws.length := by omega
  have hx0 := h.word (i / 64)
  have H := Lib.hid h
  generalize hx : ws.getD (i / 64) 0 = x at *
  have HX := Lib.hid hx
  clear h hcell hx
  go_enter Tryd.func9, Tryd.ntmps9
  go_wp2_with (go_at_call 22; refine hr.mono ?_; rintro e w' ⟨rfl, rfl⟩)
  go_region
  go_wp2
  go_ret
  refine ⟨rfl, ?_⟩
  rw [wrap_pow2 _ (Nat.mod_lt _ (by omega)), word_take x _ hx0 (Nat.mod_lt _ (by omega)), takeW, HX.out]
  exact H.out.stored rfl (i / 64) _ (word_take_lt x _ hx0)

end Go.Proofs.YtagbclijbeodaaaDoor
