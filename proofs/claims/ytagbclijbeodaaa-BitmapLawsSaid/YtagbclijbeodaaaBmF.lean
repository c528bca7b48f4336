/- The contract on Same. -/
import Derived.Test.YtagbclijbeodaaaBmB
namespace Go.Proofs.Ytagbclijbeodaaa
open Go.RowKit
set_option linter.unusedVariables false

theorem same_nil (s : Nat) (w : World) :
    Calls Try.prog 10 #[.pointer (some ⟨s, 0, none⟩), .pointer none] w fun e w' => e = .returned (.bool false) ∧ ∃ q, w' = w.drewN q := by
  go_enter Try.func10, Try.ntmps10
  go_wp2_with fail
  go_quiet (fail)
  go_wp2
  go_ret
  exact ⟨rfl, _, rfl⟩

theorem same_ok (s s' n : Nat) (v v' : Value) (ws ws' : List Nat) (w : World) (h : SetAt w s n v ws) (h' : SetAt w s' n v' ws') :
    Calls Try.prog 10 #[.pointer (some ⟨s, 0, none⟩), .pointer (some ⟨s', 0, none⟩)] w fun e w' => e = .returned (.bool (decide (ws = ws'))) ∧ ∃ q, w' = w.drewN q := by
  have hc := h.n_cell
  have hc' := h'.n_cell
  have hv := h.v_cell
  have hv' := h'.v_cell
  have hll : ws.length = ws'.length := h.size.trans h'.size.symm
  have hb : ws.length ≤ 65536 := by have := h.size; have := h.bound; omega
  obtain ⟨a, cap, rfl⟩ := h.slen
  obtain ⟨a', cap', rfl⟩ := h'.slen
  have H := Lib.hid h
  have H' := Lib.hid h'
  have HLL := Lib.hid hll
  clear h h' hll
  go_enter Try.func10, Try.ntmps10
  go_wp2_with fail
  go_quiet (fail)
  go_wp2_with fail
  go_loop [29] (fun i => ∃ k : Nat, k ≤ ws.length ∧ i = .int .i64 k ∧ ∀ j, j < k → ws.getD j 0 = ws'.getD j 0) (fun i => ws.length - (intOf i).toNat)
  case atStart => exact ⟨0, Nat.zero_le _, rfl, fun j hj => absurd hj (Nat.not_lt_zero j)⟩
  case round =>
    obtain ⟨k, hk, rfl, hall⟩ := hrel
    have HA := Lib.hid hall
    clear hall
    by_cases hlt : k < ws.length
    · obtain ⟨g, cap1, e1, _, _, hcs, _⟩ := H.out.slice' (by omega)
      obtain ⟨g', cap2, e2, _, _, hcs', _⟩ := H'.out.slice' (by have := HLL.out; omega)
      obtain ⟨rfl, rfl⟩ : a = some ⟨g, 0, none⟩ ∧ cap = cap1 := by simpa using e1
      obtain ⟨rfl, rfl⟩ : a' = some ⟨g', 0, none⟩ ∧ cap' = cap2 := by simpa using e2
      have hlt' : k < ws'.length := by have := HLL.out; omega
      have hx := hcs k hlt
      have hx' := hcs' k hlt'
      clear hcs hcs' e1 e2
      generalize hX : ws.getD k 0 = X at *
      generalize hX' : ws'.getD k 0 = X' at *
      have HX := Lib.hid hX
      have HX' := Lib.hid hX'
      clear hX hX'
      by_cases hXX : X = X'
      · subst hXX
        go_wp2
        go_round
        case rel =>
          refine ⟨k + 1, by omega, by go_num, fun j hj => ?_⟩
          by_cases hjk : j = k
          · subst hjk; rw [HX.out, HX'.out]
          · exact HA.out j (by omega)
        case measure => simp [intOf]; omega
      · have hne : ((X : Int) != (X' : Int)) = true := by simp; omega
        have hfin : decide (ws = ws') = false := by
          simp only [decide_eq_false_iff_not]
          intro e
          apply hXX
          rw [← HX.out, ← HX'.out, e]
        have HF := Lib.hid hfin
        clear hfin
        go_wp2
        go_ret
        exact ⟨by rw [HF.out]; rfl, _, rfl⟩
    · have hfin : decide (ws = ws') = true := by
        simp only [decide_eq_true_eq]
        apply List.ext_getElem HLL.out
        intro j h1 h2
        have := HA.out j (by omega)
        simpa [h1, h2] using this
      have HF := Lib.hid hfin
      clear hfin
      go_wp2
      go_ret
      exact ⟨by rw [HF.out]; rfl, _, rfl⟩

end Go.Proofs.Ytagbclijbeodaaa
