/- The contract on Count. -/
import Derived.Test.YtagbclijbeodaaaDoorBmB
import Derived.Test.YtagbclijbeodaaaDoorBmM
namespace Go.Proofs.YtagbclijbeodaaaDoor
open Go.RowKit
set_option linter.unusedVariables false

def cnt (ws : List Nat) : Nat := (ws.map (pc 64)).sum
theorem cnt_le (ws : List Nat) : cnt ws ≤ 64 * ws.length := by
  unfold cnt
  induction ws with
  | nil => simp
  | cons x l ih => have := pc_le 64 x; simp only [List.map_cons, List.sum_cons, List.length_cons]; omega
theorem cnt_snoc (l : List Nat) (x : Nat) : cnt (l ++ [x]) = cnt l + pc 64 x := by simp [cnt]
theorem take_snocN (l : List Nat) (k : Nat) (h : k < l.length) : l.take (k + 1) = l.take k ++ [l.getD k 0] := by
  rw [List.take_succ_eq_append_getElem h]; simp [h]

theorem count_ok (s n : Nat) (v : Value) (ws : List Nat) (w : World) (h : SetAt w s n v ws) :
    Calls Tryd.prog 19 #[.pointer (some ⟨s, 0, none⟩)] w fun e w' => e = .returned (.int .i64 ((cnt ws : Nat) : Int)) ∧ w = w' := by
  have hv := h.v_cell
  have hlen : ws.length ≤ 65536 := by have := h.size; have := h.bound; omega
  obtain ⟨a, cap, rfl⟩ := h.slen
  have H := Lib.hid h
  clear h
  go_enter Tryd.func19, Tryd.ntmps19
  go_wp2_with fail
  go_loop [3, 13] (fun c i => ∃ k : Nat, k ≤ ws.length ∧ i = .int .i64 k ∧ c = .int .i64 ((cnt (ws.take k) : Nat) : Int)) (fun _ i => ws.length - (intOf i).toNat)
  case atStart => exact ⟨0, Nat.zero_le _, rfl, rfl⟩
  case round =>
    obtain ⟨k, hk, rfl, rfl⟩ := hrel
    by_cases hlt : k < ws.length
    · obtain ⟨g, cap1, e1, _, _, hcs, _⟩ := H.out.slice' (by omega)
      obtain ⟨rfl, rfl⟩ : a = some ⟨g, 0, none⟩ ∧ cap = cap1 := by simpa using e1
      have hx := hcs k hlt
      have hx0 := H.out.word k
      have hcl := cnt_le (ws.take k)
      have hc2 : (ws.take k).length ≤ 65536 := by rw [List.length_take]; omega
      have hsn := cnt_snoc (ws.take k) (ws.getD k 0)
      rw [← take_snocN ws k hlt] at hsn
      have hp := pc_le 64 (ws.getD k 0)
      generalize ws.getD k 0 = X at *
      have hone := ones_any X w hx0
      have HO := Lib.hid hone
      have HS := Lib.hid hsn
      have hcl2 : cnt (ws.take k) ≤ 4194304 := by omega
      clear hcs e1 hone hsn hcl hc2
      generalize cnt (ws.take k) = c at *
      generalize pc 64 X = p at *
      go_wp2_with fail
      refine HO.out.mono ?_
      rintro e w' ⟨rfl, rfl⟩
      go_wp2_with fail
      go_round
      case rel => exact ⟨k + 1, by omega, by go_num, by rw [HS.out]; go_num⟩
      case measure => simp [intOf]; omega
    · obtain rfl : k = ws.length := by omega
      rw [List.take_length]
      go_wp2
      go_ret
      exact ⟨rfl, rfl⟩

end Go.Proofs.YtagbclijbeodaaaDoor
