/- Contracts on is and sameInts; a row of the program's own as a list of ints. -/
import Derived.Test.YtagbclijbeodaaaDoorBmD
namespace Go.Proofs.YtagbclijbeodaaaDoor
open Go.RowKit
set_option linter.unusedVariables false

theorem is_ok (v : Value) (l : List Int) (x : Int) (w : World) (h : IntsAt w v l) :
    Calls Tryd.prog 17 #[v, .int .i64 x] w fun e w' => e = .returned (.bool (decide (x ∈ l))) ∧ w = w' := by
  have hln := h.2.1
  obtain ⟨a, c, rfl⟩ := h.len
  have H := Lib.hid h
  clear h
  go_enter Tryd.func17, Tryd.ntmps17
  go_wp2_with fail
  go_loop [5] (fun i => ∃ k : Nat, k ≤ l.length ∧ i = .int .i64 k ∧ Hid (∀ j, j < k → l.getD j 0 ≠ x)) (fun i => l.length - (intOf i).toNat)
  case atStart => exact ⟨0, Nat.zero_le _, rfl, fun j hj => absurd hj (Nat.not_lt_zero j)⟩
  case round =>
    obtain ⟨k, hk, rfl, HA⟩ := hrel
    by_cases hlt : k < l.length
    · obtain ⟨b, off, cap, ev, hb, hcs⟩ := H.out.at (by omega)
      obtain ⟨rfl, rfl⟩ : a = some ⟨b, off, none⟩ ∧ c = cap := by simpa using ev
      have hx := hcs k hlt
      clear hcs ev
      generalize hy : l.getD k 0 = y at *
      have HY := Lib.hid hy
      clear hy
      by_cases hxy : y = x
      · subst hxy
        have hin : y ∈ l := by
          have := HY.out
          simp only [List.getD_eq_getElem?_getD, List.getElem?_eq_getElem hlt, Option.getD_some] at this
          rw [← this]; exact List.getElem_mem _
        have hfin : decide (y ∈ l) = true := by simpa using hin
        have HF := Lib.hid hfin
        clear hfin hin
        go_wp2
        go_ret
        exact ⟨by rw [HF.out]; rfl, rfl⟩
      · have hne : (y == x) = false := by simpa using hxy
        have hall : ∀ j, j < k + 1 → l.getD j 0 ≠ x := by
          intro j hj
          by_cases e : j = k
          · subst e; rw [HY.out]; exact hxy
          · exact HA.out j (by omega)
        have HB := Lib.hid hall
        clear hall hxy
        go_wp2
        go_round
        case rel => exact ⟨k + 1, by omega, by go_num, HB⟩
        case measure => simp [intOf]; omega
    · have hfin : decide (x ∈ l) = false := by
        simp only [decide_eq_false_iff_not]
        intro hin
        obtain ⟨j, hj, e⟩ := List.getElem_of_mem hin
        have := HA.out j (by omega)
        simp [hj] at this
        exact this e
      have HF := Lib.hid hfin
      clear hfin
      go_wp2
      go_ret
      exact ⟨by rw [HF.out]; rfl, rfl⟩

theorem sameInts_ok (v v' : Value) (l l' : List Int) (w : World) (h : IntsAt w v l) (h' : IntsAt w v' l') :
    Calls Tryd.prog 13 #[v, v'] w fun e w' => e = .returned (.bool (decide (l = l'))) ∧ ∃ q, w' = w.drewN q := by
  have hln := h.2.1
  have hln' := h'.2.1
  obtain ⟨a, c, rfl⟩ := h.len
  obtain ⟨a', c', rfl⟩ := h'.len
  have H := Lib.hid h
  have H' := Lib.hid h'
  clear h h'
  by_cases hll : l.length = l'.length
  · have hd : ((l.length : Int) != (l'.length : Int)) = false := by rw [bne_eq_false_iff_eq]; omega
    have HLL := Lib.hid hll
    have hle1 : l.length ≤ l'.length := by omega
    have hle2 : l'.length ≤ l.length := by omega
    clear hll
    go_enter Tryd.func13, Tryd.ntmps13
    go_wp2_with fail
    go_loopw [5] (fun i wr => ∃ k : Nat, k ≤ l.length ∧ i = .int .i64 k ∧ Hid (∀ j, j < k → l.getD j 0 = l'.getD j 0) ∧ ∃ q, wr = w.drewN q) (fun i _ => l.length - (intOf i).toNat)
    case atStart => exact ⟨0, Nat.zero_le _, rfl, fun j hj => absurd hj (Nat.not_lt_zero j), 0, rfl⟩
    case round =>
      obtain ⟨k, hk, rfl, HA, q, rfl⟩ := hrel
      by_cases hlt : k < l.length
      · have hlt' : k < l'.length := by omega
        obtain ⟨b, off, cap, ev, hb, hcs⟩ := H.out.at (by omega)
        obtain ⟨rfl, rfl⟩ : a = some ⟨b, off, none⟩ ∧ c = cap := by simpa using ev
        obtain ⟨b', off', cap', ev', hb', hcs'⟩ := H'.out.at (by omega)
        obtain ⟨rfl, rfl⟩ : a' = some ⟨b', off', none⟩ ∧ c' = cap' := by simpa using ev'
        have hx := hcs k hlt
        have hx' := hcs' k hlt'
        clear hcs ev hcs' ev'
        generalize hy : l.getD k 0 = y at *
        generalize hy' : l'.getD k 0 = y' at *
        have HY := Lib.hid hy
        have HY' := Lib.hid hy'
        clear hy hy'
        by_cases hyy : y = y'
        · subst hyy
          have hall : ∀ j, j < k + 1 → l.getD j 0 = l'.getD j 0 := by
            intro j hj
            by_cases e : j = k
            · subst e; rw [HY.out, HY'.out]
            · exact HA.out j (by omega)
          have HB := Lib.hid hall
          clear hall
          go_wp2_with fail
          go_quiet (fail)
          go_wp2
          go_roundw
          case rel => exact ⟨k + 1, by omega, by go_num, HB, q + nq, by first | rfl | rw [World.drewN_drewN]⟩
          case measure => simp [intOf]; omega
        · have hne : (y != y') = true := by simpa using hyy
          have hfin : decide (l = l') = false := by
            simp only [decide_eq_false_iff_not]
            intro e
            apply hyy
            rw [← HY.out, ← HY'.out, e]
          have HF := Lib.hid hfin
          clear hfin hyy
          go_wp2_with fail
          go_quiet (fail)
          go_wp2
          go_ret
          exact ⟨by rw [HF.out]; rfl, q + nq, by first | rfl | rw [World.drewN_drewN]⟩
      · have hfin : decide (l = l') = true := by
          simp only [decide_eq_true_eq]
          apply List.ext_getElem HLL.out
          intro j h1 h2
          have := HA.out j (by omega)
          simpa [h1, h2] using this
        have HF := Lib.hid hfin
        clear hfin
        go_wp2
        go_ret
        exact ⟨by rw [HF.out]; rfl, q, rfl⟩
  · have hd : ((l.length : Int) != (l'.length : Int)) = true := by rw [bne_iff_ne]; omega
    have hfin : decide (l = l') = false := by
      simp only [decide_eq_false_iff_not]
      intro e; exact hll (by rw [e])
    have HF := Lib.hid hfin
    have hne : ¬ l.length = l'.length := hll
    clear hfin hll
    go_enter Tryd.func13, Tryd.ntmps13
    go_wp2
    go_ret
    exact ⟨by rw [HF.out]; rfl, 0, rfl⟩

/-- A row of the program's own, of small numbers, as a list of ints. -/
theorem ints_of_row {w : World} {b : Nat} {v : Value} {l : List Nat} (h : w.ownsRow b 3 1 v l.length (l.map fun x : Nat => Value.int .i64 (x : Int))) (hl : l.length ≤ 65536) (hx : ∀ x ∈ l, x < 65536) : IntsAt w v (l.map fun x : Nat => (x : Int)) := by
  refine ⟨fun x hm => ?_, by rw [List.length_map]; omega, ?_⟩
  · obtain ⟨y, hy, rfl⟩ := List.mem_map.1 hm
    have := hx y hy; omega
  · rcases h.2 with ⟨hv, h0⟩ | ⟨g, cap, cur, rfl, hb, hg, hle, hm, hcs, ht⟩
    · left
      refine ⟨hv, ?_⟩
      have : l = [] := List.eq_nil_of_length_eq_zero h0
      rw [this]; rfl
    · right
      refine ⟨⟨g, 0, none⟩, cap, by rw [List.length_map], fun i hi => ⟨lt_of_heap hg, ?_⟩⟩
      rw [List.length_map] at hi
      have hc := h.cells (g := g) rfl i (.int .i64 ((l.getD i 0 : Nat) : Int)) (by simp [hi])
      rw [hc]
      simp [hi]

end Go.Proofs.YtagbclijbeodaaaDoor
