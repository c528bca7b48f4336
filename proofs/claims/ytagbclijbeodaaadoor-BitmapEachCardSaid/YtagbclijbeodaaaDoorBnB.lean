/- The contract on Next. -/
import Derived.Test.YtagbclijbeodaaaDoorBnA
import Derived.Test.YtagbclijbeodaaaDoorBmP
namespace Go.Proofs.YtagbclijbeodaaaDoor
open Go.RowKit
set_option linter.unusedVariables false

/-- The least number that is in, from f on. -/
def nx (n : Nat) (ws : List Nat) (f : Nat) : Option Nat := (List.range n).find? fun i => decide (f ≤ i) && mem ws i

theorem nx_some {n : Nat} {ws : List Nat} {f i : Nat} (h1 : i < n) (h2 : f ≤ i) (h3 : mem ws i = true) (h4 : ∀ j, f ≤ j → j < i → mem ws j = false) : nx n ws f = some i := by
  unfold nx
  rw [List.find?_eq_some_iff_getElem]
  refine ⟨by simp [h2, h3], i, by simpa using h1, by simp, fun j hj => ?_⟩
  have e : (List.range n)[j]'(by simp; omega) = j := by simp
  rw [e]
  by_cases h : f ≤ j
  · simp [h4 j h hj]
  · simp [h]
theorem nx_none {n : Nat} {ws : List Nat} {f : Nat} (h : ∀ j, f ≤ j → j < n → mem ws j = false) : nx n ws f = none := by
  unfold nx
  rw [List.find?_eq_none]
  intro i hi
  rw [List.mem_range] at hi
  by_cases hf : f ≤ i
  · simp [h i hf hi]
  · simp [hf]

def told2 (o : Option Nat) : Value := .tuple #[.int .i64 ((o.getD 0 : Nat) : Int), .bool o.isSome]

theorem testBit_masked (x k t : Nat) (hx : x < 18446744073709551616) (hk : k < 64) : (x / 2 ^ k * 2 ^ k).testBit t = (decide (k ≤ t) && x.testBit t) := by
  rw [Nat.testBit_mul_two_pow]
  by_cases h : k ≤ t
  · simp only [h, decide_true, Bool.true_and]
    rw [Nat.testBit_div_two_pow]
    congr 1; omega
  · simp [h]
theorem masked_lt (x k : Nat) (hx : x < 18446744073709551616) : x / 2 ^ k * 2 ^ k < 18446744073709551616 := Nat.lt_of_le_of_lt (Nat.div_mul_le_self x (2 ^ k)) hx
theorem wrap_masked (x k : Nat) (hx : x < 18446744073709551616) : IntKind.u64.wrap ((x : Int) / 2 ^ k * 2 ^ k) = ((x / 2 ^ k * 2 ^ k : Nat) : Int) := by
  have := masked_lt x k hx
  rw [IntKind.wrap_u64, int_pow2, ← Int.natCast_ediv, ← Int.natCast_mul]
  generalize x / 2 ^ k * 2 ^ k = y at *
  omega

theorem zero_bits (x : Nat) (h : ∀ t, t < 64 → x.testBit t = false) (hx : x < 18446744073709551616) : x = 0 := by
  apply Nat.eq_of_testBit_eq
  intro i
  rw [Nat.zero_testBit]
  by_cases hi : i < 64
  · exact h i hi
  · exact testBit_big x i hx (by omega)

theorem next_out (s n : Nat) (v : Value) (ws : List Nat) (w : World) (f : Nat) (h : SetAt w s n v ws) (h1 : n ≤ f) :
    Calls Tryd.prog 14 #[.pointer (some ⟨s, 0, none⟩), .int .i64 (f : Int)] w fun e w' => e = .returned (.tuple #[.int .i64 0, .bool false]) ∧ w = w' := by
  have hc := h.n_cell
  have hd : decide (n ≤ f) = true := by simpa using h1
  clear h
  go_enter Tryd.func14, Tryd.ntmps14
  go_wp2
  go_ret2
  exact ⟨rfl, rfl⟩
theorem next_out_neg (s : Nat) (v : Value) (ws : List Nat) (w : World) (f : Int) (h : SetAt w s 0 v ws) (h1 : f < 0) :
    Calls Tryd.prog 14 #[.pointer (some ⟨s, 0, none⟩), .int .i64 f] w fun e w' => e = .returned (.tuple #[.int .i64 0, .bool false]) ∧ w = w' := by
  have hc := h.n_cell
  clear h
  go_enter Tryd.func14, Tryd.ntmps14
  go_wp2
  go_ret2
  exact ⟨rfl, rfl⟩

set_option maxHeartbeats 1000000 in
theorem next_in (s n : Nat) (v : Value) (ws : List Nat) (w : World) (f : Nat) (h : SetAt w s n v ws) (ht : Tidy n ws) (hT : Tab w) (h1 : f < n) :
    Calls Tryd.prog 14 #[.pointer (some ⟨s, 0, none⟩), .int .i64 (f : Int)] w fun e w' => e = .returned (told2 (nx n ws f)) ∧ w = w' := by
  have hc := h.n_cell
  have hv := h.v_cell
  have hsz := h.size
  have hlim : ws.length ≤ 1024 := by have := h.bound; omega
  obtain ⟨g, cap, rfl, _, _, hcs, _⟩ := h.slice (by omega)
  have hx := hcs (f / 64) (by omega)
  have hxl := h.word (f / 64)
  have hkl : f / 64 < ws.length := by omega
  have HC := Lib.hid hcs
  have HT := Lib.hid hT
  have HD := Lib.hid ht
  have hw6 := wrap_masked (ws.getD (f / 64) 0) (f % 64) hxl
  have hl6 := masked_lt (ws.getD (f / 64) 0) (f % 64) hxl
  have hb6 : ∀ t, t < 64 → (ws.getD (f / 64) 0 / 2 ^ (f % 64) * 2 ^ (f % 64)).testBit t = (decide (f ≤ 64 * (f / 64) + t) && mem ws (64 * (f / 64) + t)) := by
    intro t ht
    rw [testBit_masked _ _ _ hxl (Nat.mod_lt _ (by omega))]
    unfold mem
    rw [show (64 * (f / 64) + t) / 64 = f / 64 by omega, show (64 * (f / 64) + t) % 64 = t by omega]
    congr 1
    all_goals exact decide_eq_decide.2 ⟨fun h => by omega, fun h => by omega⟩
  have H6 := Lib.hid hb6
  generalize hX : ws.getD (f / 64) 0 = X at *
  have HX := Lib.hid hX
  have W6 := Lib.hid hw6
  have hfn : f < n := h1
  have hsz2 : n ≤ 64 * ws.length := by omega
  clear h hcs hT ht hw6 hb6 hX hsz
  go_enter Tryd.func14, Tryd.ntmps14
  go_wp2_with fail
  rw [W6.out]
  go_loop [6, 7] (fun a b => ∃ y k : Nat, a = .int .u64 (y : Int) ∧ b = .int .i64 (k : Int) ∧ k < ws.length ∧ f / 64 ≤ k ∧ y < 18446744073709551616 ∧ Hid (∀ t, t < 64 → y.testBit t = (decide (f ≤ 64 * k + t) && mem ws (64 * k + t))) ∧ Hid (∀ j, f ≤ j → j < 64 * k → mem ws j = false)) (fun _ b => ws.length - (intOf b).toNat)
  case atStart => exact ⟨_, f / 64, rfl, rfl, hkl, Nat.le_refl _, hl6, H6, fun j h1 h2 => absurd h2 (by omega)⟩
  case round =>
    obtain ⟨y, k, rfl, rfl, hk, hfk, hy, hbits, hlow⟩ := hrel
    by_cases hy0 : y = 0
    · subst hy0
      have hlow' : ∀ j, f ≤ j → j < 64 * (k + 1) → mem ws j = false := by
        intro j h1 h2
        by_cases hj : j < 64 * k
        · exact hlow.out j h1 hj
        · have := hbits.out (j - 64 * k) (by omega)
          rw [show 64 * k + (j - 64 * k) = j by omega, Nat.zero_testBit] at this
          simpa [h1] using this.symm
      have HL := Lib.hid hlow'
      clear hlow' hbits hlow
      by_cases hlast : k + 1 < ws.length
      · have hx2 := HC.out (k + 1) hlast
        have hxl2 := HD.out.low (k + 1)
        have hm2 : ∀ t, t < 64 → (ws.getD (k + 1) 0).testBit t = (decide (f ≤ 64 * (k + 1) + t) && mem ws (64 * (k + 1) + t)) := by
          intro t ht
          have e1 : (64 * (k + 1) + t) / 64 = k + 1 := by omega
          have e2 : (64 * (k + 1) + t) % 64 = t := by omega
          unfold mem
          rw [e1, e2]
          by_cases hf : f ≤ 64 * (k + 1) + t
          · simp [hf]
          · exfalso
            omega
        have HM := Lib.hid hm2
        clear hm2
        generalize hX2 : ws.getD (k + 1) 0 = X2 at *
        clear hX2
        go_wp2
        go_round
        case rel => exact ⟨X2, k + 1, rfl, by go_num, hlast, by omega, hxl2, HM, HL⟩
        case measure => simp [intOf]; omega
      · have hfin : told2 (nx n ws f) = .tuple #[.int .i64 0, .bool false] := by
          rw [nx_none fun j h1 h2 => HL.out j h1 (by omega)]; rfl
        have HF := Lib.hid hfin
        clear hfin
        go_wp2
        go_ret2
        exact ⟨by rw [HF.out]; rfl, rfl⟩
    · obtain ⟨hz1, hz2, hz3⟩ := ctz_bit y hy hy0
      have htz := tz_any y w hy hy0 HT.out
      have HZ := Lib.hid htz
      have hfin : nx n ws f = some (64 * k + Lib.ctz 64 y) := by
        have h2 := hbits.out _ hz1
        rw [hz2] at h2
        simp only [Bool.true_eq, Bool.and_eq_true, decide_eq_true_eq] at h2
        refine nx_some ?_ h2.1 h2.2 fun j h3 h4 => ?_
        · rcases Nat.lt_or_ge (64 * k + Lib.ctz 64 y) n with h | h
          · exact h
          · have := HD.out.top _ h
            unfold mem at h2
            rw [this] at h2; cases h2.2
        · by_cases hj : j < 64 * k
          · exact hlow.out j h3 hj
          · have h5 := hbits.out (j - 64 * k) (by omega)
            rw [hz3 _ (by omega), show 64 * k + (j - 64 * k) = j by omega] at h5
            simpa [h3] using h5.symm
      have hfin2 : told2 (nx n ws f) = .tuple #[.int .i64 (64 * (k : Int) + (Lib.ctz 64 y : Nat)), .bool true] := by
        rw [hfin]; rfl
      have HF := Lib.hid hfin2
      have hne : ((y : Int) != 0) = true := by rw [bne_iff_ne]; omega
      clear hfin hfin2 htz hz2 hz3 hbits hlow
      generalize Lib.ctz 64 y = z at *
      go_wp2_with fail
      refine HZ.out.mono ?_
      rintro e w' ⟨rfl, rfl⟩
      go_wp2
      go_ret2
      exact ⟨by rw [HF.out]; rfl, rfl⟩

set_option maxHeartbeats 1000000 in
theorem next_neg (s n : Nat) (v : Value) (ws : List Nat) (w : World) (f : Int) (hf : f < 0) (h : SetAt w s n v ws) (ht : Tidy n ws) (hT : Tab w) (h1 : 0 < n) :
    Calls Tryd.prog 14 #[.pointer (some ⟨s, 0, none⟩), .int .i64 f] w fun e w' => e = .returned (told2 (nx n ws 0)) ∧ w = w' := by
  have hc := h.n_cell
  have hv := h.v_cell
  have hsz := h.size
  have hlim : ws.length ≤ 1024 := by have := h.bound; omega
  obtain ⟨g, cap, rfl, _, _, hcs, _⟩ := h.slice (by omega)
  have hx := hcs (0 / 64) (by omega)
  have hxl := h.word (0 / 64)
  have hkl : 0 / 64 < ws.length := by omega
  have HC := Lib.hid hcs
  have HT := Lib.hid hT
  have HD := Lib.hid ht
  have hw6 := wrap_masked (ws.getD (0 / 64) 0) (0 % 64) hxl
  have hl6 := masked_lt (ws.getD (0 / 64) 0) (0 % 64) hxl
  have hb6 : ∀ t, t < 64 → (ws.getD (0 / 64) 0 / 2 ^ (0 % 64) * 2 ^ (0 % 64)).testBit t = (decide (0 ≤ 64 * (0 / 64) + t) && mem ws (64 * (0 / 64) + t)) := by
    intro t ht
    rw [testBit_masked _ _ _ hxl (Nat.mod_lt _ (by omega))]
    unfold mem
    rw [show (64 * (0 / 64) + t) / 64 = 0 / 64 by omega, show (64 * (0 / 64) + t) % 64 = t by omega]
    congr 1
    all_goals exact decide_eq_decide.2 ⟨fun h => by omega, fun h => by omega⟩
  have H6 := Lib.hid hb6
  generalize hX : ws.getD (0 / 64) 0 = X at *
  have HX := Lib.hid hX
  have W6 := Lib.hid hw6
  have e6 : X / 2 ^ (0 % 64) * 2 ^ (0 % 64) = X := by simp
  rw [e6] at hl6 H6
  clear e6
  have hsz2 : n ≤ 64 * ws.length := by omega
  clear h hcs hT ht hw6 hb6 hX hsz
  go_enter Tryd.func14, Tryd.ntmps14
  go_wp2_with fail

  go_loop [6, 7] (fun a b => ∃ y k : Nat, a = .int .u64 (y : Int) ∧ b = .int .i64 (k : Int) ∧ k < ws.length ∧ 0 / 64 ≤ k ∧ y < 18446744073709551616 ∧ Hid (∀ t, t < 64 → y.testBit t = (decide (0 ≤ 64 * k + t) && mem ws (64 * k + t))) ∧ Hid (∀ j, 0 ≤ j → j < 64 * k → mem ws j = false)) (fun _ b => ws.length - (intOf b).toNat)
  case atStart => exact ⟨_, 0 / 64, rfl, rfl, hkl, Nat.le_refl _, hl6, H6, fun j h1 h2 => absurd h2 (by omega)⟩
  case round =>
    obtain ⟨y, k, rfl, rfl, hk, hfk, hy, hbits, hlow⟩ := hrel
    by_cases hy0 : y = 0
    · subst hy0
      have hlow' : ∀ j, 0 ≤ j → j < 64 * (k + 1) → mem ws j = false := by
        intro j h1 h2
        by_cases hj : j < 64 * k
        · exact hlow.out j h1 hj
        · have := hbits.out (j - 64 * k) (by omega)
          rw [show 64 * k + (j - 64 * k) = j by omega, Nat.zero_testBit] at this
          simpa [h1] using this.symm
      have HL := Lib.hid hlow'
      clear hlow' hbits hlow
      by_cases hlast : k + 1 < ws.length
      · have hx2 := HC.out (k + 1) hlast
        have hxl2 := HD.out.low (k + 1)
        have hm2 : ∀ t, t < 64 → (ws.getD (k + 1) 0).testBit t = (decide (0 ≤ 64 * (k + 1) + t) && mem ws (64 * (k + 1) + t)) := by
          intro t ht
          have e1 : (64 * (k + 1) + t) / 64 = k + 1 := by omega
          have e2 : (64 * (k + 1) + t) % 64 = t := by omega
          unfold mem
          rw [e1, e2]
          by_cases hf : 0 ≤ 64 * (k + 1) + t
          · simp [hf]
          · exfalso
            omega
        have HM := Lib.hid hm2
        clear hm2
        generalize hX2 : ws.getD (k + 1) 0 = X2 at *
        clear hX2
        go_wp2
        go_round
        case rel => exact ⟨X2, k + 1, rfl, by go_num, hlast, by omega, hxl2, HM, HL⟩
        case measure => simp [intOf]; omega
      · have hfin : told2 (nx n ws 0) = .tuple #[.int .i64 0, .bool false] := by
          rw [nx_none fun j h1 h2 => HL.out j h1 (by omega)]; rfl
        have HF := Lib.hid hfin
        clear hfin
        go_wp2
        go_ret2
        exact ⟨by rw [HF.out]; rfl, rfl⟩
    · obtain ⟨hz1, hz2, hz3⟩ := ctz_bit y hy hy0
      have htz := tz_any y w hy hy0 HT.out
      have HZ := Lib.hid htz
      have hfin : nx n ws 0 = some (64 * k + Lib.ctz 64 y) := by
        have h2 := hbits.out _ hz1
        rw [hz2] at h2
        simp only [Bool.true_eq, Bool.and_eq_true, decide_eq_true_eq] at h2
        refine nx_some ?_ h2.1 h2.2 fun j h3 h4 => ?_
        · rcases Nat.lt_or_ge (64 * k + Lib.ctz 64 y) n with h | h
          · exact h
          · have := HD.out.top _ h
            unfold mem at h2
            rw [this] at h2; cases h2.2
        · by_cases hj : j < 64 * k
          · exact hlow.out j h3 hj
          · have h5 := hbits.out (j - 64 * k) (by omega)
            rw [hz3 _ (by omega), show 64 * k + (j - 64 * k) = j by omega] at h5
            simpa [h3] using h5.symm
      have hfin2 : told2 (nx n ws 0) = .tuple #[.int .i64 (64 * (k : Int) + (Lib.ctz 64 y : Nat)), .bool true] := by
        rw [hfin]; rfl
      have HF := Lib.hid hfin2
      have hne : ((y : Int) != 0) = true := by rw [bne_iff_ne]; omega
      clear hfin hfin2 htz hz2 hz3 hbits hlow
      generalize Lib.ctz 64 y = z at *
      go_wp2_with fail
      refine HZ.out.mono ?_
      rintro e w' ⟨rfl, rfl⟩
      go_wp2
      go_ret2
      exact ⟨by rw [HF.out]; rfl, rfl⟩

end Go.Proofs.YtagbclijbeodaaaDoor
