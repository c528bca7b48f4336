/- The contract on the law's helper of. -/
import Derived.Test.YtagbclijbeodaaaDoorBmD
import Derived.StillTailTactics
namespace Go.Proofs.YtagbclijbeodaaaDoor
open Go.RowKit
set_option linter.unusedVariables false

/-- What of makes of the numbers: nothing, where the bound is 0. -/
def puts (n : Nat) (l : List Int) : List Nat := if n = 0 then List.replicate ((n + 63) / 64) 0 else l.foldl (fun ws x => putW ws (x % (n : Int)).toNat) (List.replicate ((n + 63) / 64) 0)

theorem puts_zero (l : List Int) : puts 0 l = [] := rfl
theorem puts_nil (n : Nat) : puts n [] = List.replicate ((n + 63) / 64) 0 := by unfold puts; split <;> rfl
theorem puts_snoc (n : Nat) (l : List Int) (x : Int) (h : n ≠ 0) : puts n (l ++ [x]) = putW (puts n l) (x % (n : Int)).toNat := by
  unfold puts; rw [if_neg h, if_neg h, List.foldl_append]; rfl
theorem take_snocD (l : List Int) (k : Nat) (h : k < l.length) : l.take (k + 1) = l.take k ++ [l.getD k 0] := by
  rw [List.take_succ_eq_append_getElem h]; simp [h]

theorem of_ok (n : Int) (v : Value) (l : List Int) (w : World) (hn : -9223372036854775808 ≤ n) (hn2 : n ≤ 9223372036854775807) (hl : IntsAt w v l) :
    Calls Tryd.prog 5 #[.int .i64 n, v] w fun e w' => ∃ s u, e = .returned (.pointer (some ⟨s, 0, none⟩)) ∧ Kept No w w' ∧ MadeSet w.heap.size w' s (n % 2001).toNat u (puts (n % 2001).toNat l) := by
  have hb := bound_ok n w hn hn2
  have h0 : 0 ≤ n % 2001 := Int.emod_nonneg _ (by omega)
  have h1 : n % 2001 < 2001 := Int.emod_lt_of_pos _ (by omega)
  obtain ⟨N, hN⟩ := Int.eq_ofNat_of_zero_le h0
  rw [hN] at hb h1
  have eN : (n % 2001).toNat = N := by rw [hN]; rfl
  rw [eN]
  have hnew := new_ok N w (by omega)
  have hln := hl.2.1
  obtain ⟨al, cl, ev⟩ := hl.len
  subst ev
  have HL := Lib.hid hl
  have HB := Lib.hid hb
  have HN := Lib.hid hnew
  clear hl hb hnew hN eN h0
  go_enter Tryd.func5, Tryd.ntmps5
  go_wp2_with fail
  refine HB.out.mono ?_
  rintro e w' ⟨rfl, rfl⟩
  go_wp2_with fail
  refine HN.out.mono ?_
  rintro e w' ⟨s, u, rfl, hk, hset, hs, hu⟩
  go_wp2_with fail
  go_loopw [7] (fun i wr => ∃ k : Nat, k ≤ l.length ∧ i = .int .i64 k ∧ Kept No w wr ∧ MadeSet w.heap.size wr s N u (puts N (l.take k))) (fun i _ => l.length - (intOf i).toNat)
  case atStart => exact ⟨0, Nat.zero_le _, rfl, hk, by rw [List.take_zero, puts_nil]; exact hset, hs, hu⟩
  case round =>
    obtain ⟨k, hkl, rfl, hkw, hm⟩ := hrel
    clear hk hset hs hu
    by_cases hlt : k < l.length
    · by_cases hN0 : N = 0
      · subst hN0
        have hgd : decide ((0 : Int) < ((0 : Nat) : Int)) = false := rfl
        have hlen := fun q => len_any s 0 u _ (wr.drewN q) (hm.1.drewN q)
        go_wp2_with fail
        go_quiet ((go_at_call 16; exact quiet (hlen _)))
        go_wp2
        go_roundw
        case rel => exact ⟨k + 1, by omega, by go_num, hkw.drewN _, hm.1.drewN _, hm.2⟩
        case measure => simp [intOf]; omega
      · have hgd : decide (0 < N) = true := by simp; omega
        obtain ⟨b, off, cap, ev, hb2, hcs⟩ := (HL.out.kept hkw (fun _ _ h => h)).at (by omega)
        obtain ⟨rfl, rfl⟩ : al = some ⟨b, off, none⟩ ∧ cl = cap := by simpa using ev
        have hcell := hcs k hlt
        have hel := HL.out.elem hlt
        have hsn := puts_snoc N (l.take k) (l.getD k 0) hN0
        rw [← take_snocD l k hlt] at hsn
        have HS := Lib.hid hsn
        clear hsn hcs ev hb2
        generalize hx : l.getD k 0 = x at *
        clear hx
        have hp0 : 0 ≤ x % (N : Int) := Int.emod_nonneg _ (by omega)
        have hp1 : x % (N : Int) < N := Int.emod_lt_of_pos _ (by omega)
        obtain ⟨y, hy⟩ := Int.eq_ofNat_of_zero_le hp0
        have hlen := flip (len_any s N u _ wr.drew hm.1.drew)
        have hbel := flip (below_ok x N wr.drew hel.1 hel.2 (by omega) (by omega))
        rw [hy] at hbel HS hp1
        have hput := put_ok s N u _ wr.drew y hm.1.drew (by omega)
        clear hp0 hy
        go_wp2_with fail
        go_still_tail 12, (by kernel_rfl)
        still_call hlen
        repeat still_step
        still_call hlen
        repeat still_step
        still_call hbel
        repeat still_step
        refine wpStill_nil ?_
        change wpList _ _ _ _ _ wr.drew
        have hkd := hkw.drew
        have HP := Lib.hid hput
        have hsb := hm.2
        clear hput hlen hbel hkw hm
        generalize wr.drew = w2 at *
        go_wp2_with fail
        refine HP.out.mono ?_
        rintro e w3 ⟨rfl, hk3, hs3⟩
        go_wp2
        go_roundw
        case rel => exact ⟨k + 1, by omega, by go_num, hkd.next hk3 (fun j hj e => by have := hsb.2 j e; omega), by rw [HS.out]; exact hs3, hsb⟩
        case measure => simp [intOf]; omega
    · go_wp2_with fail
      go_ret
      have hkk : k = l.length := by omega
      subst hkk
      rw [List.take_length] at hm
      exact ⟨s, u, rfl, hkw, hm⟩

end Go.Proofs.YtagbclijbeodaaaDoor
