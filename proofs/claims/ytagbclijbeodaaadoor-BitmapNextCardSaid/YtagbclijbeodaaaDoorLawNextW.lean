/- The walk of BitmapNext. -/
import Derived.Test.YtagbclijbeodaaaDoorBnE
import Derived.Test.YtagbclijbeodaaaDoorBnF
import Derived.Test.YtagbclijbeodaaaDoorBnG
namespace Go.Proofs.YtagbclijbeodaaaDoor
open Go.RowKit
set_option linter.unusedVariables false

theorem MadeSet.kept {B : Nat} {w w' : World} {s n : Nat} {v : Value} {ws : List Nat} (h : MadeSet B w s n v ws) (k : Kept No w w') : MadeSet B w' s n v ws :=
  ⟨h.1.no' k, h.2⟩
theorem row_no {w w' : World} {b : Nat} {e : TypeId} {z : Nat} {v : Value} {n : Nat} {xs : List Value} (h : w.ownsRow b e z v n xs) (k : Kept No w w') : w'.ownsRow b e z v n xs := k.row h (fun _ _ x => x)
theorem row_len {w : World} {b : Nat} {e : TypeId} {z : Nat} {v : Value} {n : Nat} {xs : List Value} (h : w.ownsRow b e z v n xs) : ∃ a cap, v = .slice a n cap := by
  rcases h.2 with ⟨h1, h2⟩ | ⟨g, cap, cur, h1, _⟩
  · rw [h1, h2]; exact ⟨_, _, rfl⟩
  · exact ⟨_, _, h1⟩

set_option maxHeartbeats 4000000 in
set_option maxRecDepth 100000 in
theorem next_walk (n : Int) (v1 : Value) (l : List Int) (f : Int) (w : World) (hn : -9223372036854775808 ≤ n) (hn2 : n ≤ 9223372036854775807) (h1 : IntsAt w v1 l) (hf : -9223372036854775808 ≤ f) (hf2 : f ≤ 9223372036854775807) (hT : Tab w) :
    Calls Tryd.prog 4 #[.int .i64 n, v1, .int .i64 f] w fun e w' => e = .returned (.bool true) ∧ Below w.heap.size w w' := by
  have hof := of_ok n v1 l w hn hn2 h1
  have h0 : 0 ≤ n % 2001 := Int.emod_nonneg _ (by omega)
  have h3 : n % 2001 < 2001 := Int.emod_lt_of_pos _ (by omega)
  obtain ⟨N, hN⟩ := Int.eq_ofNat_of_zero_le h0
  have eN : (n % 2001).toNat = N := by rw [hN]; rfl
  rw [eN] at hof
  rw [hN] at h3
  have ta := tidy_puts N l
  have hmem : ∀ x ∈ l, N ≠ 0 → mem (puts N l) (x % (N : Int)).toNat = true := fun x hx hN0 => mem_puts hN0 l x hx
  have hcnt := els_count ta
  have hlast := firstFrom_nx N (puts N l) f
  have hlen := els_length_le N (puts N l) 0
  have hsub : ∀ x ∈ els N (puts N l) 0, x < 65536 := fun x hx => by have := (mem_els.1 hx).1; omega
  have hln := h1.2.1
  obtain ⟨a1, c1, e1⟩ := h1.len
  subst e1
  obtain ⟨i0, hi, hz0, hz1, hz2⟩ := info_parts Tryd.infoInt
  generalize puts N l = A at *
  have HO := Lib.hid hof
  have HL := Lib.hid h1
  have HA := Lib.hid ta
  have HM := Lib.hid hmem
  have HC := Lib.hid hcnt
  have HF := Lib.hid hlast
  have HS := Lib.hid hsub
  have HT := Lib.hid hT
  clear hof h1 ta hmem hcnt hlast hsub hT hN eN h0
  go_enter Tryd.func4, Tryd.ntmps4
  go_wp2_with fail
  refine HO.out.mono ?_
  rintro e w1 ⟨s, u, rfl, k1, ms⟩
  go_wp2_with fail
  refine (next_nat s N u A w1 0 ms.1 HA.out (HT.out.kept k1 (fun h => h))).mono ?_
  rintro e w' ⟨rfl, rfl⟩
  rw [nx_head]
  unfold told2
  generalize ho : (els N A 0).head? = o
  have HO1 := Lib.hid ho
  have hsz1 := k1.size
  have hs1 := ms.1.lt
  have hu1 : ∀ g, u.ownBlock = some g → g < w1.heap.size := fun g hg => ms.1.own_lt hg
  have HU := Lib.hid hu1
  clear hu1
  clear ho HO
  go_wp2_with fail
  go_loopw [8, 9, 10] (fun wl i ok wr => ∃ (pre rest : List Nat) (f : Nat), i = .int .i64 ((rest.head?.getD 0 : Nat) : Int) ∧ ok = .bool rest.head?.isSome ∧ Hid (els N A 0 = pre ++ rest ∧ rest = els N A f) ∧ Kept No w wr ∧ MadeSet w.heap.size wr s N u A ∧ w1.heap.size ≤ wr.heap.size ∧ wr.ownsRow w1.heap.size 3 1 wl pre.length (nums pre)) (fun _ i ok _ => okOf ok * (N + 1 - (intOf i).toNat))
  case atStart => exact ⟨[], els N A 0, 0, by rw [HO1.out], by rw [HO1.out], ⟨rfl, rfl⟩, k1, ms, Nat.le_refl _, World.ownsRow_nil _ _ _ _⟩
  case round =>
    obtain ⟨pre, rest, g, rfl, rfl, HR, hkw, hms, hsz2, hown⟩ := hrel
    clear k1 ms HO1
    cases rest with
    | nil =>
      simp only [List.head?_nil, Option.getD_none, Option.isSome_none]
      have hE : els N A 0 = pre := by rw [HR.out.1, List.append_nil]
      clear HR
      rw [hE] at hlen
      have HC2 : Hid (pre.length = cnt A) := by rw [← hE]; exact HC.out
      have HF2 : Hid (firstFrom f pre = match nx N A f.toNat with | some x => (x : Int) | none => -1) := by rw [← hE]; exact HF.out
      have HS2 : Hid (∀ x ∈ pre, x < 65536) := by rw [← hE]; exact HS.out
      have HE := Lib.hid hE
      obtain ⟨a2, c2, rfl⟩ := row_len hown
      clear HC HF HS hE
      go_wp2_with fail
      have X0 : Hid (Kept No w wr ∧ MadeSet w.heap.size wr s N u A ∧ wr.ownsRow w1.heap.size 3 1 (.slice a2 pre.length c2) pre.length (nums pre)) := ⟨hkw, hms, hown⟩
      clear hkw hms hown
      obtain ⟨wo, rfl⟩ : ∃ wo : World, wo = wr := ⟨_, rfl⟩
      go_loopw [11] (fun i wq => ∃ k : Nat, k ≤ l.length ∧ i = .int .i64 k ∧ Kept No w wq ∧ MadeSet w.heap.size wq s N u A ∧ wq.ownsRow w1.heap.size 3 1 (.slice a2 pre.length c2) pre.length (nums pre)) (fun i _ => l.length - (intOf i).toNat)
      case atStart => exact ⟨0, Nat.zero_le _, rfl, X0.out⟩
      case round =>
        obtain ⟨k, hk, rfl, hkw, hms, hown⟩ := hrel
        clear X0
        by_cases hlt : k < l.length
        · by_cases hN0 : N = 0
          · have hgd : decide (0 < N) = false := by simp; omega
            have hlen2 := fun q => len_any s N u A (wr.drewN q) (hms.1.drewN q)
            clear hN0
            go_wp2_with fail
            go_quiet ((go_at_call 16; exact quiet (hlen2 _)))
            go_wp2
            go_roundw
            case rel => exact ⟨k + 1, by omega, by go_num, hkw.drewN _, ⟨hms.1.drewN _, hms.2⟩, row_no hown ((Kept.refl No wr).drewN _)⟩
            case measure => simp [intOf]; omega
          · have hgd : decide (0 < N) = true := by simp; omega
            obtain ⟨b2, off, cap, ev, hb2, hcs⟩ := (HL.out.kept hkw (fun _ _ h => h)).at (by omega)
            obtain ⟨rfl, rfl⟩ : a1 = some ⟨b2, off, none⟩ ∧ c1 = cap := by simpa using ev
            have hcell := hcs k hlt
            have hel := HL.out.elem hlt
            have hin : l.getD k 0 ∈ l := by
              have e : l.getD k 0 = l[k] := by simp [hlt]
              rw [e]; exact List.getElem_mem _
            have hmm := HM.out _ hin hN0
            generalize hx : l.getD k 0 = x at *
            clear hx hcs ev hb2 hin
            have hp0 : 0 ≤ x % (N : Int) := Int.emod_nonneg _ (by omega)
            have hp1 : x % (N : Int) < N := Int.emod_lt_of_pos _ (by omega)
            obtain ⟨y, hy⟩ := Int.eq_ofNat_of_zero_le hp0
            rw [hy] at hp1 hmm
            have hints : ∀ q, IntsAt (wr.drewN q) (.slice a2 pre.length c2) (pre.map fun x : Nat => (x : Int)) := fun q => ints_of_row (row_no hown ((Kept.refl No wr).drewN q)) (by omega) HS2.out
            have hy2 : decide (((y : Nat) : Int) ∈ pre.map fun x : Nat => (x : Int)) = true := by
              rw [decide_eq_true_eq, List.mem_map]
              refine ⟨y, ?_, rfl⟩
              rw [← HE.out, mem_els]
              exact ⟨by omega, Nat.zero_le _, by simpa using hmm⟩
            have hlen2 := fun q => len_any s N u A (wr.drewN q) (hms.1.drewN q)
            have hbel : ∀ q, Calls Tryd.prog 18 #[.int .i64 x, .int .i64 (N : Int)] (wr.drewN q) fun e w' => e = .returned (.int .i64 (y : Int)) ∧ wr.drewN q = w' := fun q => by
              have := below_ok x N (wr.drewN q) hel.1 hel.2 (by omega) (by omega)
              rw [hy] at this
              exact this
            have his : ∀ q, Calls Tryd.prog 17 #[.slice a2 pre.length c2, .int .i64 (y : Int)] (wr.drewN q) fun e w' => e = .returned (.bool true) ∧ wr.drewN q = w' := fun q => by
              have := is_ok _ _ (y : Int) (wr.drewN q) (hints q)
              rw [hy2] at this
              exact this
            have HI := Lib.hid his
            have HBl := Lib.hid hbel
            have HLn := Lib.hid hlen2
            clear hN0 hmm hp0 hy hints hy2 hlen2 hbel his
            go_wp2_with fail
            go_quiet ((first | (go_at_call 16; exact quiet (HLn.out _)) | (go_at_call 18; exact quiet (HBl.out _)) | (go_at_call 17; exact quiet (HI.out _))))
            go_wp2
            go_roundw
            case rel => exact ⟨k + 1, by omega, by go_num, hkw.drewN _, ⟨hms.1.drewN _, hms.2⟩, row_no hown ((Kept.refl No wr).drewN _)⟩
            case measure => simp [intOf]; omega
        · obtain rfl : k = l.length := by omega
          clear hlt hk
          have hnil : Hid (l.length = 0 ∨ N = 0 ∨ 0 < pre.length) := by
            rcases Nat.eq_zero_or_pos l.length with h | h
            · exact .inl h
            rcases Nat.eq_zero_or_pos N with h2 | h2
            · exact .inr (.inl h2)
            · refine .inr (.inr ?_)
              have hin : l[0] ∈ l := List.getElem_mem _
              have hm := HM.out _ hin (by omega)
              have h5 := Int.emod_nonneg l[0] (show (N : Int) ≠ 0 by omega)
              have h6 := Int.emod_lt_of_pos l[0] (show (0 : Int) < N by omega)
              have : (l[0] % (N : Int)).toNat ∈ els N A 0 := mem_els.2 ⟨by omega, Nat.zero_le _, hm⟩
              rw [HE.out] at this
              exact List.length_pos_of_mem this
          have hpl : pre.length ≤ 65536 := by omega
          have X1 : Hid (Kept No w wr ∧ MadeSet w.heap.size wr s N u A ∧ wr.ownsRow w1.heap.size 3 1 (.slice a2 pre.length c2) pre.length (nums pre)) := ⟨hkw, hms, hown⟩
          have hints := ints_of_row hown hpl HS2.out
          have HIn := Lib.hid hints
          clear hkw hms hown hints
          go_wp2_with fail
          obtain ⟨wo2, rfl⟩ : ∃ wo2 : World, wo2 = wr := ⟨_, rfl⟩
          have hl0 : (pre.length : Int) - 1 = (pre.length : Int) - 1 := rfl
          clear hl0
          go_loop [12, 13] (fun a b => ∃ j : Nat, j ≤ pre.length ∧ b = .int .i64 ((j : Int) - 1) ∧ a = .int .i64 (firstFrom f (pre.drop j))) (fun _ b => (intOf b + 1).toNat)
          case atStart => exact ⟨pre.length, Nat.le_refl _, rfl, by rw [List.drop_length]; rfl⟩
          case round =>
            obtain ⟨j, hj, rfl, rfl⟩ := hrel
            cases j with
            | zero =>
              rw [List.drop_zero]
              have hT3 := HT.out.kept X1.out.1 (fun h => h)
              have hnx := next_any s N u A wo2 f X1.out.2.1.1 HA.out hT3
              have hgone := gone_ok s N u A wo2 X1.out.2.1.1 HA.out hT3
              have hcount := HC2.out
              rw [HF2.out]
              generalize hq : nx N A f.toNat = q at hnx ⊢
              have HNX := Lib.hid hnx
              have HGO := Lib.hid hgone
              have HCN := Lib.hid hcount
              clear hnx hgone hT3 hq hcount
              cases q
              all_goals
                simp only
                go_wp2_with fail
                refine HNX.out.mono ?_
                rintro e w' ⟨rfl, rfl⟩
                unfold told2
                simp only [Option.getD_none, Option.isSome_none, Option.getD_some, Option.isSome_some]
                go_wp2_with fail
                refine HGO.out.mono ?_
                rintro e w5 ⟨ug, rfl, k5, hown5⟩
                rw [HE.out] at hown5
                have hk5 := X1.out.1.trans k5
                have hm5 := X1.out.2.1.kept k5
                have hg5 := ints_of_row hown5 hpl HS2.out
                have hw5 := ints_of_row (row_no X1.out.2.2 k5) hpl HS2.out
                have hsame := sameInts_ok _ _ _ _ w5 hw5 hg5
                rw [decide_eq_true (rfl : (pre.map fun x : Nat => (x : Int)) = pre.map fun x : Nat => (x : Int))] at hsame
                have HSM := Lib.hid hsame
                have X2 : Hid (Kept No w w5 ∧ MadeSet w.heap.size w5 s N u A) := ⟨hk5, hm5⟩
                clear hown5 hk5 hm5 hg5 hw5 hsame k5
                go_wp2_with fail
                refine HSM.out.mono ?_
                rintro e w' ⟨rfl, q6, rfl⟩
                have X3 : Hid (Kept No w (w5.drewN q6) ∧ SetAt (w5.drewN q6) s N u A) := ⟨X2.out.1.drewN _, X2.out.2.1.drewN _⟩
                clear X2 HSM HGO HNX
                generalize w5.drewN q6 = w6 at *
                go_wp2_with fail
                refine (count_ok s N u A w6 X3.out.2).mono ?_
                rintro e w' ⟨rfl, rfl⟩
                rw [← HCN.out]
                rcases hnil.out with hz | hz | hz
                · go_wp2_with fail
                  go_ret
                  exact ⟨rfl, X3.out.1.below (Nat.le_refl _) (fun _ _ h => h)⟩
                · by_cases hz0 : l.length = 0
                  · go_wp2_with fail
                    go_ret
                    exact ⟨rfl, X3.out.1.below (Nat.le_refl _) (fun _ _ h => h)⟩
                  · go_wp2_with fail
                    refine (len_any s N u A w6 X3.out.2).mono ?_
                    rintro e w' ⟨rfl, rfl⟩
                    go_wp2_with fail
                    go_ret
                    exact ⟨rfl, X3.out.1.below (Nat.le_refl _) (fun _ _ h => h)⟩
                · by_cases hz0 : l.length = 0
                  · go_wp2_with fail
                    go_ret
                    exact ⟨rfl, X3.out.1.below (Nat.le_refl _) (fun _ _ h => h)⟩
                  · go_wp2_with fail
                    refine (len_any s N u A w6 X3.out.2).mono ?_
                    rintro e w' ⟨rfl, rfl⟩
                    by_cases hN1 : N = 0
                    · go_wp2_with fail
                      go_ret
                      exact ⟨rfl, X3.out.1.below (Nat.le_refl _) (fun _ _ h => h)⟩
                    · go_wp2_with fail
                      go_ret
                      exact ⟨rfl, X3.out.1.below (Nat.le_refl _) (fun _ _ h => h)⟩
            | succ j =>
              rw [show (((j + 1 : Nat) : Int) - 1) = (j : Int) by omega]
              obtain ⟨b2, off, cap, ev, hb2, hcs⟩ := HIn.out.at (by rw [List.length_map]; omega)
              rw [List.length_map] at ev hcs
              obtain ⟨rfl, rfl⟩ : a2 = some ⟨b2, off, none⟩ ∧ c2 = cap := by simpa using ev
              have hcell := hcs j (by omega)
              have e1 : (pre.map fun x : Nat => (x : Int)).getD j 0 = ((pre.getD j 0 : Nat) : Int) := by simp [show j < pre.length by omega]
              rw [e1] at hcell
              have hst := firstFrom_step f pre j (by omega)
              generalize hx : pre.getD j 0 = x at *
              clear hx hcs ev e1
              by_cases hfx : f ≤ (x : Int)
              · rw [if_pos hfx] at hst
                have HST := Lib.hid hst
                clear hst
                go_wp2
                go_round
                case rel => exact ⟨j, by omega, rfl, by rw [HST.out]⟩
                case measure => simp [intOf]
              · rw [if_neg hfx] at hst
                have HST := Lib.hid hst
                have hfx2 : (x : Int) < f := by omega
                clear hst hfx
                go_wp2
                go_round
                case rel => exact ⟨j, by omega, rfl, by rw [HST.out]⟩
                case measure => simp [intOf]
    | cons x rest =>
      simp only [List.head?_cons, Option.getD_some, Option.isSome_some]
      have hx := els_nx_cons HR.out.2.symm
      obtain ⟨hxn, _, hxm, _⟩ := nx_spec hx.1
      have hpl : pre.length + 1 ≤ N := by
        have := hlen
        rw [HR.out.1] at this
        simp at this; omega
      have HX := Lib.hid hx
      have HXM := Lib.hid hxm
      have hsz := hkw.size
      clear hx hxm
      go_wp2_with (at_builtin; refine wpList_append_own _ rfl _ _ 22 rfl w1.heap.size 3 i0 (.int .i64 0) 1 8 Tryd.underlying22 hi hz0 hz1 hz2 rfl (by decide) _ _ _ rfl (hown.alloc _) ⟨wr.heap.size, 0, none⟩ 1 1 [.int .i64 (x : Int)] rfl rfl (cell_one_new _ _ _) (by simp [Value.oneCell']) (by unfold maxLen; omega) (by omega) (by simp; omega) ?_)
      intro v' wa hown' hgrow _
      obtain ⟨g', cap', rfl⟩ := ownsRow_succ hown'
      have ka : Kept No w wa := (hkw.alloc _).next (Kept.of_grown hgrow) fun j hj e => by have := (hown.lt j e).1; omega
      have hma : MadeSet w.heap.size wa s N u A := ⟨(hms.1.no' ((Kept.refl _ _).alloc _)).kept (Kept.of_grown hgrow) (fun e => by have := (hown.lt _ e).1; omega) (fun j h1 h2 => by have := (hown.lt _ h2).1; have := HU.out _ h1; omega), hms.2⟩
      have hsz3 : w1.heap.size ≤ wa.heap.size := by have := hgrow.size; simp at this; omega
      have hown2 : wa.ownsRow w1.heap.size 3 1 (.slice (some ⟨g', 0, none⟩) (pre.length + 1) cap') (pre ++ [x]).length (nums (pre ++ [x])) := by simpa [nums] using hown'
      clear hown hown' hgrow hkw hms
      have hTa := HT.out.kept ka (fun h => h)
      have HTA := Lib.hid hTa
      clear hTa
      go_wp2_with fail
      refine (has_in s N u A wa x hma.1 hxn).mono ?_
      rintro e w' ⟨rfl, rfl⟩
      have hbit : (A.getD (x / 64) 0).testBit (x % 64) = true := HXM.out
      rw [hbit]
      clear hbit
      go_wp2_with fail
      refine (len_any s N u A wa hma.1).mono ?_
      rintro e w' ⟨rfl, rfl⟩
      go_wp2_with fail
      rw [show ((x : Int) + 1) = ((x + 1 : Nat) : Int) from rfl]
      refine (next_nat s N u A wa (x + 1) hma.1 HA.out HTA.out).mono ?_
      rintro e w' ⟨rfl, rfl⟩
      have hrest := HX.out.2
      rw [nx_head, ← hrest]
      unfold told2
      have hR2 : Hid (els N A 0 = (pre ++ [x]) ++ rest ∧ rest = els N A (x + 1)) := ⟨by rw [HR.out.1]; simp, hrest⟩
      have hmeas : okOf (.bool rest.head?.isSome) * (N + 1 - (rest.head?.getD 0)) < N + 1 - x := by
        cases hr : rest with
        | nil => simp [okOf]; omega
        | cons y r =>
          rw [hr] at hrest
          have := (nx_spec (els_nx_cons hrest.symm).1).2.1
          simp [okOf]; omega
      have HMs := Lib.hid hmeas
      clear hmeas hrest
      generalize ho2 : rest.head? = o2 at HMs ⊢
      have HO2 := Lib.hid ho2
      have HK := Lib.hid ka
      have HMA := Lib.hid hma
      have HW2 := Lib.hid hown2
      clear ho2 ka hma hown2
      go_wp2_with fail
      go_roundw
      case rel => exact ⟨pre ++ [x], rest, x + 1, by rw [HO2.out], by rw [HO2.out], hR2, HK.out, HMA.out, hsz3, HW2.out⟩
      case measure =>
        have := HMs.out
        simp only [intOf, okOf, Int.toNat_natCast, Nat.one_mul] at this ⊢
        exact this

end Go.Proofs.YtagbclijbeodaaaDoor
