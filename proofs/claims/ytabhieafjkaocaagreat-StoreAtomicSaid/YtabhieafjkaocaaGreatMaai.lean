/- A part. -/
import Derived.Test.YtabhieafjkaocaaGreatMaag
set_option linter.unusedVariables false
set_option linter.unusedSimpArgs false
namespace Go.Proofs.YtabhieafjkaocaaGreat
open Go.RowKit Go.Lib
set_option maxRecDepth 20000
structure RdAt (w : World) (p : Nat) (r : Rd) : Prop where
  row : w.heap[p]? = some (.cells #[.string ⟨⟨r.s⟩⟩, .int .i64 (r.pos : Int), .int .i64 r.err] 200 (0, 0))
  pos : r.pos ≤ r.s.length
  len : r.s.length < 4611686018427387904
theorem RdAt.kept {M : Nat → Prop} {w w' : World} {p : Nat} {r : Rd} (h : RdAt w p r) (k : Kept M w w') (hm : ¬ M p) : RdAt w' p r := ⟨k.heap h.row hm, h.pos, h.len⟩
theorem RdAt.lt {w : World} {p : Nat} {r : Rd} (h : RdAt w p r) : p < w.heap.size := lt_of_heap h.row
theorem extract_list (l : List UInt8) (a n : Nat) : (⟨⟨l⟩⟩ : ByteArray).extract a (a + n) = ⟨⟨(l.drop a).take n⟩⟩ := by
  rw [ByteArray.extract_mk]
  congr 1
  apply Array.ext'
  simp [List.extract_eq_take_drop]
theorem slice_str (s : List UInt8) (a b : Nat) (w : World) (h1 : a ≤ b) (h2 : b ≤ s.length) : (Instr.sliceAt 9 (.string ⟨⟨s⟩⟩) (some (.int .i64 (a : Int))) (some (.int .i64 (b : Int))) none).run Tryz.prog w = .ok (.string ((⟨⟨s⟩⟩ : ByteArray).extract a b)) w := by
  have hsz : (⟨⟨s⟩⟩ : ByteArray).size = s.length := rfl
  go_simp
theorem row_drewN {w : World} {g : Nat} {o : Obj} (h : w.heap[g]? = some o) (k : Nat) : (w.drewN k).heap[g]? = some o := h
set_option maxHeartbeats 1000000 in
theorem rtake_ok (p : Nat) (r : Rd) (n : Nat) (w : World) (h : RdAt w p r) (hn : n < 4611686018427387904) :
    Calls Tryz.prog 131 #[.pointer (some ⟨p, 0, none⟩), .int .i64 (n : Int)] w fun e w' =>
      e = .returned (.tuple #[.string ⟨⟨(r.take n).2.getD []⟩⟩, .bool (r.take n).2.isSome]) ∧ Kept (fun k => k = p) w w' ∧ RdAt w' p (r.take n).1 ∧ w'.heap.size = w.heap.size := by
  obtain ⟨hrow, hpos, hlen⟩ := h
  obtain ⟨s, pos, err⟩ := r
  simp only at hrow hpos hlen
  have hsz : (⟨⟨s⟩⟩ : ByteArray).size = s.length := rfl
  have c0 := (cell_of_row w p 0 _ _ _ hrow).trans rfl
  have c1 := (cell_of_row w p 1 _ _ _ hrow).trans rfl
  have c2 := (cell_of_row w p 2 _ _ _ hrow).trans rfl
  have f1 := frozen_of_row w p 1 _ _ hrow
  have f2 := frozen_of_row w p 2 _ _ hrow
  have HR := Lib.hid hrow
  clear hrow
  by_cases he : err = 0
  · subst he
    by_cases hs : s.length < pos + n
    · rw [show Rd.take ⟨s, pos, 0⟩ n = (⟨s, pos, 10⟩, none) from by simp [Rd.take, hs]]
      go_enter Tryz.func131, Tryz.ntmps131
      go_wp2_with fail
      go_quiet (fail)
      go_wp2
      go_ret2
      refine ⟨rfl, (((Kept.refl _ w).drewN _).setCell _ _ (fun _ => rfl)), ⟨?_, hpos, hlen⟩, by simp [World.setCell]⟩
      exact heap_setCell_same _ p 2 _ _ _ (row_drewN HR.out _)
    · rw [show Rd.take ⟨s, pos, 0⟩ n = (⟨s, pos + n, 0⟩, some ((s.drop pos).take n)) from by simp [Rd.take, hs]]
      have he := extract_list s pos n
      have hsl : ∀ w, (Instr.sliceAt 9 (.string ⟨⟨s⟩⟩) (some (.int .i64 (pos : Int))) (some (.int .i64 ((pos : Int) + (n : Int)))) none).run Tryz.prog w = .ok (.string ⟨⟨(s.drop pos).take n⟩⟩) w := fun w => by
        have := slice_str s pos (pos + n) w (by omega) (by omega)
        rw [he] at this
        simpa using this
      have hs' : pos + n ≤ s.length := by omega
      clear hs
      go_enter Tryz.func131, Tryz.ntmps131
      go_wp2_with fail
      go_quiet (fail)
      go_wp2_with fail
      refine wp_region_quiet_lit (by kernel_rfl) (by kernel_rfl) ?_
      repeat (go_big_quiet_step (fail))
      refine wpQuiet_nil ?_
      rintro _ ⟨nq, rfl⟩
      go_wp2
      go_ret2
      refine ⟨?_, (((Kept.refl (fun k => k = p) w).drewN _).setCell ⟨p, 1, none⟩ _ (fun _ => rfl)), ⟨?_, by simp only; omega, hlen⟩, by simp [World.setCell]⟩
      · rfl
      · exact heap_setCell_same _ p 1 _ _ _ (row_drewN HR.out _)
  · have heb : (err != 0) = true := by simpa using he
    rw [show Rd.take ⟨s, pos, err⟩ n = (⟨s, pos, err⟩, none) from by simp [Rd.take, he]]
    go_enter Tryz.func131, Tryz.ntmps131
    go_wp2
    go_ret2
    exact ⟨rfl, Kept.refl _ _, ⟨HR.out, hpos, hlen⟩, rfl⟩
set_option maxHeartbeats 1000000 in
theorem high_ok (l : List UInt8) (w : World) (hl : l.length ≤ 8) :
    Calls Tryz.prog 132 #[.string ⟨⟨l⟩⟩] w fun e w' => e = .returned (.int .u64 (num l : Int)) ∧ w = w' := by
  have hsz : (⟨⟨l⟩⟩ : ByteArray).size = l.length := rfl
  go_enter Tryz.func132, Tryz.ntmps132
  go_wp2_with fail
  go_loopw [3, 7] (fun v i wr => ∃ j : Nat, j ≤ l.length ∧ i = .int .i64 (j : Int) ∧ v = .int .u64 (num (l.take j) : Int) ∧ w = wr) (fun _ i _ => l.length - (intOf i).toNat)
  case atStart => exact ⟨0, by omega, rfl, rfl, rfl⟩
  case round =>
    obtain ⟨j, hj, rfl, rfl, rfl⟩ := hrel
    by_cases hjl : j < l.length
    · have hn := num_take_lt l j (by omega)
      have hb : l[j].toNat < 256 := l[j].toNat_lt
      have hs := num_take_succ l j hjl
      go_wp2
      refine ⟨⟨j + 1, by omega, rfl, ?_, trivial⟩, by simp [intOf]; omega⟩
      rw [hs]
      have e1 : IntKind.u64.wrap ((l[j].toNat : Nat) : Int) = ((l[j].toNat : Nat) : Int) := by rw [IntKind.wrap_u64]; omega
      have e2 := or_byte (num (l.take j)) l[j].toNat hn hb
      show Value.int .u64 (bits .or .u64 _ (IntKind.u64.wrap ((l[j].toNat : Nat) : Int))) = _
      rw [e1, e2]
    · have e : j = l.length := by omega
      subst e
      rw [List.take_length]
      go_wp2
      go_ret
      exact ⟨rfl, rfl⟩
theorem take_len (r : Rd) (n : Nat) : ((r.take n).2.getD []).length ≤ n := by
  unfold Rd.take
  split
  · simp
  · split
    · simp
    · simp; omega
set_option maxHeartbeats 1000000 in
theorem rbyte_ok (p : Nat) (r : Rd) (w : World) (h : RdAt w p r) :
    Calls Tryz.prog 124 #[.pointer (some ⟨p, 0, none⟩)] w fun e w' => e = .returned (.int .u8 ((r.fixed 1).2 : Int)) ∧ Kept (fun k => k = p) w w' ∧ RdAt w' p (r.fixed 1).1 ∧ w'.heap.size = w.heap.size := by
  have H := Lib.hid h
  have hl := take_len r 1
  have hb := num_lt ((r.take 1).2.getD [])
  have hb2 : num ((r.take 1).2.getD []) < 256 := by
    have : 256 ^ ((r.take 1).2.getD []).length ≤ 256 ^ 1 := Nat.pow_le_pow_right (by omega) hl
    omega
  unfold Rd.fixed
  clear h
  go_enter Tryz.func124, Tryz.ntmps124
  go_wp2_with fail
  refine (rtake_ok p r 1 w H.out (by decide)).mono ?_
  rintro e w1 ⟨rfl, k1, h1, z1⟩
  generalize hx : (r.take 1).2 = x at hl hb2 ⊢
  go_wp2_with fail
  refine (high_ok (x.getD []) w1 (by omega)).mono ?_
  rintro e w2 ⟨rfl, rfl⟩
  go_wp2
  go_ret
  exact ⟨by rw [hx]; rfl, k1, h1, z1⟩
set_option maxHeartbeats 1000000 in
theorem rfixed_ok (p : Nat) (r : Rd) (n : Nat) (w : World) (h : RdAt w p r) (hn : 1 ≤ n) (hn8 : n ≤ 8) :
    Calls Tryz.prog 83 #[.pointer (some ⟨p, 0, none⟩), .int .i64 (n : Int)] w fun e w' => e = .returned (.int .u64 ((r.fixed n).2 : Int)) ∧ Kept (fun k => k = p) w w' ∧ RdAt w' p (r.fixed n).1 ∧ w'.heap.size = w.heap.size := by
  have H := Lib.hid h
  have hl := take_len r n
  unfold Rd.fixed
  clear h
  go_enter Tryz.func83, Tryz.ntmps83
  go_wp2_with fail
  refine (rtake_ok p r n w H.out (by omega)).mono ?_
  rintro e w1 ⟨rfl, k1, h1, z1⟩
  generalize hx : (r.take n).2 = x at hl ⊢
  go_wp2_with fail
  refine (high_ok (x.getD []) w1 (by omega)).mono ?_
  rintro e w2 ⟨rfl, rfl⟩
  go_wp2
  go_ret
  exact ⟨by rw [hx]; rfl, k1, h1, z1⟩
set_option maxHeartbeats 1000000 in
theorem rraw_ok (p : Nat) (r : Rd) (n : Nat) (w : World) (h : RdAt w p r) (hn : n < 4611686018427387904) :
    Calls Tryz.prog 85 #[.pointer (some ⟨p, 0, none⟩), .int .i64 (n : Int)] w fun e w' => e = .returned (.string ⟨⟨(r.raw n).2⟩⟩) ∧ Kept (fun k => k = p) w w' ∧ RdAt w' p (r.raw n).1 ∧ w'.heap.size = w.heap.size := by
  have H := Lib.hid h
  unfold Rd.raw
  clear h
  go_enter Tryz.func85, Tryz.ntmps85
  go_wp2_with fail
  refine (rtake_ok p r n w H.out hn).mono ?_
  rintro e w1 ⟨rfl, k1, h1, z1⟩
  go_wp2
  go_ret
  exact ⟨rfl, k1, h1, z1⟩
theorem rleft_ok (p : Nat) (r : Rd) (w : World) (h : RdAt w p r) :
    Calls Tryz.prog 86 #[.pointer (some ⟨p, 0, none⟩)] w fun e w' => e = .returned (.int .i64 ((r.s.length - r.pos : Nat) : Int)) ∧ Kept No w w' := by
  obtain ⟨hrow, hpos, hlen⟩ := h
  have hsz : (⟨⟨r.s⟩⟩ : ByteArray).size = r.s.length := rfl
  have c0 := (cell_of_row w p 0 _ _ _ hrow).trans rfl
  have c1 := (cell_of_row w p 1 _ _ _ hrow).trans rfl
  clear hrow
  go_enter Tryz.func86, Tryz.ntmps86
  go_wp2_with fail
  go_quiet (fail)
  go_wp2
  go_ret
  exact ⟨by rw [Int.ofNat_sub hpos]; rfl, (Kept.refl _ _).drewN _⟩
theorem rerr_ok (p : Nat) (r : Rd) (w : World) (h : RdAt w p r) :
    Calls Tryz.prog 87 #[.pointer (some ⟨p, 0, none⟩)] w fun e w' => e = .returned (.int .i64 r.err) ∧ w = w' := by
  have c2 := (cell_of_row w p 2 _ _ _ h.row).trans rfl
  clear h
  go_enter Tryz.func87, Tryz.ntmps87
  go_wp2
  go_ret
  exact ⟨rfl, rfl⟩
theorem newReader_ok (s : List UInt8) (w : World) (hs : s.length < 4611686018427387904) :
    Calls Tryz.prog 82 #[.string ⟨⟨s⟩⟩] w fun e w' => e = .returned (.pointer (some ⟨w.heap.size, 0, none⟩)) ∧ Kept No w w' ∧ RdAt w' w.heap.size ⟨s, 0, 0⟩ := by
  go_enter Tryz.func82, Tryz.ntmps82
  go_wp2
  go_ret
  exact ⟨rfl, (Kept.refl _ _).alloc _, heap_alloc_new w _, Nat.zero_le _, hs⟩
theorem and127 (c : Nat) (hc : c < 256) : bits .and .u8 (c : Int) 127 = ((c % 128 : Nat) : Int) := by
  have : ∀ c, c < 256 → bits .and .u8 ((c : Nat) : Int) 127 = ((c % 128 : Nat) : Int) := by decide +kernel
  exact this c hc
theorem pow56 : (127 : Nat) * 2 ^ 56 < 18446744073709551616 := by decide
theorem pow63 : (1 : Nat) * 2 ^ (7 * 9) < 18446744073709551616 := by decide
theorem digit_lt (d i : Nat) (hd : d < 128) (hi : i < 10) (h9 : i = 9 → d ≤ 1) : d * 2 ^ (7 * i) < 18446744073709551616 := by
  rcases Nat.lt_or_ge i 9 with h | h
  · have h1 : 2 ^ (7 * i) ≤ 2 ^ 56 := Nat.pow_le_pow_right (by decide) (by omega)
    exact Nat.lt_of_le_of_lt (Nat.mul_le_mul (show d ≤ 127 from by omega) h1) pow56
  · have e : i = 9 := by omega
    subst e
    exact Nat.lt_of_le_of_lt (Nat.mul_le_mul (h9 rfl) (Nat.le_refl _)) pow63
theorem low_lt (v i : Nat) (hv : v < 2 ^ (7 * i)) (hi : i < 10) : v < 18446744073709551616 := by
  have h1 : 2 ^ (7 * i) ≤ 2 ^ 63 := Nat.pow_le_pow_right (by omega) (by omega)
  have h3 : 2 ^ 63 < 18446744073709551616 := by decide
  omega
theorem or_digit (v d i D : Nat) (hv : v < 2 ^ (7 * i)) (hi : i < 10) (hD : d * 2 ^ (7 * i) = D) (hb : D < 18446744073709551616) : bits .or .u64 (v : Int) (D : Int) = ((v + D : Nat) : Int) := by
  rw [bits_or_u64_nat _ _ (low_lt v i hv hi) hb]
  have h1 := Nat.two_pow_add_eq_or_of_lt (i := 7 * i) (b := v) hv d
  rw [Nat.mul_comm, hD] at h1
  rw [Nat.or_comm, ← h1, Nat.add_comm]
theorem digit_next (v d j : Nat) (hv : v < 2 ^ (7 * j)) (hd : d < 128) : v + d * 2 ^ (7 * j) < 2 ^ (7 * (j + 1)) := by
  have e : 2 ^ (7 * (j + 1)) = 128 * 2 ^ (7 * j) := by rw [Nat.mul_add, Nat.pow_add]; omega
  have h : d * 2 ^ (7 * j) ≤ 127 * 2 ^ (7 * j) := Nat.mul_le_mul_right _ (by omega)
  omega
theorem index_str (s : List UInt8) (i : Nat) (w : World) (h : i < s.length) : (Instr.index 9 (.string ⟨⟨s⟩⟩) (.int .i64 (i : Int))).run Tryz.prog w = .ok (.int .u8 (s[i].toNat : Int)) w := by
  have hb : i < (⟨⟨s⟩⟩ : ByteArray).size := h
  go_simp
  rfl
set_option maxHeartbeats 4000000 in
theorem ruint_ok (p : Nat) (r : Rd) (most : Nat) (w : World) (h : RdAt w p r) (hm : most < 18446744073709551616) :
    Calls Tryz.prog 123 #[.pointer (some ⟨p, 0, none⟩), .int .u64 (most : Int)] w fun e w' => e = .returned (.int .u64 ((r.uint most).2 : Int)) ∧ Kept (fun k => k = p) w w' ∧ RdAt w' p (r.uint most).1 := by
  obtain ⟨hrow, hpos, hlen⟩ := h
  obtain ⟨s, pos, err⟩ := r
  simp only at hrow hpos hlen
  have hsz : (⟨⟨s⟩⟩ : ByteArray).size = s.length := rfl
  have c0 := (cell_of_row w p 0 _ _ _ hrow).trans rfl
  have c1 := (cell_of_row w p 1 _ _ _ hrow).trans rfl
  have c2 := (cell_of_row w p 2 _ _ _ hrow).trans rfl
  have f1 := frozen_of_row w p 1 _ _ hrow
  have f2 := frozen_of_row w p 2 _ _ hrow
  have HR := Lib.hid hrow
  clear hrow
  by_cases he : err = 0
  · subst he
    rw [show Rd.uint ⟨s, pos, 0⟩ most = uintOut s pos (unleb (s.drop pos) most 10 0 0) from by simp [Rd.uint]]
    generalize hU : unleb (s.drop pos) most 10 0 0 = U
    go_enter Tryz.func123, Tryz.ntmps123
    go_wp2_with fail
    go_loopw [5, 17] (fun v i wr => ∃ j a : Nat, j ≤ 10 ∧ i = .int .i64 (j : Int) ∧ v = .int .u64 (a : Int) ∧ (j ≤ 9 → a < 2 ^ (7 * j)) ∧ pos + j ≤ s.length ∧ U = unleb (s.drop pos) most (10 - j) j a ∧ ∃ k, wr = w.drewN k) (fun _ i _ => 10 - (intOf i).toNat)
    case atStart => exact ⟨0, 0, by omega, rfl, rfl, by simp, hpos, hU.symm, 0, rfl⟩
    case round =>
      obtain ⟨j, a, hj, rfl, rfl, ha, hpj, hun, k, rfl⟩ := hrel
      by_cases hj10 : j = 10
      · subst hj10
        rw [show unleb (s.drop pos) most (10 - 10) 10 a = .error 11 from rfl] at hun
        subst hun
        go_wp2
        go_ret
        exact ⟨rfl, ((Kept.refl (fun k => k = p) w).drewN _).setCell ⟨p, 2, none⟩ _ (fun _ => rfl), heap_setCell_same _ p 2 _ _ _ (row_drewN HR.out _), hpos, hlen⟩
      · have hj9 : j ≤ 9 := by omega
        have ha := ha hj9
        have hf : 10 - j = (9 - j) + 1 := by omega
        by_cases hend : s.length ≤ pos + j
        · have hnone : (s.drop pos)[j]? = none := by rw [List.getElem?_drop]; exact List.getElem?_eq_none (by omega)
          rw [hf, unleb, hnone] at hun
          simp only at hun
          subst hun
          go_wp2_with fail
          go_quiet (fail)
          go_wp2
          go_ret
          exact ⟨rfl, ((Kept.refl (fun k => k = p) w).drewN _).setCell ⟨p, 2, none⟩ _ (fun _ => rfl), heap_setCell_same _ p 2 _ _ _ (row_drewN HR.out _), hpos, hlen⟩
        · have hlt : pos + j < s.length := by omega
          clear hend
          have hsome : (s.drop pos)[j]? = some s[pos + j] := by rw [List.getElem?_drop]; exact List.getElem?_eq_getElem hlt
          have hc : s[pos + j].toNat < 256 := s[pos + j].toNat_lt
          rw [hf, unleb, hsome] at hun
          simp only at hun
          have hix : ∀ w, (Instr.index 9 (.string ⟨⟨s⟩⟩) (.int .i64 ((pos : Int) + (j : Int)))).run Tryz.prog w = .ok (.int .u8 (s[pos + j].toNat : Int)) w := fun w => by
            have e : ((pos : Int) + (j : Int)) = ((pos + j : Nat) : Int) := by omega
            rw [e]
            have hb : pos + j < (⟨⟨s⟩⟩ : ByteArray).size := hlt
            have := index_str s (pos + j) w hlt
            exact this
          generalize hcc : s[pos + j].toNat = c at hc hun hix
          clear hsome hU
          by_cases h9 : j = 9 ∧ 1 < c
          · rw [if_pos h9] at hun
            subst hun
            obtain ⟨h9j, h1⟩ := h9
            have h9k : 9 ≤ j := by omega
            clear h9j
            go_wp2_with fail
            go_quiet (fail)
            go_wp2_with fail
            go_quiet (fail)
            go_wp2
            go_ret
            exact ⟨rfl, ((Kept.refl (fun k => k = p) w).drewN _).setCell ⟨p, 2, none⟩ _ (fun _ => rfl), heap_setCell_same _ p 2 _ _ _ (row_drewN HR.out _), hpos, hlen⟩
          · rw [if_neg h9] at hun
            have h9' : j = 9 → c ≤ 1 := fun e => by omega
            have hd : c % 128 < 128 := Nat.mod_lt _ (by omega)
            have hand := and127 c hc
            have hDb := digit_lt (c % 128) j hd (by omega) (fun e => by have := h9' e; omega)
            have hnext := digit_next a (c % 128) j ha hd
            have hm7 : IntKind.i64.wrap (7 * (j : Int)) = 7 * (j : Int) := by rw [IntKind.wrap_i64]; omega
            generalize hdd : c % 128 = d at *
            generalize hD : d * 2 ^ (7 * j) = D at hun hDb hnext
            have hwr : IntKind.u64.wrap ((d : Int) * 2 ^ (7 * j)) = (D : Int) := by
              have e : (d : Int) * 2 ^ (7 * j) = (D : Int) := by rw [← hD]; simp
              rw [e, IntKind.wrap_u64]; omega
            have hor := or_digit a d j D ha (by omega) hD hDb
            have hvn : a + D < 18446744073709551616 := by
              rcases Nat.lt_or_ge j 9 with h | h
              · exact low_lt _ (j + 1) hnext (by omega)
              · have e : j = 9 := by omega
                subst e
                have h1 : d ≤ 1 := by have := h9' rfl; omega
                have h2 : D ≤ 2 ^ 63 := by
                  rw [← hD]
                  exact Nat.le_trans (Nat.mul_le_mul h1 (Nat.le_refl _)) (by decide)
                have h3 : a < 2 ^ 63 := ha
                have h4 : (2 : Nat) ^ 63 + 2 ^ 63 = 18446744073709551616 := by decide
                generalize (2 : Nat) ^ 63 = q at h2 h3 h4
                omega
            have hor9 : j = 9 → bits .or .u64 (a : Int) ((d : Int) * 9223372036854775808) = ((a + D : Nat) : Int) := fun e => by
              rw [← hor]
              congr 1
              rw [← hD, e]
              simp
            clear hD
            generalize hV : a + D = V at *
            by_cases h128 : 128 ≤ c
            · rw [if_pos h128] at hun
              have hj8 : j < 9 := by
                rcases Nat.lt_or_ge j 9 with h | h
                · exact h
                · have := h9' (by omega); omega
              go_wp2_with fail
              go_quiet (fail)
              go_wp2_with fail
              go_quiet (fail)
              go_wp2
              refine ⟨⟨j + 1, V, by omega, by first | rfl | go_num, rfl, fun _ => hnext, by omega, ?_, ?_⟩, by simp [intOf]; omega⟩
              · rw [hun]
                congr 1
                omega
              · exact ⟨_, rfl⟩
            · rw [if_neg h128] at hun
              by_cases hj0 : j = 0
              · have hj1 : ¬ 0 < j := by omega
                have hj8 : j < 9 := by omega
                clear h9 h9' hor9 hj0
                by_cases hmo : most < V
                · rw [if_pos (.inr hmo)] at hun
                  subst hun
                  go_wp2_with fail
                  go_quiet (fail)
                  go_wp2_with fail
                  go_quiet (fail)
                  go_wp2
                  all_goals go_ret
                  all_goals exact ⟨rfl, ((Kept.refl (fun k => k = p) w).drewN _).setCell ⟨p, 2, none⟩ _ (fun _ => rfl), heap_setCell_same _ p 2 _ _ _ (row_drewN HR.out _), hpos, hlen⟩
                · rw [if_neg (by rintro (h | h); exact absurd h.2 hj1; exact hmo h)] at hun
                  subst hun
                  have hmo : V ≤ most := by omega
                  go_wp2_with fail
                  go_quiet (fail)
                  go_wp2_with fail
                  go_quiet (fail)
                  go_wp2
                  all_goals go_ret
                  all_goals exact ⟨rfl, ((Kept.refl (fun k => k = p) w).drewN _).setCell ⟨p, 1, none⟩ _ (fun _ => rfl), by simpa [uintOut] using heap_setCell_same _ p 1 _ _ (.int .i64 ((pos : Int) + (((j : Int) + 1)))) (row_drewN HR.out _), by simp [uintOut]; omega, hlen⟩
              · by_cases hj9' : j = 9
                · have hj9k : 9 ≤ j := by omega
                  have hd1 : d ≤ 1 := by have := h9' hj9'; omega
                  have hc9 : c ≤ 1 := h9' hj9'
                  have hj1 : 0 < j := by omega
                  have hor9 := hor9 hj9'
                  have hix9 : ∀ w, (Instr.index 9 (.string ⟨⟨s⟩⟩) (.int .i64 ((pos : Int) + 9))).run Tryz.prog w = .ok (.int .u8 (c : Int)) w := fun w => by
                    have := hix w
                    rwa [show ((pos : Int) + (j : Int)) = (pos : Int) + 9 from by omega] at this
                  clear h9 h9' hj9'
                  by_cases hc0 : c = 0
                  · rw [if_pos (.inl ⟨hc0, hj1⟩)] at hun
                    subst hun
                    have hc0 : ¬ 0 < c := by omega
                    go_wp2_with fail
                    go_quiet (fail)
                    go_wp2_with fail
                    go_quiet (fail)
                    go_wp2
                    all_goals go_ret
                    all_goals exact ⟨rfl, ((Kept.refl (fun k => k = p) w).drewN _).setCell ⟨p, 2, none⟩ _ (fun _ => rfl), heap_setCell_same _ p 2 _ _ _ (row_drewN HR.out _), hpos, hlen⟩
                  · have hc1 : 0 < c := by omega
                    by_cases hmo : most < V
                    · rw [if_pos (.inr hmo)] at hun
                      subst hun
                      clear hc0
                      go_wp2_with fail
                      go_quiet (fail)
                      go_wp2_with fail
                      go_quiet (fail)
                      go_wp2
                      all_goals go_ret
                      all_goals exact ⟨rfl, ((Kept.refl (fun k => k = p) w).drewN _).setCell ⟨p, 2, none⟩ _ (fun _ => rfl), heap_setCell_same _ p 2 _ _ _ (row_drewN HR.out _), hpos, hlen⟩
                    · rw [if_neg (by rintro (h | h); exact hc0 h.1; exact hmo h)] at hun
                      subst hun
                      clear hc0
                      have hmo : V ≤ most := by omega
                      go_wp2_with fail
                      go_quiet (fail)
                      go_wp2_with fail
                      go_quiet (fail)
                      go_wp2
                      all_goals go_ret
                      all_goals try rw [show ((pos : Int) + 10) = (pos : Int) + ((j : Int) + 1) from by omega]
                      all_goals exact ⟨rfl, ((Kept.refl (fun k => k = p) w).drewN _).setCell ⟨p, 1, none⟩ _ (fun _ => rfl), by simpa [uintOut] using heap_setCell_same _ p 1 _ _ (.int .i64 ((pos : Int) + (((j : Int) + 1)))) (row_drewN HR.out _), by simp [uintOut]; omega, hlen⟩
                · have hj1 : 0 < j := by omega
                  have hj8 : j < 9 := by omega
                  clear h9 h9' hor9
                  by_cases hc0 : c = 0
                  · rw [if_pos (.inl ⟨hc0, hj1⟩)] at hun
                    subst hun
                    have hc0 : ¬ 0 < c := by omega
                    go_wp2_with fail
                    go_quiet (fail)
                    go_wp2_with fail
                    go_quiet (fail)
                    go_wp2
                    all_goals go_ret
                    all_goals exact ⟨rfl, ((Kept.refl (fun k => k = p) w).drewN _).setCell ⟨p, 2, none⟩ _ (fun _ => rfl), heap_setCell_same _ p 2 _ _ _ (row_drewN HR.out _), hpos, hlen⟩
                  · have hc1 : 0 < c := by omega
                    by_cases hmo : most < V
                    · rw [if_pos (.inr hmo)] at hun
                      subst hun
                      clear hc0
                      go_wp2_with fail
                      go_quiet (fail)
                      go_wp2_with fail
                      go_quiet (fail)
                      go_wp2
                      all_goals go_ret
                      all_goals exact ⟨rfl, ((Kept.refl (fun k => k = p) w).drewN _).setCell ⟨p, 2, none⟩ _ (fun _ => rfl), heap_setCell_same _ p 2 _ _ _ (row_drewN HR.out _), hpos, hlen⟩
                    · rw [if_neg (by rintro (h | h); exact hc0 h.1; exact hmo h)] at hun
                      subst hun
                      clear hc0
                      have hmo : V ≤ most := by omega
                      go_wp2_with fail
                      go_quiet (fail)
                      go_wp2_with fail
                      go_quiet (fail)
                      go_wp2
                      all_goals go_ret
                      all_goals exact ⟨rfl, ((Kept.refl (fun k => k = p) w).drewN _).setCell ⟨p, 1, none⟩ _ (fun _ => rfl), by simpa [uintOut] using heap_setCell_same _ p 1 _ _ (.int .i64 ((pos : Int) + (((j : Int) + 1)))) (row_drewN HR.out _), by simp [uintOut]; omega, hlen⟩
  · have heb : (err != 0) = true := by simpa using he
    rw [show Rd.uint ⟨s, pos, err⟩ most = (⟨s, pos, err⟩, 0) from by simp [Rd.uint, he]]
    go_enter Tryz.func123, Tryz.ntmps123
    go_wp2
    go_ret
    exact ⟨rfl, Kept.refl _ _, HR.out, hpos, hlen⟩
theorem rend_ok (p : Nat) (r : Rd) (w : World) (h : RdAt w p r) :
    Calls Tryz.prog 125 #[.pointer (some ⟨p, 0, none⟩)] w fun e w' => e = .returned (.int .i64 r.fin) ∧ Kept No w w' := by
  have H := Lib.hid h
  obtain ⟨hrow, hpos, hlen⟩ := h
  have hsz : (⟨⟨r.s⟩⟩ : ByteArray).size = r.s.length := rfl
  have c0 := (cell_of_row w p 0 _ _ _ hrow).trans rfl
  have c1 := (cell_of_row w p 1 _ _ _ hrow).trans rfl
  have c2 := (cell_of_row w p 2 _ _ _ hrow).trans rfl
  clear hrow
  by_cases he : r.err = 0
  · rw [he] at c2
    by_cases hs : r.pos < r.s.length
    · rw [show r.fin = 12 from by simp [Rd.fin, he, hs]]
      go_enter Tryz.func125, Tryz.ntmps125
      go_wp2_with fail
      go_quiet (fail)
      go_wp2
      go_ret
      exact ⟨rfl, (Kept.refl _ _).drewN _⟩
    · rw [show r.fin = r.err from by simp [Rd.fin, hs]]
      go_enter Tryz.func125, Tryz.ntmps125
      go_wp2_with fail
      go_quiet (fail)
      go_wp2_with fail
      refine (rerr_ok p r _ (H.out.kept ((Kept.refl No w).drewN _) (fun h => h))).mono ?_
      rintro e w2 ⟨rfl, rfl⟩
      go_wp2
      go_ret
      exact ⟨by rw [he]; rfl, (Kept.refl _ _).drewN _⟩
  · have heb : (r.err == 0) = false := by simpa using he
    rw [show r.fin = r.err from by simp [Rd.fin, he]]
    go_enter Tryz.func125, Tryz.ntmps125
    go_wp2_with fail
    go_quiet (fail)
    go_wp2_with fail
    refine (rerr_ok p r _ (H.out.kept ((Kept.refl No w).drewN _) (fun h => h))).mono ?_
    rintro e w2 ⟨rfl, rfl⟩
    go_wp2
    go_ret
    exact ⟨rfl, (Kept.refl _ _).drewN _⟩
end Go.Proofs.YtabhieafjkaocaaGreat
