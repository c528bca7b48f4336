/- A part. -/
import Derived.Test.YtabhieafjkaocaaGreatMaal
import Derived.Laws.Cover1
import Derived.Laws.BitsAllLaws
import Derived.RowKit
import Derived.Test.YtabhieafjkaocaaGreatChecked
import Derived.Test.YtabhieafjkaocaaGreatMaaa
import Derived.WalkKit
import Derived.KernelRfl
import Derived.Deep.QuietTactic
import Derived.BigQuiet
import Derived.BigRegion
import Derived.Lib.Hide
set_option linter.unusedVariables false
set_option linter.unusedSimpArgs false
namespace Go.Proofs.YtabhieafjkaocaaGreat
open Go.RowKit Go.Lib
set_option maxRecDepth 20000
structure FoundM where
  top : Nat
  whole : Bool
  serial : Nat
  pages : List PageV
def scanOf (ls : List (List UInt8)) (first : Nat) : FoundM :=
  match batchM ls first with
  | some (s, l) => ⟨topOf ls, true, s, l⟩
  | none => ⟨topOf ls, false, 0, []⟩
def views (m : DiskM) (first count : Nat) : List (List UInt8) := (List.range count).map fun i => m.view (first + i)
theorem found_size : (Tryz.prog.info? 100).map (·.size) = some 4 := by kernel_rfl
theorem views_len (m : DiskM) (first count : Nat) : (views m first count).length = count := by simp [views]
theorem views_succ (m : DiskM) (first count : Nat) : views m first (count + 1) = views m first count ++ [m.view (first + count)] := by simp [views, List.range_succ]
theorem views_get (m : DiskM) (first count i : Nat) (h : i < count) : (views m first count)[i]'(by rw [views_len]; exact h) = m.view (first + i) := by simp [views]
theorem topOf_snoc (l : List (List UInt8)) (b : List UInt8) : topOf (l ++ [b]) = max (topOf l) (max (ends b).1 (ends b).2) := by simp [topOf]
theorem ends_lt (b : List UInt8) (h : b.length = 1024) : (ends b).1 < 18446744073709551616 ∧ (ends b).2 < 18446744073709551616 := by
  unfold ends
  exact ⟨num_bounds _ (by rw [List.length_take]; omega), num_bounds _ (by rw [List.length_drop]; omega)⟩
theorem Tryz.infoRow : (Tryz.prog.info? 104).map (fun i => (i.zero, i.size, i.bytes)) = some (some (.slice none 0 0), 1, 24) := by kernel_rfl
structure ScanIn (w wr : World) (m : DiskM) (first count : Nat) (g f R : Nat) (j : Nat) (bl : List Nat) : Prop where
  len : bl.length = j
  row : wr.heap[g]? = some (.cells ⟨bl.map pageSlice ++ List.replicate (count - j) (.slice none 0 0)⟩ 104 (0, 0))
  page : ∀ i (h : i < bl.length), BytesAt wr bl[i] (m.view (first + i))
  found : wr.heap[f]? = some (.cells #[.int .u64 (topOf (views m first j) : Int), .bool false, .int .u64 0, .slice none 0 0] 100 (0, 0))
  kept : Kept No w wr
  new : w.heap.size ≤ g ∧ w.heap.size ≤ f
  res : wr.heap[R]? = some (.cells #[.int .u64 0, .bool false, .int .u64 0, .slice none 0 0] 100 (0, 0))
  resn : R ≠ f
  apart : ∀ b ∈ bl, b ≠ g ∧ b ≠ f
set_option maxHeartbeats 4000000 in
theorem scan_ok (x : DiskH) (m : DiskM) (first count : Nat) (w : World) (h : DiskAt w x m) (h1 : 1 ≤ count) (h2 : first + count ≤ m.lies.length) (ho : m.off = false) :
    Calls Tryz.prog 47 #[dev x.d, .int .i64 (first : Int), .int .i64 (count : Int)] w fun e w' => ∃ (v : Value), e = .returned (.tuple #[.agg #[.int .u64 ((scanOf (views m first count) first).top : Int), .bool (scanOf (views m first count) first).whole, .int .u64 ((scanOf (views m first count) first).serial : Int), v], .int .i64 0]) ∧
      Kept No w w' ∧ PagesAt w' v (scanOf (views m first count) first).pages ∧ ∀ g, v.ownBlock = some g → w.heap.size ≤ g := by
  obtain ⟨i0, hi, hz0, hz1, hz2⟩ := info_parts Tryz.infoRow
  have hmost := h.most
  have hready : ∀ i : Nat, i < m.lies.length → m.ready (i : Int) = 0 := fun i hi => by
    unfold DiskM.ready
    rw [ho, if_neg (by simp), if_neg (by omega)]
  have H := Lib.hid h
  clear h
  go_enter Tryz.func47, Tryz.ntmps47
  go_wp2_with fail
  have hR0 := heap_alloc_new w (.cells #[.int .u64 0, .bool false, .int .u64 0, .slice none 0 0] 100)
  have k0 : Kept No w (w.alloc (.cells #[.int .u64 0, .bool false, .int .u64 0, .slice none 0 0] 100)) := (Kept.refl _ _).alloc _
  have HX0 := H.out.kept k0 (fun _ _ h => h)
  refine (there_ok x m first count _ HX0 h1 h2).mono ?_
  rintro e w1 ⟨rfl, k1⟩
  have hR1 := k1.heap hR0 (fun h => h)
  have hRlt := lt_of_heap hR1
  have hF2 := heap_alloc_new w1 (.cells #[.int .u64 0, .bool false, .int .u64 0, .slice none 0 0] 100)
  have ka : Kept No w1 (w1.alloc (.cells #[.int .u64 0, .bool false, .int .u64 0, .slice none 0 0] 100)) := (Kept.refl _ _).alloc _
  have hR2 := ka.heap hR1 (fun h => h)
  have K2 := Lib.hid ((k0.trans k1).trans ka)
  have HF2 := Lib.hid hF2
  have HR2 := Lib.hid hR2
  have hFw : w.heap.size ≤ w1.heap.size := (k0.trans k1).size
  clear hR0 HX0 k0 k1 hR1 hF2 ka hR2
  generalize hR : w.heap.size = R at *
  go_wp2_with (refine wpList_make_full _ (by rfl) (.tmp 28) (.tmp 28) 145 (by rfl) 0 104 i0 (.slice none 0 0) 1 Tryz.underlying145 hi hz0 hz1 .i64 .i64 (count : Int) (count : Int) count (by rfl) (by rfl) (by rfl) (by rfl) (by rw [hz2]; omega) (by unfold maxLen; omega) (by omega) ?_; intro w3 hown hgrow; have HG := Lib.hid (own_full hown); have K3 := Lib.hid (Kept.of_grown_none hgrow); clear hown hgrow)
  have hG3 : w3.heap[(w1.alloc (.cells #[.int .u64 0, .bool false, .int .u64 0, .slice none 0 0] 100)).heap.size]? = some (.cells ⟨List.replicate count (.slice none 0 0)⟩ 104 (0, 0)) := by
    have h := HG.out
    rw [show (Value.slice none 0 0).cells = #[Value.slice none 0 0] from rfl, toList_madeCells_one, Nat.mul_one] at h
    exact h
  have hF3 := K3.out.heap HF2.out (fun h => h)
  have hR3 := K3.out.heap HR2.out (fun h => h)
  have hgw : w.heap.size ≤ (w1.alloc (.cells #[.int .u64 0, .bool false, .int .u64 0, .slice none 0 0] 100)).heap.size := K2.out.size
  have K4 := Lib.hid (K2.out.trans K3.out)
  clear HG HF2 HR2 K2 K3
  have hgs : (w1.alloc (.cells #[.int .u64 0, .bool false, .int .u64 0, .slice none 0 0] 100)).heap.size = w1.heap.size + 1 := by simp
  rw [hgs] at hG3 hgw
  clear hgs
  generalize w1.heap.size = F at *
  have hin0 : ScanIn w w3 m first count (F + 1) F R 0 [] := ⟨rfl, by simpa using hG3, by simp, by simpa [views, topOf] using hF3, K4.out, ⟨hgw, by omega⟩, hR3, by omega, by simp⟩
  have HIN0 := Lib.hid hin0
  clear hin0 hG3 hF3 hR3 K4
  have hts := types_373
  have hmt : ∀ w, (method 373 24 (.pointer (some ⟨x.d, 0, none⟩)) "Read").run Tryz.prog w = .ok (212, .pointer (some ⟨x.d, 0, none⟩)) w := fun w => dev_method_read x.d w
  have hcf : ∀ w (i : Int), (callFunc 212 #[.pointer (some ⟨x.d, 0, none⟩), .int .i64 i]).run Tryz.prog w = .ok (.enter 212 #[.pointer (some ⟨x.d, 0, none⟩), .int .i64 i]) w := fun w i => by kernel_rfl
  go_loopw [31] (fun i wr => ∃ (j : Nat) (bl : List Nat), j ≤ count ∧ i = .int .i64 (j : Int) ∧ ScanIn w wr m first count (F + 1) F R j bl) (fun i _ => count - (intOf i).toNat)
  case atStart => exact ⟨0, [], by omega, rfl, HIN0.out⟩
  case round =>
    obtain ⟨j, bl, hj, rfl, hin⟩ := hrel
    have HIN := Lib.hid hin
    clear hin
    by_cases hjc : j < count
    · go_wp2_with fail
      rw [show ((first : Int) + (j : Int)) = ((first + j : Nat) : Int) from by omega]
      refine (dread_ok x m (first + j) wr (H.out.kept HIN.out.kept (fun _ _ h => h)) (hready _ (by omega)) (by omega)).mono ?_
      rintro e w5 ⟨b, rfl, k5, hbn, hb5⟩
      have hF5 := k5.heap HIN.out.found (fun h => h)
      have hG5 := k5.heap HIN.out.row (fun h => h)
      go_wp2_with fail
      refine (ends_ok b _ w5 hb5).mono ?_
      rintro e w6 ⟨rfl, k6⟩
      have hF6 := k6.heap hF5 (fun h => h)
      have hG6 := k6.heap hG5 (fun h => h)
      have hb6 := hb5.kept k6 (fun h => h)
      have HL := ends_lt _ hb5.len
      have htop := topOf_snoc (views m first j) (m.view (first + j))
      rw [← views_succ] at htop
      have cF := (cell_of_row w6 F 0 _ _ _ hF6).trans rfl
      have fF := frozen_of_row w6 F 0 _ _ hF6
      have cG : w6.cell? ⟨F + 1, j, none⟩ = some (.slice none 0 0) := by
        rw [cell_of_row w6 (F + 1) j _ _ _ hG6, ← Array.getElem?_toList]
        show (bl.map pageSlice ++ List.replicate (count - j) (.slice none 0 0))[j]? = _
        rw [List.getElem?_append_right (by rw [List.length_map, HIN.out.len]; exact Nat.le_refl _), List.length_map, HIN.out.len, Nat.sub_self, List.getElem?_replicate, if_pos (by omega)]
      have fG := frozen_of_row w6 (F + 1) j _ _ hG6
      have K6 := Lib.hid (k5.trans k6)
      clear hF5 hG5 hb5 k5 k6
      have HTOP := Lib.hid htop
      clear htop
      generalize hends : ends (m.view (first + j)) = en at *
      obtain ⟨en1, en2⟩ := en
      simp only at HTOP HL
      generalize htp : topOf (views m first j) = tp at *
      have hFg : F ≠ F + 1 := by omega
      have hmx : ∀ ts ty w, (Builtin.max_ ts ty #[.int .u64 (tp : Int), .int .u64 (en1 : Int), .int .u64 (en2 : Int)]).run Tryz.prog w = .ok (.int .u64 (topOf (views m first (j + 1)) : Int)) w := fun ts ty w => by
        rw [run_max_int3, HTOP.out]
        congr 2
        split <;> split <;> omega
      generalize hT : topOf (views m first (j + 1)) = T at *
      clear HTOP
      go_wp2_with fail
      refine ⟨⟨j + 1, bl ++ [b], by omega, by first | rfl | go_num, ?_⟩, by simp [intOf]; omega⟩
      have kz : Kept (fun k => k = F ∨ k = F + 1) w6 ((w6.setCell ⟨F, 0, none⟩ (.int .u64 (T : Int))).setCell ⟨F + 1, j, none⟩ (pageSlice b)) := ((Kept.refl (fun k => k = F ∨ k = F + 1) w6).setCell _ _ (fun _ => .inl rfl)).setCell _ _ (fun _ => .inr rfl)
      have hbs := lt_of_heap hb6.row
      have hbw : w.heap.size ≤ b := Nat.le_trans HIN.out.kept.size hbn
      have hgwr := lt_of_heap HIN.out.row
      have hFwr := lt_of_heap HIN.out.found
      refine ⟨by simp [HIN.out.len], ?_, fun i hi => ?_, ?_, (HIN.out.kept.trans K6.out).next kz (fun k hk e => by rcases e with e | e <;> have := HIN.out.new <;> omega), HIN.out.new, kz.heap (K6.out.heap HIN.out.res (fun h => h)) ?_, HIN.out.resn, fun c hc => ?_⟩
      · have hG7 : (w6.setCell ⟨F, 0, none⟩ (.int .u64 (T : Int))).heap[F + 1]? = _ := (((Kept.refl (fun k => k = F) w6).setCell ⟨F, 0, none⟩ (.int .u64 (T : Int)) (fun _ => rfl)).heap hG6 (by omega))
        have := heap_setCell_same _ (F + 1) j _ _ (pageSlice b) hG7
        rw [this]
        congr 2
        have e1 : List.replicate (count - j) (Value.slice none 0 0) = .slice none 0 0 :: List.replicate (count - (j + 1)) (.slice none 0 0) := by
          rw [show count - j = (count - (j + 1)) + 1 from by omega, List.replicate_succ]
        have := set_mid (bl.map pageSlice) [] (List.replicate (count - (j + 1)) (.slice none 0 0)) (.slice none 0 0) (pageSlice b) j (by simp [HIN.out.len])
        rw [List.nil_append, ← e1] at this
        rw [this]
        simp
      · by_cases hil : i < bl.length
        · rw [List.getElem_append_left hil]
          exact ((HIN.out.page i hil).kept K6.out (fun h => h)).kept kz (by
            have := HIN.out.apart _ (List.getElem_mem hil)
            rintro (e | e)
            · exact this.2 e
            · exact this.1 e)
        · have hi2 : i = bl.length := by simp at hi; omega
          subst hi2
          rw [List.getElem_append_right (Nat.le_refl _)]
          simp only [Nat.sub_self, List.getElem_singleton]
          rw [HIN.out.len]
          exact hb6.kept kz (by rintro (e | e) <;> omega)
      · have hF7 := heap_setCell_same w6 F 0 _ _ (.int .u64 (T : Int)) hF6
        have := ((Kept.refl (fun k => k = F + 1) (w6.setCell ⟨F, 0, none⟩ (.int .u64 (T : Int)))).setCell ⟨F + 1, j, none⟩ (pageSlice b) (fun _ => rfl)).heap hF7 (by omega)
        rw [this, hT]
        rfl
      · have := HIN.out.resn
        have h4 := HIN.out.res
        rintro (e | e)
        · exact this e
        · subst e
          exact cells_ne h4 HIN.out.row (by decide) rfl
      · rcases List.mem_append.1 hc with hc | hc
        · exact HIN.out.apart c hc
        · rw [List.mem_singleton] at hc
          subst hc
          constructor <;> omega
    · have ej : j = count := by omega
      subst ej
      have hlies : LiesAt wr (.slice (some ⟨F + 1, 0, none⟩) j j) bl (views m first j) := by
        refine ⟨?_, by rw [views_len]; exact HIN.out.len, fun i h h' => ?_, by rw [views_len]; omega⟩
        · rw [views_len]
          refine ⟨by simp [HIN.out.len], .inr ⟨F + 1, j, _, rfl, Nat.zero_le _, HIN.out.row, Nat.le_refl _, ?_, ?_, ?_⟩⟩
          · unfold maxLen; omega
          · show (bl.map pageSlice ++ List.replicate (j - j) (Value.slice none 0 0)).length = _
            simp [HIN.out.len]
          · show (bl.map pageSlice ++ List.replicate (j - j) (Value.slice none 0 0)).take _ = _
            rw [Nat.sub_self, List.replicate_zero, List.append_nil, List.take_of_length_le (by simp [HIN.out.len])]
        · have := HIN.out.page i h'
          rw [views_get m first j i (by rw [views_len] at h; exact h)]
          exact this
      have HLI := Lib.hid hlies
      clear hlies
      have hlt : (views m first j).length = j := views_len _ _ _
      cases hbm : batchM (views m first j) first with
      | none =>
        have hsc := Lib.hid (show scanOf (views m first j) first = ⟨topOf (views m first j), false, 0, []⟩ from by unfold scanOf; rw [hbm])
        go_wp2_with fail
        refine (batch_ok _ bl (views m first j) first wr HLI.out (by rw [views_len]; omega) (by omega)).mono ?_
        rintro e w7 ⟨s, v', ok, rfl, k7, hsn, hB⟩
        have hF7 := k7.heap HIN.out.found (fun h => h)
        have hR7 := k7.heap HIN.out.res (fun h => h)
        have hRF := HIN.out.resn
        have K7 := Lib.hid (HIN.out.kept.trans k7)
        unfold BatchOut at hB
        rw [hbm] at hB
        simp only at hB
        subst hB
        have HF7 := Lib.hid hF7
        have HR7 := Lib.hid hR7
        go_wp2_with (first
          | (refine wpList_load_row (by rfl) 100 (.tmp 9) (by rfl) F (by rfl) _ _ _ _ HF7.out Tryz.underlying100 (by rfl) (by kernel_rfl) ?_)
          | (refine wpList_store_row (by rfl) 100 (.tmp 6) (.tmp 76) (by rfl) R 100 _ _ (by rfl) (by rfl) HR7.out (by exact found_size) (by rfl) (by simp [Value.oneCell']) ?_))
        refine bodyPost_ret (results_pair rfl _ _ _ _ _ _ _ rfl (setRow_heap _ _ _ _ _ _ HR7.out) Tryz.underlying100 rfl (by exact found_size)) rfl ?_
        rw [hsc.out]
        exact ⟨.slice none 0 0, rfl, K7.out.setRow _ _ (fun hk => absurd hk (by omega)), ⟨World.ownsRow_nil _ _ _ _, by simp, by simp⟩, fun g hg => (by cases hg)⟩
      | some o =>
        obtain ⟨s', l⟩ := o
        have hsc := Lib.hid (show scanOf (views m first j) first = ⟨topOf (views m first j), true, s', l⟩ from by unfold scanOf; rw [hbm])
        go_wp2_with fail
        refine (batch_ok _ bl (views m first j) first wr HLI.out (by rw [views_len]; omega) (by omega)).mono ?_
        rintro e w7 ⟨s, v', ok, rfl, k7, hsn, hB⟩
        have hF7 := k7.heap HIN.out.found (fun h => h)
        have hR7 := k7.heap HIN.out.res (fun h => h)
        have hRF := HIN.out.resn
        have K7 := Lib.hid (HIN.out.kept.trans k7)
        unfold BatchOut at hB
        rw [hbm] at hB
        obtain ⟨h1s, hok, hpg, hnw, hs62⟩ := hB
        subst hok
        obtain ⟨sn, rfl⟩ := hsn rfl
        have h2s : sn = s' := by simpa using h1s
        subst h2s
        obtain ⟨av, cv, rfl⟩ := row_slice hpg.row
        have HF7 := Lib.hid hF7
        have HR7 := Lib.hid hR7
        have HPG := Lib.hid hpg
        have f1 := frozen_of_row w7 F 1 _ _ hF7
        have f2 := frozen_of_row w7 F 2 _ _ hF7
        have f3 := frozen_of_row w7 F 3 _ _ hF7
        have d1 := (cell_of_row w7 F 1 _ _ _ hF7).trans rfl
        have d2 := (cell_of_row w7 F 2 _ _ _ hF7).trans rfl
        have d3 := (cell_of_row w7 F 3 _ _ _ hF7).trans rfl
        have HF8 : Hid ((((w7.setCell ⟨F, 1, none⟩ (.bool true)).setCell ⟨F, 2, none⟩ (.int .u64 (sn : Int))).setCell ⟨F, 3, none⟩ (.slice av l.length cv)).heap[F]? = some (.cells #[.int .u64 (topOf (views m first j) : Int), .bool true, .int .u64 (sn : Int), .slice av l.length cv] 100)) := Lib.hid (heap_setCell_same _ F 3 _ _ (.slice av l.length cv) (heap_setCell_same _ F 2 _ _ (.int .u64 (sn : Int)) (heap_setCell_same w7 F 1 _ _ (.bool true) hF7)))
        have k8 : Kept (fun k => k = F) w7 (((w7.setCell ⟨F, 1, none⟩ (.bool true)).setCell ⟨F, 2, none⟩ (.int .u64 (sn : Int))).setCell ⟨F, 3, none⟩ (.slice av l.length cv)) := (((Kept.refl (fun k => k = F) w7).setCell ⟨F, 1, none⟩ _ (fun _ => rfl)).setCell ⟨F, 2, none⟩ _ (fun _ => rfl)).setCell ⟨F, 3, none⟩ _ (fun _ => rfl)
        have HR8 := Lib.hid (k8.heap hR7 hRF)
        have K8 := Lib.hid k8
        clear hF7 hR7 hpg k8
        go_wp2_with (first
          | (refine wpList_load_row (by rfl) 100 (.tmp 9) (by rfl) F (by rfl) _ _ _ _ HF8.out Tryz.underlying100 (by rfl) (by kernel_rfl) ?_)
          | (refine wpList_store_row (by rfl) 100 (.tmp 6) (.tmp 76) (by rfl) R 100 _ _ (by rfl) (by rfl) HR8.out (by exact found_size) (by rfl) (by simp [Value.oneCell']) ?_))
        refine bodyPost_ret (results_pair rfl _ _ _ _ _ _ _ rfl (setRow_heap _ _ _ _ _ _ HR8.out) Tryz.underlying100 rfl (by exact found_size)) rfl ?_
        rw [hsc.out]
        have hFn := HIN.out.new.2
        have k9 : Kept (fun k => k = F ∨ k = R) w7 _ := (K8.out.mono (N := fun k => k = F ∨ k = R) (fun _ _ e => .inl e)).setRow R #[.int .u64 (topOf (views m first j) : Int), .bool true, .int .u64 (sn : Int), .slice av l.length cv] (fun _ => .inr rfl)
        refine ⟨.slice av l.length cv, rfl, K7.out.next k9 (fun k hk e => by rcases e with e | e <;> omega), HPG.out.kept k9 (fun q hq => ?_), fun g hg => Nat.le_trans HIN.out.kept.size (hnw g hg)⟩
        obtain ⟨cs, hc⟩ := row_cells HPG.out.row hq
        rintro (e | e)
        · subst e; exact cells_ne hc HF7.out (by decide) rfl
        · subst e; exact cells_ne hc HR7.out (by decide) rfl
set_option maxHeartbeats 4000000 in
theorem scan_off (x : DiskH) (m : DiskM) (first count : Nat) (w : World) (h : DiskAt w x m) (h1 : 1 ≤ count) (h2 : first + count ≤ m.lies.length) (ho : m.off = true) :
    Calls Tryz.prog 47 #[dev x.d, .int .i64 (first : Int), .int .i64 (count : Int)] w fun e w' => e = .returned (.tuple #[.agg #[.int .u64 0, .bool false, .int .u64 0, .slice none 0 0], .int .i64 40]) ∧ Kept No w w' := by
  obtain ⟨i0, hi, hz0, hz1, hz2⟩ := info_parts Tryz.infoRow
  have hmost := h.most
  have hready : m.ready ((first : Int) + 0) = 40 := by unfold DiskM.ready; rw [ho, if_pos rfl]
  have H := Lib.hid h
  clear h
  go_enter Tryz.func47, Tryz.ntmps47
  go_wp2_with fail
  have hR0 := heap_alloc_new w (.cells #[.int .u64 0, .bool false, .int .u64 0, .slice none 0 0] 100)
  have k0 : Kept No w (w.alloc (.cells #[.int .u64 0, .bool false, .int .u64 0, .slice none 0 0] 100)) := (Kept.refl _ _).alloc _
  have HX0 := H.out.kept k0 (fun _ _ h => h)
  refine (there_ok x m first count _ HX0 h1 h2).mono ?_
  rintro e w1 ⟨rfl, k1⟩
  have hR1 := k1.heap hR0 (fun h => h)
  have hRlt := lt_of_heap hR1
  have hF2 := heap_alloc_new w1 (.cells #[.int .u64 0, .bool false, .int .u64 0, .slice none 0 0] 100)
  have ka : Kept No w1 (w1.alloc (.cells #[.int .u64 0, .bool false, .int .u64 0, .slice none 0 0] 100)) := (Kept.refl _ _).alloc _
  have hR2 := ka.heap hR1 (fun h => h)
  have K2 := Lib.hid ((k0.trans k1).trans ka)
  have HF2 := Lib.hid hF2
  have HR2 := Lib.hid hR2
  have hFw : w.heap.size ≤ w1.heap.size := (k0.trans k1).size
  clear hR0 HX0 k0 k1 hR1 hF2 ka hR2
  generalize hR : w.heap.size = R at *
  go_wp2_with (refine wpList_make_full _ (by rfl) (.tmp 28) (.tmp 28) 145 (by rfl) 0 104 i0 (.slice none 0 0) 1 Tryz.underlying145 hi hz0 hz1 .i64 .i64 (count : Int) (count : Int) count (by rfl) (by rfl) (by rfl) (by rfl) (by rw [hz2]; omega) (by unfold maxLen; omega) (by omega) ?_; intro w3 hown hgrow; have HG := Lib.hid (own_full hown); have K3 := Lib.hid (Kept.of_grown_none hgrow); clear hown hgrow)
  have hG3 : w3.heap[(w1.alloc (.cells #[.int .u64 0, .bool false, .int .u64 0, .slice none 0 0] 100)).heap.size]? = some (.cells ⟨List.replicate count (.slice none 0 0)⟩ 104 (0, 0)) := by
    have h := HG.out
    rw [show (Value.slice none 0 0).cells = #[Value.slice none 0 0] from rfl, toList_madeCells_one, Nat.mul_one] at h
    exact h
  have hF3 := K3.out.heap HF2.out (fun h => h)
  have hR3 := K3.out.heap HR2.out (fun h => h)
  have hgw : w.heap.size ≤ (w1.alloc (.cells #[.int .u64 0, .bool false, .int .u64 0, .slice none 0 0] 100)).heap.size := K2.out.size
  have K4 := Lib.hid (K2.out.trans K3.out)
  clear HG HF2 HR2 K2 K3
  have hgs : (w1.alloc (.cells #[.int .u64 0, .bool false, .int .u64 0, .slice none 0 0] 100)).heap.size = w1.heap.size + 1 := by simp
  rw [hgs] at hG3 hgw
  clear hgs
  generalize w1.heap.size = F at *
  have hts := types_373
  have hmt : ∀ w, (method 373 24 (.pointer (some ⟨x.d, 0, none⟩)) "Read").run Tryz.prog w = .ok (212, .pointer (some ⟨x.d, 0, none⟩)) w := fun w => dev_method_read x.d w
  have hcf : ∀ w (i : Int), (callFunc 212 #[.pointer (some ⟨x.d, 0, none⟩), .int .i64 i]).run Tryz.prog w = .ok (.enter 212 #[.pointer (some ⟨x.d, 0, none⟩), .int .i64 i]) w := fun w i => by kernel_rfl
  have hcp : decide ((0 : Int) < (count : Int)) = true := by simp; omega
  have HX3 := Lib.hid (H.out.kept K4.out (fun _ _ h => h))
  have HR3 := Lib.hid hR3
  have hfa : IntKind.i64.wrap ((first : Int) + 0) = (first : Int) := by rw [IntKind.wrap_i64]; omega
  have hready : m.ready (first : Int) = 40 := by simpa using hready
  have HRY := Lib.hid hready
  clear hG3 hF3 hR3 hready
  refine wp_loop_rounds 1 ?_
  rw [rounds_succ]
  go_wp2_with (first
    | (go_at_call 212; refine (dread_no x m _ w3 HX3.out (by rw [HRY.out]; decide)).mono ?_; rw [HRY.out]; rintro e w' ⟨rfl, rfl⟩)
    | (refine wpList_store_row (by rfl) 100 (.tmp 6) (.tmp 44) (by rfl) R 100 _ _ (by rfl) (by rfl) (HR3.out) (by exact found_size) (by rfl) (by simp [Value.oneCell']) ?_))
  refine bodyPost_ret (results_pair rfl _ _ R _ _ _ _ rfl (setRow_heap _ _ _ _ _ _ (HR3.out)) Tryz.underlying100 rfl (by exact found_size)) rfl ?_
  exact ⟨rfl, (K4.out).setRow _ _ (fun h => absurd h (by omega))⟩
end Go.Proofs.YtabhieafjkaocaaGreat
namespace Go.Proofs.YtabhieafjkaocaaGreat.Bm
open Go.RowKit
theorem int_pow2 (k : Nat) : (2 : Int) ^ k = ((2 ^ k : Nat) : Int) := by simp
theorem pow2_lt (k : Nat) (h : k < 64) : 2 ^ k < 18446744073709551616 := Nat.pow_lt_pow_right (a := 2) (by omega) (show k < 64 from h)
theorem word_has (x k : Nat) (hx : x < 18446744073709551616) : (bits .and .u64 ((x : Int) / 2 ^ k) 1 == 1) = x.testBit k := by
  have hlt : x / 2 ^ k < 18446744073709551616 := Nat.lt_of_le_of_lt (Nat.div_le_self _ _) hx
  have h := u64_and_nat (x / 2 ^ k) 1 hlt (by omega)
  rw [int_pow2, ← Int.natCast_ediv]
  have e1 : ((1 : Nat) : Int) = 1 := rfl
  rw [e1] at h
  rw [h, Nat.testBit_eq_decide_div_mod_eq, Nat.and_one_is_mod]
  have : (x / 2 ^ k) % 2 = 0 ∨ (x / 2 ^ k) % 2 = 1 := by omega
  rcases this with h | h <;> rw [h] <;> rfl
theorem wrap_pow2 (k : Nat) (h : k < 64) : IntKind.u64.wrap ((2 : Int) ^ k) = ((2 ^ k : Nat) : Int) := by
  have := pow2_lt k h
  rw [IntKind.wrap_u64, int_pow2]
  generalize 2 ^ k = y at *
  omega
theorem word_put (x k : Nat) (hx : x < 18446744073709551616) (hk : k < 64) : bits .or .u64 (x : Int) (((2 ^ k : Nat) : Int)) = ((x ||| 2 ^ k : Nat) : Int) :=
  u64_or_nat x (2 ^ k) hx (pow2_lt k hk)
theorem word_put_lt (x k : Nat) (hx : x < 18446744073709551616) (hk : k < 64) : x ||| 2 ^ k < 18446744073709551616 := Nat.or_lt_two_pow (n := 64) hx (pow2_lt k hk)
theorem testBit_mask (k j : Nat) (hj : j < 64) (hk : k < 64) : (18446744073709551615 - 2 ^ k).testBit j = decide (j ≠ k) := by
  have : 18446744073709551615 - 2 ^ k = 2 ^ 64 - (2 ^ k + 1) := by omega
  rw [this, Nat.testBit_two_pow_sub_succ (pow2_lt k hk), Nat.testBit_two_pow]
  by_cases e : k = j
  · subst e; simp
  · have e' : j ≠ k := fun h => e h.symm
    simp [e, e', hj]
theorem word_take (x k : Nat) (hx : x < 18446744073709551616) (hk : k < 64) : bits .andNot .u64 (x : Int) (((2 ^ k : Nat) : Int)) = ((x &&& (18446744073709551615 - 2 ^ k) : Nat) : Int) :=
  u64_andNot_nat x (2 ^ k) hx (pow2_lt k hk)
theorem word_take_lt (x y : Nat) (hx : x < 18446744073709551616) : x &&& y < 18446744073709551616 := Nat.lt_of_le_of_lt Nat.and_le_left hx
theorem testBit_put (x k j : Nat) : (x ||| 2 ^ k).testBit j = (x.testBit j || decide (k = j)) := by rw [Nat.testBit_or, Nat.testBit_two_pow]
theorem testBit_take (x k j : Nat) (hk : k < 64) (hj : j < 64) : (x &&& (18446744073709551615 - 2 ^ k)).testBit j = (x.testBit j && decide (j ≠ k)) := by rw [Nat.testBit_and, testBit_mask k j hj hk]
end Go.Proofs.YtabhieafjkaocaaGreat.Bm
namespace Go.Proofs.YtabhieafjkaocaaGreat.Bm
open Go.RowKit
theorem Tryz.infoU64 : (Tryz.prog.info? 26).map (fun i => (i.zero, i.size, i.bytes)) = some (some (.int .u64 0), 1, 8) := by kernel_rfl
def words (ws : List Nat) : List Value := ws.map fun x : Nat => Value.int .u64 (x : Int)
structure SetAt (w : World) (s n : Nat) (v : Value) (ws : List Nat) : Prop where
  head : w.heap[s]? = some (.cells #[.int .i64 (n : Int), v] 143 (0, 0))
  row : w.ownsRow 0 26 1 v ws.length (words ws)
  size : ws.length = (n + 63) / 64
  bound : n ≤ 65536
  low : ∀ x ∈ ws, x < 18446744073709551616
  other : v.ownBlock ≠ some s
theorem SetAt.n_cell {w : World} {s n : Nat} {v : Value} {ws : List Nat} (h : SetAt w s n v ws) : w.cell? ⟨s, 0, none⟩ = some (.int .i64 (n : Int)) := by rw [cell_of_row w s 0 _ _ _ h.head]; rfl
theorem SetAt.v_cell {w : World} {s n : Nat} {v : Value} {ws : List Nat} (h : SetAt w s n v ws) : w.cell? ⟨s, 1, none⟩ = some v := by rw [cell_of_row w s 1 _ _ _ h.head]; rfl
theorem SetAt.lt {w : World} {s n : Nat} {v : Value} {ws : List Nat} (h : SetAt w s n v ws) : s < w.heap.size := lt_of_heap h.head
theorem SetAt.kept {M : Nat → Prop} {w w' : World} {s n : Nat} {v : Value} {ws : List Nat} (h : SetAt w s n v ws) (k : Kept M w w') (hs : ¬ M s) (hv : ∀ g, v.ownBlock = some g → ¬ M g) : SetAt w' s n v ws :=
  ⟨k.heap h.head hs, k.row h.row hv, h.size, h.bound, h.low, h.other⟩
theorem SetAt.drewN {w : World} {s n : Nat} {v : Value} {ws : List Nat} (h : SetAt w s n v ws) (k : Nat) : SetAt (w.drewN k) s n v ws := ⟨h.head, h.row, h.size, h.bound, h.low, h.other⟩
theorem SetAt.drew {w : World} {s n : Nat} {v : Value} {ws : List Nat} (h : SetAt w s n v ws) : SetAt w.drew s n v ws := ⟨h.head, h.row, h.size, h.bound, h.low, h.other⟩
theorem SetAt.made {w : World} {n : Nat} {v : Value} {ws : List Nat} (hr : w.ownsRow 0 26 1 v ws.length (words ws)) (hs : ws.length = (n + 63) / 64) (hb : n ≤ 65536) (hl : ∀ x ∈ ws, x < 18446744073709551616) :
    SetAt (w.alloc (.cells #[.int .i64 (n : Int), v] 143 (0, 0))) w.heap.size n v ws :=
  ⟨heap_alloc_new w _, hr.alloc _, hs, hb, hl, fun e => by have := (hr.lt _ e).2; omega⟩
theorem len_any (s n : Nat) (v : Value) (ws : List Nat) (w : World) (h : SetAt w s n v ws) :
    Calls Tryz.prog 44 #[.pointer (some ⟨s, 0, none⟩)] w fun e w' => e = .returned (.int .i64 (n : Int)) ∧ w = w' := by
  have hc := h.n_cell
  clear h
  go_enter Tryz.func44, Tryz.ntmps44
  go_wp2
  go_ret
  exact ⟨rfl, rfl⟩
theorem right_ok (s n : Nat) (v : Value) (ws : List Nat) (w : World) (i : Int) (h : SetAt w s n v ws) (h0 : 0 ≤ i) (h1 : i < n) :
    Calls Tryz.prog 74 #[.pointer (some ⟨s, 0, none⟩), .int .i64 i] w fun e w' => e = .returned (.int .i64 0) ∧ w = w' := by
  have hc := h.n_cell
  have hd : decide (i < 0) = false := by simp; omega
  have hd1 : decide ((n : Int) ≤ i) = false := by simp; omega
  clear h
  go_enter Tryz.func74, Tryz.ntmps74
  go_wp2
  go_ret
  exact ⟨rfl, rfl⟩
end Go.Proofs.YtabhieafjkaocaaGreat.Bm
namespace Go.Proofs.YtabhieafjkaocaaGreat.Bm
open Go.RowKit
theorem SetAt.slice {w : World} {s n : Nat} {v : Value} {ws : List Nat} (h : SetAt w s n v ws) (h0 : 0 < n) :
    ∃ g cap, v = .slice (some ⟨g, 0, none⟩) ws.length cap ∧ g ≠ s ∧ ws.length ≤ cap ∧ (∀ j, j < ws.length → w.cell? ⟨g, j, none⟩ = some (.int .u64 ((ws.getD j 0 : Nat) : Int))) ∧ (∀ j, w.frozen? ⟨g, j, none⟩ = false) := by
  have hs := h.size
  have hrow := h.row
  rcases h.row.2 with ⟨_, e⟩ | ⟨g, cap, cur, rfl, _, hg, hle, hm, hcs, ht⟩
  · omega
  · refine ⟨g, cap, rfl, fun e => h.other (by simp [Value.ownBlock, e]), hle, fun j hj => ?_, fun j => hrow.frozenAt j⟩
    rw [hrow.cellAt j (by omega)]
    simp [words, hj]
theorem SetAt.slen {w : World} {s n : Nat} {v : Value} {ws : List Nat} (h : SetAt w s n v ws) : ∃ a cap, v = .slice a ws.length cap := by
  rcases h.row.2 with ⟨h1, h2⟩ | ⟨g, cap, cur, h1, _⟩
  · rw [h1, h2]; exact ⟨_, _, rfl⟩
  · exact ⟨_, _, h1⟩
theorem SetAt.slice' {w : World} {s n : Nat} {v : Value} {ws : List Nat} (h : SetAt w s n v ws) (h0 : 0 < ws.length) :
    ∃ g cap, v = .slice (some ⟨g, 0, none⟩) ws.length cap ∧ g ≠ s ∧ ws.length ≤ cap ∧ (∀ j, j < ws.length → w.cell? ⟨g, j, none⟩ = some (.int .u64 ((ws.getD j 0 : Nat) : Int))) ∧ (∀ j, w.frozen? ⟨g, j, none⟩ = false) :=
  h.slice (by have := h.size; omega)
theorem SetAt.word {w : World} {s n : Nat} {v : Value} {ws : List Nat} (h : SetAt w s n v ws) (j : Nat) : ws.getD j 0 < 18446744073709551616 := by
  by_cases hj : j < ws.length
  · have e : ws.getD j 0 = ws[j] := by simp [hj]
    rw [e]; exact h.low _ (List.getElem_mem _)
  · have e : ws.getD j 0 = 0 := by simp [hj]
    rw [e]; omega
theorem SetAt.stored {w : World} {s n g m cap : Nat} {ws : List Nat} (h : SetAt w s n (.slice (some ⟨g, 0, none⟩) m cap) ws) (hm : m = ws.length) (j y : Nat) (hy : y < 18446744073709551616) :
    Kept (fun k => (Value.slice (some ⟨g, 0, none⟩) m cap).ownBlock = some k) w (w.setCell ⟨g, j, none⟩ (.int .u64 (y : Int))).drew ∧ SetAt (w.setCell ⟨g, j, none⟩ (.int .u64 (y : Int))).drew s n (.slice (some ⟨g, 0, none⟩) m cap) (ws.set j y) := by
  subst hm
  have hne : g ≠ s := fun e => h.other (by simp [Value.ownBlock, e])
  obtain ⟨h1, h2⟩ := h.row.stored j (.int .u64 (y : Int))
  refine ⟨(Kept.of_grown h2).drew, ⟨?_, ?_, by rw [List.length_set]; exact h.size, h.bound, ?_, h.other⟩⟩
  · show (w.setCell ⟨g, j, none⟩ (.int .u64 (y : Int))).heap[s]? = _
    rw [heap_setCell_other w ⟨g, j, none⟩ s _ (fun e => hne e.symm)]
    exact h.head
  · have e : words (ws.set j y) = (words ws).set j (.int .u64 (y : Int)) := by simp [words, List.map_set]
    rw [List.length_set, e]
    exact h1
  · intro x hx
    rcases List.mem_or_eq_of_mem_set hx with hx | hx
    · exact h.low x hx
    · omega
theorem has_in (s n : Nat) (v : Value) (ws : List Nat) (w : World) (i : Nat) (h : SetAt w s n v ws) (h1 : i < n) :
    Calls Tryz.prog 45 #[.pointer (some ⟨s, 0, none⟩), .int .i64 (i : Int)] w fun e w' => e = .returned (.bool ((ws.getD (i / 64) 0).testBit (i % 64))) ∧ w = w' := by
  obtain ⟨g, cap, rfl, hgs, hcap, hcell, hfr⟩ := h.slice (by omega)
  have hr := right_ok s n _ ws w i h (by omega) (by omega)
  have hv := h.v_cell
  have hsz := h.size
  have hb := h.bound
  have hg := hcell (i / 64) (by omega)
  have hlt : i / 64 < ws.length := by omega
  have hx0 := h.word (i / 64)
  generalize hx : ws.getD (i / 64) 0 = x at *
  clear h hcell hx
  go_enter Tryz.func45, Tryz.ntmps45
  go_wp2_with (go_at_call 74; refine hr.mono ?_; rintro e w' ⟨rfl, rfl⟩)
  go_ret
  exact ⟨by rw [← word_has x (i % 64) hx0]; rfl, rfl⟩
def putW (ws : List Nat) (i : Nat) : List Nat := ws.set (i / 64) (ws.getD (i / 64) 0 ||| 2 ^ (i % 64))
def takeW (ws : List Nat) (i : Nat) : List Nat := ws.set (i / 64) (ws.getD (i / 64) 0 &&& (18446744073709551615 - 2 ^ (i % 64)))
theorem put_ok (s n : Nat) (v : Value) (ws : List Nat) (w : World) (i : Nat) (h : SetAt w s n v ws) (h1 : i < n) :
    Calls Tryz.prog 46 #[.pointer (some ⟨s, 0, none⟩), .int .i64 (i : Int)] w fun e w' => e = .returned (.int .i64 0) ∧ Kept (fun k => v.ownBlock = some k) w w' ∧ SetAt w' s n v (putW ws i) := by
  obtain ⟨g, cap, rfl, hgs, hcap, hcell, hfr⟩ := h.slice (by omega)
  have hr := right_ok s n _ ws w i h (by omega) (by omega)
  have hv := h.v_cell
  have hsz := h.size
  have hb := h.bound
  have hg := hcell (i / 64) (by omega)
  have hf := hfr (i / 64)
  have hlt : i / 64 < ws.length := by omega
  have hx0 := h.word (i / 64)
  have H := Lib.hid h
  generalize hx : ws.getD (i / 64) 0 = x at *
  have HX := Lib.hid hx
  clear h hcell hx
  go_enter Tryz.func46, Tryz.ntmps46
  go_wp2_with (go_at_call 74; refine hr.mono ?_; rintro e w' ⟨rfl, rfl⟩)
  go_region
  go_wp2
  go_ret
  refine ⟨rfl, ?_⟩
  rw [wrap_pow2 _ (Nat.mod_lt _ (by omega)), word_put x _ hx0 (Nat.mod_lt _ (by omega)), putW, HX.out]
  exact H.out.stored rfl (i / 64) _ (word_put_lt x _ hx0 (Nat.mod_lt _ (by omega)))
theorem take_ok (s n : Nat) (v : Value) (ws : List Nat) (w : World) (i : Nat) (h : SetAt w s n v ws) (h1 : i < n) :
    Calls Tryz.prog 56 #[.pointer (some ⟨s, 0, none⟩), .int .i64 (i : Int)] w fun e w' => e = .returned (.int .i64 0) ∧ Kept (fun k => v.ownBlock = some k) w w' ∧ SetAt w' s n v (takeW ws i) := by
  obtain ⟨g, cap, rfl, hgs, hcap, hcell, hfr⟩ := h.slice (by omega)
  have hr := right_ok s n _ ws w i h (by omega) (by omega)
  have hv := h.v_cell
  have hsz := h.size
  have hb := h.bound
  have hg := hcell (i / 64) (by omega)
  have hf := hfr (i / 64)
  have hlt : i / 64 < ws.length := by omega
  have hx0 := h.word (i / 64)
  have H := Lib.hid h
  generalize hx : ws.getD (i / 64) 0 = x at *
  have HX := Lib.hid hx
  clear h hcell hx
  go_enter Tryz.func56, Tryz.ntmps56
  go_wp2_with (go_at_call 74; refine hr.mono ?_; rintro e w' ⟨rfl, rfl⟩)
  go_region
  go_wp2
  go_ret
  refine ⟨rfl, ?_⟩
  rw [wrap_pow2 _ (Nat.mod_lt _ (by omega)), word_take x _ hx0 (Nat.mod_lt _ (by omega)), takeW, HX.out]
  exact H.out.stored rfl (i / 64) _ (word_take_lt x _ hx0)
end Go.Proofs.YtabhieafjkaocaaGreat.Bm
