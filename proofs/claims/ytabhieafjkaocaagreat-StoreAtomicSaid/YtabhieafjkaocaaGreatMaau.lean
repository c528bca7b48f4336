/- A part. -/
import Derived.Test.YtabhieafjkaocaaGreatMaat
import Derived.Test.YtabhieafjkaocaaGreatMaap
import Derived.BigRegion
set_option linter.unusedVariables false
set_option linter.unusedSimpArgs false
namespace Go.Proofs.YtabhieafjkaocaaGreat
open Go.RowKit Go.Lib Bm
set_option maxRecDepth 20000
theorem set11 (w : World) (B : Nat) (t : TypeId) (z0 z1 z2 z3 z4 z5 z6 z7 z8 z9 z10 z11 z12 z13 z14 v2 v3 v4 v5 v6 v7 v8 v9 v10 v11 v12 : Value) (h : w.heap[B]? = some (.cells #[z0, z1, z2, z3, z4, z5, z6, z7, z8, z9, z10, z11, z12, z13, z14] t (0, 0))) : (((((((((((w.setCell ⟨B, 2, none⟩ v2).setCell ⟨B, 3, none⟩ v3).setCell ⟨B, 4, none⟩ v4).setCell ⟨B, 5, none⟩ v5).setCell ⟨B, 6, none⟩ v6).setCell ⟨B, 7, none⟩ v7).setCell ⟨B, 8, none⟩ v8).setCell ⟨B, 9, none⟩ v9).setCell ⟨B, 10, none⟩ v10).setCell ⟨B, 11, none⟩ v11).setCell ⟨B, 12, none⟩ v12).heap[B]? = some (.cells #[z0, z1, v2, v3, v4, v5, v6, v7, v8, v9, v10, v11, v12, z13, z14] t (0, 0)) := by
  have H := (heap_setCell_same _ B 12 _ _ v12 (heap_setCell_same _ B 11 _ _ v11 (heap_setCell_same _ B 10 _ _ v10 (heap_setCell_same _ B 9 _ _ v9 (heap_setCell_same _ B 8 _ _ v8 (heap_setCell_same _ B 7 _ _ v7 (heap_setCell_same _ B 6 _ _ v6 (heap_setCell_same _ B 5 _ _ v5 (heap_setCell_same _ B 4 _ _ v4 (heap_setCell_same _ B 3 _ _ v3 (heap_setCell_same _ B 2 _ _ v2 h)))))))))))
  simp only [List.setIfInBounds_toArray, List.set_cons_succ, List.set_cons_zero] at H
  exact H
theorem kept11 (w : World) (B : Nat) (v2 v3 v4 v5 v6 v7 v8 v9 v10 v11 v12 : Value) : Kept (fun k => k = B) w (((((((((((w.setCell ⟨B, 2, none⟩ v2).setCell ⟨B, 3, none⟩ v3).setCell ⟨B, 4, none⟩ v4).setCell ⟨B, 5, none⟩ v5).setCell ⟨B, 6, none⟩ v6).setCell ⟨B, 7, none⟩ v7).setCell ⟨B, 8, none⟩ v8).setCell ⟨B, 9, none⟩ v9).setCell ⟨B, 10, none⟩ v10).setCell ⟨B, 11, none⟩ v11).setCell ⟨B, 12, none⟩ v12) := ((((((((((((Kept.refl (fun k => k = B) w).setCell ⟨B, 2, none⟩ v2 (fun _ => rfl)).setCell ⟨B, 3, none⟩ v3 (fun _ => rfl)).setCell ⟨B, 4, none⟩ v4 (fun _ => rfl)).setCell ⟨B, 5, none⟩ v5 (fun _ => rfl)).setCell ⟨B, 6, none⟩ v6 (fun _ => rfl)).setCell ⟨B, 7, none⟩ v7 (fun _ => rfl)).setCell ⟨B, 8, none⟩ v8 (fun _ => rfl)).setCell ⟨B, 9, none⟩ v9 (fun _ => rfl)).setCell ⟨B, 10, none⟩ v10 (fun _ => rfl)).setCell ⟨B, 11, none⟩ v11 (fun _ => rfl)).setCell ⟨B, 12, none⟩ v12 (fun _ => rfl))
set_option maxHeartbeats 2000000 in
theorem open_blank (x : DiskH) (dm : DiskM) (cnt n top : Nat) (w : World) (hx : DiskAt w x dm) (ho : dm.off = false) (hall : dm.lies.length ≤ 4096) (hc : 2 ≤ cnt) (hn : dm.lies.length = cnt + n) (hn2 : 2 ≤ n) (hp : dm.pend.length < 100000)
    (hf : batchM (views dm 0 cnt) 0 = none) (htop : topOf (views dm 0 cnt) = top) (htm : top + 1 < 4611686018427387904) (hblank : dm.view cnt = List.replicate 1024 0) (hlay : (layoutM dm cnt n (top + 1)).2 = 0)
    (hdec : dec ((layoutM dm cnt n (top + 1)).1.view cnt) 0 = .ok ⟨83, 0, top + 1, (HeldM.fresh n).body⟩) :
    Calls Tryz.prog 12 #[dev x.d, .int .i64 (cnt : Int)] w fun e w' => ∃ (x' : DiskH) (s u : Nat) (v : Value), e = .returned (.tuple #[.pointer (some ⟨s, 0, none⟩), .int .i64 0]) ∧ Kept x.foot w w' ∧ DiskAt w' x' (layoutM dm cnt n (top + 1)).1 ∧ x'.d = x.d ∧ (∀ g, x'.foot g → x.foot g ∨ w.heap.size ≤ g) ∧
      StAt w' s x.d u v (.pointer none) ⟨cnt, HeldM.fresh n, top + 1, top + 2, false⟩ ∧ w.heap.size ≤ s ∧ w.heap.size ≤ u ∧ ∀ g, v.ownBlock = some g → w.heap.size ≤ g := by
  have HX := Lib.hid hx
  have hready : dm.ready (cnt : Int) = 0 := by
    unfold DiskM.ready
    rw [ho, if_neg (by simp), if_neg (by omega)]
  have HRDY := Lib.hid hready
  have hscan := scan_ok x dm 0 cnt
  have HSCAN := Lib.hid (fun w h => hscan w h (by omega) (by omega) ho)
  have HF := Lib.hid (show scanOf (views dm 0 cnt) 0 = ⟨top, false, 0, []⟩ from by unfold scanOf; rw [hf, htop])
  have HBL := Lib.hid hblank
  have HLAY := Lib.hid hlay
  have HDEC := Lib.hid hdec
  have HN := Lib.hid hn
  have hlen := hn
  have hts := types_373
  have hmp : ∀ w, (method 373 24 (.pointer (some ⟨x.d, 0, none⟩)) "Pages").run Tryz.prog w = .ok (211, .pointer (some ⟨x.d, 0, none⟩)) w := fun w => dev_method_pages x.d w
  have hcp : ∀ w, (callFunc 211 #[.pointer (some ⟨x.d, 0, none⟩)]).run Tryz.prog w = .ok (.enter 211 #[.pointer (some ⟨x.d, 0, none⟩)]) w := fun w => by kernel_rfl
  have hmt : ∀ w, (method 373 24 (.pointer (some ⟨x.d, 0, none⟩)) "Read").run Tryz.prog w = .ok (212, .pointer (some ⟨x.d, 0, none⟩)) w := fun w => dev_method_read x.d w
  have hcf : ∀ w (i : Int), (callFunc 212 #[.pointer (some ⟨x.d, 0, none⟩), .int .i64 i]).run Tryz.prog w = .ok (.enter 212 #[.pointer (some ⟨x.d, 0, none⟩), .int .i64 i]) w := fun w i => by kernel_rfl
  have hdn := dev_not x.d
  have hL : ((dm.lies.length : Nat) : Int) = (cnt : Int) + (n : Int) := by omega
  generalize hLL : dm.lies.length = L at *
  have HLL := Lib.hid hLL
  clear hLL
  have hd1 : decide ((4096 : Int) < (L : Int)) = false := by simp; omega
  have hd2 : decide ((cnt : Int) < 2) = false := by simp; omega
  have hd3 : decide ((L : Int) - (cnt : Int) < 2) = false := by simp; omega
  have hwl : IntKind.i64.wrap ((L : Int) - (cnt : Int)) = (L : Int) - (cnt : Int) := by rw [IntKind.wrap_i64]; omega
  have HL := Lib.hid hL
  clear hx hready hscan hf htop hblank hlay hdec hn hlen hL
  go_enter Tryz.func12, Tryz.ntmps12
  go_wp2_with fail
  refine (dpages_ok x dm w HX.out).mono ?_
  rintro e w' ⟨rfl, rfl⟩
  rw [HLL.out]
  go_wp2_with fail
  have hS := heap_alloc_new w (.cells #[dev x.d, .int .i64 (cnt : Int), .pointer none, .int .u32 0, .int .u32 0, .int .u32 0, .int .u32 0, .int .u32 0, .int .u32 0, .int .u32 0, .int .u32 0, .int .u64 0, .int .u64 0, .bool false, .pointer none] 90)
  have k1 : Kept No w (w.alloc (.cells #[dev x.d, .int .i64 (cnt : Int), .pointer none, .int .u32 0, .int .u32 0, .int .u32 0, .int .u32 0, .int .u32 0, .int .u32 0, .int .u32 0, .int .u32 0, .int .u64 0, .int .u64 0, .bool false, .pointer none] 90)) := (Kept.refl _ _).alloc _
  generalize (w.alloc (.cells #[dev x.d, .int .i64 (cnt : Int), .pointer none, .int .u32 0, .int .u32 0, .int .u32 0, .int .u32 0, .int .u32 0, .int .u32 0, .int .u32 0, .int .u32 0, .int .u64 0, .int .u64 0, .bool false, .pointer none] 90)) = w1 at *
  generalize hSe : w.heap.size = S at *
  have HSE := Lib.hid hSe
  clear hSe
  have HX1 := Lib.hid (HX.out.kept k1 (fun _ _ h => h))
  refine (HSCAN.out w1 HX1.out).mono ?_
  rw [HF.out]
  rintro e w2 ⟨fv, rfl, k2, hpg, hfv⟩
  have HS2 := Lib.hid (k2.heap hS (fun h => h))
  have HX2 := Lib.hid (HX1.out.kept k2 (fun _ _ h => h))
  have K2 := Lib.hid (k1.trans k2)
  have hfv0 : ∃ a cap, fv = .slice a 0 cap := hpg.slice
  obtain ⟨fa, fc, rfl⟩ := hfv0
  clear hS k1 k2 hpg hfv HX1
  go_wp2_with fail
  have hF := heap_alloc_new w2 (.cells #[.int .u64 (top : Int), .bool false, .int .u64 0, .slice fa 0 fc] 100)
  have k3 : Kept No w2 (w2.alloc (.cells #[.int .u64 (top : Int), .bool false, .int .u64 0, .slice fa 0 fc] 100)) := (Kept.refl _ _).alloc _
  generalize w2.alloc (.cells #[.int .u64 (top : Int), .bool false, .int .u64 0, .slice fa 0 fc] 100) = w3 at *
  generalize w2.heap.size = FB at *
  refine (dread_ok x dm cnt w3 (HX2.out.kept k3 (fun _ _ h => h)) HRDY.out (by rw [HLL.out]; have := HN.out; omega)).mono ?_
  rintro e w4 ⟨b, rfl, k4, hb1, hb2⟩
  rw [HBL.out] at hb2
  have HB4 := Lib.hid hb2
  have HX4 := Lib.hid ((HX2.out.kept k3 (fun _ _ h => h)).kept k4 (fun _ _ h => h))
  have HS4 := Lib.hid (k4.heap (k3.heap HS2.out (fun h => h)) (fun h => h))
  have hF4 := k4.heap hF (fun h => h)
  have f1 := (cell_of_row w4 FB 1 _ _ _ hF4).trans rfl
  have K4 := Lib.hid ((K2.out.trans k3).trans k4)
  have hdt : decide ((4611686018427387904 : Int) ≤ (top : Int)) = false := by simp; omega
  have hwt : IntKind.u64.wrap ((top : Int) + 1) = (top : Int) + 1 := by rw [IntKind.wrap_u64]; omega
  clear hF k3 k4 hb1 hb2 hF4 HX2 HS2 K2 HX HSCAN HF HBL
  go_wp2_with fail
  refine (blank_ok b _ w4 HB4.out).mono ?_
  rintro e w' ⟨rfl, rfl⟩
  have hbb : (List.replicate 1024 (0 : UInt8) == List.replicate 1024 0) = true := by simp
  rw [hbb]
  clear hbb
  go_wp2_with fail
  rw [show ((top : Int) + 1) = ((top + 1 : Nat) : Int) from by omega, show ((L : Int) - (cnt : Int)) = (n : Int) from by have := HL.out; omega]
  have HSD : SdAt w4 S x.d cnt := ⟨⟨_, HS4.out, rfl, rfl⟩, ⟨hc, by have := HN.out; omega⟩⟩
  refine (layout_ok S cnt n (top + 1) x dm w4 HSD HX4.out hn2 (by have := HN.out; omega) (by omega) (by omega) (by rw [HLL.out]; have := HN.out; omega) hp).mono ?_
  rintro e w5 ⟨x5, lv, rfl, k5, hd5, hs5, hf5, hout⟩
  rw [HLAY.out] at hout ⊢
  unfold HeadOut at hout
  rw [if_pos rfl] at hout
  obtain ⟨b2, rfl, hb21, hb22⟩ := hout
  have HB5 := Lib.hid hb22
  have hS5 := k5.heap HS4.out (HX4.out.not_foot HS4.out (by decide) (by decide) (by decide))
  have HS5 := Lib.hid hS5
  have HX5 := Lib.hid hd5
  have K5 := Lib.hid ((K4.out.of_no x.foot).trans k5)
  have hw4 := K4.out.size
  have F5 := Lib.hid (show ∀ g, x5.foot g → x.foot g ∨ w.heap.size ≤ g from fun g hg => (hf5 g hg).imp id (fun e => by omega))
  have hb2n : w.heap.size ≤ b2 := by omega
  have HSX := Lib.hid hs5
  clear k5 hd5 hf5 hb21 hb22 hS5 HS4 HX4 HB4 f1 HSD hs5
  go_wp2_with fail
  refine (decode_ok b2 _ 0 w5 HB5.out (by omega)).mono ?_
  rw [HDEC.out]
  rintro e w6 ⟨rfl, k6⟩
  have HS6 := Lib.hid (k6.heap HS5.out (fun h => h))
  have HX6 := Lib.hid (HX5.out.kept k6 (fun _ _ h => h))
  have K6 := Lib.hid (K5.out.next k6 (fun _ _ h => h.elim))
  simp only [decRow, decErr]
  unfold pageRow
  clear k6 HS5 HX5 K5 HB5
  have hmx : ∀ ts ty w, (Builtin.max_ ts ty #[.int .u64 ((top : Int) + 1), .int .u64 ((top : Int) + 1)]).run Tryz.prog w = .ok (.int .u64 ((top : Int) + 1)) w := fun ts ty w => by
    rw [run_max_int2]
    simp
  have hdm : decide ((4611686018427387904 : Int) ≤ (top : Int) + 1) = false := by simp; omega
  go_wp2_with (first
    | (refine wpList_store_new (by rfl) 28 (.tmp 15) (.tmp 110) (by rfl) w6 28 _ _ (by rfl) (by rfl) (by rfl) (by exact page_size) (by rfl) (by simp [Value.oneCell']) ?_))
  have hP := heap_alloc_new w6 (.cells #[.int .u8 83, .int .u32 0, .int .u64 ((top : Int) + 1), .string ⟨⟨(HeldM.fresh n).body⟩⟩] 28)
  have k7 : Kept No w6 (w6.alloc (.cells #[.int .u8 83, .int .u32 0, .int .u64 ((top : Int) + 1), .string ⟨⟨(HeldM.fresh n).body⟩⟩] 28)) := (Kept.refl _ _).alloc _
  have hw6 := K6.out.size
  generalize w6.alloc (.cells #[.int .u8 83, .int .u32 0, .int .u64 ((top : Int) + 1), .string ⟨⟨(HeldM.fresh n).body⟩⟩] 28) = w7 at *
  generalize hPB : w6.heap.size = PB at *
  have HPB := Lib.hid hPB
  clear hPB
  rw [show ((L : Int) - (cnt : Int)) = (n : Int) from by have := HL.out; omega, show ((top : Int) + 1) = ((top + 1 : Nat) : Int) from by omega]
  have hright := rightH_ok (HeldM.fresh n) (HeldM.fresh_ok n hn2 (by have := HN.out; omega)) 0 (top + 1) w7
  refine hright.mono ?_
  rintro e w8 ⟨u, uv, rfl, k8, hheld, hu1, hu2⟩
  have HS8 := Lib.hid (k8.heap (k7.heap HS6.out (fun h => h)) (fun h => h))
  have HX8 := Lib.hid ((HX6.out.kept k7 (fun _ _ h => h)).kept k8 (fun _ _ h => h))
  have K8 := Lib.hid ((K6.out.next k7 (fun _ _ h => h.elim)).next k8 (fun _ _ h => h.elim))
  have hP8 := k8.heap (by first | exact hP | exact hP) (fun h => h)
  have HP8 := Lib.hid hP8
  have HH8 := Lib.hid hheld
  have hsz7 := k7.size
  have HU1 := Lib.hid (show w.heap.size ≤ u by have := HSE.out; have := HPB.out; omega)
  have HU2 := Lib.hid (show ∀ g, uv.ownBlock = some g → w.heap.size ≤ g from fun g hg => by have := hu2 g hg; have := HSE.out; have := HPB.out; omega)
  clear k7 k8 hP hP8 hheld hu1 hu2 HS6 HX6 K6 hright
  go_wp2_with (refine wpList_store_new (by rfl) 88 (.tmp 16) (.tmp 127) (by rfl) w8 88 _ _ (by rfl) (by rfl) (by rfl) (by exact held_size) (by rfl) (by simp [Value.oneCell']) ?_)
  have hB9 := heap_alloc_new w8 (.cells #[.pointer (some ⟨u, 0, none⟩), .int .u32 ((HeldM.fresh n).root.a : Int), .int .u32 ((HeldM.fresh n).root.b : Int), .int .u32 ((HeldM.fresh n).root.c : Int), .int .u32 ((HeldM.fresh n).root.d : Int), .int .u32 ((HeldM.fresh n).root.e : Int), .int .u32 ((HeldM.fresh n).root.f : Int), .int .u32 ((HeldM.fresh n).root.g : Int), .int .u32 ((HeldM.fresh n).root.h : Int)] 88)
  have k9 : Kept No w8 (w8.alloc (.cells #[.pointer (some ⟨u, 0, none⟩), .int .u32 ((HeldM.fresh n).root.a : Int), .int .u32 ((HeldM.fresh n).root.b : Int), .int .u32 ((HeldM.fresh n).root.c : Int), .int .u32 ((HeldM.fresh n).root.d : Int), .int .u32 ((HeldM.fresh n).root.e : Int), .int .u32 ((HeldM.fresh n).root.f : Int), .int .u32 ((HeldM.fresh n).root.g : Int), .int .u32 ((HeldM.fresh n).root.h : Int)] 88)) := (Kept.refl _ _).alloc _
  generalize w8.alloc (.cells #[.pointer (some ⟨u, 0, none⟩), .int .u32 ((HeldM.fresh n).root.a : Int), .int .u32 ((HeldM.fresh n).root.b : Int), .int .u32 ((HeldM.fresh n).root.c : Int), .int .u32 ((HeldM.fresh n).root.d : Int), .int .u32 ((HeldM.fresh n).root.e : Int), .int .u32 ((HeldM.fresh n).root.f : Int), .int .u32 ((HeldM.fresh n).root.g : Int), .int .u32 ((HeldM.fresh n).root.h : Int)] 88) = w9 at *
  generalize w8.heap.size = HB at *
  have hS9 := k9.heap HS8.out (fun h => h)
  have hP9 := k9.heap HP8.out (fun h => h)
  have HX9 := Lib.hid (HX8.out.kept k9 (fun _ _ h => h))
  have HH9 := Lib.hid (HH8.out.kept k9 (fun h => h) (fun _ _ h => h))
  have K9 := Lib.hid (K8.out.next k9 (fun _ _ h => h.elim))
  have HS9 := Lib.hid hS9
  have sc2 := (cell_of_row w9 S 2 _ _ _ hS9).trans rfl
  have sf2 := frozen_of_row w9 S 2 _ _ hS9
  have sc3 := (cell_of_row w9 S 3 _ _ _ hS9).trans rfl
  have sf3 := frozen_of_row w9 S 3 _ _ hS9
  have sc4 := (cell_of_row w9 S 4 _ _ _ hS9).trans rfl
  have sf4 := frozen_of_row w9 S 4 _ _ hS9
  have sc5 := (cell_of_row w9 S 5 _ _ _ hS9).trans rfl
  have sf5 := frozen_of_row w9 S 5 _ _ hS9
  have sc6 := (cell_of_row w9 S 6 _ _ _ hS9).trans rfl
  have sf6 := frozen_of_row w9 S 6 _ _ hS9
  have sc7 := (cell_of_row w9 S 7 _ _ _ hS9).trans rfl
  have sf7 := frozen_of_row w9 S 7 _ _ hS9
  have sc8 := (cell_of_row w9 S 8 _ _ _ hS9).trans rfl
  have sf8 := frozen_of_row w9 S 8 _ _ hS9
  have sc9 := (cell_of_row w9 S 9 _ _ _ hS9).trans rfl
  have sf9 := frozen_of_row w9 S 9 _ _ hS9
  have sc10 := (cell_of_row w9 S 10 _ _ _ hS9).trans rfl
  have sf10 := frozen_of_row w9 S 10 _ _ hS9
  have sc11 := (cell_of_row w9 S 11 _ _ _ hS9).trans rfl
  have sf11 := frozen_of_row w9 S 11 _ _ hS9
  have sc12 := (cell_of_row w9 S 12 _ _ _ hS9).trans rfl
  have sf12 := frozen_of_row w9 S 12 _ _ hS9
  have bc0 := (cell_of_row w9 HB 0 _ _ _ hB9).trans rfl
  have bc1 := (cell_of_row w9 HB 1 _ _ _ hB9).trans rfl
  have bc2 := (cell_of_row w9 HB 2 _ _ _ hB9).trans rfl
  have bc3 := (cell_of_row w9 HB 3 _ _ _ hB9).trans rfl
  have bc4 := (cell_of_row w9 HB 4 _ _ _ hB9).trans rfl
  have bc5 := (cell_of_row w9 HB 5 _ _ _ hB9).trans rfl
  have bc6 := (cell_of_row w9 HB 6 _ _ _ hB9).trans rfl
  have bc7 := (cell_of_row w9 HB 7 _ _ _ hB9).trans rfl
  have bc8 := (cell_of_row w9 HB 8 _ _ _ hB9).trans rfl
  have pc2 := (cell_of_row w9 PB 2 _ _ _ hP9).trans rfl
  have hne1 : PB ≠ S := cells_ne hP9 hS9 (by decide)
  have hne2 : S ≠ PB := cells_ne hS9 hP9 (by decide)
  have hne3 : HB ≠ S := cells_ne hB9 hS9 (by decide)
  have hne4 : S ≠ HB := cells_ne hS9 hB9 (by decide)
  clear hB9 hS9 hP9 k9 HX8 HH8 K8 HS8 HP8
  go_region
  have kk := kept11 w9 S (.pointer (some ⟨u, 0, none⟩)) (.int .u32 ((HeldM.fresh n).root.a : Int)) (.int .u32 ((HeldM.fresh n).root.b : Int)) (.int .u32 ((HeldM.fresh n).root.c : Int)) (.int .u32 ((HeldM.fresh n).root.d : Int)) (.int .u32 ((HeldM.fresh n).root.e : Int)) (.int .u32 ((HeldM.fresh n).root.f : Int)) (.int .u32 ((HeldM.fresh n).root.g : Int)) (.int .u32 ((HeldM.fresh n).root.h : Int)) (.int .u64 ((top : Int) + 1)) (.int .u64 ((top : Int) + 1 + 1))
  have hrow := set11 w9 S 90 _ _ _ _ _ _ _ _ _ _ _ _ _ _ _ (.pointer (some ⟨u, 0, none⟩)) (.int .u32 ((HeldM.fresh n).root.a : Int)) (.int .u32 ((HeldM.fresh n).root.b : Int)) (.int .u32 ((HeldM.fresh n).root.c : Int)) (.int .u32 ((HeldM.fresh n).root.d : Int)) (.int .u32 ((HeldM.fresh n).root.e : Int)) (.int .u32 ((HeldM.fresh n).root.f : Int)) (.int .u32 ((HeldM.fresh n).root.g : Int)) (.int .u32 ((HeldM.fresh n).root.h : Int)) (.int .u64 ((top : Int) + 1)) (.int .u64 ((top : Int) + 1 + 1)) HS9.out
  generalize (((((((((((w9.setCell ⟨S, 2, none⟩ (.pointer (some ⟨u, 0, none⟩))).setCell ⟨S, 3, none⟩ (.int .u32 ((HeldM.fresh n).root.a : Int))).setCell ⟨S, 4, none⟩ (.int .u32 ((HeldM.fresh n).root.b : Int))).setCell ⟨S, 5, none⟩ (.int .u32 ((HeldM.fresh n).root.c : Int))).setCell ⟨S, 6, none⟩ (.int .u32 ((HeldM.fresh n).root.d : Int))).setCell ⟨S, 7, none⟩ (.int .u32 ((HeldM.fresh n).root.e : Int))).setCell ⟨S, 8, none⟩ (.int .u32 ((HeldM.fresh n).root.f : Int))).setCell ⟨S, 9, none⟩ (.int .u32 ((HeldM.fresh n).root.g : Int))).setCell ⟨S, 10, none⟩ (.int .u32 ((HeldM.fresh n).root.h : Int))).setCell ⟨S, 11, none⟩ (.int .u64 ((top : Int) + 1))).setCell ⟨S, 12, none⟩ (.int .u64 ((top : Int) + 1 + 1))) = Y at kk hrow ⊢
  rw [show (top : Int) + 1 + 1 = ((top + 2 : Nat) : Int) from by omega, show (top : Int) + 1 = ((top + 1 : Nat) : Int) from by omega] at hrow
  have HROW := Lib.hid hrow
  have KK := Lib.hid kk
  clear hrow kk sc2 sf2 sc3 sf3 sc4 sf4 sc5 sf5 sc6 sf6 sc7 sf7 sc8 sf8 sc9 sf9 sc10 sf10 sc11 sf11 sc12 sf12 bc0 bc1 bc2 bc3 bc4 bc5 bc6 bc7 bc8 pc2
  go_wp2
  go_ret2
  have hSE := HSE.out
  have kd : Kept No Y Y.drew := (Kept.refl _ _).drew
  have hSf : ¬ x5.foot S := HX9.out.not_foot HS9.out (by decide) (by decide) (by decide)
  have hu9 := HH9.out.set
  have huS : u ≠ S := cells_ne hu9.head HS9.out (by decide)
  have hvS : ∀ g, uv.ownBlock = some g → g ≠ S := fun g hg => by
    obtain ⟨cs, hc⟩ := row_cells hu9.row hg
    exact cells_ne hc HS9.out (by decide)
  refine ⟨x5, S, u, uv, rfl, (K9.out.next KK.out (fun k hk e => absurd hk (by omega))).next kd (fun _ _ h => h.elim), (HX9.out.kept KK.out (fun g hg e => hSf (e ▸ hg))).kept kd (fun _ _ h => h), HSX.out, F5.out, ⟨HROW.out, (HH9.out.kept KK.out huS hvS).kept kd (fun h => h) (fun _ _ h => h), ⟨hc, by show cnt ≤ 4096; have := HN.out; omega⟩, ⟨by show top + 1 < top + 2; omega, by show top + 2 ≤ 4611686018427387904; omega⟩, rfl⟩, by omega, HU1.out, HU2.out⟩
set_option maxHeartbeats 2000000 in
theorem open_whole (x : DiskH) (dm : DiskM) (cnt n top ser hs mx : Nat) (l : List PageV) (h : HeldM) (w : World) (hx : DiskAt w x dm) (ho : dm.off = false) (hall : dm.lies.length ≤ 4096) (hc : 2 ≤ cnt) (hn : dm.lies.length = cnt + n) (hn2 : 2 ≤ n) (hp : dm.pend.length < 100000)
    (hf : batchM (views dm 0 cnt) 0 = some (ser, l)) (htop : topOf (views dm 0 cnt) = top) (hl0 : 0 < l.length) (hln : l.length < 1000) (hnum : ∀ p ∈ l, p.number < n) (hbd : ∀ p ∈ l, p.body.length ≤ 996) (hser : ser ≤ 4611686018427387904) (hmxe : mx = max hs top) (htm : mx < 4611686018427387904)
    (hlay : (homeW cnt ser l dm).2 = 0) (hok : h.Ok) (hhn : h.n = n) (hdec : dec ((homeW cnt ser l dm).1.view cnt) 0 = .ok ⟨83, 0, hs, h.body⟩) :
    Calls Tryz.prog 12 #[dev x.d, .int .i64 (cnt : Int)] w fun e w' => ∃ (x' : DiskH) (s u : Nat) (v : Value), e = .returned (.tuple #[.pointer (some ⟨s, 0, none⟩), .int .i64 0]) ∧ Kept x.foot w w' ∧ DiskAt w' x' (homeW cnt ser l dm).1 ∧ x'.d = x.d ∧ (∀ g, x'.foot g → x.foot g ∨ w.heap.size ≤ g) ∧
      StAt w' s x.d u v (.pointer none) ⟨cnt, h, hs, mx + 1, false⟩ ∧ w.heap.size ≤ s ∧ w.heap.size ≤ u ∧ ∀ g, v.ownBlock = some g → w.heap.size ≤ g := by
  have HX := Lib.hid hx
  have hready : dm.ready (cnt : Int) = 0 := by
    unfold DiskM.ready
    rw [ho, if_neg (by simp), if_neg (by omega)]
  have HRDY := Lib.hid hready
  have hscan := scan_ok x dm 0 cnt
  have HSCAN := Lib.hid (fun w h => hscan w h (by omega) (by omega) ho)
  have HF := Lib.hid (show scanOf (views dm 0 cnt) 0 = ⟨top, true, ser, l⟩ from by unfold scanOf; rw [hf, htop])
  have HOK := Lib.hid hok
  have HHN := Lib.hid hhn
  have HMX := Lib.hid hmxe
  have HNUM := Lib.hid hnum
  have HLAY := Lib.hid hlay
  have HDEC := Lib.hid hdec
  have HN := Lib.hid hn
  have hlen := hn
  have hts := types_373
  have hmp : ∀ w, (method 373 24 (.pointer (some ⟨x.d, 0, none⟩)) "Pages").run Tryz.prog w = .ok (211, .pointer (some ⟨x.d, 0, none⟩)) w := fun w => dev_method_pages x.d w
  have hcp : ∀ w, (callFunc 211 #[.pointer (some ⟨x.d, 0, none⟩)]).run Tryz.prog w = .ok (.enter 211 #[.pointer (some ⟨x.d, 0, none⟩)]) w := fun w => by kernel_rfl
  have hmt : ∀ w, (method 373 24 (.pointer (some ⟨x.d, 0, none⟩)) "Read").run Tryz.prog w = .ok (212, .pointer (some ⟨x.d, 0, none⟩)) w := fun w => dev_method_read x.d w
  have hcf : ∀ w (i : Int), (callFunc 212 #[.pointer (some ⟨x.d, 0, none⟩), .int .i64 i]).run Tryz.prog w = .ok (.enter 212 #[.pointer (some ⟨x.d, 0, none⟩), .int .i64 i]) w := fun w i => by kernel_rfl
  have hdn := dev_not x.d
  have hL : ((dm.lies.length : Nat) : Int) = (cnt : Int) + (n : Int) := by omega
  generalize hLL : dm.lies.length = L at *
  have HLL := Lib.hid hLL
  clear hLL
  have hd1 : decide ((4096 : Int) < (L : Int)) = false := by simp; omega
  have hd2 : decide ((cnt : Int) < 2) = false := by simp; omega
  have hd3 : decide ((L : Int) - (cnt : Int) < 2) = false := by simp; omega
  have hwl : IntKind.i64.wrap ((L : Int) - (cnt : Int)) = (L : Int) - (cnt : Int) := by rw [IntKind.wrap_i64]; omega
  have HL := Lib.hid hL
  clear hx hready hscan hf htop hlay hdec hn hlen hL hok hhn hmxe hnum
  go_enter Tryz.func12, Tryz.ntmps12
  go_wp2_with fail
  refine (dpages_ok x dm w HX.out).mono ?_
  rintro e w' ⟨rfl, rfl⟩
  rw [HLL.out]
  go_wp2_with fail
  have hS := heap_alloc_new w (.cells #[dev x.d, .int .i64 (cnt : Int), .pointer none, .int .u32 0, .int .u32 0, .int .u32 0, .int .u32 0, .int .u32 0, .int .u32 0, .int .u32 0, .int .u32 0, .int .u64 0, .int .u64 0, .bool false, .pointer none] 90)
  have k1 : Kept No w (w.alloc (.cells #[dev x.d, .int .i64 (cnt : Int), .pointer none, .int .u32 0, .int .u32 0, .int .u32 0, .int .u32 0, .int .u32 0, .int .u32 0, .int .u32 0, .int .u32 0, .int .u64 0, .int .u64 0, .bool false, .pointer none] 90)) := (Kept.refl _ _).alloc _
  generalize (w.alloc (.cells #[dev x.d, .int .i64 (cnt : Int), .pointer none, .int .u32 0, .int .u32 0, .int .u32 0, .int .u32 0, .int .u32 0, .int .u32 0, .int .u32 0, .int .u32 0, .int .u64 0, .int .u64 0, .bool false, .pointer none] 90)) = w1 at *
  generalize hSe : w.heap.size = S at *
  have HSE := Lib.hid hSe
  clear hSe
  have HX1 := Lib.hid (HX.out.kept k1 (fun _ _ h => h))
  refine (HSCAN.out w1 HX1.out).mono ?_
  rw [HF.out]
  rintro e w2 ⟨fv, rfl, k2, hpg, hfv⟩
  have HS2 := Lib.hid (k2.heap hS (fun h => h))
  have HX2 := Lib.hid (HX1.out.kept k2 (fun _ _ h => h))
  have K2 := Lib.hid (k1.trans k2)
  have hfv0 : ∃ g cap, fv = .slice (some ⟨g, 0, none⟩) l.length cap := by
    obtain ⟨g, cap, e, _⟩ := hpg.at hl0
    exact ⟨g, cap, e⟩
  obtain ⟨fg, fc, rfl⟩ := hfv0
  have HPG := Lib.hid hpg
  have hwtop : (0 : Int) ≤ top := by omega
  clear hS k1 k2 hpg hfv HX1 hwtop
  go_wp2_with fail
  have hF := heap_alloc_new w2 (.cells #[.int .u64 (top : Int), .bool true, .int .u64 (ser : Int), .slice (some ⟨fg, 0, none⟩) l.length fc] 100)
  have k3 : Kept No w2 (w2.alloc (.cells #[.int .u64 (top : Int), .bool true, .int .u64 (ser : Int), .slice (some ⟨fg, 0, none⟩) l.length fc] 100)) := (Kept.refl _ _).alloc _
  generalize w2.alloc (.cells #[.int .u64 (top : Int), .bool true, .int .u64 (ser : Int), .slice (some ⟨fg, 0, none⟩) l.length fc] 100) = w3 at *
  generalize w2.heap.size = FB at *
  have HF3 := Lib.hid hF
  have HX3 := Lib.hid (HX2.out.kept k3 (fun _ _ h => h))
  have HS3 := Lib.hid (k3.heap HS2.out (fun h => h))
  have HPG3 := Lib.hid (HPG.out.kept k3 (fun _ _ h => h))
  have K3 := Lib.hid (K2.out.trans k3)
  clear hF k3 HX2 HS2 HPG K2 HX HSCAN HF
  go_loopw [54] (fun i wr => ∃ j : Nat, j ≤ l.length ∧ i = .int .i64 (j : Int) ∧ Kept No w3 wr) (fun i _ => l.length - (intOf i).toNat)
  case atStart => exact ⟨0, by omega, rfl, Kept.refl _ _⟩
  case round =>
    obtain ⟨j, hj, rfl, hkw⟩ := hrel
    have HKW := Lib.hid hkw
    clear hkw
    by_cases hjl : j < l.length
    · obtain ⟨r0, r1, r2, r3⟩ := (HPG3.out.kept HKW.out (fun _ _ h => h)).row4 rfl j hjl
      have hnm := HNUM.out _ (List.getElem_mem hjl)
      have hnb := (HPG3.out.ok _ (List.getElem_mem hjl)).number
      generalize l[j] = pg at *
      have hwp : IntKind.i64.wrap (pg.number : Int) = (pg.number : Int) := by rw [IntKind.wrap_i64]; omega
      have hdn2 : decide ((L : Int) - (cnt : Int) ≤ (pg.number : Int)) = false := by have := HN.out; simp; omega
      go_wp2_with fail
      go_roundw
      case rel => exact ⟨j + 1, by omega, by first | rfl | go_num, HKW.out.alloc _⟩
      case measure => simp [intOf]; omega
    · have e : j = l.length := by omega
      subst e
      have HX4 := Lib.hid (HX3.out.kept HKW.out (fun _ _ h => h))
      have HS4 := Lib.hid (HKW.out.heap HS3.out (fun h => h))
      have HF4 := Lib.hid (HKW.out.heap HF3.out (fun h => h))
      have HPG4 := Lib.hid (HPG3.out.kept HKW.out (fun _ _ h => h))
      have K4 := Lib.hid (K3.out.trans HKW.out)
      have hf4 := HF4.out
      have f2 := (cell_of_row wr FB 2 _ _ _ hf4).trans rfl
      have f3 := (cell_of_row wr FB 3 _ _ _ hf4).trans rfl
      clear HX3 HS3 HF3 HPG3 K3 HKW hf4
      go_wp2_with fail
      have HSD : SdAt wr S x.d cnt := ⟨⟨_, HS4.out, rfl, rfl⟩, ⟨hc, by have := HN.out; omega⟩⟩
      refine (home_ok S cnt x dm ser _ l wr HSD HX4.out HPG4.out hl0 hbd hser (by omega)).mono ?_
      rintro e w5 ⟨x5, rfl, k5, hd5, hs5, hf5⟩
      have hdone := homeW_done cnt ser l dm HLAY.out
      have hlen5 := homeW_len cnt ser l dm
      rw [HLAY.out]
      rw [HLL.out] at hlen5
      generalize hwe : homeW cnt ser l dm = hw at *
      have HWE := Lib.hid hwe
      clear hwe
      have hrdy : hw.1.ready (cnt : Int) = 0 := by
        unfold DiskM.ready
        rw [hdone.1, if_neg (by simp), if_neg (by have := HN.out; omega)]
      have HRDY := Lib.hid hrdy
      have HS5 := Lib.hid (k5.heap HS4.out (HX4.out.not_foot HS4.out (by decide) (by decide) (by decide)))
      have HF5 := Lib.hid (k5.heap HF4.out (HX4.out.not_foot HF4.out (by decide) (by decide) (by decide)))
      have HX5 := Lib.hid hd5
      have K5 := Lib.hid ((K4.out.of_no x.foot).trans k5)
      have hw4 := K4.out.size
      have F5 := Lib.hid (show ∀ g, x5.foot g → x.foot g ∨ w.heap.size ≤ g from fun g hg => (hf5 g hg).imp id (fun e => by omega))
      have HSX := Lib.hid hs5
      have HLN5 := Lib.hid hlen5
      clear k5 hd5 hf5 HS4 HF4 HX4 HPG4 K4 f2 f3 HSD hs5 hdone hrdy hlen5
      go_wp2_with fail
      have hrd := dread_ok x5 hw.1 cnt w5 HX5.out HRDY.out (by rw [HLN5.out]; have := HN.out; omega)
      rw [HSX.out] at hrd
      refine hrd.mono ?_
      rintro e w5b ⟨b2, rfl, k5b, hb1, hb2⟩
      have HB5 := Lib.hid hb2
      have HS5b := Lib.hid (k5b.heap HS5.out (fun h => h))
      have hF5b := k5b.heap HF5.out (fun h => h)
      have HX5b := Lib.hid (HX5.out.kept k5b (fun _ _ h => h))
      have K5b := Lib.hid (K5.out.next k5b (fun _ _ h => h.elim))
      have g1 := (cell_of_row w5b FB 1 _ _ _ hF5b).trans rfl
      clear k5b hb1 hb2 HS5 HF5 hF5b HX5 K5 hrd
      go_wp2_with fail
      refine (decode_ok b2 _ 0 w5b HB5.out (by omega)).mono ?_
      rw [HDEC.out]
      rintro e w6 ⟨rfl, k6⟩
      have HS6 := Lib.hid (k6.heap HS5b.out (fun h => h))
      have HX6 := Lib.hid (HX5b.out.kept k6 (fun _ _ h => h))
      have K6 := Lib.hid (K5b.out.next k6 (fun _ _ h => h.elim))
      simp only [decRow, decErr]
      unfold pageRow
      clear k6 HS5b HX5b K5b HB5
      have hmx : ∀ ts ty w, (Builtin.max_ ts ty #[.int .u64 (hs : Int), .int .u64 (top : Int)]).run Tryz.prog w = .ok (.int .u64 (mx : Int)) w := fun ts ty w => by
        rw [run_max_int2]
        have := HMX.out
        congr 2
        split <;> omega
      have hwt : IntKind.u64.wrap ((mx : Int) + 1) = (mx : Int) + 1 := by rw [IntKind.wrap_u64]; omega
      have hdm : decide ((4611686018427387904 : Int) ≤ (mx : Int)) = false := by simp; omega
      go_wp2_with (first
        | (refine wpList_store_new (by rfl) 28 (.tmp 15) (.tmp 110) (by rfl) w6 28 _ _ (by rfl) (by rfl) (by rfl) (by exact page_size) (by rfl) (by simp [Value.oneCell']) ?_))
      have hP := heap_alloc_new w6 (.cells #[.int .u8 83, .int .u32 0, .int .u64 (hs : Int), .string ⟨⟨h.body⟩⟩] 28)
      have k7 : Kept No w6 (w6.alloc (.cells #[.int .u8 83, .int .u32 0, .int .u64 (hs : Int), .string ⟨⟨h.body⟩⟩] 28)) := (Kept.refl _ _).alloc _
      have hw6 := K6.out.size
      generalize w6.alloc (.cells #[.int .u8 83, .int .u32 0, .int .u64 (hs : Int), .string ⟨⟨h.body⟩⟩] 28) = w7 at *
      generalize hPB : w6.heap.size = PB at *
      have HPB := Lib.hid hPB
      clear hPB
      rw [show ((L : Int) - (cnt : Int)) = (h.n : Int) from by have := HL.out; have := HHN.out; omega]
      have hright := rightH_ok h HOK.out 0 hs w7
      refine hright.mono ?_
      rintro e w8 ⟨u, uv, rfl, k8, hheld, hu1, hu2⟩
      have HS8 := Lib.hid (k8.heap (k7.heap HS6.out (fun h => h)) (fun h => h))
      have HX8 := Lib.hid ((HX6.out.kept k7 (fun _ _ h => h)).kept k8 (fun _ _ h => h))
      have K8 := Lib.hid ((K6.out.next k7 (fun _ _ h => h.elim)).next k8 (fun _ _ h => h.elim))
      have hP8 := k8.heap (by first | exact hP | exact hP) (fun h => h)
      have HP8 := Lib.hid hP8
      have HH8 := Lib.hid hheld
      have hsz7 := k7.size
      have HU1 := Lib.hid (show w.heap.size ≤ u by have := HSE.out; have := HPB.out; omega)
      have HU2 := Lib.hid (show ∀ g, uv.ownBlock = some g → w.heap.size ≤ g from fun g hg => by have := hu2 g hg; have := HSE.out; have := HPB.out; omega)
      clear k7 k8 hP hP8 hheld hu1 hu2 HS6 HX6 K6 hright
      go_wp2_with (refine wpList_store_new (by rfl) 88 (.tmp 16) (.tmp 127) (by rfl) w8 88 _ _ (by rfl) (by rfl) (by rfl) (by exact held_size) (by rfl) (by simp [Value.oneCell']) ?_)
      have hB9 := heap_alloc_new w8 (.cells #[.pointer (some ⟨u, 0, none⟩), .int .u32 (h.root.a : Int), .int .u32 (h.root.b : Int), .int .u32 (h.root.c : Int), .int .u32 (h.root.d : Int), .int .u32 (h.root.e : Int), .int .u32 (h.root.f : Int), .int .u32 (h.root.g : Int), .int .u32 (h.root.h : Int)] 88)
      have k9 : Kept No w8 (w8.alloc (.cells #[.pointer (some ⟨u, 0, none⟩), .int .u32 (h.root.a : Int), .int .u32 (h.root.b : Int), .int .u32 (h.root.c : Int), .int .u32 (h.root.d : Int), .int .u32 (h.root.e : Int), .int .u32 (h.root.f : Int), .int .u32 (h.root.g : Int), .int .u32 (h.root.h : Int)] 88)) := (Kept.refl _ _).alloc _
      generalize w8.alloc (.cells #[.pointer (some ⟨u, 0, none⟩), .int .u32 (h.root.a : Int), .int .u32 (h.root.b : Int), .int .u32 (h.root.c : Int), .int .u32 (h.root.d : Int), .int .u32 (h.root.e : Int), .int .u32 (h.root.f : Int), .int .u32 (h.root.g : Int), .int .u32 (h.root.h : Int)] 88) = w9 at *
      generalize w8.heap.size = HB at *
      have hS9 := k9.heap HS8.out (fun h => h)
      have hP9 := k9.heap HP8.out (fun h => h)
      have HX9 := Lib.hid (HX8.out.kept k9 (fun _ _ h => h))
      have HH9 := Lib.hid (HH8.out.kept k9 (fun h => h) (fun _ _ h => h))
      have K9 := Lib.hid (K8.out.next k9 (fun _ _ h => h.elim))
      have HS9 := Lib.hid hS9
      have sc2 := (cell_of_row w9 S 2 _ _ _ hS9).trans rfl
      have sf2 := frozen_of_row w9 S 2 _ _ hS9
      have sc3 := (cell_of_row w9 S 3 _ _ _ hS9).trans rfl
      have sf3 := frozen_of_row w9 S 3 _ _ hS9
      have sc4 := (cell_of_row w9 S 4 _ _ _ hS9).trans rfl
      have sf4 := frozen_of_row w9 S 4 _ _ hS9
      have sc5 := (cell_of_row w9 S 5 _ _ _ hS9).trans rfl
      have sf5 := frozen_of_row w9 S 5 _ _ hS9
      have sc6 := (cell_of_row w9 S 6 _ _ _ hS9).trans rfl
      have sf6 := frozen_of_row w9 S 6 _ _ hS9
      have sc7 := (cell_of_row w9 S 7 _ _ _ hS9).trans rfl
      have sf7 := frozen_of_row w9 S 7 _ _ hS9
      have sc8 := (cell_of_row w9 S 8 _ _ _ hS9).trans rfl
      have sf8 := frozen_of_row w9 S 8 _ _ hS9
      have sc9 := (cell_of_row w9 S 9 _ _ _ hS9).trans rfl
      have sf9 := frozen_of_row w9 S 9 _ _ hS9
      have sc10 := (cell_of_row w9 S 10 _ _ _ hS9).trans rfl
      have sf10 := frozen_of_row w9 S 10 _ _ hS9
      have sc11 := (cell_of_row w9 S 11 _ _ _ hS9).trans rfl
      have sf11 := frozen_of_row w9 S 11 _ _ hS9
      have sc12 := (cell_of_row w9 S 12 _ _ _ hS9).trans rfl
      have sf12 := frozen_of_row w9 S 12 _ _ hS9
      have bc0 := (cell_of_row w9 HB 0 _ _ _ hB9).trans rfl
      have bc1 := (cell_of_row w9 HB 1 _ _ _ hB9).trans rfl
      have bc2 := (cell_of_row w9 HB 2 _ _ _ hB9).trans rfl
      have bc3 := (cell_of_row w9 HB 3 _ _ _ hB9).trans rfl
      have bc4 := (cell_of_row w9 HB 4 _ _ _ hB9).trans rfl
      have bc5 := (cell_of_row w9 HB 5 _ _ _ hB9).trans rfl
      have bc6 := (cell_of_row w9 HB 6 _ _ _ hB9).trans rfl
      have bc7 := (cell_of_row w9 HB 7 _ _ _ hB9).trans rfl
      have bc8 := (cell_of_row w9 HB 8 _ _ _ hB9).trans rfl
      have pc2 := (cell_of_row w9 PB 2 _ _ _ hP9).trans rfl
      have hne1 : PB ≠ S := cells_ne hP9 hS9 (by decide)
      have hne2 : S ≠ PB := cells_ne hS9 hP9 (by decide)
      have hne3 : HB ≠ S := cells_ne hB9 hS9 (by decide)
      have hne4 : S ≠ HB := cells_ne hS9 hB9 (by decide)
      clear hB9 hS9 hP9 k9 HX8 HH8 K8 HS8 HP8
      go_region
      have kk := kept11 w9 S (.pointer (some ⟨u, 0, none⟩)) (.int .u32 (h.root.a : Int)) (.int .u32 (h.root.b : Int)) (.int .u32 (h.root.c : Int)) (.int .u32 (h.root.d : Int)) (.int .u32 (h.root.e : Int)) (.int .u32 (h.root.f : Int)) (.int .u32 (h.root.g : Int)) (.int .u32 (h.root.h : Int)) (.int .u64 (hs : Int)) (.int .u64 ((mx : Int) + 1))
      have hrow := set11 w9 S 90 _ _ _ _ _ _ _ _ _ _ _ _ _ _ _ (.pointer (some ⟨u, 0, none⟩)) (.int .u32 (h.root.a : Int)) (.int .u32 (h.root.b : Int)) (.int .u32 (h.root.c : Int)) (.int .u32 (h.root.d : Int)) (.int .u32 (h.root.e : Int)) (.int .u32 (h.root.f : Int)) (.int .u32 (h.root.g : Int)) (.int .u32 (h.root.h : Int)) (.int .u64 (hs : Int)) (.int .u64 ((mx : Int) + 1)) HS9.out
      generalize (((((((((((w9.setCell ⟨S, 2, none⟩ (.pointer (some ⟨u, 0, none⟩))).setCell ⟨S, 3, none⟩ (.int .u32 (h.root.a : Int))).setCell ⟨S, 4, none⟩ (.int .u32 (h.root.b : Int))).setCell ⟨S, 5, none⟩ (.int .u32 (h.root.c : Int))).setCell ⟨S, 6, none⟩ (.int .u32 (h.root.d : Int))).setCell ⟨S, 7, none⟩ (.int .u32 (h.root.e : Int))).setCell ⟨S, 8, none⟩ (.int .u32 (h.root.f : Int))).setCell ⟨S, 9, none⟩ (.int .u32 (h.root.g : Int))).setCell ⟨S, 10, none⟩ (.int .u32 (h.root.h : Int))).setCell ⟨S, 11, none⟩ (.int .u64 (hs : Int))).setCell ⟨S, 12, none⟩ (.int .u64 ((mx : Int) + 1))) = Y at kk hrow ⊢
      rw [show (mx : Int) + 1 = ((mx + 1 : Nat) : Int) from by omega] at hrow
      have HROW := Lib.hid hrow
      have KK := Lib.hid kk
      clear hrow kk sc2 sf2 sc3 sf3 sc4 sf4 sc5 sf5 sc6 sf6 sc7 sf7 sc8 sf8 sc9 sf9 sc10 sf10 sc11 sf11 sc12 sf12 bc0 bc1 bc2 bc3 bc4 bc5 bc6 bc7 bc8 pc2
      go_wp2
      go_ret2
      have hSE := HSE.out
      have kd : Kept No Y Y.drew := (Kept.refl _ _).drew
      have hSf : ¬ x5.foot S := HX9.out.not_foot HS9.out (by decide) (by decide) (by decide)
      have hu9 := HH9.out.set
      have huS : u ≠ S := cells_ne hu9.head HS9.out (by decide)
      have hvS : ∀ g, uv.ownBlock = some g → g ≠ S := fun g hg => by
        obtain ⟨cs, hc⟩ := row_cells hu9.row hg
        exact cells_ne hc HS9.out (by decide)
      refine ⟨x5, S, u, uv, rfl, (K9.out.next KK.out (fun k hk e => absurd hk (by omega))).next kd (fun _ _ h => h.elim), (by have hq := (HX9.out.kept KK.out (fun g hg e => hSf (e ▸ hg))).kept kd (fun _ _ h => h); rw [← HWE.out] at hq; exact hq), HSX.out, F5.out, ⟨HROW.out, (HH9.out.kept KK.out huS hvS).kept kd (fun h => h) (fun _ _ h => h), ⟨hc, by show cnt ≤ 4096; have := HN.out; omega⟩, ⟨by show hs < mx + 1; have := HMX.out; omega, by show mx + 1 ≤ 4611686018427387904; omega⟩, rfl⟩, by omega, HU1.out, HU2.out⟩
abbrev WrL := List (Nat × List UInt8)
def runW : WrL → DiskM → DiskM × Int
  | [], m => m.sync
  | x :: l, m => let r := m.write (x.1 : Int) x.2; if r.2 ≠ 0 then r else runW l r.1
def thenW (y : DiskM × Int) (l : WrL) : DiskM × Int := if y.2 ≠ 0 then y else runW l y.1
theorem runW_cons (x : Nat × List UInt8) (l : WrL) (m : DiskM) : runW (x :: l) m = thenW (m.write (x.1 : Int) x.2) l := rfl
def slotsL (first serial : Nat) : Nat → List PageV → WrL
  | _, [] => []
  | i, p :: l => (first + 1 + i, enc ⟨67, first + 1 + i, serial, p.body⟩) :: slotsL first serial (i + 1) l
def putL (first serial : Nat) (l : List PageV) : WrL := slotsL first serial 0 l ++ [(first, enc ⟨74, first, serial, heads l⟩)]
def homeL (j serial : Nat) (l : List PageV) : WrL := l.map fun p => (j + p.number, enc { p with serial := serial })
theorem slotsL_len (first serial : Nat) : ∀ (l : List PageV) (i : Nat), (slotsL first serial i l).length = l.length
  | [], _ => rfl
  | p :: l, i => by simp [slotsL, slotsL_len first serial l]
theorem slotsL_get (first serial : Nat) : ∀ (l : List PageV) (i j : Nat) (h : j < l.length), (slotsL first serial i l)[j]? = some (first + 1 + (i + j), enc ⟨67, first + 1 + (i + j), serial, (l[j]).body⟩)
  | p :: l, i, 0, h => rfl
  | p :: l, i, j + 1, h => by
    have := slotsL_get first serial l (i + 1) j (by simpa using h)
    rw [show i + 1 + j = i + (j + 1) from by omega] at this
    simpa [slotsL] using this
theorem enc_len (p : PageV) (h : p.body.length ≤ 996) : (enc p).length = 1024 := encode_length _ p h
theorem lays_run (first serial : Nat) : ∀ (l : List PageV) (i : Nat) (y : DiskM × Int) (rest : WrL), (∀ p ∈ l, p.body.length ≤ 996) → thenW (laysM first serial i l y) rest = thenW y (slotsL first serial i l ++ rest)
  | [], i, y, rest, _ => rfl
  | p :: l, i, y, rest, h => by
    show thenW (laysM first serial (i + 1) l (layM serial y (first + 1 + i) 67 p.body)) rest = _
    rw [lays_run first serial l (i + 1) _ rest fun q hq => h q (by simp [hq])]
    unfold layM
    by_cases hy : y.2 ≠ 0
    · rw [if_pos hy]
      unfold thenW
      rw [if_pos hy, if_pos hy]
    · rw [if_neg hy, if_neg (by have := h p (by simp); omega)]
      show _ = thenW y ((first + 1 + i, enc ⟨67, first + 1 + i, serial, p.body⟩) :: (slotsL first serial (i + 1) l ++ rest))
      conv => rhs; unfold thenW
      rw [if_neg hy, runW_cons]
theorem headsL_len (l : List PageV) (h : l.length < 16384) : (heads l).length ≤ 2 + 5 * l.length := by
  have h1 : (leb l.length).length ≤ 2 := by
    unfold leb
    split
    · simp
    · unfold leb
      rw [if_pos (by omega)]
      simp
  have h2 : ∀ k : List PageV, (k.flatMap fun p => p.kind :: be p.number 4).length = 5 * k.length := by
    intro k
    induction k with
    | nil => rfl
    | cons p k ih => rw [List.flatMap_cons, List.length_append, ih]; simp [be_length]; omega
  unfold heads
  rw [List.length_append, h2]
  omega
theorem putM_run (m : DiskM) (first count serial : Nat) (l : List PageV) (hr : rightM (count : Int) serial l = 0) (hb : ∀ p ∈ l, p.body.length ≤ 996) (hl : l.length ≤ 198) : putM m first (count : Int) serial l = runW (putL first serial l) m := by
  have key : putM m first (count : Int) serial l = thenW (laysM first serial 0 l (m, 0)) [(first, enc ⟨74, first, serial, heads l⟩)] := by
    unfold putM
    rw [hr]
    simp only
    generalize laysM first serial 0 l (m, 0) = y
    unfold layM thenW
    by_cases hy : y.2 ≠ 0
    · rw [if_pos hy, if_pos hy, if_pos hy]
    · have hh : ¬ 996 < (heads l).length := by have := headsL_len l (by omega); omega
      rw [if_neg hy, if_neg hy, if_neg hh, runW_cons]
      rfl
  rw [key, lays_run first serial l 0 (m, 0) _ hb]
  unfold thenW
  rw [if_neg (by simp)]
  rfl
theorem homeW_run (j serial : Nat) : ∀ (l : List PageV) (m : DiskM), (∀ p ∈ l, p.body.length ≤ 996) → homeW j serial l m = runW (homeL j serial l) m
  | [], m, _ => rfl
  | p :: l, m, h => by
    unfold homeW
    rw [if_neg (by have := h p (by simp); omega)]
    show _ = runW ((j + p.number, enc { p with serial := serial }) :: homeL j serial l) m
    rw [runW_cons]
    unfold thenW
    simp only
    split
    · rfl
    · exact homeW_run j serial l _ fun q hq => h q (by simp [hq])
def FitW (n : Nat) (l : WrL) : Prop := ∀ x ∈ l, x.1 < n ∧ x.2.length = 1024
theorem putL_fit (first serial n : Nat) (l : List PageV) (hn : first + 1 + l.length ≤ n) (hb : ∀ p ∈ l, p.body.length ≤ 996) (hl : l.length ≤ 198) : FitW n (putL first serial l) := by
  intro x hx
  unfold putL at hx
  rcases List.mem_append.1 hx with hx | hx
  · obtain ⟨j, hj, rfl⟩ := List.getElem_of_mem hx
    rw [slotsL_len] at hj
    have := slotsL_get first serial l 0 j hj
    rw [List.getElem?_eq_getElem (by rw [slotsL_len]; exact hj)] at this
    injection this with this
    rw [this]
    exact ⟨by show first + 1 + (0 + j) < n; omega, enc_len _ (show (l[j]).body.length ≤ 996 from hb _ (List.getElem_mem hj))⟩
  · simp only [List.mem_singleton] at hx
    subst hx
    exact ⟨by show first < n; omega, enc_len _ (by have := headsL_len l (by omega); show (heads l).length ≤ 996; omega)⟩
theorem homeL_fit (j serial n : Nat) (l : List PageV) (hn : ∀ p ∈ l, j + p.number < n) (hb : ∀ p ∈ l, p.body.length ≤ 996) : FitW n (homeL j serial l) := by
  intro x hx
  obtain ⟨p, hp, rfl⟩ := List.mem_map.1 hx
  exact ⟨hn p hp, enc_len _ (hb p hp)⟩
theorem write_act (m : DiskM) (n : Nat) (b : List UInt8) (ho : m.off = false) (hn : n < m.lies.length) (hb : b.length = 1024) :
    m.write (n : Int) b = if m.act.2 ≠ 0 then m.act else ({ m.act.1 with pend := m.act.1.pend ++ [(n, b)] }, 0) := by
  have hr : m.ready (n : Int) = 0 := by
    unfold DiskM.ready
    rw [ho, if_neg (by simp), if_neg (by omega)]
  unfold DiskM.write
  rw [if_neg (by simp [hr]), if_neg (by simp [hb]), Int.toNat_natCast]
theorem sync_act (m : DiskM) (ho : m.off = false) (hn : 0 < m.lies.length) : m.sync = if m.act.2 ≠ 0 then m.act else ({ m.act.1 with lies := m.act.1.landed, pend := [] }, 0) := by
  have hr : m.ready 0 = 0 := by
    unfold DiskM.ready
    rw [ho, if_neg (by simp), if_neg (by omega)]
  unfold DiskM.sync
  rw [if_neg (by simp [hr])]
theorem act_cases (m : DiskM) (ho : m.off = false) : (m.act.2 = 0 ∧ m.act.1.off = false ∧ m.act.1.lies = m.lies ∧ m.act.1.pend = m.pend ∧ m.act.1.armed = m.armed) ∨ (m.armed = true ∧ m.act.2 = 40 ∧ m.act.1.off = true ∧ m.act.1.lies = m.lies ∧ m.act.1.pend = m.pend) := by
  unfold DiskM.act
  split
  · split
    · exact .inr ⟨by assumption, rfl, rfl, rfl, rfl⟩
    · exact .inl ⟨rfl, ho, rfl, rfl, rfl⟩
  · exact .inl ⟨rfl, ho, rfl, rfl, rfl⟩
theorem runW_cases : ∀ (l : WrL) (m : DiskM), m.off = false → 0 < m.lies.length → FitW m.lies.length l →
    ((runW l m).2 = 0 ∧ (runW l m).1.off = false ∧ (runW l m).1.pend = [] ∧ (runW l m).1.lies = (m.pend ++ l).foldl (fun k x => k.set x.1 x.2) m.lies ∧ (runW l m).1.armed = m.armed) ∨
    (m.armed = true ∧ (runW l m).2 = 40 ∧ (runW l m).1.off = true ∧ (runW l m).1.lies = m.lies ∧ ∃ k, k ≤ l.length ∧ (runW l m).1.pend = m.pend ++ l.take k)
  | [], m, ho, hn, hf => by
    show ((m.sync).2 = 0 ∧ _) ∨ _
    rw [show runW [] m = m.sync from rfl, sync_act m ho hn]
    rcases act_cases m ho with ⟨h1, h2, h3, h4, h5⟩ | ⟨h0, h1, h2, h3, h4⟩
    · rw [if_neg (by simp [h1])]
      refine .inl ⟨rfl, h2, rfl, ?_, h5⟩
      show m.act.1.landed = _
      unfold DiskM.landed
      rw [h3, h4, List.append_nil]
    · rw [if_pos (by simp [h1])]
      exact .inr ⟨h0, h1, h2, h3, 0, by simp, by simpa using h4⟩
  | x :: l, m, ho, hn, hf => by
    rw [runW_cons, write_act m x.1 x.2 ho (hf x (by simp)).1 (hf x (by simp)).2]
    rcases act_cases m ho with ⟨h1, h2, h3, h4, h5⟩ | ⟨h0, h1, h2, h3, h4⟩
    · rw [if_neg (by simp [h1])]
      unfold thenW
      rw [if_neg (by simp)]
      have ih := runW_cases l { m.act.1 with pend := m.act.1.pend ++ [(x.1, x.2)] } h2 (by show 0 < m.act.1.lies.length; rw [h3]; exact hn) (by
        show FitW m.act.1.lies.length l
        rw [h3]
        exact fun y hy => hf y (by simp [hy]))
      generalize runW l { m.act.1 with pend := m.act.1.pend ++ [(x.1, x.2)] } = r at ih
      simp only [h3, h4, h5] at ih
      rcases ih with ⟨i1, i2, i3, i4, i5⟩ | ⟨i0, i1, i2, i3, k, hk, i4⟩
      · refine .inl ⟨i1, i2, i3, ?_, i5⟩
        rw [i4, List.append_assoc]
        rfl
      · refine .inr ⟨i0, i1, i2, i3, k + 1, by simpa using hk, ?_⟩
        rw [i4, List.append_assoc]
        rfl
    · rw [if_pos (by simp [h1])]
      unfold thenW
      rw [if_pos (by simp [h1])]
      exact .inr ⟨h0, h1, h2, h3, 0, by simp, by simpa using h4⟩
theorem runW_calm (l : WrL) (m : DiskM) (ho : m.off = false) (ha : m.armed = false) (hn : 0 < m.lies.length) (hf : FitW m.lies.length l) :
    (runW l m).2 = 0 ∧ (runW l m).1.off = false ∧ (runW l m).1.pend = [] ∧ (runW l m).1.lies = (m.pend ++ l).foldl (fun k x => k.set x.1 x.2) m.lies ∧ (runW l m).1.armed = false := by
  rcases runW_cases l m ho hn hf with ⟨i1, i2, i3, i4, i5⟩ | ⟨i0, _⟩
  · exact ⟨i1, i2, i3, i4, i5.trans ha⟩
  · rw [ha] at i0; cases i0
theorem set_len (l : WrL) (k : List (List UInt8)) : (l.foldl (fun l x => l.set x.1 x.2) k).length = k.length := DiskM.landed_length l k
theorem last_get : ∀ (l : WrL) (n : Nat) (b : List UInt8), DiskM.last l n = some b → ∃ x ∈ l, x = (n, b)
  | [], n, b, h => by cases h
  | x :: l, n, b, h => by
    simp only [DiskM.last] at h
    cases hl : DiskM.last l n with
    | some c =>
      rw [hl] at h
      obtain ⟨y, hy, e⟩ := last_get l n c hl
      simp at h
      subst h
      exact ⟨y, by simp [hy], e⟩
    | none =>
      rw [hl, Option.none_or] at h
      split at h
      · rename_i e
        injection h with h
        exact ⟨x, by simp, by rw [← e, ← h]⟩
      · cases h
theorem last_none : ∀ (l : WrL) (n : Nat), (∀ x ∈ l, x.1 ≠ n) → DiskM.last l n = none
  | [], n, h => rfl
  | x :: l, n, h => by
    simp only [DiskM.last]
    rw [last_none l n fun y hy => h y (by simp [hy]), if_neg (h x (by simp))]
    rfl
theorem last_of : ∀ (l : WrL) (n : Nat) (b : List UInt8), (l.map (·.1)).Nodup → (n, b) ∈ l → DiskM.last l n = some b
  | x :: l, n, b, hd, h => by
    have hd := List.nodup_cons.1 (show (x.1 :: l.map (·.1)).Nodup from hd)
    simp only [DiskM.last]
    rcases List.mem_cons.1 h with rfl | h
    · rw [last_none l n fun y hy e => hd.1 (List.mem_map.2 ⟨y, hy, e⟩), if_pos rfl]
      rfl
    · rw [last_of l n b hd.2 h]
      rfl
theorem slotsL_keys (first serial : Nat) : ∀ (l : List PageV) (i : Nat), (slotsL first serial i l).map (·.1) = (List.range' (first + 1 + i) l.length)
  | [], _ => rfl
  | p :: l, i => by
    show (first + 1 + i) :: (slotsL first serial (i + 1) l).map (·.1) = _
    rw [slotsL_keys first serial l (i + 1)]
    rfl
theorem putL_nodup (first serial : Nat) (l : List PageV) : ((putL first serial l).map (·.1)).Nodup := by
  unfold putL
  rw [List.map_append, slotsL_keys, List.nodup_append]
  refine ⟨List.nodup_range', by simp, fun a ha b hb => ?_⟩
  simp only [List.map_cons, List.map_nil, List.mem_singleton] at hb
  rw [List.mem_range'_1] at ha
  omega
theorem homeL_nodup (j serial : Nat) (l : List PageV) (h : (l.map (·.number)).Pairwise (· < ·)) : ((homeL j serial l).map (·.1)).Nodup := by
  have e : (homeL j serial l).map (·.1) = (l.map (·.number)).map (fun n => j + n) := by simp [homeL]
  rw [e]
  unfold List.Nodup
  rw [List.pairwise_map]
  exact h.imp fun {a b} hab e => by simp at e; omega
theorem rd_take {s pre mid post : List UInt8} {pos k : Nat} (hs : s = pre ++ (mid ++ post)) (hp : pre.length = pos) (hk : mid.length = k) : (Rd.mk s pos 0).take k = (⟨s, pos + k, 0⟩, some mid) := by
  unfold Rd.take
  rw [if_neg (by simp), if_neg (by rw [hs]; simp; omega)]
  simp only
  rw [drop_of hs hp, List.take_left' hk]
theorem rd_fixed {s pre post : List UInt8} {x pos k : Nat} (hs : s = pre ++ (be x k ++ post)) (hp : pre.length = pos) (hx : x < 256 ^ k) : (Rd.mk s pos 0).fixed k = (⟨s, pos + k, 0⟩, x) := by
  unfold Rd.fixed
  rw [rd_take hs hp (be_length x k)]
  simp only [Option.getD_some]
  rw [num_be, Nat.mod_eq_of_lt hx]
theorem rd_byte {s pre post : List UInt8} {x : UInt8} {pos : Nat} (hs : s = pre ++ (x :: post)) (hp : pre.length = pos) : (Rd.mk s pos 0).fixed 1 = (⟨s, pos + 1, 0⟩, x.toNat) := by
  unfold Rd.fixed
  rw [rd_take (mid := [x]) (post := post) (k := 1) (by simpa using hs) hp rfl]
  simp [num]
theorem rd_leb {post : List UInt8} {v most : Nat} (hm : v ≤ most) (hv : v < 16384) : (Rd.mk (leb v ++ post) 0 0).uint most = (⟨leb v ++ post, (leb v).length, 0⟩, v) := by
  unfold Rd.uint
  rw [if_neg (by simp)]
  simp only [List.drop_zero]
  have key : unleb (leb v ++ post) most 10 0 0 = .ok (v, (leb v).length) := by
    by_cases h : v < 128
    · have e : leb v = [UInt8.ofNat v] := by unfold leb; rw [if_pos h]
      rw [e]
      have ev : (UInt8.ofNat v).toNat = v := by rw [UInt8.toNat_ofNat']; omega
      unfold unleb
      simp only [List.cons_append, List.nil_append, List.getElem?_cons_zero, ev]
      rw [if_neg (by omega)]
      simp only [Nat.mul_zero, Nat.pow_zero, Nat.mul_one, Nat.zero_add]
      rw [if_neg (by omega), Nat.mod_eq_of_lt h, if_neg (by omega)]
      rfl
    · have e : leb v = [UInt8.ofNat (v % 128 + 128), UInt8.ofNat (v / 128)] := by
        unfold leb
        rw [if_neg h]
        unfold leb
        rw [if_pos (by omega)]
      rw [e]
      have e1 : (UInt8.ofNat (v % 128 + 128)).toNat = v % 128 + 128 := by rw [UInt8.toNat_ofNat']; omega
      have e2 : (UInt8.ofNat (v / 128)).toNat = v / 128 := by rw [UInt8.toNat_ofNat']; omega
      unfold unleb
      simp only [List.cons_append, List.nil_append, List.getElem?_cons_zero, e1]
      rw [if_neg (by omega)]
      simp only [Nat.mul_zero, Nat.pow_zero, Nat.mul_one, Nat.zero_add]
      rw [if_pos (by omega)]
      unfold unleb
      simp only [List.getElem?_cons_succ, List.getElem?_cons_zero, e2]
      rw [if_neg (by omega)]
      have e3 : (v % 128 + 128) % 128 + v / 128 % 128 * 2 ^ (7 * 1) = v := by
        have : (2 : Nat) ^ (7 * 1) = 128 := by decide
        rw [this]; omega
      rw [e3, if_neg (by omega), if_neg (by omega)]
      rfl
  rw [key]
  unfold uintOut
  simp
theorem dec_enc (p : PageV) (h0 : 0 < p.serial) (h1 : p.serial ≤ 4611686018427387904) (hb : p.body.length ≤ 996) : dec (enc p) p.number = .ok p :=
  decode_encode _ p 4 51 50 h0 (by have : (2 : Nat) ^ 62 = 4611686018427387904 := by decide
                                   omega) hb
theorem ofNat_toNat8 (x : UInt8) : UInt8.ofNat x.toNat = x := by simp
theorem slots_laid (lies : List (List UInt8)) (first serial : Nat) (s : List UInt8) (h0 : 0 < serial) (h1 : serial ≤ 4611686018427387904) :
    ∀ (l : List PageV) (i : Nat) (pre : List UInt8) (acc : List PageV), acc.length = i → s = pre ++ (l.flatMap fun p => p.kind :: be p.number 4) →
      (∀ j (h : j < l.length), lies[i + j + 1]? = some (enc ⟨67, first + 1 + (i + j), serial, (l[j]).body⟩)) →
      (∀ p ∈ l, p.body.length ≤ 996 ∧ p.number < 4294967296) → ((acc ++ l).map (·.number)).Pairwise (· < ·) →
      slots lies first serial l.length i ⟨s, pre.length, 0⟩ acc = some (⟨s, s.length, 0⟩, acc ++ l.map fun p => { p with serial := serial })
  | [], i, pre, acc, _, hs, _, _, _ => by
    have : pre.length = s.length := by rw [hs]; simp
    simp [slots, this]
  | p :: l, i, pre, acc, hi, hs, hl, hb, hp => by
    have hs1 : s = pre ++ (p.kind :: (be p.number 4 ++ (l.flatMap fun p => p.kind :: be p.number 4))) := by
      rw [hs, List.flatMap_cons]; simp
    have hs2 : s = (pre ++ [p.kind]) ++ (be p.number 4 ++ (l.flatMap fun p => p.kind :: be p.number 4)) := by rw [hs1]; simp
    have hs3 : s = (pre ++ [p.kind] ++ be p.number 4) ++ (l.flatMap fun p => p.kind :: be p.number 4) := by rw [hs1]; simp
    show slots lies first serial (l.length + 1) i ⟨s, pre.length, 0⟩ acc = _
    unfold slots
    simp only
    rw [rd_byte hs1 rfl]
    simp only
    rw [rd_fixed hs2 (by simp) (by have := (hb p (by simp)).2; have : (256 : Nat) ^ 4 = 4294967296 := by decide
                                   omega)]
    have h00 := hl 0 (by simp)
    simp only [Nat.add_zero, List.getElem_cons_zero] at h00
    rw [h00, Option.getD_some, show dec (enc ⟨67, first + 1 + i, serial, p.body⟩) (first + 1 + i) = .ok ⟨67, first + 1 + i, serial, p.body⟩ from dec_enc ⟨67, first + 1 + i, serial, p.body⟩ h0 h1 (hb p (by simp)).1]
    simp only
    have hlt : ¬ (0 < i ∧ p.number ≤ (acc[i - 1]?.map (·.number)).getD 0) := by
      rintro ⟨hpos, hle⟩
      have hi1 : i - 1 < acc.length := by omega
      rw [List.getElem?_eq_getElem hi1] at hle
      simp only [Option.map_some, Option.getD_some] at hle
      rw [List.map_append, List.pairwise_append] at hp
      have := hp.2.2 _ (List.mem_map_of_mem (List.getElem_mem hi1)) p.number (by simp)
      omega
    rw [if_neg (by simp only [ne_eq, not_true_eq_false, false_or]; exact hlt)]
    have ih := slots_laid lies first serial s h0 h1 l (i + 1) (pre ++ [p.kind] ++ be p.number 4) (acc ++ [⟨UInt8.ofNat p.kind.toNat, p.number, serial, p.body⟩]) (by simp [hi]) hs3
      (fun j hj => by
        have := hl (j + 1) (by simpa using hj)
        rw [show i + 1 + j + 1 = i + (j + 1) + 1 from by omega, show i + 1 + j = i + (j + 1) from by omega]
        simpa using this)
      (fun q hq => hb q (by simp [hq])) (by
        rw [List.map_append] at hp ⊢
        simpa using hp)
    rw [show pre.length + 1 + 4 = (pre ++ [p.kind] ++ be p.number 4).length from by simp [be_length]]
    rw [ih, ofNat_toNat8]
    simp
structure Laid (lies : List (List UInt8)) (first serial : Nat) (l : List PageV) : Prop where
  head : lies[0]? = some (enc ⟨74, first, serial, heads l⟩)
  slot : ∀ j (h : j < l.length), lies[j + 1]? = some (enc ⟨67, first + 1 + j, serial, (l[j]).body⟩)
structure GoodB (serial : Nat) (l : List PageV) : Prop where
  s0 : 0 < serial
  s1 : serial ≤ 4611686018427387904
  body : ∀ p ∈ l, p.body.length ≤ 996 ∧ p.number < 4294967296
  rise : (l.map (·.number)).Pairwise (· < ·)
  len : l.length ≤ 198
theorem batch_laid (lies : List (List UInt8)) (first serial : Nat) (l : List PageV) (h : Laid lies first serial l) (g : GoodB serial l) (hr : l.length ≤ room lies.length) :
    batchM lies first = some (serial, l.map fun p => { p with serial := serial }) := by
  have hh := headsL_len l (by have := g.len; omega)
  have hlen := g.len
  unfold batchM
  rw [h.head, Option.getD_some, show dec (enc ⟨74, first, serial, heads l⟩) first = .ok ⟨74, first, serial, heads l⟩ from dec_enc ⟨74, first, serial, heads l⟩ g.s0 g.s1 (by show (heads l).length ≤ 996; omega)]
  simp only
  rw [if_neg (by have := g.s0; simp; omega)]
  have e1 : (Rd.mk (heads l) 0 0).uint (room lies.length) = (⟨heads l, (leb l.length).length, 0⟩, l.length) := rd_leb hr (by omega)
  rw [e1]
  simp only
  rw [slots_laid lies first serial (heads l) g.s0 g.s1 l 0 (leb l.length) [] rfl rfl (fun j hj => by rw [Nat.zero_add]; exact h.slot j hj) g.body (by simpa using g.rise)]
  simp [Rd.fin]
theorem view_landed (m : DiskM) (l : WrL) (k : Nat) (hk : k < m.lies.length) (m' : DiskM) (h1 : m'.pend = []) (h2 : m'.lies = (m.pend ++ l).foldl (fun k x => k.set x.1 x.2) m.lies) : m'.view k = (DiskM.last l k).getD (m.view k) := by
  unfold DiskM.view
  rw [h1, h2, DiskM.landed_get (m.pend ++ l) m.lies k hk, DiskM.last_append]
  cases DiskM.last l k <;> simp [DiskM.last]
theorem put_laid (m m' : DiskM) (first count serial : Nat) (l : List PageV) (hc : l.length < count) (hn : first + count ≤ m.lies.length) (h1 : m'.pend = []) (h2 : m'.lies = (m.pend ++ putL first serial l).foldl (fun k x => k.set x.1 x.2) m.lies) :
    Laid (views m' first count) first serial l := by
  have hd := putL_nodup first serial l
  constructor
  · rw [List.getElem?_eq_getElem (by rw [views_len]; omega), views_get _ _ _ _ (by omega), view_landed m _ _ (by omega) m' h1 h2, last_of _ (first + 0) (enc ⟨74, first, serial, heads l⟩) hd (by unfold putL; simp)]
    rfl
  · intro j hj
    rw [List.getElem?_eq_getElem (by rw [views_len]; omega), views_get _ _ _ _ (by omega), view_landed m _ _ (by omega) m' h1 h2, last_of _ (first + (j + 1)) (enc ⟨67, first + 1 + j, serial, (l[j]).body⟩) hd ?_]
    · rfl
    · have := slotsL_get first serial l 0 j hj
      rw [Nat.zero_add] at this
      unfold putL
      rw [show first + (j + 1) = first + 1 + j from by omega]
      exact List.mem_append_left _ (List.mem_of_getElem? this)
end Go.Proofs.YtabhieafjkaocaaGreat
