/- The walk of ExchangeMade. -/
import Derived.Test.YtpkadglempbjiaaGreatEmF
namespace Go.Proofs.YtpkadglempbjiaaGreat
open Go.RowKit Go.Lib
set_option linter.unusedVariables false
set_option maxRecDepth 100000

set_option maxHeartbeats 8000000 in
theorem emade_walk (i0 i1 i2 f t life tw wait tries width d k : Int) (short mend : Bool) (w : World) : Calls Tryz.prog 3 #[idRow i0 i1 i2, .int .u8 f, .int .u8 t, .int .u16 life, termRow tw wait tries short mend, .int .i64 width, .int .i64 d, .int .i64 k] w fun e w' => e = .returned (.bool true) ∧ Below w.heap.size w w' := by
  have ei : .agg #[.int .u8 i0, .int .u16 i1, .int .u32 i2] = idRow i0 i1 i2 := rfl
  have et : .agg #[.int .i64 tw, .int .i64 wait, .int .i64 tries, .bool short, .bool mend] = termRow tw wait tries short mend := rfl
  rw [← ei, ← et]
  clear ei et
  go_enter Tryz.func3, Tryz.ntmps3
  go_wp2_with fail
  case inl.inl =>
    obtain ⟨N, rfl⟩ : ∃ N : Nat, width = (N : Int) := ⟨width.toNat, by omega⟩
    have n1 : 1 ≤ N := by omega
    have n2 : N ≤ 32 := by omega
    refine (rbuild_none N (by omega) (by omega) _).mono ?_
    rintro e w1 ⟨p, rfl, k1, hp⟩
    have H8 := Lib.hid (k1.heap (em_boxes w _ _).2.1 (fun h => h))
    have H12 := Lib.hid (k1.heap (em_boxes w _ _).2.2 (fun h => h))
    have K1 : Hid (Kept No w w1) := Lib.hid ((em_boxes w _ _).1.trans k1)
    have HP := Lib.hid hp
    clear k1 hp
    go_wp2_with fail
    refine (build_none N (by omega) (by omega) _).mono ?_
    rintro e w2 ⟨q, rfl, -, k2, hq⟩
    have H8 := Lib.hid (k2.heap H8.out (fun h => h))
    have H12 := Lib.hid (k2.heap H12.out (fun h => h))
    have HP := Lib.hid (k2.heap HP.out (fun h => h))
    have K2 : Hid (Kept No w w2) := Lib.hid (K1.out.trans k2)
    have HQ := Lib.hid hq
    clear k2 hq K1
    go_wp2_with (first | (refine wpList_load_row (by rfl) 25 (.tmp 8) (by rfl) w.heap.size (by rfl) 25 #[.int .u8 i0, .int .u16 i1, .int .u32 i2] (0, 0) _ (by first | exact H8b.out | exact H8c.out | exact H8.out | exact ((Kept.refl No _).alloc _).heap H8.out (fun h => h) | exact (((Kept.refl No _).alloc _).alloc _).heap H8.out (fun h => h)) Tryz.underlying25 rfl (by kernel_rfl) ?_) | (refine wpList_load_row (by rfl) 27 (.tmp 12) (by rfl) (w.heap.size + 1) (by rfl) 27 #[.int .i64 tw, .int .i64 wait, .int .i64 tries, .bool short, .bool mend] (0, 0) _ (by first | exact H12b.out | exact H12c.out | exact H12.out | exact ((Kept.refl No _).alloc _).heap H12.out (fun h => h) | exact (((Kept.refl No _).alloc _).alloc _).heap H12.out (fun h => h)) Tryz.underlying27 rfl (by kernel_rfl) ?_))
    refine (rstart_some i0 i1 i2 f t tw wait tries short mend _ N n1 n2 p _ (((Kept.refl No w2).alloc _).heap HP.out (fun h => h))).mono ?_
    rintro e w3 ⟨r1, rfl, g1, k3⟩
    have k3 := ((Kept.refl No w2).alloc _).trans k3
    have H8 := Lib.hid (k3.heap H8.out (fun h => h))
    have H12 := Lib.hid (k3.heap H12.out (fun h => h))
    have HP := Lib.hid (k3.heap HP.out (fun h => h))
    have HQ := Lib.hid (k3.heap HQ.out (fun h => h))
    have K3 : Hid (Kept No w w3) := Lib.hid (K2.out.trans k3)
    clear k3 K2
    obtain ⟨a0, a1, a2, a3, a4, a5, b5, hR⟩ := stRow_facts i0 i1 i2 f t tw wait tries N false
    have HR := Lib.hid hR
    clear hR
    rw [HR.out]
    generalize hc1 : stCode i0 i1 i2 f t tw wait tries (((N : Nat) : Int) : Int) false = c1 at g1 ⊢
    have HC1 := Lib.hid hc1
    have HF := Lib.hid (frame_neq a0 a1 a2 a3 a4 a5 b5)
    clear hc1 g1
    go_wp2_with (first | (refine wpList_store_new (by rfl) 38 (.tmp 23) (.tmp 56) (by rfl) w3 38 #[.int .u8 0, .int .u8 0, .int .u8 0, .int .u16 0, .int .u32 0, .int .u64 0, .int .u32 0, .bool false, .string ByteArray.empty] (frameRow a0 a1 a2 a3 a4 a5 b5) (by rfl) (by rfl) (by rfl) (by kernel_rfl) (by rfl) (by kernel_rfl) ?_) | (refine wpList_load_row (by rfl) 25 (.tmp 8) (by rfl) w.heap.size (by rfl) 25 #[.int .u8 i0, .int .u16 i1, .int .u32 i2] (0, 0) _ (by first | exact H8b.out | exact H8c.out | exact H8.out | exact ((Kept.refl No _).alloc _).heap H8.out (fun h => h) | exact (((Kept.refl No _).alloc _).alloc _).heap H8.out (fun h => h)) Tryz.underlying25 rfl (by kernel_rfl) ?_) | (refine wpList_load_row (by rfl) 27 (.tmp 12) (by rfl) (w.heap.size + 1) (by rfl) 27 #[.int .i64 tw, .int .i64 wait, .int .i64 tries, .bool short, .bool mend] (0, 0) _ (by first | exact H12b.out | exact H12c.out | exact H12.out | exact ((Kept.refl No _).alloc _).heap H12.out (fun h => h) | exact (((Kept.refl No _).alloc _).alloc _).heap H12.out (fun h => h)) Tryz.underlying27 rfl (by kernel_rfl) ?_))
    refine (start_some i0 i1 i2 f t tw wait tries short mend _ N n1 n2 q _ ((((Kept.refl No w3).alloc _).alloc _).heap HQ.out (fun h => h))).mono ?_
    rintro e w4 ⟨r2, rfl, g2, k4⟩
    have H23 := Lib.hid (k4.heap (((Kept.refl No _).alloc _).heap (heap_alloc_new w3 _) (fun h => h)) (fun h => h))
    have k4 := (((Kept.refl No w3).alloc _).alloc _).trans k4
    have H8 := Lib.hid (k4.heap H8.out (fun h => h))
    have H12 := Lib.hid (k4.heap H12.out (fun h => h))
    have HP := Lib.hid (k4.heap HP.out (fun h => h))
    have HQ := Lib.hid (k4.heap HQ.out (fun h => h))
    have K4 : Hid (Kept No w w4) := Lib.hid (K3.out.trans k4)
    clear k4 K3
    rw [HC1.out] at g2
    rw [HR.out, HC1.out]
    have hF := frame_neq a0 a1 a2 a3 a4 a5 b5
    have hN := xptr_nil _ c1 g2
    clear g2
    have H26 := Lib.hid (heap_alloc_new w4 (.cells (frameRow a0 a1 a2 a3 a4 a5 b5) 38))
    go_wp2_with (first | (refine wpList_store_new (by rfl) 38 (.tmp 26) (.tmp 69) (by rfl) w4 38 #[.int .u8 0, .int .u8 0, .int .u8 0, .int .u16 0, .int .u32 0, .int .u64 0, .int .u32 0, .bool false, .string ByteArray.empty] (frameRow a0 a1 a2 a3 a4 a5 b5) (by rfl) (by rfl) (by rfl) (by kernel_rfl) (by rfl) (by kernel_rfl) ?_) | (refine wpList_load_want (by rfl) 38 (.tmp 26) (by rfl) (w4.heap.size) (by rfl) 38 (frameRow a0 a1 a2 a3 a4 a5 b5) (0, 0) _ (by first | exact H26b.out | exact H26c.out | exact H26.out | exact ((Kept.refl No _).alloc _).heap H26.out (fun h => h) | exact (((Kept.refl No _).alloc _).alloc _).heap H26.out (fun h => h)) Tryz.underlying38 rfl (by kernel_rfl) ?_) | (refine wpList_load_want (by rfl) 38 (.tmp 23) (by rfl) (w3.heap.size) (by rfl) 38 (frameRow a0 a1 a2 a3 a4 a5 b5) (0, 0) _ (by first | exact H23b.out | exact H23c.out | exact H23.out | exact ((Kept.refl No _).alloc _).heap H23.out (fun h => h) | exact (((Kept.refl No _).alloc _).alloc _).heap H23.out (fun h => h)) Tryz.underlying38 rfl (by kernel_rfl) ?_) | (refine wpList_load_row (by rfl) 25 (.tmp 8) (by rfl) w.heap.size (by rfl) 25 #[.int .u8 i0, .int .u16 i1, .int .u32 i2] (0, 0) _ (by first | exact H8b.out | exact H8c.out | exact H8.out | exact ((Kept.refl No _).alloc _).heap H8.out (fun h => h) | exact (((Kept.refl No _).alloc _).alloc _).heap H8.out (fun h => h)) Tryz.underlying25 rfl (by kernel_rfl) ?_) | (refine wpList_load_row (by rfl) 27 (.tmp 12) (by rfl) (w.heap.size + 1) (by rfl) 27 #[.int .i64 tw, .int .i64 wait, .int .i64 tries, .bool short, .bool mend] (0, 0) _ (by first | exact H12b.out | exact H12c.out | exact H12.out | exact ((Kept.refl No _).alloc _).heap H12.out (fun h => h) | exact (((Kept.refl No _).alloc _).alloc _).heap H12.out (fun h => h)) Tryz.underlying27 rfl (by kernel_rfl) ?_))
    refine (rstart_none i0 i1 i2 f t tw wait tries short mend N n1 n2 p _ (((Kept.refl No w4).alloc _).heap HP.out (fun h => h))).mono ?_
    rintro e w5 ⟨r3, rfl, g3, k5⟩
    have HB : Hid (w.heap.size + 1 < w4.heap.size) := Lib.hid (lt_of_heap H12.out)
    have H26 := Lib.hid (k5.heap H26.out (fun h => h))
    have k5 := ((Kept.refl No w4).alloc _).trans k5
    have H8 := Lib.hid (k5.heap H8.out (fun h => h))
    have H12 := Lib.hid (k5.heap H12.out (fun h => h))
    have HQ := Lib.hid (k5.heap HQ.out (fun h => h))
    have K5 : Hid (Kept No w w5) := Lib.hid (K4.out.trans k5)
    clear k5 K4 g3 hF hN HF HR HC1 HP H23
    generalize hc2 : stCode i0 i1 i2 f t tw wait tries ((N : Nat) : Int) mend = c2
    have HC2 := Lib.hid hc2
    obtain ⟨d0, d1, d2, d3, d4, d5, e5, hR⟩ := stRow_facts i0 i1 i2 f t tw wait tries N mend
    have HR := Lib.hid hR
    clear hR hc2
    rw [HR.out]
    go_wp2_with (first | (refine wpList_load_row (by rfl) 25 (.tmp 8) (by rfl) w.heap.size (by rfl) 25 #[.int .u8 i0, .int .u16 i1, .int .u32 i2] (0, 0) _ (by first | exact H8b.out | exact H8c.out | exact H8.out | exact ((Kept.refl No _).alloc _).heap H8.out (fun h => h) | exact (((Kept.refl No _).alloc _).alloc _).heap H8.out (fun h => h)) Tryz.underlying25 rfl (by kernel_rfl) ?_) | (refine wpList_load_row (by rfl) 27 (.tmp 12) (by rfl) (w.heap.size + 1) (by rfl) 27 #[.int .i64 tw, .int .i64 wait, .int .i64 tries, .bool short, .bool mend] (0, 0) _ (by first | exact H12b.out | exact H12c.out | exact H12.out | exact ((Kept.refl No _).alloc _).heap H12.out (fun h => h) | exact (((Kept.refl No _).alloc _).alloc _).heap H12.out (fun h => h)) Tryz.underlying27 rfl (by kernel_rfl) ?_))
    refine (start_none i0 i1 i2 f t tw wait tries short mend N n1 n2 q _ HQ.out).mono ?_
    rintro e w6 ⟨r4, rfl, g4, k6⟩
    have H8 := Lib.hid (k6.heap H8.out (fun h => h))
    have H12 := Lib.hid (k6.heap H12.out (fun h => h))
    have H26 := Lib.hid (k6.heap H26.out (fun h => h))
    have K6 : Hid (Kept No w w6) := Lib.hid (K5.out.trans k6)
    clear k6 K5 HQ
    rw [HC2.out] at g4
    rw [HR.out, HC2.out]
    have hN := xptr_nil _ c2 g4
    have hx8 : w.heap.size ≠ w4.heap.size := by have := HB.out; omega
    have hx12 : w.heap.size + 1 ≠ w4.heap.size := by have := HB.out; omega
    have H8b := Lib.hid (((Kept.refl (fun k => k = w4.heap.size) w6).setRow w4.heap.size (frameRow d0 d1 d2 d3 d4 d5 e5) (fun _ => rfl)).heap H8.out hx8)
    have H12b := Lib.hid (((Kept.refl (fun k => k = w4.heap.size) w6).setRow w4.heap.size (frameRow d0 d1 d2 d3 d4 d5 e5) (fun _ => rfl)).heap H12.out hx12)
    have H26b := Lib.hid (setRow_heap w6 w4.heap.size _ (frameRow d0 d1 d2 d3 d4 d5 e5) _ _ H26.out)
    have K7 : Hid (Kept No w (w6.setRow w4.heap.size (frameRow d0 d1 d2 d3 d4 d5 e5))) := Lib.hid (K6.out.setRow _ _ (fun x => by have := HB.out; omega))
    clear g4 K6
    go_wp2_with (first | (refine wpList_load_row (by rfl) 25 (.tmp 8) (by rfl) w.heap.size (by rfl) 25 #[.int .u8 i0, .int .u16 i1, .int .u32 i2] (0, 0) _ (by first | exact H8b.out | exact H8c.out | exact H8.out | exact ((Kept.refl No _).alloc _).heap H8.out (fun h => h) | exact (((Kept.refl No _).alloc _).alloc _).heap H8.out (fun h => h)) Tryz.underlying25 rfl (by kernel_rfl) ?_) | (refine wpList_load_row (by rfl) 27 (.tmp 12) (by rfl) (w.heap.size + 1) (by rfl) 27 #[.int .i64 tw, .int .i64 wait, .int .i64 tries, .bool short, .bool mend] (0, 0) _ (by first | exact H12b.out | exact H12c.out | exact H12.out | exact ((Kept.refl No _).alloc _).heap H12.out (fun h => h) | exact (((Kept.refl No _).alloc _).alloc _).heap H12.out (fun h => h)) Tryz.underlying27 rfl (by kernel_rfl) ?_) | (refine wpList_store_row (by rfl) 38 (.tmp 26) (.tmp 104) (by rfl) (w4.heap.size) 38 (frameRow a0 a1 a2 a3 a4 a5 b5) (frameRow d0 d1 d2 d3 d4 d5 e5) (by rfl) (by rfl) (by first | exact H26b.out | exact H26c.out | exact H26.out | exact ((Kept.refl No _).alloc _).heap H26.out (fun h => h) | exact (((Kept.refl No _).alloc _).alloc _).heap H26.out (fun h => h)) (by kernel_rfl) (by rfl) (by kernel_rfl) ?_))
    clear hN
    refine (start_nil i0 i1 i2 f t tw wait tries short mend _).mono ?_
    rintro e w8 ⟨rfl, k8⟩
    have H12 := Lib.hid (k8.heap H12b.out (fun h => h))
    have H26 := Lib.hid (k8.heap H26b.out (fun h => h))
    have K8 : Hid (Kept No w w8) := Lib.hid (K7.out.trans k8)
    clear k8 K7 H12b H26b H8b H8 hx8
    have H12b := Lib.hid (((Kept.refl (fun k => k = w4.heap.size) w8).setRow w4.heap.size (#[.int .u8 0, .int .u8 0, .int .u8 0, .int .u16 0, .int .u32 0, .int .u64 0, .int .u32 0, .bool false, .string ByteArray.empty]) (fun _ => rfl)).heap H12.out hx12)
    have H26b := Lib.hid (setRow_heap w8 w4.heap.size _ (#[.int .u8 0, .int .u8 0, .int .u8 0, .int .u16 0, .int .u32 0, .int .u64 0, .int .u32 0, .bool false, .string ByteArray.empty]) _ _ H26.out)
    have K9 : Hid (Kept No w (w8.setRow w4.heap.size (#[.int .u8 0, .int .u8 0, .int .u8 0, .int .u16 0, .int .u32 0, .int .u64 0, .int .u32 0, .bool false, .string ByteArray.empty]))) := Lib.hid (K8.out.setRow _ _ (fun x => by have := HB.out; omega))
    clear K8
    have hZ := frame_neq 0 0 0 0 0 0 ByteArray.empty
    unfold frameRow at hZ
    go_wp2_with (first | (refine wpList_store_row (by rfl) 38 (.tmp 26) (.tmp 123) (by rfl) (w4.heap.size) 38 (frameRow d0 d1 d2 d3 d4 d5 e5) (#[.int .u8 0, .int .u8 0, .int .u8 0, .int .u16 0, .int .u32 0, .int .u64 0, .int .u32 0, .bool false, .string ByteArray.empty]) (by rfl) (by rfl) (by first | exact H26b.out | exact H26c.out | exact H26.out | exact ((Kept.refl No _).alloc _).heap H26.out (fun h => h) | exact (((Kept.refl No _).alloc _).alloc _).heap H26.out (fun h => h)) (by kernel_rfl) (by rfl) (by kernel_rfl) ?_) | (refine wpList_load_want (by rfl) 38 (.tmp 26) (by rfl) (w4.heap.size) (by rfl) 38 (#[.int .u8 0, .int .u8 0, .int .u8 0, .int .u16 0, .int .u32 0, .int .u64 0, .int .u32 0, .bool false, .string ByteArray.empty]) (0, 0) _ (by first | exact H26b.out | exact H26c.out | exact H26.out | exact ((Kept.refl No _).alloc _).heap H26.out (fun h => h) | exact (((Kept.refl No _).alloc _).alloc _).heap H26.out (fun h => h)) Tryz.underlying38 rfl (by kernel_rfl) ?_))
    refine (rnewdesk_any f life (N : Int) _ _).mono ?_
    rintro e wa ⟨r5, rfl, g5, ka⟩
    have ka := ((Kept.refl No _).alloc _).trans ka
    have H12 := Lib.hid (ka.heap H12b.out (fun h => h))
    have Ka : Hid (Kept No w wa) := Lib.hid (K9.out.trans ka)
    clear ka K9 H12b H26b hZ g5 H26
    go_wp2_with (first | (refine wpList_load_row (by rfl) 27 (.tmp 12) (by rfl) (w.heap.size + 1) (by rfl) 27 #[.int .i64 tw, .int .i64 wait, .int .i64 tries, .bool short, .bool mend] (0, 0) _ (by first | exact H12b.out | exact H12c.out | exact H12.out | exact ((Kept.refl No _).alloc _).heap H12.out (fun h => h) | exact (((Kept.refl No _).alloc _).alloc _).heap H12.out (fun h => h)) Tryz.underlying27 rfl (by kernel_rfl) ?_))
    refine (newdesk_any f life (N : Int) _ _).mono ?_
    rintro e wb ⟨r6, rfl, g6, kb⟩
    have kb := ((Kept.refl No _).alloc _).trans kb
    have H12 := Lib.hid (kb.heap H12.out (fun h => h))
    have Kb : Hid (Kept No w wb) := Lib.hid (Ka.out.trans kb)
    have hN := dptr_nil _ _ g6
    clear kb Ka g6
    generalize dkCode f life (N : Int) = c3 at hN ⊢
    go_wp2_with (first | (refine wpList_load_row (by rfl) 27 (.tmp 12) (by rfl) (w.heap.size + 1) (by rfl) 27 #[.int .i64 tw, .int .i64 wait, .int .i64 tries, .bool short, .bool mend] (0, 0) _ (by first | exact H12b.out | exact H12c.out | exact H12.out | exact ((Kept.refl No _).alloc _).heap H12.out (fun h => h) | exact (((Kept.refl No _).alloc _).alloc _).heap H12.out (fun h => h)) Tryz.underlying27 rfl (by kernel_rfl) ?_))
    refine (rbound_any tw wait tries d k short mend _).mono ?_
    rintro e wc ⟨rfl, kc⟩
    have H12 := Lib.hid (kc.heap H12.out (fun h => h))
    have Kc : Hid (Kept No w wc) := Lib.hid (Kb.out.trans kc)
    clear kc Kb hN
    go_wp2_with (first | (refine wpList_load_row (by rfl) 27 (.tmp 12) (by rfl) (w.heap.size + 1) (by rfl) 27 #[.int .i64 tw, .int .i64 wait, .int .i64 tries, .bool short, .bool mend] (0, 0) _ (by first | exact H12b.out | exact H12c.out | exact H12.out | exact ((Kept.refl No _).alloc _).heap H12.out (fun h => h) | exact (((Kept.refl No _).alloc _).alloc _).heap H12.out (fun h => h)) Tryz.underlying27 rfl (by kernel_rfl) ?_))
    refine (bound_any tw wait tries d k short mend _).mono ?_
    rintro e wd ⟨rfl, kd⟩
    have Kd : Hid (Kept No w wd) := Lib.hid (Kc.out.trans kd)
    clear kd Kc
    go_wp2_with fail
    go_ret
    exact ⟨rfl, Kd.out.below (Nat.le_refl _) (fun _ _ h => h)⟩
  case inl.inr =>
    refine (rbuild_none 32 (by omega) (by omega) _).mono ?_
    rintro e w1 ⟨p, rfl, k1, hp⟩
    have H8 := Lib.hid (k1.heap (em_boxes w _ _).2.1 (fun h => h))
    have H12 := Lib.hid (k1.heap (em_boxes w _ _).2.2 (fun h => h))
    have K1 : Hid (Kept No w w1) := Lib.hid ((em_boxes w _ _).1.trans k1)
    have HP := Lib.hid hp
    clear k1 hp
    go_wp2_with fail
    refine (build_none 32 (by omega) (by omega) _).mono ?_
    rintro e w2 ⟨q, rfl, -, k2, hq⟩
    have H8 := Lib.hid (k2.heap H8.out (fun h => h))
    have H12 := Lib.hid (k2.heap H12.out (fun h => h))
    have HP := Lib.hid (k2.heap HP.out (fun h => h))
    have K2 : Hid (Kept No w w2) := Lib.hid (K1.out.trans k2)
    have HQ := Lib.hid hq
    clear k2 hq K1
    go_wp2_with (first | (refine wpList_load_row (by rfl) 25 (.tmp 8) (by rfl) w.heap.size (by rfl) 25 #[.int .u8 i0, .int .u16 i1, .int .u32 i2] (0, 0) _ (by first | exact H8b.out | exact H8c.out | exact H8.out | exact ((Kept.refl No _).alloc _).heap H8.out (fun h => h) | exact (((Kept.refl No _).alloc _).alloc _).heap H8.out (fun h => h)) Tryz.underlying25 rfl (by kernel_rfl) ?_) | (refine wpList_load_row (by rfl) 27 (.tmp 12) (by rfl) (w.heap.size + 1) (by rfl) 27 #[.int .i64 tw, .int .i64 wait, .int .i64 tries, .bool short, .bool mend] (0, 0) _ (by first | exact H12b.out | exact H12c.out | exact H12.out | exact ((Kept.refl No _).alloc _).heap H12.out (fun h => h) | exact (((Kept.refl No _).alloc _).alloc _).heap H12.out (fun h => h)) Tryz.underlying27 rfl (by kernel_rfl) ?_))
    refine (rstart_some i0 i1 i2 f t tw wait tries short mend _ 32 (by decide) (by decide) p _ (((Kept.refl No w2).alloc _).heap HP.out (fun h => h))).mono ?_
    rintro e w3 ⟨r1, rfl, g1, k3⟩
    have k3 := ((Kept.refl No w2).alloc _).trans k3
    have H8 := Lib.hid (k3.heap H8.out (fun h => h))
    have H12 := Lib.hid (k3.heap H12.out (fun h => h))
    have HP := Lib.hid (k3.heap HP.out (fun h => h))
    have HQ := Lib.hid (k3.heap HQ.out (fun h => h))
    have K3 : Hid (Kept No w w3) := Lib.hid (K2.out.trans k3)
    clear k3 K2
    obtain ⟨a0, a1, a2, a3, a4, a5, b5, hR⟩ := stRow_facts i0 i1 i2 f t tw wait tries 32 false
    have HR := Lib.hid hR
    clear hR
    rw [HR.out]
    generalize hc1 : stCode i0 i1 i2 f t tw wait tries (((32 : Nat) : Int) : Int) false = c1 at g1 ⊢
    have HC1 := Lib.hid hc1
    have HF := Lib.hid (frame_neq a0 a1 a2 a3 a4 a5 b5)
    clear hc1 g1
    go_wp2_with (first | (refine wpList_store_new (by rfl) 38 (.tmp 23) (.tmp 56) (by rfl) w3 38 #[.int .u8 0, .int .u8 0, .int .u8 0, .int .u16 0, .int .u32 0, .int .u64 0, .int .u32 0, .bool false, .string ByteArray.empty] (frameRow a0 a1 a2 a3 a4 a5 b5) (by rfl) (by rfl) (by rfl) (by kernel_rfl) (by rfl) (by kernel_rfl) ?_) | (refine wpList_load_row (by rfl) 25 (.tmp 8) (by rfl) w.heap.size (by rfl) 25 #[.int .u8 i0, .int .u16 i1, .int .u32 i2] (0, 0) _ (by first | exact H8b.out | exact H8c.out | exact H8.out | exact ((Kept.refl No _).alloc _).heap H8.out (fun h => h) | exact (((Kept.refl No _).alloc _).alloc _).heap H8.out (fun h => h)) Tryz.underlying25 rfl (by kernel_rfl) ?_) | (refine wpList_load_row (by rfl) 27 (.tmp 12) (by rfl) (w.heap.size + 1) (by rfl) 27 #[.int .i64 tw, .int .i64 wait, .int .i64 tries, .bool short, .bool mend] (0, 0) _ (by first | exact H12b.out | exact H12c.out | exact H12.out | exact ((Kept.refl No _).alloc _).heap H12.out (fun h => h) | exact (((Kept.refl No _).alloc _).alloc _).heap H12.out (fun h => h)) Tryz.underlying27 rfl (by kernel_rfl) ?_))
    refine (start_some i0 i1 i2 f t tw wait tries short mend _ 32 (by decide) (by decide) q _ ((((Kept.refl No w3).alloc _).alloc _).heap HQ.out (fun h => h))).mono ?_
    rintro e w4 ⟨r2, rfl, g2, k4⟩
    have H23 := Lib.hid (k4.heap (((Kept.refl No _).alloc _).heap (heap_alloc_new w3 _) (fun h => h)) (fun h => h))
    have k4 := (((Kept.refl No w3).alloc _).alloc _).trans k4
    have H8 := Lib.hid (k4.heap H8.out (fun h => h))
    have H12 := Lib.hid (k4.heap H12.out (fun h => h))
    have HP := Lib.hid (k4.heap HP.out (fun h => h))
    have HQ := Lib.hid (k4.heap HQ.out (fun h => h))
    have K4 : Hid (Kept No w w4) := Lib.hid (K3.out.trans k4)
    clear k4 K3
    rw [HC1.out] at g2
    rw [HR.out, HC1.out]
    have hF := frame_neq a0 a1 a2 a3 a4 a5 b5
    have hN := xptr_nil _ c1 g2
    clear g2
    have H26 := Lib.hid (heap_alloc_new w4 (.cells (frameRow a0 a1 a2 a3 a4 a5 b5) 38))
    go_wp2_with (first | (refine wpList_store_new (by rfl) 38 (.tmp 26) (.tmp 69) (by rfl) w4 38 #[.int .u8 0, .int .u8 0, .int .u8 0, .int .u16 0, .int .u32 0, .int .u64 0, .int .u32 0, .bool false, .string ByteArray.empty] (frameRow a0 a1 a2 a3 a4 a5 b5) (by rfl) (by rfl) (by rfl) (by kernel_rfl) (by rfl) (by kernel_rfl) ?_) | (refine wpList_load_want (by rfl) 38 (.tmp 26) (by rfl) (w4.heap.size) (by rfl) 38 (frameRow a0 a1 a2 a3 a4 a5 b5) (0, 0) _ (by first | exact H26b.out | exact H26c.out | exact H26.out | exact ((Kept.refl No _).alloc _).heap H26.out (fun h => h) | exact (((Kept.refl No _).alloc _).alloc _).heap H26.out (fun h => h)) Tryz.underlying38 rfl (by kernel_rfl) ?_) | (refine wpList_load_want (by rfl) 38 (.tmp 23) (by rfl) (w3.heap.size) (by rfl) 38 (frameRow a0 a1 a2 a3 a4 a5 b5) (0, 0) _ (by first | exact H23b.out | exact H23c.out | exact H23.out | exact ((Kept.refl No _).alloc _).heap H23.out (fun h => h) | exact (((Kept.refl No _).alloc _).alloc _).heap H23.out (fun h => h)) Tryz.underlying38 rfl (by kernel_rfl) ?_) | (refine wpList_load_row (by rfl) 25 (.tmp 8) (by rfl) w.heap.size (by rfl) 25 #[.int .u8 i0, .int .u16 i1, .int .u32 i2] (0, 0) _ (by first | exact H8b.out | exact H8c.out | exact H8.out | exact ((Kept.refl No _).alloc _).heap H8.out (fun h => h) | exact (((Kept.refl No _).alloc _).alloc _).heap H8.out (fun h => h)) Tryz.underlying25 rfl (by kernel_rfl) ?_) | (refine wpList_load_row (by rfl) 27 (.tmp 12) (by rfl) (w.heap.size + 1) (by rfl) 27 #[.int .i64 tw, .int .i64 wait, .int .i64 tries, .bool short, .bool mend] (0, 0) _ (by first | exact H12b.out | exact H12c.out | exact H12.out | exact ((Kept.refl No _).alloc _).heap H12.out (fun h => h) | exact (((Kept.refl No _).alloc _).alloc _).heap H12.out (fun h => h)) Tryz.underlying27 rfl (by kernel_rfl) ?_))
    refine (rstart_none i0 i1 i2 f t tw wait tries short mend 32 (by decide) (by decide) p _ (((Kept.refl No w4).alloc _).heap HP.out (fun h => h))).mono ?_
    rintro e w5 ⟨r3, rfl, g3, k5⟩
    have HB : Hid (w.heap.size + 1 < w4.heap.size) := Lib.hid (lt_of_heap H12.out)
    have H26 := Lib.hid (k5.heap H26.out (fun h => h))
    have k5 := ((Kept.refl No w4).alloc _).trans k5
    have H8 := Lib.hid (k5.heap H8.out (fun h => h))
    have H12 := Lib.hid (k5.heap H12.out (fun h => h))
    have HQ := Lib.hid (k5.heap HQ.out (fun h => h))
    have K5 : Hid (Kept No w w5) := Lib.hid (K4.out.trans k5)
    clear k5 K4 g3 hF hN HF HR HC1 HP H23
    generalize hc2 : stCode i0 i1 i2 f t tw wait tries ((32 : Nat) : Int) mend = c2
    have HC2 := Lib.hid hc2
    obtain ⟨d0, d1, d2, d3, d4, d5, e5, hR⟩ := stRow_facts i0 i1 i2 f t tw wait tries 32 mend
    have HR := Lib.hid hR
    clear hR hc2
    rw [HR.out]
    go_wp2_with (first | (refine wpList_load_row (by rfl) 25 (.tmp 8) (by rfl) w.heap.size (by rfl) 25 #[.int .u8 i0, .int .u16 i1, .int .u32 i2] (0, 0) _ (by first | exact H8b.out | exact H8c.out | exact H8.out | exact ((Kept.refl No _).alloc _).heap H8.out (fun h => h) | exact (((Kept.refl No _).alloc _).alloc _).heap H8.out (fun h => h)) Tryz.underlying25 rfl (by kernel_rfl) ?_) | (refine wpList_load_row (by rfl) 27 (.tmp 12) (by rfl) (w.heap.size + 1) (by rfl) 27 #[.int .i64 tw, .int .i64 wait, .int .i64 tries, .bool short, .bool mend] (0, 0) _ (by first | exact H12b.out | exact H12c.out | exact H12.out | exact ((Kept.refl No _).alloc _).heap H12.out (fun h => h) | exact (((Kept.refl No _).alloc _).alloc _).heap H12.out (fun h => h)) Tryz.underlying27 rfl (by kernel_rfl) ?_))
    refine (start_none i0 i1 i2 f t tw wait tries short mend 32 (by decide) (by decide) q _ HQ.out).mono ?_
    rintro e w6 ⟨r4, rfl, g4, k6⟩
    have H8 := Lib.hid (k6.heap H8.out (fun h => h))
    have H12 := Lib.hid (k6.heap H12.out (fun h => h))
    have H26 := Lib.hid (k6.heap H26.out (fun h => h))
    have K6 : Hid (Kept No w w6) := Lib.hid (K5.out.trans k6)
    clear k6 K5 HQ
    rw [HC2.out] at g4
    rw [HR.out, HC2.out]
    have hN := xptr_nil _ c2 g4
    have hx8 : w.heap.size ≠ w4.heap.size := by have := HB.out; omega
    have hx12 : w.heap.size + 1 ≠ w4.heap.size := by have := HB.out; omega
    have H8b := Lib.hid (((Kept.refl (fun k => k = w4.heap.size) w6).setRow w4.heap.size (frameRow d0 d1 d2 d3 d4 d5 e5) (fun _ => rfl)).heap H8.out hx8)
    have H12b := Lib.hid (((Kept.refl (fun k => k = w4.heap.size) w6).setRow w4.heap.size (frameRow d0 d1 d2 d3 d4 d5 e5) (fun _ => rfl)).heap H12.out hx12)
    have H26b := Lib.hid (setRow_heap w6 w4.heap.size _ (frameRow d0 d1 d2 d3 d4 d5 e5) _ _ H26.out)
    have K7 : Hid (Kept No w (w6.setRow w4.heap.size (frameRow d0 d1 d2 d3 d4 d5 e5))) := Lib.hid (K6.out.setRow _ _ (fun x => by have := HB.out; omega))
    clear g4 K6
    go_wp2_with (first | (refine wpList_load_row (by rfl) 25 (.tmp 8) (by rfl) w.heap.size (by rfl) 25 #[.int .u8 i0, .int .u16 i1, .int .u32 i2] (0, 0) _ (by first | exact H8b.out | exact H8c.out | exact H8.out | exact ((Kept.refl No _).alloc _).heap H8.out (fun h => h) | exact (((Kept.refl No _).alloc _).alloc _).heap H8.out (fun h => h)) Tryz.underlying25 rfl (by kernel_rfl) ?_) | (refine wpList_load_row (by rfl) 27 (.tmp 12) (by rfl) (w.heap.size + 1) (by rfl) 27 #[.int .i64 tw, .int .i64 wait, .int .i64 tries, .bool short, .bool mend] (0, 0) _ (by first | exact H12b.out | exact H12c.out | exact H12.out | exact ((Kept.refl No _).alloc _).heap H12.out (fun h => h) | exact (((Kept.refl No _).alloc _).alloc _).heap H12.out (fun h => h)) Tryz.underlying27 rfl (by kernel_rfl) ?_) | (refine wpList_store_row (by rfl) 38 (.tmp 26) (.tmp 104) (by rfl) (w4.heap.size) 38 (frameRow a0 a1 a2 a3 a4 a5 b5) (frameRow d0 d1 d2 d3 d4 d5 e5) (by rfl) (by rfl) (by first | exact H26b.out | exact H26c.out | exact H26.out | exact ((Kept.refl No _).alloc _).heap H26.out (fun h => h) | exact (((Kept.refl No _).alloc _).alloc _).heap H26.out (fun h => h)) (by kernel_rfl) (by rfl) (by kernel_rfl) ?_))
    clear hN
    refine (start_nil i0 i1 i2 f t tw wait tries short mend _).mono ?_
    rintro e w8 ⟨rfl, k8⟩
    have H12 := Lib.hid (k8.heap H12b.out (fun h => h))
    have H26 := Lib.hid (k8.heap H26b.out (fun h => h))
    have K8 : Hid (Kept No w w8) := Lib.hid (K7.out.trans k8)
    clear k8 K7 H12b H26b H8b H8 hx8
    have H12b := Lib.hid (((Kept.refl (fun k => k = w4.heap.size) w8).setRow w4.heap.size (#[.int .u8 0, .int .u8 0, .int .u8 0, .int .u16 0, .int .u32 0, .int .u64 0, .int .u32 0, .bool false, .string ByteArray.empty]) (fun _ => rfl)).heap H12.out hx12)
    have H26b := Lib.hid (setRow_heap w8 w4.heap.size _ (#[.int .u8 0, .int .u8 0, .int .u8 0, .int .u16 0, .int .u32 0, .int .u64 0, .int .u32 0, .bool false, .string ByteArray.empty]) _ _ H26.out)
    have K9 : Hid (Kept No w (w8.setRow w4.heap.size (#[.int .u8 0, .int .u8 0, .int .u8 0, .int .u16 0, .int .u32 0, .int .u64 0, .int .u32 0, .bool false, .string ByteArray.empty]))) := Lib.hid (K8.out.setRow _ _ (fun x => by have := HB.out; omega))
    clear K8
    have hZ := frame_neq 0 0 0 0 0 0 ByteArray.empty
    unfold frameRow at hZ
    go_wp2_with (first | (refine wpList_store_row (by rfl) 38 (.tmp 26) (.tmp 123) (by rfl) (w4.heap.size) 38 (frameRow d0 d1 d2 d3 d4 d5 e5) (#[.int .u8 0, .int .u8 0, .int .u8 0, .int .u16 0, .int .u32 0, .int .u64 0, .int .u32 0, .bool false, .string ByteArray.empty]) (by rfl) (by rfl) (by first | exact H26b.out | exact H26c.out | exact H26.out | exact ((Kept.refl No _).alloc _).heap H26.out (fun h => h) | exact (((Kept.refl No _).alloc _).alloc _).heap H26.out (fun h => h)) (by kernel_rfl) (by rfl) (by kernel_rfl) ?_) | (refine wpList_load_want (by rfl) 38 (.tmp 26) (by rfl) (w4.heap.size) (by rfl) 38 (#[.int .u8 0, .int .u8 0, .int .u8 0, .int .u16 0, .int .u32 0, .int .u64 0, .int .u32 0, .bool false, .string ByteArray.empty]) (0, 0) _ (by first | exact H26b.out | exact H26c.out | exact H26.out | exact ((Kept.refl No _).alloc _).heap H26.out (fun h => h) | exact (((Kept.refl No _).alloc _).alloc _).heap H26.out (fun h => h)) Tryz.underlying38 rfl (by kernel_rfl) ?_))
    refine (rnewdesk_any f life width _ _).mono ?_
    rintro e wa ⟨r5, rfl, g5, ka⟩
    have ka := ((Kept.refl No _).alloc _).trans ka
    have H12 := Lib.hid (ka.heap H12b.out (fun h => h))
    have Ka : Hid (Kept No w wa) := Lib.hid (K9.out.trans ka)
    clear ka K9 H12b H26b hZ g5 H26
    go_wp2_with (first | (refine wpList_load_row (by rfl) 27 (.tmp 12) (by rfl) (w.heap.size + 1) (by rfl) 27 #[.int .i64 tw, .int .i64 wait, .int .i64 tries, .bool short, .bool mend] (0, 0) _ (by first | exact H12b.out | exact H12c.out | exact H12.out | exact ((Kept.refl No _).alloc _).heap H12.out (fun h => h) | exact (((Kept.refl No _).alloc _).alloc _).heap H12.out (fun h => h)) Tryz.underlying27 rfl (by kernel_rfl) ?_))
    refine (newdesk_any f life width _ _).mono ?_
    rintro e wb ⟨r6, rfl, g6, kb⟩
    have kb := ((Kept.refl No _).alloc _).trans kb
    have H12 := Lib.hid (kb.heap H12.out (fun h => h))
    have Kb : Hid (Kept No w wb) := Lib.hid (Ka.out.trans kb)
    have hN := dptr_nil _ _ g6
    clear kb Ka g6
    generalize dkCode f life width = c3 at hN ⊢
    go_wp2_with (first | (refine wpList_load_row (by rfl) 27 (.tmp 12) (by rfl) (w.heap.size + 1) (by rfl) 27 #[.int .i64 tw, .int .i64 wait, .int .i64 tries, .bool short, .bool mend] (0, 0) _ (by first | exact H12b.out | exact H12c.out | exact H12.out | exact ((Kept.refl No _).alloc _).heap H12.out (fun h => h) | exact (((Kept.refl No _).alloc _).alloc _).heap H12.out (fun h => h)) Tryz.underlying27 rfl (by kernel_rfl) ?_))
    refine (rbound_any tw wait tries d k short mend _).mono ?_
    rintro e wc ⟨rfl, kc⟩
    have H12 := Lib.hid (kc.heap H12.out (fun h => h))
    have Kc : Hid (Kept No w wc) := Lib.hid (Kb.out.trans kc)
    clear kc Kb hN
    go_wp2_with (first | (refine wpList_load_row (by rfl) 27 (.tmp 12) (by rfl) (w.heap.size + 1) (by rfl) 27 #[.int .i64 tw, .int .i64 wait, .int .i64 tries, .bool short, .bool mend] (0, 0) _ (by first | exact H12b.out | exact H12c.out | exact H12.out | exact ((Kept.refl No _).alloc _).heap H12.out (fun h => h) | exact (((Kept.refl No _).alloc _).alloc _).heap H12.out (fun h => h)) Tryz.underlying27 rfl (by kernel_rfl) ?_))
    refine (bound_any tw wait tries d k short mend _).mono ?_
    rintro e wd ⟨rfl, kd⟩
    have Kd : Hid (Kept No w wd) := Lib.hid (Kc.out.trans kd)
    clear kd Kc
    go_wp2_with fail
    go_ret
    exact ⟨rfl, Kd.out.below (Nat.le_refl _) (fun _ _ h => h)⟩
  case inr.inl =>
    refine (rbuild_none 1 (by omega) (by omega) _).mono ?_
    rintro e w1 ⟨p, rfl, k1, hp⟩
    have H8 := Lib.hid (k1.heap (em_boxes w _ _).2.1 (fun h => h))
    have H12 := Lib.hid (k1.heap (em_boxes w _ _).2.2 (fun h => h))
    have K1 : Hid (Kept No w w1) := Lib.hid ((em_boxes w _ _).1.trans k1)
    have HP := Lib.hid hp
    clear k1 hp
    go_wp2_with fail
    refine (build_none 1 (by omega) (by omega) _).mono ?_
    rintro e w2 ⟨q, rfl, -, k2, hq⟩
    have H8 := Lib.hid (k2.heap H8.out (fun h => h))
    have H12 := Lib.hid (k2.heap H12.out (fun h => h))
    have HP := Lib.hid (k2.heap HP.out (fun h => h))
    have K2 : Hid (Kept No w w2) := Lib.hid (K1.out.trans k2)
    have HQ := Lib.hid hq
    clear k2 hq K1
    go_wp2_with (first | (refine wpList_load_row (by rfl) 25 (.tmp 8) (by rfl) w.heap.size (by rfl) 25 #[.int .u8 i0, .int .u16 i1, .int .u32 i2] (0, 0) _ (by first | exact H8b.out | exact H8c.out | exact H8.out | exact ((Kept.refl No _).alloc _).heap H8.out (fun h => h) | exact (((Kept.refl No _).alloc _).alloc _).heap H8.out (fun h => h)) Tryz.underlying25 rfl (by kernel_rfl) ?_) | (refine wpList_load_row (by rfl) 27 (.tmp 12) (by rfl) (w.heap.size + 1) (by rfl) 27 #[.int .i64 tw, .int .i64 wait, .int .i64 tries, .bool short, .bool mend] (0, 0) _ (by first | exact H12b.out | exact H12c.out | exact H12.out | exact ((Kept.refl No _).alloc _).heap H12.out (fun h => h) | exact (((Kept.refl No _).alloc _).alloc _).heap H12.out (fun h => h)) Tryz.underlying27 rfl (by kernel_rfl) ?_))
    refine (rstart_some i0 i1 i2 f t tw wait tries short mend _ 1 (by decide) (by decide) p _ (((Kept.refl No w2).alloc _).heap HP.out (fun h => h))).mono ?_
    rintro e w3 ⟨r1, rfl, g1, k3⟩
    have k3 := ((Kept.refl No w2).alloc _).trans k3
    have H8 := Lib.hid (k3.heap H8.out (fun h => h))
    have H12 := Lib.hid (k3.heap H12.out (fun h => h))
    have HP := Lib.hid (k3.heap HP.out (fun h => h))
    have HQ := Lib.hid (k3.heap HQ.out (fun h => h))
    have K3 : Hid (Kept No w w3) := Lib.hid (K2.out.trans k3)
    clear k3 K2
    obtain ⟨a0, a1, a2, a3, a4, a5, b5, hR⟩ := stRow_facts i0 i1 i2 f t tw wait tries 1 false
    have HR := Lib.hid hR
    clear hR
    rw [HR.out]
    generalize hc1 : stCode i0 i1 i2 f t tw wait tries (((1 : Nat) : Int) : Int) false = c1 at g1 ⊢
    have HC1 := Lib.hid hc1
    have HF := Lib.hid (frame_neq a0 a1 a2 a3 a4 a5 b5)
    clear hc1 g1
    go_wp2_with (first | (refine wpList_store_new (by rfl) 38 (.tmp 23) (.tmp 56) (by rfl) w3 38 #[.int .u8 0, .int .u8 0, .int .u8 0, .int .u16 0, .int .u32 0, .int .u64 0, .int .u32 0, .bool false, .string ByteArray.empty] (frameRow a0 a1 a2 a3 a4 a5 b5) (by rfl) (by rfl) (by rfl) (by kernel_rfl) (by rfl) (by kernel_rfl) ?_) | (refine wpList_load_row (by rfl) 25 (.tmp 8) (by rfl) w.heap.size (by rfl) 25 #[.int .u8 i0, .int .u16 i1, .int .u32 i2] (0, 0) _ (by first | exact H8b.out | exact H8c.out | exact H8.out | exact ((Kept.refl No _).alloc _).heap H8.out (fun h => h) | exact (((Kept.refl No _).alloc _).alloc _).heap H8.out (fun h => h)) Tryz.underlying25 rfl (by kernel_rfl) ?_) | (refine wpList_load_row (by rfl) 27 (.tmp 12) (by rfl) (w.heap.size + 1) (by rfl) 27 #[.int .i64 tw, .int .i64 wait, .int .i64 tries, .bool short, .bool mend] (0, 0) _ (by first | exact H12b.out | exact H12c.out | exact H12.out | exact ((Kept.refl No _).alloc _).heap H12.out (fun h => h) | exact (((Kept.refl No _).alloc _).alloc _).heap H12.out (fun h => h)) Tryz.underlying27 rfl (by kernel_rfl) ?_))
    refine (start_some i0 i1 i2 f t tw wait tries short mend _ 1 (by decide) (by decide) q _ ((((Kept.refl No w3).alloc _).alloc _).heap HQ.out (fun h => h))).mono ?_
    rintro e w4 ⟨r2, rfl, g2, k4⟩
    have H23 := Lib.hid (k4.heap (((Kept.refl No _).alloc _).heap (heap_alloc_new w3 _) (fun h => h)) (fun h => h))
    have k4 := (((Kept.refl No w3).alloc _).alloc _).trans k4
    have H8 := Lib.hid (k4.heap H8.out (fun h => h))
    have H12 := Lib.hid (k4.heap H12.out (fun h => h))
    have HP := Lib.hid (k4.heap HP.out (fun h => h))
    have HQ := Lib.hid (k4.heap HQ.out (fun h => h))
    have K4 : Hid (Kept No w w4) := Lib.hid (K3.out.trans k4)
    clear k4 K3
    rw [HC1.out] at g2
    rw [HR.out, HC1.out]
    have hF := frame_neq a0 a1 a2 a3 a4 a5 b5
    have hN := xptr_nil _ c1 g2
    clear g2
    have H26 := Lib.hid (heap_alloc_new w4 (.cells (frameRow a0 a1 a2 a3 a4 a5 b5) 38))
    go_wp2_with (first | (refine wpList_store_new (by rfl) 38 (.tmp 26) (.tmp 69) (by rfl) w4 38 #[.int .u8 0, .int .u8 0, .int .u8 0, .int .u16 0, .int .u32 0, .int .u64 0, .int .u32 0, .bool false, .string ByteArray.empty] (frameRow a0 a1 a2 a3 a4 a5 b5) (by rfl) (by rfl) (by rfl) (by kernel_rfl) (by rfl) (by kernel_rfl) ?_) | (refine wpList_load_want (by rfl) 38 (.tmp 26) (by rfl) (w4.heap.size) (by rfl) 38 (frameRow a0 a1 a2 a3 a4 a5 b5) (0, 0) _ (by first | exact H26b.out | exact H26c.out | exact H26.out | exact ((Kept.refl No _).alloc _).heap H26.out (fun h => h) | exact (((Kept.refl No _).alloc _).alloc _).heap H26.out (fun h => h)) Tryz.underlying38 rfl (by kernel_rfl) ?_) | (refine wpList_load_want (by rfl) 38 (.tmp 23) (by rfl) (w3.heap.size) (by rfl) 38 (frameRow a0 a1 a2 a3 a4 a5 b5) (0, 0) _ (by first | exact H23b.out | exact H23c.out | exact H23.out | exact ((Kept.refl No _).alloc _).heap H23.out (fun h => h) | exact (((Kept.refl No _).alloc _).alloc _).heap H23.out (fun h => h)) Tryz.underlying38 rfl (by kernel_rfl) ?_) | (refine wpList_load_row (by rfl) 25 (.tmp 8) (by rfl) w.heap.size (by rfl) 25 #[.int .u8 i0, .int .u16 i1, .int .u32 i2] (0, 0) _ (by first | exact H8b.out | exact H8c.out | exact H8.out | exact ((Kept.refl No _).alloc _).heap H8.out (fun h => h) | exact (((Kept.refl No _).alloc _).alloc _).heap H8.out (fun h => h)) Tryz.underlying25 rfl (by kernel_rfl) ?_) | (refine wpList_load_row (by rfl) 27 (.tmp 12) (by rfl) (w.heap.size + 1) (by rfl) 27 #[.int .i64 tw, .int .i64 wait, .int .i64 tries, .bool short, .bool mend] (0, 0) _ (by first | exact H12b.out | exact H12c.out | exact H12.out | exact ((Kept.refl No _).alloc _).heap H12.out (fun h => h) | exact (((Kept.refl No _).alloc _).alloc _).heap H12.out (fun h => h)) Tryz.underlying27 rfl (by kernel_rfl) ?_))
    refine (rstart_none i0 i1 i2 f t tw wait tries short mend 1 (by decide) (by decide) p _ (((Kept.refl No w4).alloc _).heap HP.out (fun h => h))).mono ?_
    rintro e w5 ⟨r3, rfl, g3, k5⟩
    have HB : Hid (w.heap.size + 1 < w4.heap.size) := Lib.hid (lt_of_heap H12.out)
    have H26 := Lib.hid (k5.heap H26.out (fun h => h))
    have k5 := ((Kept.refl No w4).alloc _).trans k5
    have H8 := Lib.hid (k5.heap H8.out (fun h => h))
    have H12 := Lib.hid (k5.heap H12.out (fun h => h))
    have HQ := Lib.hid (k5.heap HQ.out (fun h => h))
    have K5 : Hid (Kept No w w5) := Lib.hid (K4.out.trans k5)
    clear k5 K4 g3 hF hN HF HR HC1 HP H23
    generalize hc2 : stCode i0 i1 i2 f t tw wait tries ((1 : Nat) : Int) mend = c2
    have HC2 := Lib.hid hc2
    obtain ⟨d0, d1, d2, d3, d4, d5, e5, hR⟩ := stRow_facts i0 i1 i2 f t tw wait tries 1 mend
    have HR := Lib.hid hR
    clear hR hc2
    rw [HR.out]
    go_wp2_with (first | (refine wpList_load_row (by rfl) 25 (.tmp 8) (by rfl) w.heap.size (by rfl) 25 #[.int .u8 i0, .int .u16 i1, .int .u32 i2] (0, 0) _ (by first | exact H8b.out | exact H8c.out | exact H8.out | exact ((Kept.refl No _).alloc _).heap H8.out (fun h => h) | exact (((Kept.refl No _).alloc _).alloc _).heap H8.out (fun h => h)) Tryz.underlying25 rfl (by kernel_rfl) ?_) | (refine wpList_load_row (by rfl) 27 (.tmp 12) (by rfl) (w.heap.size + 1) (by rfl) 27 #[.int .i64 tw, .int .i64 wait, .int .i64 tries, .bool short, .bool mend] (0, 0) _ (by first | exact H12b.out | exact H12c.out | exact H12.out | exact ((Kept.refl No _).alloc _).heap H12.out (fun h => h) | exact (((Kept.refl No _).alloc _).alloc _).heap H12.out (fun h => h)) Tryz.underlying27 rfl (by kernel_rfl) ?_))
    refine (start_none i0 i1 i2 f t tw wait tries short mend 1 (by decide) (by decide) q _ HQ.out).mono ?_
    rintro e w6 ⟨r4, rfl, g4, k6⟩
    have H8 := Lib.hid (k6.heap H8.out (fun h => h))
    have H12 := Lib.hid (k6.heap H12.out (fun h => h))
    have H26 := Lib.hid (k6.heap H26.out (fun h => h))
    have K6 : Hid (Kept No w w6) := Lib.hid (K5.out.trans k6)
    clear k6 K5 HQ
    rw [HC2.out] at g4
    rw [HR.out, HC2.out]
    have hN := xptr_nil _ c2 g4
    have hx8 : w.heap.size ≠ w4.heap.size := by have := HB.out; omega
    have hx12 : w.heap.size + 1 ≠ w4.heap.size := by have := HB.out; omega
    have H8b := Lib.hid (((Kept.refl (fun k => k = w4.heap.size) w6).setRow w4.heap.size (frameRow d0 d1 d2 d3 d4 d5 e5) (fun _ => rfl)).heap H8.out hx8)
    have H12b := Lib.hid (((Kept.refl (fun k => k = w4.heap.size) w6).setRow w4.heap.size (frameRow d0 d1 d2 d3 d4 d5 e5) (fun _ => rfl)).heap H12.out hx12)
    have H26b := Lib.hid (setRow_heap w6 w4.heap.size _ (frameRow d0 d1 d2 d3 d4 d5 e5) _ _ H26.out)
    have K7 : Hid (Kept No w (w6.setRow w4.heap.size (frameRow d0 d1 d2 d3 d4 d5 e5))) := Lib.hid (K6.out.setRow _ _ (fun x => by have := HB.out; omega))
    clear g4 K6
    go_wp2_with (first | (refine wpList_load_row (by rfl) 25 (.tmp 8) (by rfl) w.heap.size (by rfl) 25 #[.int .u8 i0, .int .u16 i1, .int .u32 i2] (0, 0) _ (by first | exact H8b.out | exact H8c.out | exact H8.out | exact ((Kept.refl No _).alloc _).heap H8.out (fun h => h) | exact (((Kept.refl No _).alloc _).alloc _).heap H8.out (fun h => h)) Tryz.underlying25 rfl (by kernel_rfl) ?_) | (refine wpList_load_row (by rfl) 27 (.tmp 12) (by rfl) (w.heap.size + 1) (by rfl) 27 #[.int .i64 tw, .int .i64 wait, .int .i64 tries, .bool short, .bool mend] (0, 0) _ (by first | exact H12b.out | exact H12c.out | exact H12.out | exact ((Kept.refl No _).alloc _).heap H12.out (fun h => h) | exact (((Kept.refl No _).alloc _).alloc _).heap H12.out (fun h => h)) Tryz.underlying27 rfl (by kernel_rfl) ?_) | (refine wpList_store_row (by rfl) 38 (.tmp 26) (.tmp 104) (by rfl) (w4.heap.size) 38 (frameRow a0 a1 a2 a3 a4 a5 b5) (frameRow d0 d1 d2 d3 d4 d5 e5) (by rfl) (by rfl) (by first | exact H26b.out | exact H26c.out | exact H26.out | exact ((Kept.refl No _).alloc _).heap H26.out (fun h => h) | exact (((Kept.refl No _).alloc _).alloc _).heap H26.out (fun h => h)) (by kernel_rfl) (by rfl) (by kernel_rfl) ?_))
    clear hN
    refine (start_nil i0 i1 i2 f t tw wait tries short mend _).mono ?_
    rintro e w8 ⟨rfl, k8⟩
    have H12 := Lib.hid (k8.heap H12b.out (fun h => h))
    have H26 := Lib.hid (k8.heap H26b.out (fun h => h))
    have K8 : Hid (Kept No w w8) := Lib.hid (K7.out.trans k8)
    clear k8 K7 H12b H26b H8b H8 hx8
    have H12b := Lib.hid (((Kept.refl (fun k => k = w4.heap.size) w8).setRow w4.heap.size (#[.int .u8 0, .int .u8 0, .int .u8 0, .int .u16 0, .int .u32 0, .int .u64 0, .int .u32 0, .bool false, .string ByteArray.empty]) (fun _ => rfl)).heap H12.out hx12)
    have H26b := Lib.hid (setRow_heap w8 w4.heap.size _ (#[.int .u8 0, .int .u8 0, .int .u8 0, .int .u16 0, .int .u32 0, .int .u64 0, .int .u32 0, .bool false, .string ByteArray.empty]) _ _ H26.out)
    have K9 : Hid (Kept No w (w8.setRow w4.heap.size (#[.int .u8 0, .int .u8 0, .int .u8 0, .int .u16 0, .int .u32 0, .int .u64 0, .int .u32 0, .bool false, .string ByteArray.empty]))) := Lib.hid (K8.out.setRow _ _ (fun x => by have := HB.out; omega))
    clear K8
    have hZ := frame_neq 0 0 0 0 0 0 ByteArray.empty
    unfold frameRow at hZ
    go_wp2_with (first | (refine wpList_store_row (by rfl) 38 (.tmp 26) (.tmp 123) (by rfl) (w4.heap.size) 38 (frameRow d0 d1 d2 d3 d4 d5 e5) (#[.int .u8 0, .int .u8 0, .int .u8 0, .int .u16 0, .int .u32 0, .int .u64 0, .int .u32 0, .bool false, .string ByteArray.empty]) (by rfl) (by rfl) (by first | exact H26b.out | exact H26c.out | exact H26.out | exact ((Kept.refl No _).alloc _).heap H26.out (fun h => h) | exact (((Kept.refl No _).alloc _).alloc _).heap H26.out (fun h => h)) (by kernel_rfl) (by rfl) (by kernel_rfl) ?_) | (refine wpList_load_want (by rfl) 38 (.tmp 26) (by rfl) (w4.heap.size) (by rfl) 38 (#[.int .u8 0, .int .u8 0, .int .u8 0, .int .u16 0, .int .u32 0, .int .u64 0, .int .u32 0, .bool false, .string ByteArray.empty]) (0, 0) _ (by first | exact H26b.out | exact H26c.out | exact H26.out | exact ((Kept.refl No _).alloc _).heap H26.out (fun h => h) | exact (((Kept.refl No _).alloc _).alloc _).heap H26.out (fun h => h)) Tryz.underlying38 rfl (by kernel_rfl) ?_))
    refine (rnewdesk_any f life width _ _).mono ?_
    rintro e wa ⟨r5, rfl, g5, ka⟩
    have ka := ((Kept.refl No _).alloc _).trans ka
    have H12 := Lib.hid (ka.heap H12b.out (fun h => h))
    have Ka : Hid (Kept No w wa) := Lib.hid (K9.out.trans ka)
    clear ka K9 H12b H26b hZ g5 H26
    go_wp2_with (first | (refine wpList_load_row (by rfl) 27 (.tmp 12) (by rfl) (w.heap.size + 1) (by rfl) 27 #[.int .i64 tw, .int .i64 wait, .int .i64 tries, .bool short, .bool mend] (0, 0) _ (by first | exact H12b.out | exact H12c.out | exact H12.out | exact ((Kept.refl No _).alloc _).heap H12.out (fun h => h) | exact (((Kept.refl No _).alloc _).alloc _).heap H12.out (fun h => h)) Tryz.underlying27 rfl (by kernel_rfl) ?_))
    refine (newdesk_any f life width _ _).mono ?_
    rintro e wb ⟨r6, rfl, g6, kb⟩
    have kb := ((Kept.refl No _).alloc _).trans kb
    have H12 := Lib.hid (kb.heap H12.out (fun h => h))
    have Kb : Hid (Kept No w wb) := Lib.hid (Ka.out.trans kb)
    have hN := dptr_nil _ _ g6
    clear kb Ka g6
    generalize dkCode f life width = c3 at hN ⊢
    go_wp2_with (first | (refine wpList_load_row (by rfl) 27 (.tmp 12) (by rfl) (w.heap.size + 1) (by rfl) 27 #[.int .i64 tw, .int .i64 wait, .int .i64 tries, .bool short, .bool mend] (0, 0) _ (by first | exact H12b.out | exact H12c.out | exact H12.out | exact ((Kept.refl No _).alloc _).heap H12.out (fun h => h) | exact (((Kept.refl No _).alloc _).alloc _).heap H12.out (fun h => h)) Tryz.underlying27 rfl (by kernel_rfl) ?_))
    refine (rbound_any tw wait tries d k short mend _).mono ?_
    rintro e wc ⟨rfl, kc⟩
    have H12 := Lib.hid (kc.heap H12.out (fun h => h))
    have Kc : Hid (Kept No w wc) := Lib.hid (Kb.out.trans kc)
    clear kc Kb hN
    go_wp2_with (first | (refine wpList_load_row (by rfl) 27 (.tmp 12) (by rfl) (w.heap.size + 1) (by rfl) 27 #[.int .i64 tw, .int .i64 wait, .int .i64 tries, .bool short, .bool mend] (0, 0) _ (by first | exact H12b.out | exact H12c.out | exact H12.out | exact ((Kept.refl No _).alloc _).heap H12.out (fun h => h) | exact (((Kept.refl No _).alloc _).alloc _).heap H12.out (fun h => h)) Tryz.underlying27 rfl (by kernel_rfl) ?_))
    refine (bound_any tw wait tries d k short mend _).mono ?_
    rintro e wd ⟨rfl, kd⟩
    have Kd : Hid (Kept No w wd) := Lib.hid (Kc.out.trans kd)
    clear kd Kc
    go_wp2_with fail
    go_ret
    exact ⟨rfl, Kd.out.below (Nat.le_refl _) (fun _ _ h => h)⟩

/-- .. its arguments in the parameters' order. -/
theorem emade_ok (i0 i1 i2 f t life tw wait tries : Int) (short mend : Bool) (width d k : Int) (w : World) : Calls Tryz.prog 3 #[.agg #[.int .u8 i0, .int .u16 i1, .int .u32 i2], .int .u8 f, .int .u8 t, .int .u16 life, .agg #[.int .i64 tw, .int .i64 wait, .int .i64 tries, .bool short, .bool mend], .int .i64 width, .int .i64 d, .int .i64 k] w fun e w' => e = .returned (.bool true) ∧ Below w.heap.size w w' :=
  emade_walk i0 i1 i2 f t life tw wait tries width d k short mend w
end Go.Proofs.YtpkadglempbjiaaGreat
