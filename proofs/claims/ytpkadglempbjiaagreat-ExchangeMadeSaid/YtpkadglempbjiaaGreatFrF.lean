/- concordref26.Start: a session begins. -/
import Derived.Test.YtpkadglempbjiaaGreatFrE
namespace Go.Proofs.YtpkadglempbjiaaGreat
open Go.RowKit Go.Lib
set_option linter.unusedVariables false
set_option linter.unusedSimpArgs false
set_option maxRecDepth 100000

set_option maxHeartbeats 4000000 in
theorem rstart_good_false (i0 i1 i2 f t tw wait tries : Int) (short : Bool) (hp : Option Addr) (n : Nat) (n1 : 1 ≤ n) (n2 : n ≤ 32) (p : Nat) (w : World) (f1 : 1 ≤ f) (f2 : f ≤ 5) (t1 : 1 ≤ t) (t2 : t ≤ 5) (b3 : (f == t) = false) (b4 : (i0 != f) = false) (b5 : (i1 == 0) = false) (b6 : (i2 == 0) = false) (b7 : (tw != (n : Int)) = false) (q1 : 1 ≤ wait) (q2 : wait ≤ 1000) (q3 : 1 ≤ tries) (q4 : tries ≤ 16) (ht : w.heap[p]? = some (.cells #[.int .i64 (n : Int), .slice none 0 0, .slice none 0 0] 68 (0, 0))) :
    Calls Tryz.prog 6 #[idRow i0 i1 i2, .int .u8 f, .int .u8 t, .pointer (some ⟨p, 0, none⟩), .pointer hp, termRow tw wait tries short false] w fun e w' => ∃ a, e = .returned (.tuple #[.pointer (some ⟨a, 0, none⟩), .agg (frameRow i0 i1 i2 f t 1 ⟨#[1, UInt8.ofNat n]⟩), .int .i64 0]) ∧ Kept No w w' := by
  unfold idRow termRow
  have HT := Lib.hid ht
  clear ht
  go_enter Tryz.func6, Tryz.ntmps6
  go_wp2_with fail
  refine (rrep_yes f f1 f2 _).mono ?_
  rintro e w' ⟨rfl, rfl⟩
  go_wp2_with fail
  refine (rrep_yes t t1 t2 _).mono ?_
  rintro e w' ⟨rfl, rfl⟩
  go_wp2_with fail
  have e0 : (Value.string { data := #[] }) = .string ByteArray.empty := rfl
  rw [e0]
  have HE := Lib.hid e0
  clear e0
  have gi := box3a w (.cells #[.int .u8 i0, .int .u16 i1, .int .u32 i2] 25) (.cells #[.int .i64 tw, .int .i64 wait, .int .i64 tries, .bool short, .bool false] 27) (.cells #[.int .u8 0, .int .u8 0, .int .u8 0, .int .u16 0, .int .u32 0, .int .u64 0, .int .u32 0, .bool false, .string ByteArray.empty] 38)
  have gt := box3b w (.cells #[.int .u8 i0, .int .u16 i1, .int .u32 i2] 25) (.cells #[.int .i64 tw, .int .i64 wait, .int .i64 tries, .bool short, .bool false] 27) (.cells #[.int .u8 0, .int .u8 0, .int .u8 0, .int .u16 0, .int .u32 0, .int .u64 0, .int .u32 0, .bool false, .string ByteArray.empty] 38)
  have gz := start_box w (.cells #[.int .u8 i0, .int .u16 i1, .int .u32 i2] 25) (.cells #[.int .i64 tw, .int .i64 wait, .int .i64 tries, .bool short, .bool false] 27) (.cells #[.int .u8 0, .int .u8 0, .int .u8 0, .int .u16 0, .int .u32 0, .int .u64 0, .int .u32 0, .bool false, .string ByteArray.empty] 38)
  have k1 : Kept No w (((w.alloc (.cells #[.int .u8 i0, .int .u16 i1, .int .u32 i2] 25)).alloc (.cells #[.int .i64 tw, .int .i64 wait, .int .i64 tries, .bool short, .bool false] 27)).alloc (.cells #[.int .u8 0, .int .u8 0, .int .u8 0, .int .u16 0, .int .u32 0, .int .u64 0, .int .u32 0, .bool false, .string ByteArray.empty] 38)) := (((Kept.refl _ _).alloc _).alloc _).alloc _
  have hg := k1.heap HT.out (fun h => h)
  generalize (((w.alloc (.cells #[.int .u8 i0, .int .u16 i1, .int .u32 i2] 25)).alloc (.cells #[.int .i64 tw, .int .i64 wait, .int .i64 tries, .bool short, .bool false] 27)).alloc (.cells #[.int .u8 0, .int .u8 0, .int .u8 0, .int .u16 0, .int .u32 0, .int .u64 0, .int .u32 0, .bool false, .string ByteArray.empty] 38)) = w1 at gi gt gz k1 hg ⊢
  have tm0 := cell_in (M := No) (o := 0) gt (fun h => h) rfl
  have tr0 := cell_in (M := No) (o := 0) hg (fun h => h) rfl
  have GI := Lib.hid gi
  have GT := Lib.hid gt
  have GZ := Lib.hid gz
  have K1 := Lib.hid k1
  have HG := Lib.hid hg
  have hpl := lt_of_heap HT.out
  clear gi gt gz k1 hg
  refine wp_region_in (Kept No w1) (by kernel_rfl) (by kernel_rfl) ((Kept.refl _ _).drew) ?_
  repeat (go_big_quiet_step (fail))
  refine wpQuiet_nil ?_
  intro w2 hw'
  obtain ⟨⟨wx, k2⟩, hw''⟩ := hw'
  change w2 = wx at hw''
  subst hw''
  have GZ2 := Lib.hid (k2.heap GZ.out (fun h => h))
  have GI2 := Lib.hid (k2.heap GI.out (fun h => h))
  have GT2 := Lib.hid (k2.heap GT.out (fun h => h))
  have HG2 := Lib.hid (k2.heap HG.out (fun h => h))
  have K2 : Hid (Kept No w w2) := Lib.hid (K1.out.trans k2)
  have d0 := cell_of_row w2 _ 0 _ _ _ GI2.out
  have d1 := cell_of_row w2 _ 1 _ _ _ GI2.out
  have d2 := cell_of_row w2 _ 2 _ _ _ GI2.out
  have m0 := cell_of_row w2 _ 0 _ _ _ GT2.out
  have m1 := cell_of_row w2 _ 1 _ _ _ GT2.out
  have m2 := cell_of_row w2 _ 2 _ _ _ GT2.out
  have m3 := cell_of_row w2 _ 3 _ _ _ GT2.out
  have m4 := cell_of_row w2 _ 4 _ _ _ GT2.out
  simp only [List.getElem?_toArray, List.getElem?_cons_zero, List.getElem?_cons_succ] at d0 d1 d2 m0 m1 m2 m3 m4
  clear tm0 tr0 k2 GI GT GZ K1 HG
  have hna := fun w => rnewasker_ok i0 i1 i2 f t wait tries q1 q2 q3 q4 w
  unfold idRow at hna
  have HNA := Lib.hid hna
  clear hna
  go_wp2_with fail
  go_region_held3 (fun w' => w'.cell? ⟨w.heap.size, 0, none⟩ = some (.int .u8 i0) ∧ w'.cell? ⟨w.heap.size, 1, none⟩ = some (.int .u16 i1) ∧ w'.cell? ⟨w.heap.size, 2, none⟩ = some (.int .u32 i2) ∧ w'.cell? ⟨w.heap.size + 1, 0, none⟩ = some (.int .i64 tw) ∧ w'.cell? ⟨w.heap.size + 1, 1, none⟩ = some (.int .i64 wait) ∧ w'.cell? ⟨w.heap.size + 1, 2, none⟩ = some (.int .i64 tries) ∧ w'.cell? ⟨w.heap.size + 1, 3, none⟩ = some (.bool short) ∧ w'.cell? ⟨w.heap.size + 1, 4, none⟩ = some (.bool false)) (first | exact ⟨d0, d1, d2, m0, m1, m2, m3, m4⟩ | exact ⟨e0, e1, e2, e3, e4, e5, e6, e7⟩ | exact ⟨(((Kept.refl No w3).alloc _).cell h3a (fun h => h)).trans e0, (((Kept.refl No w3).alloc _).cell h3a (fun h => h)).trans e1, (((Kept.refl No w3).alloc _).cell h3a (fun h => h)).trans e2, (((Kept.refl No w3).alloc _).cell h3b (fun h => h)).trans e3, (((Kept.refl No w3).alloc _).cell h3b (fun h => h)).trans e4, (((Kept.refl No w3).alloc _).cell h3b (fun h => h)).trans e5, (((Kept.refl No w3).alloc _).cell h3b (fun h => h)).trans e6, (((Kept.refl No w3).alloc _).cell h3b (fun h => h)).trans e7⟩)
    (first | (go_at_call 19; refine (HNA.out _).mono ?_; rintro e w3 ⟨a, rfl, k3, hal, ha⟩; have h3a : w.heap.size < w3.heap.size := lt_of_heap (k3.heap GI2.out (fun h => h)); have h3b : w.heap.size + 1 < w3.heap.size := lt_of_heap (k3.heap GT2.out (fun h => h)); have e0 := (k3.cell (o := 0) (lt_of_heap GI2.out) (fun h => h)).trans d0; have e1 := (k3.cell (o := 1) (lt_of_heap GI2.out) (fun h => h)).trans d1; have e2 := (k3.cell (o := 2) (lt_of_heap GI2.out) (fun h => h)).trans d2; have e3 := (k3.cell (o := 0) (lt_of_heap GT2.out) (fun h => h)).trans m0; have e4 := (k3.cell (o := 1) (lt_of_heap GT2.out) (fun h => h)).trans m1; have e5 := (k3.cell (o := 2) (lt_of_heap GT2.out) (fun h => h)).trans m2; have e6 := (k3.cell (o := 3) (lt_of_heap GT2.out) (fun h => h)).trans m3; have e7 := (k3.cell (o := 4) (lt_of_heap GT2.out) (fun h => h)).trans m4))
  clear d0 d1 d2 m0 m1 m2 m3 m4 e0 e1 e2 e3 e4 e5 e6 e7
  have k23 : Kept No w2 w3 := ((Kept.refl No w2).drew).trans k3
  have hal2 : w2.heap.size ≤ a := hal
  have hal3 := lt_of_heap ha
  have kx : Kept No w3 (w3.alloc (.cells #[.pointer (some ⟨a, 0, none⟩), .pointer (some ⟨p, 0, none⟩), .pointer hp, .int .i64 tw, .int .i64 wait, .int .i64 tries, .bool short, .bool false, .int .i64 0, .int .u8 0, .int .i64 0, .int .u8 0, .int .u16 0, .bool false, .string ByteArray.empty, .string ByteArray.empty, .slice none 0 0, .slice none 0 0, .slice none 0 0, .slice none 0 0, .slice none 0 0, .slice none 0 0, .pointer none, .pointer none, .bool false, .int .u8 i0, .int .u16 i1, .int .u32 i2, .int .u8 t, .int .i64 0, .int .i64 0, .slice none 0 0, .slice none 0 0, .int .i64 0, .int .i64 0] 102)) := (Kept.refl _ _).alloc _
  have gx := heap_alloc_new w3 (.cells #[.pointer (some ⟨a, 0, none⟩), .pointer (some ⟨p, 0, none⟩), .pointer hp, .int .i64 tw, .int .i64 wait, .int .i64 tries, .bool short, .bool false, .int .i64 0, .int .u8 0, .int .i64 0, .int .u8 0, .int .u16 0, .bool false, .string ByteArray.empty, .string ByteArray.empty, .slice none 0 0, .slice none 0 0, .slice none 0 0, .slice none 0 0, .slice none 0 0, .slice none 0 0, .pointer none, .pointer none, .bool false, .int .u8 i0, .int .u16 i1, .int .u32 i2, .int .u8 t, .int .i64 0, .int .i64 0, .slice none 0 0, .slice none 0 0, .int .i64 0, .int .i64 0] 102)
  have x0 := cell_of_row _ w3.heap.size 0 _ _ _ gx
  simp only [List.getElem?_toArray, List.getElem?_cons_zero] at x0
  have hw2 : w.heap.size + 1 + 1 < w2.heap.size := lt_of_heap GZ2.out
  have hw3 : w2.heap.size ≤ w3.heap.size := k23.size
  have tr := cell_of_row _ p 0 _ _ _ ((k23.trans kx).heap HG2.out (fun h => h))
  simp only [List.getElem?_toArray, List.getElem?_cons_zero] at tr
  have GZ4 := Lib.hid ((k23.trans kx).heap GZ2.out (fun h => h))
  have HA4 := Lib.hid (kx.heap ha (fun h => h))
  have K4 : Hid (Kept No w (w3.alloc (.cells #[.pointer (some ⟨a, 0, none⟩), .pointer (some ⟨p, 0, none⟩), .pointer hp, .int .i64 tw, .int .i64 wait, .int .i64 tries, .bool short, .bool false, .int .i64 0, .int .u8 0, .int .i64 0, .int .u8 0, .int .u16 0, .bool false, .string ByteArray.empty, .string ByteArray.empty, .slice none 0 0, .slice none 0 0, .slice none 0 0, .slice none 0 0, .slice none 0 0, .slice none 0 0, .pointer none, .pointer none, .bool false, .int .u8 i0, .int .u16 i1, .int .u32 i2, .int .u8 t, .int .i64 0, .int .i64 0, .slice none 0 0, .slice none 0 0, .int .i64 0, .int .i64 0] 102))) := Lib.hid (K2.out.trans (k23.trans kx))
  have GX := Lib.hid gx
  rw [HE.out]
  generalize w3.alloc (.cells #[.pointer (some ⟨a, 0, none⟩), .pointer (some ⟨p, 0, none⟩), .pointer hp, .int .i64 tw, .int .i64 wait, .int .i64 tries, .bool short, .bool false, .int .i64 0, .int .u8 0, .int .i64 0, .int .u8 0, .int .u16 0, .bool false, .string ByteArray.empty, .string ByteArray.empty, .slice none 0 0, .slice none 0 0, .slice none 0 0, .slice none 0 0, .slice none 0 0, .slice none 0 0, .pointer none, .pointer none, .bool false, .int .u8 i0, .int .u16 i1, .int .u32 i2, .int .u8 t, .int .i64 0, .int .i64 0, .slice none 0 0, .slice none 0 0, .int .i64 0, .int .i64 0] 102) = w4 at x0 tr GZ4 HA4 K4 GX ⊢
  have hax : a ≠ w3.heap.size := by omega
  have hxl : w.heap.size + 1 + 1 < w3.heap.size := by omega
  have hal4 : w.heap.size + 1 + 1 < a := by omega
  generalize w3.heap.size = x at x0 GX hax hxl ⊢
  clear k3 h3a h3b GI2 GT2 GZ2 HG2 K2 k23 kx gx ha hal hal2 hal3 hw2 hw3
  go_wp2_with fail
  rw [HE.out]
  have hea := reask_ok i0 i1 i2 f t wait tries n n1 n2 a x hax _ w4 HA4.out GX.out rfl (by simp) rfl
  unfold helloRow at hea
  refine hea.mono ?_
  rintro e w5 ⟨g, rfl, k5, hg5⟩
  have GZ5 := Lib.hid (k5.heap GZ4.out (by omega))
  have K5 : Hid (Kept No w w5) := Lib.hid (K4.out.next k5 (fun j hj h => by omega))
  have hx5 := k5.size
  have G5 := Lib.hid hg5
  have r0 := cell_of_row w5 g 0 _ _ _ hg5
  have r1 := cell_of_row w5 g 1 _ _ _ hg5
  have r2 := cell_of_row w5 g 2 _ _ _ hg5
  have r3 := cell_of_row w5 g 3 _ _ _ hg5
  have r4 := cell_of_row w5 g 4 _ _ _ hg5
  have r5 := cell_of_row w5 g 5 _ _ _ hg5
  have r6 := cell_of_row w5 g 6 _ _ _ hg5
  have r7 := cell_of_row w5 g 7 _ _ _ hg5
  have r8 := cell_of_row w5 g 8 _ _ _ hg5
  simp only [List.getElem?_toArray, List.getElem?_cons_zero, List.getElem?_cons_succ] at r0 r1 r2 r3 r4 r5 r6 r7 r8
  have GZD : Hid (w5.drew.heap[w.heap.size + 1 + 1]? = some (.cells #[.int .u8 0, .int .u8 0, .int .u8 0, .int .u16 0, .int .u32 0, .int .u64 0, .int .u32 0, .bool false, .string ByteArray.empty] 38 (0, 0))) := Lib.hid GZ5.out
  clear hea k5 hg5 GX HA4 K4 GZ4 x0 tr
  go_wp2_with fail
  go_still_tail 5, (by kernel_rfl)
  repeat still_step
  change wpList _ _ _ _ _ w5.drew
  go_wp2_with (refine wpList_store_row (by rfl) 38 (.tmp 13) (.tmp 99) (by rfl) (w.heap.size + 1 + 1) 38 #[.int .u8 0, .int .u8 0, .int .u8 0, .int .u16 0, .int .u32 0, .int .u64 0, .int .u32 0, .bool false, .string ByteArray.empty] #[.int .u8 f, .int .u8 t, .int .u8 i0, .int .u16 i1, .int .u32 i2, .int .u64 0, .int .u32 1, .bool false, .string ⟨#[1, UInt8.ofNat n]⟩] (by rfl) (by rfl) GZD.out (by kernel_rfl) (by rfl) (by kernel_rfl) ?_)
  refine bodyPost_ret (results_mid rfl _ _ _ _ _ _ _ rfl (setRow_heap _ _ _ _ _ _ GZD.out) Tryz.underlying38 rfl (by kernel_rfl)) rfl ?_
  exact ⟨_, rfl, (K5.out.drew).setRow _ _ (fun h => absurd h (by omega))⟩

set_option maxHeartbeats 4000000 in
theorem rstart_good_true (i0 i1 i2 f t tw wait tries : Int) (short : Bool) (s : Nat) (n : Nat) (n1 : 1 ≤ n) (n2 : n ≤ 32) (p : Nat) (w : World) (f1 : 1 ≤ f) (f2 : f ≤ 5) (t1 : 1 ≤ t) (t2 : t ≤ 5) (b3 : (f == t) = false) (b4 : (i0 != f) = false) (b5 : (i1 == 0) = false) (b6 : (i2 == 0) = false) (b7 : (tw != (n : Int)) = false) (q1 : 1 ≤ wait) (q2 : wait ≤ 1000) (q3 : 1 ≤ tries) (q4 : tries ≤ 16) (ht : w.heap[p]? = some (.cells #[.int .i64 (n : Int), .slice none 0 0, .slice none 0 0] 68 (0, 0))) :
    Calls Tryz.prog 6 #[idRow i0 i1 i2, .int .u8 f, .int .u8 t, .pointer (some ⟨p, 0, none⟩), .pointer (some ⟨s, 0, none⟩), termRow tw wait tries short true] w fun e w' => ∃ a, e = .returned (.tuple #[.pointer (some ⟨a, 0, none⟩), .agg (frameRow i0 i1 i2 f t 1 ⟨#[1, UInt8.ofNat n]⟩), .int .i64 0]) ∧ Kept No w w' := by
  unfold idRow termRow
  have HT := Lib.hid ht
  clear ht
  go_enter Tryz.func6, Tryz.ntmps6
  go_wp2_with fail
  refine (rrep_yes f f1 f2 _).mono ?_
  rintro e w' ⟨rfl, rfl⟩
  go_wp2_with fail
  refine (rrep_yes t t1 t2 _).mono ?_
  rintro e w' ⟨rfl, rfl⟩
  go_wp2_with fail
  have e0 : (Value.string { data := #[] }) = .string ByteArray.empty := rfl
  rw [e0]
  have HE := Lib.hid e0
  clear e0
  have gi := box3a w (.cells #[.int .u8 i0, .int .u16 i1, .int .u32 i2] 25) (.cells #[.int .i64 tw, .int .i64 wait, .int .i64 tries, .bool short, .bool true] 27) (.cells #[.int .u8 0, .int .u8 0, .int .u8 0, .int .u16 0, .int .u32 0, .int .u64 0, .int .u32 0, .bool false, .string ByteArray.empty] 38)
  have gt := box3b w (.cells #[.int .u8 i0, .int .u16 i1, .int .u32 i2] 25) (.cells #[.int .i64 tw, .int .i64 wait, .int .i64 tries, .bool short, .bool true] 27) (.cells #[.int .u8 0, .int .u8 0, .int .u8 0, .int .u16 0, .int .u32 0, .int .u64 0, .int .u32 0, .bool false, .string ByteArray.empty] 38)
  have gz := start_box w (.cells #[.int .u8 i0, .int .u16 i1, .int .u32 i2] 25) (.cells #[.int .i64 tw, .int .i64 wait, .int .i64 tries, .bool short, .bool true] 27) (.cells #[.int .u8 0, .int .u8 0, .int .u8 0, .int .u16 0, .int .u32 0, .int .u64 0, .int .u32 0, .bool false, .string ByteArray.empty] 38)
  have k1 : Kept No w (((w.alloc (.cells #[.int .u8 i0, .int .u16 i1, .int .u32 i2] 25)).alloc (.cells #[.int .i64 tw, .int .i64 wait, .int .i64 tries, .bool short, .bool true] 27)).alloc (.cells #[.int .u8 0, .int .u8 0, .int .u8 0, .int .u16 0, .int .u32 0, .int .u64 0, .int .u32 0, .bool false, .string ByteArray.empty] 38)) := (((Kept.refl _ _).alloc _).alloc _).alloc _
  have hg := k1.heap HT.out (fun h => h)
  generalize (((w.alloc (.cells #[.int .u8 i0, .int .u16 i1, .int .u32 i2] 25)).alloc (.cells #[.int .i64 tw, .int .i64 wait, .int .i64 tries, .bool short, .bool true] 27)).alloc (.cells #[.int .u8 0, .int .u8 0, .int .u8 0, .int .u16 0, .int .u32 0, .int .u64 0, .int .u32 0, .bool false, .string ByteArray.empty] 38)) = w1 at gi gt gz k1 hg ⊢
  have tm0 := cell_in (M := No) (o := 0) gt (fun h => h) rfl
  have tr0 := cell_in (M := No) (o := 0) hg (fun h => h) rfl
  have GI := Lib.hid gi
  have GT := Lib.hid gt
  have GZ := Lib.hid gz
  have K1 := Lib.hid k1
  have HG := Lib.hid hg
  have hpl := lt_of_heap HT.out
  clear gi gt gz k1 hg
  refine wp_region_in (Kept No w1) (by kernel_rfl) (by kernel_rfl) ((Kept.refl _ _).drew) ?_
  repeat (go_big_quiet_step (fail))
  refine wpQuiet_nil ?_
  intro w2 hw'
  obtain ⟨⟨wx, k2⟩, hw''⟩ := hw'
  change w2 = wx at hw''
  subst hw''
  have GZ2 := Lib.hid (k2.heap GZ.out (fun h => h))
  have GI2 := Lib.hid (k2.heap GI.out (fun h => h))
  have GT2 := Lib.hid (k2.heap GT.out (fun h => h))
  have HG2 := Lib.hid (k2.heap HG.out (fun h => h))
  have K2 : Hid (Kept No w w2) := Lib.hid (K1.out.trans k2)
  have d0 := cell_of_row w2 _ 0 _ _ _ GI2.out
  have d1 := cell_of_row w2 _ 1 _ _ _ GI2.out
  have d2 := cell_of_row w2 _ 2 _ _ _ GI2.out
  have m0 := cell_of_row w2 _ 0 _ _ _ GT2.out
  have m1 := cell_of_row w2 _ 1 _ _ _ GT2.out
  have m2 := cell_of_row w2 _ 2 _ _ _ GT2.out
  have m3 := cell_of_row w2 _ 3 _ _ _ GT2.out
  have m4 := cell_of_row w2 _ 4 _ _ _ GT2.out
  simp only [List.getElem?_toArray, List.getElem?_cons_zero, List.getElem?_cons_succ] at d0 d1 d2 m0 m1 m2 m3 m4
  clear tm0 tr0 k2 GI GT GZ K1 HG
  have hna := fun w => rnewasker_ok i0 i1 i2 f t wait tries q1 q2 q3 q4 w
  unfold idRow at hna
  have HNA := Lib.hid hna
  clear hna
  go_wp2_with fail
  go_region_held3 (fun w' => w'.cell? ⟨w.heap.size, 0, none⟩ = some (.int .u8 i0) ∧ w'.cell? ⟨w.heap.size, 1, none⟩ = some (.int .u16 i1) ∧ w'.cell? ⟨w.heap.size, 2, none⟩ = some (.int .u32 i2) ∧ w'.cell? ⟨w.heap.size + 1, 0, none⟩ = some (.int .i64 tw) ∧ w'.cell? ⟨w.heap.size + 1, 1, none⟩ = some (.int .i64 wait) ∧ w'.cell? ⟨w.heap.size + 1, 2, none⟩ = some (.int .i64 tries) ∧ w'.cell? ⟨w.heap.size + 1, 3, none⟩ = some (.bool short) ∧ w'.cell? ⟨w.heap.size + 1, 4, none⟩ = some (.bool true)) (first | exact ⟨d0, d1, d2, m0, m1, m2, m3, m4⟩ | exact ⟨e0, e1, e2, e3, e4, e5, e6, e7⟩ | exact ⟨(((Kept.refl No w3).alloc _).cell h3a (fun h => h)).trans e0, (((Kept.refl No w3).alloc _).cell h3a (fun h => h)).trans e1, (((Kept.refl No w3).alloc _).cell h3a (fun h => h)).trans e2, (((Kept.refl No w3).alloc _).cell h3b (fun h => h)).trans e3, (((Kept.refl No w3).alloc _).cell h3b (fun h => h)).trans e4, (((Kept.refl No w3).alloc _).cell h3b (fun h => h)).trans e5, (((Kept.refl No w3).alloc _).cell h3b (fun h => h)).trans e6, (((Kept.refl No w3).alloc _).cell h3b (fun h => h)).trans e7⟩)
    (first | (go_at_call 19; refine (HNA.out _).mono ?_; rintro e w3 ⟨a, rfl, k3, hal, ha⟩; have h3a : w.heap.size < w3.heap.size := lt_of_heap (k3.heap GI2.out (fun h => h)); have h3b : w.heap.size + 1 < w3.heap.size := lt_of_heap (k3.heap GT2.out (fun h => h)); have e0 := (k3.cell (o := 0) (lt_of_heap GI2.out) (fun h => h)).trans d0; have e1 := (k3.cell (o := 1) (lt_of_heap GI2.out) (fun h => h)).trans d1; have e2 := (k3.cell (o := 2) (lt_of_heap GI2.out) (fun h => h)).trans d2; have e3 := (k3.cell (o := 0) (lt_of_heap GT2.out) (fun h => h)).trans m0; have e4 := (k3.cell (o := 1) (lt_of_heap GT2.out) (fun h => h)).trans m1; have e5 := (k3.cell (o := 2) (lt_of_heap GT2.out) (fun h => h)).trans m2; have e6 := (k3.cell (o := 3) (lt_of_heap GT2.out) (fun h => h)).trans m3; have e7 := (k3.cell (o := 4) (lt_of_heap GT2.out) (fun h => h)).trans m4))
  clear d0 d1 d2 m0 m1 m2 m3 m4 e0 e1 e2 e3 e4 e5 e6 e7
  have k23 : Kept No w2 w3 := ((Kept.refl No w2).drew).trans k3
  have hal2 : w2.heap.size ≤ a := hal
  have hal3 := lt_of_heap ha
  have kx : Kept No w3 (w3.alloc (.cells #[.pointer (some ⟨a, 0, none⟩), .pointer (some ⟨p, 0, none⟩), .pointer (some ⟨s, 0, none⟩), .int .i64 tw, .int .i64 wait, .int .i64 tries, .bool short, .bool true, .int .i64 0, .int .u8 0, .int .i64 0, .int .u8 0, .int .u16 0, .bool false, .string ByteArray.empty, .string ByteArray.empty, .slice none 0 0, .slice none 0 0, .slice none 0 0, .slice none 0 0, .slice none 0 0, .slice none 0 0, .pointer none, .pointer none, .bool false, .int .u8 i0, .int .u16 i1, .int .u32 i2, .int .u8 t, .int .i64 0, .int .i64 0, .slice none 0 0, .slice none 0 0, .int .i64 0, .int .i64 0] 102)) := (Kept.refl _ _).alloc _
  have gx := heap_alloc_new w3 (.cells #[.pointer (some ⟨a, 0, none⟩), .pointer (some ⟨p, 0, none⟩), .pointer (some ⟨s, 0, none⟩), .int .i64 tw, .int .i64 wait, .int .i64 tries, .bool short, .bool true, .int .i64 0, .int .u8 0, .int .i64 0, .int .u8 0, .int .u16 0, .bool false, .string ByteArray.empty, .string ByteArray.empty, .slice none 0 0, .slice none 0 0, .slice none 0 0, .slice none 0 0, .slice none 0 0, .slice none 0 0, .pointer none, .pointer none, .bool false, .int .u8 i0, .int .u16 i1, .int .u32 i2, .int .u8 t, .int .i64 0, .int .i64 0, .slice none 0 0, .slice none 0 0, .int .i64 0, .int .i64 0] 102)
  have x0 := cell_of_row _ w3.heap.size 0 _ _ _ gx
  simp only [List.getElem?_toArray, List.getElem?_cons_zero] at x0
  have hw2 : w.heap.size + 1 + 1 < w2.heap.size := lt_of_heap GZ2.out
  have hw3 : w2.heap.size ≤ w3.heap.size := k23.size
  have tr := cell_of_row _ p 0 _ _ _ ((k23.trans kx).heap HG2.out (fun h => h))
  simp only [List.getElem?_toArray, List.getElem?_cons_zero] at tr
  have GZ4 := Lib.hid ((k23.trans kx).heap GZ2.out (fun h => h))
  have HA4 := Lib.hid (kx.heap ha (fun h => h))
  have K4 : Hid (Kept No w (w3.alloc (.cells #[.pointer (some ⟨a, 0, none⟩), .pointer (some ⟨p, 0, none⟩), .pointer (some ⟨s, 0, none⟩), .int .i64 tw, .int .i64 wait, .int .i64 tries, .bool short, .bool true, .int .i64 0, .int .u8 0, .int .i64 0, .int .u8 0, .int .u16 0, .bool false, .string ByteArray.empty, .string ByteArray.empty, .slice none 0 0, .slice none 0 0, .slice none 0 0, .slice none 0 0, .slice none 0 0, .slice none 0 0, .pointer none, .pointer none, .bool false, .int .u8 i0, .int .u16 i1, .int .u32 i2, .int .u8 t, .int .i64 0, .int .i64 0, .slice none 0 0, .slice none 0 0, .int .i64 0, .int .i64 0] 102))) := Lib.hid (K2.out.trans (k23.trans kx))
  have GX := Lib.hid gx
  rw [HE.out]
  generalize w3.alloc (.cells #[.pointer (some ⟨a, 0, none⟩), .pointer (some ⟨p, 0, none⟩), .pointer (some ⟨s, 0, none⟩), .int .i64 tw, .int .i64 wait, .int .i64 tries, .bool short, .bool true, .int .i64 0, .int .u8 0, .int .i64 0, .int .u8 0, .int .u16 0, .bool false, .string ByteArray.empty, .string ByteArray.empty, .slice none 0 0, .slice none 0 0, .slice none 0 0, .slice none 0 0, .slice none 0 0, .slice none 0 0, .pointer none, .pointer none, .bool false, .int .u8 i0, .int .u16 i1, .int .u32 i2, .int .u8 t, .int .i64 0, .int .i64 0, .slice none 0 0, .slice none 0 0, .int .i64 0, .int .i64 0] 102) = w4 at x0 tr GZ4 HA4 K4 GX ⊢
  have hax : a ≠ w3.heap.size := by omega
  have hxl : w.heap.size + 1 + 1 < w3.heap.size := by omega
  have hal4 : w.heap.size + 1 + 1 < a := by omega
  generalize w3.heap.size = x at x0 GX hax hxl ⊢
  clear k3 h3a h3b GI2 GT2 GZ2 HG2 K2 k23 kx gx ha hal hal2 hal3 hw2 hw3
  go_wp2_with fail
  rw [HE.out]
  have hea := reask_ok i0 i1 i2 f t wait tries n n1 n2 a x hax _ w4 HA4.out GX.out rfl (by simp) rfl
  unfold helloRow at hea
  refine hea.mono ?_
  rintro e w5 ⟨g, rfl, k5, hg5⟩
  have GZ5 := Lib.hid (k5.heap GZ4.out (by omega))
  have K5 : Hid (Kept No w w5) := Lib.hid (K4.out.next k5 (fun j hj h => by omega))
  have hx5 := k5.size
  have G5 := Lib.hid hg5
  have r0 := cell_of_row w5 g 0 _ _ _ hg5
  have r1 := cell_of_row w5 g 1 _ _ _ hg5
  have r2 := cell_of_row w5 g 2 _ _ _ hg5
  have r3 := cell_of_row w5 g 3 _ _ _ hg5
  have r4 := cell_of_row w5 g 4 _ _ _ hg5
  have r5 := cell_of_row w5 g 5 _ _ _ hg5
  have r6 := cell_of_row w5 g 6 _ _ _ hg5
  have r7 := cell_of_row w5 g 7 _ _ _ hg5
  have r8 := cell_of_row w5 g 8 _ _ _ hg5
  simp only [List.getElem?_toArray, List.getElem?_cons_zero, List.getElem?_cons_succ] at r0 r1 r2 r3 r4 r5 r6 r7 r8
  have GZD : Hid (w5.drew.heap[w.heap.size + 1 + 1]? = some (.cells #[.int .u8 0, .int .u8 0, .int .u8 0, .int .u16 0, .int .u32 0, .int .u64 0, .int .u32 0, .bool false, .string ByteArray.empty] 38 (0, 0))) := Lib.hid GZ5.out
  clear hea k5 hg5 GX HA4 K4 GZ4 x0 tr
  go_wp2_with fail
  go_still_tail 5, (by kernel_rfl)
  repeat still_step
  change wpList _ _ _ _ _ w5.drew
  go_wp2_with (refine wpList_store_row (by rfl) 38 (.tmp 13) (.tmp 99) (by rfl) (w.heap.size + 1 + 1) 38 #[.int .u8 0, .int .u8 0, .int .u8 0, .int .u16 0, .int .u32 0, .int .u64 0, .int .u32 0, .bool false, .string ByteArray.empty] #[.int .u8 f, .int .u8 t, .int .u8 i0, .int .u16 i1, .int .u32 i2, .int .u64 0, .int .u32 1, .bool false, .string ⟨#[1, UInt8.ofNat n]⟩] (by rfl) (by rfl) GZD.out (by kernel_rfl) (by rfl) (by kernel_rfl) ?_)
  refine bodyPost_ret (results_mid rfl _ _ _ _ _ _ _ rfl (setRow_heap _ _ _ _ _ _ GZD.out) Tryz.underlying38 rfl (by kernel_rfl)) rfl ?_
  exact ⟨_, rfl, (K5.out.drew).setRow _ _ (fun h => absurd h (by omega))⟩
end Go.Proofs.YtpkadglempbjiaaGreat
