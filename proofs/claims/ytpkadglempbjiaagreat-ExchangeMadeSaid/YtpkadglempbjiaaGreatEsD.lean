/- exchange.Start: a session begins. -/
import Derived.Test.YtpkadglempbjiaaGreatEsC
namespace Go.Proofs.YtpkadglempbjiaaGreat
open Go.RowKit Go.Lib
set_option linter.unusedVariables false
set_option linter.unusedSimpArgs false
set_option maxRecDepth 100000

set_option maxHeartbeats 4000000 in
theorem start_good_false (i0 i1 i2 f t tw wait tries : Int) (short : Bool) (s : Nat) (n : Nat) (n1 : 1 ≤ n) (n2 : n ≤ 32) (p : Nat) (w : World) (f1 : 1 ≤ f) (f2 : f ≤ 5) (t1 : 1 ≤ t) (t2 : t ≤ 5) (b3 : (f == t) = false) (b4 : (i0 != f) = false) (b5 : (i1 == 0) = false) (b6 : (i2 == 0) = false) (b7 : (tw != (n : Int)) = false) (q1 : 1 ≤ wait) (q2 : wait ≤ 1000) (q3 : 1 ≤ tries) (q4 : tries ≤ 16) (ht : w.heap[p]? = some (.cells (treeRow n) 80 (0, 0))) :
    Calls Tryz.prog 7 #[idRow i0 i1 i2, .int .u8 f, .int .u8 t, .pointer (some ⟨p, 0, none⟩), .iface 41 (.pointer (some ⟨s, 0, none⟩)), termRow tw wait tries short false] w fun e w' => ∃ a, e = .returned (.tuple #[.pointer (some ⟨a, 0, none⟩), .agg (frameRow i0 i1 i2 f t 1 ⟨#[1, UInt8.ofNat n]⟩), .int .i64 0]) ∧ Kept No w w' := by
  unfold idRow termRow
  have HT := Lib.hid ht
  clear ht
  go_enter Tryz.func7, Tryz.ntmps7
  go_wp2_with fail
  refine (rep_yes f f1 f2 _).mono ?_
  rintro e w' ⟨rfl, rfl⟩
  go_wp2_with fail
  refine (rep_yes t t1 t2 _).mono ?_
  rintro e w' ⟨rfl, rfl⟩
  go_wp2_with fail
  have e0 : (Value.string { data := #[] }) = .string ByteArray.empty := rfl
  rw [e0]
  have HE := Lib.hid e0
  clear e0
  have gi := box3a w (.cells #[.int .u8 i0, .int .u16 i1, .int .u32 i2] 25) (.cells #[.int .i64 tw, .int .i64 wait, .int .i64 tries, .bool short, .bool false] 27) (.cells #[.int .u8 0, .int .u8 0, .int .u8 0, .int .u16 0, .int .u32 0, .int .u64 0, .int .u32 0, .bool false, .string ByteArray.empty] 38)
  have gt := box3b w (.cells #[.int .u8 i0, .int .u16 i1, .int .u32 i2] 25) (.cells #[.int .i64 tw, .int .i64 wait, .int .i64 tries, .bool short, .bool false] 27) (.cells #[.int .u8 0, .int .u8 0, .int .u8 0, .int .u16 0, .int .u32 0, .int .u64 0, .int .u32 0, .bool false, .string ByteArray.empty] 38)
  have gz := start_box w (.cells #[.int .u8 i0, .int .u16 i1, .int .u32 i2] 25) (.cells #[.int .i64 tw, .int .i64 wait, .int .i64 tries, .bool short, .bool false] 27) (.cells #[.int .u8 0, .int .u8 0, .int .u8 0, .int .u16 0, .int .u32 0, .int .u64 0, .int .u32 0, .bool false, .string ByteArray.empty] 38)
  have k1 : Kept No w (((w.alloc (.cells #[.int .u8 i0, .int .u16 i1, .int .u32 i2] 25)).alloc (.cells #[.int .i64 tw, .int .i64 wait, .int .i64 tries, .bool short, .bool false] 27)).alloc (.cells #[.int .u8 0, .int .u8 0, .int .u8 0, .int .u16 0, .int .u32 0, .int .u64 0, .int .u32 0, .bool false, .string ByteArray.empty] 38)) := (((Kept.refl _ _).alloc _).alloc _).alloc _
  have hg := k1.heap HT.out (fun h => h)
  generalize (((w.alloc (.cells #[.int .u8 i0, .int .u16 i1, .int .u32 i2] 25)).alloc (.cells #[.int .i64 tw, .int .i64 wait, .int .i64 tries, .bool short, .bool false] 27)).alloc (.cells #[.int .u8 0, .int .u8 0, .int .u8 0, .int .u16 0, .int .u32 0, .int .u64 0, .int .u32 0, .bool false, .string ByteArray.empty] 38)) = w1 at gi gt gz k1 hg ⊢
  have HTI : Hid (∀ q : InC (Kept No w1), q.world.heap[p]? = some (.cells (treeRow n) 80 (0, 0))) := Lib.hid (fun q => q.here.heap hg (fun h => h))
  have tm0 := cell_in (M := No) (o := 0) gt (fun h => h) rfl
  have GI := Lib.hid gi
  have GT := Lib.hid gt
  have GZ := Lib.hid gz
  have K1 := Lib.hid k1
  have HG := Lib.hid hg
  have hpl := lt_of_heap HT.out
  clear gi gt gz k1 hg
  refine wp_region_in (Kept No w1) (by kernel_rfl) (by kernel_rfl) ((Kept.refl _ _).drew) ?_
  repeat (go_big_quiet_step (((go_at_call 22; exact in_same (twidth_ok n p (0, 0) _ (HTI.out _))))))
  refine wpQuiet_nil ?_
  intro w2 hw'
  obtain ⟨⟨wx, k2⟩, hw''⟩ := hw'
  change w2 = wx at hw''
  subst hw''
  have GZ2 := Lib.hid (k2.heap GZ.out (fun h => h))
  have gi2 := k2.heap GI.out (fun h => h)
  have gt2 := k2.heap GT.out (fun h => h)
  have HG2 := Lib.hid (k2.heap HG.out (fun h => h))
  have K2 : Hid (Kept No w w2) := Lib.hid (K1.out.trans k2)
  have d0 := cell_of_row w2 _ 0 _ _ _ gi2
  have d1 := cell_of_row w2 _ 1 _ _ _ gi2
  have d2 := cell_of_row w2 _ 2 _ _ _ gi2
  have m0 := cell_of_row w2 _ 0 _ _ _ gt2
  have m1 := cell_of_row w2 _ 1 _ _ _ gt2
  have m2 := cell_of_row w2 _ 2 _ _ _ gt2
  have m3 := cell_of_row w2 _ 3 _ _ _ gt2
  have m4 := cell_of_row w2 _ 4 _ _ _ gt2
  simp only [List.getElem?_toArray, List.getElem?_cons_zero, List.getElem?_cons_succ] at d0 d1 d2 m0 m1 m2 m3 m4
  have GI2 := Lib.hid gi2
  have GT2 := Lib.hid gt2
  clear tm0 k2 GI GT GZ K1 HG HTI gi2 gt2
  go_wp2_with fail
  have hna := fun w => newasker_ok i0 i1 i2 f t wait tries q1 q2 q3 q4 w
  unfold idRow at hna
  refine (hna _).mono ?_
  rintro e w3 ⟨a, rfl, k3, hal, ha⟩
  have hal3 := lt_of_heap ha
  have GZ3 := Lib.hid (k3.heap GZ2.out (fun h => h))
  have gi3 := k3.heap GI2.out (fun h => h)
  have gt3 := k3.heap GT2.out (fun h => h)
  have HG3 := Lib.hid (k3.heap HG2.out (fun h => h))
  have HA3 := Lib.hid ha
  have K3 : Hid (Kept No w w3) := Lib.hid (K2.out.trans k3)
  have hw3 : w.heap.size + 1 + 1 < w3.heap.size := lt_of_heap GZ3.out
  have hal' : w.heap.size + 1 + 1 < a := by have := lt_of_heap GZ2.out; omega
  clear d0 d1 d2 m0 m1 m2 m3 m4
  have d0 := cell_of_row w3 _ 0 _ _ _ gi3
  have d1 := cell_of_row w3 _ 1 _ _ _ gi3
  have d2 := cell_of_row w3 _ 2 _ _ _ gi3
  have m0 := cell_of_row w3 _ 0 _ _ _ gt3
  have m1 := cell_of_row w3 _ 1 _ _ _ gt3
  have m2 := cell_of_row w3 _ 2 _ _ _ gt3
  have m3 := cell_of_row w3 _ 3 _ _ _ gt3
  have m4 := cell_of_row w3 _ 4 _ _ _ gt3
  simp only [List.getElem?_toArray, List.getElem?_cons_zero, List.getElem?_cons_succ] at d0 d1 d2 m0 m1 m2 m3 m4
  clear hna k3 K2 GZ2 HG2 GI2 GT2 gi3 gt3 ha hal
  go_wp2_with fail
  have gx := heap_alloc_new w3 (.cells #[.pointer (some ⟨a, 0, none⟩), .pointer (some ⟨p, 0, none⟩), .iface 41 (.pointer (some ⟨s, 0, none⟩)), .int .i64 tw, .int .i64 wait, .int .i64 tries, .bool short, .bool false, .int .i64 0, .int .u8 0, .pointer none, .pointer none, .bool false, .int .u8 i0, .int .u16 i1, .int .u32 i2, .int .u8 t, .int .i64 0, .int .i64 0, .slice none 0 0, .slice none 0 0, .int .i64 0, .int .i64 0] 114)
  have kx : Kept No w3 (w3.alloc (.cells #[.pointer (some ⟨a, 0, none⟩), .pointer (some ⟨p, 0, none⟩), .iface 41 (.pointer (some ⟨s, 0, none⟩)), .int .i64 tw, .int .i64 wait, .int .i64 tries, .bool short, .bool false, .int .i64 0, .int .u8 0, .pointer none, .pointer none, .bool false, .int .u8 i0, .int .u16 i1, .int .u32 i2, .int .u8 t, .int .i64 0, .int .i64 0, .slice none 0 0, .slice none 0 0, .int .i64 0, .int .i64 0] 114)) := (Kept.refl _ _).alloc _
  have HG4 := Lib.hid (kx.heap HG3.out (fun h => h))
  have HA4 := Lib.hid (kx.heap HA3.out (fun h => h))
  have GZ4 := Lib.hid (kx.heap GZ3.out (fun h => h))
  have K4 : Hid (Kept No w (w3.alloc (.cells #[.pointer (some ⟨a, 0, none⟩), .pointer (some ⟨p, 0, none⟩), .iface 41 (.pointer (some ⟨s, 0, none⟩)), .int .i64 tw, .int .i64 wait, .int .i64 tries, .bool short, .bool false, .int .i64 0, .int .u8 0, .pointer none, .pointer none, .bool false, .int .u8 i0, .int .u16 i1, .int .u32 i2, .int .u8 t, .int .i64 0, .int .i64 0, .slice none 0 0, .slice none 0 0, .int .i64 0, .int .i64 0] 114))) := Lib.hid (K3.out.trans kx)
  generalize w3.alloc (.cells #[.pointer (some ⟨a, 0, none⟩), .pointer (some ⟨p, 0, none⟩), .iface 41 (.pointer (some ⟨s, 0, none⟩)), .int .i64 tw, .int .i64 wait, .int .i64 tries, .bool short, .bool false, .int .i64 0, .int .u8 0, .pointer none, .pointer none, .bool false, .int .u8 i0, .int .u16 i1, .int .u32 i2, .int .u8 t, .int .i64 0, .int .i64 0, .slice none 0 0, .slice none 0 0, .int .i64 0, .int .i64 0] 114) = w4 at gx kx HG4 HA4 GZ4 K4 ⊢
  have hx3 : w.heap.size + 1 + 1 < w3.heap.size := hw3
  have hax : a ≠ w3.heap.size := by omega
  generalize w3.heap.size = x at gx hx3 hax ⊢
  have GX := Lib.hid gx
  clear gx kx HG3 HA3 GZ3 K3 d0 d1 d2 m0 m1 m2 m3 m4 hw3 hal3
  refine (twidth_ok n p (0, 0) _ HG4.out).mono ?_
  rintro e w' ⟨rfl, rfl⟩
  go_wp2_with fail
  rw [HE.out]
  have hea := eask_ok i0 i1 i2 f t wait tries n n1 n2 a x hax _ w4 HA4.out GX.out rfl rfl rfl
  unfold helloRow at hea
  refine hea.mono ?_
  rintro e w5 ⟨g, rfl, k5, hg5⟩
  have GZ5 := Lib.hid (k5.heap GZ4.out (by omega))
  have K5 : Hid (Kept No w w5) := Lib.hid (K4.out.next k5 (fun j hj h => by omega))
  unfold frameRow at hg5
  have G5 := Lib.hid hg5
  have r0 := cell_of_row w5 g 0 _ _ _ hg5
  have r1 := cell_of_row w5 g 1 _ _ _ hg5
  have r2 := cell_of_row w5 g 2 _ _ _ hg5
  have r3 := cell_of_row w5 g 3 _ _ _ hg5
  have r4 := cell_of_row w5 g 4 _ _ _ hg5
  have r5 := cell_of_row w5 g 5 _ _ _ hg5
  have r6 := cell_of_row w5 g 6 _ _ _ hg5
  have r7 := cell_of_row w5 g 7 _ _ _ hg5
  have r8 := cell_of_row w5 g 8 _ _ _ hg5
  simp only [List.getElem?_toArray, List.getElem?_cons_zero, List.getElem?_cons_succ] at r0 r1 r2 r3 r4 r5 r6 r7 r8
  have GZD : Hid (w5.drew.heap[w.heap.size + 1 + 1]? = some (.cells #[.int .u8 0, .int .u8 0, .int .u8 0, .int .u16 0, .int .u32 0, .int .u64 0, .int .u32 0, .bool false, .string ByteArray.empty] 38 (0, 0))) := Lib.hid GZ5.out
  clear hea k5 hg5 GX HA4 HG4 K4 GZ4
  go_wp2_with fail
  go_still_tail 5, (by kernel_rfl)
  repeat still_step
  change wpList _ _ _ _ _ w5.drew
  go_wp2_with (refine wpList_store_row (by rfl) 38 (.tmp 13) (.tmp 111) (by rfl) (w.heap.size + 1 + 1) 38 #[.int .u8 0, .int .u8 0, .int .u8 0, .int .u16 0, .int .u32 0, .int .u64 0, .int .u32 0, .bool false, .string ByteArray.empty] #[.int .u8 f, .int .u8 t, .int .u8 i0, .int .u16 i1, .int .u32 i2, .int .u64 0, .int .u32 1, .bool false, .string ⟨#[1, UInt8.ofNat n]⟩] (by rfl) (by rfl) GZD.out (by kernel_rfl) (by rfl) (by kernel_rfl) ?_)
  refine bodyPost_ret (results_mid rfl _ _ _ _ _ _ _ rfl (setRow_heap _ _ _ _ _ _ GZD.out) Tryz.underlying38 rfl (by kernel_rfl)) rfl ?_
  exact ⟨_, rfl, (K5.out.drew).setRow _ _ (fun h => absurd h (by omega))⟩

set_option maxHeartbeats 4000000 in
theorem start_good_nil (i0 i1 i2 f t tw wait tries : Int) (short : Bool) (n : Nat) (n1 : 1 ≤ n) (n2 : n ≤ 32) (p : Nat) (w : World) (f1 : 1 ≤ f) (f2 : f ≤ 5) (t1 : 1 ≤ t) (t2 : t ≤ 5) (b3 : (f == t) = false) (b4 : (i0 != f) = false) (b5 : (i1 == 0) = false) (b6 : (i2 == 0) = false) (b7 : (tw != (n : Int)) = false) (q1 : 1 ≤ wait) (q2 : wait ≤ 1000) (q3 : 1 ≤ tries) (q4 : tries ≤ 16) (ht : w.heap[p]? = some (.cells (treeRow n) 80 (0, 0))) :
    Calls Tryz.prog 7 #[idRow i0 i1 i2, .int .u8 f, .int .u8 t, .pointer (some ⟨p, 0, none⟩), .nilIface, termRow tw wait tries short false] w fun e w' => ∃ a, e = .returned (.tuple #[.pointer (some ⟨a, 0, none⟩), .agg (frameRow i0 i1 i2 f t 1 ⟨#[1, UInt8.ofNat n]⟩), .int .i64 0]) ∧ Kept No w w' := by
  unfold idRow termRow
  have HT := Lib.hid ht
  clear ht
  go_enter Tryz.func7, Tryz.ntmps7
  go_wp2_with fail
  refine (rep_yes f f1 f2 _).mono ?_
  rintro e w' ⟨rfl, rfl⟩
  go_wp2_with fail
  refine (rep_yes t t1 t2 _).mono ?_
  rintro e w' ⟨rfl, rfl⟩
  go_wp2_with fail
  have e0 : (Value.string { data := #[] }) = .string ByteArray.empty := rfl
  rw [e0]
  have HE := Lib.hid e0
  clear e0
  have gi := box3a w (.cells #[.int .u8 i0, .int .u16 i1, .int .u32 i2] 25) (.cells #[.int .i64 tw, .int .i64 wait, .int .i64 tries, .bool short, .bool false] 27) (.cells #[.int .u8 0, .int .u8 0, .int .u8 0, .int .u16 0, .int .u32 0, .int .u64 0, .int .u32 0, .bool false, .string ByteArray.empty] 38)
  have gt := box3b w (.cells #[.int .u8 i0, .int .u16 i1, .int .u32 i2] 25) (.cells #[.int .i64 tw, .int .i64 wait, .int .i64 tries, .bool short, .bool false] 27) (.cells #[.int .u8 0, .int .u8 0, .int .u8 0, .int .u16 0, .int .u32 0, .int .u64 0, .int .u32 0, .bool false, .string ByteArray.empty] 38)
  have gz := start_box w (.cells #[.int .u8 i0, .int .u16 i1, .int .u32 i2] 25) (.cells #[.int .i64 tw, .int .i64 wait, .int .i64 tries, .bool short, .bool false] 27) (.cells #[.int .u8 0, .int .u8 0, .int .u8 0, .int .u16 0, .int .u32 0, .int .u64 0, .int .u32 0, .bool false, .string ByteArray.empty] 38)
  have k1 : Kept No w (((w.alloc (.cells #[.int .u8 i0, .int .u16 i1, .int .u32 i2] 25)).alloc (.cells #[.int .i64 tw, .int .i64 wait, .int .i64 tries, .bool short, .bool false] 27)).alloc (.cells #[.int .u8 0, .int .u8 0, .int .u8 0, .int .u16 0, .int .u32 0, .int .u64 0, .int .u32 0, .bool false, .string ByteArray.empty] 38)) := (((Kept.refl _ _).alloc _).alloc _).alloc _
  have hg := k1.heap HT.out (fun h => h)
  generalize (((w.alloc (.cells #[.int .u8 i0, .int .u16 i1, .int .u32 i2] 25)).alloc (.cells #[.int .i64 tw, .int .i64 wait, .int .i64 tries, .bool short, .bool false] 27)).alloc (.cells #[.int .u8 0, .int .u8 0, .int .u8 0, .int .u16 0, .int .u32 0, .int .u64 0, .int .u32 0, .bool false, .string ByteArray.empty] 38)) = w1 at gi gt gz k1 hg ⊢
  have HTI : Hid (∀ q : InC (Kept No w1), q.world.heap[p]? = some (.cells (treeRow n) 80 (0, 0))) := Lib.hid (fun q => q.here.heap hg (fun h => h))
  have tm0 := cell_in (M := No) (o := 0) gt (fun h => h) rfl
  have GI := Lib.hid gi
  have GT := Lib.hid gt
  have GZ := Lib.hid gz
  have K1 := Lib.hid k1
  have HG := Lib.hid hg
  have hpl := lt_of_heap HT.out
  clear gi gt gz k1 hg
  refine wp_region_in (Kept No w1) (by kernel_rfl) (by kernel_rfl) ((Kept.refl _ _).drew) ?_
  repeat (go_big_quiet_step (((go_at_call 22; exact in_same (twidth_ok n p (0, 0) _ (HTI.out _))))))
  refine wpQuiet_nil ?_
  intro w2 hw'
  obtain ⟨⟨wx, k2⟩, hw''⟩ := hw'
  change w2 = wx at hw''
  subst hw''
  have GZ2 := Lib.hid (k2.heap GZ.out (fun h => h))
  have gi2 := k2.heap GI.out (fun h => h)
  have gt2 := k2.heap GT.out (fun h => h)
  have HG2 := Lib.hid (k2.heap HG.out (fun h => h))
  have K2 : Hid (Kept No w w2) := Lib.hid (K1.out.trans k2)
  have d0 := cell_of_row w2 _ 0 _ _ _ gi2
  have d1 := cell_of_row w2 _ 1 _ _ _ gi2
  have d2 := cell_of_row w2 _ 2 _ _ _ gi2
  have m0 := cell_of_row w2 _ 0 _ _ _ gt2
  have m1 := cell_of_row w2 _ 1 _ _ _ gt2
  have m2 := cell_of_row w2 _ 2 _ _ _ gt2
  have m3 := cell_of_row w2 _ 3 _ _ _ gt2
  have m4 := cell_of_row w2 _ 4 _ _ _ gt2
  simp only [List.getElem?_toArray, List.getElem?_cons_zero, List.getElem?_cons_succ] at d0 d1 d2 m0 m1 m2 m3 m4
  have GI2 := Lib.hid gi2
  have GT2 := Lib.hid gt2
  clear tm0 k2 GI GT GZ K1 HG HTI gi2 gt2
  go_wp2_with fail
  have hna := fun w => newasker_ok i0 i1 i2 f t wait tries q1 q2 q3 q4 w
  unfold idRow at hna
  refine (hna _).mono ?_
  rintro e w3 ⟨a, rfl, k3, hal, ha⟩
  have hal3 := lt_of_heap ha
  have GZ3 := Lib.hid (k3.heap GZ2.out (fun h => h))
  have gi3 := k3.heap GI2.out (fun h => h)
  have gt3 := k3.heap GT2.out (fun h => h)
  have HG3 := Lib.hid (k3.heap HG2.out (fun h => h))
  have HA3 := Lib.hid ha
  have K3 : Hid (Kept No w w3) := Lib.hid (K2.out.trans k3)
  have hw3 : w.heap.size + 1 + 1 < w3.heap.size := lt_of_heap GZ3.out
  have hal' : w.heap.size + 1 + 1 < a := by have := lt_of_heap GZ2.out; omega
  clear d0 d1 d2 m0 m1 m2 m3 m4
  have d0 := cell_of_row w3 _ 0 _ _ _ gi3
  have d1 := cell_of_row w3 _ 1 _ _ _ gi3
  have d2 := cell_of_row w3 _ 2 _ _ _ gi3
  have m0 := cell_of_row w3 _ 0 _ _ _ gt3
  have m1 := cell_of_row w3 _ 1 _ _ _ gt3
  have m2 := cell_of_row w3 _ 2 _ _ _ gt3
  have m3 := cell_of_row w3 _ 3 _ _ _ gt3
  have m4 := cell_of_row w3 _ 4 _ _ _ gt3
  simp only [List.getElem?_toArray, List.getElem?_cons_zero, List.getElem?_cons_succ] at d0 d1 d2 m0 m1 m2 m3 m4
  clear hna k3 K2 GZ2 HG2 GI2 GT2 gi3 gt3 ha hal
  go_wp2_with fail
  have gx := heap_alloc_new w3 (.cells #[.pointer (some ⟨a, 0, none⟩), .pointer (some ⟨p, 0, none⟩), .nilIface, .int .i64 tw, .int .i64 wait, .int .i64 tries, .bool short, .bool false, .int .i64 0, .int .u8 0, .pointer none, .pointer none, .bool false, .int .u8 i0, .int .u16 i1, .int .u32 i2, .int .u8 t, .int .i64 0, .int .i64 0, .slice none 0 0, .slice none 0 0, .int .i64 0, .int .i64 0] 114)
  have kx : Kept No w3 (w3.alloc (.cells #[.pointer (some ⟨a, 0, none⟩), .pointer (some ⟨p, 0, none⟩), .nilIface, .int .i64 tw, .int .i64 wait, .int .i64 tries, .bool short, .bool false, .int .i64 0, .int .u8 0, .pointer none, .pointer none, .bool false, .int .u8 i0, .int .u16 i1, .int .u32 i2, .int .u8 t, .int .i64 0, .int .i64 0, .slice none 0 0, .slice none 0 0, .int .i64 0, .int .i64 0] 114)) := (Kept.refl _ _).alloc _
  have HG4 := Lib.hid (kx.heap HG3.out (fun h => h))
  have HA4 := Lib.hid (kx.heap HA3.out (fun h => h))
  have GZ4 := Lib.hid (kx.heap GZ3.out (fun h => h))
  have K4 : Hid (Kept No w (w3.alloc (.cells #[.pointer (some ⟨a, 0, none⟩), .pointer (some ⟨p, 0, none⟩), .nilIface, .int .i64 tw, .int .i64 wait, .int .i64 tries, .bool short, .bool false, .int .i64 0, .int .u8 0, .pointer none, .pointer none, .bool false, .int .u8 i0, .int .u16 i1, .int .u32 i2, .int .u8 t, .int .i64 0, .int .i64 0, .slice none 0 0, .slice none 0 0, .int .i64 0, .int .i64 0] 114))) := Lib.hid (K3.out.trans kx)
  generalize w3.alloc (.cells #[.pointer (some ⟨a, 0, none⟩), .pointer (some ⟨p, 0, none⟩), .nilIface, .int .i64 tw, .int .i64 wait, .int .i64 tries, .bool short, .bool false, .int .i64 0, .int .u8 0, .pointer none, .pointer none, .bool false, .int .u8 i0, .int .u16 i1, .int .u32 i2, .int .u8 t, .int .i64 0, .int .i64 0, .slice none 0 0, .slice none 0 0, .int .i64 0, .int .i64 0] 114) = w4 at gx kx HG4 HA4 GZ4 K4 ⊢
  have hx3 : w.heap.size + 1 + 1 < w3.heap.size := hw3
  have hax : a ≠ w3.heap.size := by omega
  generalize w3.heap.size = x at gx hx3 hax ⊢
  have GX := Lib.hid gx
  clear gx kx HG3 HA3 GZ3 K3 d0 d1 d2 m0 m1 m2 m3 m4 hw3 hal3
  refine (twidth_ok n p (0, 0) _ HG4.out).mono ?_
  rintro e w' ⟨rfl, rfl⟩
  go_wp2_with fail
  rw [HE.out]
  have hea := eask_ok i0 i1 i2 f t wait tries n n1 n2 a x hax _ w4 HA4.out GX.out rfl rfl rfl
  unfold helloRow at hea
  refine hea.mono ?_
  rintro e w5 ⟨g, rfl, k5, hg5⟩
  have GZ5 := Lib.hid (k5.heap GZ4.out (by omega))
  have K5 : Hid (Kept No w w5) := Lib.hid (K4.out.next k5 (fun j hj h => by omega))
  unfold frameRow at hg5
  have G5 := Lib.hid hg5
  have r0 := cell_of_row w5 g 0 _ _ _ hg5
  have r1 := cell_of_row w5 g 1 _ _ _ hg5
  have r2 := cell_of_row w5 g 2 _ _ _ hg5
  have r3 := cell_of_row w5 g 3 _ _ _ hg5
  have r4 := cell_of_row w5 g 4 _ _ _ hg5
  have r5 := cell_of_row w5 g 5 _ _ _ hg5
  have r6 := cell_of_row w5 g 6 _ _ _ hg5
  have r7 := cell_of_row w5 g 7 _ _ _ hg5
  have r8 := cell_of_row w5 g 8 _ _ _ hg5
  simp only [List.getElem?_toArray, List.getElem?_cons_zero, List.getElem?_cons_succ] at r0 r1 r2 r3 r4 r5 r6 r7 r8
  have GZD : Hid (w5.drew.heap[w.heap.size + 1 + 1]? = some (.cells #[.int .u8 0, .int .u8 0, .int .u8 0, .int .u16 0, .int .u32 0, .int .u64 0, .int .u32 0, .bool false, .string ByteArray.empty] 38 (0, 0))) := Lib.hid GZ5.out
  clear hea k5 hg5 GX HA4 HG4 K4 GZ4
  go_wp2_with fail
  go_still_tail 5, (by kernel_rfl)
  repeat still_step
  change wpList _ _ _ _ _ w5.drew
  go_wp2_with (refine wpList_store_row (by rfl) 38 (.tmp 13) (.tmp 111) (by rfl) (w.heap.size + 1 + 1) 38 #[.int .u8 0, .int .u8 0, .int .u8 0, .int .u16 0, .int .u32 0, .int .u64 0, .int .u32 0, .bool false, .string ByteArray.empty] #[.int .u8 f, .int .u8 t, .int .u8 i0, .int .u16 i1, .int .u32 i2, .int .u64 0, .int .u32 1, .bool false, .string ⟨#[1, UInt8.ofNat n]⟩] (by rfl) (by rfl) GZD.out (by kernel_rfl) (by rfl) (by kernel_rfl) ?_)
  refine bodyPost_ret (results_mid rfl _ _ _ _ _ _ _ rfl (setRow_heap _ _ _ _ _ _ GZD.out) Tryz.underlying38 rfl (by kernel_rfl)) rfl ?_
  exact ⟨_, rfl, (K5.out.drew).setRow _ _ (fun h => absurd h (by omega))⟩

set_option maxHeartbeats 4000000 in
theorem start_good_true (i0 i1 i2 f t tw wait tries : Int) (short : Bool) (s : Nat) (n : Nat) (n1 : 1 ≤ n) (n2 : n ≤ 32) (p : Nat) (w : World) (f1 : 1 ≤ f) (f2 : f ≤ 5) (t1 : 1 ≤ t) (t2 : t ≤ 5) (b3 : (f == t) = false) (b4 : (i0 != f) = false) (b5 : (i1 == 0) = false) (b6 : (i2 == 0) = false) (b7 : (tw != (n : Int)) = false) (q1 : 1 ≤ wait) (q2 : wait ≤ 1000) (q3 : 1 ≤ tries) (q4 : tries ≤ 16) (ht : w.heap[p]? = some (.cells (treeRow n) 80 (0, 0))) :
    Calls Tryz.prog 7 #[idRow i0 i1 i2, .int .u8 f, .int .u8 t, .pointer (some ⟨p, 0, none⟩), .iface 41 (.pointer (some ⟨s, 0, none⟩)), termRow tw wait tries short true] w fun e w' => ∃ a, e = .returned (.tuple #[.pointer (some ⟨a, 0, none⟩), .agg (frameRow i0 i1 i2 f t 1 ⟨#[1, UInt8.ofNat n]⟩), .int .i64 0]) ∧ Kept No w w' := by
  have hq : ∀ w, (binOp BinOp.eql 106 (.iface 41 (.pointer (some ⟨s, 0, none⟩))) .nilIface).run Tryz.prog w = .ok (.bool false) w := fun _ => by kernel_rfl
  unfold idRow termRow
  have HT := Lib.hid ht
  clear ht
  go_enter Tryz.func7, Tryz.ntmps7
  go_wp2_with fail
  refine (rep_yes f f1 f2 _).mono ?_
  rintro e w' ⟨rfl, rfl⟩
  go_wp2_with fail
  refine (rep_yes t t1 t2 _).mono ?_
  rintro e w' ⟨rfl, rfl⟩
  go_wp2_with fail
  have e0 : (Value.string { data := #[] }) = .string ByteArray.empty := rfl
  rw [e0]
  have HE := Lib.hid e0
  clear e0
  have gi := box3a w (.cells #[.int .u8 i0, .int .u16 i1, .int .u32 i2] 25) (.cells #[.int .i64 tw, .int .i64 wait, .int .i64 tries, .bool short, .bool true] 27) (.cells #[.int .u8 0, .int .u8 0, .int .u8 0, .int .u16 0, .int .u32 0, .int .u64 0, .int .u32 0, .bool false, .string ByteArray.empty] 38)
  have gt := box3b w (.cells #[.int .u8 i0, .int .u16 i1, .int .u32 i2] 25) (.cells #[.int .i64 tw, .int .i64 wait, .int .i64 tries, .bool short, .bool true] 27) (.cells #[.int .u8 0, .int .u8 0, .int .u8 0, .int .u16 0, .int .u32 0, .int .u64 0, .int .u32 0, .bool false, .string ByteArray.empty] 38)
  have gz := start_box w (.cells #[.int .u8 i0, .int .u16 i1, .int .u32 i2] 25) (.cells #[.int .i64 tw, .int .i64 wait, .int .i64 tries, .bool short, .bool true] 27) (.cells #[.int .u8 0, .int .u8 0, .int .u8 0, .int .u16 0, .int .u32 0, .int .u64 0, .int .u32 0, .bool false, .string ByteArray.empty] 38)
  have k1 : Kept No w (((w.alloc (.cells #[.int .u8 i0, .int .u16 i1, .int .u32 i2] 25)).alloc (.cells #[.int .i64 tw, .int .i64 wait, .int .i64 tries, .bool short, .bool true] 27)).alloc (.cells #[.int .u8 0, .int .u8 0, .int .u8 0, .int .u16 0, .int .u32 0, .int .u64 0, .int .u32 0, .bool false, .string ByteArray.empty] 38)) := (((Kept.refl _ _).alloc _).alloc _).alloc _
  have hg := k1.heap HT.out (fun h => h)
  generalize (((w.alloc (.cells #[.int .u8 i0, .int .u16 i1, .int .u32 i2] 25)).alloc (.cells #[.int .i64 tw, .int .i64 wait, .int .i64 tries, .bool short, .bool true] 27)).alloc (.cells #[.int .u8 0, .int .u8 0, .int .u8 0, .int .u16 0, .int .u32 0, .int .u64 0, .int .u32 0, .bool false, .string ByteArray.empty] 38)) = w1 at gi gt gz k1 hg ⊢
  have HTI : Hid (∀ q : InC (Kept No w1), q.world.heap[p]? = some (.cells (treeRow n) 80 (0, 0))) := Lib.hid (fun q => q.here.heap hg (fun h => h))
  have tm0 := cell_in (M := No) (o := 0) gt (fun h => h) rfl
  have GI := Lib.hid gi
  have GT := Lib.hid gt
  have GZ := Lib.hid gz
  have K1 := Lib.hid k1
  have HG := Lib.hid hg
  have hpl := lt_of_heap HT.out
  clear gi gt gz k1 hg
  refine wp_region_in (Kept No w1) (by kernel_rfl) (by kernel_rfl) ((Kept.refl _ _).drew) ?_
  repeat (go_big_quiet_step (((go_at_call 22; exact in_same (twidth_ok n p (0, 0) _ (HTI.out _))))))
  refine wpQuiet_nil ?_
  intro w2 hw'
  obtain ⟨⟨wx, k2⟩, hw''⟩ := hw'
  change w2 = wx at hw''
  subst hw''
  have GZ2 := Lib.hid (k2.heap GZ.out (fun h => h))
  have gi2 := k2.heap GI.out (fun h => h)
  have gt2 := k2.heap GT.out (fun h => h)
  have HG2 := Lib.hid (k2.heap HG.out (fun h => h))
  have K2 : Hid (Kept No w w2) := Lib.hid (K1.out.trans k2)
  have d0 := cell_of_row w2 _ 0 _ _ _ gi2
  have d1 := cell_of_row w2 _ 1 _ _ _ gi2
  have d2 := cell_of_row w2 _ 2 _ _ _ gi2
  have m0 := cell_of_row w2 _ 0 _ _ _ gt2
  have m1 := cell_of_row w2 _ 1 _ _ _ gt2
  have m2 := cell_of_row w2 _ 2 _ _ _ gt2
  have m3 := cell_of_row w2 _ 3 _ _ _ gt2
  have m4 := cell_of_row w2 _ 4 _ _ _ gt2
  simp only [List.getElem?_toArray, List.getElem?_cons_zero, List.getElem?_cons_succ] at d0 d1 d2 m0 m1 m2 m3 m4
  have GI2 := Lib.hid gi2
  have GT2 := Lib.hid gt2
  clear tm0 k2 GI GT GZ K1 HG HTI gi2 gt2
  go_wp2_with fail
  have hna := fun w => newasker_ok i0 i1 i2 f t wait tries q1 q2 q3 q4 w
  unfold idRow at hna
  refine (hna _).mono ?_
  rintro e w3 ⟨a, rfl, k3, hal, ha⟩
  have hal3 := lt_of_heap ha
  have GZ3 := Lib.hid (k3.heap GZ2.out (fun h => h))
  have gi3 := k3.heap GI2.out (fun h => h)
  have gt3 := k3.heap GT2.out (fun h => h)
  have HG3 := Lib.hid (k3.heap HG2.out (fun h => h))
  have HA3 := Lib.hid ha
  have K3 : Hid (Kept No w w3) := Lib.hid (K2.out.trans k3)
  have hw3 : w.heap.size + 1 + 1 < w3.heap.size := lt_of_heap GZ3.out
  have hal' : w.heap.size + 1 + 1 < a := by have := lt_of_heap GZ2.out; omega
  clear d0 d1 d2 m0 m1 m2 m3 m4
  have d0 := cell_of_row w3 _ 0 _ _ _ gi3
  have d1 := cell_of_row w3 _ 1 _ _ _ gi3
  have d2 := cell_of_row w3 _ 2 _ _ _ gi3
  have m0 := cell_of_row w3 _ 0 _ _ _ gt3
  have m1 := cell_of_row w3 _ 1 _ _ _ gt3
  have m2 := cell_of_row w3 _ 2 _ _ _ gt3
  have m3 := cell_of_row w3 _ 3 _ _ _ gt3
  have m4 := cell_of_row w3 _ 4 _ _ _ gt3
  simp only [List.getElem?_toArray, List.getElem?_cons_zero, List.getElem?_cons_succ] at d0 d1 d2 m0 m1 m2 m3 m4
  clear hna k3 K2 GZ2 HG2 GI2 GT2 gi3 gt3 ha hal
  go_wp2_with fail
  have gx := heap_alloc_new w3 (.cells #[.pointer (some ⟨a, 0, none⟩), .pointer (some ⟨p, 0, none⟩), .iface 41 (.pointer (some ⟨s, 0, none⟩)), .int .i64 tw, .int .i64 wait, .int .i64 tries, .bool short, .bool true, .int .i64 0, .int .u8 0, .pointer none, .pointer none, .bool false, .int .u8 i0, .int .u16 i1, .int .u32 i2, .int .u8 t, .int .i64 0, .int .i64 0, .slice none 0 0, .slice none 0 0, .int .i64 0, .int .i64 0] 114)
  have kx : Kept No w3 (w3.alloc (.cells #[.pointer (some ⟨a, 0, none⟩), .pointer (some ⟨p, 0, none⟩), .iface 41 (.pointer (some ⟨s, 0, none⟩)), .int .i64 tw, .int .i64 wait, .int .i64 tries, .bool short, .bool true, .int .i64 0, .int .u8 0, .pointer none, .pointer none, .bool false, .int .u8 i0, .int .u16 i1, .int .u32 i2, .int .u8 t, .int .i64 0, .int .i64 0, .slice none 0 0, .slice none 0 0, .int .i64 0, .int .i64 0] 114)) := (Kept.refl _ _).alloc _
  have HG4 := Lib.hid (kx.heap HG3.out (fun h => h))
  have HA4 := Lib.hid (kx.heap HA3.out (fun h => h))
  have GZ4 := Lib.hid (kx.heap GZ3.out (fun h => h))
  have K4 : Hid (Kept No w (w3.alloc (.cells #[.pointer (some ⟨a, 0, none⟩), .pointer (some ⟨p, 0, none⟩), .iface 41 (.pointer (some ⟨s, 0, none⟩)), .int .i64 tw, .int .i64 wait, .int .i64 tries, .bool short, .bool true, .int .i64 0, .int .u8 0, .pointer none, .pointer none, .bool false, .int .u8 i0, .int .u16 i1, .int .u32 i2, .int .u8 t, .int .i64 0, .int .i64 0, .slice none 0 0, .slice none 0 0, .int .i64 0, .int .i64 0] 114))) := Lib.hid (K3.out.trans kx)
  generalize w3.alloc (.cells #[.pointer (some ⟨a, 0, none⟩), .pointer (some ⟨p, 0, none⟩), .iface 41 (.pointer (some ⟨s, 0, none⟩)), .int .i64 tw, .int .i64 wait, .int .i64 tries, .bool short, .bool true, .int .i64 0, .int .u8 0, .pointer none, .pointer none, .bool false, .int .u8 i0, .int .u16 i1, .int .u32 i2, .int .u8 t, .int .i64 0, .int .i64 0, .slice none 0 0, .slice none 0 0, .int .i64 0, .int .i64 0] 114) = w4 at gx kx HG4 HA4 GZ4 K4 ⊢
  have hx3 : w.heap.size + 1 + 1 < w3.heap.size := hw3
  have hax : a ≠ w3.heap.size := by omega
  generalize w3.heap.size = x at gx hx3 hax ⊢
  have GX := Lib.hid gx
  clear gx kx HG3 HA3 GZ3 K3 d0 d1 d2 m0 m1 m2 m3 m4 hw3 hal3
  refine (twidth_ok n p (0, 0) _ HG4.out).mono ?_
  rintro e w' ⟨rfl, rfl⟩
  go_wp2_with fail
  rw [HE.out]
  have hea := eask_ok i0 i1 i2 f t wait tries n n1 n2 a x hax _ w4 HA4.out GX.out rfl rfl rfl
  unfold helloRow at hea
  refine hea.mono ?_
  rintro e w5 ⟨g, rfl, k5, hg5⟩
  have GZ5 := Lib.hid (k5.heap GZ4.out (by omega))
  have K5 : Hid (Kept No w w5) := Lib.hid (K4.out.next k5 (fun j hj h => by omega))
  unfold frameRow at hg5
  have G5 := Lib.hid hg5
  have r0 := cell_of_row w5 g 0 _ _ _ hg5
  have r1 := cell_of_row w5 g 1 _ _ _ hg5
  have r2 := cell_of_row w5 g 2 _ _ _ hg5
  have r3 := cell_of_row w5 g 3 _ _ _ hg5
  have r4 := cell_of_row w5 g 4 _ _ _ hg5
  have r5 := cell_of_row w5 g 5 _ _ _ hg5
  have r6 := cell_of_row w5 g 6 _ _ _ hg5
  have r7 := cell_of_row w5 g 7 _ _ _ hg5
  have r8 := cell_of_row w5 g 8 _ _ _ hg5
  simp only [List.getElem?_toArray, List.getElem?_cons_zero, List.getElem?_cons_succ] at r0 r1 r2 r3 r4 r5 r6 r7 r8
  have GZD : Hid (w5.drew.heap[w.heap.size + 1 + 1]? = some (.cells #[.int .u8 0, .int .u8 0, .int .u8 0, .int .u16 0, .int .u32 0, .int .u64 0, .int .u32 0, .bool false, .string ByteArray.empty] 38 (0, 0))) := Lib.hid GZ5.out
  clear hea k5 hg5 GX HA4 HG4 K4 GZ4
  go_wp2_with fail
  go_still_tail 5, (by kernel_rfl)
  repeat still_step
  change wpList _ _ _ _ _ w5.drew
  go_wp2_with (refine wpList_store_row (by rfl) 38 (.tmp 13) (.tmp 111) (by rfl) (w.heap.size + 1 + 1) 38 #[.int .u8 0, .int .u8 0, .int .u8 0, .int .u16 0, .int .u32 0, .int .u64 0, .int .u32 0, .bool false, .string ByteArray.empty] #[.int .u8 f, .int .u8 t, .int .u8 i0, .int .u16 i1, .int .u32 i2, .int .u64 0, .int .u32 1, .bool false, .string ⟨#[1, UInt8.ofNat n]⟩] (by rfl) (by rfl) GZD.out (by kernel_rfl) (by rfl) (by kernel_rfl) ?_)
  refine bodyPost_ret (results_mid rfl _ _ _ _ _ _ _ rfl (setRow_heap _ _ _ _ _ _ GZD.out) Tryz.underlying38 rfl (by kernel_rfl)) rfl ?_
  exact ⟨_, rfl, (K5.out.drew).setRow _ _ (fun h => absurd h (by omega))⟩
end Go.Proofs.YtpkadglempbjiaaGreat
