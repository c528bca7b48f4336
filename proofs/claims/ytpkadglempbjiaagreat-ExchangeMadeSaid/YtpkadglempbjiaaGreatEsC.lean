/- exchange.Start: a width or waits that are refused. -/
import Derived.Test.YtpkadglempbjiaaGreatEsB
namespace Go.Proofs.YtpkadglempbjiaaGreat
open Go.RowKit Go.Lib
set_option linter.unusedVariables false
set_option linter.unusedSimpArgs false
set_option maxRecDepth 100000

theorem box3a (w : World) (a b c : Obj) : (((w.alloc a).alloc b).alloc c).heap[w.heap.size]? = some a :=
  (((Kept.refl No (w.alloc a)).alloc b).alloc c).heap (heap_alloc_new w a) (fun h => h)
theorem box3b (w : World) (a b c : Obj) : (((w.alloc a).alloc b).alloc c).heap[w.heap.size + 1]? = some b := by
  have := ((Kept.refl No ((w.alloc a).alloc b)).alloc c).heap (heap_alloc_new (w.alloc a) b) (fun h => h)
  simpa using this

set_option maxHeartbeats 4000000 in
theorem start_width_false (i0 i1 i2 f t tw wait tries : Int) (short : Bool) (hv : Value) (n : Int) (p : Nat) (w : World) (f1 : 1 ≤ f) (f2 : f ≤ 5) (t1 : 1 ≤ t) (t2 : t ≤ 5) (b3 : (f == t) = false) (b4 : (i0 != f) = false) (b5 : (i1 == 0) = false) (b6 : (i2 == 0) = false) (b7 : (tw != n) = true) (ht : w.heap[p]? = some (.cells (treeRow n) 80 (0, 0))) :
    Calls Tryz.prog 7 #[idRow i0 i1 i2, .int .u8 f, .int .u8 t, .pointer (some ⟨p, 0, none⟩), hv, termRow tw wait tries short false] w fun e w' => e = .returned (.tuple #[.pointer none, zFrame, .int .i64 251]) ∧ Kept No w w' := by
  unfold idRow termRow
  have HT := Lib.hid ht
  clear ht
  go_enter Tryz.func7, Tryz.ntmps7
  go_wp2_with fail
  refine (rep_yes f f1 f2 _).mono ?_
  rintro e w' ⟨rfl, rfl⟩
  go_wp2_with fail
  refine (rep_yes t t1 t2 _).mono ?_
  rintro e w' ⟨rfl, rfl⟩
  go_wp2_with fail
  have e0 : (Value.string { data := #[] }) = .string ByteArray.empty := rfl
  rw [e0]
  have HE := Lib.hid e0
  clear e0
  have gi := box3a w (.cells #[.int .u8 i0, .int .u16 i1, .int .u32 i2] 25) (.cells #[.int .i64 tw, .int .i64 wait, .int .i64 tries, .bool short, .bool false] 27) (.cells #[.int .u8 0, .int .u8 0, .int .u8 0, .int .u16 0, .int .u32 0, .int .u64 0, .int .u32 0, .bool false, .string ByteArray.empty] 38)
  have gt := box3b w (.cells #[.int .u8 i0, .int .u16 i1, .int .u32 i2] 25) (.cells #[.int .i64 tw, .int .i64 wait, .int .i64 tries, .bool short, .bool false] 27) (.cells #[.int .u8 0, .int .u8 0, .int .u8 0, .int .u16 0, .int .u32 0, .int .u64 0, .int .u32 0, .bool false, .string ByteArray.empty] 38)
  have gz := start_box w (.cells #[.int .u8 i0, .int .u16 i1, .int .u32 i2] 25) (.cells #[.int .i64 tw, .int .i64 wait, .int .i64 tries, .bool short, .bool false] 27) (.cells #[.int .u8 0, .int .u8 0, .int .u8 0, .int .u16 0, .int .u32 0, .int .u64 0, .int .u32 0, .bool false, .string ByteArray.empty] 38)
  have k1 : Kept No w (((w.alloc (.cells #[.int .u8 i0, .int .u16 i1, .int .u32 i2] 25)).alloc (.cells #[.int .i64 tw, .int .i64 wait, .int .i64 tries, .bool short, .bool false] 27)).alloc (.cells #[.int .u8 0, .int .u8 0, .int .u8 0, .int .u16 0, .int .u32 0, .int .u64 0, .int .u32 0, .bool false, .string ByteArray.empty] 38)) := (((Kept.refl _ _).alloc _).alloc _).alloc _
  have hg := k1.heap HT.out (fun h => h)
  generalize (((w.alloc (.cells #[.int .u8 i0, .int .u16 i1, .int .u32 i2] 25)).alloc (.cells #[.int .i64 tw, .int .i64 wait, .int .i64 tries, .bool short, .bool false] 27)).alloc (.cells #[.int .u8 0, .int .u8 0, .int .u8 0, .int .u16 0, .int .u32 0, .int .u64 0, .int .u32 0, .bool false, .string ByteArray.empty] 38)) = w1 at gi gt gz k1 hg ⊢
  have HTI : Hid (∀ q : InC (Kept No w1), q.world.heap[p]? = some (.cells (treeRow n) 80 (0, 0))) := Lib.hid (fun q => q.here.heap hg (fun h => h))
  have tm0 := cell_in (M := No) (o := 0) gt (fun h => h) rfl
  have GI := Lib.hid gi
  have GT := Lib.hid gt
  have GZ := Lib.hid gz
  have K1 := Lib.hid k1
  have HG := Lib.hid hg
  have hpl := lt_of_heap HT.out
  clear gi gt gz k1 hg
  refine wp_region_in (Kept No w1) (by kernel_rfl) (by kernel_rfl) ((Kept.refl _ _).drew) ?_
  repeat (go_big_quiet_step (((go_at_call 22; exact in_same (twidth_ok n p (0, 0) _ (HTI.out _))))))
  refine wpQuiet_nil ?_
  intro w2 hw'
  obtain ⟨⟨wx, k2⟩, hw''⟩ := hw'
  change w2 = wx at hw''
  subst hw''
  have GZ2 := Lib.hid (k2.heap GZ.out (fun h => h))
  have gi2 := k2.heap GI.out (fun h => h)
  have gt2 := k2.heap GT.out (fun h => h)
  have HG2 := Lib.hid (k2.heap HG.out (fun h => h))
  have K2 : Hid (Kept No w w2) := Lib.hid (K1.out.trans k2)
  have d0 := cell_of_row w2 _ 0 _ _ _ gi2
  have d1 := cell_of_row w2 _ 1 _ _ _ gi2
  have d2 := cell_of_row w2 _ 2 _ _ _ gi2
  have m0 := cell_of_row w2 _ 0 _ _ _ gt2
  have m1 := cell_of_row w2 _ 1 _ _ _ gt2
  have m2 := cell_of_row w2 _ 2 _ _ _ gt2
  have m3 := cell_of_row w2 _ 3 _ _ _ gt2
  have m4 := cell_of_row w2 _ 4 _ _ _ gt2
  simp only [List.getElem?_toArray, List.getElem?_cons_zero, List.getElem?_cons_succ] at d0 d1 d2 m0 m1 m2 m3 m4
  have GI2 := Lib.hid gi2
  have GT2 := Lib.hid gt2
  clear tm0 k2 GI GT GZ K1 HG HTI gi2 gt2
  go_wp2_with (refine wpList_store_row (by rfl) 38 (.tmp 13) (.tmp 68) (by rfl) (w.heap.size + 1 + 1) 38 #[.int .u8 0, .int .u8 0, .int .u8 0, .int .u16 0, .int .u32 0, .int .u64 0, .int .u32 0, .bool false, .string ByteArray.empty] #[.int .u8 0, .int .u8 0, .int .u8 0, .int .u16 0, .int .u32 0, .int .u64 0, .int .u32 0, .bool false, .string ByteArray.empty] (by rfl) (by rfl) GZ2.out (by kernel_rfl) (by rfl) (by kernel_rfl) ?_)
  refine bodyPost_ret (results_mid rfl _ _ _ _ _ _ _ rfl (setRow_heap _ _ _ _ _ _ GZ2.out) Tryz.underlying38 rfl (by kernel_rfl)) rfl ?_
  exact ⟨rfl, K2.out.setRow _ _ (fun h => absurd h (by omega))⟩

set_option maxHeartbeats 4000000 in
theorem start_waits_false (i0 i1 i2 f t tw wait tries : Int) (short : Bool) (hv : Value) (n : Int) (p : Nat) (w : World) (f1 : 1 ≤ f) (f2 : f ≤ 5) (t1 : 1 ≤ t) (t2 : t ≤ 5) (b3 : (f == t) = false) (b4 : (i0 != f) = false) (b5 : (i1 == 0) = false) (b6 : (i2 == 0) = false) (b7 : (tw != n) = false) (hw : wait < 1 ∨ 1000 < wait ∨ tries < 1 ∨ 16 < tries) (ht : w.heap[p]? = some (.cells (treeRow n) 80 (0, 0))) :
    Calls Tryz.prog 7 #[idRow i0 i1 i2, .int .u8 f, .int .u8 t, .pointer (some ⟨p, 0, none⟩), hv, termRow tw wait tries short false] w fun e w' => e = .returned (.tuple #[.pointer none, zFrame, .int .i64 1]) ∧ Kept No w w' := by
  have HW := Lib.hid hw
  clear hw
  unfold idRow termRow
  have HT := Lib.hid ht
  clear ht
  go_enter Tryz.func7, Tryz.ntmps7
  go_wp2_with fail
  refine (rep_yes f f1 f2 _).mono ?_
  rintro e w' ⟨rfl, rfl⟩
  go_wp2_with fail
  refine (rep_yes t t1 t2 _).mono ?_
  rintro e w' ⟨rfl, rfl⟩
  go_wp2_with fail
  have e0 : (Value.string { data := #[] }) = .string ByteArray.empty := rfl
  rw [e0]
  have HE := Lib.hid e0
  clear e0
  have gi := box3a w (.cells #[.int .u8 i0, .int .u16 i1, .int .u32 i2] 25) (.cells #[.int .i64 tw, .int .i64 wait, .int .i64 tries, .bool short, .bool false] 27) (.cells #[.int .u8 0, .int .u8 0, .int .u8 0, .int .u16 0, .int .u32 0, .int .u64 0, .int .u32 0, .bool false, .string ByteArray.empty] 38)
  have gt := box3b w (.cells #[.int .u8 i0, .int .u16 i1, .int .u32 i2] 25) (.cells #[.int .i64 tw, .int .i64 wait, .int .i64 tries, .bool short, .bool false] 27) (.cells #[.int .u8 0, .int .u8 0, .int .u8 0, .int .u16 0, .int .u32 0, .int .u64 0, .int .u32 0, .bool false, .string ByteArray.empty] 38)
  have gz := start_box w (.cells #[.int .u8 i0, .int .u16 i1, .int .u32 i2] 25) (.cells #[.int .i64 tw, .int .i64 wait, .int .i64 tries, .bool short, .bool false] 27) (.cells #[.int .u8 0, .int .u8 0, .int .u8 0, .int .u16 0, .int .u32 0, .int .u64 0, .int .u32 0, .bool false, .string ByteArray.empty] 38)
  have k1 : Kept No w (((w.alloc (.cells #[.int .u8 i0, .int .u16 i1, .int .u32 i2] 25)).alloc (.cells #[.int .i64 tw, .int .i64 wait, .int .i64 tries, .bool short, .bool false] 27)).alloc (.cells #[.int .u8 0, .int .u8 0, .int .u8 0, .int .u16 0, .int .u32 0, .int .u64 0, .int .u32 0, .bool false, .string ByteArray.empty] 38)) := (((Kept.refl _ _).alloc _).alloc _).alloc _
  have hg := k1.heap HT.out (fun h => h)
  generalize (((w.alloc (.cells #[.int .u8 i0, .int .u16 i1, .int .u32 i2] 25)).alloc (.cells #[.int .i64 tw, .int .i64 wait, .int .i64 tries, .bool short, .bool false] 27)).alloc (.cells #[.int .u8 0, .int .u8 0, .int .u8 0, .int .u16 0, .int .u32 0, .int .u64 0, .int .u32 0, .bool false, .string ByteArray.empty] 38)) = w1 at gi gt gz k1 hg ⊢
  have HTI : Hid (∀ q : InC (Kept No w1), q.world.heap[p]? = some (.cells (treeRow n) 80 (0, 0))) := Lib.hid (fun q => q.here.heap hg (fun h => h))
  have tm0 := cell_in (M := No) (o := 0) gt (fun h => h) rfl
  have GI := Lib.hid gi
  have GT := Lib.hid gt
  have GZ := Lib.hid gz
  have K1 := Lib.hid k1
  have HG := Lib.hid hg
  have hpl := lt_of_heap HT.out
  clear gi gt gz k1 hg
  refine wp_region_in (Kept No w1) (by kernel_rfl) (by kernel_rfl) ((Kept.refl _ _).drew) ?_
  repeat (go_big_quiet_step (((go_at_call 22; exact in_same (twidth_ok n p (0, 0) _ (HTI.out _))))))
  refine wpQuiet_nil ?_
  intro w2 hw'
  obtain ⟨⟨wx, k2⟩, hw''⟩ := hw'
  change w2 = wx at hw''
  subst hw''
  have GZ2 := Lib.hid (k2.heap GZ.out (fun h => h))
  have gi2 := k2.heap GI.out (fun h => h)
  have gt2 := k2.heap GT.out (fun h => h)
  have HG2 := Lib.hid (k2.heap HG.out (fun h => h))
  have K2 : Hid (Kept No w w2) := Lib.hid (K1.out.trans k2)
  have d0 := cell_of_row w2 _ 0 _ _ _ gi2
  have d1 := cell_of_row w2 _ 1 _ _ _ gi2
  have d2 := cell_of_row w2 _ 2 _ _ _ gi2
  have m0 := cell_of_row w2 _ 0 _ _ _ gt2
  have m1 := cell_of_row w2 _ 1 _ _ _ gt2
  have m2 := cell_of_row w2 _ 2 _ _ _ gt2
  have m3 := cell_of_row w2 _ 3 _ _ _ gt2
  have m4 := cell_of_row w2 _ 4 _ _ _ gt2
  simp only [List.getElem?_toArray, List.getElem?_cons_zero, List.getElem?_cons_succ] at d0 d1 d2 m0 m1 m2 m3 m4
  have GI2 := Lib.hid gi2
  have GT2 := Lib.hid gt2
  clear tm0 k2 GI GT GZ K1 HG HTI gi2 gt2
  go_wp2_with fail
  have hna := fun w => newasker_bad i0 i1 i2 f t wait tries HW.out w
  unfold idRow at hna
  refine (hna _).mono ?_
  rintro e w3 ⟨rfl, k3⟩
  have GZ3 := Lib.hid (k3.heap GZ2.out (fun h => h))
  have K3 : Hid (Kept No w w3) := Lib.hid (K2.out.trans k3)
  clear hna k3 K2 GZ2 d0 d1 d2 m0 m1 m2 m3 m4
  go_wp2_with (refine wpList_store_row (by rfl) 38 (.tmp 13) (.tmp 82) (by rfl) (w.heap.size + 1 + 1) 38 #[.int .u8 0, .int .u8 0, .int .u8 0, .int .u16 0, .int .u32 0, .int .u64 0, .int .u32 0, .bool false, .string ByteArray.empty] #[.int .u8 0, .int .u8 0, .int .u8 0, .int .u16 0, .int .u32 0, .int .u64 0, .int .u32 0, .bool false, .string ByteArray.empty] (by rfl) (by rfl) GZ3.out (by kernel_rfl) (by rfl) (by kernel_rfl) ?_)
  refine bodyPost_ret (results_mid rfl _ _ _ _ _ _ _ rfl (setRow_heap _ _ _ _ _ _ GZ3.out) Tryz.underlying38 rfl (by kernel_rfl)) rfl ?_
  exact ⟨rfl, K3.out.setRow _ _ (fun h => absurd h (by omega))⟩

set_option maxHeartbeats 4000000 in
theorem start_width_true (i0 i1 i2 f t tw wait tries : Int) (short : Bool) (s : Nat) (n : Int) (p : Nat) (w : World) (f1 : 1 ≤ f) (f2 : f ≤ 5) (t1 : 1 ≤ t) (t2 : t ≤ 5) (b3 : (f == t) = false) (b4 : (i0 != f) = false) (b5 : (i1 == 0) = false) (b6 : (i2 == 0) = false) (b7 : (tw != n) = true) (ht : w.heap[p]? = some (.cells (treeRow n) 80 (0, 0))) :
    Calls Tryz.prog 7 #[idRow i0 i1 i2, .int .u8 f, .int .u8 t, .pointer (some ⟨p, 0, none⟩), .iface 41 (.pointer (some ⟨s, 0, none⟩)), termRow tw wait tries short true] w fun e w' => e = .returned (.tuple #[.pointer none, zFrame, .int .i64 251]) ∧ Kept No w w' := by
  have hq : ∀ w, (binOp BinOp.eql 106 (.iface 41 (.pointer (some ⟨s, 0, none⟩))) .nilIface).run Tryz.prog w = .ok (.bool false) w := fun _ => by kernel_rfl
  unfold idRow termRow
  have HT := Lib.hid ht
  clear ht
  go_enter Tryz.func7, Tryz.ntmps7
  go_wp2_with fail
  refine (rep_yes f f1 f2 _).mono ?_
  rintro e w' ⟨rfl, rfl⟩
  go_wp2_with fail
  refine (rep_yes t t1 t2 _).mono ?_
  rintro e w' ⟨rfl, rfl⟩
  go_wp2_with fail
  have e0 : (Value.string { data := #[] }) = .string ByteArray.empty := rfl
  rw [e0]
  have HE := Lib.hid e0
  clear e0
  have gi := box3a w (.cells #[.int .u8 i0, .int .u16 i1, .int .u32 i2] 25) (.cells #[.int .i64 tw, .int .i64 wait, .int .i64 tries, .bool short, .bool true] 27) (.cells #[.int .u8 0, .int .u8 0, .int .u8 0, .int .u16 0, .int .u32 0, .int .u64 0, .int .u32 0, .bool false, .string ByteArray.empty] 38)
  have gt := box3b w (.cells #[.int .u8 i0, .int .u16 i1, .int .u32 i2] 25) (.cells #[.int .i64 tw, .int .i64 wait, .int .i64 tries, .bool short, .bool true] 27) (.cells #[.int .u8 0, .int .u8 0, .int .u8 0, .int .u16 0, .int .u32 0, .int .u64 0, .int .u32 0, .bool false, .string ByteArray.empty] 38)
  have gz := start_box w (.cells #[.int .u8 i0, .int .u16 i1, .int .u32 i2] 25) (.cells #[.int .i64 tw, .int .i64 wait, .int .i64 tries, .bool short, .bool true] 27) (.cells #[.int .u8 0, .int .u8 0, .int .u8 0, .int .u16 0, .int .u32 0, .int .u64 0, .int .u32 0, .bool false, .string ByteArray.empty] 38)
  have k1 : Kept No w (((w.alloc (.cells #[.int .u8 i0, .int .u16 i1, .int .u32 i2] 25)).alloc (.cells #[.int .i64 tw, .int .i64 wait, .int .i64 tries, .bool short, .bool true] 27)).alloc (.cells #[.int .u8 0, .int .u8 0, .int .u8 0, .int .u16 0, .int .u32 0, .int .u64 0, .int .u32 0, .bool false, .string ByteArray.empty] 38)) := (((Kept.refl _ _).alloc _).alloc _).alloc _
  have hg := k1.heap HT.out (fun h => h)
  generalize (((w.alloc (.cells #[.int .u8 i0, .int .u16 i1, .int .u32 i2] 25)).alloc (.cells #[.int .i64 tw, .int .i64 wait, .int .i64 tries, .bool short, .bool true] 27)).alloc (.cells #[.int .u8 0, .int .u8 0, .int .u8 0, .int .u16 0, .int .u32 0, .int .u64 0, .int .u32 0, .bool false, .string ByteArray.empty] 38)) = w1 at gi gt gz k1 hg ⊢
  have HTI : Hid (∀ q : InC (Kept No w1), q.world.heap[p]? = some (.cells (treeRow n) 80 (0, 0))) := Lib.hid (fun q => q.here.heap hg (fun h => h))
  have tm0 := cell_in (M := No) (o := 0) gt (fun h => h) rfl
  have GI := Lib.hid gi
  have GT := Lib.hid gt
  have GZ := Lib.hid gz
  have K1 := Lib.hid k1
  have HG := Lib.hid hg
  have hpl := lt_of_heap HT.out
  clear gi gt gz k1 hg
  refine wp_region_in (Kept No w1) (by kernel_rfl) (by kernel_rfl) ((Kept.refl _ _).drew) ?_
  repeat (go_big_quiet_step (((go_at_call 22; exact in_same (twidth_ok n p (0, 0) _ (HTI.out _))))))
  refine wpQuiet_nil ?_
  intro w2 hw'
  obtain ⟨⟨wx, k2⟩, hw''⟩ := hw'
  change w2 = wx at hw''
  subst hw''
  have GZ2 := Lib.hid (k2.heap GZ.out (fun h => h))
  have gi2 := k2.heap GI.out (fun h => h)
  have gt2 := k2.heap GT.out (fun h => h)
  have HG2 := Lib.hid (k2.heap HG.out (fun h => h))
  have K2 : Hid (Kept No w w2) := Lib.hid (K1.out.trans k2)
  have d0 := cell_of_row w2 _ 0 _ _ _ gi2
  have d1 := cell_of_row w2 _ 1 _ _ _ gi2
  have d2 := cell_of_row w2 _ 2 _ _ _ gi2
  have m0 := cell_of_row w2 _ 0 _ _ _ gt2
  have m1 := cell_of_row w2 _ 1 _ _ _ gt2
  have m2 := cell_of_row w2 _ 2 _ _ _ gt2
  have m3 := cell_of_row w2 _ 3 _ _ _ gt2
  have m4 := cell_of_row w2 _ 4 _ _ _ gt2
  simp only [List.getElem?_toArray, List.getElem?_cons_zero, List.getElem?_cons_succ] at d0 d1 d2 m0 m1 m2 m3 m4
  have GI2 := Lib.hid gi2
  have GT2 := Lib.hid gt2
  clear tm0 k2 GI GT GZ K1 HG HTI gi2 gt2
  go_wp2_with (refine wpList_store_row (by rfl) 38 (.tmp 13) (.tmp 68) (by rfl) (w.heap.size + 1 + 1) 38 #[.int .u8 0, .int .u8 0, .int .u8 0, .int .u16 0, .int .u32 0, .int .u64 0, .int .u32 0, .bool false, .string ByteArray.empty] #[.int .u8 0, .int .u8 0, .int .u8 0, .int .u16 0, .int .u32 0, .int .u64 0, .int .u32 0, .bool false, .string ByteArray.empty] (by rfl) (by rfl) GZ2.out (by kernel_rfl) (by rfl) (by kernel_rfl) ?_)
  refine bodyPost_ret (results_mid rfl _ _ _ _ _ _ _ rfl (setRow_heap _ _ _ _ _ _ GZ2.out) Tryz.underlying38 rfl (by kernel_rfl)) rfl ?_
  exact ⟨rfl, K2.out.setRow _ _ (fun h => absurd h (by omega))⟩

set_option maxHeartbeats 4000000 in
theorem start_waits_true (i0 i1 i2 f t tw wait tries : Int) (short : Bool) (s : Nat) (n : Int) (p : Nat) (w : World) (f1 : 1 ≤ f) (f2 : f ≤ 5) (t1 : 1 ≤ t) (t2 : t ≤ 5) (b3 : (f == t) = false) (b4 : (i0 != f) = false) (b5 : (i1 == 0) = false) (b6 : (i2 == 0) = false) (b7 : (tw != n) = false) (hw : wait < 1 ∨ 1000 < wait ∨ tries < 1 ∨ 16 < tries) (ht : w.heap[p]? = some (.cells (treeRow n) 80 (0, 0))) :
    Calls Tryz.prog 7 #[idRow i0 i1 i2, .int .u8 f, .int .u8 t, .pointer (some ⟨p, 0, none⟩), .iface 41 (.pointer (some ⟨s, 0, none⟩)), termRow tw wait tries short true] w fun e w' => e = .returned (.tuple #[.pointer none, zFrame, .int .i64 1]) ∧ Kept No w w' := by
  have HW := Lib.hid hw
  clear hw
  have hq : ∀ w, (binOp BinOp.eql 106 (.iface 41 (.pointer (some ⟨s, 0, none⟩))) .nilIface).run Tryz.prog w = .ok (.bool false) w := fun _ => by kernel_rfl
  unfold idRow termRow
  have HT := Lib.hid ht
  clear ht
  go_enter Tryz.func7, Tryz.ntmps7
  go_wp2_with fail
  refine (rep_yes f f1 f2 _).mono ?_
  rintro e w' ⟨rfl, rfl⟩
  go_wp2_with fail
  refine (rep_yes t t1 t2 _).mono ?_
  rintro e w' ⟨rfl, rfl⟩
  go_wp2_with fail
  have e0 : (Value.string { data := #[] }) = .string ByteArray.empty := rfl
  rw [e0]
  have HE := Lib.hid e0
  clear e0
  have gi := box3a w (.cells #[.int .u8 i0, .int .u16 i1, .int .u32 i2] 25) (.cells #[.int .i64 tw, .int .i64 wait, .int .i64 tries, .bool short, .bool true] 27) (.cells #[.int .u8 0, .int .u8 0, .int .u8 0, .int .u16 0, .int .u32 0, .int .u64 0, .int .u32 0, .bool false, .string ByteArray.empty] 38)
  have gt := box3b w (.cells #[.int .u8 i0, .int .u16 i1, .int .u32 i2] 25) (.cells #[.int .i64 tw, .int .i64 wait, .int .i64 tries, .bool short, .bool true] 27) (.cells #[.int .u8 0, .int .u8 0, .int .u8 0, .int .u16 0, .int .u32 0, .int .u64 0, .int .u32 0, .bool false, .string ByteArray.empty] 38)
  have gz := start_box w (.cells #[.int .u8 i0, .int .u16 i1, .int .u32 i2] 25) (.cells #[.int .i64 tw, .int .i64 wait, .int .i64 tries, .bool short, .bool true] 27) (.cells #[.int .u8 0, .int .u8 0, .int .u8 0, .int .u16 0, .int .u32 0, .int .u64 0, .int .u32 0, .bool false, .string ByteArray.empty] 38)
  have k1 : Kept No w (((w.alloc (.cells #[.int .u8 i0, .int .u16 i1, .int .u32 i2] 25)).alloc (.cells #[.int .i64 tw, .int .i64 wait, .int .i64 tries, .bool short, .bool true] 27)).alloc (.cells #[.int .u8 0, .int .u8 0, .int .u8 0, .int .u16 0, .int .u32 0, .int .u64 0, .int .u32 0, .bool false, .string ByteArray.empty] 38)) := (((Kept.refl _ _).alloc _).alloc _).alloc _
  have hg := k1.heap HT.out (fun h => h)
  generalize (((w.alloc (.cells #[.int .u8 i0, .int .u16 i1, .int .u32 i2] 25)).alloc (.cells #[.int .i64 tw, .int .i64 wait, .int .i64 tries, .bool short, .bool true] 27)).alloc (.cells #[.int .u8 0, .int .u8 0, .int .u8 0, .int .u16 0, .int .u32 0, .int .u64 0, .int .u32 0, .bool false, .string ByteArray.empty] 38)) = w1 at gi gt gz k1 hg ⊢
  have HTI : Hid (∀ q : InC (Kept No w1), q.world.heap[p]? = some (.cells (treeRow n) 80 (0, 0))) := Lib.hid (fun q => q.here.heap hg (fun h => h))
  have tm0 := cell_in (M := No) (o := 0) gt (fun h => h) rfl
  have GI := Lib.hid gi
  have GT := Lib.hid gt
  have GZ := Lib.hid gz
  have K1 := Lib.hid k1
  have HG := Lib.hid hg
  have hpl := lt_of_heap HT.out
  clear gi gt gz k1 hg
  refine wp_region_in (Kept No w1) (by kernel_rfl) (by kernel_rfl) ((Kept.refl _ _).drew) ?_
  repeat (go_big_quiet_step (((go_at_call 22; exact in_same (twidth_ok n p (0, 0) _ (HTI.out _))))))
  refine wpQuiet_nil ?_
  intro w2 hw'
  obtain ⟨⟨wx, k2⟩, hw''⟩ := hw'
  change w2 = wx at hw''
  subst hw''
  have GZ2 := Lib.hid (k2.heap GZ.out (fun h => h))
  have gi2 := k2.heap GI.out (fun h => h)
  have gt2 := k2.heap GT.out (fun h => h)
  have HG2 := Lib.hid (k2.heap HG.out (fun h => h))
  have K2 : Hid (Kept No w w2) := Lib.hid (K1.out.trans k2)
  have d0 := cell_of_row w2 _ 0 _ _ _ gi2
  have d1 := cell_of_row w2 _ 1 _ _ _ gi2
  have d2 := cell_of_row w2 _ 2 _ _ _ gi2
  have m0 := cell_of_row w2 _ 0 _ _ _ gt2
  have m1 := cell_of_row w2 _ 1 _ _ _ gt2
  have m2 := cell_of_row w2 _ 2 _ _ _ gt2
  have m3 := cell_of_row w2 _ 3 _ _ _ gt2
  have m4 := cell_of_row w2 _ 4 _ _ _ gt2
  simp only [List.getElem?_toArray, List.getElem?_cons_zero, List.getElem?_cons_succ] at d0 d1 d2 m0 m1 m2 m3 m4
  have GI2 := Lib.hid gi2
  have GT2 := Lib.hid gt2
  clear tm0 k2 GI GT GZ K1 HG HTI gi2 gt2
  go_wp2_with fail
  have hna := fun w => newasker_bad i0 i1 i2 f t wait tries HW.out w
  unfold idRow at hna
  refine (hna _).mono ?_
  rintro e w3 ⟨rfl, k3⟩
  have GZ3 := Lib.hid (k3.heap GZ2.out (fun h => h))
  have K3 : Hid (Kept No w w3) := Lib.hid (K2.out.trans k3)
  clear hna k3 K2 GZ2 d0 d1 d2 m0 m1 m2 m3 m4
  go_wp2_with (refine wpList_store_row (by rfl) 38 (.tmp 13) (.tmp 82) (by rfl) (w.heap.size + 1 + 1) 38 #[.int .u8 0, .int .u8 0, .int .u8 0, .int .u16 0, .int .u32 0, .int .u64 0, .int .u32 0, .bool false, .string ByteArray.empty] #[.int .u8 0, .int .u8 0, .int .u8 0, .int .u16 0, .int .u32 0, .int .u64 0, .int .u32 0, .bool false, .string ByteArray.empty] (by rfl) (by rfl) GZ3.out (by kernel_rfl) (by rfl) (by kernel_rfl) ?_)
  refine bodyPost_ret (results_mid rfl _ _ _ _ _ _ _ rfl (setRow_heap _ _ _ _ _ _ GZ3.out) Tryz.underlying38 rfl (by kernel_rfl)) rfl ?_
  exact ⟨rfl, K3.out.setRow _ _ (fun h => absurd h (by omega))⟩
end Go.Proofs.YtpkadglempbjiaaGreat
