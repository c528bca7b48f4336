/- concordref20: Valid, Encode of a Hello. -/
import Derived.Test.YtpkadglempbjiaaGreatEmA
import Derived.Laws.OwnMore
namespace Go.Proofs.YtpkadglempbjiaaGreat
open Go.RowKit Go.Lib
set_option linter.unusedVariables false
set_option linter.unusedSimpArgs false
set_option maxRecDepth 100000

theorem mid3 (w : World) (a b c : Obj) : (((w.alloc a).alloc b).alloc c).heap[w.heap.size + 1]? = some b := by
  have := ((Kept.refl No ((w.alloc a).alloc b)).alloc c).heap (heap_alloc_new (w.alloc a) b) (fun h => h)
  simpa using this

set_option maxHeartbeats 1000000 in
theorem rused_hello (n : Int) (w : World) : Calls Tryz.prog 77 #[.agg (helloRow n)] w fun e w' => e = .returned (.agg (helloRow n)) ∧ Kept No w w' := by
  unfold helloRow
  go_enter Tryz.func77, Tryz.ntmps77
  go_wp2_with fail
  refine bodyPost_ret (results_one rfl _ _ _ _ _ _ _ rfl (mid3 _ _ _ _) Tryz.underlying98 rfl (by kernel_rfl)) rfl ?_
  exact ⟨rfl, (((Kept.refl _ _).alloc _).alloc _).alloc _⟩

theorem rsame14_nil (w : World) : Calls Tryz.prog 90 #[.slice none 0 0, .slice none 0 0] w fun e w' => e = .returned (.bool true) ∧ w = w' := by
  go_enter Tryz.func90, Tryz.ntmps90
  go_wp2_with fail
  go_loop [5] (fun i => i = .int .i64 0) (fun _ => 0)
  case atStart => rfl
  case round =>
    obtain rfl := hrel
    go_wp2_with fail
    go_ret
    exact ⟨rfl, rfl⟩
theorem rsame10_nil (w : World) : Calls Tryz.prog 153 #[.slice none 0 0, .slice none 0 0] w fun e w' => e = .returned (.bool true) ∧ w = w' := by
  go_enter Tryz.func153, Tryz.ntmps153
  go_wp2_with fail
  go_loop [5] (fun i => i = .int .i64 0) (fun _ => 0)
  case atStart => rfl
  case round =>
    obtain rfl := hrel
    go_wp2_with fail
    go_ret
    exact ⟨rfl, rfl⟩
theorem rsame11_nil (w : World) : Calls Tryz.prog 91 #[.agg #[.slice none 0 0, .slice none 0 0], .agg #[.slice none 0 0, .slice none 0 0]] w fun e w' => e = .returned (.bool true) ∧ Kept No w w' := by
  go_enter Tryz.func91, Tryz.ntmps91
  go_wp2_with fail
  refine (rsame10_nil _).mono ?_
  rintro e w' ⟨rfl, rfl⟩
  have K : Kept No w ((w.alloc (.cells #[.slice none 0 0, .slice none 0 0] 96)).alloc (.cells #[.slice none 0 0, .slice none 0 0] 96)) := ((Kept.refl _ _).alloc _).alloc _
  go_wp2_with fail
  go_loop [5] (fun i => i = .int .i64 0) (fun _ => 0)
  case atStart => rfl
  case round =>
    obtain rfl := hrel
    go_wp2_with fail
    go_ret
    exact ⟨rfl, K⟩

set_option maxHeartbeats 2000000 in
theorem rsame20_hello (n : Int) (w : World) : Calls Tryz.prog 76 #[.agg (helloRow n), .agg (helloRow n)] w fun e w' => e = .returned (.bool true) ∧ Kept No w w' := by
  unfold helloRow
  go_enter Tryz.func76, Tryz.ntmps76
  go_wp2_with fail
  refine (rsame14_nil _).mono ?_
  rintro e w' ⟨rfl, rfl⟩
  go_wp2_with fail
  refine (rsame11_nil _).mono ?_
  rintro e w1 ⟨rfl, k1⟩
  have K1 : Hid (Kept No w w1) := Lib.hid ((((Kept.refl No w).alloc _).alloc _).trans k1)
  have ga := (((Kept.refl No (w.alloc (.cells #[.int .u8 1, .int .i64 0, .int .u8 n, .int .u16 0, .bool false, .string ByteArray.empty, .string ByteArray.empty, .slice none 0 0, .slice none 0 0, .slice none 0 0, .slice none 0 0, .slice none 0 0, .slice none 0 0] 98))).alloc (.cells #[.int .u8 1, .int .i64 0, .int .u8 n, .int .u16 0, .bool false, .string ByteArray.empty, .string ByteArray.empty, .slice none 0 0, .slice none 0 0, .slice none 0 0, .slice none 0 0, .slice none 0 0, .slice none 0 0] 98)).trans k1).heap (heap_alloc_new w _) (fun h => h)
  have gb := k1.heap (heap_alloc2_new w _ _) (fun h => h)
  have a7 := cell_of_row w1 _ 7 _ _ _ ga
  have a8 := cell_of_row w1 _ 8 _ _ _ ga
  have a10 := cell_of_row w1 _ 10 _ _ _ ga
  simp only [List.getElem?_toArray, List.getElem?_cons_zero, List.getElem?_cons_succ] at a7 a8 a10
  clear k1 ga gb
  go_wp2_with fail
  go_loop [5] (fun i => i = .int .i64 0) (fun _ => 0)
  case atStart => rfl
  case round =>
    obtain rfl := hrel
    go_wp2_with fail
    go_loop [6] (fun i => i = .int .i64 0) (fun _ => 0)
    case atStart => rfl
    case round =>
      obtain rfl := hrel
      go_wp2_with fail
      go_loop [7] (fun i => i = .int .i64 0) (fun _ => 0)
      case atStart => rfl
      case round =>
        obtain rfl := hrel
        go_wp2_with fail
        go_ret
        exact ⟨rfl, K1.out⟩

set_option maxHeartbeats 2000000 in
theorem rvalid_hello (n : Int) (h1 : 1 ≤ n) (h2 : n ≤ 32) (w : World) : Calls Tryz.prog 48 #[.agg (helloRow n)] w fun e w' => e = .returned (.int .i64 0) ∧ Kept No w w' := by
  have hu := fun w => rused_hello n w
  have hs := fun w => rsame20_hello n w
  unfold helloRow at hu hs ⊢
  have HU := Lib.hid hu
  have HS := Lib.hid hs
  clear hu hs
  go_enter Tryz.func48, Tryz.ntmps48
  go_wp2_with fail
  have g0 := heap_alloc_new w (.cells #[.int .u8 1, .int .i64 0, .int .u8 n, .int .u16 0, .bool false, .string ByteArray.empty, .string ByteArray.empty, .slice none 0 0, .slice none 0 0, .slice none 0 0, .slice none 0 0, .slice none 0 0, .slice none 0 0] 98)
  have k0 : Kept No w (w.alloc (.cells #[.int .u8 1, .int .i64 0, .int .u8 n, .int .u16 0, .bool false, .string ByteArray.empty, .string ByteArray.empty, .slice none 0 0, .slice none 0 0, .slice none 0 0, .slice none 0 0, .slice none 0 0, .slice none 0 0] 98)) := (Kept.refl _ _).alloc _
  generalize w.alloc (.cells #[.int .u8 1, .int .i64 0, .int .u8 n, .int .u16 0, .bool false, .string ByteArray.empty, .string ByteArray.empty, .slice none 0 0, .slice none 0 0, .slice none 0 0, .slice none 0 0, .slice none 0 0, .slice none 0 0] 98) = w0 at g0 k0 ⊢
  generalize w.heap.size = b at g0 ⊢
  have p0 := cell_in (M := No) (o := 0) g0 (fun h => h) rfl
  have p1 := cell_in (M := No) (o := 1) g0 (fun h => h) rfl
  have p2 := cell_in (M := No) (o := 2) g0 (fun h => h) rfl
  have p3 := cell_in (M := No) (o := 3) g0 (fun h => h) rfl
  have p4 := cell_in (M := No) (o := 4) g0 (fun h => h) rfl
  have p5 := cell_in (M := No) (o := 5) g0 (fun h => h) rfl
  have p6 := cell_in (M := No) (o := 6) g0 (fun h => h) rfl
  have p7 := cell_in (M := No) (o := 7) g0 (fun h => h) rfl
  have p8 := cell_in (M := No) (o := 8) g0 (fun h => h) rfl
  have p9 := cell_in (M := No) (o := 9) g0 (fun h => h) rfl
  have p10 := cell_in (M := No) (o := 10) g0 (fun h => h) rfl
  have p11 := cell_in (M := No) (o := 11) g0 (fun h => h) rfl
  have p12 := cell_in (M := No) (o := 12) g0 (fun h => h) rfl
  have K0 := Lib.hid k0
  clear k0 g0
  refine wp_region_in (Kept No w0) (by kernel_rfl) (by kernel_rfl) ((Kept.refl _ _).drew) ?_
  repeat (go_big_quiet_step ((first | (go_at_call 77; exact in_kept (HU.out _)) | (go_at_call 76; exact in_kept (HS.out _)))))
  refine wpQuiet_nil ?_
  intro w1 hw'
  obtain ⟨⟨wx, k1⟩, hw''⟩ := hw'
  change w1 = wx at hw''
  subst hw''
  clear p0 p1 p2 p3 p4 p5 p6 p7 p8 p9 p10 p11 p12
  go_wp2_with fail
  go_ret
  exact ⟨rfl, K0.out.trans k1⟩

set_option maxHeartbeats 2000000 in
theorem rencode_hello (n : Nat) (h1 : 1 ≤ n) (h2 : n ≤ 32) (w : World) : Calls Tryz.prog 34 #[.agg (helloRow n)] w fun e w' => e = .returned (.tuple #[.string ⟨#[1, UInt8.ofNat n]⟩, .int .i64 0]) ∧ Kept No w w' := by
  have hval := fun w => rvalid_hello n (by omega) (by omega) w
  unfold helloRow at hval ⊢
  have HVAL := Lib.hid hval
  clear hval
  have hv : (n : Int) = ((UInt8.ofNat n).toNat : Int) := by
    rw [UInt8.toNat_ofNat']
    have : n % 2 ^ 8 = n := Nat.mod_eq_of_lt (by omega)
    omega
  have HV := Lib.hid hv
  clear hv
  obtain ⟨i0, hi, hz0, hz1, hz2⟩ := info_parts Tryz.infoU8
  go_enter Tryz.func34, Tryz.ntmps34
  go_wp2_with fail
  refine (HVAL.out _).mono ?_
  rintro e w1 ⟨rfl, k1⟩
  have g1 := k1.heap (heap_alloc_new w _) (fun h => h)
  have c0 := cell_of_row w1 w.heap.size 0 _ _ _ g1
  have c2 := cell_of_row w1 w.heap.size 2 _ _ _ g1
  simp only [List.getElem?_toArray, List.getElem?_cons_zero, List.getElem?_cons_succ] at c0 c2
  have K1 : Hid (Kept No w w1) := Lib.hid (((Kept.refl No w).alloc _).trans k1)
  have hlt := lt_of_heap g1
  have hl1 : w.heap.size < w1.heap.size + 1 := by omega
  have hown := World.ownsRow_lit (base := w1.heap.size) (e := 5) (size := 1) w1 #[.int .u8 1] 1 (Nat.le_refl _) (by decide) rfl
  have HO := Lib.hid hown
  clear k1 g1 HVAL hown
  go_wp2_with (at_builtin; refine wpList_append_lies _ rfl _ _ 145 rfl w1.heap.size 5 i0 (.int .u8 0) 1 1 Tryz.underlying145 hi hz0 hz1 hz2 rfl (by decide) _ _ _ rfl (HO.out.alloc _) ⟨w1.heap.size + 1, 0, none⟩ 1 1 [.int .u8 (n : Int)] (by simp [Act.eval]) rfl ?c1 (by simp [Value.oneCell']) (by decide) (by decide) (by decide) (by simp; omega) _ rfl ?c2)
  case c1 =>
    have hb := heap_alloc2_new w1 (.cells #[.int .u8 1] 5) (.cells #[.int .u8 (n : Int)] 5)
    intro j u hu
    cases j with
    | zero =>
      have := cell_of_row _ _ 0 _ _ _ hb
      rw [add_off]
      simpa using this.trans hu
    | succ j => simp at hu
  case c2 =>
    intro g cap w2 hown' hgrow hg1 hg2
    have hrow : w2.ownsRow w1.heap.size 5 1 (.slice (some ⟨g, 0, none⟩) 2 cap) [1, UInt8.ofNat n].length (byteVals [1, UInt8.ofNat n]) := by
      have e : byteVals [1, UInt8.ofNat n] = [.int .u8 1] ++ [.int .u8 (n : Int)] := by
        rw [HV.out]; rfl
      rw [e]
      exact hown'
    have hcv := conv_row hrow
    have K2 : Hid (Kept No w w2) := Lib.hid (((K1.out.alloc _).alloc _).next (Kept.of_grown hgrow) (fun j hj h => by
      have : w1.heap.size = j := by simpa [Value.ownBlock] using h
      omega))
    clear hown' hgrow hg1 hg2 hrow HO K1 c0 c2
    go_wp2_with fail
    go_ret2
    exact ⟨rfl, K2.out⟩
end Go.Proofs.YtpkadglempbjiaaGreat
