/- descent.Take: a message that is none; a refusal. -/
import Derived.Test.YtecdcmjjioanaaaGreatDnA
namespace Go.Proofs.YtecdcmjjioanaaaGreat
open Go.RowKit Go.Lib
set_option linter.unusedVariables false
set_option maxRecDepth 100000

set_option maxHeartbeats 2000000 in
theorem dtake_none (p : Nat) (w : World) (h16 : w.cell? ⟨p, 16, none⟩ = some (.bool false)) (h2 : w.cell? ⟨p, 2, none⟩ = some (.int .u8 2)) :
    Calls Tryz.prog 6 #[.pointer (some ⟨p, 0, none⟩), .agg (msgRow 0 0)] w fun e w' => e = .returned (.int .i64 240) ∧ Kept No w w' := by
  have hp0 := block_lt_of_cell h16
  unfold msgRow
  go_enter Tryz.func6, Tryz.ntmps6
  go_wp2_with fail
  have g0 := heap_alloc_new w (.cells #[.int .u8 0, .int .i64 0, .int .u8 0, .int .u16 0, .bool false, .string ByteArray.empty, .string ByteArray.empty, .slice none 0 0, .slice none 0 0, .slice none 0 0, .slice none 0 0, .slice none 0 0, .slice none 0 0] 34)
  have k0 : Kept No w (w.alloc (.cells #[.int .u8 0, .int .i64 0, .int .u8 0, .int .u16 0, .bool false, .string ByteArray.empty, .string ByteArray.empty, .slice none 0 0, .slice none 0 0, .slice none 0 0, .slice none 0 0, .slice none 0 0, .slice none 0 0] 34)) := (Kept.refl _ _).alloc _
  have c2 := (k0.cell (o := 2) hp0 (fun h => h)).trans h2
  generalize w.alloc (.cells #[.int .u8 0, .int .i64 0, .int .u8 0, .int .u16 0, .bool false, .string ByteArray.empty, .string ByteArray.empty, .slice none 0 0, .slice none 0 0, .slice none 0 0, .slice none 0 0, .slice none 0 0, .slice none 0 0] 34) = w0 at g0 k0 c2 ⊢
  generalize w.heap.size = b at g0 ⊢
  have p0 := cell_in (M := No) (o := 0) g0 (fun h => h) rfl
  have p1 := cell_in (M := No) (o := 1) g0 (fun h => h) rfl
  have p2 := cell_in (M := No) (o := 2) g0 (fun h => h) rfl
  have p3 := cell_in (M := No) (o := 3) g0 (fun h => h) rfl
  have p4 := cell_in (M := No) (o := 4) g0 (fun h => h) rfl
  have p5 := cell_in (M := No) (o := 5) g0 (fun h => h) rfl
  have p6 := cell_in (M := No) (o := 6) g0 (fun h => h) rfl
  have p7 := cell_in (M := No) (o := 7) g0 (fun h => h) rfl
  have p8 := cell_in (M := No) (o := 8) g0 (fun h => h) rfl
  have p9 := cell_in (M := No) (o := 9) g0 (fun h => h) rfl
  have p10 := cell_in (M := No) (o := 10) g0 (fun h => h) rfl
  have p11 := cell_in (M := No) (o := 11) g0 (fun h => h) rfl
  have p12 := cell_in (M := No) (o := 12) g0 (fun h => h) rfl
  have d2 := cell_at (M := No) c2 (fun h => h)
  have hv := fun w => valid_0 w
  unfold msgRow at hv
  have HV := Lib.hid hv
  have K0 := Lib.hid k0
  clear hv k0 g0 h16 h2 c2
  refine wp_region_in (Kept No w0) (by kernel_rfl) (by kernel_rfl) ((Kept.refl _ _).drew) ?_
  repeat (go_big_quiet_step ((first | (go_at_call 13; exact in_kept (HV.out _)) | (go_at_call 14; exact in_same (answers_ok _)))))
  refine wpQuiet_nil ?_
  intro w1 hw'
  obtain ⟨⟨wx, k1⟩, hw''⟩ := hw'
  change w1 = wx at hw''
  subst hw''
  have q0 : w1.cell? ⟨b, 0, none⟩ = some (.int .u8 0) := p0 ⟨w1, k1⟩
  have q1 : w1.cell? ⟨b, 1, none⟩ = some (.int .i64 0) := p1 ⟨w1, k1⟩
  clear p0 p1 p2 p3 p4 p5 p6 p7 p8 p9 p10 p11 p12 d2
  go_wp2_with fail
  go_ret
  exact ⟨rfl, K0.out.trans k1⟩

set_option maxHeartbeats 2000000 in
theorem dtake_refused (p : Nat) (w : World) (h16 : w.cell? ⟨p, 16, none⟩ = some (.bool false)) (h2 : w.cell? ⟨p, 2, none⟩ = some (.int .u8 2)) :
    Calls Tryz.prog 6 #[.pointer (some ⟨p, 0, none⟩), .agg (msgRow 18 170)] w fun e w' => e = .returned (.int .i64 170) ∧ Kept No w w' := by
  have hp0 := block_lt_of_cell h16
  unfold msgRow
  go_enter Tryz.func6, Tryz.ntmps6
  go_wp2_with fail
  have g0 := heap_alloc_new w (.cells #[.int .u8 18, .int .i64 170, .int .u8 0, .int .u16 0, .bool false, .string ByteArray.empty, .string ByteArray.empty, .slice none 0 0, .slice none 0 0, .slice none 0 0, .slice none 0 0, .slice none 0 0, .slice none 0 0] 34)
  have k0 : Kept No w (w.alloc (.cells #[.int .u8 18, .int .i64 170, .int .u8 0, .int .u16 0, .bool false, .string ByteArray.empty, .string ByteArray.empty, .slice none 0 0, .slice none 0 0, .slice none 0 0, .slice none 0 0, .slice none 0 0, .slice none 0 0] 34)) := (Kept.refl _ _).alloc _
  have c2 := (k0.cell (o := 2) hp0 (fun h => h)).trans h2
  generalize w.alloc (.cells #[.int .u8 18, .int .i64 170, .int .u8 0, .int .u16 0, .bool false, .string ByteArray.empty, .string ByteArray.empty, .slice none 0 0, .slice none 0 0, .slice none 0 0, .slice none 0 0, .slice none 0 0, .slice none 0 0] 34) = w0 at g0 k0 c2 ⊢
  generalize w.heap.size = b at g0 ⊢
  have p0 := cell_in (M := No) (o := 0) g0 (fun h => h) rfl
  have p1 := cell_in (M := No) (o := 1) g0 (fun h => h) rfl
  have p2 := cell_in (M := No) (o := 2) g0 (fun h => h) rfl
  have p3 := cell_in (M := No) (o := 3) g0 (fun h => h) rfl
  have p4 := cell_in (M := No) (o := 4) g0 (fun h => h) rfl
  have p5 := cell_in (M := No) (o := 5) g0 (fun h => h) rfl
  have p6 := cell_in (M := No) (o := 6) g0 (fun h => h) rfl
  have p7 := cell_in (M := No) (o := 7) g0 (fun h => h) rfl
  have p8 := cell_in (M := No) (o := 8) g0 (fun h => h) rfl
  have p9 := cell_in (M := No) (o := 9) g0 (fun h => h) rfl
  have p10 := cell_in (M := No) (o := 10) g0 (fun h => h) rfl
  have p11 := cell_in (M := No) (o := 11) g0 (fun h => h) rfl
  have p12 := cell_in (M := No) (o := 12) g0 (fun h => h) rfl
  have d2 := cell_at (M := No) c2 (fun h => h)
  have hv := fun w => valid_18 w
  unfold msgRow at hv
  have HV := Lib.hid hv
  have K0 := Lib.hid k0
  clear hv k0 g0 h16 h2 c2
  refine wp_region_in (Kept No w0) (by kernel_rfl) (by kernel_rfl) ((Kept.refl _ _).drew) ?_
  repeat (go_big_quiet_step ((first | (go_at_call 13; exact in_kept (HV.out _)) | (go_at_call 14; exact in_same (answers_ok _)))))
  refine wpQuiet_nil ?_
  intro w1 hw'
  obtain ⟨⟨wx, k1⟩, hw''⟩ := hw'
  change w1 = wx at hw''
  subst hw''
  have q0 : w1.cell? ⟨b, 0, none⟩ = some (.int .u8 18) := p0 ⟨w1, k1⟩
  have q1 : w1.cell? ⟨b, 1, none⟩ = some (.int .i64 170) := p1 ⟨w1, k1⟩
  clear p0 p1 p2 p3 p4 p5 p6 p7 p8 p9 p10 p11 p12 d2
  go_wp2_with fail
  go_ret
  exact ⟨rfl, K0.out.trans k1⟩
end Go.Proofs.YtecdcmjjioanaaaGreat
