/- Two reports of nothing are the same; the walk of ExchangeNames. -/
import Derived.Test.YtmjfaepgpjhfaaaGreatEnA
namespace Go.Proofs.YtmjfaepgpjhfaaaGreat
open Go.RowKit
set_option linter.unusedVariables false
set_option maxRecDepth 100000

theorem sameDiffs_nil (w : World) : Calls Tryz.prog 30 #[.slice none 0 0, .slice none 0 0] w fun e w' => e = .returned (.bool true) ∧ w = w' := by
  go_enter Tryz.func30, Tryz.ntmps30
  go_wp2_with fail
  go_loop [5] (fun i => i = .int .i64 0) (fun _ => 0)
  case atStart => rfl
  case round =>
    obtain rfl := hrel
    go_wp2
    go_ret
    exact ⟨rfl, rfl⟩
theorem sameReport_nil (w : World) : Calls Tryz.prog 11 #[.agg noReport, .agg noReport] w fun e w' => e = .returned (.bool true) ∧ Kept No w w' := by
  unfold noReport
  go_enter Tryz.func11, Tryz.ntmps11
  go_wp2_with fail
  refine (sameDiffs_nil _).mono ?_
  rintro e w' ⟨rfl, rfl⟩
  go_wp2_with fail
  have k0 : Kept No w ((w.alloc (.cells noReport 32)).alloc (.cells noReport 32)) := ((Kept.refl _ _).alloc _).alloc _
  go_loop [5] (fun i => i = .int .i64 0) (fun _ => 0)
  case atStart => rfl
  case round =>
    obtain rfl := hrel
    go_wp2
    go_ret
    exact ⟨rfl, k0⟩
set_option maxHeartbeats 2000000 in
theorem enames_walk (w : World) : Calls Tryz.prog 3 #[] w fun e w' => e = .returned (.bool true) ∧ Below w.heap.size w w' := by
  go_enter Tryz.func3, Tryz.ntmps3
  go_wp2_with fail
  refine (stop_nil _).mono ?_
  rintro e w' ⟨rfl, rfl⟩
  go_wp2_with fail
  refine (report_nil _).mono ?_
  rintro e w1 ⟨rfl, k1⟩
  unfold noReport
  go_wp2_with fail
  refine (dtake_nil 1 2 1 _).mono ?_
  rintro e w2 ⟨rfl, k2⟩
  unfold frameOf
  go_wp2_with fail
  refine (newdesk_nil _ _ _ _).mono ?_
  rintro e w' ⟨rfl, rfl⟩
  go_wp2_with fail
  refine (take_nil 0 0 0 _).mono ?_
  rintro e w3 ⟨rfl, k3⟩
  go_wp2_with fail
  refine (tick_nil _).mono ?_
  rintro e w' ⟨rfl, rfl⟩
  go_wp2_with fail
  refine (over_nil _).mono ?_
  rintro e w' ⟨rfl, rfl⟩
  have r1 := ((k2.alloc (.cells #[.int .u8 0, .int .u8 0, .int .u8 0, .int .u16 0, .int .u32 0, .int .u64 0, .int .u32 0, .bool false, .string ByteArray.empty] 36)).trans k3).heap (heap_alloc_new w1 _) (fun h => h)
  have r2 := k3.heap (heap_alloc_new w2 _) (fun h => h)
  have p0 := cell_of_row w3 w1.heap.size 0 _ _ _ r1
  have p1 := cell_of_row w3 w1.heap.size 1 _ _ _ r1
  have p2 := cell_of_row w3 w1.heap.size 2 _ _ _ r1
  have p3 := cell_of_row w3 w1.heap.size 3 _ _ _ r1
  have p4 := cell_of_row w3 w1.heap.size 4 _ _ _ r1
  have p5 := cell_of_row w3 w1.heap.size 5 _ _ _ r1
  have p6 := cell_of_row w3 w1.heap.size 6 _ _ _ r1
  have p7 := cell_of_row w3 w1.heap.size 7 _ _ _ r1
  have p8 := cell_of_row w3 w1.heap.size 8 _ _ _ r1
  have p9 := cell_of_row w3 w1.heap.size 9 _ _ _ r1
  have q0 := cell_of_row w3 w2.heap.size 0 _ _ _ r2
  have q1 := cell_of_row w3 w2.heap.size 1 _ _ _ r2
  have q2 := cell_of_row w3 w2.heap.size 2 _ _ _ r2
  have q3 := cell_of_row w3 w2.heap.size 3 _ _ _ r2
  have q4 := cell_of_row w3 w2.heap.size 4 _ _ _ r2
  have q5 := cell_of_row w3 w2.heap.size 5 _ _ _ r2
  have q6 := cell_of_row w3 w2.heap.size 6 _ _ _ r2
  have q7 := cell_of_row w3 w2.heap.size 7 _ _ _ r2
  have q8 := cell_of_row w3 w2.heap.size 8 _ _ _ r2
  simp only [List.getElem?_toArray, List.getElem?_cons_zero, List.getElem?_cons_succ] at p0 p1 p2 p3 p4 p5 p6 p7 p8 p9 q0 q1 q2 q3 q4 q5 q6 q7 q8
  have HK := Lib.hid (((k1.alloc _).trans k2).alloc _ |>.trans k3)
  clear k1 k2 k3
  go_wp2_with fail
  refine (sameReport_nil _).mono ?_
  rintro e w4 ⟨rfl, k4⟩
  have r3 := k4.heap r2 (fun h => h)
  have s0 := cell_of_row w4 w2.heap.size 0 _ _ _ r3
  have s1 := cell_of_row w4 w2.heap.size 1 _ _ _ r3
  have s2 := cell_of_row w4 w2.heap.size 2 _ _ _ r3
  have s3 := cell_of_row w4 w2.heap.size 3 _ _ _ r3
  have s4 := cell_of_row w4 w2.heap.size 4 _ _ _ r3
  have s5 := cell_of_row w4 w2.heap.size 5 _ _ _ r3
  have s6 := cell_of_row w4 w2.heap.size 6 _ _ _ r3
  have s7 := cell_of_row w4 w2.heap.size 7 _ _ _ r3
  have s8 := cell_of_row w4 w2.heap.size 8 _ _ _ r3
  simp only [List.getElem?_toArray, List.getElem?_cons_zero, List.getElem?_cons_succ] at s0 s1 s2 s3 s4 s5 s6 s7 s8
  have HK2 := Lib.hid (HK.out.trans k4)
  clear k4 r1 r2 r3 HK p0 p1 p2 p3 p4 p5 p6 p7 p8 p9 q0 q1 q2 q3 q4 q5 q6 q7 q8
  go_wp2_with fail
  refine (open_nil _).mono ?_
  rintro e w' ⟨rfl, rfl⟩
  go_wp2_with fail
  go_ret
  exact ⟨rfl, HK2.out.below (Nat.le_refl _) (fun _ _ h => h)⟩
end Go.Proofs.YtmjfaepgpjhfaaaGreat
