/- message.Valid, Answers: of a message of nothing and of a refusal. -/
import Derived.Test.YtecdcmjjioanaaaGreatMsB
import Derived.StillTailTactics
namespace Go.Proofs.YtecdcmjjioanaaaGreat
open Go.RowKit Go.Lib
set_option linter.unusedVariables false
set_option maxRecDepth 100000

theorem eq16_nil (w : World) : Calls Tryz.prog 45 #[.slice none 0 0, .slice none 0 0] w fun e w' => e = .returned (.bool true) ∧ w = w' := by
  go_enter Tryz.func45, Tryz.ntmps45
  go_wp2_with fail
  go_loop [13] (fun i => i = .int .i64 0) (fun _ => 0)
  case atStart => rfl
  case round =>
    obtain rfl := hrel
    go_wp2_with fail
    go_ret
    exact ⟨rfl, rfl⟩
theorem eqEntry_nil (w : World) : Calls Tryz.prog 48 #[.slice none 0 0, .slice none 0 0] w fun e w' => e = .returned (.bool true) ∧ w = w' := by
  go_enter Tryz.func48, Tryz.ntmps48
  go_wp2_with fail
  go_loop [13] (fun i => i = .int .i64 0) (fun _ => 0)
  case atStart => rfl
  case round =>
    obtain rfl := hrel
    go_wp2_with fail
    go_ret
    exact ⟨rfl, rfl⟩
theorem eqCell_nil (w : World) : Calls Tryz.prog 49 #[.slice none 0 0, .slice none 0 0] w fun e w' => e = .returned (.bool true) ∧ w = w' := by
  go_enter Tryz.func49, Tryz.ntmps49
  go_wp2_with fail
  go_loop [13] (fun i => i = .int .i64 0) (fun _ => 0)
  case atStart => rfl
  case round =>
    obtain rfl := hrel
    go_wp2_with fail
    go_ret
    exact ⟨rfl, rfl⟩
theorem eqDot_nil (w : World) : Calls Tryz.prog 129 #[.slice none 0 0, .slice none 0 0] w fun e w' => e = .returned (.bool true) ∧ w = w' := by
  go_enter Tryz.func129, Tryz.ntmps129
  go_wp2_with fail
  go_loop [13] (fun i => i = .int .i64 0) (fun _ => 0)
  case atStart => rfl
  case round =>
    obtain rfl := hrel
    go_wp2_with fail
    go_ret
    exact ⟨rfl, rfl⟩
theorem eqSib_nil (w : World) : Calls Tryz.prog 130 #[.slice none 0 0, .slice none 0 0] w fun e w' => e = .returned (.bool true) ∧ w = w' := by
  go_enter Tryz.func130, Tryz.ntmps130
  go_wp2_with fail
  go_loop [13] (fun i => i = .int .i64 0) (fun _ => 0)
  case atStart => rfl
  case round =>
    obtain rfl := hrel
    go_wp2_with fail
    go_ret
    exact ⟨rfl, rfl⟩
theorem eqFunc_nil (w : World) : Calls Tryz.prog 46 #[.slice none 0 0, .slice none 0 0, .func (.func 47) #[] #[]] w fun e w' => e = .returned (.bool true) ∧ w = w' := by
  go_enter Tryz.func46, Tryz.ntmps46
  go_wp2_with fail
  go_loop [17] (fun i => i = .int .i64 0) (fun _ => 0)
  case atStart => rfl
  case round =>
    obtain rfl := hrel
    go_wp2_with fail
    go_ret
    exact ⟨rfl, rfl⟩

theorem dsame_nil (w : World) : Calls Tryz.prog 50 #[.agg #[.slice none 0 0, .slice none 0 0], .agg #[.slice none 0 0, .slice none 0 0]] w fun e w' => e = .returned (.bool true) ∧ Kept No w w' := by
  go_enter Tryz.func50, Tryz.ntmps50
  go_wp2_with fail
  refine (eqDot_nil _).mono ?_
  rintro e w' ⟨rfl, rfl⟩
  go_wp2_with fail
  refine (eqSib_nil _).mono ?_
  rintro e w' ⟨rfl, rfl⟩
  go_wp2_with fail
  go_ret
  exact ⟨rfl, ((Kept.refl _ _).alloc _).alloc _⟩

def msgRow (k c : Int) : Array Value := #[.int .u8 k, .int .i64 c, .int .u8 0, .int .u16 0, .bool false, .string ByteArray.empty, .string ByteArray.empty, .slice none 0 0, .slice none 0 0, .slice none 0 0, .slice none 0 0, .slice none 0 0, .slice none 0 0]

set_option maxHeartbeats 1000000 in
theorem msame_nil (w : World) : Calls Tryz.prog 24 #[.agg (msgRow 18 0), .agg (msgRow 18 0)] w fun e w' => e = .returned (.bool true) ∧ Kept No w w' := by
  unfold msgRow
  go_enter Tryz.func24, Tryz.ntmps24
  go_wp2_with fail
  refine (eq16_nil _).mono ?_
  rintro e w' ⟨rfl, rfl⟩
  go_wp2_with fail
  refine (eqFunc_nil _).mono ?_
  rintro e w' ⟨rfl, rfl⟩
  go_wp2_with fail
  refine (eqEntry_nil _).mono ?_
  rintro e w' ⟨rfl, rfl⟩
  go_wp2_with fail
  refine (eqCell_nil _).mono ?_
  rintro e w' ⟨rfl, rfl⟩
  go_wp2_with fail
  refine (dsame_nil _).mono ?_
  rintro e w1 ⟨rfl, k1⟩
  go_wp2_with fail
  go_ret
  exact ⟨rfl, (((Kept.refl No w).alloc _).alloc _).trans k1⟩

theorem asks_ok (w : World) : Calls Tryz.prog 25 #[.int .u8 2] w fun e w' => e = .returned (.bool true) ∧ w = w' := by
  go_enter Tryz.func25, Tryz.ntmps25
  go_wp2_with fail
  go_ret
  exact ⟨rfl, rfl⟩
theorem answers_ok (w : World) : Calls Tryz.prog 14 #[.int .u8 2, .int .u8 18] w fun e w' => e = .returned (.bool true) ∧ w = w' := by
  go_enter Tryz.func14, Tryz.ntmps14
  go_wp2_with fail
  refine (asks_ok _).mono ?_
  rintro e w' ⟨rfl, rfl⟩
  go_wp2_with fail
  go_ret
  exact ⟨rfl, rfl⟩
theorem refusal_ok (p : Nat) (w : World) (h : w.cell? ⟨p, 1, none⟩ = some (.int .i64 170)) : Calls Tryz.prog 128 #[.pointer (some ⟨p, 0, none⟩)] w fun e w' => e = .returned (.bool true) ∧ w = w' := by
  go_enter Tryz.func128, Tryz.ntmps128
  go_wp2_with fail
  go_ret
  exact ⟨rfl, rfl⟩
theorem nocode_ok (p : Nat) (w : World) (v : Value) (h : w.cell? ⟨p, 1, none⟩ = some v) (hf : w.frozen? ⟨p, 1, none⟩ = false) : Calls Tryz.prog 125 #[.pointer (some ⟨p, 0, none⟩)] w fun e w' => e = .returned (.bool true) ∧ w' = w.setCell ⟨p, 1, none⟩ (.int .i64 0) := by
  go_enter Tryz.func125, Tryz.ntmps125
  go_wp2_with fail
  go_ret
  exact ⟨rfl, rfl⟩

set_option maxHeartbeats 1000000 in
theorem valid_0 (w : World) : Calls Tryz.prog 13 #[.agg (msgRow 0 0)] w fun e w' => e = .returned (.int .i64 200) ∧ Kept No w w' := by
  unfold msgRow
  go_enter Tryz.func13, Tryz.ntmps13
  go_wp2_with fail
  refine (of_0 _).mono ?_
  rintro e w1 ⟨rfl, k1⟩
  unfold face0
  go_wp2_with fail
  go_ret
  exact ⟨rfl, (((Kept.refl No w).alloc _).trans k1).alloc _⟩

set_option maxHeartbeats 2000000 in
theorem valid_18 (w : World) : Calls Tryz.prog 13 #[.agg (msgRow 18 170)] w fun e w' => e = .returned (.int .i64 0) ∧ Kept No w w' := by
  unfold msgRow
  go_enter Tryz.func13, Tryz.ntmps13
  go_wp2_with fail
  refine (of_18 _).mono ?_
  rintro e w1 ⟨rfl, k1⟩
  have r1 := k1.heap (heap_alloc_new w _) (fun h => h)
  have p0 := cell_of_row w1 w.heap.size 0 _ _ _ r1
  have p1 := cell_of_row w1 w.heap.size 1 _ _ _ r1
  have p2 := cell_of_row w1 w.heap.size 2 _ _ _ r1
  have p3 := cell_of_row w1 w.heap.size 3 _ _ _ r1
  have p4 := cell_of_row w1 w.heap.size 4 _ _ _ r1
  have p5 := cell_of_row w1 w.heap.size 5 _ _ _ r1
  have p6 := cell_of_row w1 w.heap.size 6 _ _ _ r1
  have p7 := cell_of_row w1 w.heap.size 7 _ _ _ r1
  have p8 := cell_of_row w1 w.heap.size 8 _ _ _ r1
  have p9 := cell_of_row w1 w.heap.size 9 _ _ _ r1
  have p10 := cell_of_row w1 w.heap.size 10 _ _ _ r1
  have p11 := cell_of_row w1 w.heap.size 11 _ _ _ r1
  have p12 := cell_of_row w1 w.heap.size 12 _ _ _ r1
  simp only [List.getElem?_toArray, List.getElem?_cons_zero, List.getElem?_cons_succ] at p0 p1 p2 p3 p4 p5 p6 p7 p8 p9 p10 p11 p12
  have hlt := lt_of_heap r1
  have K1 : Hid (Kept No w w1) := Lib.hid (((Kept.refl No w).alloc _).trans k1)
  have R1 := Lib.hid r1
  clear k1 r1
  unfold face18
  go_wp2_with fail
  refine (refusal_ok _ _ (by go_simp)).mono ?_
  rintro e w' ⟨rfl, rfl⟩
  go_wp2_with fail
  have g2 : (((w1.alloc (.cells #[(.func (.func 128) #[] #[]), (.func (.func 125) #[] #[]), (.func (.func 126) #[] #[]), (.func (.func 127) #[] #[])] 77)).alloc (.cells #[.int .u8 18, .int .i64 170, .int .u8 0, .int .u16 0, .bool false, .string ByteArray.empty, .string ByteArray.empty, .slice none 0 0, .slice none 0 0, .slice none 0 0, .slice none 0 0, .slice none 0 0, .slice none 0 0, .pointer none, .pointer none] 84)).alloc (.cells #[.int .u8 18, .int .i64 170, .int .u8 0, .int .u16 0, .bool false, .string ByteArray.empty, .string ByteArray.empty, .slice none 0 0, .slice none 0 0, .slice none 0 0, .slice none 0 0, .slice none 0 0, .slice none 0 0, .pointer none, .pointer none] 84)).heap[w1.heap.size + 1 + 1]? = some (.cells #[.int .u8 18, .int .i64 170, .int .u8 0, .int .u16 0, .bool false, .string ByteArray.empty, .string ByteArray.empty, .slice none 0 0, .slice none 0 0, .slice none 0 0, .slice none 0 0, .slice none 0 0, .slice none 0 0, .pointer none, .pointer none] 84 (0, 0)) := by
    have := heap_alloc_new ((w1.alloc (.cells #[(.func (.func 128) #[] #[]), (.func (.func 125) #[] #[]), (.func (.func 126) #[] #[]), (.func (.func 127) #[] #[])] 77)).alloc (.cells #[.int .u8 18, .int .i64 170, .int .u8 0, .int .u16 0, .bool false, .string ByteArray.empty, .string ByteArray.empty, .slice none 0 0, .slice none 0 0, .slice none 0 0, .slice none 0 0, .slice none 0 0, .slice none 0 0, .pointer none, .pointer none] 84)) (.cells #[.int .u8 18, .int .i64 170, .int .u8 0, .int .u16 0, .bool false, .string ByteArray.empty, .string ByteArray.empty, .slice none 0 0, .slice none 0 0, .slice none 0 0, .slice none 0 0, .slice none 0 0, .slice none 0 0, .pointer none, .pointer none] 84)
    simpa using this
  have k2 : Kept No w1 (((w1.alloc (.cells #[(.func (.func 128) #[] #[]), (.func (.func 125) #[] #[]), (.func (.func 126) #[] #[]), (.func (.func 127) #[] #[])] 77)).alloc (.cells #[.int .u8 18, .int .i64 170, .int .u8 0, .int .u16 0, .bool false, .string ByteArray.empty, .string ByteArray.empty, .slice none 0 0, .slice none 0 0, .slice none 0 0, .slice none 0 0, .slice none 0 0, .slice none 0 0, .pointer none, .pointer none] 84)).alloc (.cells #[.int .u8 18, .int .i64 170, .int .u8 0, .int .u16 0, .bool false, .string ByteArray.empty, .string ByteArray.empty, .slice none 0 0, .slice none 0 0, .slice none 0 0, .slice none 0 0, .slice none 0 0, .slice none 0 0, .pointer none, .pointer none] 84)) := (((Kept.refl No w1).alloc _).alloc _).alloc _
  have hbw : w1.heap.size + 1 + 1 ≠ w.heap.size := by omega
  have hbl : w.heap.size ≤ w1.heap.size + 1 + 1 := by omega
  generalize (((w1.alloc (.cells #[(.func (.func 128) #[] #[]), (.func (.func 125) #[] #[]), (.func (.func 126) #[] #[]), (.func (.func 127) #[] #[])] 77)).alloc (.cells #[.int .u8 18, .int .i64 170, .int .u8 0, .int .u16 0, .bool false, .string ByteArray.empty, .string ByteArray.empty, .slice none 0 0, .slice none 0 0, .slice none 0 0, .slice none 0 0, .slice none 0 0, .slice none 0 0, .pointer none, .pointer none] 84)).alloc (.cells #[.int .u8 18, .int .i64 170, .int .u8 0, .int .u16 0, .bool false, .string ByteArray.empty, .string ByteArray.empty, .slice none 0 0, .slice none 0 0, .slice none 0 0, .slice none 0 0, .slice none 0 0, .slice none 0 0, .pointer none, .pointer none] 84)) = w2 at g2 k2 ⊢
  generalize w1.heap.size + 1 + 1 = b at g2 hbw hbl ⊢
  have r2 := k2.heap R1.out (fun h => h)
  have c1 := cell_of_row w2 b 1 _ _ _ g2
  have c2 := frozen_of_row w2 b 1 _ _ g2
  simp only [List.getElem?_toArray, List.getElem?_cons_zero, List.getElem?_cons_succ] at c1
  refine (nocode_ok _ _ _ c1 c2).mono ?_
  rintro e w3 ⟨rfl, e3⟩
  have r3 : w3.heap[b]? = some (.cells #[.int .u8 18, .int .i64 0, .int .u8 0, .int .u16 0, .bool false, .string ByteArray.empty, .string ByteArray.empty, .slice none 0 0, .slice none 0 0, .slice none 0 0, .slice none 0 0, .slice none 0 0, .slice none 0 0, .pointer none, .pointer none] 84 (0, 0)) := by
    rw [e3]; exact heap_setCell_same w2 b 1 _ _ _ g2
  have k3 : Kept (fun k => k = b) w1 w3 := by
    rw [e3]; exact (k2.of_no _).setCell _ _ (fun _ => rfl)
  have r4 := (k3.heap R1.out (fun h => hbw h.symm))
  have K3 : Hid (Kept (fun k => k = b) w1 w3) := Lib.hid k3
  have p20 := cell_of_row w3 w.heap.size 0 _ _ _ r4
  simp only [List.getElem?_toArray, List.getElem?_cons_zero] at p20
  have q0 := cell_of_row w3 b 0 _ _ _ r3
  have q1 := cell_of_row w3 b 1 _ _ _ r3
  have q2 := cell_of_row w3 b 2 _ _ _ r3
  have q3 := cell_of_row w3 b 3 _ _ _ r3
  have q4 := cell_of_row w3 b 4 _ _ _ r3
  have q5 := cell_of_row w3 b 5 _ _ _ r3
  have q6 := cell_of_row w3 b 6 _ _ _ r3
  have q7 := cell_of_row w3 b 7 _ _ _ r3
  have q8 := cell_of_row w3 b 8 _ _ _ r3
  have q9 := cell_of_row w3 b 9 _ _ _ r3
  have q10 := cell_of_row w3 b 10 _ _ _ r3
  have q11 := cell_of_row w3 b 11 _ _ _ r3
  have q12 := cell_of_row w3 b 12 _ _ _ r3
  simp only [List.getElem?_toArray, List.getElem?_cons_zero, List.getElem?_cons_succ] at q0 q1 q2 q3 q4 q5 q6 q7 q8 q9 q10 q11 q12
  clear p0 p1 p2 p3 p4 p5 p6 p7 p8 p9 p10 p11 p12 g2 k2 c1 c2 e3 r2 r3 r4 k3
  have hcall := msame_nil w3.drew
  unfold msgRow at hcall
  have HC := Lib.hid hcall
  clear hcall
  go_wp2_with fail
  go_still_tail 7, (by kernel_rfl)
  repeat still_step
  change wpList _ _ _ _ _ w3.drew
  go_wp2_with fail
  have e0 : (Value.string { data := #[] }) = .string ByteArray.empty := rfl
  rw [e0]
  refine HC.out.mono ?_
  rintro e w4 ⟨rfl, k4⟩
  have K4 : Hid (Kept No w w4) := Lib.hid (((K1.out.next K3.out (fun j hj e => by omega)).drew).trans k4)
  clear k4 HC
  go_wp2_with fail
  go_ret
  exact ⟨rfl, K4.out⟩
end Go.Proofs.YtecdcmjjioanaaaGreat
