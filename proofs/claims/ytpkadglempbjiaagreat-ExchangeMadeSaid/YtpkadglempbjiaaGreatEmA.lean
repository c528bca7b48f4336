/- message.Valid, Encode: of a Hello. -/
import Derived.Test.YtpkadglempbjiaaGreatMsE
import Derived.Test.YtpkadglempbjiaaGreatLwB
import Derived.Test.YtpkadglempbjiaaGreatQk
import Derived.Test.YtpkadglempbjiaaGreatWrC
import Derived.Test.YtpkadglempbjiaaGreatWrE
import Derived.Deep.RegionHeld3
namespace Go.Proofs.YtpkadglempbjiaaGreat
open Go.RowKit Go.Lib
set_option linter.unusedVariables false
set_option linter.unusedSimpArgs false
set_option maxRecDepth 100000

def face1 : Value := .agg #[.func (.func 101) #[] #[], .func (.func 102) #[] #[], .func (.func 103) #[] #[], .func (.func 104) #[] #[]]
def helloRow (n : Int) : Array Value := #[.int .u8 1, .int .i64 0, .int .u8 n, .int .u16 0, .bool false, .string ByteArray.empty, .string ByteArray.empty, .slice none 0 0, .slice none 0 0, .slice none 0 0, .slice none 0 0, .slice none 0 0, .slice none 0 0]

set_option maxHeartbeats 1000000 in
theorem of_1 (w : World) : Calls Tryz.prog 56 #[.int .u8 1] w fun e w' => e = .returned (.tuple #[face1, .bool true]) ∧ Kept No w w' := by
  have hq : ∀ w, (binOp BinOp.eql 162 (.func (.func 101) #[] #[]) .nilFunc).run Tryz.prog w = .ok (.bool false) w := fun _ => by kernel_rfl
  have f0 : faceRow[4]? = some (.func (.func 101) #[] #[]) := by kernel_rfl
  have f1 : faceRow[5]? = some (.func (.func 102) #[] #[]) := by kernel_rfl
  have f2 : faceRow[6]? = some (.func (.func 103) #[] #[]) := by kernel_rfl
  have f3 : faceRow[7]? = some (.func (.func 104) #[] #[]) := by kernel_rfl
  go_enter Tryz.func56, Tryz.ntmps56
  go_wp2_with fail
  refine (faces_ok _).mono ?_
  rintro e w1 ⟨rfl, k1⟩
  have HB : Hid ((w1.alloc (.cells faceRow 198)).heap[w.heap.size]? = some (.cells #[.nilFunc, .nilFunc, .nilFunc, .nilFunc] 165 (0, 0))) := Lib.hid (((Kept.refl No _).alloc _).heap (k1.heap (heap_alloc_new w _) (fun h => h)) (fun h => h))
  have K1 : Hid (Kept No w (w1.alloc (.cells faceRow 198))) := Lib.hid ((((Kept.refl No w).alloc _).trans k1).alloc _)
  clear k1
  go_wp2_with (first | (refine wpList_store_new (by rfl) 198 (.tmp 4) (.tmp 5) (by rfl) w1 198 Tryz.zeroCells198 faceRow (by rfl) (by rfl) (by rfl) (by kernel_rfl) (by kernel_rfl) (by kernel_rfl) ?_) | (refine wpList_store_row (by rfl) 165 (.tmp 2) (.tmp 19) (by rfl) w.heap.size 165 _ #[.func (.func 101) #[] #[], .func (.func 102) #[] #[], .func (.func 103) #[] #[], .func (.func 104) #[] #[]] (by rfl) (by rfl) HB.out (by kernel_rfl) (by rfl) (by kernel_rfl) ?_))
  refine bodyPost_ret (results_pair rfl _ _ _ _ _ _ _ rfl (setRow_heap _ _ _ _ _ _ HB.out) Tryz.underlying165 rfl (by kernel_rfl)) rfl ?_
  exact ⟨rfl, K1.out.setRow _ _ (fun h => absurd h (by simp))⟩

theorem width_ok (p : Nat) (n : Int) (h1 : 1 ≤ n) (h2 : n ≤ 32) (w : World) (h : w.cell? ⟨p, 2, none⟩ = some (.int .u8 n)) : Calls Tryz.prog 101 #[.pointer (some ⟨p, 0, none⟩)] w fun e w' => e = .returned (.bool true) ∧ w = w' := by
  go_enter Tryz.func101, Tryz.ntmps101
  go_wp2_with fail
  go_ret
  exact ⟨rfl, rfl⟩
theorem nowidth_ok (p : Nat) (w : World) (v : Value) (h : w.cell? ⟨p, 2, none⟩ = some v) (hf : w.frozen? ⟨p, 2, none⟩ = false) : Calls Tryz.prog 102 #[.pointer (some ⟨p, 0, none⟩)] w fun e w' => e = .returned (.bool true) ∧ w' = w.setCell ⟨p, 2, none⟩ (.int .u8 0) := by
  go_enter Tryz.func102, Tryz.ntmps102
  go_wp2_with fail
  go_ret
  exact ⟨rfl, rfl⟩

set_option maxHeartbeats 2000000 in
theorem valid_hello (n : Int) (h1 : 1 ≤ n) (h2 : n ≤ 32) (w : World) : Calls Tryz.prog 55 #[.agg (helloRow n)] w fun e w' => e = .returned (.int .i64 0) ∧ Kept No w w' := by
  unfold helloRow
  go_enter Tryz.func55, Tryz.ntmps55
  go_wp2_with fail
  refine (of_1 _).mono ?_
  rintro e w1 ⟨rfl, k1⟩
  have r1 := k1.heap (heap_alloc_new w _) (fun h => h)
  have p0 := cell_of_row w1 w.heap.size 0 _ _ _ r1
  have p1 := cell_of_row w1 w.heap.size 1 _ _ _ r1
  have p2 := cell_of_row w1 w.heap.size 2 _ _ _ r1
  have p3 := cell_of_row w1 w.heap.size 3 _ _ _ r1
  have p4 := cell_of_row w1 w.heap.size 4 _ _ _ r1
  have p5 := cell_of_row w1 w.heap.size 5 _ _ _ r1
  have p6 := cell_of_row w1 w.heap.size 6 _ _ _ r1
  have p7 := cell_of_row w1 w.heap.size 7 _ _ _ r1
  have p8 := cell_of_row w1 w.heap.size 8 _ _ _ r1
  have p9 := cell_of_row w1 w.heap.size 9 _ _ _ r1
  have p10 := cell_of_row w1 w.heap.size 10 _ _ _ r1
  have p11 := cell_of_row w1 w.heap.size 11 _ _ _ r1
  have p12 := cell_of_row w1 w.heap.size 12 _ _ _ r1
  simp only [List.getElem?_toArray, List.getElem?_cons_zero, List.getElem?_cons_succ] at p0 p1 p2 p3 p4 p5 p6 p7 p8 p9 p10 p11 p12
  have hlt := lt_of_heap r1
  have K1 : Hid (Kept No w w1) := Lib.hid (((Kept.refl No w).alloc _).trans k1)
  have R1 := Lib.hid r1
  clear k1 r1
  unfold face1
  go_wp2_with fail
  refine (width_ok _ n h1 h2 _ (by go_simp)).mono ?_
  rintro e w' ⟨rfl, rfl⟩
  go_wp2_with fail
  have g2 : (((w1.alloc (.cells #[.func (.func 101) #[] #[], .func (.func 102) #[] #[], .func (.func 103) #[] #[], .func (.func 104) #[] #[]] 165)).alloc (.cells #[.int .u8 1, .int .i64 0, .int .u8 n, .int .u16 0, .bool false, .string ByteArray.empty, .string ByteArray.empty, .slice none 0 0, .slice none 0 0, .slice none 0 0, .slice none 0 0, .slice none 0 0, .slice none 0 0, .pointer none, .pointer none] 173)).alloc (.cells #[.int .u8 1, .int .i64 0, .int .u8 n, .int .u16 0, .bool false, .string ByteArray.empty, .string ByteArray.empty, .slice none 0 0, .slice none 0 0, .slice none 0 0, .slice none 0 0, .slice none 0 0, .slice none 0 0, .pointer none, .pointer none] 173)).heap[w1.heap.size + 1 + 1]? = some (.cells #[.int .u8 1, .int .i64 0, .int .u8 n, .int .u16 0, .bool false, .string ByteArray.empty, .string ByteArray.empty, .slice none 0 0, .slice none 0 0, .slice none 0 0, .slice none 0 0, .slice none 0 0, .slice none 0 0, .pointer none, .pointer none] 173 (0, 0)) := by
    have := heap_alloc_new ((w1.alloc (.cells #[.func (.func 101) #[] #[], .func (.func 102) #[] #[], .func (.func 103) #[] #[], .func (.func 104) #[] #[]] 165)).alloc (.cells #[.int .u8 1, .int .i64 0, .int .u8 n, .int .u16 0, .bool false, .string ByteArray.empty, .string ByteArray.empty, .slice none 0 0, .slice none 0 0, .slice none 0 0, .slice none 0 0, .slice none 0 0, .slice none 0 0, .pointer none, .pointer none] 173)) (.cells #[.int .u8 1, .int .i64 0, .int .u8 n, .int .u16 0, .bool false, .string ByteArray.empty, .string ByteArray.empty, .slice none 0 0, .slice none 0 0, .slice none 0 0, .slice none 0 0, .slice none 0 0, .slice none 0 0, .pointer none, .pointer none] 173)
    simpa using this
  have k2 : Kept No w1 (((w1.alloc (.cells #[.func (.func 101) #[] #[], .func (.func 102) #[] #[], .func (.func 103) #[] #[], .func (.func 104) #[] #[]] 165)).alloc (.cells #[.int .u8 1, .int .i64 0, .int .u8 n, .int .u16 0, .bool false, .string ByteArray.empty, .string ByteArray.empty, .slice none 0 0, .slice none 0 0, .slice none 0 0, .slice none 0 0, .slice none 0 0, .slice none 0 0, .pointer none, .pointer none] 173)).alloc (.cells #[.int .u8 1, .int .i64 0, .int .u8 n, .int .u16 0, .bool false, .string ByteArray.empty, .string ByteArray.empty, .slice none 0 0, .slice none 0 0, .slice none 0 0, .slice none 0 0, .slice none 0 0, .slice none 0 0, .pointer none, .pointer none] 173)) := (((Kept.refl No w1).alloc _).alloc _).alloc _
  have hbw : w1.heap.size + 1 + 1 ≠ w.heap.size := by omega
  have hbl : w.heap.size ≤ w1.heap.size + 1 + 1 := by omega
  generalize (((w1.alloc (.cells #[.func (.func 101) #[] #[], .func (.func 102) #[] #[], .func (.func 103) #[] #[], .func (.func 104) #[] #[]] 165)).alloc (.cells #[.int .u8 1, .int .i64 0, .int .u8 n, .int .u16 0, .bool false, .string ByteArray.empty, .string ByteArray.empty, .slice none 0 0, .slice none 0 0, .slice none 0 0, .slice none 0 0, .slice none 0 0, .slice none 0 0, .pointer none, .pointer none] 173)).alloc (.cells #[.int .u8 1, .int .i64 0, .int .u8 n, .int .u16 0, .bool false, .string ByteArray.empty, .string ByteArray.empty, .slice none 0 0, .slice none 0 0, .slice none 0 0, .slice none 0 0, .slice none 0 0, .slice none 0 0, .pointer none, .pointer none] 173)) = w2 at g2 k2 ⊢
  generalize w1.heap.size + 1 + 1 = b at g2 hbw hbl ⊢
  have r2 := k2.heap R1.out (fun h => h)
  have c1 := cell_of_row w2 b 2 _ _ _ g2
  have c2 := frozen_of_row w2 b 2 _ _ g2
  simp only [List.getElem?_toArray, List.getElem?_cons_zero, List.getElem?_cons_succ] at c1
  refine (nowidth_ok _ _ _ c1 c2).mono ?_
  rintro e w3 ⟨rfl, e3⟩
  have r3 : w3.heap[b]? = some (.cells #[.int .u8 1, .int .i64 0, .int .u8 0, .int .u16 0, .bool false, .string ByteArray.empty, .string ByteArray.empty, .slice none 0 0, .slice none 0 0, .slice none 0 0, .slice none 0 0, .slice none 0 0, .slice none 0 0, .pointer none, .pointer none] 173 (0, 0)) := by
    rw [e3]; exact heap_setCell_same w2 b 2 _ _ _ g2
  have k3 : Kept (fun k => k = b) w1 w3 := by
    rw [e3]; exact (k2.of_no _).setCell _ _ (fun _ => rfl)
  have r4 := (k3.heap R1.out (fun h => hbw h.symm))
  have K3 : Hid (Kept (fun k => k = b) w1 w3) := Lib.hid k3
  have p20 := cell_of_row w3 w.heap.size 0 _ _ _ r4
  simp only [List.getElem?_toArray, List.getElem?_cons_zero] at p20
  have q0 := cell_of_row w3 b 0 _ _ _ r3
  have q1 := cell_of_row w3 b 1 _ _ _ r3
  have q2 := cell_of_row w3 b 2 _ _ _ r3
  have q3 := cell_of_row w3 b 3 _ _ _ r3
  have q4 := cell_of_row w3 b 4 _ _ _ r3
  have q5 := cell_of_row w3 b 5 _ _ _ r3
  have q6 := cell_of_row w3 b 6 _ _ _ r3
  have q7 := cell_of_row w3 b 7 _ _ _ r3
  have q8 := cell_of_row w3 b 8 _ _ _ r3
  have q9 := cell_of_row w3 b 9 _ _ _ r3
  have q10 := cell_of_row w3 b 10 _ _ _ r3
  have q11 := cell_of_row w3 b 11 _ _ _ r3
  have q12 := cell_of_row w3 b 12 _ _ _ r3
  simp only [List.getElem?_toArray, List.getElem?_cons_zero, List.getElem?_cons_succ] at q0 q1 q2 q3 q4 q5 q6 q7 q8 q9 q10 q11 q12
  clear p0 p1 p2 p3 p4 p5 p6 p7 p8 p9 p10 p11 p12 g2 k2 c1 c2 e3 r2 r3 r4 k3
  have hcall := msame_nil 1 w3.drew
  unfold msgRow at hcall
  have HC := Lib.hid hcall
  clear hcall
  go_wp2_with fail
  go_still_tail 7, (by kernel_rfl)
  repeat still_step
  change wpList _ _ _ _ _ w3.drew
  go_wp2_with fail
  have e0 : (Value.string { data := #[] }) = .string ByteArray.empty := rfl
  rw [e0]
  refine HC.out.mono ?_
  rintro e w4 ⟨rfl, k4⟩
  have K4 : Hid (Kept No w w4) := Lib.hid (((K1.out.next K3.out (fun j hj e => by omega)).drew).trans k4)
  clear k4 HC
  go_wp2_with fail
  go_ret
  exact ⟨rfl, K4.out⟩

theorem putwidth_ok (B p b n : Nat) (hn : n < 256) (v : Value) (l : List UInt8) (w : World) (h : w.cell? ⟨p, 2, none⟩ = some (.int .u8 (n : Int))) (h2 : w.cell? ⟨p, 13, none⟩ = some (.pointer (some ⟨b, 0, none⟩))) (hw : WrAt B w b v l) (hl : l.length < 1000) :
    Calls Tryz.prog 103 #[.pointer (some ⟨p, 0, none⟩)] w fun e w' => ∃ v', e = .returned (.tuple #[]) ∧ Kept (WrM b v) w w' ∧ WrAt B w' b v' (l ++ [UInt8.ofNat n]) := by
  have hv : (n : Int) = ((UInt8.ofNat n).toNat : Int) := by
    rw [UInt8.toNat_ofNat']
    have : n % 2 ^ 8 = n := Nat.mod_eq_of_lt hn
    omega
  have HV := Lib.hid hv
  have HW : Hid (WrAt B w.drew b v l) := ⟨hw.head, hw.row, hw.from_⟩
  clear hv hw
  go_enter Tryz.func103, Tryz.ntmps103
  go_wp2_with fail
  go_still_tail 9, (by kernel_rfl)
  repeat still_step
  change wpList _ _ _ _ _ w.drew
  go_wp2_with fail
  rw [HV.out]
  refine (byte_fine B b v l (UInt8.ofNat n) _ HW.out (by omega)).mono ?_
  rintro e w1 ⟨v', rfl, k1, h1, _⟩
  have K1 : Hid (Kept (WrM b v) w w1) := Lib.hid (((Kept.refl _ w).drew).trans k1)
  have H1 := Lib.hid h1
  clear k1 h1 HW
  go_wp2_with fail
  go_end0
  exact ⟨_, rfl, K1.out, H1.out⟩
end Go.Proofs.YtpkadglempbjiaaGreat
