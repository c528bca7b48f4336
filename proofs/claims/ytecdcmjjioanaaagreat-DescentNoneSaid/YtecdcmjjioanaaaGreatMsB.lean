/- message.of: what a kind has. -/
import Derived.Test.YtecdcmjjioanaaaGreatMsA
namespace Go.Proofs.YtecdcmjjioanaaaGreat
open Go.RowKit Go.Lib
set_option linter.unusedVariables false
set_option maxRecDepth 100000

def face0 : Value := .agg #[.nilFunc, .nilFunc, .nilFunc, .nilFunc]
def face18 : Value := .agg #[.func (.func 128) #[] #[], .func (.func 125) #[] #[], .func (.func 126) #[] #[], .func (.func 127) #[] #[]]


set_option maxHeartbeats 1000000 in
theorem of_0 (w : World) : Calls Tryz.prog 23 #[.int .u8 0] w fun e w' => e = .returned (.tuple #[face0, .bool false]) ∧ Kept No w w' := by
  have hq : ∀ w, (binOp BinOp.eql 74 .nilFunc .nilFunc).run Tryz.prog w = .ok (.bool true) w := fun _ => by kernel_rfl
  have f0 : faceRow[0]? = some (.nilFunc) := by kernel_rfl
  have f1 : faceRow[1]? = some (.nilFunc) := by kernel_rfl
  have f2 : faceRow[2]? = some (.nilFunc) := by kernel_rfl
  have f3 : faceRow[3]? = some (.nilFunc) := by kernel_rfl
  go_enter Tryz.func23, Tryz.ntmps23
  go_wp2_with fail
  refine (faces_ok _).mono ?_
  rintro e w1 ⟨rfl, k1⟩
  have HB : Hid ((w1.alloc (.cells faceRow 112)).heap[w.heap.size]? = some (.cells #[.nilFunc, .nilFunc, .nilFunc, .nilFunc] 77 (0, 0))) := Lib.hid (((Kept.refl No _).alloc _).heap (k1.heap (heap_alloc_new w _) (fun h => h)) (fun h => h))
  have K1 : Hid (Kept No w (w1.alloc (.cells faceRow 112))) := Lib.hid ((((Kept.refl No w).alloc _).trans k1).alloc _)
  clear k1
  go_wp2_with (first | (refine wpList_store_new (by rfl) 112 (.tmp 4) (.tmp 5) (by rfl) w1 112 Tryz.zeroCells112 faceRow (by rfl) (by rfl) (by rfl) (by kernel_rfl) (by kernel_rfl) (by kernel_rfl) ?_) | (refine wpList_store_row (by rfl) 77 (.tmp 2) (.tmp 16) (by rfl) w.heap.size 77 _ #[.nilFunc, .nilFunc, .nilFunc, .nilFunc] (by rfl) (by rfl) HB.out (by kernel_rfl) (by rfl) (by kernel_rfl) ?_))
  refine bodyPost_ret (results_pair rfl _ _ _ _ _ _ _ rfl (setRow_heap _ _ _ _ _ _ HB.out) Tryz.underlying77 rfl (by kernel_rfl)) rfl ?_
  exact ⟨rfl, K1.out.setRow _ _ (fun h => absurd h (by simp))⟩

set_option maxHeartbeats 1000000 in
theorem of_18 (w : World) : Calls Tryz.prog 23 #[.int .u8 18] w fun e w' => e = .returned (.tuple #[face18, .bool true]) ∧ Kept No w w' := by
  have hq : ∀ w, (binOp BinOp.eql 74 (.func (.func 128) #[] #[]) .nilFunc).run Tryz.prog w = .ok (.bool false) w := fun _ => by kernel_rfl
  have f0 : faceRow[72]? = some (.func (.func 128) #[] #[]) := by kernel_rfl
  have f1 : faceRow[73]? = some (.func (.func 125) #[] #[]) := by kernel_rfl
  have f2 : faceRow[74]? = some (.func (.func 126) #[] #[]) := by kernel_rfl
  have f3 : faceRow[75]? = some (.func (.func 127) #[] #[]) := by kernel_rfl
  go_enter Tryz.func23, Tryz.ntmps23
  go_wp2_with fail
  refine (faces_ok _).mono ?_
  rintro e w1 ⟨rfl, k1⟩
  have HB : Hid ((w1.alloc (.cells faceRow 112)).heap[w.heap.size]? = some (.cells #[.nilFunc, .nilFunc, .nilFunc, .nilFunc] 77 (0, 0))) := Lib.hid (((Kept.refl No _).alloc _).heap (k1.heap (heap_alloc_new w _) (fun h => h)) (fun h => h))
  have K1 : Hid (Kept No w (w1.alloc (.cells faceRow 112))) := Lib.hid ((((Kept.refl No w).alloc _).trans k1).alloc _)
  clear k1
  go_wp2_with (first | (refine wpList_store_new (by rfl) 112 (.tmp 4) (.tmp 5) (by rfl) w1 112 Tryz.zeroCells112 faceRow (by rfl) (by rfl) (by rfl) (by kernel_rfl) (by kernel_rfl) (by kernel_rfl) ?_) | (refine wpList_store_row (by rfl) 77 (.tmp 2) (.tmp 19) (by rfl) w.heap.size 77 _ #[.func (.func 128) #[] #[], .func (.func 125) #[] #[], .func (.func 126) #[] #[], .func (.func 127) #[] #[]] (by rfl) (by rfl) HB.out (by kernel_rfl) (by rfl) (by kernel_rfl) ?_))
  refine bodyPost_ret (results_pair rfl _ _ _ _ _ _ _ rfl (setRow_heap _ _ _ _ _ _ HB.out) Tryz.underlying77 rfl (by kernel_rfl)) rfl ?_
  exact ⟨rfl, K1.out.setRow _ _ (fun h => absurd h (by simp))⟩
end Go.Proofs.YtecdcmjjioanaaaGreat
