/- message.faces: what kinds of messages have. -/
import Derived.Test.YtecdcmjjioanaaaGreatLwA
import Derived.Test.YtecdcmjjioanaaaGreatChecked
import Derived.Laws.EntriesVeiled
namespace Go.Proofs.YtecdcmjjioanaaaGreat
open Go.RowKit Go.Lib
set_option linter.unusedVariables false
set_option maxRecDepth 100000

def faceRow : Array Value := #[
  .nilFunc, .nilFunc, .nilFunc, .nilFunc,
  .func (.func 78) #[] #[], .func (.func 79) #[] #[], .func (.func 80) #[] #[], .func (.func 81) #[] #[],
  .func (.func 82) #[] #[], .func (.func 83) #[] #[], .func (.func 84) #[] #[], .func (.func 85) #[] #[],
  .func (.func 86) #[] #[], .func (.func 87) #[] #[], .func (.func 88) #[] #[], .func (.func 89) #[] #[],
  .func (.func 90) #[] #[], .func (.func 91) #[] #[], .func (.func 92) #[] #[], .func (.func 93) #[] #[],
  .func (.func 94) #[] #[], .func (.func 95) #[] #[], .func (.func 96) #[] #[], .func (.func 97) #[] #[],
  .func (.func 98) #[] #[], .func (.func 99) #[] #[], .func (.func 100) #[] #[], .func (.func 101) #[] #[],
  .func (.func 102) #[] #[], .func (.func 102) #[] #[], .func (.func 103) #[] #[], .func (.func 103) #[] #[],
  .nilFunc, .nilFunc, .nilFunc, .nilFunc,
  .nilFunc, .nilFunc, .nilFunc, .nilFunc,
  .nilFunc, .nilFunc, .nilFunc, .nilFunc,
  .func (.func 104) #[] #[], .func (.func 105) #[] #[], .func (.func 106) #[] #[], .func (.func 107) #[] #[],
  .func (.func 108) #[] #[], .func (.func 109) #[] #[], .func (.func 110) #[] #[], .func (.func 111) #[] #[],
  .func (.func 112) #[] #[], .func (.func 113) #[] #[], .func (.func 114) #[] #[], .func (.func 115) #[] #[],
  .func (.func 116) #[] #[], .func (.func 117) #[] #[], .func (.func 118) #[] #[], .func (.func 119) #[] #[],
  .func (.func 120) #[] #[], .func (.func 121) #[] #[], .func (.func 122) #[] #[], .func (.func 123) #[] #[],
  .func (.func 124) #[] #[], .func (.func 125) #[] #[], .func (.func 126) #[] #[], .func (.func 127) #[] #[],
  .func (.func 102) #[] #[], .func (.func 102) #[] #[], .func (.func 103) #[] #[], .func (.func 103) #[] #[],
  .func (.func 128) #[] #[], .func (.func 125) #[] #[], .func (.func 126) #[] #[], .func (.func 127) #[] #[]]

set_option maxHeartbeats 1000000 in
theorem faces_ok (w : World) : Calls Tryz.prog 44 #[] w fun e w' => e = .returned (.agg faceRow) ∧ Kept No w w' := by
  go_enter Tryz.func44, Tryz.ntmps44
  go_wp2_with (first | (refine wpList_build_as rfl 112 _ rfl faceRow (by kernel_rfl) ?_) | (refine wpList_store_new (by rfl) 112 (.tmp 0) (.tmp 16) (by rfl) w 112 Tryz.zeroCells112 faceRow (by rfl) (by rfl) (by rfl) (by kernel_rfl) (by kernel_rfl) (by kernel_rfl) ?_))
  refine bodyPost_ret (results_one rfl _ _ _ _ _ _ _ rfl (heap_alloc_new w _) Tryz.underlying112 rfl (by kernel_rfl)) rfl ?_
  exact ⟨rfl, (Kept.refl _ _).alloc _⟩
end Go.Proofs.YtecdcmjjioanaaaGreat
