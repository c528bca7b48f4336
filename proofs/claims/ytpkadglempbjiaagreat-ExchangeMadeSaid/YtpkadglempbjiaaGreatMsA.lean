/- message.faces: what kinds of messages have. -/
import Derived.Test.YtpkadglempbjiaaGreatLwA
import Derived.Test.YtpkadglempbjiaaGreatChecked
import Derived.Laws.EntriesVeiled
namespace Go.Proofs.YtpkadglempbjiaaGreat
open Go.RowKit Go.Lib
set_option linter.unusedVariables false
set_option maxRecDepth 100000

def faceRow : Array Value := #[
  .nilFunc, .nilFunc, .nilFunc, .nilFunc,
  .func (.func 101) #[] #[], .func (.func 102) #[] #[], .func (.func 103) #[] #[], .func (.func 104) #[] #[],
  .func (.func 105) #[] #[], .func (.func 106) #[] #[], .func (.func 107) #[] #[], .func (.func 108) #[] #[],
  .func (.func 109) #[] #[], .func (.func 110) #[] #[], .func (.func 111) #[] #[], .func (.func 112) #[] #[],
  .func (.func 113) #[] #[], .func (.func 114) #[] #[], .func (.func 115) #[] #[], .func (.func 116) #[] #[],
  .func (.func 117) #[] #[], .func (.func 118) #[] #[], .func (.func 119) #[] #[], .func (.func 120) #[] #[],
  .func (.func 121) #[] #[], .func (.func 122) #[] #[], .func (.func 123) #[] #[], .func (.func 124) #[] #[],
  .func (.func 125) #[] #[], .func (.func 125) #[] #[], .func (.func 126) #[] #[], .func (.func 126) #[] #[],
  .nilFunc, .nilFunc, .nilFunc, .nilFunc,
  .nilFunc, .nilFunc, .nilFunc, .nilFunc,
  .nilFunc, .nilFunc, .nilFunc, .nilFunc,
  .func (.func 127) #[] #[], .func (.func 128) #[] #[], .func (.func 129) #[] #[], .func (.func 130) #[] #[],
  .func (.func 131) #[] #[], .func (.func 132) #[] #[], .func (.func 133) #[] #[], .func (.func 134) #[] #[],
  .func (.func 135) #[] #[], .func (.func 136) #[] #[], .func (.func 137) #[] #[], .func (.func 138) #[] #[],
  .func (.func 139) #[] #[], .func (.func 140) #[] #[], .func (.func 141) #[] #[], .func (.func 142) #[] #[],
  .func (.func 143) #[] #[], .func (.func 144) #[] #[], .func (.func 145) #[] #[], .func (.func 146) #[] #[],
  .func (.func 147) #[] #[], .func (.func 148) #[] #[], .func (.func 149) #[] #[], .func (.func 150) #[] #[],
  .func (.func 125) #[] #[], .func (.func 125) #[] #[], .func (.func 126) #[] #[], .func (.func 126) #[] #[],
  .func (.func 151) #[] #[], .func (.func 148) #[] #[], .func (.func 149) #[] #[], .func (.func 150) #[] #[]]

set_option maxHeartbeats 1000000 in
theorem faces_ok (w : World) : Calls Tryz.prog 83 #[] w fun e w' => e = .returned (.agg faceRow) ∧ Kept No w w' := by
  go_enter Tryz.func83, Tryz.ntmps83
  go_wp2_with (first | (refine wpList_build_as rfl 198 _ rfl faceRow (by kernel_rfl) ?_) | (refine wpList_store_new (by rfl) 198 (.tmp 0) (.tmp 16) (by rfl) w 198 Tryz.zeroCells198 faceRow (by rfl) (by rfl) (by rfl) (by kernel_rfl) (by kernel_rfl) (by kernel_rfl) ?_))
  refine bodyPost_ret (results_one rfl _ _ _ _ _ _ _ rfl (heap_alloc_new w _) Tryz.underlying198 rfl (by kernel_rfl)) rfl ?_
  exact ⟨rfl, (Kept.refl _ _).alloc _⟩
end Go.Proofs.YtpkadglempbjiaaGreat
