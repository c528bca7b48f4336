/- exchange.NewDesk; Bound's refusals. -/
import Derived.Test.YtpkadglempbjiaaGreatEsA
namespace Go.Proofs.YtpkadglempbjiaaGreat
open Go.RowKit Go.Lib
set_option linter.unusedVariables false
set_option linter.unusedSimpArgs false
set_option maxRecDepth 100000


set_option maxHeartbeats 2000000 in
theorem bound_bad (tw wait tries d k : Int) (short mend : Bool) (h : wait < 1 ∨ 1000 < wait ∨ tries < 1 ∨ 16 < tries ∨ d < 0 ∨ 1048576 < d ∨ k < 0 ∨ 1048576 < k) (w : World) :
    Calls Tryz.prog 11 #[termRow tw wait tries short mend, .int .i64 d, .int .i64 k] w fun e w' => e = .returned (.tuple #[.int .i64 0, .int .i64 1]) ∧ Kept No w w' := by
  unfold termRow
  have HH := Lib.hid h
  clear h
  by_cases q1 : wait < 1
  · go_enter Tryz.func11, Tryz.ntmps11
    go_wp2_with fail
    go_ret2
    exact ⟨rfl, (Kept.refl _ _).alloc _⟩
  by_cases q2 : 1000 < wait
  · go_enter Tryz.func11, Tryz.ntmps11
    go_wp2_with fail
    go_ret2
    exact ⟨rfl, (Kept.refl _ _).alloc _⟩
  by_cases q3 : tries < 1
  · go_enter Tryz.func11, Tryz.ntmps11
    go_wp2_with fail
    go_ret2
    exact ⟨rfl, (Kept.refl _ _).alloc _⟩
  by_cases q4 : 16 < tries
  · go_enter Tryz.func11, Tryz.ntmps11
    go_wp2_with fail
    go_ret2
    exact ⟨rfl, (Kept.refl _ _).alloc _⟩
  by_cases d0 : d < 0
  · go_enter Tryz.func11, Tryz.ntmps11
    go_wp2_with fail
    go_ret2
    exact ⟨rfl, (Kept.refl _ _).alloc _⟩
  by_cases d1 : 1048576 < d
  · go_enter Tryz.func11, Tryz.ntmps11
    go_wp2_with fail
    go_ret2
    exact ⟨rfl, (Kept.refl _ _).alloc _⟩
  by_cases k0 : k < 0
  · go_enter Tryz.func11, Tryz.ntmps11
    go_wp2_with fail
    go_ret2
    exact ⟨rfl, (Kept.refl _ _).alloc _⟩
  have k1 : 1048576 < k := by have := HH.out; omega
  go_enter Tryz.func11, Tryz.ntmps11
  go_wp2_with fail
  go_ret2
  exact ⟨rfl, (Kept.refl _ _).alloc _⟩

set_option maxHeartbeats 1000000 in
theorem newdesk_ok (f life width : Int) (s : Nat) (f1 : 1 ≤ f) (f2 : f ≤ 5) (l1 : (life == 0) = false) (w1 : 1 ≤ width) (w2 : width ≤ 32) (w : World) :
    Calls Tryz.prog 9 #[.int .u8 f, .int .u16 life, .int .i64 width, .iface 59 (.pointer (some ⟨s, 0, none⟩))] w fun e w' => ∃ a, e = .returned (.tuple #[.pointer (some ⟨a, 0, none⟩), .int .i64 0]) ∧ Kept No w w' := by
  have hq : ∀ w, (binOp BinOp.eql 120 (.iface 59 (.pointer (some ⟨s, 0, none⟩))) .nilIface).run Tryz.prog w = .ok (.bool false) w := fun _ => by kernel_rfl
  have hmm := @run_makeMap Tryz.prog
  go_enter Tryz.func9, Tryz.ntmps9
  go_wp2_with fail
  refine (rep_yes f f1 f2 _).mono ?_
  rintro e w' ⟨rfl, rfl⟩
  go_wp2_with fail
  go_ret2
  exact ⟨_, rfl, ((Kept.refl _ _).alloc _).alloc _⟩
theorem newdesk_bad (f life width : Int) (s : Nat) (h : f < 1 ∨ 5 < f ∨ life = 0 ∨ width < 1 ∨ 32 < width) (w : World) :
    Calls Tryz.prog 9 #[.int .u8 f, .int .u16 life, .int .i64 width, .iface 59 (.pointer (some ⟨s, 0, none⟩))] w fun e w' => e = .returned (.tuple #[.pointer none, .int .i64 1]) ∧ Kept No w w' := by
  have hq : ∀ w, (binOp BinOp.eql 120 (.iface 59 (.pointer (some ⟨s, 0, none⟩))) .nilIface).run Tryz.prog w = .ok (.bool false) w := fun _ => by kernel_rfl
  have HH := Lib.hid h
  clear h
  by_cases h1 : f < 1 ∨ 5 < f
  · go_enter Tryz.func9, Tryz.ntmps9
    go_wp2_with fail
    refine (rep_no f h1 _).mono ?_
    rintro e w' ⟨rfl, rfl⟩
    go_wp2_with fail
    go_ret2
    exact ⟨rfl, Kept.refl _ _⟩
  by_cases h2 : life = 0
  · subst h2
    go_enter Tryz.func9, Tryz.ntmps9
    go_wp2_with fail
    refine (rep_yes f (by omega) (by omega) _).mono ?_
    rintro e w' ⟨rfl, rfl⟩
    go_wp2_with fail
    go_ret2
    exact ⟨rfl, Kept.refl _ _⟩
  have l1 : (life == 0) = false := by simp [h2]
  have H2 := Lib.hid h2
  clear h2
  by_cases h3 : width < 1
  · go_enter Tryz.func9, Tryz.ntmps9
    go_wp2_with fail
    refine (rep_yes f (by omega) (by omega) _).mono ?_
    rintro e w' ⟨rfl, rfl⟩
    go_wp2_with fail
    go_ret2
    exact ⟨rfl, Kept.refl _ _⟩
  have h4 : 32 < width := by have := HH.out; have := H2.out; omega
  go_enter Tryz.func9, Tryz.ntmps9
  go_wp2_with fail
  refine (rep_yes f (by omega) (by omega) _).mono ?_
  rintro e w' ⟨rfl, rfl⟩
  go_wp2_with fail
  go_ret2
  exact ⟨rfl, Kept.refl _ _⟩
end Go.Proofs.YtpkadglempbjiaaGreat
