/- NewDesk and Bound of the program and of the reference: one answer, in plain words. -/
import Derived.Test.YtpkadglempbjiaaGreatEmD
import Derived.Test.YtpkadglempbjiaaGreatEsE
import Derived.Test.YtpkadglempbjiaaGreatEsF
import Derived.Test.YtpkadglempbjiaaGreatFrG
import Derived.Test.YtpkadglempbjiaaGreatFrH
namespace Go.Proofs.YtpkadglempbjiaaGreat
open Go.RowKit Go.Lib
set_option linter.unusedVariables false
set_option linter.unusedSimpArgs false
set_option maxRecDepth 100000

def dkBad (f life width : Int) : Prop := f < 1 ∨ 5 < f ∨ life = 0 ∨ width < 1 ∨ 32 < width
instance (f life width : Int) : Decidable (dkBad f life width) := by unfold dkBad; infer_instance
/-- What NewDesk answers, as a number. -/
def dkCode (f life width : Int) : Int := if dkBad f life width then 1 else 0
def DkOut (f life width : Int) (w : World) (e : Ending) (w' : World) : Prop :=
  ∃ q : Option Addr, e = .returned (.tuple #[.pointer q, .int .i64 (dkCode f life width)]) ∧ (q = none ↔ dkCode f life width ≠ 0) ∧ Kept No w w'

theorem newdesk_any (f life width : Int) (s : Nat) (w : World) :
    Calls Tryz.prog 9 #[.int .u8 f, .int .u16 life, .int .i64 width, .iface 59 (.pointer (some ⟨s, 0, none⟩))] w (DkOut f life width w) := by
  by_cases h : dkBad f life width
  · have hc : dkCode f life width = 1 := by unfold dkCode; rw [if_pos h]
    exact (newdesk_bad f life width s h w).mono fun e w' ⟨he, hk⟩ => ⟨none, by rw [he, hc], by rw [hc]; simp, hk⟩
  · have hc : dkCode f life width = 0 := by unfold dkCode; rw [if_neg h]
    unfold dkBad at h
    exact (newdesk_ok f life width s (by omega) (by omega) (by simp; omega) (by omega) (by omega) w).mono fun e w' ⟨a, he, hk⟩ => ⟨some ⟨a, 0, none⟩, by rw [he, hc], by rw [hc]; simp, hk⟩
theorem rnewdesk_any (f life width : Int) (s : Nat) (w : World) :
    Calls Tryz.prog 8 #[.int .u8 f, .int .u16 life, .int .i64 width, .pointer (some ⟨s, 0, none⟩)] w (DkOut f life width w) := by
  by_cases h : dkBad f life width
  · have hc : dkCode f life width = 1 := by unfold dkCode; rw [if_pos h]
    exact (rnewdesk_bad f life width s h w).mono fun e w' ⟨he, hk⟩ => ⟨none, by rw [he, hc], by rw [hc]; simp, hk⟩
  · have hc : dkCode f life width = 0 := by unfold dkCode; rw [if_neg h]
    unfold dkBad at h
    exact (rnewdesk_ok f life width s (by omega) (by omega) (by simp; omega) (by omega) (by omega) w).mono fun e w' ⟨a, he, hk⟩ => ⟨some ⟨a, 0, none⟩, by rw [he, hc], by rw [hc]; simp, hk⟩

def bdBad (wait tries d k : Int) : Prop := wait < 1 ∨ 1000 < wait ∨ tries < 1 ∨ 16 < tries ∨ d < 0 ∨ 1048576 < d ∨ k < 0 ∨ 1048576 < k
instance (wait tries d k : Int) : Decidable (bdBad wait tries d k) := by unfold bdBad; infer_instance
def bdCode (wait tries d k : Int) : Int := if bdBad wait tries d k then 1 else 0
def bdVal (wait tries : Int) (short mend : Bool) (d k : Int) : Int := if bdBad wait tries d k then 0 else bnd wait tries short mend d k

theorem bound_any (tw wait tries d k : Int) (short mend : Bool) (w : World) :
    Calls Tryz.prog 11 #[termRow tw wait tries short mend, .int .i64 d, .int .i64 k] w fun e w' => e = .returned (.tuple #[.int .i64 (bdVal wait tries short mend d k), .int .i64 (bdCode wait tries d k)]) ∧ Kept No w w' := by
  by_cases h : bdBad wait tries d k
  · rw [show bdCode wait tries d k = 1 from by unfold bdCode; rw [if_pos h], show bdVal wait tries short mend d k = 0 from by unfold bdVal; rw [if_pos h]]
    exact bound_bad tw wait tries d k short mend h w
  · rw [show bdCode wait tries d k = 0 from by unfold bdCode; rw [if_neg h], show bdVal wait tries short mend d k = bnd wait tries short mend d k from by unfold bdVal; rw [if_neg h]]
    unfold bdBad at h
    exact bound_ok tw wait tries d k short mend (by omega) (by omega) (by omega) (by omega) (by omega) (by omega) (by omega) (by omega) w
theorem rbound_any (tw wait tries d k : Int) (short mend : Bool) (w : World) :
    Calls Tryz.prog 10 #[termRow tw wait tries short mend, .int .i64 d, .int .i64 k] w fun e w' => e = .returned (.tuple #[.int .i64 (bdVal wait tries short mend d k), .int .i64 (bdCode wait tries d k)]) ∧ Kept No w w' := by
  by_cases h : bdBad wait tries d k
  · rw [show bdCode wait tries d k = 1 from by unfold bdCode; rw [if_pos h], show bdVal wait tries short mend d k = 0 from by unfold bdVal; rw [if_pos h]]
    exact rbound_bad tw wait tries d k short mend h w
  · rw [show bdCode wait tries d k = 0 from by unfold bdCode; rw [if_neg h], show bdVal wait tries short mend d k = bnd wait tries short mend d k from by unfold bdVal; rw [if_neg h]]
    unfold bdBad at h
    exact rbound_ok tw wait tries d k short mend (by omega) (by omega) (by omega) (by omega) (by omega) (by omega) (by omega) (by omega) w
end Go.Proofs.YtpkadglempbjiaaGreat
