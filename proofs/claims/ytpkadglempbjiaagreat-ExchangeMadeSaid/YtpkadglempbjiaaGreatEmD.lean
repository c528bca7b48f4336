/- Start of the program and of the reference: one answer, in plain words. -/
import Derived.Test.YtpkadglempbjiaaGreatEsD
import Derived.Test.YtpkadglempbjiaaGreatFrF
namespace Go.Proofs.YtpkadglempbjiaaGreat
open Go.RowKit Go.Lib
set_option linter.unusedVariables false
set_option linter.unusedSimpArgs false
set_option maxRecDepth 100000

def stBad (i0 i1 i2 f t : Int) : Prop := f < 1 ∨ 5 < f ∨ t < 1 ∨ 5 < t ∨ f = t ∨ i0 ≠ f ∨ i1 = 0 ∨ i2 = 0
def stWaits (wait tries : Int) : Prop := wait < 1 ∨ 1000 < wait ∨ tries < 1 ∨ 16 < tries
instance (i0 i1 i2 f t : Int) : Decidable (stBad i0 i1 i2 f t) := by unfold stBad; infer_instance
instance (wait tries : Int) : Decidable (stWaits wait tries) := by unfold stWaits; infer_instance
/-- What Start answers, as a number. -/
def stCode (i0 i1 i2 f t tw wait tries n : Int) (no : Bool) : Int :=
  if no then 2 else if stBad i0 i1 i2 f t then 1 else if tw ≠ n then 251 else if stWaits wait tries then 1 else 0
/-- .. and the frame. -/
def stRow (i0 i1 i2 f t tw wait tries : Int) (n : Nat) (no : Bool) : Array Value :=
  if stCode i0 i1 i2 f t tw wait tries n no = 0 then frameRow i0 i1 i2 f t 1 ⟨#[1, UInt8.ofNat n]⟩ else frameRow 0 0 0 0 0 0 ByteArray.empty

/-- An answer of Start: a pointer where the number is 0, the frame, the number. -/
def StOut (i0 i1 i2 f t tw wait tries : Int) (n : Nat) (no : Bool) (w : World) (e : Ending) (w' : World) : Prop :=
  ∃ q : Option Addr, e = .returned (.tuple #[.pointer q, .agg (stRow i0 i1 i2 f t tw wait tries n no), .int .i64 (stCode i0 i1 i2 f t tw wait tries n no)]) ∧ (q = none ↔ stCode i0 i1 i2 f t tw wait tries n no ≠ 0) ∧ Kept No w w'

theorem stOut_none {i0 i1 i2 f t tw wait tries : Int} {n : Nat} {no : Bool} {w : World} {c : Int} (hc : stCode i0 i1 i2 f t tw wait tries n no = c) (hn : c ≠ 0) {P : Program} {k : FuncId} {args : Array Value}
    (h : Calls P k args w fun e w' => e = .returned (.tuple #[.pointer none, zFrame, .int .i64 c]) ∧ Kept No w w') : Calls P k args w (StOut i0 i1 i2 f t tw wait tries n no w) :=
  h.mono fun e w' ⟨he, hk⟩ => ⟨none, by rw [he]; unfold stRow; rw [hc, if_neg hn]; rfl, by rw [hc]; simpa using hn, hk⟩
theorem stOut_some {i0 i1 i2 f t tw wait tries : Int} {n : Nat} {no : Bool} {w : World} (hc : stCode i0 i1 i2 f t tw wait tries n no = 0) {P : Program} {k : FuncId} {args : Array Value}
    (h : Calls P k args w fun e w' => ∃ a, e = .returned (.tuple #[.pointer (some ⟨a, 0, none⟩), .agg (frameRow i0 i1 i2 f t 1 ⟨#[1, UInt8.ofNat n]⟩), .int .i64 0]) ∧ Kept No w w') : Calls P k args w (StOut i0 i1 i2 f t tw wait tries n no w) :=
  h.mono fun e w' ⟨a, he, hk⟩ => ⟨some ⟨a, 0, none⟩, by rw [he]; unfold stRow; rw [hc, if_pos rfl], by rw [hc]; simp, hk⟩

theorem good_of {i0 i1 i2 f t : Int} (h : ¬ stBad i0 i1 i2 f t) : 1 ≤ f ∧ f ≤ 5 ∧ 1 ≤ t ∧ t ≤ 5 ∧ (f == t) = false ∧ (i0 != f) = false ∧ (i1 == 0) = false ∧ (i2 == 0) = false := by
  unfold stBad at h
  refine ⟨by omega, by omega, by omega, by omega, ?_, ?_, ?_, ?_⟩
  · simp; omega
  · simp; omega
  · simp; omega
  · simp; omega

theorem start_some (i0 i1 i2 f t tw wait tries : Int) (short mend : Bool) (s : Nat) (n : Nat) (n1 : 1 ≤ n) (n2 : n ≤ 32) (p : Nat) (w : World) (ht : w.heap[p]? = some (.cells (treeRow n) 80 (0, 0))) :
    Calls Tryz.prog 7 #[idRow i0 i1 i2, .int .u8 f, .int .u8 t, .pointer (some ⟨p, 0, none⟩), (.iface 41 (.pointer (some ⟨s, 0, none⟩))), termRow tw wait tries short mend] w (StOut i0 i1 i2 f t tw wait tries n false w) := by
  by_cases hb : stBad i0 i1 i2 f t
  · have hc : stCode i0 i1 i2 f t tw wait tries n false = 1 := by unfold stCode; simp [hb]
    cases mend
    · exact stOut_none hc (by decide) (start_bad_free i0 i1 i2 f t tw wait tries short (.iface 41 (.pointer (some ⟨s, 0, none⟩))) p w hb)
    · exact stOut_none hc (by decide) (start_bad_mend i0 i1 i2 f t tw wait tries short s p w hb)
  obtain ⟨g1, g2, g3, g4, g5, g6, g7, g8⟩ := good_of hb
  by_cases hw : tw ≠ (n : Int)
  · have hc : stCode i0 i1 i2 f t tw wait tries n false = 251 := by unfold stCode; simp [hb, hw]
    have b7 : (tw != (n : Int)) = true := by simpa using hw
    cases mend
    · exact stOut_none hc (by decide) (start_width_false i0 i1 i2 f t tw wait tries short (.iface 41 (.pointer (some ⟨s, 0, none⟩))) n p w g1 g2 g3 g4 g5 g6 g7 g8 b7 ht)
    · exact stOut_none hc (by decide) (start_width_true i0 i1 i2 f t tw wait tries short s n p w g1 g2 g3 g4 g5 g6 g7 g8 b7 ht)
  have b7 : (tw != (n : Int)) = false := by simpa using hw
  by_cases hq : stWaits wait tries
  · have hc : stCode i0 i1 i2 f t tw wait tries n false = 1 := by unfold stCode; rw [if_neg (by simp), if_neg hb, if_neg hw, if_pos hq]
    cases mend
    · exact stOut_none hc (by decide) (start_waits_false i0 i1 i2 f t tw wait tries short (.iface 41 (.pointer (some ⟨s, 0, none⟩))) n p w g1 g2 g3 g4 g5 g6 g7 g8 b7 hq ht)
    · exact stOut_none hc (by decide) (start_waits_true i0 i1 i2 f t tw wait tries short s n p w g1 g2 g3 g4 g5 g6 g7 g8 b7 hq ht)
  have hc : stCode i0 i1 i2 f t tw wait tries n false = 0 := by unfold stCode; rw [if_neg (by simp), if_neg hb, if_neg hw, if_neg hq]
  unfold stWaits at hq
  cases mend
  · exact stOut_some hc (start_good_false i0 i1 i2 f t tw wait tries short s n n1 n2 p w g1 g2 g3 g4 g5 g6 g7 g8 b7 (by omega) (by omega) (by omega) (by omega) ht)
  · exact stOut_some hc (start_good_true i0 i1 i2 f t tw wait tries short s n n1 n2 p w g1 g2 g3 g4 g5 g6 g7 g8 b7 (by omega) (by omega) (by omega) (by omega) ht)

theorem start_none (i0 i1 i2 f t tw wait tries : Int) (short mend : Bool) (n : Nat) (n1 : 1 ≤ n) (n2 : n ≤ 32) (p : Nat) (w : World) (ht : w.heap[p]? = some (.cells (treeRow n) 80 (0, 0))) :
    Calls Tryz.prog 7 #[idRow i0 i1 i2, .int .u8 f, .int .u8 t, .pointer (some ⟨p, 0, none⟩), .nilIface, termRow tw wait tries short mend] w (StOut i0 i1 i2 f t tw wait tries n mend w) := by
  cases mend
  case true =>
    exact stOut_none (c := 2) (by unfold stCode; simp) (by decide) (start_hnil i0 i1 i2 f t tw wait tries short true p w rfl)
  by_cases hb : stBad i0 i1 i2 f t
  · have hc : stCode i0 i1 i2 f t tw wait tries n false = 1 := by unfold stCode; simp [hb]
    exact stOut_none hc (by decide) (start_bad_free i0 i1 i2 f t tw wait tries short .nilIface p w hb)
  obtain ⟨g1, g2, g3, g4, g5, g6, g7, g8⟩ := good_of hb
  by_cases hw : tw ≠ (n : Int)
  · have hc : stCode i0 i1 i2 f t tw wait tries n false = 251 := by unfold stCode; simp [hb, hw]
    have b7 : (tw != (n : Int)) = true := by simpa using hw
    exact stOut_none hc (by decide) (start_width_false i0 i1 i2 f t tw wait tries short .nilIface n p w g1 g2 g3 g4 g5 g6 g7 g8 b7 ht)
  have b7 : (tw != (n : Int)) = false := by simpa using hw
  by_cases hq : stWaits wait tries
  · have hc : stCode i0 i1 i2 f t tw wait tries n false = 1 := by unfold stCode; rw [if_neg (by simp), if_neg hb, if_neg hw, if_pos hq]
    exact stOut_none hc (by decide) (start_waits_false i0 i1 i2 f t tw wait tries short .nilIface n p w g1 g2 g3 g4 g5 g6 g7 g8 b7 hq ht)
  have hc : stCode i0 i1 i2 f t tw wait tries n false = 0 := by unfold stCode; rw [if_neg (by simp), if_neg hb, if_neg hw, if_neg hq]
  unfold stWaits at hq
  exact stOut_some hc (start_good_nil i0 i1 i2 f t tw wait tries short n n1 n2 p w g1 g2 g3 g4 g5 g6 g7 g8 b7 (by omega) (by omega) (by omega) (by omega) ht)

theorem rstart_some (i0 i1 i2 f t tw wait tries : Int) (short mend : Bool) (s : Nat) (n : Nat) (n1 : 1 ≤ n) (n2 : n ≤ 32) (p : Nat) (w : World) (ht : w.heap[p]? = some (.cells #[.int .i64 (n : Int), .slice none 0 0, .slice none 0 0] 68 (0, 0))) :
    Calls Tryz.prog 6 #[idRow i0 i1 i2, .int .u8 f, .int .u8 t, .pointer (some ⟨p, 0, none⟩), .pointer (some ⟨s, 0, none⟩), termRow tw wait tries short mend] w (StOut i0 i1 i2 f t tw wait tries n false w) := by
  by_cases hb : stBad i0 i1 i2 f t
  · have hc : stCode i0 i1 i2 f t tw wait tries n false = 1 := by unfold stCode; simp [hb]
    cases mend
    · exact stOut_none hc (by decide) (rstart_bad_free i0 i1 i2 f t tw wait tries short (some ⟨s, 0, none⟩) p w hb)
    · exact stOut_none hc (by decide) (rstart_bad_mend i0 i1 i2 f t tw wait tries short s p w hb)
  obtain ⟨g1, g2, g3, g4, g5, g6, g7, g8⟩ := good_of hb
  by_cases hw : tw ≠ (n : Int)
  · have hc : stCode i0 i1 i2 f t tw wait tries n false = 251 := by unfold stCode; simp [hb, hw]
    have b7 : (tw != (n : Int)) = true := by simpa using hw
    cases mend
    · exact stOut_none hc (by decide) (rstart_width_false i0 i1 i2 f t tw wait tries short (some ⟨s, 0, none⟩) n p w g1 g2 g3 g4 g5 g6 g7 g8 b7 ht)
    · exact stOut_none hc (by decide) (rstart_width_true i0 i1 i2 f t tw wait tries short s n p w g1 g2 g3 g4 g5 g6 g7 g8 b7 ht)
  have b7 : (tw != (n : Int)) = false := by simpa using hw
  by_cases hq : stWaits wait tries
  · have hc : stCode i0 i1 i2 f t tw wait tries n false = 1 := by unfold stCode; rw [if_neg (by simp), if_neg hb, if_neg hw, if_pos hq]
    cases mend
    · exact stOut_none hc (by decide) (rstart_waits_false i0 i1 i2 f t tw wait tries short (some ⟨s, 0, none⟩) n p w g1 g2 g3 g4 g5 g6 g7 g8 b7 hq ht)
    · exact stOut_none hc (by decide) (rstart_waits_true i0 i1 i2 f t tw wait tries short s n p w g1 g2 g3 g4 g5 g6 g7 g8 b7 hq ht)
  have hc : stCode i0 i1 i2 f t tw wait tries n false = 0 := by unfold stCode; rw [if_neg (by simp), if_neg hb, if_neg hw, if_neg hq]
  unfold stWaits at hq
  cases mend
  · exact stOut_some hc (rstart_good_false i0 i1 i2 f t tw wait tries short (some ⟨s, 0, none⟩) n n1 n2 p w g1 g2 g3 g4 g5 g6 g7 g8 b7 (by omega) (by omega) (by omega) (by omega) ht)
  · exact stOut_some hc (rstart_good_true i0 i1 i2 f t tw wait tries short s n n1 n2 p w g1 g2 g3 g4 g5 g6 g7 g8 b7 (by omega) (by omega) (by omega) (by omega) ht)

theorem rstart_none (i0 i1 i2 f t tw wait tries : Int) (short mend : Bool) (n : Nat) (n1 : 1 ≤ n) (n2 : n ≤ 32) (p : Nat) (w : World) (ht : w.heap[p]? = some (.cells #[.int .i64 (n : Int), .slice none 0 0, .slice none 0 0] 68 (0, 0))) :
    Calls Tryz.prog 6 #[idRow i0 i1 i2, .int .u8 f, .int .u8 t, .pointer (some ⟨p, 0, none⟩), .pointer none, termRow tw wait tries short mend] w (StOut i0 i1 i2 f t tw wait tries n mend w) := by
  cases mend
  case true =>
    exact stOut_none (c := 2) (by unfold stCode; simp) (by decide) (rstart_hnil i0 i1 i2 f t tw wait tries short p w)
  by_cases hb : stBad i0 i1 i2 f t
  · have hc : stCode i0 i1 i2 f t tw wait tries n false = 1 := by unfold stCode; simp [hb]
    exact stOut_none hc (by decide) (rstart_bad_free i0 i1 i2 f t tw wait tries short none p w hb)
  obtain ⟨g1, g2, g3, g4, g5, g6, g7, g8⟩ := good_of hb
  by_cases hw : tw ≠ (n : Int)
  · have hc : stCode i0 i1 i2 f t tw wait tries n false = 251 := by unfold stCode; simp [hb, hw]
    have b7 : (tw != (n : Int)) = true := by simpa using hw
    exact stOut_none hc (by decide) (rstart_width_false i0 i1 i2 f t tw wait tries short none n p w g1 g2 g3 g4 g5 g6 g7 g8 b7 ht)
  have b7 : (tw != (n : Int)) = false := by simpa using hw
  by_cases hq : stWaits wait tries
  · have hc : stCode i0 i1 i2 f t tw wait tries n false = 1 := by unfold stCode; rw [if_neg (by simp), if_neg hb, if_neg hw, if_pos hq]
    exact stOut_none hc (by decide) (rstart_waits_false i0 i1 i2 f t tw wait tries short none n p w g1 g2 g3 g4 g5 g6 g7 g8 b7 hq ht)
  have hc : stCode i0 i1 i2 f t tw wait tries n false = 0 := by unfold stCode; rw [if_neg (by simp), if_neg hb, if_neg hw, if_neg hq]
  unfold stWaits at hq
  exact stOut_some hc (rstart_good_false i0 i1 i2 f t tw wait tries short none n n1 n2 p w g1 g2 g3 g4 g5 g6 g7 g8 b7 (by omega) (by omega) (by omega) (by omega) ht)
end Go.Proofs.YtpkadglempbjiaaGreat
