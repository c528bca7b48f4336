/- wire.Writer: Fixed. -/
import Derived.Test.YtpkadglempbjiaaGreatWrB
import Derived.Deep.AppendLies
import Derived.Deep.RegionLaw
import Derived.Laws.Shifts
namespace Go.Proofs.YtpkadglempbjiaaGreat
open Go.RowKit Go.Lib
set_option linter.unusedVariables false

/-- n bytes, the highest first. -/
def be (v : Nat) : Nat → List UInt8
  | 0 => []
  | n + 1 => UInt8.ofNat (v / 2 ^ (8 * n) % 256) :: be v n
theorem be_length (v n : Nat) : (be v n).length = n := by induction n with | zero => rfl | succ n ih => simp [be, ih]

set_option maxRecDepth 20000 in
set_option maxHeartbeats 1000000 in
theorem fixed_ok (B p : Nat) (v : Value) (l : List UInt8) (x n : Nat) (w : World) (h : WrAt B w p v l) (hx : x < 18446744073709551616) (hn1 : 1 ≤ n) (hn8 : n ≤ 8) (hxn : x < 2 ^ (8 * n)) (hl : l.length < 70368744177664) :
    Calls Tryz.prog 68 #[.pointer (some ⟨p, 0, none⟩), .int .u64 (x : Int), .int .i64 (n : Int)] w fun e w' => ∃ v', e = .returned (.int .i64 0) ∧ Kept (fun k => B ≤ k) w w' ∧ WrAt B w' p v' (l ++ be x n) := by
  obtain ⟨i0, hi, hz0, hz1, hz2⟩ := info_parts Tryz.infoU8
  have HL := Lib.hid hl
  have H := Lib.hid h
  have HX := Lib.hid hxn
  clear hl h hxn
  go_enter Tryz.func68, Tryz.ntmps68
  have hdv : ((x : Int) / 2 ^ (8 * n) != 0) = false := by
    have e : (x : Int) / 2 ^ (8 * n) = ((x / 2 ^ (8 * n) : Nat) : Int) := by simp
    rw [e, Nat.div_eq_of_lt HX.out]; rfl
  rcases Nat.lt_or_ge n 8 with h8 | h8
  all_goals
    go_wp2_with fail
    go_loopw [2] (fun i wr => ∃ j v', j ≤ n ∧ i = .int .i64 ((j : Int) - 1) ∧ Kept (fun k => B ≤ k) w wr ∧ ∃ pre, WrAt B wr p v' (l ++ pre) ∧ pre ++ be x j = be x n) (fun i _ => (intOf i + 1).toNat)
    case atStart => exact ⟨n, v, Nat.le_refl _, by first | rfl | go_num, Kept.refl _ _, [], by rw [List.append_nil]; exact H.out, rfl⟩
    case round =>
      obtain ⟨j, v', hj, rfl, hk, pre, hw, hpre⟩ := hrel
      cases j with
      | zero =>
        have HW := Lib.hid hw
        have HP := Lib.hid hpre
        have HK := Lib.hid hk
        clear hw hpre hk
        go_wp2
        go_ret
        refine ⟨v', rfl, HK.out, ?_⟩
        have e := HP.out
        rw [be, List.append_nil] at e
        rw [← e]; exact HW.out
      | succ j =>
        rw [show (((j + 1 : Nat) : Int) - 1) = (j : Int) by omega]
        have hc := hw.head.cell
        have hlt := hw.lt
        have hpl : pre.length + (j + 1) = n := by
          have := congrArg List.length hpre
          rw [List.length_append, be_length, be_length] at this
          exact this
        have HW := Lib.hid hw
        have HP := Lib.hid hpre
        have HK := Lib.hid hk
        have hval : ((x : Int) / 2 ^ (8 * j) % 256) = ((UInt8.ofNat (x / 2 ^ (8 * j) % 256)).toNat : Int) := by
          rw [UInt8.toNat_ofNat']
          simp
        have HV := Lib.hid hval
        clear hw hpre hk hval
        have hj8 : j ≤ 7 := by omega
        have hwr : IntKind.i64.wrap (8 * (j : Int)) = 8 * (j : Int) := by rw [IntKind.wrap_i64]; omega
        have hsf : Op.shift .shr .u64 (x : Int) .i64 (8 * (j : Int)) = pure (.int .u64 ((x : Int) / 2 ^ (8 * j))) := by
          rw [shift_shr_any _ _ _ _ (by omega)]
          have e : min (8 * (j : Int)).toNat IntKind.u64.bits = 8 * j := by
            have : (8 * (j : Int)).toNat = 8 * j := by omega
            rw [this]; show min (8 * j) 64 = 8 * j; omega
          rw [e]
        have HWd : Hid (WrAt B wr.drew p v' (l ++ pre)) := ⟨HW.out.head, HW.out.row, HW.out.from_⟩
        go_wp2_with fail
        go_region_law ((refine step_append_lies (wr.drew.alloc (.cells #[.int .u8 ((x : Int) / 2 ^ (8 * j) % 256)] 5)) rfl (.tmp 36) (.tmp 42) 145 rfl B 5 i0 (.int .u8 0) 1 1 Tryz.underlying145 hi hz0 hz1 hz2 rfl (by decide) v' (l ++ pre).length (byteVals (l ++ pre)) (by simp [Act.eval]) (HWd.out.row.alloc _) ⟨wr.heap.size, 0, none⟩ 1 1 [.int .u8 ((x : Int) / 2 ^ (8 * j) % 256)] (by simp [Act.eval]) rfl (cell_one_new wr.drew _ _) (by simp [Value.oneCell']) (by decide) (by have := HL.out; unfold maxLen; simp; omega) (by have := HL.out; simp; omega) (by have := HW.out.from_; simp; omega) _ rfl ?_; intro g cap w1 hown' hgrow hg1 hg2; obtain ⟨hv1, hv2, hr2, hk2⟩ := appendedW (W := wr.drew) HWd.out.head (by decide) HWd.out.row HWd.out.from_ hown' hgrow; have hc1 := hv1.cell; have hf1 := hv1.frozen))
        go_wp2
        go_roundw
        case rel =>
          simp only [List.length_append] at hk2 hv2
          refine ⟨j, _, by omega, by go_num, (HK.out.drew).trans hk2, pre ++ [UInt8.ofNat (x / 2 ^ (8 * j) % 256)], ⟨hv2, ?_, HW.out.from_⟩, ?_⟩
          · rw [HV.out] at hr2
            simpa [byteVals, Nat.add_assoc] using hr2
          · rw [List.append_assoc]; exact HP.out
        case measure => first | (simp [intOf]; done) | (simp [intOf]; omega)
        case roundEnd =>
          simp only [List.length_append] at hk2 hv2
          refine ⟨⟨j, _, by omega, rfl, (HK.out.drew).trans hk2, pre ++ [UInt8.ofNat (x / 2 ^ (8 * j) % 256)], ⟨hv2, ?_, HW.out.from_⟩, ?_⟩, by first | (simp [intOf]; done) | (simp [intOf]; omega)⟩
          · rw [HV.out] at hr2
            simpa [byteVals, Nat.add_assoc] using hr2
          · rw [List.append_assoc]; exact HP.out
end Go.Proofs.YtpkadglempbjiaaGreat
