/- A part. -/
import Derived.Test.YtabhieafjkaocaaGreatMaaj
import Derived.Test.YtabhieafjkaocaaGreatMabq
import Derived.Test.YtabhieafjkaocaaGreatMabj
set_option linter.unusedVariables false
set_option linter.unusedSimpArgs false
namespace Go.Proofs.YtabhieafjkaocaaGreat
open Go.RowKit Go.Lib Go.Maps
set_option maxRecDepth 20000
theorem dlit_ok (x : DiskH) (m : DiskM) (w : World) (h : DiskAt w x m) : Calls Tryz.prog 60 #[.pointer (some ⟨x.d, 0, none⟩)] w fun e w' => e = .returned (.bool (!m.off)) ∧ w = w' := by
  have c3 := (cell_of_row w x.d 3 _ _ _ h.head).trans rfl
  clear h
  generalize m.off = o at *
  cases o
  all_goals
    go_enter Tryz.func60, Tryz.ntmps60
    go_wp2
    go_ret
    exact ⟨rfl, rfl⟩
def DiskM.fuse (m : DiskM) (n : Int) : DiskM := if m.off = true then m else { m with armed := decide (0 ≤ n), left := n }
set_option maxHeartbeats 1000000 in
theorem dfuse_ok (x : DiskH) (m : DiskM) (n : Int) (w : World) (h : DiskAt w x m) (hn : I64 n) : Calls Tryz.prog 64 #[.pointer (some ⟨x.d, 0, none⟩), .int .i64 n] w fun e w' => e = .returned (.tuple #[]) ∧ Kept (fun j => j = x.d) w w' ∧ DiskAt w' x (m.fuse n) := by
  have c3 := (cell_of_row w x.d 3 _ _ _ h.head).trans rfl
  have c4 := (cell_of_row w x.d 4 _ _ _ h.head).trans rfl
  have c5 := (cell_of_row w x.d 5 _ _ _ h.head).trans rfl
  have f4 := frozen_of_row w x.d 4 _ _ h.head
  have f5 := frozen_of_row w x.d 5 _ _ h.head
  have H := Lib.hid h
  clear h
  by_cases ho : m.off = true
  · rw [show m.fuse n = m from by simp [DiskM.fuse, ho]]
    rw [ho] at c3
    clear ho
    go_enter Tryz.func64, Tryz.ntmps64
    go_wp2
    go_end0
    exact ⟨rfl, Kept.refl _ _, H.out⟩
  · have ho : m.off = false := by simpa using ho
    rw [show m.fuse n = { m with armed := decide (0 ≤ n), left := n } from by simp [DiskM.fuse, ho]]
    have HO := Lib.hid ho
    rw [ho] at c3
    have HN := Lib.hid hn
    clear ho hn
    obtain ⟨a, ha⟩ : ∃ a, decide (0 ≤ n) = a := ⟨_, rfl⟩
    go_enter Tryz.func64, Tryz.ntmps64
    go_wp2
    go_end0
    have e4 := heap_setCell_same _ x.d 4 _ _ (.bool a) H.out.head
    have e5 := heap_setCell_same _ x.d 5 _ _ (.int .i64 n) e4
    rw [HO.out] at e5
    have k : Kept (fun j => j = x.d) w ((w.setCell ⟨x.d, 4, none⟩ (.bool a)).setCell ⟨x.d, 5, none⟩ (.int .i64 n)) := ((Kept.refl (fun j => j = x.d) w).setCell ⟨x.d, 4, none⟩ _ (fun _ => rfl)).setCell ⟨x.d, 5, none⟩ _ (fun _ => rfl)
    have hb := HN.out
    unfold I64 at hb
    have fin := H.out.turn (m' := { m with armed := decide (0 ≤ n), left := n }) k rfl rfl (by rw [ha, HO.out]; exact e5) ⟨hb.1, by show n < 9223372036854775808; omega, fun h => by simpa using h⟩
    exact ⟨rfl, k, fin⟩
end Go.Proofs.YtabhieafjkaocaaGreat
