/- turn.Asker: a new one; its first request. -/
import Derived.Test.YtpkadglempbjiaaGreatLwB
import Derived.Test.YtpkadglempbjiaaGreatQk
import Derived.Test.YtpkadglempbjiaaGreatChecked
import Derived.StillTailTactics
namespace Go.Proofs.YtpkadglempbjiaaGreat
open Go.RowKit Go.Lib
set_option linter.unusedVariables false
set_option linter.unusedSimpArgs false
set_option maxRecDepth 100000

def askRow (i0 i1 i2 f t wait tries : Int) (seq : Int) (body : ByteArray) (att gone sent : Int) : Array Value := #[.int .u8 i0, .int .u16 i1, .int .u32 i2, .int .u8 f, .int .u8 t, .int .u64 0, .int .i64 wait, .int .i64 tries, .int .u32 seq, .string body, .int .i64 att, .int .i64 gone, .int .i64 sent, .bool false]
def frameRow (i0 i1 i2 f t seq : Int) (body : ByteArray) : Array Value := #[.int .u8 f, .int .u8 t, .int .u8 i0, .int .u16 i1, .int .u32 i2, .int .u64 0, .int .u32 seq, .bool false, .string body]
def idRow (i0 i1 i2 : Int) : Value := .agg #[.int .u8 i0, .int .u16 i1, .int .u32 i2]

theorem newasker_bad (i0 i1 i2 f t wait tries : Int) (h : wait < 1 ∨ 1000 < wait ∨ tries < 1 ∨ 16 < tries) (w : World) : Calls Tryz.prog 23 #[idRow i0 i1 i2, .int .u8 f, .int .u8 t, .int .i64 wait, .int .i64 tries] w fun e w' => e = .returned (.tuple #[.pointer none, .int .i64 1]) ∧ Kept No w w' := by
  unfold idRow
  by_cases h1 : wait < 1
  · go_enter Tryz.func23, Tryz.ntmps23
    go_wp2_with fail
    go_ret2
    exact ⟨rfl, (Kept.refl _ _).alloc _⟩
  by_cases h2 : 1000 < wait
  · go_enter Tryz.func23, Tryz.ntmps23
    go_wp2_with fail
    go_ret2
    exact ⟨rfl, (Kept.refl _ _).alloc _⟩
  by_cases h3 : tries < 1
  · go_enter Tryz.func23, Tryz.ntmps23
    go_wp2_with fail
    go_ret2
    exact ⟨rfl, (Kept.refl _ _).alloc _⟩
  have h4 : 16 < tries := by omega
  go_enter Tryz.func23, Tryz.ntmps23
  go_wp2_with fail
  go_ret2
  exact ⟨rfl, (Kept.refl _ _).alloc _⟩

theorem newasker_ok (i0 i1 i2 f t wait tries : Int) (h1 : 1 ≤ wait) (h2 : wait ≤ 1000) (h3 : 1 ≤ tries) (h4 : tries ≤ 16) (w : World) : Calls Tryz.prog 23 #[idRow i0 i1 i2, .int .u8 f, .int .u8 t, .int .i64 wait, .int .i64 tries] w fun e w' => ∃ a, e = .returned (.tuple #[.pointer (some ⟨a, 0, none⟩), .int .i64 0]) ∧ Kept No w w' ∧ w.heap.size ≤ a ∧ w'.heap[a]? = some (.cells (askRow i0 i1 i2 f t wait tries 0 ByteArray.empty 0 0 0) 144 (0, 0)) := by
  unfold idRow
  go_enter Tryz.func23, Tryz.ntmps23
  go_wp2_with fail
  go_ret2
  exact ⟨_, rfl, ((Kept.refl _ _).alloc _).alloc _, by simp, heap_alloc2_new w _ _⟩

set_option maxHeartbeats 1000000 in
theorem frame_ok (i0 i1 i2 f t wait tries : Int) (seq : Int) (body b2 : ByteArray) (q att gone sent : Int) (a : Nat) (w : World) (ha : w.heap[a]? = some (.cells (askRow i0 i1 i2 f t wait tries q b2 att gone sent) 144 (0, 0))) :
    Calls Tryz.prog 84 #[.pointer (some ⟨a, 0, none⟩), .int .u32 seq, .bool false, .string body] w fun e w' => e = .returned (.agg (frameRow i0 i1 i2 f t seq body)) ∧ Kept No w w' := by
  unfold askRow at ha
  go_enter Tryz.func84, Tryz.ntmps84
  go_wp2_with fail
  have e0 : (Value.string { data := #[] }) = .string ByteArray.empty := rfl
  rw [e0]
  have gz := heap_alloc_new w (.cells #[.int .u8 0, .int .u8 0, .int .u8 0, .int .u16 0, .int .u32 0, .int .u64 0, .int .u32 0, .bool false, .string ByteArray.empty] 38)
  have k1 : Kept No w (w.alloc (.cells #[.int .u8 0, .int .u8 0, .int .u8 0, .int .u16 0, .int .u32 0, .int .u64 0, .int .u32 0, .bool false, .string ByteArray.empty] 38)) := (Kept.refl _ _).alloc _
  have g1 := k1.heap ha (fun h => h)
  have K1 := Lib.hid k1
  generalize w.alloc (.cells #[.int .u8 0, .int .u8 0, .int .u8 0, .int .u16 0, .int .u32 0, .int .u64 0, .int .u32 0, .bool false, .string ByteArray.empty] 38) = w1 at gz k1 g1 K1 ⊢
  generalize hzb : w.heap.size = zb at gz ⊢
  have HZB := Lib.hid hzb
  have c0 := cell_of_row w1 a 0 _ _ _ g1
  have c1 := cell_of_row w1 a 1 _ _ _ g1
  have c2 := cell_of_row w1 a 2 _ _ _ g1
  have c3 := cell_of_row w1 a 3 _ _ _ g1
  have c4 := cell_of_row w1 a 4 _ _ _ g1
  have c5 := cell_of_row w1 a 5 _ _ _ g1
  simp only [List.getElem?_toArray, List.getElem?_cons_zero, List.getElem?_cons_succ] at c0 c1 c2 c3 c4 c5
  have GZ : Hid (w1.drew.heap[zb]? = some (.cells #[.int .u8 0, .int .u8 0, .int .u8 0, .int .u16 0, .int .u32 0, .int .u64 0, .int .u32 0, .bool false, .string ByteArray.empty] 38 (0, 0))) := Lib.hid gz
  clear ha g1 gz k1 hzb
  go_still_tail 20, (by kernel_rfl)
  repeat still_step
  change wpList _ _ _ _ _ w1.drew
  refine wpList_store_row (by rfl) 38 (.tmp 8) (.tmp 28) (by rfl) zb 38 #[.int .u8 0, .int .u8 0, .int .u8 0, .int .u16 0, .int .u32 0, .int .u64 0, .int .u32 0, .bool false, .string ByteArray.empty] #[.int .u8 f, .int .u8 t, .int .u8 i0, .int .u16 i1, .int .u32 i2, .int .u64 0, .int .u32 seq, .bool false, .string body] (by rfl) (by rfl) GZ.out (by kernel_rfl) (by rfl) (by kernel_rfl) ?_
  go_wp2_with fail
  refine bodyPost_ret (results_one rfl _ _ _ _ _ _ _ rfl (setRow_heap _ _ _ _ _ _ GZ.out) Tryz.underlying38 rfl (by kernel_rfl)) rfl ?_
  exact ⟨rfl, (K1.out.drew).setRow _ _ (fun h => absurd h (by have := HZB.out; omega))⟩
end Go.Proofs.YtpkadglempbjiaaGreat
