/- descent: how one begins: wait, level, down. -/
import Derived.Test.YtecdcmjjioanaaaGreatDnB
import Derived.Test.YtecdcmjjioanaaaGreatLwB
namespace Go.Proofs.YtecdcmjjioanaaaGreat
open Go.RowKit Go.Lib
set_option linter.unusedVariables false
set_option maxRecDepth 100000

theorem twidth_ok (n : Int) (p : Nat) (fr : Nat × Nat) (w : World) (hg : w.heap[p]? = some (.cells (treeRow n) 64 fr)) :
    Calls Tryz.prog 19 #[.pointer (some ⟨p, 0, none⟩)] w fun e w' => e = .returned (.int .i64 n) ∧ w = w' := by
  have hc := cell_of_row w p 0 _ _ _ hg
  rw [show (treeRow n)[0]? = some (.int .i64 n) from rfl] at hc
  clear hg
  go_enter Tryz.func19, Tryz.ntmps19
  go_wp2
  go_ret
  exact ⟨rfl, rfl⟩
theorem troot_ok (n : Int) (p : Nat) (fr : Nat × Nat) (w : World) (hg : w.heap[p]? = some (.cells (treeRow n) 64 fr)) :
    Calls Tryz.prog 20 #[.pointer (some ⟨p, 0, none⟩)] w fun e w' => e = .returned (.string ByteArray.empty) ∧ w = w' := by
  have hc := cell_of_row w p 2 _ _ _ hg
  rw [show (treeRow n)[2]? = some (.string ByteArray.empty) from treeRow_text n 0 (by omega)] at hc
  clear hg
  go_enter Tryz.func20, Tryz.ntmps20
  go_wp2
  go_ret
  exact ⟨rfl, rfl⟩

set_option maxHeartbeats 2000000 in
theorem wait_ok (d : Nat) (own : Value) (root : ByteArray) (q : Addr) (cap : Array Value) (w : World) (hd : w.heap[d]? = some (.cells #[own, .string root, .int .u8 0, .int .i64 0, .int .u8 0, .int .u16 0, .bool false, .string ByteArray.empty, .string ByteArray.empty, .slice none 0 0, .slice none 0 0, .slice none 0 0, .slice none 0 0, .slice none 0 0, .slice none 0 0, .nilFunc, .bool false, .slice none 0 0, .int .i64 0] 49 (0, 0))) :
    Calls Tryz.prog 31 #[.pointer (some ⟨d, 0, none⟩), .agg #[.int .u8 2, .int .i64 0, .int .u8 0, .int .u16 0, .bool false, .string ByteArray.empty, .string ByteArray.empty, .slice (some q) 1 1, .slice none 0 0, .slice none 0 0, .slice none 0 0, .slice none 0 0, .slice none 0 0], .func (.func 75) #[] cap] w fun e w' => e = .returned (.tuple #[]) ∧ Kept (fun k => k = d) w w' ∧ w'.heap[d]? = some (.cells #[own, .string root, .int .u8 2, .int .i64 0, .int .u8 0, .int .u16 0, .bool false, .string ByteArray.empty, .string ByteArray.empty, .slice (some q) 1 1, .slice none 0 0, .slice none 0 0, .slice none 0 0, .slice none 0 0, .slice none 0 0, .func (.func 75) #[] cap, .bool false, .slice none 0 0, .int .i64 0] 49 (0, 0)) := by
  go_enter Tryz.func31, Tryz.ntmps31
  have hlt := lt_of_heap hd
  have hg : (w.alloc (.cells #[.int .u8 2, .int .i64 0, .int .u8 0, .int .u16 0, .bool false, .string ByteArray.empty, .string ByteArray.empty, .slice (some q) 1 1, .slice none 0 0, .slice none 0 0, .slice none 0 0, .slice none 0 0, .slice none 0 0] 34)).heap[d]? = some (.cells #[own, .string root, .int .u8 0, .int .i64 0, .int .u8 0, .int .u16 0, .bool false, .string ByteArray.empty, .string ByteArray.empty, .slice none 0 0, .slice none 0 0, .slice none 0 0, .slice none 0 0, .slice none 0 0, .slice none 0 0, .nilFunc, .bool false, .slice none 0 0, .int .i64 0] 49 (0, 0)) := ((Kept.refl No w).alloc _).heap hd (fun h => h)
  have HG := Lib.hid hg
  have g2 := setRow_heap _ d _ (over #[own, .string root, .int .u8 0, .int .i64 0, .int .u8 0, .int .u16 0, .bool false, .string ByteArray.empty, .string ByteArray.empty, .slice none 0 0, .slice none 0 0, .slice none 0 0, .slice none 0 0, .slice none 0 0, .slice none 0 0, .nilFunc, .bool false, .slice none 0 0, .int .i64 0] 2 #[.int .u8 2, .int .i64 0, .int .u8 0, .int .u16 0, .bool false, .string ByteArray.empty, .string ByteArray.empty, .slice (some q) 1 1, .slice none 0 0, .slice none 0 0, .slice none 0 0, .slice none 0 0, .slice none 0 0].toList) _ _ hg
  have c15 := cell_of_row _ d 15 _ _ _ g2
  have f15 := frozen_of_row _ d 15 _ _ g2
  rw [show (over #[own, .string root, .int .u8 0, .int .i64 0, .int .u8 0, .int .u16 0, .bool false, .string ByteArray.empty, .string ByteArray.empty, .slice none 0 0, .slice none 0 0, .slice none 0 0, .slice none 0 0, .slice none 0 0, .slice none 0 0, .nilFunc, .bool false, .slice none 0 0, .int .i64 0] 2 #[.int .u8 2, .int .i64 0, .int .u8 0, .int .u16 0, .bool false, .string ByteArray.empty, .string ByteArray.empty, .slice (some q) 1 1, .slice none 0 0, .slice none 0 0, .slice none 0 0, .slice none 0 0, .slice none 0 0].toList)[15]? = some .nilFunc from rfl] at c15
  have G2 := Lib.hid g2
  clear hd hg g2
  go_wp2_with (refine wpList_store_part (by rfl) 34 (.tmp 11) (.tmp 8) (by rfl) d 2 49 #[own, .string root, .int .u8 0, .int .i64 0, .int .u8 0, .int .u16 0, .bool false, .string ByteArray.empty, .string ByteArray.empty, .slice none 0 0, .slice none 0 0, .slice none 0 0, .slice none 0 0, .slice none 0 0, .slice none 0 0, .nilFunc, .bool false, .slice none 0 0, .int .i64 0] #[.int .u8 2, .int .i64 0, .int .u8 0, .int .u16 0, .bool false, .string ByteArray.empty, .string ByteArray.empty, .slice (some q) 1 1, .slice none 0 0, .slice none 0 0, .slice none 0 0, .slice none 0 0, .slice none 0 0] (by rfl) (by rfl) HG.out (by kernel_rfl) (by simp) (by kernel_rfl) ?_)
  go_end0
  refine ⟨rfl, (((Kept.refl (fun k => k = d) w).alloc _).setRow _ _ (fun _ => rfl)).setCell _ _ (fun _ => rfl), ?_⟩
  exact heap_setCell_same _ d 15 _ _ (.func (.func 75) #[] cap) G2.out

set_option maxHeartbeats 2000000 in
theorem level_ok (d : Nat) (own : Value) (root : ByteArray) (g : Nat) (w : World) (hd : w.heap[d]? = some (.cells #[own, .string root, .int .u8 0, .int .i64 0, .int .u8 0, .int .u16 0, .bool false, .string ByteArray.empty, .string ByteArray.empty, .slice none 0 0, .slice none 0 0, .slice none 0 0, .slice none 0 0, .slice none 0 0, .slice none 0 0, .nilFunc, .bool false, .slice none 0 0, .int .i64 0] 49 (0, 0))) (hq : w.cell? ⟨g, 0, none⟩ = some (.int .u16 0)) :
    Calls Tryz.prog 43 #[.pointer (some ⟨d, 0, none⟩), .slice (some ⟨g, 0, none⟩) 1 1, .slice none 0 0] w fun e w' => e = .returned (.tuple #[]) ∧ Kept (fun k => k = d) w w' ∧ ∃ q cap, w'.heap[d]? = some (.cells #[own, .string root, .int .u8 2, .int .i64 0, .int .u8 0, .int .u16 0, .bool false, .string ByteArray.empty, .string ByteArray.empty, .slice (some q) 1 1, .slice none 0 0, .slice none 0 0, .slice none 0 0, .slice none 0 0, .slice none 0 0, .func (.func 75) #[] cap, .bool false, .slice none 0 0, .int .i64 0] 49 (0, 0)) := by
  have hdl := lt_of_heap hd
  have hql : g < w.heap.size := block_lt_of_cell hq
  have hql1 : g < w.heap.size + 1 := by omega
  have hql2 : g < w.heap.size + 1 + 1 := by omega
  go_enter Tryz.func43, Tryz.ntmps43
  go_wp2_with fail
  have k3 : Kept No w (((w.alloc (.cells #[.pointer (some ⟨d, 0, none⟩)] 22)).alloc (.cells #[.slice (some ⟨g, 0, none⟩) 1 1] 25)).alloc (.cells #[.slice none 0 0] 25)) := (((Kept.refl No w).alloc _).alloc _).alloc _
  have ha : (((w.alloc (.cells #[.pointer (some ⟨d, 0, none⟩)] 22)).alloc (.cells #[.slice (some ⟨g, 0, none⟩) 1 1] 25)).alloc (.cells #[.slice none 0 0] 25)).heap[w.heap.size]? = some (.cells #[.pointer (some ⟨d, 0, none⟩)] 22) := by
    have := ((((Kept.refl No (w.alloc (.cells #[.pointer (some ⟨d, 0, none⟩)] 22))).alloc (.cells #[.slice (some ⟨g, 0, none⟩) 1 1] 25)).alloc (.cells #[.slice none 0 0] 25))).heap (heap_alloc_new w (.cells #[.pointer (some ⟨d, 0, none⟩)] 22)) (fun h => h)
    exact this
  have hb : (((w.alloc (.cells #[.pointer (some ⟨d, 0, none⟩)] 22)).alloc (.cells #[.slice (some ⟨g, 0, none⟩) 1 1] 25)).alloc (.cells #[.slice none 0 0] 25)).heap[w.heap.size + 1]? = some (.cells #[.slice (some ⟨g, 0, none⟩) 1 1] 25) := by
    have := (((Kept.refl No ((w.alloc (.cells #[.pointer (some ⟨d, 0, none⟩)] 22)).alloc (.cells #[.slice (some ⟨g, 0, none⟩) 1 1] 25))).alloc (.cells #[.slice none 0 0] 25))).heap (heap_alloc_new (w.alloc (.cells #[.pointer (some ⟨d, 0, none⟩)] 22)) (.cells #[.slice (some ⟨g, 0, none⟩) 1 1] 25)) (fun h => h)
    simpa using this
  have hc : (((w.alloc (.cells #[.pointer (some ⟨d, 0, none⟩)] 22)).alloc (.cells #[.slice (some ⟨g, 0, none⟩) 1 1] 25)).alloc (.cells #[.slice none 0 0] 25)).heap[w.heap.size + 1 + 1]? = some (.cells #[.slice none 0 0] 25) := by
    have := heap_alloc_new ((w.alloc (.cells #[.pointer (some ⟨d, 0, none⟩)] 22)).alloc (.cells #[.slice (some ⟨g, 0, none⟩) 1 1] 25)) (.cells #[.slice none 0 0] 25)
    simpa using this
  generalize (((w.alloc (.cells #[.pointer (some ⟨d, 0, none⟩)] 22)).alloc (.cells #[.slice (some ⟨g, 0, none⟩) 1 1] 25)).alloc (.cells #[.slice none 0 0] 25)) = w3 at k3 ha hb hc ⊢
  have hn1 : w.heap.size + 1 ≠ w.heap.size := by omega
  have hl : w.heap.size ≤ w.heap.size + 1 + 1 := by omega
  clear hq hql
  refine (level_0 _).mono ?_
  rintro e w4 ⟨rfl, k4⟩
  have HD : Hid (w4.heap[d]? = _) := Lib.hid ((k3.trans k4).heap hd (fun h => h))
  have k5 : Kept No w w4 := k3.trans k4
  have ea := k4.heap ha (fun h => h)
  have eb := k4.heap hb (fun h => h)
  have ec := k4.heap hc (fun h => h)
  have ca := cell_of_row w4 _ 0 _ _ _ ea
  have cb := cell_of_row w4 _ 0 _ _ _ eb
  have cc := cell_of_row w4 _ 0 _ _ _ ec
  simp only [List.getElem?_toArray, List.getElem?_cons_zero] at ca cb cc
  have K5 := Lib.hid k5
  have hla := lt_of_heap ea
  have hlb := lt_of_heap eb
  clear hd k3 k4 k5 ha hb hc ea eb ec
  go_wp2_with fail
  have e0 : (Value.string { data := #[] }) = .string ByteArray.empty := rfl
  rw [e0]
  refine (wait_ok d own root ⟨g, 0, none⟩ _ _ (((Kept.refl No w4).alloc _).heap HD.out (fun h => h))).mono ?_
  rintro e w5 ⟨rfl, k5, h5⟩
  have H5 := Lib.hid h5
  have KK : Hid (Kept (fun k => k = d) w w5) := Lib.hid (((K5.out.of_no (fun k => k = d)).alloc _).trans k5)
  clear h5 k5 HD K5
  go_wp2_with fail
  go_end0
  exact ⟨rfl, KK.out, _, _, H5.out⟩

set_option maxHeartbeats 2000000 in
theorem down_ok (d : Nat) (own : Value) (root : ByteArray) (w : World) (hd : w.heap[d]? = some (.cells #[own, .string root, .int .u8 0, .int .i64 0, .int .u8 0, .int .u16 0, .bool false, .string ByteArray.empty, .string ByteArray.empty, .slice none 0 0, .slice none 0 0, .slice none 0 0, .slice none 0 0, .slice none 0 0, .slice none 0 0, .nilFunc, .bool false, .slice none 0 0, .int .i64 0] 49 (0, 0))) :
    Calls Tryz.prog 22 #[.pointer (some ⟨d, 0, none⟩)] w fun e w' => e = .returned (.tuple #[]) ∧ Kept (fun k => k = d) w w' ∧ ∃ q cap, w'.heap[d]? = some (.cells #[own, .string root, .int .u8 2, .int .i64 0, .int .u8 0, .int .u16 0, .bool false, .string ByteArray.empty, .string ByteArray.empty, .slice (some q) 1 1, .slice none 0 0, .slice none 0 0, .slice none 0 0, .slice none 0 0, .slice none 0 0, .func (.func 75) #[] cap, .bool false, .slice none 0 0, .int .i64 0] 49 (0, 0)) := by
  have HD := Lib.hid hd
  clear hd
  go_enter Tryz.func22, Tryz.ntmps22
  go_wp2_with fail
  refine (level_ok d own root w.heap.size _ (((Kept.refl No w).alloc _).heap HD.out (fun h => h)) (by simp [cell_of_row _ _ _ _ _ _ (heap_alloc_new w _)])).mono ?_
  rintro e w5 ⟨rfl, k5, h5⟩
  have H5 := Lib.hid h5
  have KK : Hid (Kept (fun k => k = d) w w5) := Lib.hid (((Kept.refl (fun k => k = d) w).alloc _).trans k5)
  clear h5 k5 HD
  go_wp2_with fail
  go_end0
  exact ⟨rfl, KK.out, H5.out⟩
end Go.Proofs.YtecdcmjjioanaaaGreat
