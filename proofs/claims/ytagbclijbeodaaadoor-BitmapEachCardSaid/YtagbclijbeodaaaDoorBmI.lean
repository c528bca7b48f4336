/- Contracts on Copy, Clear, Fill. -/
import Derived.Test.YtagbclijbeodaaaDoorBmC
import Derived.StillTailTactics
import Derived.Lib.SliceRun
import Derived.Laws.AppendOwnNone
import Derived.Deep.AppendLies
import Derived.Deep.RegionLaw
namespace Go.Proofs.YtagbclijbeodaaaDoor
open Go.RowKit
set_option linter.unusedVariables false

theorem words_one (ws : List Nat) : ∀ u ∈ words ws, u.oneCell' = true := by
  intro u hu
  obtain ⟨x, _, rfl⟩ := List.mem_map.1 hu
  rfl

theorem SetAt.fresh {B : Nat} {w : World} {s n : Nat} {v : Value} {ws : List Nat} (h : SetAt w s n v ws) : MadeSet 0 w s n v ws := ⟨h, Nat.zero_le _, fun _ _ => Nat.zero_le _⟩

theorem own_zero {w : World} {b : Nat} {e : TypeId} {z : Nat} {v : Value} {n : Nat} {xs : List Value} (h : w.ownsRow b e z v n xs) : w.ownsRow 0 e z v n xs := by
  refine ⟨h.1, ?_⟩
  rcases h.2 with h | ⟨g', c', cu, h1, h2, h3⟩
  · exact .inl h
  · exact .inr ⟨g', c', cu, h1, Nat.zero_le _, h3⟩

theorem copy_ok (s n : Nat) (v : Value) (ws : List Nat) (w : World) (h : SetAt w s n v ws) :
    Calls Tryd.prog 20 #[.pointer (some ⟨s, 0, none⟩)] w fun e w' => ∃ s' u, e = .returned (.pointer (some ⟨s', 0, none⟩)) ∧ Kept No w w' ∧ MadeSet w.heap.size w' s' n u ws := by
  obtain ⟨i0, hi, hz0, hz1, hz2⟩ := info_parts Tryd.infoU64
  have hc := h.n_cell
  have hv := h.v_cell
  have hlen : ws.length ≤ 65536 := by have := h.size; have := h.bound; omega
  have H := Lib.hid h
  by_cases h0 : ws = []
  · subst h0
    obtain ⟨a, cap, rfl⟩ := h.slen
    clear h
    cases a
    all_goals
      go_enter Tryd.func20, Tryd.ntmps20
      go_wp2_with fail
      go_region
      all_goals
        go_wp2
        go_ret
        refine ⟨w.heap.size, .slice none 0 0, rfl, ((Kept.refl _ _).alloc _).drew, ?_, Nat.le_refl _, by intro g hg; cases hg⟩
        exact (SetAt.made (w := w) (n := n) (v := .slice none 0 0) (ws := []) (World.ownsRow_nil _ _ _ _) H.out.size H.out.bound H.out.low).drew
  · obtain ⟨g, cap, rfl, hgs, hcap, _, _⟩ := h.slice' (List.length_pos_iff.2 h0)
    have hrow := h.row
    clear h
    have hlt := lt_of_heap H.out.head
    have hcells := fun j u hu => hrow.cells (g := g) rfl j u hu
    have HC : Hid (∀ j u, (words ws)[j]? = some u → w.drew.cell? ((⟨g, 0, none⟩ : Addr).add j) = some u) := hcells
    have hpos : 0 < ws.length := List.length_pos_iff.2 h0
    clear hcells hrow hcap
    have HO := words_one ws
    have HO2 := Lib.hid HO
    clear HO
    go_enter Tryd.func20, Tryd.ntmps20
    go_wp2_with fail
    go_region_law ((refine step_append_lies w.drew rfl (.const (.slice none 0 0)) (.tmp 12) 45 rfl w.heap.size 44 i0 (.int .u64 0) 1 8 Tryd.underlying45 hi hz0 hz1 hz2 rfl (by decide) (.slice none 0 0) 0 [] rfl (World.ownsRow_nil _ _ _ _) ⟨g, 0, none⟩ ws.length cap (words ws) (by simp [Act.eval]) (by simp [words]) HC.out HO2.out hpos (by unfold maxLen; omega) (by omega) (Nat.le_refl _) w.heap.size rfl ?_; intro g1 cap1 w1 hown hgrow hg1 hg2; have hc1 : w1.cell? ⟨s, 0, none⟩ = some (.int .i64 (n : Int)) := by rw [hgrow.cell_far _ hlt (by simp [Value.ownBlock])]; exact hc))
    all_goals
      go_wp2
      go_ret
      have hk : Kept No w w1 := ((Kept.refl No w).drew).trans (Kept.of_grown_none hgrow)
      simp only [Nat.zero_add, List.nil_append] at hown
      exact ⟨w1.heap.size, .slice (some ⟨g1, 0, none⟩) ws.length cap1, rfl, hk.alloc _, SetAt.made (own_zero hown) H.out.size H.out.bound H.out.low, hk.size, fun g' hg' => (hown.lt g' hg').1⟩

theorem SetAt.cells {w : World} {s n g m cap : Nat} {ws : List Nat} (hm : m = ws.length) (h : SetAt w s n (.slice (some ⟨g, 0, none⟩) m cap) ws) : ∀ (vs : List Nat) (o : Nat), o + vs.length ≤ ws.length → (∀ x ∈ vs, x < 18446744073709551616) →
    Kept (fun k => (Value.slice (some ⟨g, 0, none⟩) m cap).ownBlock = some k) w (w.setCells g o (words vs)) ∧ SetAt (w.setCells g o (words vs)) s n (.slice (some ⟨g, 0, none⟩) m cap) (ws.take o ++ vs ++ ws.drop (o + vs.length)) := by
  intro vs
  induction vs generalizing w ws with
  | nil => intro o ho hx; simp only [List.append_nil, List.length_nil, Nat.add_zero, List.take_append_drop]; exact ⟨Kept.refl _ _, h⟩
  | cons v vs ih =>
    intro o ho hx
    simp only [List.length_cons] at ho
    obtain ⟨h1, h2⟩ := h.stored hm o v (hx v List.mem_cons_self)
    have h2' : SetAt (w.setCell ⟨g, o, none⟩ (.int .u64 (v : Int))) s n (.slice (some ⟨g, 0, none⟩) m cap) (ws.set o v) := ⟨h2.head, h2.row, h2.size, h2.bound, h2.low, h2.other⟩
    have h1' : Kept (fun k => (Value.slice (some ⟨g, 0, none⟩) m cap).ownBlock = some k) w (w.setCell ⟨g, o, none⟩ (.int .u64 (v : Int))) := ⟨h1.os, h1.tape, h1.output, h1.size, h1.block⟩
    obtain ⟨k1, k2⟩ := ih (by rw [List.length_set]; exact hm) h2' (o + 1) (by rw [List.length_set]; omega) (fun x hx' => hx x (List.mem_cons_of_mem _ hx'))
    have e : (ws.set o v).take (o + 1) ++ vs ++ (ws.set o v).drop (o + 1 + vs.length) = ws.take o ++ (v :: vs) ++ ws.drop (o + (v :: vs).length) := by
      rw [List.drop_set, if_pos (by omega), List.take_set, List.take_succ_eq_append_getElem (by omega), List.set_append]
      simp [show (ws.take o).length = o by rw [List.length_take]; omega]
      congr 1
      omega
    rw [e] at k2
    exact ⟨h1'.trans k1, k2⟩

theorem zero64 (w : World) : (zeroValue 44).run Tryd.prog w = .ok (.int .u64 0) w := by kernel_rfl

theorem clear_ok (s n : Nat) (v : Value) (ws : List Nat) (w : World) (h : SetAt w s n v ws) :
    Calls Tryd.prog 10 #[.pointer (some ⟨s, 0, none⟩)] w fun e w' => e = .returned (.tuple #[]) ∧ Kept (fun k => v.ownBlock = some k) w w' ∧ SetAt w' s n v (List.replicate ((n + 63) / 64) 0) := by
  have hv := h.v_cell
  have H := Lib.hid h
  by_cases h0 : ws = []
  · subst h0
    have hn : (n + 63) / 64 = 0 := by have := h.size; simpa using this.symm
    obtain ⟨a, cap, rfl⟩ := h.slen
    have hcl : ∀ ty, (Builtin.clear_ #[45] ty #[.slice a 0 cap]).run Tryd.prog w = .ok (.tuple #[]) w := fun ty => by
      cases a <;> simp [Builtin.clear_, run_underlying Tryd.underlying45]
    clear h
    go_enter Tryd.func10, Tryd.ntmps10
    go_wp2_with (simp only [hcl])
    go_end0
    refine ⟨rfl, Kept.refl _ _, ?_⟩
    rw [hn]
    exact H.out
  · have hpos := List.length_pos_iff.2 h0
    obtain ⟨g, cap, rfl, hgs, hcap, hcs, hfr⟩ := h.slice' hpos
    have hz : words (List.replicate ws.length 0) = List.replicate ws.length (.int .u64 0) := by simp [words]
    have hw := h.cells rfl (List.replicate ws.length 0) 0 (by simp) (by intro x hx; rw [List.mem_replicate] at hx; omega)
    simp only [List.take_zero, List.nil_append, List.length_replicate, Nat.zero_add, List.drop_length, List.append_nil] at hw
    rw [hz, h.size] at hw
    have hcl : ∀ ty, (Builtin.clear_ #[45] ty #[.slice (some ⟨g, 0, none⟩) ws.length cap]).run Tryd.prog w = .ok (.tuple #[]) (w.setCells g 0 (List.replicate ws.length (.int .u64 0))) :=
      fun ty => Lib.run_clear_slice w 45 44 ty (.int .u64 0) Tryd.underlying45 zero64 rfl rfl g 0 ws.length cap hpos (fun j hj => by rw [Nat.zero_add, hcs j hj]; rfl) (fun j hj => by rw [Nat.zero_add]; exact hfr j)
    rw [h.size] at hcl
    rw [h.size] at hv ⊢
    have HW := Lib.hid hw
    clear h hw hcs hfr hz
    go_enter Tryd.func10, Tryd.ntmps10
    go_wp2_with (simp only [hcl])
    go_end0
    exact ⟨rfl, HW.out.1, HW.out.2⟩

end Go.Proofs.YtagbclijbeodaaaDoor
