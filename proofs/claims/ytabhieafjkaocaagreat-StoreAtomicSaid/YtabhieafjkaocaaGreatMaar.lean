/- A part. -/
import Derived.Test.YtabhieafjkaocaaGreatMaaq
import Derived.Test.YtabhieafjkaocaaGreatMaam
import Derived.Test.YtabhieafjkaocaaGreatMaao
import Derived.Test.YtabhieafjkaocaaGreatMaap
import Derived.Deep.RegionWith
import Derived.Deep.RegionLaw
import Derived.StillTailTactics
set_option linter.unusedVariables false
set_option linter.unusedSimpArgs false
namespace Go.Proofs.YtabhieafjkaocaaGreat
open Go.RowKit Go.Lib Bm
set_option maxRecDepth 20000
theorem wpList_load_part {P : Program} {ops : Array Oper} {rest : List Oper} {o : Oper} {a : Act} {w : World} {Q : Exit → Act → World → Prop} (hgd : o.guard = none) (ty : TypeId) (x : Operand) (ho : o.op = .load ty x)
    (g off : Nat) (hx : a.eval x = .pointer (some ⟨g, off, none⟩)) (t : TypeId) (cs : Array Value) (cells : List Value) (fr : Nat × Nat) (d : TypeDesc) (hg : w.heap[g]? = some (.cells cs t fr))
    (hu : P.underlying ty = some d) (hd : (match d with | .struct _ | .array _ _ => true | _ => false) = true) (hi : (P.info? ty).map (·.size) = some cells.length) (hc : ∀ j v, cells[j]? = some v → cs[off + j]? = some v)
    (h : wpList P ops Q rest (a.put o.dst (.agg cells.toArray)) w) : wpList P ops Q (o :: rest) a w := by
  refine wpList_plain hgd fun _ hK => ?_
  unfold Oper.wp execOp
  simp only [ho, hx, Instr.loadAt, Instr.sureAddr, Sem.run_bind, Sem.run_pure, Result.andThen_ok, run_loadVar_part w g off t ty cs cells fr d hg hu hd hi hc]
  exact hK _ _ h
abbrev rootC (r : Root8) : List Value := [.int .u32 (r.a : Int), .int .u32 (r.b : Int), .int .u32 (r.c : Int), .int .u32 (r.d : Int), .int .u32 (r.e : Int), .int .u32 (r.f : Int), .int .u32 (r.g : Int), .int .u32 (r.h : Int)]
abbrev heldV (u : Nat) (r : Root8) : Value := .agg #[.pointer (some ⟨u, 0, none⟩), .int .u32 (r.a : Int), .int .u32 (r.b : Int), .int .u32 (r.c : Int), .int .u32 (r.d : Int), .int .u32 (r.e : Int), .int .u32 (r.f : Int), .int .u32 (r.g : Int), .int .u32 (r.h : Int)]
structure HeldAt (w : World) (u : Nat) (v : Value) (h : HeldM) : Prop where
  set : SetAt w u h.n v h.ws
  ok : h.Ok
structure StAt (w : World) (s d u : Nat) (v bp : Value) (m : StM) : Prop where
  head : w.heap[s]? = some (.cells #[dev d, .int .i64 (m.count : Int), .pointer (some ⟨u, 0, none⟩), .int .u32 (m.now.root.a : Int), .int .u32 (m.now.root.b : Int), .int .u32 (m.now.root.c : Int), .int .u32 (m.now.root.d : Int), .int .u32 (m.now.root.e : Int), .int .u32 (m.now.root.f : Int), .int .u32 (m.now.root.g : Int), .int .u32 (m.now.root.h : Int), .int .u64 (m.serial : Int), .int .u64 (m.next : Int), .bool m.dead, bp] 90 (0, 0))
  held : HeldAt w u v m.now
  count : 2 ≤ m.count ∧ m.count ≤ 4096
  next : m.serial < m.next ∧ m.next ≤ 4611686018427387904
  bp1 : bp.oneCell' = true
theorem HeldAt.kept {M : Nat → Prop} {w w' : World} {u : Nat} {v : Value} {h : HeldM} (x : HeldAt w u v h) (k : Kept M w w') (hu : ¬ M u) (hv : ∀ g, v.ownBlock = some g → ¬ M g) : HeldAt w' u v h := ⟨x.set.kept k hu hv, x.ok⟩
theorem StAt.kept {M : Nat → Prop} {w w' : World} {s d u : Nat} {v bp : Value} {m : StM} (x : StAt w s d u v bp m) (k : Kept M w w') (hs : ¬ M s) (hu : ¬ M u) (hv : ∀ g, v.ownBlock = some g → ¬ M g) : StAt w' s d u v bp m :=
  ⟨k.heap x.head hs, x.held.kept k hu hv, x.count, x.next, x.bp1⟩
theorem StAt.no {w w' : World} {s d u : Nat} {v bp : Value} {m : StM} (x : StAt w s d u v bp m) (k : Kept No w w') : StAt w' s d u v bp m := x.kept k (fun h => h) (fun h => h) (fun _ _ h => h)
theorem held_size : (Tryz.prog.info? 88).map (·.size) = some 9 := by kernel_rfl
theorem has_mem (s n : Nat) (v : Value) (ws : List Nat) (w : World) (i : Nat) (h : SetAt w s n v ws) (h1 : i < n) :
    Calls Tryz.prog 45 #[.pointer (some ⟨s, 0, none⟩), .int .i64 (i : Int)] w fun e w' => e = .returned (.bool (mem ws i)) ∧ w = w' := has_in s n v ws w i h h1
theorem asked_ok (u : Nat) (v : Value) (h : HeldM) (n : Nat) (w : World) (H : HeldAt w u v h) (hn : n < 4294967296) :
    Calls Tryz.prog 41 #[heldV u h.root, .int .u32 (n : Int)] w fun e w' => e = .returned (.int .i64 (h.asked n)) ∧ Kept No w w' := by
  have hw : IntKind.i64.wrap (n : Int) = (n : Int) := by rw [IntKind.wrap_i64]; omega
  have k0 : Kept No w (w.alloc (.cells #[.pointer (some ⟨u, 0, none⟩), .int .u32 (h.root.a : Int), .int .u32 (h.root.b : Int), .int .u32 (h.root.c : Int), .int .u32 (h.root.d : Int), .int .u32 (h.root.e : Int), .int .u32 (h.root.f : Int), .int .u32 (h.root.g : Int), .int .u32 (h.root.h : Int)] 88)) := (Kept.refl _ _).alloc _
  have hs := H.set.kept k0 (fun h => h) (fun _ _ h => h)
  have HS := Lib.hid hs
  have K0 := Lib.hid k0
  have hm := H.ok.most
  clear H hs k0
  by_cases h0 : n = 0
  · subst h0
    rw [show h.asked 0 = 1 from by unfold HeldM.asked; rw [if_pos (.inl rfl)]]
    go_enter Tryz.func41, Tryz.ntmps41
    go_wp2
    go_ret
    exact ⟨rfl, K0.out⟩
  have e0 : ((n : Int) == 0) = false := by rw [beq_eq_false_iff_ne]; omega
  by_cases h1 : h.n ≤ n
  · rw [show h.asked n = 1 from by unfold HeldM.asked; rw [if_pos (.inr h1)]]
    have hd : decide ((h.n : Int) ≤ (n : Int)) = true := by simp; omega
    go_enter Tryz.func41, Tryz.ntmps41
    go_wp2_with (go_at_call 44; refine (len_any u h.n v h.ws _ HS.out).mono ?_; rintro e w' ⟨rfl, rfl⟩)
    go_ret
    exact ⟨rfl, K0.out⟩
  have hd : decide ((h.n : Int) ≤ (n : Int)) = false := by simp; omega
  have he : h.asked n = if mem h.ws n then 0 else 71 := by unfold HeldM.asked; rw [if_neg (by omega)]
  rw [he]
  clear he
  cases hmem : mem h.ws n
  all_goals
    have HM := Lib.hid hmem
    clear hmem
    go_enter Tryz.func41, Tryz.ntmps41
    go_wp2_with (first | (go_at_call 44; refine (len_any u h.n v h.ws _ HS.out).mono ?_; rintro e w' ⟨rfl, rfl⟩) | (go_at_call 45; refine (has_mem u h.n v h.ws _ n HS.out (by omega)).mono ?_; rintro e w' ⟨rfl, rfl⟩; rw [HM.out]))
    go_ret
    exact ⟨rfl, K0.out⟩
theorem pages_ok (s d u : Nat) (v bp : Value) (m : StM) (w : World) (h : StAt w s d u v bp m) :
    Calls Tryz.prog 14 #[.pointer (some ⟨s, 0, none⟩)] w fun e w' => e = .returned (.int .i64 (m.now.n : Int)) ∧ w = w' := by
  have c2 := (cell_of_row w s 2 _ _ _ h.head).trans rfl
  have HS := Lib.hid h.held.set
  clear h
  go_enter Tryz.func14, Tryz.ntmps14
  go_wp2_with (go_at_call 44; refine (len_any u m.now.n v m.now.ws _ HS.out).mono ?_; rintro e w' ⟨rfl, rfl⟩)
  go_ret
  exact ⟨rfl, rfl⟩
theorem serial_ok (s d u : Nat) (v bp : Value) (m : StM) (w : World) (h : StAt w s d u v bp m) :
    Calls Tryz.prog 16 #[.pointer (some ⟨s, 0, none⟩)] w fun e w' => e = .returned (.int .u64 (m.serial : Int)) ∧ w = w' := by
  have c2 := (cell_of_row w s 11 _ _ _ h.head).trans rfl
  clear h
  go_enter Tryz.func16, Tryz.ntmps16
  go_wp2
  go_ret
  exact ⟨rfl, rfl⟩
theorem root_cell (r : Root8) (i : Nat) (h : i < 8) : (rootC r)[i]? = some (.int .u32 (r.get i : Int)) := by
  match i, h with
  | 0, _ | 1, _ | 2, _ | 3, _ | 4, _ | 5, _ | 6, _ | 7, _ => rfl
theorem root_ok (s d u : Nat) (v bp : Value) (m : StM) (i : Nat) (w : World) (h : StAt w s d u v bp m) (hi : i < 8) :
    Calls Tryz.prog 17 #[.pointer (some ⟨s, 0, none⟩), .int .i64 (i : Int)] w fun e w' => e = .returned (.int .u32 (m.now.root.get i : Int)) ∧ w = w' := by
  have c2 : w.cell? ⟨s, 3 + i, none⟩ = some (.int .u32 (m.now.root.get i : Int)) := by
    rw [cell_of_row w s (3 + i) _ _ _ h.head]
    exact (show _ = (rootC m.now.root)[i]? from by match i, hi with | 0, _ | 1, _ | 2, _ | 3, _ | 4, _ | 5, _ | 6, _ | 7, _ => rfl).trans (root_cell _ i hi)
  have hd : decide ((i : Int) < 0) = false := by simp
  have hd2 : decide ((8 : Int) ≤ (i : Int)) = false := by simp; omega
  generalize m.now.root.get i = x at *
  clear h
  go_enter Tryz.func17, Tryz.ntmps17
  go_wp2
  go_ret
  exact ⟨rfl, rfl⟩
theorem set9 (w : World) (B : Nat) (t : TypeId) (z0 z1 z2 z3 z4 z5 z6 z7 z8 v0 v1 v2 v3 v4 v5 v6 v7 v8 : Value) (h : w.heap[B]? = some (.cells #[z0, z1, z2, z3, z4, z5, z6, z7, z8] t (0, 0))) : (((((((((w.setCell ⟨B, 0, none⟩ v0).setCell ⟨B, 1, none⟩ v1).setCell ⟨B, 2, none⟩ v2).setCell ⟨B, 3, none⟩ v3).setCell ⟨B, 4, none⟩ v4).setCell ⟨B, 5, none⟩ v5).setCell ⟨B, 6, none⟩ v6).setCell ⟨B, 7, none⟩ v7).setCell ⟨B, 8, none⟩ v8).heap[B]? = some (.cells #[v0, v1, v2, v3, v4, v5, v6, v7, v8] t (0, 0)) := by
  have H := (heap_setCell_same _ B 8 _ _ v8 (heap_setCell_same _ B 7 _ _ v7 (heap_setCell_same _ B 6 _ _ v6 (heap_setCell_same _ B 5 _ _ v5 (heap_setCell_same _ B 4 _ _ v4 (heap_setCell_same _ B 3 _ _ v3 (heap_setCell_same _ B 2 _ _ v2 (heap_setCell_same _ B 1 _ _ v1 (heap_setCell_same _ B 0 _ _ v0 h)))))))))
  simp only [List.setIfInBounds_toArray, List.set_cons_succ, List.set_cons_zero] at H
  exact H
theorem kept9 (w : World) (B : Nat) (v0 v1 v2 v3 v4 v5 v6 v7 v8 : Value) : Kept (fun k => k = B) w (((((((((w.setCell ⟨B, 0, none⟩ v0).setCell ⟨B, 1, none⟩ v1).setCell ⟨B, 2, none⟩ v2).setCell ⟨B, 3, none⟩ v3).setCell ⟨B, 4, none⟩ v4).setCell ⟨B, 5, none⟩ v5).setCell ⟨B, 6, none⟩ v6).setCell ⟨B, 7, none⟩ v7).setCell ⟨B, 8, none⟩ v8) := ((((((((((Kept.refl (fun k => k = B) w).setCell ⟨B, 0, none⟩ v0 (fun _ => rfl)).setCell ⟨B, 1, none⟩ v1 (fun _ => rfl)).setCell ⟨B, 2, none⟩ v2 (fun _ => rfl)).setCell ⟨B, 3, none⟩ v3 (fun _ => rfl)).setCell ⟨B, 4, none⟩ v4 (fun _ => rfl)).setCell ⟨B, 5, none⟩ v5 (fun _ => rfl)).setCell ⟨B, 6, none⟩ v6 (fun _ => rfl)).setCell ⟨B, 7, none⟩ v7 (fun _ => rfl)).setCell ⟨B, 8, none⟩ v8 (fun _ => rfl))
theorem copied_ok (u : Nat) (v : Value) (h : HeldM) (w : World) (H : HeldAt w u v h) :
    Calls Tryz.prog 54 #[heldV u h.root] w fun e w' => ∃ u' v', e = .returned (heldV u' h.root) ∧ Kept No w w' ∧ HeldAt w' u' v' h ∧ w.heap.size ≤ u' ∧ ∀ g, v'.ownBlock = some g → w.heap.size ≤ g := by
  have hlt := H.set.lt
  have HH := Lib.hid H
  clear H
  go_enter Tryz.func54, Tryz.ntmps54
  go_wp2_with fail
  have hA := heap_alloc_new w (.cells #[.pointer (some ⟨u, 0, none⟩), .int .u32 (h.root.a : Int), .int .u32 (h.root.b : Int), .int .u32 (h.root.c : Int), .int .u32 (h.root.d : Int), .int .u32 (h.root.e : Int), .int .u32 (h.root.f : Int), .int .u32 (h.root.g : Int), .int .u32 (h.root.h : Int)] 88)
  have k0 : Kept No w (w.alloc (.cells #[.pointer (some ⟨u, 0, none⟩), .int .u32 (h.root.a : Int), .int .u32 (h.root.b : Int), .int .u32 (h.root.c : Int), .int .u32 (h.root.d : Int), .int .u32 (h.root.e : Int), .int .u32 (h.root.f : Int), .int .u32 (h.root.g : Int), .int .u32 (h.root.h : Int)] 88)) := (Kept.refl _ _).alloc _
  have hB := heap_alloc_new (w.alloc (.cells #[.pointer (some ⟨u, 0, none⟩), .int .u32 (h.root.a : Int), .int .u32 (h.root.b : Int), .int .u32 (h.root.c : Int), .int .u32 (h.root.d : Int), .int .u32 (h.root.e : Int), .int .u32 (h.root.f : Int), .int .u32 (h.root.g : Int), .int .u32 (h.root.h : Int)] 88)) (.cells #[.pointer none, .int .u32 0, .int .u32 0, .int .u32 0, .int .u32 0, .int .u32 0, .int .u32 0, .int .u32 0, .int .u32 0] 88)
  have k1 : Kept No (w.alloc (.cells #[.pointer (some ⟨u, 0, none⟩), .int .u32 (h.root.a : Int), .int .u32 (h.root.b : Int), .int .u32 (h.root.c : Int), .int .u32 (h.root.d : Int), .int .u32 (h.root.e : Int), .int .u32 (h.root.f : Int), .int .u32 (h.root.g : Int), .int .u32 (h.root.h : Int)] 88)) ((w.alloc (.cells #[.pointer (some ⟨u, 0, none⟩), .int .u32 (h.root.a : Int), .int .u32 (h.root.b : Int), .int .u32 (h.root.c : Int), .int .u32 (h.root.d : Int), .int .u32 (h.root.e : Int), .int .u32 (h.root.f : Int), .int .u32 (h.root.g : Int), .int .u32 (h.root.h : Int)] 88)).alloc (.cells #[.pointer none, .int .u32 0, .int .u32 0, .int .u32 0, .int .u32 0, .int .u32 0, .int .u32 0, .int .u32 0, .int .u32 0] 88)) := (Kept.refl _ _).alloc _
  replace hA := k1.heap hA (fun h => h)
  have K1 := Lib.hid (k0.trans k1)
  clear k0 k1
  have hsz : (w.alloc (.cells #[.pointer (some ⟨u, 0, none⟩), .int .u32 (h.root.a : Int), .int .u32 (h.root.b : Int), .int .u32 (h.root.c : Int), .int .u32 (h.root.d : Int), .int .u32 (h.root.e : Int), .int .u32 (h.root.f : Int), .int .u32 (h.root.g : Int), .int .u32 (h.root.h : Int)] 88)).heap.size = w.heap.size + 1 := by simp
  rw [hsz] at hB
  clear hsz
  have HS := Lib.hid (HH.out.set.kept K1.out (fun h => h) (fun _ _ h => h))
  have hwn : w.heap.size ≤ ((w.alloc (.cells #[.pointer (some ⟨u, 0, none⟩), .int .u32 (h.root.a : Int), .int .u32 (h.root.b : Int), .int .u32 (h.root.c : Int), .int .u32 (h.root.d : Int), .int .u32 (h.root.e : Int), .int .u32 (h.root.f : Int), .int .u32 (h.root.g : Int), .int .u32 (h.root.h : Int)] 88)).alloc (.cells #[.pointer none, .int .u32 0, .int .u32 0, .int .u32 0, .int .u32 0, .int .u32 0, .int .u32 0, .int .u32 0, .int .u32 0] 88)).heap.size := K1.out.size
  generalize ((w.alloc (.cells #[.pointer (some ⟨u, 0, none⟩), .int .u32 (h.root.a : Int), .int .u32 (h.root.b : Int), .int .u32 (h.root.c : Int), .int .u32 (h.root.d : Int), .int .u32 (h.root.e : Int), .int .u32 (h.root.f : Int), .int .u32 (h.root.g : Int), .int .u32 (h.root.h : Int)] 88)).alloc (.cells #[.pointer none, .int .u32 0, .int .u32 0, .int .u32 0, .int .u32 0, .int .u32 0, .int .u32 0, .int .u32 0, .int .u32 0] 88)) = W at *
  have HWN := Lib.hid hwn
  clear hwn
  have HSZ : Hid (w.heap.size = w.heap.size) := Lib.hid rfl
  generalize hAe : w.heap.size = A at *
  have hBA : A ≤ A + 1 := by omega
  generalize A + 1 = B at *
  have HBA := Lib.hid hBA
  clear hBA
  have HAE := Lib.hid hAe
  clear hAe
  have a0 := (cell_of_row W A 0 _ _ _ hA).trans rfl
  have a1 := (cell_of_row W A 1 _ _ _ hA).trans rfl
  have a2 := (cell_of_row W A 2 _ _ _ hA).trans rfl
  have a3 := (cell_of_row W A 3 _ _ _ hA).trans rfl
  have a4 := (cell_of_row W A 4 _ _ _ hA).trans rfl
  have a5 := (cell_of_row W A 5 _ _ _ hA).trans rfl
  have a6 := (cell_of_row W A 6 _ _ _ hA).trans rfl
  have a7 := (cell_of_row W A 7 _ _ _ hA).trans rfl
  have a8 := (cell_of_row W A 8 _ _ _ hA).trans rfl
  have f0 := frozen_of_row W B 0 _ _ hB
  have f1 := frozen_of_row W B 1 _ _ hB
  have f2 := frozen_of_row W B 2 _ _ hB
  have f3 := frozen_of_row W B 3 _ _ hB
  have f4 := frozen_of_row W B 4 _ _ hB
  have f5 := frozen_of_row W B 5 _ _ hB
  have f6 := frozen_of_row W B 6 _ _ hB
  have f7 := frozen_of_row W B 7 _ _ hB
  have f8 := frozen_of_row W B 8 _ _ hB
  have HA := Lib.hid hA
  have HB := Lib.hid hB
  clear hA hB
  go_region_with (first | (go_at_call 89; refine (copy_ok u h.n v h.ws _ HS.out.drew).mono ?_; rintro e w' ⟨s', u', rfl, k', hset⟩; have hA' := k'.heap (row_drewN HA.out 1) (fun h => h); have hB' := k'.heap (row_drewN HB.out 1) (fun h => h); have a1' := (cell_of_row w' A 1 _ _ _ hA').trans rfl; have a2' := (cell_of_row w' A 2 _ _ _ hA').trans rfl; have a3' := (cell_of_row w' A 3 _ _ _ hA').trans rfl; have a4' := (cell_of_row w' A 4 _ _ _ hA').trans rfl; have a5' := (cell_of_row w' A 5 _ _ _ hA').trans rfl; have a6' := (cell_of_row w' A 6 _ _ _ hA').trans rfl; have a7' := (cell_of_row w' A 7 _ _ _ hA').trans rfl; have a8' := (cell_of_row w' A 8 _ _ _ hA').trans rfl; have f0' := frozen_of_row w' B 0 _ _ hB'; have f1' := frozen_of_row w' B 1 _ _ hB'; have f2' := frozen_of_row w' B 2 _ _ hB'; have f3' := frozen_of_row w' B 3 _ _ hB'; have f4' := frozen_of_row w' B 4 _ _ hB'; have f5' := frozen_of_row w' B 5 _ _ hB'; have f6' := frozen_of_row w' B 6 _ _ hB'; have f7' := frozen_of_row w' B 7 _ _ hB'; have f8' := frozen_of_row w' B 8 _ _ hB'; have b0' := (cell_of_row w' B 0 _ _ _ hB').trans rfl; have b1' := (cell_of_row w' B 1 _ _ _ hB').trans rfl; have b2' := (cell_of_row w' B 2 _ _ _ hB').trans rfl; have b3' := (cell_of_row w' B 3 _ _ _ hB').trans rfl; have b4' := (cell_of_row w' B 4 _ _ _ hB').trans rfl; have b5' := (cell_of_row w' B 5 _ _ _ hB').trans rfl; have b6' := (cell_of_row w' B 6 _ _ _ hB').trans rfl; have b7' := (cell_of_row w' B 7 _ _ _ hB').trans rfl; have b8' := (cell_of_row w' B 8 _ _ _ hB').trans rfl; have HA' := Lib.hid hA'; have HB' := Lib.hid hB'; have K' := Lib.hid k'; have HSET := Lib.hid hset; clear hA' hB' k' hset))
  all_goals
    go_wp2
    refine bodyPost_ret (results_one rfl _ _ B _ _ _ _ rfl (set9 _ _ _ _ _ _ _ _ _ _ _ _ _ _ _ _ _ _ _ _ _ HB'.out) Tryz.underlying88 rfl held_size) rfl ?_
    have kk := kept9 w' B (.pointer (some ⟨s', 0, none⟩)) (.int .u32 (h.root.a : Int)) (.int .u32 (h.root.b : Int)) (.int .u32 (h.root.c : Int)) (.int .u32 (h.root.d : Int)) (.int .u32 (h.root.e : Int)) (.int .u32 (h.root.f : Int)) (.int .u32 (h.root.g : Int)) (.int .u32 (h.root.h : Int))
    have hB2 := lt_of_heap HB.out
    have hAle : A ≤ B := HBA.out
    have hAE := HAE.out
    have hWs : W.drew.heap.size = W.heap.size := rfl
    obtain ⟨hs1, hs2, hs3⟩ := HSET.out
    refine ⟨s', u', rfl, ((K1.out.trans (Kept.refl No W).drew).trans K'.out).next kk (fun k hk e => ?_), ⟨hs1.kept kk (by omega) (fun g hg e => ?_), HH.out.ok⟩, by omega, fun g hg => ?_⟩
    · have := HAE.out; omega
    · have := hs3 g hg; omega
    · have := hs3 g hg; omega
end Go.Proofs.YtabhieafjkaocaaGreat
namespace Go.Proofs.YtabhieafjkaocaaGreat
open Go.RowKit Go.Lib Go.Maps Go.MapKept Bm
set_option maxRecDepth 20000
def contElem (v : Value) : Option (DataW Unit × List MemPlace) :=
  match v with
  | .agg ⟨[.int .u8 k, .string s]⟩ => some (.agg [.lit (.int .u8 k), .lit (.string s.data.toList)], [])
  | _ => none
theorem contElem_inv {v : Value} {k : Int} {s : List UInt8} {ps : List MemPlace} (h : contElem v = some (.agg [.lit (.int .u8 k), .lit (.string s)], ps)) : v = .agg #[.int .u8 k, .string ⟨⟨s⟩⟩] := by
  unfold contElem at h
  split at h
  · rename_i k' s'
    simp at h
    obtain ⟨⟨rfl, h2⟩, rfl⟩ := h
    subst h2
    rfl
  · cases h
abbrev ConT := Nat × UInt8 × List UInt8
structure HasAt (w : World) (hm : Nat) (l : List ConT) (D : DataW Unit) : Prop where
  own : w.ownsMap Tryz.prog 25 contElem hm l.length D
  rise : Rise l
  size : Maps.size D = l.length
  has : ∀ k : Nat, Maps.has D (.int .u32 (k : Int)) = (getC k l).isSome
  get : ∀ (k : Nat) c, getC k l = some c → ∀ z, D.atKey (.int .u32 (k : Int)) z = .agg [.lit (.int .u8 (c.1.toNat : Int)), .lit (.string c.2)]
  ok : ∀ x ∈ l, x.1 < 4096 ∧ x.2.2.length ≤ 996
  nat : ∀ z : Lit, Maps.has D z = true → ∃ k : Nat, z = .int .u32 (k : Int)
theorem own_norm {w : World} {P : Program} {k : TypeId} {R : Value → Option (DataW Unit × List MemPlace)} {b n : Nat} {D : DataW Unit} (h : w.ownsMap P k R b n D) : w.ownsMap P k R b (Maps.size D) D := by
  obtain ⟨es, clock, hb, F, hs, rfl⟩ := h
  exact ⟨es, clock, hb, F, by simp [Maps.size, length_sorted], rfl⟩
theorem rise_len (N : Nat) : ∀ (l : List Nat) (lo : Nat), l.Pairwise (· < ·) → (∀ x ∈ l, lo ≤ x ∧ x < N) → l.length ≤ N - lo
  | [], _, _, _ => Nat.zero_le _
  | x :: l, lo, h, hb => by
    have h1 := List.pairwise_cons.1 h
    have h2 := rise_len N l (x + 1) h1.2 fun y hy => ⟨h1.1 y hy, (hb y (by simp [hy])).2⟩
    have h3 := hb x (by simp)
    simp only [List.length_cons]
    omega
theorem rise_length {l : List ConT} (h : Rise l) (hb : ∀ x ∈ l, x.1 < 4096) : l.length ≤ 4096 := by
  have := rise_len 4096 (l.map fun x => x.1) 0 (show (l.map fun x => x.1).Pairwise (· < ·) from h) fun x hx => by
    obtain ⟨y, hy, rfl⟩ := List.mem_map.1 hx
    exact ⟨Nat.zero_le _, hb y hy⟩
  simpa using this
structure BtAt (w : World) (b s u : Nat) (v : Value) (hm : Nat) (m : BtM) : Prop where
  head : w.heap[b]? = some (.cells #[.pointer (some ⟨s, 0, none⟩), .pointer (some ⟨u, 0, none⟩), .int .u32 (m.held.root.a : Int), .int .u32 (m.held.root.b : Int), .int .u32 (m.held.root.c : Int), .int .u32 (m.held.root.d : Int), .int .u32 (m.held.root.e : Int), .int .u32 (m.held.root.f : Int), .int .u32 (m.held.root.g : Int), .int .u32 (m.held.root.h : Int), .map (some hm), .bool m.changed, .bool m.ended] 93 (0, 0))
  held : HeldAt w u v m.held
  has : ∃ D, HasAt w hm m.has D
theorem HasAt.kept {M : Nat → Prop} {w w' : World} {hm : Nat} {l : List ConT} {D : DataW Unit} (x : HasAt w hm l D) (k : Kept M w w') (h : ¬ M hm) : HasAt w' hm l D := by
  refine ⟨?_, x.rise, x.size, x.has, x.get, x.ok, x.nat⟩
  obtain ⟨es, clock, hb, F, hs, hD⟩ := x.own
  exact ⟨es, clock, k.heap hb h, F, hs, hD⟩
theorem HasAt.lt {w : World} {hm : Nat} {l : List ConT} {D : DataW Unit} (x : HasAt w hm l D) : hm < w.heap.size := x.own.lt
theorem BtAt.kept {M : Nat → Prop} {w w' : World} {b s u : Nat} {v : Value} {hm : Nat} {m : BtM} (x : BtAt w b s u v hm m) (k : Kept M w w') (hb : ¬ M b) (hu : ¬ M u) (hv : ∀ g, v.ownBlock = some g → ¬ M g) (hh : ¬ M hm) : BtAt w' b s u v hm m :=
  ⟨k.heap x.head hb, x.held.kept k hu hv, x.has.imp fun D h => h.kept k hh⟩
theorem BtAt.no {w w' : World} {b s u : Nat} {v : Value} {hm : Nat} {m : BtM} (x : BtAt w b s u v hm m) (k : Kept No w w') : BtAt w' b s u v hm m := x.kept k (fun h => h) (fun h => h) (fun _ _ h => h) (fun h => h)
theorem HasAt.made {w : World} {M : Nat → Prop} {w' : World} (k : Kept M (w.alloc (.map #[] 0)) w') (h : ¬ M w.heap.size) : HasAt w' w.heap.size [] (.map []) := by
  have := World.ownsMap_made w Tryz.prog 25 contElem
  have x : HasAt (w.alloc (.map #[] 0)) w.heap.size [] (.map []) := ⟨this, List.Pairwise.nil, rfl, fun k => rfl, fun k c h => by simp [getC] at h, by simp, fun z h => by simp [Maps.has] at h⟩
  exact x.kept k h
theorem open_ok (b s u : Nat) (v : Value) (hm : Nat) (m : BtM) (w : World) (h : BtAt w b s u v hm m) :
    Calls Tryz.prog 43 #[.pointer (some ⟨b, 0, none⟩)] w fun e w' => e = .returned (.int .i64 (if m.ended then 5 else 0)) ∧ w = w' := by
  have c2 := (cell_of_row w b 12 _ _ _ h.head).trans rfl
  clear h
  cases he : m.ended
  all_goals
    rw [he] at c2
    clear he
    go_enter Tryz.func43, Tryz.ntmps43
    go_wp2
    go_ret
    exact ⟨rfl, rfl⟩
theorem size_ok (b s u : Nat) (v : Value) (hm : Nat) (m : BtM) (w : World) (h : BtAt w b s u v hm m) :
    Calls Tryz.prog 20 #[.pointer (some ⟨b, 0, none⟩)] w fun e w' => e = .returned (.int .i64 (m.size : Int)) ∧ w = w' := by
  have c11 := (cell_of_row w b 11 _ _ _ h.head).trans rfl
  have c10 := (cell_of_row w b 10 _ _ _ h.head).trans rfl
  have ho := open_ok b s u v hm m w h
  obtain ⟨D, hD⟩ := h.has
  have HD := Lib.hid hD
  have hlen := rise_length hD.rise (fun x hx => (hD.ok x hx).1)
  have HO := Lib.hid ho
  clear h hD ho
  unfold BtM.size
  cases he : m.ended
  · cases hc : m.changed
    · rw [hc] at c11
      have HE := Lib.hid he
      clear he hc
      rw [if_pos (by simp)]
      go_enter Tryz.func20, Tryz.ntmps20
      go_wp2_with (go_at_call 43; refine HO.out.mono ?_; rintro e w' ⟨rfl, rfl⟩; rw [HE.out])
      go_ret
      exact ⟨rfl, rfl⟩
    · rw [hc] at c11
      have HE := Lib.hid he
      clear he hc
      rw [if_neg (by simp)]
      go_enter Tryz.func20, Tryz.ntmps20
      go_wp2_with (first
        | (go_at_call 43; refine HO.out.mono ?_; rintro e w' ⟨rfl, rfl⟩; rw [HE.out])
        | (at_len; go_loud (refine wpList_len_own _ (by rfl) _ 91 rfl 25 95 Tryz.underlying91 contElem hm m.has.length D (by rfl) HD.out.own ?_; rw [HD.out.size])))
      go_ret
      exact ⟨by go_num, rfl⟩
  · have HE := Lib.hid he
    clear he
    rw [if_pos (by simp)]
    go_enter Tryz.func20, Tryz.ntmps20
    go_wp2_with (go_at_call 43; refine HO.out.mono ?_; rintro e w' ⟨rfl, rfl⟩; rw [HE.out])
    go_ret
    exact ⟨rfl, rfl⟩
theorem set13 (w : World) (B : Nat) (t : TypeId) (z0 z1 z2 z3 z4 z5 z6 z7 z8 z9 z10 z11 z12 v0 v1 v2 v3 v4 v5 v6 v7 v8 v9 v10 v11 v12 : Value) (h : w.heap[B]? = some (.cells #[z0, z1, z2, z3, z4, z5, z6, z7, z8, z9, z10, z11, z12] t (0, 0))) : (((((((((((((w.setCell ⟨B, 0, none⟩ v0).setCell ⟨B, 1, none⟩ v1).setCell ⟨B, 2, none⟩ v2).setCell ⟨B, 3, none⟩ v3).setCell ⟨B, 4, none⟩ v4).setCell ⟨B, 5, none⟩ v5).setCell ⟨B, 6, none⟩ v6).setCell ⟨B, 7, none⟩ v7).setCell ⟨B, 8, none⟩ v8).setCell ⟨B, 9, none⟩ v9).setCell ⟨B, 10, none⟩ v10).setCell ⟨B, 11, none⟩ v11).setCell ⟨B, 12, none⟩ v12).heap[B]? = some (.cells #[v0, v1, v2, v3, v4, v5, v6, v7, v8, v9, v10, v11, v12] t (0, 0)) := by
  have H := (heap_setCell_same _ B 12 _ _ v12 (heap_setCell_same _ B 11 _ _ v11 (heap_setCell_same _ B 10 _ _ v10 (heap_setCell_same _ B 9 _ _ v9 (heap_setCell_same _ B 8 _ _ v8 (heap_setCell_same _ B 7 _ _ v7 (heap_setCell_same _ B 6 _ _ v6 (heap_setCell_same _ B 5 _ _ v5 (heap_setCell_same _ B 4 _ _ v4 (heap_setCell_same _ B 3 _ _ v3 (heap_setCell_same _ B 2 _ _ v2 (heap_setCell_same _ B 1 _ _ v1 (heap_setCell_same _ B 0 _ _ v0 h)))))))))))))
  simp only [List.setIfInBounds_toArray, List.set_cons_succ, List.set_cons_zero] at H
  exact H
theorem kept13 (w : World) (B : Nat) (v0 v1 v2 v3 v4 v5 v6 v7 v8 v9 v10 v11 v12 : Value) : Kept (fun k => k = B) w (((((((((((((w.setCell ⟨B, 0, none⟩ v0).setCell ⟨B, 1, none⟩ v1).setCell ⟨B, 2, none⟩ v2).setCell ⟨B, 3, none⟩ v3).setCell ⟨B, 4, none⟩ v4).setCell ⟨B, 5, none⟩ v5).setCell ⟨B, 6, none⟩ v6).setCell ⟨B, 7, none⟩ v7).setCell ⟨B, 8, none⟩ v8).setCell ⟨B, 9, none⟩ v9).setCell ⟨B, 10, none⟩ v10).setCell ⟨B, 11, none⟩ v11).setCell ⟨B, 12, none⟩ v12) := ((((((((((((((Kept.refl (fun k => k = B) w).setCell ⟨B, 0, none⟩ v0 (fun _ => rfl)).setCell ⟨B, 1, none⟩ v1 (fun _ => rfl)).setCell ⟨B, 2, none⟩ v2 (fun _ => rfl)).setCell ⟨B, 3, none⟩ v3 (fun _ => rfl)).setCell ⟨B, 4, none⟩ v4 (fun _ => rfl)).setCell ⟨B, 5, none⟩ v5 (fun _ => rfl)).setCell ⟨B, 6, none⟩ v6 (fun _ => rfl)).setCell ⟨B, 7, none⟩ v7 (fun _ => rfl)).setCell ⟨B, 8, none⟩ v8 (fun _ => rfl)).setCell ⟨B, 9, none⟩ v9 (fun _ => rfl)).setCell ⟨B, 10, none⟩ v10 (fun _ => rfl)).setCell ⟨B, 11, none⟩ v11 (fun _ => rfl)).setCell ⟨B, 12, none⟩ v12 (fun _ => rfl))
theorem begin_fin (w : World) (s d u : Nat) (v : Value) (m : StM) (X : World) (hm s' : Nat) (u' : Value) (B : Nat) (h : StAt w s d u v (.pointer none) m) (hB : w.heap.size = B) (k : Kept No w X)
    (hz : X.heap[B]? = some (.cells #[.pointer none, .pointer none, .int .u32 0, .int .u32 0, .int .u32 0, .int .u32 0, .int .u32 0, .int .u32 0, .int .u32 0, .int .u32 0, .map none, .bool false, .bool false] 93 (0, 0))) (hh : HeldAt X s' u' m.now) (hs : HasAt X hm [] (.map [])) (n1 : B < hm) (n2 : hm ≠ B) (n3 : B < s') (n4 : ∀ g, u'.ownBlock = some g → B < g) :
    (((((((((((((X.setCell ⟨B, 0, none⟩ (.pointer (some ⟨s, 0, none⟩))).setCell ⟨B, 1, none⟩ (.pointer (some ⟨s', 0, none⟩))).setCell ⟨B, 2, none⟩ (.int .u32 (m.now.root.a : Int))).setCell ⟨B, 3, none⟩ (.int .u32 (m.now.root.b : Int))).setCell ⟨B, 4, none⟩ (.int .u32 (m.now.root.c : Int))).setCell ⟨B, 5, none⟩ (.int .u32 (m.now.root.d : Int))).setCell ⟨B, 6, none⟩ (.int .u32 (m.now.root.e : Int))).setCell ⟨B, 7, none⟩ (.int .u32 (m.now.root.f : Int))).setCell ⟨B, 8, none⟩ (.int .u32 (m.now.root.g : Int))).setCell ⟨B, 9, none⟩ (.int .u32 (m.now.root.h : Int))).setCell ⟨B, 10, none⟩ (.map (some hm))).setCell ⟨B, 11, none⟩ (.bool false)).setCell ⟨B, 12, none⟩ (.bool m.dead)).heap[s]? = some (.cells #[dev d, .int .i64 (m.count : Int), .pointer (some ⟨u, 0, none⟩), .int .u32 (m.now.root.a : Int), .int .u32 (m.now.root.b : Int), .int .u32 (m.now.root.c : Int), .int .u32 (m.now.root.d : Int), .int .u32 (m.now.root.e : Int), .int .u32 (m.now.root.f : Int), .int .u32 (m.now.root.g : Int), .int .u32 (m.now.root.h : Int), .int .u64 (m.serial : Int), .int .u64 (m.next : Int), .bool m.dead, .pointer none] 90 (0, 0)) ∧
    Kept (fun k => k = s) w ((((((((((((((X.setCell ⟨B, 0, none⟩ (.pointer (some ⟨s, 0, none⟩))).setCell ⟨B, 1, none⟩ (.pointer (some ⟨s', 0, none⟩))).setCell ⟨B, 2, none⟩ (.int .u32 (m.now.root.a : Int))).setCell ⟨B, 3, none⟩ (.int .u32 (m.now.root.b : Int))).setCell ⟨B, 4, none⟩ (.int .u32 (m.now.root.c : Int))).setCell ⟨B, 5, none⟩ (.int .u32 (m.now.root.d : Int))).setCell ⟨B, 6, none⟩ (.int .u32 (m.now.root.e : Int))).setCell ⟨B, 7, none⟩ (.int .u32 (m.now.root.f : Int))).setCell ⟨B, 8, none⟩ (.int .u32 (m.now.root.g : Int))).setCell ⟨B, 9, none⟩ (.int .u32 (m.now.root.h : Int))).setCell ⟨B, 10, none⟩ (.map (some hm))).setCell ⟨B, 11, none⟩ (.bool false)).setCell ⟨B, 12, none⟩ (.bool m.dead)).setCell ⟨s, 14, none⟩ (.pointer (some ⟨B, 0, none⟩))) ∧ StAt ((((((((((((((X.setCell ⟨B, 0, none⟩ (.pointer (some ⟨s, 0, none⟩))).setCell ⟨B, 1, none⟩ (.pointer (some ⟨s', 0, none⟩))).setCell ⟨B, 2, none⟩ (.int .u32 (m.now.root.a : Int))).setCell ⟨B, 3, none⟩ (.int .u32 (m.now.root.b : Int))).setCell ⟨B, 4, none⟩ (.int .u32 (m.now.root.c : Int))).setCell ⟨B, 5, none⟩ (.int .u32 (m.now.root.d : Int))).setCell ⟨B, 6, none⟩ (.int .u32 (m.now.root.e : Int))).setCell ⟨B, 7, none⟩ (.int .u32 (m.now.root.f : Int))).setCell ⟨B, 8, none⟩ (.int .u32 (m.now.root.g : Int))).setCell ⟨B, 9, none⟩ (.int .u32 (m.now.root.h : Int))).setCell ⟨B, 10, none⟩ (.map (some hm))).setCell ⟨B, 11, none⟩ (.bool false)).setCell ⟨B, 12, none⟩ (.bool m.dead)).setCell ⟨s, 14, none⟩ (.pointer (some ⟨B, 0, none⟩))) s d u v (.pointer (some ⟨B, 0, none⟩)) m ∧ BtAt ((((((((((((((X.setCell ⟨B, 0, none⟩ (.pointer (some ⟨s, 0, none⟩))).setCell ⟨B, 1, none⟩ (.pointer (some ⟨s', 0, none⟩))).setCell ⟨B, 2, none⟩ (.int .u32 (m.now.root.a : Int))).setCell ⟨B, 3, none⟩ (.int .u32 (m.now.root.b : Int))).setCell ⟨B, 4, none⟩ (.int .u32 (m.now.root.c : Int))).setCell ⟨B, 5, none⟩ (.int .u32 (m.now.root.d : Int))).setCell ⟨B, 6, none⟩ (.int .u32 (m.now.root.e : Int))).setCell ⟨B, 7, none⟩ (.int .u32 (m.now.root.f : Int))).setCell ⟨B, 8, none⟩ (.int .u32 (m.now.root.g : Int))).setCell ⟨B, 9, none⟩ (.int .u32 (m.now.root.h : Int))).setCell ⟨B, 10, none⟩ (.map (some hm))).setCell ⟨B, 11, none⟩ (.bool false)).setCell ⟨B, 12, none⟩ (.bool m.dead)).setCell ⟨s, 14, none⟩ (.pointer (some ⟨B, 0, none⟩))) B s s' u' hm ⟨m.now, [], false, m.dead⟩ ∧ w.heap.size ≤ B ∧ w.heap.size ≤ s' ∧ (∀ g, u'.ownBlock = some g → w.heap.size ≤ g) ∧ w.heap.size ≤ hm := by
  have hlt := lt_of_heap h.head
  have hu := h.held.set.lt
  have kk := kept13 X B (.pointer (some ⟨s, 0, none⟩)) (.pointer (some ⟨s', 0, none⟩)) (.int .u32 (m.now.root.a : Int)) (.int .u32 (m.now.root.b : Int)) (.int .u32 (m.now.root.c : Int)) (.int .u32 (m.now.root.d : Int)) (.int .u32 (m.now.root.e : Int)) (.int .u32 (m.now.root.f : Int)) (.int .u32 (m.now.root.g : Int)) (.int .u32 (m.now.root.h : Int)) (.map (some hm)) (.bool false) (.bool m.dead)
  have hS := kk.heap (k.heap h.head (fun h => h)) (by omega)
  have hrow := set13 X B _ _ _ _ _ _ _ _ _ _ _ _ _ _ (.pointer (some ⟨s, 0, none⟩)) (.pointer (some ⟨s', 0, none⟩)) (.int .u32 (m.now.root.a : Int)) (.int .u32 (m.now.root.b : Int)) (.int .u32 (m.now.root.c : Int)) (.int .u32 (m.now.root.d : Int)) (.int .u32 (m.now.root.e : Int)) (.int .u32 (m.now.root.f : Int)) (.int .u32 (m.now.root.g : Int)) (.int .u32 (m.now.root.h : Int)) (.map (some hm)) (.bool false) (.bool m.dead) hz
  refine ⟨hS, ?_⟩
  have kY : Kept (fun k => k = s) (((((((((((((X.setCell ⟨B, 0, none⟩ (.pointer (some ⟨s, 0, none⟩))).setCell ⟨B, 1, none⟩ (.pointer (some ⟨s', 0, none⟩))).setCell ⟨B, 2, none⟩ (.int .u32 (m.now.root.a : Int))).setCell ⟨B, 3, none⟩ (.int .u32 (m.now.root.b : Int))).setCell ⟨B, 4, none⟩ (.int .u32 (m.now.root.c : Int))).setCell ⟨B, 5, none⟩ (.int .u32 (m.now.root.d : Int))).setCell ⟨B, 6, none⟩ (.int .u32 (m.now.root.e : Int))).setCell ⟨B, 7, none⟩ (.int .u32 (m.now.root.f : Int))).setCell ⟨B, 8, none⟩ (.int .u32 (m.now.root.g : Int))).setCell ⟨B, 9, none⟩ (.int .u32 (m.now.root.h : Int))).setCell ⟨B, 10, none⟩ (.map (some hm))).setCell ⟨B, 11, none⟩ (.bool false)).setCell ⟨B, 12, none⟩ (.bool m.dead)) ((((((((((((((X.setCell ⟨B, 0, none⟩ (.pointer (some ⟨s, 0, none⟩))).setCell ⟨B, 1, none⟩ (.pointer (some ⟨s', 0, none⟩))).setCell ⟨B, 2, none⟩ (.int .u32 (m.now.root.a : Int))).setCell ⟨B, 3, none⟩ (.int .u32 (m.now.root.b : Int))).setCell ⟨B, 4, none⟩ (.int .u32 (m.now.root.c : Int))).setCell ⟨B, 5, none⟩ (.int .u32 (m.now.root.d : Int))).setCell ⟨B, 6, none⟩ (.int .u32 (m.now.root.e : Int))).setCell ⟨B, 7, none⟩ (.int .u32 (m.now.root.f : Int))).setCell ⟨B, 8, none⟩ (.int .u32 (m.now.root.g : Int))).setCell ⟨B, 9, none⟩ (.int .u32 (m.now.root.h : Int))).setCell ⟨B, 10, none⟩ (.map (some hm))).setCell ⟨B, 11, none⟩ (.bool false)).setCell ⟨B, 12, none⟩ (.bool m.dead)).setCell ⟨s, 14, none⟩ (.pointer (some ⟨B, 0, none⟩))) := (Kept.refl _ _).setCell ⟨s, 14, none⟩ _ (fun _ => rfl)
  have hY : ((((((((((((((X.setCell ⟨B, 0, none⟩ (.pointer (some ⟨s, 0, none⟩))).setCell ⟨B, 1, none⟩ (.pointer (some ⟨s', 0, none⟩))).setCell ⟨B, 2, none⟩ (.int .u32 (m.now.root.a : Int))).setCell ⟨B, 3, none⟩ (.int .u32 (m.now.root.b : Int))).setCell ⟨B, 4, none⟩ (.int .u32 (m.now.root.c : Int))).setCell ⟨B, 5, none⟩ (.int .u32 (m.now.root.d : Int))).setCell ⟨B, 6, none⟩ (.int .u32 (m.now.root.e : Int))).setCell ⟨B, 7, none⟩ (.int .u32 (m.now.root.f : Int))).setCell ⟨B, 8, none⟩ (.int .u32 (m.now.root.g : Int))).setCell ⟨B, 9, none⟩ (.int .u32 (m.now.root.h : Int))).setCell ⟨B, 10, none⟩ (.map (some hm))).setCell ⟨B, 11, none⟩ (.bool false)).setCell ⟨B, 12, none⟩ (.bool m.dead)).setCell ⟨s, 14, none⟩ (.pointer (some ⟨B, 0, none⟩))).heap[s]? = some (.cells #[dev d, .int .i64 (m.count : Int), .pointer (some ⟨u, 0, none⟩), .int .u32 (m.now.root.a : Int), .int .u32 (m.now.root.b : Int), .int .u32 (m.now.root.c : Int), .int .u32 (m.now.root.d : Int), .int .u32 (m.now.root.e : Int), .int .u32 (m.now.root.f : Int), .int .u32 (m.now.root.g : Int), .int .u32 (m.now.root.h : Int), .int .u64 (m.serial : Int), .int .u64 (m.next : Int), .bool m.dead, .pointer (some ⟨B, 0, none⟩)] 90 (0, 0)) := by
    have H := heap_setCell_same _ s 14 _ _ (.pointer (some ⟨B, 0, none⟩)) hS
    simp only [List.setIfInBounds_toArray, List.set_cons_succ, List.set_cons_zero] at H
    exact H
  generalize ((((((((((((((X.setCell ⟨B, 0, none⟩ (.pointer (some ⟨s, 0, none⟩))).setCell ⟨B, 1, none⟩ (.pointer (some ⟨s', 0, none⟩))).setCell ⟨B, 2, none⟩ (.int .u32 (m.now.root.a : Int))).setCell ⟨B, 3, none⟩ (.int .u32 (m.now.root.b : Int))).setCell ⟨B, 4, none⟩ (.int .u32 (m.now.root.c : Int))).setCell ⟨B, 5, none⟩ (.int .u32 (m.now.root.d : Int))).setCell ⟨B, 6, none⟩ (.int .u32 (m.now.root.e : Int))).setCell ⟨B, 7, none⟩ (.int .u32 (m.now.root.f : Int))).setCell ⟨B, 8, none⟩ (.int .u32 (m.now.root.g : Int))).setCell ⟨B, 9, none⟩ (.int .u32 (m.now.root.h : Int))).setCell ⟨B, 10, none⟩ (.map (some hm))).setCell ⟨B, 11, none⟩ (.bool false)).setCell ⟨B, 12, none⟩ (.bool m.dead)).setCell ⟨s, 14, none⟩ (.pointer (some ⟨B, 0, none⟩))) = Y at *
  have k1 : Kept No w (((((((((((((X.setCell ⟨B, 0, none⟩ (.pointer (some ⟨s, 0, none⟩))).setCell ⟨B, 1, none⟩ (.pointer (some ⟨s', 0, none⟩))).setCell ⟨B, 2, none⟩ (.int .u32 (m.now.root.a : Int))).setCell ⟨B, 3, none⟩ (.int .u32 (m.now.root.b : Int))).setCell ⟨B, 4, none⟩ (.int .u32 (m.now.root.c : Int))).setCell ⟨B, 5, none⟩ (.int .u32 (m.now.root.d : Int))).setCell ⟨B, 6, none⟩ (.int .u32 (m.now.root.e : Int))).setCell ⟨B, 7, none⟩ (.int .u32 (m.now.root.f : Int))).setCell ⟨B, 8, none⟩ (.int .u32 (m.now.root.g : Int))).setCell ⟨B, 9, none⟩ (.int .u32 (m.now.root.h : Int))).setCell ⟨B, 10, none⟩ (.map (some hm))).setCell ⟨B, 11, none⟩ (.bool false)).setCell ⟨B, 12, none⟩ (.bool m.dead)) := k.next kk (fun j hj e => by omega)
  have k2 : Kept (fun k => k = s) w Y := (k1.of_no _).trans kY
  have hus := h.held.set
  refine ⟨k2, ⟨hY, (h.held.kept k1 (fun h => h) (fun _ _ h => h)).kept kY (cells_ne hus.head h.head (by decide)) (fun g hg => ?_), h.count, h.next, rfl⟩, ⟨kY.heap hrow (by omega), (hh.kept kk (by omega) (fun g hg => by have := n4 g hg; omega)).kept kY (by omega) (fun g hg => by have := n4 g hg; omega), _, (hs.kept kk n2).kept kY (by omega)⟩, by omega, by omega, fun g hg => by have := n4 g hg; omega, by omega⟩
  obtain ⟨cs, hc⟩ := row_cells hus.row hg
  exact cells_ne hc h.head (by decide)
set_option maxHeartbeats 4000000 in
theorem begin_none (s d u : Nat) (v : Value) (m : StM) (w : World) (h : StAt w s d u v (.pointer none) m) :
    Calls Tryz.prog 18 #[.pointer (some ⟨s, 0, none⟩)] w fun e w' => ∃ b u' v' hm, e = .returned (.pointer (some ⟨b, 0, none⟩)) ∧ Kept (fun k => k = s) w w' ∧ StAt w' s d u v (.pointer (some ⟨b, 0, none⟩)) m ∧ BtAt w' b s u' v' hm ⟨m.now, [], false, m.dead⟩ ∧
      w.heap.size ≤ b ∧ w.heap.size ≤ u' ∧ (∀ g, v'.ownBlock = some g → w.heap.size ≤ g) ∧ w.heap.size ≤ hm := by
  have c14 := (cell_of_row w s 14 _ _ _ h.head).trans rfl
  have hlt := lt_of_heap h.head
  have H := Lib.hid h
  clear h
  go_enter Tryz.func18, Tryz.ntmps18
  go_wp2_with fail
  have hB := heap_alloc_new w (.cells #[.pointer none, .pointer none, .int .u32 0, .int .u32 0, .int .u32 0, .int .u32 0, .int .u32 0, .int .u32 0, .int .u32 0, .int .u32 0, .map none, .bool false, .bool false] 93)
  have k0 : Kept No w (w.alloc (.cells #[.pointer none, .pointer none, .int .u32 0, .int .u32 0, .int .u32 0, .int .u32 0, .int .u32 0, .int .u32 0, .int .u32 0, .int .u32 0, .map none, .bool false, .bool false] 93)) := (Kept.refl _ _).alloc _
  have hS := k0.heap H.out.head (fun h => h)
  have HH := Lib.hid (H.out.held.kept k0 (fun h => h) (fun _ _ h => h))
  have K0 := Lib.hid k0
  have hsz : (w.alloc (.cells #[.pointer none, .pointer none, .int .u32 0, .int .u32 0, .int .u32 0, .int .u32 0, .int .u32 0, .int .u32 0, .int .u32 0, .int .u32 0, .map none, .bool false, .bool false] 93)).heap.size = w.heap.size + 1 := by simp
  generalize (w.alloc (.cells #[.pointer none, .pointer none, .int .u32 0, .int .u32 0, .int .u32 0, .int .u32 0, .int .u32 0, .int .u32 0, .int .u32 0, .int .u32 0, .map none, .bool false, .bool false] 93)) = W at *
  have HSZ := Lib.hid hsz
  clear hsz k0 c14
  generalize hBe : w.heap.size = B at *
  have HBE := Lib.hid hBe
  clear hBe
  have s2 := (cell_of_row W s 2 _ _ _ hS).trans rfl
  have s3 := (cell_of_row W s 3 _ _ _ hS).trans rfl
  have s4 := (cell_of_row W s 4 _ _ _ hS).trans rfl
  have s5 := (cell_of_row W s 5 _ _ _ hS).trans rfl
  have s6 := (cell_of_row W s 6 _ _ _ hS).trans rfl
  have s7 := (cell_of_row W s 7 _ _ _ hS).trans rfl
  have s8 := (cell_of_row W s 8 _ _ _ hS).trans rfl
  have s9 := (cell_of_row W s 9 _ _ _ hS).trans rfl
  have s10 := (cell_of_row W s 10 _ _ _ hS).trans rfl
  have s13 := (cell_of_row W s 13 _ _ _ hS).trans rfl
  have hSm := ((Kept.refl No W).alloc (.map #[] 0)).heap hS (fun h => h)
  have m2 := (cell_of_row (W.alloc (.map #[] 0)) s 2 _ _ _ hSm).trans rfl
  have m3 := (cell_of_row (W.alloc (.map #[] 0)) s 3 _ _ _ hSm).trans rfl
  have m4 := (cell_of_row (W.alloc (.map #[] 0)) s 4 _ _ _ hSm).trans rfl
  have m5 := (cell_of_row (W.alloc (.map #[] 0)) s 5 _ _ _ hSm).trans rfl
  have m6 := (cell_of_row (W.alloc (.map #[] 0)) s 6 _ _ _ hSm).trans rfl
  have m7 := (cell_of_row (W.alloc (.map #[] 0)) s 7 _ _ _ hSm).trans rfl
  have m8 := (cell_of_row (W.alloc (.map #[] 0)) s 8 _ _ _ hSm).trans rfl
  have m9 := (cell_of_row (W.alloc (.map #[] 0)) s 9 _ _ _ hSm).trans rfl
  have m10 := (cell_of_row (W.alloc (.map #[] 0)) s 10 _ _ _ hSm).trans rfl
  have m13 := (cell_of_row (W.alloc (.map #[] 0)) s 13 _ _ _ hSm).trans rfl
  clear hSm
  have HB := Lib.hid hB
  have HS := Lib.hid hS
  clear hB hS
  have hmk : ∀ w, (Instr.makeMap 91 none).run Tryz.prog w = .ok (.map (some w.heap.size)) (w.alloc (.map #[] 0)) := fun w => by rfl
  go_region_with (first | (go_at_call 54; refine (copied_ok u v m.now _ (HH.out.kept (by first | exact (Kept.refl No W).drew | exact ((Kept.refl No W).alloc _).drew) (fun h => h) (fun _ _ h => h))).mono ?_; rintro e w' ⟨s', u', rfl, k', hset, hn1, hn2⟩; have kk : Kept No W w' := (by first | exact (Kept.refl No W).drew.trans k' | exact ((Kept.refl No W).alloc _).drew.trans k'); have hS' := kk.heap HS.out (fun h => h); have hB' := kk.heap HB.out (fun h => h); have s13' := (cell_of_row w' s 13 _ _ _ hS').trans rfl; have s13q := (cell_of_row (w'.alloc (.map #[] 0)) s 13 _ _ _ (((Kept.refl No w').alloc (.map #[] 0)).heap hS' (fun h => h))).trans rfl; have f0' := frozen_of_row w' B 0 _ _ hB'; have f1' := frozen_of_row w' B 1 _ _ hB'; have f2' := frozen_of_row w' B 2 _ _ hB'; have f3' := frozen_of_row w' B 3 _ _ hB'; have f4' := frozen_of_row w' B 4 _ _ hB'; have f5' := frozen_of_row w' B 5 _ _ hB'; have f6' := frozen_of_row w' B 6 _ _ hB'; have f7' := frozen_of_row w' B 7 _ _ hB'; have f8' := frozen_of_row w' B 8 _ _ hB'; have f9' := frozen_of_row w' B 9 _ _ hB'; have f10' := frozen_of_row w' B 10 _ _ hB'; have f11' := frozen_of_row w' B 11 _ _ hB'; have f12' := frozen_of_row w' B 12 _ _ hB'; have b0' := (cell_of_row w' B 0 _ _ _ hB').trans rfl; have b1' := (cell_of_row w' B 1 _ _ _ hB').trans rfl; have b2' := (cell_of_row w' B 2 _ _ _ hB').trans rfl; have b3' := (cell_of_row w' B 3 _ _ _ hB').trans rfl; have b4' := (cell_of_row w' B 4 _ _ _ hB').trans rfl; have b5' := (cell_of_row w' B 5 _ _ _ hB').trans rfl; have b6' := (cell_of_row w' B 6 _ _ _ hB').trans rfl; have b7' := (cell_of_row w' B 7 _ _ _ hB').trans rfl; have b8' := (cell_of_row w' B 8 _ _ _ hB').trans rfl; have b9' := (cell_of_row w' B 9 _ _ _ hB').trans rfl; have b10' := (cell_of_row w' B 10 _ _ _ hB').trans rfl; have b11' := (cell_of_row w' B 11 _ _ _ hB').trans rfl; have b12' := (cell_of_row w' B 12 _ _ _ hB').trans rfl; have hBq := ((Kept.refl No w').alloc (.map #[] 0)).heap hB' (fun h => h); have f0q := frozen_of_row (w'.alloc (.map #[] 0)) B 0 _ _ hBq; have f1q := frozen_of_row (w'.alloc (.map #[] 0)) B 1 _ _ hBq; have f2q := frozen_of_row (w'.alloc (.map #[] 0)) B 2 _ _ hBq; have f3q := frozen_of_row (w'.alloc (.map #[] 0)) B 3 _ _ hBq; have f4q := frozen_of_row (w'.alloc (.map #[] 0)) B 4 _ _ hBq; have f5q := frozen_of_row (w'.alloc (.map #[] 0)) B 5 _ _ hBq; have f6q := frozen_of_row (w'.alloc (.map #[] 0)) B 6 _ _ hBq; have f7q := frozen_of_row (w'.alloc (.map #[] 0)) B 7 _ _ hBq; have f8q := frozen_of_row (w'.alloc (.map #[] 0)) B 8 _ _ hBq; have f9q := frozen_of_row (w'.alloc (.map #[] 0)) B 9 _ _ hBq; have f10q := frozen_of_row (w'.alloc (.map #[] 0)) B 10 _ _ hBq; have f11q := frozen_of_row (w'.alloc (.map #[] 0)) B 11 _ _ hBq; have f12q := frozen_of_row (w'.alloc (.map #[] 0)) B 12 _ _ hBq; have b0q := (cell_of_row (w'.alloc (.map #[] 0)) B 0 _ _ _ hBq).trans rfl; have b1q := (cell_of_row (w'.alloc (.map #[] 0)) B 1 _ _ _ hBq).trans rfl; have b2q := (cell_of_row (w'.alloc (.map #[] 0)) B 2 _ _ _ hBq).trans rfl; have b3q := (cell_of_row (w'.alloc (.map #[] 0)) B 3 _ _ _ hBq).trans rfl; have b4q := (cell_of_row (w'.alloc (.map #[] 0)) B 4 _ _ _ hBq).trans rfl; have b5q := (cell_of_row (w'.alloc (.map #[] 0)) B 5 _ _ _ hBq).trans rfl; have b6q := (cell_of_row (w'.alloc (.map #[] 0)) B 6 _ _ _ hBq).trans rfl; have b7q := (cell_of_row (w'.alloc (.map #[] 0)) B 7 _ _ _ hBq).trans rfl; have b8q := (cell_of_row (w'.alloc (.map #[] 0)) B 8 _ _ _ hBq).trans rfl; have b9q := (cell_of_row (w'.alloc (.map #[] 0)) B 9 _ _ _ hBq).trans rfl; have b10q := (cell_of_row (w'.alloc (.map #[] 0)) B 10 _ _ _ hBq).trans rfl; have b11q := (cell_of_row (w'.alloc (.map #[] 0)) B 11 _ _ _ hBq).trans rfl; have b12q := (cell_of_row (w'.alloc (.map #[] 0)) B 12 _ _ _ hBq).trans rfl; clear hBq; have HS' := Lib.hid hS'; have HB' := Lib.hid hB'; have K' := Lib.hid k'; have KK := Lib.hid kk; have HSET := Lib.hid hset; have HN1 := Lib.hid hn1; have HN2 := Lib.hid hn2; clear hS' hB' k' kk hset hn1 hn2))
  all_goals
    clear f0' f1' f2' f3' f4' f5' f6' f7' f8' f9' f10' f11' f12' b0' b1' b2' b3' b4' b5' b6' b7' b8' b9' b10' b11' b12' f0q f1q f2q f3q f4q f5q f6q f7q f8q f9q f10q f11q f12q b0q b1q b2q b3q b4q b5q b6q b7q b8q b9q b10q b11q b12q s13' s13q s2 s3 s4 s5 s6 s7 s8 s9 s10 s13 m2 m3 m4 m5 m6 m7 m8 m9 m10 m13
    have hAE := HBE.out
    have hSZ := HSZ.out
    have hWd : W.drew.heap.size = W.heap.size := rfl
    have hWm : (W.alloc (.map #[] 0)).drew.heap.size = W.heap.size + 1 := by show (W.alloc (.map #[] 0)).heap.size = _; simp
    have hle := KK.out.size
    have hn1 := HN1.out
    have hn2 := HN2.out
    have hSu := HSET.out
    first
      | (have F := begin_fin w s d u v m w' W.heap.size s' u' B H.out hAE (K0.out.trans KK.out) HB'.out HSET.out (HasAt.made ((Kept.refl No _).drew.trans K'.out) (fun h => h)) (by omega) (by omega) (by omega) (fun g hg => by have := hn2 g hg; first | omega | (simp at this; omega)); obtain ⟨hS1, hfin⟩ := F; generalize (((((((((((((w'.setCell ⟨B, 0, none⟩ (.pointer (some ⟨s, 0, none⟩))).setCell ⟨B, 1, none⟩ (.pointer (some ⟨s', 0, none⟩))).setCell ⟨B, 2, none⟩ (.int .u32 (m.now.root.a : Int))).setCell ⟨B, 3, none⟩ (.int .u32 (m.now.root.b : Int))).setCell ⟨B, 4, none⟩ (.int .u32 (m.now.root.c : Int))).setCell ⟨B, 5, none⟩ (.int .u32 (m.now.root.d : Int))).setCell ⟨B, 6, none⟩ (.int .u32 (m.now.root.e : Int))).setCell ⟨B, 7, none⟩ (.int .u32 (m.now.root.f : Int))).setCell ⟨B, 8, none⟩ (.int .u32 (m.now.root.g : Int))).setCell ⟨B, 9, none⟩ (.int .u32 (m.now.root.h : Int))).setCell ⟨B, 10, none⟩ (.map (some W.heap.size))).setCell ⟨B, 11, none⟩ (.bool false)).setCell ⟨B, 12, none⟩ (.bool m.dead)) = Y1 at hS1 hfin ⊢; have c1 := (cell_of_row _ s 14 _ _ _ hS1).trans rfl; have f1 := frozen_of_row _ s 14 _ _ hS1; have HFIN := Lib.hid hfin; clear hfin hS1; go_wp2; go_ret; exact ⟨B, s', u', _, rfl, HFIN.out⟩)
      | (have F := begin_fin w s d u v m (w'.alloc (.map #[] 0)) w'.heap.size s' u' B H.out hAE ((K0.out.trans KK.out).alloc _) (((Kept.refl No w').alloc (.map #[] 0)).heap HB'.out (fun h => h)) (HSET.out.kept ((Kept.refl No w').alloc (.map #[] 0)) (fun h => h) (fun _ _ h => h)) (HasAt.made (Kept.refl No _) (fun h => h)) (by omega) (by omega) (by omega) (fun g hg => by have := hn2 g hg; omega); obtain ⟨hS1, hfin⟩ := F; generalize ((((((((((((((w'.alloc (.map #[] 0)).setCell ⟨B, 0, none⟩ (.pointer (some ⟨s, 0, none⟩))).setCell ⟨B, 1, none⟩ (.pointer (some ⟨s', 0, none⟩))).setCell ⟨B, 2, none⟩ (.int .u32 (m.now.root.a : Int))).setCell ⟨B, 3, none⟩ (.int .u32 (m.now.root.b : Int))).setCell ⟨B, 4, none⟩ (.int .u32 (m.now.root.c : Int))).setCell ⟨B, 5, none⟩ (.int .u32 (m.now.root.d : Int))).setCell ⟨B, 6, none⟩ (.int .u32 (m.now.root.e : Int))).setCell ⟨B, 7, none⟩ (.int .u32 (m.now.root.f : Int))).setCell ⟨B, 8, none⟩ (.int .u32 (m.now.root.g : Int))).setCell ⟨B, 9, none⟩ (.int .u32 (m.now.root.h : Int))).setCell ⟨B, 10, none⟩ (.map (some w'.heap.size))).setCell ⟨B, 11, none⟩ (.bool false)).setCell ⟨B, 12, none⟩ (.bool m.dead)) = Y1 at hS1 hfin ⊢; have c1 := (cell_of_row _ s 14 _ _ _ hS1).trans rfl; have f1 := frozen_of_row _ s 14 _ _ hS1; have HFIN := Lib.hid hfin; clear hfin hS1; go_wp2; go_ret; exact ⟨B, s', u', _, rfl, HFIN.out⟩)
end Go.Proofs.YtabhieafjkaocaaGreat
namespace Go.Proofs.YtabhieafjkaocaaGreat
open Go.RowKit Go.Lib Bm
set_option maxRecDepth 20000
def liesErr : Except Int PageV → Int
  | .ok _ => 0
  | .error _ => 70
theorem lies_ok (s u : Nat) (v bp : Value) (x : DiskH) (m : StM) (dm : DiskM) (n : Nat) (w : World) (h : StAt w s x.d u v bp m) (hx : DiskAt w x dm) (ho : dm.off = false) (hn : m.count + n < dm.lies.length) (hn32 : n < 4294967296) :
    Calls Tryz.prog 42 #[.pointer (some ⟨s, 0, none⟩), .int .u32 (n : Int)] w fun e w' => e = .returned (.tuple #[.agg (decRow (dec (dm.view (m.count + n)) n)), .int .i64 (liesErr (dec (dm.view (m.count + n)) n))]) ∧ Kept No w w' := by
  have hmost := hx.most
  have hready : dm.ready ((m.count + n : Nat) : Int) = 0 := by
    unfold DiskM.ready
    rw [ho, if_neg (by simp), if_neg (by omega)]
  have hw1 : IntKind.i64.wrap (n : Int) = (n : Int) := by rw [IntKind.wrap_i64]; omega
  have hw2 : IntKind.i64.wrap ((m.count : Int) + (n : Int)) = (m.count : Int) + (n : Int) := by rw [IntKind.wrap_i64]; omega
  have H := Lib.hid h
  have HX := Lib.hid hx
  clear h hx
  go_enter Tryz.func42, Tryz.ntmps42
  go_wp2_with fail
  have hR := heap_alloc_new w (.cells #[.int .u8 0, .int .u32 0, .int .u64 0, .string ⟨#[]⟩] 28)
  have k1 : Kept No w (w.alloc (.cells #[.int .u8 0, .int .u32 0, .int .u64 0, .string ⟨#[]⟩] 28)) := (Kept.refl _ _).alloc _
  generalize w.alloc (.cells #[.int .u8 0, .int .u32 0, .int .u64 0, .string ⟨#[]⟩] 28) = w1 at *
  have hS1 := k1.heap H.out.head (fun h => h)
  have HX1 := Lib.hid (HX.out.kept k1 (fun _ _ h => h))
  have c0 := (cell_of_row w1 s 0 _ _ _ hS1).trans rfl
  have c1 := (cell_of_row w1 s 1 _ _ _ hS1).trans rfl
  generalize hRe : w.heap.size = R at *
  have HRE := Lib.hid hRe
  have HR := Lib.hid hR
  have K1 := Lib.hid k1
  clear hRe hR k1 hS1
  have hts := types_373
  have hmt : ∀ w, (method 373 24 (.pointer (some ⟨x.d, 0, none⟩)) "Read").run Tryz.prog w = .ok (212, .pointer (some ⟨x.d, 0, none⟩)) w := fun w => dev_method_read x.d w
  have hcf : ∀ w (i : Int), (callFunc 212 #[.pointer (some ⟨x.d, 0, none⟩), .int .i64 i]).run Tryz.prog w = .ok (.enter 212 #[.pointer (some ⟨x.d, 0, none⟩), .int .i64 i]) w := fun w i => by kernel_rfl
  go_region_with (first | (go_at_call 212; rw [show ((m.count : Int) + (n : Int)) = ((m.count + n : Nat) : Int) from by omega]; refine (dread_ok x dm (m.count + n) _ (HX1.out.kept (Kept.refl No w1).drew (fun _ _ h => h)) hready hn).mono ?_; rintro e w' ⟨b, rfl, k', hbn, hb⟩; have K' := Lib.hid k'; have HBN := Lib.hid hbn; have HBY := Lib.hid hb; clear k' hbn hb))
  all_goals
    go_wp2_with fail
    refine (decode_ok b _ n _ HBY.out hn32).mono ?_
    rintro e w5 ⟨rfl, k5⟩
    have K5 := Lib.hid ((((K1.out.trans (Kept.refl No w1).drew).trans K'.out)).trans k5)
    have HR5 := Lib.hid (k5.heap (K'.out.heap (row_drewN HR.out 1) (fun h => h)) (fun h => h))
    have hRlt := lt_of_heap HR5.out
    have ka : ∀ o : Obj, Kept No w5 (w5.alloc o) := fun o => (Kept.refl _ _).alloc o
    have HKA := Lib.hid ka
    clear k5 ka
    cases hd : dec (dm.view (m.count + n)) n with
    | error ee =>
      have hne : (ee == 0) = false := by rw [beq_eq_false_iff_ne]; exact dec_err hd
      have HD := Lib.hid hd
      clear hd
      simp only [decRow, decErr, liesErr]
      go_wp2_with (first
        | (refine wpList_store_new (by rfl) 28 (.tmp 8) (.tmp 34) (by rfl) w5 28 _ _ (by rfl) (by rfl) (by rfl) (by exact page_size) (by rfl) (by simp [Value.oneCell']) ?_)
        | (refine wpList_store_row (by rfl) 28 (.tmp 4) (.tmp 38) (by rfl) R 28 _ _ (by rfl) (by rfl) ((HKA.out _).heap HR5.out (fun h => h)) (by exact page_size) (by rfl) (by simp [Value.oneCell']) ?_))
      refine bodyPost_ret (results_pair rfl _ _ R _ _ _ _ rfl (setRow_heap _ _ _ _ _ _ ((HKA.out _).heap HR5.out (fun h => h))) Tryz.underlying28 rfl (by exact page_size)) rfl ?_
      rw [HD.out]
      exact ⟨rfl, (K5.out.trans (HKA.out _)).setRow _ _ (fun h => absurd h (by have := HRE.out; omega))⟩
    | ok p =>
      have HD := Lib.hid hd
      clear hd
      simp only [decRow, decErr, liesErr]
      unfold pageRow
      go_wp2_with (first
        | (refine wpList_store_new (by rfl) 28 (.tmp 8) (.tmp 34) (by rfl) w5 28 _ _ (by rfl) (by rfl) (by rfl) (by exact page_size) (by rfl) (by simp [Value.oneCell']) ?_)
        | (refine wpList_load_row (by rfl) 28 (.tmp 8) (by rfl) w5.heap.size (by rfl) _ _ _ _ (heap_alloc_new w5 _) Tryz.underlying28 (by rfl) (by exact page_size) ?_)
        | (refine wpList_store_row (by rfl) 28 (.tmp 4) (.tmp 39) (by rfl) R 28 _ _ (by rfl) (by rfl) ((HKA.out _).heap HR5.out (fun h => h)) (by exact page_size) (by rfl) (by simp [Value.oneCell']) ?_))
      refine bodyPost_ret (results_pair rfl _ _ R _ _ _ _ rfl (setRow_heap _ _ _ _ _ _ ((HKA.out _).heap HR5.out (fun h => h))) Tryz.underlying28 rfl (by exact page_size)) rfl ?_
      rw [HD.out]
      exact ⟨rfl, (K5.out.trans (HKA.out _)).setRow _ _ (fun h => absurd h (by have := HRE.out; omega))⟩
end Go.Proofs.YtabhieafjkaocaaGreat
