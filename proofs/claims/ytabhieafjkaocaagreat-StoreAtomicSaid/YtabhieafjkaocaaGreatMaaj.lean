/- A part. -/
import Derived.Test.YtabhieafjkaocaaGreatMaah
import Derived.Laws.CopyRow
import Derived.Test.YtabhieafjkaocaaGreatMaag
set_option linter.unusedVariables false
set_option linter.unusedSimpArgs false
namespace Go.Proofs.YtabhieafjkaocaaGreat
open Go.RowKit Go.Lib Go.Maps Go.MapKept
open Go.ChangeMaps (setBlock heap_setBlock_same heap_setBlock_other)
set_option maxRecDepth 20000
theorem cells_ne {w : World} {a b : Nat} {ca cb : Array Value} {ta tb : TypeId} {fa fb : Nat × Nat} (ha : w.heap[a]? = some (.cells ca ta fa)) (hb : w.heap[b]? = some (.cells cb tb fb)) (hne : ta ≠ tb) : a ≠ b := by
  rintro rfl
  rw [ha] at hb
  cases hb
  exact hne rfl
theorem map_ne {w : World} {a b : Nat} {ca : Array Value} {ta : TypeId} {fa : Nat × Nat} {es : Array MapEntry} {c : Nat} (ha : w.heap[a]? = some (.cells ca ta fa)) (hb : w.heap[b]? = some (.map es c)) : a ≠ b := by
  rintro rfl
  rw [ha] at hb
  cases hb
theorem PendAt.page {w : World} : ∀ {pl : List (Nat × Nat)} {l : List (Nat × List UInt8)}, PendAt w pl l → ∀ g ∈ pl.map (·.2), ∃ cs, w.heap[g]? = some (.cells cs 129 (0, 0))
  | [], [], _, g, hg => by cases hg
  | p :: pl, q :: l, h, g, hg => by
    rcases List.mem_cons.1 hg with rfl | hg
    · exact ⟨_, h.2.1⟩
    · exact h.2.2.page g hg
  | [], _ :: _, h, _, _ => h.elim
  | _ :: _, [], h, _, _ => h.elim
theorem row_cells {w : World} {b : Nat} {e : TypeId} {z : Nat} {v : Value} {n : Nat} {xs : List Value} (h : w.ownsRow b e z v n xs) {g : Nat} (hg : v.ownBlock = some g) : ∃ cs, w.heap[g]? = some (.cells cs e (0, 0)) := by
  rcases h.2 with ⟨rfl, _⟩ | ⟨g', cap, cur, rfl, _, hg', _⟩
  · cases hg
  · simp only [Value.ownBlock, Option.some.injEq] at hg
    subst hg
    exact ⟨_, hg'⟩
theorem DiskAt.d_ne {w : World} {x : DiskH} {m : DiskM} (h : DiskAt w x m) : x.bl ≠ x.d ∧ x.bm ≠ x.d ∧ (∀ g, x.pv.ownBlock = some g → g ≠ x.d) ∧ ∀ g ∈ x.pl.map (·.2), g ≠ x.d := by
  refine ⟨cells_ne h.lies h.head (by decide), ?_, fun g hg => ?_, fun g hg => ?_⟩
  · obtain ⟨D, hD⟩ := h.last
    obtain ⟨es, c, hb, _⟩ := hD.own
    exact (map_ne h.head hb).symm
  · obtain ⟨cs, hc⟩ := row_cells h.row hg
    exact cells_ne hc h.head (by decide)
  · obtain ⟨cs, hc⟩ := h.pend.page g hg
    exact cells_ne hc h.head (by decide)
theorem DiskAt.turn {w w' : World} {x : DiskH} {m m' : DiskM} (h : DiskAt w x m) (k : Kept (fun j => j = x.d) w w') (hl : m'.lies = m.lies) (hp : m'.pend = m.pend)
    (hh : w'.heap[x.d]? = some (.cells #[.slice (some ⟨x.bl, 0, none⟩) m.lies.length m.lies.length, x.pv, .map (some x.bm), .bool m'.off, .bool m'.armed, .int .i64 m'.left] 122 (0, 0)))
    (hleft : -9223372036854775808 ≤ m'.left ∧ m'.left < 9223372036854775808 ∧ (m'.armed = true → 0 ≤ m'.left)) : DiskAt w' x m' := by
  obtain ⟨n1, n2, n3, n4⟩ := h.d_ne
  obtain ⟨D, hD⟩ := h.last
  obtain ⟨es, clock, hb, F, hs, hD2⟩ := hD.own
  refine ⟨by rw [hl]; exact hh, by rw [hl]; exact k.heap h.lies n1, k.row h.row n3, by rw [hp]; exact h.pend.kept k n4, ⟨D, ⟨es, clock, k.heap hb n2, F, hs, hD2⟩, hD.has, hD.get, hD.nat⟩, ⟨by rw [hl]; exact h.fits.lies, by rw [hl, hp]; exact h.fits.pend⟩, by rw [hl]; exact h.some_, by rw [hl]; exact h.most, hleft, h.apart⟩
theorem dpages_ok (x : DiskH) (m : DiskM) (w : World) (h : DiskAt w x m) : Calls Tryz.prog 211 #[.pointer (some ⟨x.d, 0, none⟩)] w fun e w' => e = .returned (.int .i64 (m.lies.length : Int)) ∧ w = w' := by
  have c0 := (cell_of_row w x.d 0 _ _ _ h.head).trans rfl
  clear h
  go_enter Tryz.func211, Tryz.ntmps211
  go_wp2
  go_ret
  exact ⟨rfl, rfl⟩
theorem dready_ok (x : DiskH) (m : DiskM) (n : Int) (w : World) (h : DiskAt w x m) : Calls Tryz.prog 215 #[.pointer (some ⟨x.d, 0, none⟩), .int .i64 n] w fun e w' => e = .returned (.int .i64 (m.ready n)) ∧ w = w' := by
  have c0 := (cell_of_row w x.d 0 _ _ _ h.head).trans rfl
  have c3 := (cell_of_row w x.d 3 _ _ _ h.head).trans rfl
  clear h
  by_cases ho : m.off = true
  · rw [show m.ready n = 40 from by simp [DiskM.ready, ho]]
    rw [ho] at c3
    go_enter Tryz.func215, Tryz.ntmps215
    go_wp2
    go_ret
    exact ⟨rfl, rfl⟩
  · have ho : m.off = false := by simpa using ho
    rw [ho] at c3
    rcases Int.lt_or_le n 0 with hn | hn
    · rw [show m.ready n = 1 from by simp [DiskM.ready, ho, hn]]
      go_enter Tryz.func215, Tryz.ntmps215
      go_wp2
      go_ret
      exact ⟨rfl, rfl⟩
    · rcases Int.lt_or_le n m.lies.length with hm | hm
      · rw [show m.ready n = 0 from by simp only [DiskM.ready, ho, Bool.false_eq_true, if_false]; rw [if_neg (by omega)]]
        go_enter Tryz.func215, Tryz.ntmps215
        go_wp2
        go_ret
        exact ⟨rfl, rfl⟩
      · rw [show m.ready n = 1 from by simp only [DiskM.ready, ho, Bool.false_eq_true, if_false]; rw [if_pos (.inr hm)]]
        go_enter Tryz.func215, Tryz.ntmps215
        go_wp2
        go_ret
        exact ⟨rfl, rfl⟩
theorem dact_ok (x : DiskH) (m : DiskM) (w : World) (h : DiskAt w x m) : Calls Tryz.prog 216 #[.pointer (some ⟨x.d, 0, none⟩)] w fun e w' => e = .returned (.int .i64 m.act.2) ∧ Kept (fun j => j = x.d) w w' ∧ DiskAt w' x m.act.1 := by
  have c4 := (cell_of_row w x.d 4 _ _ _ h.head).trans rfl
  have c5 := (cell_of_row w x.d 5 _ _ _ h.head).trans rfl
  have f3 := frozen_of_row w x.d 3 _ _ h.head
  have f5 := frozen_of_row w x.d 5 _ _ h.head
  have c3 := (cell_of_row w x.d 3 _ _ _ h.head).trans rfl
  have H := Lib.hid h
  have hb := h.left
  clear h
  by_cases ha : m.armed = true
  · rw [ha] at c4
    by_cases hz : m.left = 0
    · rw [show m.act = ({ m with off := true }, 40) from by simp [DiskM.act, ha, hz]]
      rw [hz] at c5
      go_enter Tryz.func216, Tryz.ntmps216
      go_wp2
      go_ret
      refine ⟨rfl, (Kept.refl _ _).setCell _ _ (fun _ => rfl), H.out.turn ((Kept.refl _ _).setCell _ _ (fun _ => rfl)) rfl rfl ?_ hb⟩
      exact heap_setCell_same _ x.d 3 _ _ _ H.out.head
    · rw [show m.act = ({ m with left := m.left - 1 }, 0) from by simp [DiskM.act, ha, hz]]
      obtain ⟨hb1, hb2, hb3⟩ := hb
      have hb3 := hb3 ha
      go_enter Tryz.func216, Tryz.ntmps216
      go_wp2
      go_ret
      refine ⟨rfl, (Kept.refl _ _).setCell _ _ (fun _ => rfl), H.out.turn ((Kept.refl _ _).setCell _ _ (fun _ => rfl)) rfl rfl ?_ ⟨by simp only; omega, by simp only; omega, fun _ => by simp only; omega⟩⟩
      exact heap_setCell_same _ x.d 5 _ _ _ H.out.head
  · have ha : m.armed = false := by simpa using ha
    rw [ha] at c4
    rw [show m.act = (m, 0) from by simp [DiskM.act, ha]]
    go_enter Tryz.func216, Tryz.ntmps216
    go_wp2
    go_ret
    exact ⟨rfl, Kept.refl _ _, H.out⟩
theorem run_clear_map {P : Program} {w : World} {r : Nat} {es : Array MapEntry} {clock : Nat} {t k e : TypeId} (ht : P.underlying t = some (.map k e)) (hb : w.heap[r]? = some (.map es clock)) (ty : TypeId) :
    (Builtin.clear_ #[t] ty #[.map (some r)]).run P w = .ok (.tuple #[]) (setBlock w r (.map #[] clock)) := by
  simp [Builtin.clear_, run_underlying ht, MapKept.run_getObj_map hb, MapKept.run_setObj_map _ hb, Result.andThen, setBlock]
theorem Kept.setBlock {M : Nat → Prop} {a b : World} (h : Kept M a b) {r : Nat} {es : Array MapEntry} {clock : Nat} (hb : b.heap[r]? = some (.map es clock)) (o : Obj) (hr : r < a.heap.size → M r) : Kept M a (setBlock b r o) :=
  h.next (N := fun k => k = r) ⟨rfl, rfl, rfl, by simp [ChangeMaps.setBlock], fun k _ hn => heap_setBlock_other hb o hn⟩ (fun k hk e => by subst e; exact hr hk)
theorem calm_ok (x : DiskH) (m : DiskM) (w : World) (h : DiskAt w x m) : Calls Tryz.prog 65 #[.pointer (some ⟨x.d, 0, none⟩)] w fun e w' => e = .returned (.tuple #[]) ∧ Kept (fun j => j = x.d ∨ j = x.bm) w w' ∧ DiskAt w' ⟨x.d, x.bl, x.bm, .slice none 0 0, []⟩ { m with pend := [] } := by
  have c2 := (cell_of_row w x.d 2 _ _ _ h.head).trans rfl
  have f1 := frozen_of_row w x.d 1 _ _ h.head
  have c1 := (cell_of_row w x.d 1 _ _ _ h.head).trans rfl
  obtain ⟨n1, n2, n3, n4⟩ := h.d_ne
  obtain ⟨D, hD⟩ := h.last
  obtain ⟨es, clock, hb, F, hs, hD2⟩ := hD.own
  have hb1 : (w.setCell ⟨x.d, 1, none⟩ (.slice none 0 0)).heap[x.bm]? = some (.map es clock) := by
    rw [Below.heap_setCell w ⟨x.d, 1, none⟩ _ x.bm (by simpa using n2)]; exact hb
  have hcl := fun ty => run_clear_map (P := Tryz.prog) Tryz.underlying119 hb1 ty
  have H := Lib.hid h
  clear h
  go_enter Tryz.func65, Tryz.ntmps65
  go_wp2_with (simp only [hcl])
  go_end0
  have k1 : Kept (fun j => j = x.d ∨ j = x.bm) w (w.setCell ⟨x.d, 1, none⟩ (.slice none 0 0)) := (Kept.refl _ _).setCell _ _ (fun _ => .inl rfl)
  have k2 := k1.setBlock hb1 (.map #[] clock) (fun _ => .inr rfl)
  refine ⟨rfl, k2, ⟨?_, k2.heap H.out.lies ?_, World.ownsRow_nil _ _ _ _, trivial, ⟨.map [], ⟨#[], clock, heap_setBlock_same hb1 _, ⟨by simp, stamped_empty clock, by simp⟩, by simp, rfl⟩, fun k => rfl, fun k g hg => (by cases hg), fun z h => (by cases h)⟩, ⟨H.out.fits.lies, by simp⟩, H.out.some_, H.out.most, H.out.left, by simp⟩⟩
  · rw [heap_setBlock_other hb1 _ (Ne.symm n2)]
    exact heap_setCell_same _ x.d 1 _ _ _ H.out.head
  · rintro (h | h)
    · exact n1 h
    · exact map_ne H.out.lies hb h
end Go.Proofs.YtabhieafjkaocaaGreat
namespace Go.Proofs.YtabhieafjkaocaaGreat
open Go.RowKit Go.Lib Go.Maps Go.MapKept
set_option maxRecDepth 20000
theorem wpList_copy_row {P : Program} {w : World} {ops : Array Oper} {rest : List Oper} {o : Oper} {a : Act} {Q : Exit → Act → World → Prop} (hgd : o.guard = none) (d x : Operand) (dT sT : TypeId)
    (ho : o.op = .call { callee := .builtin .copy, args := #[d, x], argTypes := #[dT, sT] }) (elem : TypeId) (hu : P.underlying dT = some (.slice elem)) (hs : (P.info? elem).map (·.size) = some 1)
    (g off dLen dCap h so sLen sCap : Nat) (hd : a.eval d = .slice (some ⟨g, off, none⟩) dLen dCap) (hx : a.eval x = .slice (some ⟨h, so, none⟩) sLen sCap) (A M B L S X : List UInt8) (hL : L = A ++ (M ++ B)) (hA : A.length = off) (hM : M.length = X.length)
    (t ts : TypeId) (fr : Nat × Nat) (hg : w.heap[g]? = some (.cells ⟨rowBytes L⟩ t (0, 0))) (hh : w.heap[h]? = some (.cells ⟨rowBytes S⟩ ts fr)) (hX : (S.drop so).take X.length = X) (hn : X.length = min sLen dLen)
    (hk : ∀ w', Kept (fun k => k = g) w w' → w'.heap[g]? = some (.cells ⟨rowBytes (A ++ (X ++ B))⟩ t (0, 0)) → wpList P ops Q rest (a.put o.dst (goInt X.length)) w') : wpList P ops Q (o :: rest) a w := by
  refine wpList_plain hgd fun K hK => ?_
  subst hL
  have hrun := run_copy_row (P := P) w dT sT o.type elem g off dLen dCap ⟨h, so, none⟩ sLen sCap _ t (rowBytes X) hu hs hg (by rw [rowBytes_length, hn]) (fun j v hv => by
    have hj : j < X.length := by
      rcases Nat.lt_or_ge j X.length with h1 | h1
      · exact h1
      · rw [List.getElem?_eq_none (by rw [rowBytes_length]; exact h1)] at hv; cases hv
    rw [add_off, cell_of_row w h (so + j) _ _ _ hh, ← hv, ← Array.getElem?_toList]
    show (rowBytes S)[so + j]? = (rowBytes X)[j]?
    conv => rhs; rw [← hX]
    simp [rowBytes, List.getElem?_take, hj]) (by show _ ≤ (rowBytes _).length; rw [rowBytes_length, rowBytes_length]; simp; omega) (rowBytes_one _)
  have e : ((⟨rowBytes (A ++ (M ++ B))⟩ : Array Value).toList.take off ++ rowBytes X ++ (⟨rowBytes (A ++ (M ++ B))⟩ : Array Value).toList.drop (off + (rowBytes X).length)).toArray = ⟨rowBytes (A ++ (X ++ B))⟩ := by
    apply Array.ext'
    show (rowBytes (A ++ (M ++ B))).take off ++ rowBytes X ++ (rowBytes (A ++ (M ++ B))).drop (off + (rowBytes X).length) = rowBytes (A ++ (X ++ B))
    rw [rowBytes_append, rowBytes_append, List.take_left' (by rw [rowBytes_length, hA]), ← List.append_assoc (rowBytes A), List.drop_left' (by rw [List.length_append, rowBytes_length, rowBytes_length, rowBytes_length, hA, hM]), rowBytes_append, rowBytes_append, List.append_assoc]
  rw [e, rowBytes_length] at hrun
  unfold Oper.wp
  simp only [execOp, ho, resolve, invoke, builtin]
  simp [hd, hx, hrun, Result.andThen]
  exact hK _ _ (hk _ ((Kept.refl _ _).setRow _ _ (fun _ => rfl)) (setRow_heap w g _ _ t _ hg))
theorem Tryz.infoPage : (Tryz.prog.info? 129).map (fun i => (i.zero, i.size, i.bytes)) = some (some (.agg Tryz.zeroCells129), 1024, 1024) := by kernel_rfl
theorem zeros_page : Tryz.zeroCells129 = ⟨rowBytes (List.replicate 1024 0)⟩ := by kernel_rfl
theorem own_whole {w : World} {e : TypeId} {g n z : Nat} {xs : List Value} (h : w.ownsRow 0 e z (.slice (some ⟨g, 0, none⟩) n n) n xs) : w.heap[g]? = some (.cells ⟨xs⟩ e (0, 0)) := by
  obtain ⟨hl, h0 | ⟨g', cap, cur, hv, _, hg, _, _, hs, ht⟩⟩ := h
  · cases h0.1
  · simp only [Value.slice.injEq, Option.some.injEq, Addr.mk.injEq] at hv
    obtain ⟨⟨rfl, -, -⟩, -, rfl⟩ := hv
    rw [List.take_of_length_le (by rw [Array.length_toList]; omega)] at ht
    subst ht
    exact hg
theorem made_const (z : Array Value) (v : Value) (k : Nat) (hz : z.size = k) (hk : 0 < k) (h : ∀ i, i < k → z[i]? = some v) (m : Nat) : (madeCells z m).toList = List.replicate m v := by
  unfold madeCells
  rw [Array.toList_map, Array.toList_range]
  apply List.ext_getElem
  · simp
  · intro i h1 h2
    simp only [List.getElem_map, List.getElem_range, List.getElem_replicate]
    have hlt : i % k < k := Nat.mod_lt _ hk
    have := h _ hlt
    rw [hz, getElem!_def, this]
theorem made_zeros (m : Nat) : (madeCells (Value.agg Tryz.zeroCells129).cells m).toList = rowBytes (List.replicate m 0) := by
  rw [zeros_page]
  show (madeCells ⟨rowBytes (List.replicate 1024 0)⟩ m).toList = _
  rw [made_const _ (.int .u8 0) 1024 (by rw [rowBytes_size, List.length_replicate]) (by decide) (fun i hi => by rw [rowBytes_get _ _ (by rw [List.length_replicate]; exact hi), List.getElem_replicate]; rfl), zeros_row]
set_option maxHeartbeats 1000000 in
theorem dnew_ok (n : Nat) (w : World) (h1 : 1 ≤ n) (h2 : n ≤ 4096) :
    Calls Tryz.prog 26 #[.int .i64 (n : Int)] w fun e w' => ∃ x : DiskH, e = .returned (.tuple #[.pointer (some ⟨x.d, 0, none⟩), .int .i64 0]) ∧ Kept No w w' ∧ DiskAt w' x ⟨List.replicate n (List.replicate 1024 0), [], false, false, 0⟩ ∧ ∀ g, x.foot g → w.heap.size ≤ g := by
  obtain ⟨i0, hi, hz0, hz1, hz2⟩ := info_parts Tryz.infoPage
  have hmm := @run_makeMap Tryz.prog
  go_enter Tryz.func26, Tryz.ntmps26
  go_wp2_with (refine wpList_make_full _ (by rfl) (.tmp 10) (.tmp 10) 118 (by rfl) 0 129 i0 _ 1024 Tryz.underlying118 hi hz0 hz1 .i64 .i64 (n : Int) (n : Int) n (by rfl) (by rfl) (by rfl) (by rfl) (by rw [hz2]; omega) (by unfold maxLen; omega) (by omega) ?_; intro w1 hown hgrow; have HR := Lib.hid (own_whole hown); have K1 := Lib.hid (Kept.of_grown_none hgrow); clear hown hgrow)
  go_ret2
  have hR : w1.heap[w.heap.size]? = some (.cells ⟨rowBytes (List.replicate (n * 1024) 0)⟩ 129 (0, 0)) := by
    have h := HR.out
    rwa [made_zeros] at h
  have hlt := lt_of_heap hR
  have hm : ∀ o : Obj, ((w1.alloc (.map #[] 0)).alloc o).heap[w1.heap.size]? = some (.map #[] 0) := fun o => ((Kept.refl No _).alloc o).heap (heap_alloc_new w1 _) (fun h => h)
  have k2 : ∀ o : Obj, Kept No w1 ((w1.alloc (.map #[] 0)).alloc o) := fun o => ((Kept.refl No _).alloc _).alloc _
  have hlen : (⟨List.replicate n (List.replicate 1024 0), [], false, false, 0⟩ : DiskM).lies.length = n := by simp
  refine ⟨⟨w1.heap.size + 1, w.heap.size, w1.heap.size, .slice none 0 0, []⟩, by simp [World.alloc], K1.out.trans (k2 _), ⟨?_, ?_, World.ownsRow_nil _ _ _ _, trivial, ⟨.map [], ⟨#[], 0, hm _, ⟨by simp, stamped_empty 0, by simp⟩, by simp, rfl⟩, fun k => rfl, fun k g hg => (by cases hg), fun z h => (by cases h)⟩, ⟨fun b hb => ?_, by simp⟩, by rw [hlen]; exact h1, by rw [hlen]; omega, by simp, by simp⟩, ?_⟩
  · have hs : (w1.alloc (.map #[] 0)).heap.size = w1.heap.size + 1 := by simp
    have := heap_alloc_new (w1.alloc (.map #[] 0)) (.cells #[.slice (some ⟨w.heap.size, 0, none⟩) n n, .slice none 0 0, .map (some w1.heap.size), .bool false, .bool false, .int .i64 0] 122)
    rw [hs] at this
    rw [hlen]
    exact this
  · have := (k2 (.cells #[.slice (some ⟨w.heap.size, 0, none⟩) n n, .slice none 0 0, .map (some w1.heap.size), .bool false, .bool false, .int .i64 0] 122)).heap hR (fun h => h)
    show _ = some (Obj.cells ⟨rowBytes (List.replicate n (List.replicate 1024 (0 : UInt8))).flatten⟩ 129 (0, 0))
    rw [List.flatten_replicate_replicate]
    exact this
  · rw [List.mem_replicate] at hb
    rw [hb.2, List.length_replicate]
  · rintro g (rfl | rfl | rfl | hg | hg)
    · show w.heap.size ≤ w1.heap.size + 1; omega
    · exact Nat.le_refl _
    · show w.heap.size ≤ w1.heap.size; omega
    · cases hg
    · cases hg
set_option maxHeartbeats 2000000 in
theorem dread_no (x : DiskH) (m : DiskM) (n : Int) (w : World) (h : DiskAt w x m) (hr : m.ready n ≠ 0) :
    Calls Tryz.prog 212 #[.pointer (some ⟨x.d, 0, none⟩), .int .i64 n] w fun e w' => e = .returned (.tuple #[.slice none 0 0, .int .i64 (m.ready n)]) ∧ w = w' := by
  have H := Lib.hid h
  have hrb : (m.ready n != 0) = true := by simpa using hr
  clear h
  go_enter Tryz.func212, Tryz.ntmps212
  go_wp2_with fail
  refine (dready_ok x m n w H.out).mono ?_
  rintro e w1 ⟨rfl, rfl⟩
  go_wp2
  go_ret2
  exact ⟨rfl, rfl⟩
theorem view_len {m : DiskM} (h : m.Fits) {n : Nat} (hn : n < m.lies.length) : (m.view n).length = 1024 := by
  unfold DiskM.view
  have hl : ∀ l : List (Nat × List UInt8), (∀ x ∈ l, x.1 < m.lies.length ∧ x.2.length = 1024) → ∀ b, DiskM.last l n = some b → b.length = 1024 := by
    intro l
    induction l with
    | nil => intro _ b hb; cases hb
    | cons x l ih =>
      intro hx b hb
      unfold DiskM.last at hb
      cases hq : DiskM.last l n with
      | some c =>
        rw [hq] at hb
        simp at hb
        subst hb
        exact ih (fun y hy => hx y (by simp [hy])) c hq
      | none =>
        rw [hq] at hb
        simp at hb
        rw [← hb.2]
        exact (hx x (by simp)).2
  cases hq : DiskM.last m.pend n with
  | some b => exact hl _ h.pend b hq
  | none =>
    simp only [Option.getD_none, List.getElem?_eq_getElem hn, Option.getD_some]
    exact h.lies _ (List.getElem_mem hn)
theorem flatten_part : ∀ (l : List (List UInt8)) (n : Nat) (h : n < l.length), (∀ b ∈ l, b.length = 1024) → (l.flatten.drop (1024 * n)).take 1024 = l[n]
  | b :: l, 0, h, hl => by
    have := hl b (by simp)
    rw [List.flatten_cons, Nat.mul_zero, List.drop_zero, List.take_left' this]
    rfl
  | b :: l, n + 1, h, hl => by
    have hb := hl b (by simp)
    rw [List.flatten_cons, show 1024 * (n + 1) = b.length + 1024 * n from by omega, List.drop_length_add_append, flatten_part l n (by simpa using h) (fun c hc => hl c (by simp [hc]))]
    rfl
theorem flatten_len (l : List (List UInt8)) (hl : ∀ b ∈ l, b.length = 1024) : l.flatten.length = 1024 * l.length := by
  induction l with
  | nil => rfl
  | cons b l ih =>
    rw [List.flatten_cons, List.length_append, ih (fun c hc => hl c (by simp [hc])), hl b (by simp), List.length_cons]
    omega
theorem bytes_made {w : World} {g k : Nat} {t : TypeId} (h : w.heap[g]? = some (.cells ⟨(madeCells (Value.int .u8 0).cells (k * 1)).toList⟩ t (0, 0))) : w.heap[g]? = some (.cells ⟨rowBytes (List.replicate k 0)⟩ t (0, 0)) := by
  rw [show (Value.int IntKind.u8 0).cells = #[Value.int IntKind.u8 0] from rfl, toList_madeCells_one, zeros_row, Nat.mul_one] at h
  exact h
theorem split3 {α : Type} (l : List α) (a k : Nat) : l = l.take a ++ ((l.drop a).take k ++ l.drop (a + k)) := by
  rw [← List.drop_drop, List.take_append_drop, List.take_append_drop]
set_option maxHeartbeats 4000000 in
theorem dread_ok (x : DiskH) (m : DiskM) (n : Nat) (w : World) (h : DiskAt w x m) (hr : m.ready (n : Int) = 0) (hn : n < m.lies.length) :
    Calls Tryz.prog 212 #[.pointer (some ⟨x.d, 0, none⟩), .int .i64 (n : Int)] w fun e w' => ∃ b, e = .returned (.tuple #[pageSlice b, .int .i64 0]) ∧ Kept No w w' ∧ w.heap.size ≤ b ∧ BytesAt w' b (m.view n) := by
  obtain ⟨i0, hi, hz0, hz1, hz2⟩ := info_parts Tryz.infoU8
  have hvl := view_len h.fits hn
  have H := Lib.hid h
  have hmost := h.most
  obtain ⟨D, hD⟩ := h.last
  have HD := Lib.hid hD
  have hK := int_keyed (P := Tryz.prog) Tryz.underlying3
  have hwf : (Lit.int .i64 (n : Int)).wf = true := by
    simp [Lit.wf, IntKind.i64]
    have : IntKind.i64.min = -9223372036854775808 := rfl
    omega
  have hkey := keyOf_int_mk (P := Tryz.prog) Tryz.underlying3 hwf
  have hzz : (zeroValue 125).run Tryz.prog w = .ok (.pointer none) w := by kernel_rfl
  have c2 := (cell_of_row w x.d 2 _ _ _ h.head).trans rfl
  have c0 := (cell_of_row w x.d 0 _ _ _ h.head).trans rfl
  clear h hD
  cases hl : lastG x.pl n with
  | some g =>
    have hhas := HD.out.has n
    rw [hl] at hhas
    go_enter Tryz.func212, Tryz.ntmps212
    go_wp2_with fail
    refine (dready_ok x m n w H.out).mono ?_
    rintro e w1 ⟨rfl, rfl⟩
    rw [hr]
    have hlast := H.out.pend.last n
    rw [hl] at hlast
    obtain ⟨bs, hb1, hb2⟩ := hlast
    have hv : m.view n = bs := by simp [DiskM.view, hb1]
    have hX : ((bs.drop 0).take (m.view n).length) = m.view n := by rw [hv, List.drop_zero, List.take_of_length_le (Nat.le_refl _)]
    go_wp2_with (first
      | (at_lookup; refine wpList_lookup_own_ok _ (by rfl) (.tmp 20) (.tmp 21) 119 (by rfl) 3 125 hK Tryz.underlying119 ptrElem hzz _ _ rfl x.bm x.pl.length D (by rfl) HD.out.own _ _ (by rfl) hkey ?_; intro v ps hv; rw [HD.out.get n g hl] at hv; have hv := ptrElem_inv hv; subst hv; rw [hhas])
      | (refine wpList_make_full _ (by rfl) (.const (.int .i64 1024)) (.const (.int .i64 1024)) 104 (by rfl) 0 5 i0 (.int .u8 0) 1 Tryz.underlying104 hi hz0 hz1 .i64 .i64 1024 1024 1024 (by rfl) (by rfl) (by rfl) (by rfl) (by rw [hz2]; decide) (by decide) (by omega) ?_; intro w1 hown hgrow; have HR := Lib.hid (bytes_made (own_full hown)); have K1 := Lib.hid (Kept.of_grown_none hgrow); clear hown hgrow)
      | (refine wpList_copy_row (by rfl) (.tmp 34) (.tmp 37) 104 104 (by rfl) 5 Tryz.underlying104 (by rw [hi]; exact congrArg some hz1) w.heap.size 0 1024 1024 g 0 1024 1024 (by rfl) (by rfl) [] (List.replicate 1024 0) [] (List.replicate 1024 0) bs (m.view n) (by rw [List.append_nil, List.nil_append]) rfl (by rw [hvl, List.length_replicate]) _ _ (0, 0) HR.out (K1.out.heap hb2 (fun h => h)) hX (by rw [hvl]; rfl) ?_; intro w2 k2 R2))
    go_ret2
    refine ⟨w.heap.size, rfl, K1.out.next k2 (fun k hk e => by subst e; exact absurd hk (by omega)), Nat.le_refl _, ?_, hvl⟩
    rw [List.append_nil, List.nil_append] at R2
    exact R2
  | none =>
    have hhas := HD.out.has n
    rw [hl] at hhas
    go_enter Tryz.func212, Tryz.ntmps212
    go_wp2_with fail
    refine (dready_ok x m n w H.out).mono ?_
    rintro e w1 ⟨rfl, rfl⟩
    rw [hr]
    have hlast := H.out.pend.last n
    rw [hl] at hlast
    have hv : m.view n = m.lies[n] := by simp only [DiskM.view, hlast, Option.getD_none, List.getElem?_eq_getElem hn, Option.getD_some]
    have hX : ((m.lies.flatten.drop (n * 1024)).take (m.view n).length) = m.view n := by rw [hvl, Nat.mul_comm, flatten_part _ _ hn H.out.fits.lies, hv]
    go_wp2_with (first
      | (at_lookup; refine wpList_lookup_own_ok _ (by rfl) (.tmp 20) (.tmp 21) 119 (by rfl) 3 125 hK Tryz.underlying119 ptrElem hzz _ _ rfl x.bm x.pl.length D (by rfl) HD.out.own _ _ (by rfl) hkey ?_; intro v ps hv; rw [hhas])
      | (refine wpList_make_full _ (by rfl) (.const (.int .i64 1024)) (.const (.int .i64 1024)) 104 (by rfl) 0 5 i0 (.int .u8 0) 1 Tryz.underlying104 hi hz0 hz1 .i64 .i64 1024 1024 1024 (by rfl) (by rfl) (by rfl) (by rfl) (by rw [hz2]; decide) (by decide) (by omega) ?_; intro w1 hown hgrow; have HR := Lib.hid (bytes_made (own_full hown)); have K1 := Lib.hid (Kept.of_grown_none hgrow); clear hown hgrow)
      | (refine wpList_copy_row (by rfl) (.tmp 34) (.tmp 37) 104 104 (by rfl) 5 Tryz.underlying104 (by rw [hi]; exact congrArg some hz1) w.heap.size 0 1024 1024 x.bl (n * 1024) 1024 1024 (by rfl) (by rfl) [] (List.replicate 1024 0) [] (List.replicate 1024 0) m.lies.flatten (m.view n) (by rw [List.append_nil, List.nil_append]) rfl (by rw [hvl, List.length_replicate]) _ _ (0, 0) HR.out (K1.out.heap H.out.lies (fun h => h)) hX (by rw [hvl]; rfl) ?_; intro w2 k2 R2))
    go_ret2
    refine ⟨w.heap.size, rfl, K1.out.next k2 (fun k hk e => by subst e; exact absurd hk (by omega)), Nat.le_refl _, ?_, hvl⟩
    rw [List.append_nil, List.nil_append] at R2
    exact R2
theorem Tryz.infoWaits : (Tryz.prog.info? 127).map (fun i => (i.zero, i.size, i.bytes)) = some (some (.agg #[.int .i64 0, .pointer none]), 2, 16) := by kernel_rfl
theorem wpList_alloc_as {P : Program} {w : World} {ops : Array Oper} {rest : List Oper} {o : Oper} {a : Act} {Q : Exit → Act → World → Prop} (hgd : o.guard = none) (t : TypeId) (ho : o.op = .alloc t) (cells : Array Value)
    (hr : ∀ w, (Instr.alloc t true (.tuple #[])).run P w = .ok (.pointer (some ⟨w.heap.size, 0, none⟩)) (w.alloc (.cells cells t)))
    (h : wpList P ops Q rest (a.put o.dst (.pointer (some ⟨w.heap.size, 0, none⟩))) (w.alloc (.cells cells t))) : wpList P ops Q (o :: rest) a w := by
  refine wpList_plain hgd fun K hK => ?_
  unfold Oper.wp
  simp only [execOp, ho, Sem.run_bind, hr, Result.andThen_ok]
  exact hK _ _ h
theorem alloc_page (w : World) : (Instr.alloc 129 true (.tuple #[])).run Tryz.prog w = .ok (.pointer (some ⟨w.heap.size, 0, none⟩)) (w.alloc (.cells ⟨rowBytes (List.replicate 1024 0)⟩ 129)) := by
  rw [← zeros_page]
  go_simp
theorem lastG_snoc {α : Type} (l : List (Nat × α)) (n : Nat) (g : α) (k : Nat) : lastG (l ++ [(n, g)]) k = if n = k then some g else lastG l k := by
  rw [lastG_append]
  unfold lastG
  by_cases h : n = k
  · simp [h, lastG]
  · simp [h, lastG]
theorem pendCells_snoc (l : List (Nat × Nat)) (n g : Nat) : pendCells (l ++ [(n, g)]) = pendCells l ++ [Value.int .i64 (n : Int), Value.pointer (some ⟨g, 0, none⟩)] := by simp [pendCells]
set_option maxHeartbeats 2000000 in
theorem dwrite_no (x : DiskH) (m : DiskM) (n : Int) (b : Nat) (l : List UInt8) (w : World) (h : DiskAt w x m) (hl : l.length = 1024) (hr : m.ready n ≠ 0) (cap : Nat) :
    Calls Tryz.prog 214 #[.pointer (some ⟨x.d, 0, none⟩), .int .i64 n, .slice (some ⟨b, 0, none⟩) 1024 cap] w fun e w' => e = .returned (.int .i64 (m.write n l).2) ∧ Kept x.foot w w' ∧ DiskAt w' x (m.write n l).1 := by
  have H := Lib.hid h
  have hrb : (m.ready n != 0) = true := by simpa using hr
  have hre : (m.ready n == 0) = false := by simpa using hr
  rw [show m.write n l = (m, m.ready n) from by simp [DiskM.write, hr]]
  clear h
  generalize hc : m.ready n = c at *
  go_enter Tryz.func214, Tryz.ntmps214
  go_wp2_with fail
  refine (dready_ok x m n w H.out).mono ?_
  rintro e w1 ⟨rfl, rfl⟩
  rw [hc]
  go_wp2
  go_ret
  exact ⟨rfl, Kept.refl _ _, H.out⟩
set_option maxHeartbeats 2000000 in
theorem dwrite_act (x : DiskH) (m : DiskM) (n : Int) (b : Nat) (l : List UInt8) (w : World) (h : DiskAt w x m) (hl : l.length = 1024) (hr : m.ready n = 0) (ha : m.act.2 ≠ 0) (cap : Nat) :
    Calls Tryz.prog 214 #[.pointer (some ⟨x.d, 0, none⟩), .int .i64 n, .slice (some ⟨b, 0, none⟩) 1024 cap] w fun e w' => e = .returned (.int .i64 (m.write n l).2) ∧ Kept x.foot w w' ∧ DiskAt w' x (m.write n l).1 := by
  have H := Lib.hid h
  have hab : (m.act.2 != 0) = true := by simpa using ha
  rw [show m.write n l = m.act from by simp [DiskM.write, hr, hl, ha]]
  clear h
  have hact := dact_ok x m w H.out
  generalize m.act = c at *
  go_enter Tryz.func214, Tryz.ntmps214
  go_wp2_with fail
  refine (dready_ok x m n w H.out).mono ?_
  rintro e w1 ⟨rfl, rfl⟩
  rw [hr]
  go_wp2_with fail
  refine hact.mono ?_
  rintro e w2 ⟨rfl, k2, h2⟩
  go_wp2
  go_ret
  exact ⟨rfl, k2.mono (fun k _ e => .inl e), h2⟩
theorem cells_two (w : World) (t : TypeId) (a b : Value) : ∀ j u, [a, b][j]? = some u → (w.alloc (.cells #[a, b] t)).cell? ((⟨w.heap.size, 0, none⟩ : Addr).add j) = some u := by
  intro j u hj
  rw [add_off, cell_of_row _ _ _ _ _ _ (heap_alloc_new w _), Nat.zero_add, ← hj, ← Array.getElem?_toList]
theorem write_shut {w2 w5 w7 : World} {x : DiskH} {m : DiskM} {n g' cap' : Nat} {l : List UInt8} {D : DataW Unit} (h : DiskAt w2 x m) (hD : LastAt w2 x.bm m.lies.length x.pl D) (hn : n < m.lies.length) (hl : l.length = 1024)
    (k5 : Kept (fun k => k = w2.heap.size ∨ x.pv.ownBlock = some k) w2 w5) (hR : w5.heap[w2.heap.size]? = some (.cells ⟨rowBytes l⟩ 129 (0, 0)))
    (hO : w5.ownsRow 0 127 2 (.slice (some ⟨g', 0, none⟩) (x.pl.length + 1) cap') (x.pl.length + 1) (pendCells x.pl ++ [.int .i64 (n : Int), .pointer (some ⟨w2.heap.size, 0, none⟩)]))
    (hM : w7.ownsMap Tryz.prog 3 ptrElem x.bm (x.pl.length + 1) (D.put (.int .i64 (n : Int)) (.lit (.int .i64 (w2.heap.size : Int)))))
    (hG : (w5.setCell ⟨x.d, 1, none⟩ (.slice (some ⟨g', 0, none⟩) (x.pl.length + 1) cap')).grownBy w7 (some x.bm)) :
    Kept (fun k => x.foot k ∨ w2.heap.size ≤ k) w2 w7 ∧ DiskAt w7 ⟨x.d, x.bl, x.bm, .slice (some ⟨g', 0, none⟩) (x.pl.length + 1) cap', x.pl ++ [(n, w2.heap.size)]⟩ { m with pend := m.pend ++ [(n, l)] } := by
  obtain ⟨n1, n2, n3, n4⟩ := h.d_ne
  obtain ⟨es, clock, hb, F, hs, hD2⟩ := hD.own
  have hdlt := lt_of_heap h.head
  have hbllt := lt_of_heap h.lies
  have hbmlt := hD.own.lt
  have h5 := k5.heap h.head (by
    rintro (e | e)
    · omega
    · exact n3 _ e rfl)
  have h6 := heap_setCell_same w5 x.d 1 _ _ (.slice (some ⟨g', 0, none⟩) (x.pl.length + 1) cap') h5
  have k6 : Kept (fun k => k = x.d) w5 (w5.setCell ⟨x.d, 1, none⟩ (.slice (some ⟨g', 0, none⟩) (x.pl.length + 1) cap')) := (Kept.refl _ _).setCell _ _ (fun _ => rfl)
  have k7 : Kept (fun k => k = x.d ∨ k = x.bm) w5 w7 := (k6.mono (N := fun k => k = x.d ∨ k = x.bm) (fun _ _ e => .inl e)).next (Kept.of_grown hG) (fun k _ e => .inr (Option.some.inj e).symm)
  have hb5 : w5.heap[x.bm]? = some (.map es clock) := k5.heap hb (by
    rintro (e | e)
    · omega
    · obtain ⟨cs, hc⟩ := row_cells h.row e
      exact map_ne hc hb rfl)
  refine ⟨?_, ?_⟩
  · refine (k5.mono (N := fun k => x.foot k ∨ w2.heap.size ≤ k) (fun k _ e => ?_)).next k7 (fun k _ e => ?_)
    · rcases e with rfl | e
      · exact .inr (Nat.le_refl _)
      · exact .inl (.inr (.inr (.inr (.inl e))))
    · rcases e with rfl | rfl
      · exact .inl (.inl rfl)
      · exact .inl (.inr (.inr (.inl rfl)))
  · have kk : ∀ g, g < w2.heap.size → g ≠ x.d → g ≠ x.bm → x.pv.ownBlock ≠ some g → w7.heap[g]? = w2.heap[g]? := fun g hg h1 h2 h3 => by
      rw [k7.block g (Nat.lt_of_lt_of_le hg k5.size) (by rintro (e | e); exact h1 e; exact h2 e), k5.block g hg (by rintro (e | e); omega; exact h3 e)]
    have hown_page : ∀ g cs, w2.heap[g]? = some (.cells cs 129 (0, 0)) → x.pv.ownBlock ≠ some g := fun g cs hg e => by
      obtain ⟨cs', hc⟩ := row_cells h.row e
      exact cells_ne hg hc (by decide) rfl
    have hpend : PendAt w7 x.pl m.pend := by
      have : ∀ {pl : List (Nat × Nat)} {l : List (Nat × List UInt8)}, PendAt w2 pl l → PendAt w7 pl l := by
        intro pl
        induction pl with
        | nil => intro l hp; cases l with | nil => trivial | cons q l => exact hp.elim
        | cons p pl ih =>
          intro l hp
          cases l with
          | nil => exact hp.elim
          | cons q l =>
            refine ⟨hp.1, ?_, ih hp.2.2⟩
            rw [kk p.2 (lt_of_heap hp.2.1) (cells_ne hp.2.1 h.head (by decide)) (map_ne hp.2.1 hb) (hown_page _ _ hp.2.1)]
            exact hp.2.1
      exact this h.pend
    have hR7 : w7.heap[w2.heap.size]? = some (.cells ⟨rowBytes l⟩ 129 (0, 0)) := by
      rw [k7.block _ (lt_of_heap hR) (by rintro (e | e); omega; omega)]
      exact hR
    have hg5 : ∃ cs, w5.heap[g']? = some (.cells cs 127 (0, 0)) := row_cells hO rfl
    obtain ⟨gcs, hg5⟩ := hg5
    refine ⟨?_, ?_, ?_, hpend.snoc n _ l hR7, ⟨D.put (.int .i64 (n : Int)) (.lit (.int .i64 (w2.heap.size : Int))), ?_, fun k => ?_, fun k g hk z => ?_, fun z hz => ?_⟩, ⟨h.fits.lies, fun q hq => ?_⟩, h.some_, h.most, h.left, ?_⟩
    · rw [hG.block x.d (by simp; exact Nat.lt_of_lt_of_le hdlt k5.size) (by simp; exact Ne.symm n2)]
      exact h6
    · show w7.heap[x.bl]? = _
      rw [kk x.bl hbllt n1 (map_ne h.lies hb) (hown_page _ _ h.lies)]
      exact h.lies
    · have := k7.row hO (fun g hg => by
        simp only [Value.ownBlock, Option.some.injEq] at hg
        subst hg
        rintro (e | e)
        · exact cells_ne hg5 h5 (by decide) e
        · exact map_ne hg5 hb5 e)
      show w7.ownsRow 0 _ 2 _ (x.pl ++ [(n, w2.heap.size)]).length (pendCells (x.pl ++ [(n, w2.heap.size)]))
      rw [List.length_append, List.length_singleton, pendCells_snoc]
      exact this
    · show w7.ownsMap _ _ _ x.bm (x.pl ++ [(n, w2.heap.size)]).length _
      rw [List.length_append, List.length_singleton]
      exact hM
    · show Maps.has _ _ = (lastG (x.pl ++ [(n, w2.heap.size)]) k).isSome
      rw [lastG_snoc]
      by_cases hk : n = k
      · subst hk
        rw [if_pos rfl, Maps.has_put_same hD.own.isMap (by trivial)]
        rfl
      · rw [if_neg hk, Maps.has_put_other (by intro e; injection e with e1 e2; omega)]
        exact hD.has k
    · have hk : lastG (x.pl ++ [(n, w2.heap.size)]) k = some g := hk
      rw [lastG_snoc] at hk
      by_cases hnk : n = k
      · subst hnk
        rw [if_pos rfl] at hk
        cases hk
        rw [Maps.atKey_put_same hD.own.isMap (by trivial)]
      · rw [if_neg hnk] at hk
        rw [Maps.atKey_put_other (by intro e; injection e with e1 e2; omega)]
        exact hD.get k g hk z
    · by_cases hzn : z = (n : Int)
      · omega
      · rw [Maps.has_put_other (by intro e; injection e with e1 e2; exact hzn e2)] at hz
        exact hD.nat z hz
    · rcases List.mem_append.1 hq with hq | hq
      · exact h.fits.pend q hq
      · rw [List.mem_singleton] at hq
        subst hq
        exact ⟨hn, hl⟩
    · show x.bl ∉ (x.pl ++ [(n, w2.heap.size)]).map (·.2)
      rw [List.map_append, List.mem_append]
      rintro (e | e)
      · exact h.apart e
      · simp at e
        omega
set_option maxHeartbeats 4000000 in
theorem dwrite_ok (x : DiskH) (m : DiskM) (n : Nat) (b : Nat) (l : List UInt8) (w : World) (h : DiskAt w x m) (hB : BytesAt w b l) (hn : n < m.lies.length) (hr : m.ready (n : Int) = 0) (ha : m.act.2 = 0) (hf : ¬ x.foot b) (hpl : m.pend.length < 1000000) :
    Calls Tryz.prog 214 #[.pointer (some ⟨x.d, 0, none⟩), .int .i64 (n : Int), pageSlice b] w fun e w' => ∃ x' : DiskH, e = .returned (.int .i64 0) ∧ Kept x.foot w w' ∧ DiskAt w' x' (m.write n l).1 ∧ x'.d = x.d ∧ ∀ g, x'.foot g → x.foot g ∨ w.heap.size ≤ g := by
  obtain ⟨i0, hi, hz0, hz1, hz2⟩ := info_parts Tryz.infoWaits
  obtain ⟨i8, hi8, hz80, hz81, hz82⟩ := info_parts Tryz.infoU8
  have H := Lib.hid h
  have HBy := Lib.hid hB
  rw [show m.write n l = ({ m.act.1 with pend := m.act.1.pend ++ [(n, l)] }, 0) from by simp [DiskM.write, hr, hB.len, ha]]
  have hml : m.act.1.lies = m.lies ∧ m.act.1.pend = m.pend := by
    unfold DiskM.act
    split
    · split <;> exact ⟨rfl, rfl⟩
    · exact ⟨rfl, rfl⟩
  clear h hB
  have hact := dact_ok x m w H.out
  rw [ha] at hact
  obtain ⟨e1, e2⟩ := hml
  generalize m.act.1 = m1 at *
  have HA := Lib.hid hact
  clear hact
  go_enter Tryz.func214, Tryz.ntmps214
  go_wp2_with fail
  refine (dready_ok x m n w H.out).mono ?_
  rintro e w1 ⟨rfl, rfl⟩
  rw [hr]
  go_wp2_with fail
  refine HA.out.mono ?_
  rintro e w2 ⟨rfl, k2, h2⟩
  have HB2 := Lib.hid (HBy.out.kept k2 (fun e => hf (.inl e)))
  have HD := Lib.hid h2
  have K2 := Lib.hid k2
  have hX : ((l.drop 0).take l.length) = l := by rw [List.drop_zero, List.take_of_length_le (Nat.le_refl _)]
  have HBl := HB2.out.len
  clear h2 k2 HA H HBy
  have hA : ∀ c, Kept No w2 (w2.alloc c) := fun c => (Kept.refl _ _).alloc c
  have c1 : ∀ w3, Kept (fun k => k = w2.heap.size) w2 w3 → w3.cell? ⟨x.d, 1, none⟩ = some x.pv := fun w3 k => by
    have := k.heap HD.out.head (fun e => absurd (lt_of_heap HD.out.head) (by omega))
    exact (cell_of_row w3 x.d 1 _ _ _ this).trans rfl
  have hpll := HD.out.pend.length
  rw [e2] at hpll
  obtain ⟨D, hD⟩ := HD.out.last
  have HL := Lib.hid hD
  obtain ⟨n1, n2, n3, n4⟩ := HD.out.d_ne
  clear hD
  have HROW : ∀ w3, Kept (fun k => k = w2.heap.size) w2 w3 → ∀ o : Obj, (w3.alloc o).ownsRow 0 127 2 x.pv x.pl.length (pendCells x.pl) := fun w3 k o => ((Kept.refl No w3).alloc o).row (k.row HD.out.row (fun g hg e => by have := (HD.out.row.lt g hg).2; omega)) (fun _ _ h => h)
  have HHEAD : ∀ w5, Kept (fun k => k = w2.heap.size ∨ x.pv.ownBlock = some k) w2 w5 → w5.heap[x.d]? = _ := fun w5 k => k.heap HD.out.head (by
    rintro (e | e)
    · have := lt_of_heap HD.out.head; omega
    · exact n3 _ e rfl)
  have HMAP : ∀ w5, Kept (fun k => k = w2.heap.size ∨ x.pv.ownBlock = some k) w2 w5 → ∀ v : Value, (w5.setCell ⟨x.d, 1, none⟩ v).ownsMap Tryz.prog 3 ptrElem x.bm x.pl.length D := fun w5 k v => by
    obtain ⟨es, clock, hb, F, hs, hD2⟩ := HL.out.own
    have k6 := k.setCell ⟨x.d, 1, none⟩ v (M := fun k => k = w2.heap.size ∨ x.pv.ownBlock = some k)
    refine ⟨es, clock, ?_, F, hs, hD2⟩
    rw [Below.heap_setCell w5 ⟨x.d, 1, none⟩ v x.bm (by simpa using n2)]
    refine k.heap hb ?_
    rintro (e | e)
    · have := HL.out.own.lt; omega
    · obtain ⟨cs, hc⟩ := row_cells HD.out.row e
      exact map_ne hc hb rfl
  have hK := int_keyed (P := Tryz.prog) Tryz.underlying3
  have hwf : (Lit.int .i64 (n : Int)).wf = true := by
    simp [Lit.wf, IntKind.i64]
    have : IntKind.i64.min = -9223372036854775808 := rfl
    have := HD.out.most
    rw [e1] at this
    omega
  have hkey := keyOf_int_mk (P := Tryz.prog) Tryz.underlying3 hwf
  unfold pageSlice
  go_wp2_with (first
    | (refine wpList_alloc_as (by rfl) 129 (by rfl) ⟨rowBytes (List.replicate 1024 0)⟩ alloc_page ?_)
    | (refine wpList_copy_row (by rfl) (.tmp 29) (.tmp 30) 104 104 (by rfl) 5 Tryz.underlying104 (by rw [hi8]; exact congrArg some hz81) w2.heap.size 0 1024 1024 b 0 1024 1024 (by rfl) (by rfl) [] (List.replicate 1024 0) [] (List.replicate 1024 0) l l (by rw [List.append_nil, List.nil_append]) rfl (by rw [HB2.out.len, List.length_replicate]) _ _ (0, 0) (heap_alloc_new w2 _) ((hA _).heap HB2.out.row (fun h => h)) hX (by rw [HB2.out.len]; rfl) ?_; intro w3 k3 R3; have K3 := Lib.hid (((hA (.cells ⟨rowBytes (List.replicate 1024 0)⟩ 129)).of_no (fun k => k = w2.heap.size)).trans k3); have R3 := Lib.hid R3; clear k3; have c1 := c1 w3 K3.out)
    | (at_builtin; go_loud (refine wpList_append_own_at _ (by rfl) (.tmp 36) (.tmp 40) 120 (by rfl) 0 127 i0 _ 2 16 Tryz.underlying120 hi hz0 hz1 hz2 (by rfl) (by decide) x.pv x.pl.length (pendCells x.pl) (by rfl) (HROW w3 K3.out _) ⟨w3.heap.size, 0, none⟩ 1 1 [.int .i64 (n : Int), .pointer (some ⟨w2.heap.size, 0, none⟩)] (by rfl) (by rfl) (cells_two w3 _ _ _) (by simp [Value.oneCell']) (by unfold maxLen; omega) (by omega) (by omega) ?_; intro v' w5 hown' hgrow _ hloc; obtain ⟨g', cap', rfl⟩ := ownsRow_succ hown'; have HO := Lib.hid hown'; have HLOC := Lib.hid hloc; have R5 := Lib.hid ((((Kept.refl No w3).alloc (.cells #[.int .i64 (n : Int), .pointer (some ⟨w2.heap.size, 0, none⟩)] 127)).of_no (fun k => x.pv.ownBlock = some k) |>.next (Kept.of_grown hgrow) (fun k _ e => e)).heap R3.out (fun e => by have := (HD.out.row.lt _ e).2; omega)); have K5 := Lib.hid (((K3.out.trans ((Kept.refl No w3).alloc (.cells #[.int .i64 (n : Int), .pointer (some ⟨w2.heap.size, 0, none⟩)] 127) |>.of_no _)).mono (N := fun k => k = w2.heap.size ∨ x.pv.ownBlock = some k) (fun _ _ e => .inl e)).next (Kept.of_grown hgrow) (fun k _ e => .inr e)); have h5 := HHEAD w5 K5.out; have d1 := (cell_of_row w5 x.d 1 _ _ _ h5).trans rfl; have d2 := (cell_of_row w5 x.d 2 _ _ _ h5).trans rfl; have g1 := frozen_of_row w5 x.d 1 _ _ h5; clear hown' hgrow hloc h5))
    | (at_mapUpdate; go_loud (refine wpList_mapUpdate_own _ (by rfl) (.tmp 47) (.tmp 48) (.tmp 49) 119 (by rfl) 3 125 hK Tryz.underlying119 ptrElem x.bm x.pl.length D (by rfl) (HMAP w5 K5.out _) (by unfold maxLen; omega) _ _ _ (by rfl) (by rfl) hkey (.lit (.int .i64 (w2.heap.size : Int))) [] rfl ?_; intro w7 hm7 hg7; have HM := Lib.hid hm7; have G7 := Lib.hid hg7; clear hm7 hg7)))
  go_ret
  have G := G7.out
  rw [← hpll] at G
  have hR5 : w5.heap[w2.heap.size]? = some (.cells ⟨rowBytes l⟩ 129 (0, 0)) := by
    have := R5.out
    rw [List.nil_append, List.append_nil] at this
    exact this
  obtain ⟨q1, q2⟩ := write_shut HD.out HL.out (by rw [e1]; exact hn) HBl K5.out hR5 HO.out HM.out G
  refine ⟨⟨x.d, x.bl, x.bm, .slice (some ⟨g', 0, none⟩) (x.pl.length + 1) cap', x.pl ++ [(n, w2.heap.size)]⟩, rfl, K2.out.mono (fun k _ e => .inl e) |>.next q1 (fun k hk h => h.resolve_right (by have := K2.out.size; omega)), q2, rfl, ?_⟩
  rintro g (h | h | h | h | h)
  · exact .inl (.inl h)
  · exact .inl (.inr (.inl h))
  · exact .inl (.inr (.inr (.inl h)))
  · rcases HLOC.out with e | e
    · exact .inl (.inr (.inr (.inr (.inl (e ▸ h)))))
    · have : some g = some (w3.alloc (.cells #[.int .i64 (n : Int), .pointer (some ⟨w2.heap.size, 0, none⟩)] 127)).heap.size := h.symm.trans e
      have h1 := K2.out.size
      have h2 := K3.out.size
      simp at this
      right; omega
  · simp at h
    rcases h with ⟨k, hk⟩ | h
    · exact .inl (.inr (.inr (.inr (.inr (by simp; exact ⟨k, hk⟩)))))
    · have h1 := K2.out.size
      right; omega
theorem dwrite_any (x : DiskH) (m : DiskM) (n : Nat) (b : Nat) (l : List UInt8) (w : World) (h : DiskAt w x m) (hB : BytesAt w b l) (hf : ¬ x.foot b) (hpl : m.pend.length < 1000000) :
    Calls Tryz.prog 214 #[.pointer (some ⟨x.d, 0, none⟩), .int .i64 (n : Int), pageSlice b] w fun e w' => ∃ x' : DiskH, e = .returned (.int .i64 (m.write n l).2) ∧ Kept x.foot w w' ∧ DiskAt w' x' (m.write n l).1 ∧ x'.d = x.d ∧ ∀ g, x'.foot g → x.foot g ∨ w.heap.size ≤ g := by
  by_cases hr : m.ready (n : Int) = 0
  · by_cases ha : m.act.2 = 0
    · have hn : n < m.lies.length := by
        unfold DiskM.ready at hr
        split at hr
        · cases hr
        · split at hr
          · cases hr
          · omega
      refine (dwrite_ok x m n b l w h hB hn hr ha hf hpl).mono ?_
      rintro e w' ⟨x', rfl, k, hx, h1, h2⟩
      refine ⟨x', ?_, k, hx, h1, h2⟩
      rw [show (m.write n l).2 = 0 from by simp [DiskM.write, hr, hB.len, ha]]
    · refine (dwrite_act x m n b l w h hB.len hr ha 1024).mono ?_
      rintro e w' ⟨rfl, k, hx⟩
      exact ⟨x, rfl, k, hx, rfl, fun g hg => .inl hg⟩
  · refine (dwrite_no x m n b l w h hB.len hr 1024).mono ?_
    rintro e w' ⟨rfl, k, hx⟩
    exact ⟨x, rfl, k, hx, rfl, fun g hg => .inl hg⟩
theorem flatten_set (l : List (List UInt8)) (n : Nat) (b : List UInt8) (h : n < l.length) (hl : ∀ c ∈ l, c.length = 1024) (hb : b.length = 1024) : (l.set n b).flatten = l.flatten.take (n * 1024) ++ b ++ l.flatten.drop (n * 1024 + 1024) := by
  induction l generalizing n with
  | nil => simp at h
  | cons c l ih =>
    have hc := hl c (by simp)
    cases n with
    | zero =>
      rw [List.set_cons_zero, List.flatten_cons, List.flatten_cons, Nat.zero_mul, List.take_zero, Nat.zero_add, List.drop_left' hc]
      simp
    | succ n =>
      rw [List.set_cons_succ, List.flatten_cons, List.flatten_cons, ih n (by simpa using h) (fun d hd => hl d (by simp [hd]))]
      rw [show (n + 1) * 1024 = c.length + n * 1024 from by omega, List.take_length_add_append, Nat.add_assoc, List.drop_length_add_append]
      simp
theorem over_pages (l : List (List UInt8)) (n : Nat) (b : List UInt8) (h : n < l.length) (hl : ∀ c ∈ l, c.length = 1024) (hb : b.length = 1024) : over ⟨rowBytes l.flatten⟩ (n * 1024) (rowBytes b) = ⟨rowBytes (l.set n b).flatten⟩ := by
  rw [flatten_set l n b h hl hb]
  unfold over
  apply Array.ext'
  show (rowBytes l.flatten).take _ ++ rowBytes b ++ (rowBytes l.flatten).drop _ = _
  rw [rowBytes_length, hb]
  simp [rowBytes, List.map_take, List.map_drop]
theorem size_dpage : (Tryz.prog.info? 129).map (·.size) = some 1024 := by kernel_rfl
theorem rowBytes_all (l : List UInt8) : (⟨rowBytes l⟩ : Array Value).all (·.oneCell') = true := by
  rw [Array.all_eq_true_iff_forall_mem]
  intro v hv
  exact rowBytes_one l v (by simpa using hv)
structure Landing (m : DiskM) (left : Lit → Bool) (L : List (List UInt8)) : Prop where
  len : L.length = m.lies.length
  page : ∀ b ∈ L, b.length = 1024
  at_ : ∀ i, i < m.lies.length → L[i]? = if left (.int .i64 (i : Int)) then m.lies[i]? else some (m.view i)
theorem Landing.start {w : World} {bm : Nat} {pl : List (Nat × Nat)} {m : DiskM} {D : DataW Unit} (hf : m.Fits) (hD : LastAt w bm m.lies.length pl D) (hP : PendAt w pl m.pend) : Landing m (Maps.has D) m.lies := by
  refine ⟨rfl, hf.lies, fun i hi => ?_⟩
  rw [hD.has i]
  have := hP.last i
  cases hl : lastG pl i with
  | some g => rfl
  | none =>
    rw [hl] at this
    simp only [Option.isSome_none, Bool.false_eq_true, if_false, DiskM.view, this, Option.getD_none, List.getElem?_eq_getElem hi, Option.getD_some]
theorem Landing.done {m : DiskM} {left : Lit → Bool} {L : List (List UInt8)} (h : Landing m left L) (hl : ∀ kl, left kl = false) : L = m.landed := by
  apply List.ext_getElem?
  intro i
  rcases Nat.lt_or_ge i m.lies.length with hi | hi
  · rw [h.at_ i hi, hl, DiskM.landed_view m i hi]
    rfl
  · rw [List.getElem?_eq_none (by rw [h.len]; exact hi), List.getElem?_eq_none (by unfold DiskM.landed; rw [DiskM.landed_length]; exact hi)]
theorem Landing.step {m : DiskM} {left : Lit → Bool} {L : List (List UInt8)} (h : Landing m left L) {k : Nat} {b : List UInt8} (hk : k < m.lies.length) (hb : m.view k = b) (hbl : b.length = 1024) : Landing m (fun z => left z && !z.sameKey (.int .i64 (k : Int))) (L.set k b) := by
  refine ⟨by rw [List.length_set]; exact h.len, fun c hc => ?_, fun i hi => ?_⟩
  · rcases List.mem_or_eq_of_mem_set hc with hc | rfl
    · exact h.page c hc
    · exact hbl
  · by_cases hik : i = k
    · subst hik
      rw [List.getElem?_set_self (by rw [h.len]; exact hi)]
      simp [Lit.sameKey, hb]
    · rw [List.getElem?_set_ne (Ne.symm hik), h.at_ i hi]
      have : (Lit.int .i64 (i : Int)).sameKey (.int .i64 (k : Int)) = false := Maps.sameKey_ne (by intro e; injection e with e1 e2; omega)
      simp [this]
theorem DiskAt.pages {w w' : World} {x : DiskH} {m : DiskM} {D : DataW Unit} {L : List (List UInt8)} (h : DiskAt w x m) (hD : LastAt w x.bm m.lies.length x.pl D) (k : Kept (fun k => k = x.bl) w w') (ho : w'.ownsMap Tryz.prog 3 ptrElem x.bm x.pl.length D)
    (hL : w'.heap[x.bl]? = some (.cells ⟨rowBytes L.flatten⟩ 129 (0, 0))) (hl : L.length = m.lies.length) (hp : ∀ b ∈ L, b.length = 1024) : DiskAt w' x { m with lies := L } := by
  obtain ⟨n1, n2, n3, n4⟩ := h.d_ne
  refine ⟨by show _ = some (Obj.cells #[.slice (some ⟨x.bl, 0, none⟩) L.length L.length, _, _, _, _, _] _ _); rw [hl]; exact k.heap h.head (Ne.symm n1), hL, k.row h.row (fun g hg e => ?_), h.pend.kept k (fun g hg e => h.apart (e ▸ hg)), ⟨D, ho, hD.has, hD.get, hD.nat⟩, ⟨hp, fun q hq => by show q.1 < L.length ∧ _; rw [hl]; exact h.fits.pend q hq⟩, by show 1 ≤ L.length; rw [hl]; exact h.some_, by show L.length ≤ _; rw [hl]; exact h.most, h.left, h.apart⟩
  obtain ⟨cs, hc⟩ := row_cells h.row hg
  exact cells_ne hc h.lies (by decide) e
set_option maxHeartbeats 4000000 in
theorem dsync_ok (x : DiskH) (m : DiskM) (w : World) (h : DiskAt w x m) (hr : m.ready 0 = 0) (ha : m.act.2 = 0) :
    Calls Tryz.prog 213 #[.pointer (some ⟨x.d, 0, none⟩)] w fun e w' => ∃ x' : DiskH, e = .returned (.int .i64 0) ∧ Kept x.foot w w' ∧ DiskAt w' x' (m.sync).1 ∧ x'.d = x.d ∧ ∀ g, x'.foot g → x.foot g := by
  have H := Lib.hid h
  rw [show m.sync = ({ m.act.1 with lies := m.act.1.landed, pend := [] }, 0) from by simp [DiskM.sync, hr, ha]]
  have hml : m.act.1.lies = m.lies ∧ m.act.1.pend = m.pend := by
    unfold DiskM.act
    split
    · split <;> exact ⟨rfl, rfl⟩
    · exact ⟨rfl, rfl⟩
  clear h
  have hact := dact_ok x m w H.out
  rw [ha] at hact
  obtain ⟨e1, e2⟩ := hml
  generalize m.act.1 = m1 at *
  have HA := Lib.hid hact
  clear hact
  have hK := int_keyed (P := Tryz.prog) Tryz.underlying3
  go_enter Tryz.func213, Tryz.ntmps213
  go_wp2_with fail
  refine (dready_ok x m 0 w H.out).mono ?_
  rintro e w1 ⟨rfl, rfl⟩
  rw [hr]
  go_wp2_with fail
  refine HA.out.mono ?_
  rintro e w2 ⟨rfl, k2, h2⟩
  have HD := Lib.hid h2
  have K2 := Lib.hid k2
  obtain ⟨D, hD⟩ := h2.last
  have HL := Lib.hid hD
  have c2 := (cell_of_row w2 x.d 2 _ _ _ h2.head).trans rfl
  clear h2 k2 HA H hD
  go_wp2_with (first
    | (at_range; go_loud (refine wpList_range_own _ (by rfl) (.tmp 18) 119 (by rfl) 3 125 hK Tryz.underlying119 ptrElem x.bm x.pl.length D (by rfl) HL.out.own ?_; intro w3 hrg0 hg0 hs0; have HRG := Lib.hid hrg0; have G0 := Lib.hid hg0; clear hrg0 hg0))
    | go_in)
  go_frame
  go_loopw [4, 5] (fun _ _ wr => ∃ (left : Lit → Bool) (cnt : Nat) (L : List (List UInt8)), wr.ranges Tryz.prog 3 ptrElem x.bm w2.heap.size x.pl.length D left cnt ∧ Kept (fun k => k = x.bl) w2 wr ∧ wr.heap[x.bl]? = some (.cells ⟨rowBytes L.flatten⟩ 129 (0, 0)) ∧ Landing m1 left L) (fun _ _ wr => wr.rangeLeft x.bm w2.heap.size)
  case atStart =>
    have k0 := Kept.of_grown_none G0.out
    exact ⟨_, _, m1.lies, HRG.out, k0.of_no _, k0.heap HD.out.lies (fun h => h), Landing.start HD.out.fits HL.out HD.out.pend⟩
  case round =>
    obtain ⟨left, cnt, L, hrg, hk, hL, hland⟩ := hrel
    have HRG := Lib.hid hrg
    have HK := Lib.hid hk
    have HBL := Lib.hid hL
    have HLAND := Lib.hid hland
    clear hrg hk hL hland
    go_wp2_with (first
      | (at_next; go_loud (refine wpList_next_ranges _ (by rfl) (.tmp 19) (by rfl) 3 hK ptrElem (Value.int .i64) (fun v => v) (fun key kl hkey => by obtain ⟨x, rfl, _⟩ := Maps.keyOf_int_inv Tryz.underlying3 hkey; exact ⟨x, rfl⟩) (fun v y hv => ⟨v, rfl⟩) x.bm w2.heap.size x.pl.length D _ _ (by rfl) HRG.out ?_ ?_))
      | go_in)
    · intro _ hl0
      go_wp2_with fail
      have hdone := HLAND.out.done hl0
      have hd1 := HD.out.pages HL.out HK.out HRG.out.owns HBL.out HLAND.out.len HLAND.out.page
      refine (calm_ok x _ wr hd1).mono ?_
      rintro e w5 ⟨rfl, k5, h5⟩
      go_wp2
      go_ret
      refine ⟨⟨x.d, x.bl, x.bm, .slice none 0 0, []⟩, rfl, ((K2.out.mono (N := x.foot) (fun k _ e => .inl e)).next HK.out (fun k _ e => .inr (.inl e))).next k5 (fun k _ e => ?_), by rw [← hdone]; exact h5, rfl, ?_⟩
      · rcases e with rfl | rfl
        · exact .inl rfl
        · exact .inr (.inr (.inl rfl))
      · rintro g (h | h | h | h | h)
        · exact .inl h
        · exact .inr (.inl h)
        · exact .inr (.inr (.inl h))
        · cases h
        · cases h
    · intro z c kl y1 y2 w4 cnt4 hkey hlk hcy hat hrg4 hlt hg4 hs4 hen
      obtain ⟨z', hz', rfl, hwf⟩ := Maps.keyOf_int_inv Tryz.underlying3 hkey
      cases hz'
      have hhas := has_true_of_atKey hat
      have hz0 := HL.out.nat z hhas
      obtain ⟨k, rfl⟩ : ∃ k : Nat, z = (k : Int) := ⟨z.toNat, by omega⟩
      rw [HL.out.has k] at hhas
      obtain ⟨g, hg⟩ := Option.isSome_iff_exists.1 hhas
      have hyg := HL.out.get k g hg (.lit (.int .i64 0))
      rw [hat] at hyg
      subst hyg
      have hc := ptrElem_inv hcy
      subst hc
      have hlast := HD.out.pend.last k
      rw [hg] at hlast
      obtain ⟨bs, hb1, hb2⟩ := hlast
      have hbl : bs.length = 1024 ∧ k < m1.lies.length := by
        have : ∀ l : List (Nat × List UInt8), (∀ q ∈ l, q.1 < m1.lies.length ∧ q.2.length = 1024) → DiskM.last l k = some bs → bs.length = 1024 ∧ k < m1.lies.length := by
          intro l
          induction l with
          | nil => intro _ h; cases h
          | cons q l ih =>
            intro hq h
            unfold DiskM.last at h
            cases hl : DiskM.last l k with
            | some c =>
              rw [hl] at h
              simp at h
              subst h
              exact ih (fun r hr => hq r (by simp [hr])) hl
            | none =>
              rw [hl] at h
              simp at h
              obtain ⟨h1, h2⟩ := h
              have := hq q (by simp)
              rw [h1, h2] at this
              exact ⟨this.2, this.1⟩
        exact this _ HD.out.fits.pend hb1
      obtain ⟨hbl, hkl⟩ := hbl
      have hview : m1.view k = bs := by simp [DiskM.view, hb1]
      have k4 := (HK.out.next (Kept.of_grown hg4) (fun j hj e => by have := Option.some.inj e; omega))
      have hglt := lt_of_heap hb2
      have hgbl : g ≠ x.bl := fun e => HD.out.apart (by
        rw [← e]
        have : ∀ pl : List (Nat × Nat), lastG pl k = some g → g ∈ pl.map (·.2) := by
          intro pl
          induction pl with
          | nil => intro h; cases h
          | cons q pl ih =>
            intro h
            unfold lastG at h
            cases hl : lastG pl k with
            | some c => rw [hl] at h; simp at h; subst h; simp only [List.map_cons, List.mem_cons]; exact .inr (ih hl)
            | none => rw [hl] at h; simp at h; simp [h.2]
        exact this _ hg)
      have hR4 := Lib.hid (k4.heap hb2 hgbl)
      have hh4 := k4.heap HD.out.head (Ne.symm HD.out.d_ne.1)
      have d0 := (cell_of_row w4 x.d 0 _ _ _ hh4).trans rfl
      have p0 : ∀ p : InC (Kept No w4), p.world.cell? ⟨x.d, 0, none⟩ = some (.slice (some ⟨x.bl, 0, none⟩) m1.lies.length m1.lies.length) := cell_in hh4 (fun h => h) rfl
      have hL4 := Lib.hid ((Kept.of_grown hg4).heap HBL.out (fun e => by have := Option.some.inj e; have := lt_of_heap HD.out.lies; omega))
      have hmost := HD.out.most
      have HRG4 := Lib.hid hrg4
      have K4 := Lib.hid k4
      have hkl' : k < m.lies.length := by rw [← e1]; exact hkl
      clear hrg4 k4 hh4
      go_wp2_with fail
      refine wp_region_in_tail (Kept No w4) 9 (by kernel_rfl) (by kernel_rfl) ((Kept.refl _ _).drew) ?_
      simp only [List.take_succ_cons, List.take_zero, List.drop_succ_cons, List.drop_zero]
      iterate 7 (go_big_quiet_step (fail))
      refine wpQuiet_load_row (by rfl) 129 (.tmp 31) (by rfl) g (by rfl) 129 _ (0, 0) _ (by rintro w ⟨p, rfl⟩; exact p.here.heap hR4.out (fun h => h)) Tryz.underlying129 (by rfl) (by rw [size_dpage, rowBytes_size, hbl]) ?_
      simp only [Act.put, List.setIfInBounds_toArray, List.set_cons_succ, List.set_cons_zero]
      go_big_quiet_step (fail)
      refine wpQuiet_nil ?_
      intro w6 hw'
      obtain ⟨⟨wx, k6⟩, hw''⟩ := hw'
      change w6 = wx at hw''
      subst hw''
      have hL6 := Lib.hid (k6.heap hL4.out (fun h => h))
      refine wpList_store_part (by rfl) 129 (.tmp 33) (.tmp 32) (by rfl) x.bl (k * 1024) 129 _ _ (by rfl) (by rfl) hL6.out (by rw [size_dpage, rowBytes_size, hbl]) (by rw [rowBytes_size, rowBytes_size, flatten_len _ HLAND.out.page, HLAND.out.len, hbl]; omega) (rowBytes_all _) ?_
      rw [over_pages L k bs (by rw [HLAND.out.len]; exact hkl) HLAND.out.page hbl]
      have hL7 := Lib.hid (setRow_heap w6 x.bl _ ⟨rowBytes (L.set k bs).flatten⟩ _ _ hL6.out)
      have k7 : Kept (fun j => j = x.bl) w4 (w6.setRow x.bl ⟨rowBytes (L.set k bs).flatten⟩) := (k6.of_no _).setRow _ _ (fun _ => rfl)
      have hrg7 : (w6.setRow x.bl ⟨rowBytes (L.set k bs).flatten⟩).ranges Tryz.prog 3 ptrElem x.bm w2.heap.size x.pl.length D (fun z => left z && !z.sameKey (.int .i64 (k : Int))) cnt4 := by
        obtain ⟨es, clock, since, seen, c0, q1, q2, q3, q4, q5, q6⟩ := HRG4.out
        refine ⟨es, clock, since, seen, c0, k7.heap q1 (fun e => ?_), q2, q3, q4, k7.heap q5 (fun e => ?_), q6⟩
        · rw [e] at q1
          rw [hL4.out] at q1
          cases q1
        · rw [e] at q5
          rw [hL4.out] at q5
          cases q5
      have HRG7 := Lib.hid hrg7
      have K7 := Lib.hid (K4.out.trans k7)
      clear hrg7 k7
      generalize w6.setRow x.bl ⟨rowBytes (L.set k bs).flatten⟩ = w7 at *
      go_wp2_with fail
      exact ⟨⟨_, _, _, _, _, _, _, _, _, _, _, _, _, _, _, _, ⟨_, cnt4, L.set k bs, HRG7.out, K7.out, hL7.out, HLAND.out.step hkl hview hbl⟩, rfl⟩, by rw [HRG7.out.left_eq, HRG.out.left_eq]; exact hlt⟩
theorem dsync_any (x : DiskH) (m : DiskM) (w : World) (h : DiskAt w x m) :
    Calls Tryz.prog 213 #[.pointer (some ⟨x.d, 0, none⟩)] w fun e w' => ∃ x' : DiskH, e = .returned (.int .i64 (m.sync).2) ∧ Kept x.foot w w' ∧ DiskAt w' x' (m.sync).1 ∧ x'.d = x.d ∧ ∀ g, x'.foot g → x.foot g := by
  by_cases hr : m.ready 0 = 0
  · by_cases ha : m.act.2 = 0
    · refine (dsync_ok x m w h hr ha).mono ?_
      rintro e w' ⟨x', rfl, k, hx, h1, h2⟩
      exact ⟨x', by rw [show (m.sync).2 = 0 from by simp [DiskM.sync, hr, ha]], k, hx, h1, h2⟩
    · have H := Lib.hid h
      have hab : (m.act.2 != 0) = true := by simpa using ha
      rw [show m.sync = m.act from by simp [DiskM.sync, hr, ha]]
      clear h
      have hact := dact_ok x m w H.out
      generalize m.act = c at *
      go_enter Tryz.func213, Tryz.ntmps213
      go_wp2_with fail
      refine (dready_ok x m 0 w H.out).mono ?_
      rintro e w1 ⟨rfl, rfl⟩
      rw [hr]
      go_wp2_with fail
      refine hact.mono ?_
      rintro e w2 ⟨rfl, k2, h2⟩
      go_wp2
      go_ret
      exact ⟨x, rfl, k2.mono (fun k _ e => .inl e), h2, rfl, fun g hg => hg⟩
  · have H := Lib.hid h
    have hrb : (m.ready 0 != 0) = true := by simpa using hr
    have hre : (m.ready 0 == 0) = false := by simpa using hr
    rw [show m.sync = (m, m.ready 0) from by simp [DiskM.sync, hr]]
    clear h
    generalize hc : m.ready 0 = c at *
    go_enter Tryz.func213, Tryz.ntmps213
    go_wp2_with fail
    refine (dready_ok x m 0 w H.out).mono ?_
    rintro e w1 ⟨rfl, rfl⟩
    rw [hc]
    go_wp2
    go_ret
    exact ⟨x, rfl, Kept.refl _ _, H.out, rfl, fun g hg => hg⟩
end Go.Proofs.YtabhieafjkaocaaGreat
namespace Go.Proofs.YtabhieafjkaocaaGreat
open Go.RowKit Go.Lib
theorem or128 (c : Nat) (hc : c < 256) : bits .or .u8 (c : Int) 128 = ((c % 128 + 128 : Nat) : Int) := by
  have : ∀ c, c < 256 → bits .or .u8 ((c : Nat) : Int) 128 = ((c % 128 + 128 : Nat) : Int) := by decide +kernel
  exact this c hc
theorem leb_small (y : Nat) (h : y < 128) : leb y = [UInt8.ofNat y] := by rw [leb]; simp [h]
theorem leb_big (y : Nat) (h : 128 ≤ y) : leb y = UInt8.ofNat (y % 128 + 128) :: leb (y / 128) := by rw [leb, if_neg (by omega)]
theorem leb_len (y : Nat) : (leb y).length ≤ y / 128 + 1 := by
  induction y using leb.induct with
  | case1 v h => rw [leb_small v h]; simp
  | case2 v h ih => rw [leb_big v (by omega), List.length_cons]; omega
end Go.Proofs.YtabhieafjkaocaaGreat
