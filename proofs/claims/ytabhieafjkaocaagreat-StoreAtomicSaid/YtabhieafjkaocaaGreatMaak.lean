/- A part. -/
import Derived.Test.YtabhieafjkaocaaGreatMaaj
import Derived.Test.YtabhieafjkaocaaGreatMaai
import Derived.Test.YtabhieafjkaocaaGreatMaah
set_option linter.unusedVariables false
set_option linter.unusedSimpArgs false
namespace Go.Proofs.YtabhieafjkaocaaGreat
open Go.RowKit Go.Lib
set_option maxRecDepth 20000
def pageCells (l : List PageV) : List Value := l.flatMap fun p => (pageRow p).toList
theorem pageCells_get (l : List PageV) (i j : Nat) (hi : i < l.length) (hj : j < 4) : (pageCells l)[i * 4 + j]? = (pageRow l[i])[j]? := by
  induction l generalizing i with
  | nil => cases hi
  | cons p l ih =>
    have h4 : (pageRow p).toList.length = 4 := rfl
    cases i with
    | zero =>
      show ((pageRow p).toList ++ pageCells l)[0 * 4 + j]? = _
      rw [List.getElem?_append_left (by rw [h4]; omega), Nat.zero_mul, Nat.zero_add]
      simp
    | succ i =>
      show ((pageRow p).toList ++ pageCells l)[(i + 1) * 4 + j]? = _
      rw [List.getElem?_append_right (by rw [h4]; omega), h4, show (i + 1) * 4 + j - 4 = i * 4 + j from by omega, ih i (by simpa using hi)]
      rfl
structure PageOk (p : PageV) : Prop where
  number : p.number < 4294967296
  serial : p.serial < 18446744073709551616
  body : p.body.length < 4611686018427387904
structure PagesAt (w : World) (v : Value) (l : List PageV) : Prop where
  row : w.ownsRow 0 28 4 v l.length (pageCells l)
  ok : ∀ p ∈ l, PageOk p
  len : l.length < 1000000
theorem PagesAt.kept {M : Nat → Prop} {w w' : World} {v : Value} {l : List PageV} (h : PagesAt w v l) (k : Kept M w w') (hm : ∀ g, v.ownBlock = some g → ¬ M g) : PagesAt w' v l := ⟨k.row h.row hm, h.ok, h.len⟩
theorem PagesAt.slice {w : World} {v : Value} {l : List PageV} (h : PagesAt w v l) : ∃ a cap, v = .slice a l.length cap := row_slice h.row
theorem PagesAt.at {w : World} {v : Value} {l : List PageV} (h : PagesAt w v l) (h0 : 0 < l.length) : ∃ g cap, v = .slice (some ⟨g, 0, none⟩) l.length cap ∧ ∀ i (hi : i < l.length) j, j < 4 → w.cell? ⟨g, i * 4 + j, none⟩ = (pageRow l[i])[j]? := by
  rcases h.row.2 with ⟨_, h2⟩ | ⟨g, cap, cur, hv, hb, hg, hc, hn, hs, ht⟩
  · omega
  · refine ⟨g, cap, hv, fun i hi j hj => ?_⟩
    rw [cell_of_row w g _ _ _ _ hg, ← pageCells_get l i j hi hj, ← ht, ← Array.getElem?_toList, List.getElem?_take, if_pos (by omega)]
theorem room_ok (n : Nat) (w : World) (hn : n < 4611686018427387904) : Calls Tryz.prog 57 #[.int .i64 (n : Int)] w fun e w' => e = .returned (.int .i64 (room (n : Int) : Int)) ∧ w = w' := by
  go_enter Tryz.func57, Tryz.ntmps57
  go_wp2
  all_goals go_ret
  all_goals exact ⟨by
    have : ∀ a b : Int, a = b → Ending.returned (Value.int .i64 a) = Ending.returned (Value.int .i64 b) := fun a b h => by rw [h]
    refine this _ _ ?_
    show _ = (((room (n : Int)) : Nat) : Int)
    unfold room
    try simp only [Array.getD, List.size_toArray]
    omega, rfl⟩
abbrev dev (d : Nat) : Value := .iface 24 (.pointer (some ⟨d, 0, none⟩))
theorem dev_not (d : Nat) (w : World) : (binOp .eql 85 (dev d) .nilIface).run Tryz.prog w = .ok (.bool false) w := by kernel_rfl
theorem dev_method_pages (d : Nat) (w : World) : (method 373 24 (.pointer (some ⟨d, 0, none⟩)) "Pages").run Tryz.prog w = .ok (211, .pointer (some ⟨d, 0, none⟩)) w := by kernel_rfl
theorem there_ok (x : DiskH) (m : DiskM) (first count : Nat) (w : World) (h : DiskAt w x m) (h1 : 1 ≤ count) (h2 : first + count ≤ m.lies.length) :
    Calls Tryz.prog 75 #[dev x.d, .int .i64 (first : Int), .int .i64 (count : Int)] w fun e w' => e = .returned (.int .i64 0) ∧ Kept No w w' := by
  have H := Lib.hid h
  have hm := h.most
  have hq := dev_not x.d
  have hts : Tryz.prog.types.size + 100 = 373 := by kernel_rfl
  have hmt : ∀ w, (method 373 24 (.pointer (some ⟨x.d, 0, none⟩)) "Pages").run Tryz.prog w = .ok (211, .pointer (some ⟨x.d, 0, none⟩)) w := fun w => dev_method_pages x.d w
  have hcf : ∀ w, (callFunc 211 #[.pointer (some ⟨x.d, 0, none⟩)]).run Tryz.prog w = .ok (.enter 211 #[.pointer (some ⟨x.d, 0, none⟩)]) w := fun w => by kernel_rfl
  clear h
  go_enter Tryz.func75, Tryz.ntmps75
  go_wp2_with (go_at_call 211; refine (dpages_ok x m _ H.out).mono ?_; rintro e w' ⟨rfl, rfl⟩)
  go_ret
  exact ⟨rfl, Kept.refl _ _⟩
theorem PagesAt.row4 {w : World} {v : Value} {l : List PageV} (h : PagesAt w v l) {g cap : Nat} (hv : v = .slice (some ⟨g, 0, none⟩) l.length cap) (i : Nat) (hi : i < l.length) :
    w.cell? ⟨g, i * 4, none⟩ = some (.int .u8 (l[i].kind.toNat : Int)) ∧ w.cell? ⟨g, i * 4 + 1, none⟩ = some (.int .u32 (l[i].number : Int)) ∧ w.cell? ⟨g, i * 4 + 2, none⟩ = some (.int .u64 (l[i].serial : Int)) ∧ w.cell? ⟨g, i * 4 + 3, none⟩ = some (.string ⟨⟨l[i].body⟩⟩) := by
  obtain ⟨g', cap', hv', hc⟩ := h.at (by omega)
  rw [hv] at hv'
  cases hv'
  exact ⟨hc i hi 0 (by omega), hc i hi 1 (by omega), hc i hi 2 (by omega), hc i hi 3 (by omega)⟩
structure Fit (count : Nat) (l : List PageV) : Prop where
  some_ : 0 < l.length
  room : l.length ≤ room (count : Int)
  rise : ∀ i (h : i + 1 < l.length), l[i].number < l[i + 1].number
  body : ∀ p ∈ l, p.body.length ≤ 996
set_option maxHeartbeats 2000000 in
theorem right_ok (count serial : Nat) (v : Value) (l : List PageV) (w : World) (h : PagesAt w v l) (hf : Fit count l) (h1 : 0 < serial) (h2 : serial ≤ 4611686018427387904) (hc : count < 4611686018427387904) :
    Calls Tryz.prog 93 #[.int .i64 (count : Int), .int .u64 (serial : Int), v] w fun e w' => e = .returned (.int .i64 0) ∧ Kept No w w' := by
  obtain ⟨g, cap, rfl, -⟩ := h.at hf.some_
  have H := Lib.hid h
  have HF := Lib.hid hf
  have hlen := h.len
  have hroom := hf.room
  have hsm := hf.some_
  have hz : ((serial : Int) == 0) = false := by rw [beq_eq_false_iff_ne]; omega
  clear h hf
  go_enter Tryz.func93, Tryz.ntmps93
  go_wp2_with fail
  refine (room_ok count w hc).mono ?_
  rintro e w' ⟨rfl, rfl⟩
  go_wp2_with fail
  go_loopw [7, 23] (fun _ i wr => ∃ j : Nat, j ≤ l.length ∧ i = .int .i64 (j : Int) ∧ ∃ k, wr = w.drewN k) (fun _ i _ => l.length - (intOf i).toNat)
  case atStart => exact ⟨0, by omega, rfl, 0, rfl⟩
  case round =>
    obtain ⟨j, hj, rfl, k, rfl⟩ := hrel
    by_cases hjl : j < l.length
    · cases j with
      | zero =>
        go_wp2_with fail
        go_quiet (fail)
        go_wp2
        exact ⟨⟨1, by omega, rfl, _, rfl⟩, by simp [intOf]; omega⟩
      | succ i =>
        have r1 := (H.out.row4 rfl (i + 1) hjl).2.1
        have r0 := (H.out.row4 rfl i (by omega)).2.1
        have hlt := HF.out.rise i hjl
        generalize hx : l[i].number = a at r0 hlt
        generalize hy : l[i + 1].number = b at r1 hlt
        go_wp2_with fail
        go_quiet (fail)
        go_wp2
        exact ⟨⟨i + 2, by omega, by first | rfl | go_num, _, rfl⟩, by simp [intOf]; omega⟩
    · have e : j = l.length := by omega
      subst e
      have K0 := Lib.hid ((Kept.refl No w).drewN k)
      generalize w.drewN k = w0 at *
      have H := Lib.hid (H.out.kept K0.out (fun _ _ h => h))
      go_wp2_with fail
      go_loopw [9, 45] (fun _ i wr => ∃ j : Nat, j ≤ l.length ∧ i = .int .i64 (j : Int) ∧ Kept No w0 wr) (fun _ i _ => l.length - (intOf i).toNat)
      case atStart => exact ⟨0, by omega, rfl, Kept.refl _ _⟩
      case round =>
        obtain ⟨j, hj, rfl, hk⟩ := hrel
        by_cases hjl : j < l.length
        · obtain ⟨r0, r1, r2, r3⟩ := (H.out.kept hk (fun _ _ h => h)).row4 rfl j hjl
          have hb := HF.out.body _ (List.getElem_mem hjl)
          have hsz : (⟨⟨l[j].body⟩⟩ : ByteArray).size = l[j].body.length := rfl
          have HK := Lib.hid hk
          clear hk
          generalize l[j] = p at *
          go_wp2
          exact ⟨⟨j + 1, by omega, rfl, HK.out.alloc _⟩, by simp [intOf]; omega⟩
        · have e : j = l.length := by omega
          subst e
          have HK := Lib.hid hk
          clear hk
          go_wp2
          go_ret
          exact ⟨rfl, K0.out.trans HK.out⟩
theorem dev_method_write (d : Nat) (w : World) : (method 373 24 (.pointer (some ⟨d, 0, none⟩)) "Write").run Tryz.prog w = .ok (214, .pointer (some ⟨d, 0, none⟩)) w := by kernel_rfl
theorem dev_method_read (d : Nat) (w : World) : (method 373 24 (.pointer (some ⟨d, 0, none⟩)) "Read").run Tryz.prog w = .ok (212, .pointer (some ⟨d, 0, none⟩)) w := by kernel_rfl
theorem dev_method_sync (d : Nat) (w : World) : (method 373 24 (.pointer (some ⟨d, 0, none⟩)) "Sync").run Tryz.prog w = .ok (213, .pointer (some ⟨d, 0, none⟩)) w := by kernel_rfl
theorem types_373 : Tryz.prog.types.size + 100 = 373 := by kernel_rfl
structure LayAt (w : World) (eb sb db : Nat) (d : Nat) (err : Int) (serial : Nat) : Prop where
  e : w.heap[eb]? = some (.cells #[.int .i64 err] 29 (0, 0))
  s : w.heap[sb]? = some (.cells #[.int .u64 (serial : Int)] 26 (0, 0))
  d : w.heap[db]? = some (.cells #[dev d] 85 (0, 0))
theorem LayAt.kept {M : Nat → Prop} {w w' : World} {eb sb db d : Nat} {err : Int} {serial : Nat} (h : LayAt w eb sb db d err serial) (k : Kept M w w') (h1 : ¬ M eb) (h2 : ¬ M sb) (h3 : ¬ M db) : LayAt w' eb sb db d err serial := ⟨k.heap h.e h1, k.heap h.s h2, k.heap h.d h3⟩
theorem LayAt.foot {w : World} {eb sb db d : Nat} {err : Int} {serial : Nat} {x : DiskH} {m : DiskM} (h : LayAt w eb sb db d err serial) (hx : DiskAt w x m) : ¬ x.foot eb ∧ ¬ x.foot sb ∧ ¬ x.foot db := by
  have key : ∀ (k : Nat) (cs : Array Value) (t : TypeId), w.heap[k]? = some (.cells cs t (0, 0)) → t ≠ 122 → t ≠ 129 → t ≠ 127 → ¬ x.foot k := by
    intro k cs t hk h1 h2 h3 hf
    rcases hf with e | e | e | e | e
    · subst e; exact cells_ne hk hx.head h1 rfl
    · subst e; exact cells_ne hk hx.lies h2 rfl
    · subst e
      obtain ⟨D, hD⟩ := hx.last
      obtain ⟨es, c, hb, _⟩ := hD.own
      exact map_ne hk hb rfl
    · obtain ⟨cs', hc⟩ := row_cells hx.row e
      exact cells_ne hk hc h3 rfl
    · obtain ⟨cs', hc⟩ := hx.pend.page k e
      exact cells_ne hk hc h2 rfl
  exact ⟨key _ _ _ h.e (by decide) (by decide) (by decide), key _ _ _ h.s (by decide) (by decide) (by decide), key _ _ _ h.d (by decide) (by decide) (by decide)⟩
set_option maxHeartbeats 2000000 in
theorem lay_ok (eb sb db : Nat) (x : DiskH) (m : DiskM) (err : Int) (serial n : Nat) (kind : UInt8) (body : List UInt8) (w : World) (h : LayAt w eb sb db x.d err serial) (hx : DiskAt w x m)
    (hn : n < 4294967296) (hb : body.length ≤ 996) (hs : serial ≤ 4611686018427387904) (hp : m.pend.length < 1000000) :
    Calls Tryz.prog 94 #[.int .i64 (n : Int), .int .u8 (kind.toNat : Int), .string ⟨⟨body⟩⟩, .pointer (some ⟨eb, 0, none⟩), .pointer (some ⟨sb, 0, none⟩), .pointer (some ⟨db, 0, none⟩)] w fun e w' => ∃ x' : DiskH,
      e = .returned (.tuple #[]) ∧ Kept (fun k => k = eb ∨ x.foot k) w w' ∧ LayAt w' eb sb db x'.d (layM serial (m, err) n kind body).2 serial ∧ DiskAt w' x' (layM serial (m, err) n kind body).1 ∧ x'.d = x.d ∧ ∀ g, x'.foot g → x.foot g ∨ w.heap.size ≤ g := by
  obtain ⟨f1, f2, f3⟩ := h.foot hx
  have e0 := (cell_of_row w eb 0 _ _ _ h.e).trans rfl
  have s0 := (cell_of_row w sb 0 _ _ _ h.s).trans rfl
  have d0 := (cell_of_row w db 0 _ _ _ h.d).trans rfl
  have g0 := frozen_of_row w eb 0 _ _ h.e
  have H := Lib.hid h
  have HX := Lib.hid hx
  have hlt := lt_of_heap h.e
  clear h hx
  by_cases he : err = 0
  · subst he
    rw [show layM serial (m, 0) n kind body = m.write (n : Int) (encode (sumOn 0) ⟨kind, n, serial, body⟩) from by
      unfold layM enc
      rw [if_neg (by simp), if_neg (by omega)]]
    have hw32 : IntKind.u32.wrap (n : Int) = (n : Int) := by rw [IntKind.wrap_u32]; omega
    go_enter Tryz.func94, Tryz.ntmps94
    have hts := types_373
    have hmt : ∀ w, (method 373 24 (.pointer (some ⟨x.d, 0, none⟩)) "Write").run Tryz.prog w = .ok (214, .pointer (some ⟨x.d, 0, none⟩)) w := fun w => dev_method_write x.d w
    have hcf : ∀ w b, (callFunc 214 #[.pointer (some ⟨x.d, 0, none⟩), .int .i64 (n : Int), .slice (some ⟨b, 0, none⟩) 1024 1024]).run Tryz.prog w = .ok (.enter 214 #[.pointer (some ⟨x.d, 0, none⟩), .int .i64 (n : Int), .slice (some ⟨b, 0, none⟩) 1024 1024]) w := fun w b => by kernel_rfl
    have hne : db ≠ eb := cells_ne H.out.d H.out.e (by decide)
    have hne' : eb ≠ db := Ne.symm hne
    go_wp2_with fail
    refine (encode_ok ⟨kind, n, serial, body⟩ w hs hb hn).mono ?_
    rintro e w1 ⟨b, rfl, k1, hbw, R1⟩
    have HB := Lib.hid (BytesAt.mk R1 (encode_length (sumOn 0) ⟨kind, n, serial, body⟩ hb))
    have K1 := Lib.hid k1
    have h1 := H.out.kept k1 (fun h => h) (fun h => h) (fun h => h)
    have e1 := (cell_of_row w1 eb 0 _ _ _ h1.e).trans rfl
    have d1 := (cell_of_row w1 db 0 _ _ _ h1.d).trans rfl
    have g1 := frozen_of_row w1 eb 0 _ _ h1.e
    have hbe : b ≠ eb := by omega
    have k2 : Kept (fun k => k = eb) w (w1.setCell ⟨eb, 0, none⟩ (.int .i64 0)) := (k1.of_no _).setCell _ _ (fun _ => rfl)
    have kk2 : Kept (fun k => k = eb) w1 (w1.setCell ⟨eb, 0, none⟩ (.int .i64 0)) := (Kept.refl _ _).setCell _ _ (fun _ => rfl)
    have hx2 := Lib.hid (HX.out.kept k2 (fun g hg e => f1 (e ▸ hg)))
    have hB2 := Lib.hid (HB.out.kept kk2 hbe)
    have h2 : LayAt (w1.setCell ⟨eb, 0, none⟩ (.int .i64 0)) eb sb db x.d 0 serial := ⟨heap_setCell_same _ eb 0 _ _ _ h1.e, kk2.heap h1.s (cells_ne h1.s h1.e (by decide)), kk2.heap h1.d hne⟩
    have H2 := Lib.hid h2
    have K2 := Lib.hid k2
    have hbf : ¬ x.foot b := fun hf => by have := HX.out.foot_lt hf; omega
    clear e0 s0 d0 g0 R1 k1 h1 k2 kk2 h2
    go_wp2_with fail
    refine (dwrite_any x m n b _ _ hx2.out hB2.out hbf hp).mono ?_
    rintro e w3 ⟨x', rfl, k3, hx3, hd3, hf3⟩
    have h3 := H2.out.kept k3 f1 f2 f3
    have e3 := (cell_of_row w3 eb 0 _ _ _ h3.e).trans rfl
    have g3 := frozen_of_row w3 eb 0 _ _ h3.e
    have H3 := Lib.hid h3
    have HX3 := Lib.hid hx3
    have K3 := Lib.hid k3
    clear e1 d1 g1 h3 hx3 k3
    generalize hmm : m.write (n : Int) (encode (sumOn 0) ⟨kind, n, serial, body⟩) = mm at *
    go_wp2
    go_end0
    rw [hmm]
    have k4 : Kept (fun k => k = eb) w3 (w3.setCell ⟨eb, 0, none⟩ (.int .i64 mm.2)) := (Kept.refl _ _).setCell _ _ (fun _ => rfl)
    have hf4 : ∀ g, x'.foot g → g ≠ eb := fun g hg e => by
      subst e
      rcases hf3 _ hg with h | h
      · exact f1 h
      · simp at h
        have := K1.out.size
        omega
    refine ⟨x', rfl, ((K2.out.mono (N := fun k => k = eb ∨ x.foot k) (fun _ _ e => .inl e)).next K3.out (fun _ _ e => .inr e)).next k4 (fun _ _ e => .inl e), ⟨heap_setCell_same _ eb 0 _ _ _ H3.out.e, k4.heap H3.out.s (cells_ne H3.out.s H3.out.e (by decide)), by rw [hd3]; exact k4.heap H3.out.d hne⟩, HX3.out.kept k4 hf4, hd3, fun g hg => ?_⟩
    rcases hf3 _ hg with h | h
    · exact .inl h
    · right
      simp at h
      have := K1.out.size
      omega
  · have heb : (err != 0) = true := by simpa using he
    rw [show layM serial (m, err) n kind body = (m, err) from by unfold layM; rw [if_pos he]]
    go_enter Tryz.func94, Tryz.ntmps94
    go_wp2
    (try simp only [Exit.inBlock, Exit.then])
    refine bodyPost_ret (results_none rfl _ _ _) rfl ?_
    exact ⟨x, rfl, Kept.refl _ _, H.out, HX.out, rfl, fun g hg => .inl hg⟩
theorem layM_pend (serial : Nat) (x : DiskM × Int) (n : Nat) (kind : UInt8) (body : List UInt8) : (layM serial x n kind body).1.pend.length ≤ x.1.pend.length + 1 := by
  unfold layM
  split
  · omega
  · split
    · simp
    · unfold DiskM.write
      have hp : x.1.act.1.pend = x.1.pend := by
        unfold DiskM.act
        split
        · split <;> rfl
        · rfl
      split
      · simp
      · split
        · simp
        · split
          · rw [hp]; omega
          · simp [hp]
theorem laysM_snoc (first serial : Nat) (x : DiskM × Int) (p : PageV) : ∀ (l : List PageV) (i : Nat) , laysM first serial i (l ++ [p]) x = layM serial (laysM first serial i l x) (first + 1 + (i + l.length)) 67 p.body := by
  intro l
  induction l generalizing x with
  | nil => intro i; simp [laysM]
  | cons q l ih =>
    intro i
    rw [List.cons_append, laysM, laysM, ih]
    simp [Nat.add_assoc, Nat.add_comm 1]
theorem heads_snoc (n : Nat) (l : List PageV) (p : PageV) : leb n ++ (l ++ [p]).flatMap (fun p => p.kind :: be p.number 4) = (leb n ++ l.flatMap fun p => p.kind :: be p.number 4) ++ (p.kind :: be p.number 4) := by simp
theorem heads_len (l : List PageV) : (l.flatMap fun p => p.kind :: be p.number 4).length = 5 * l.length := by
  induction l with
  | nil => rfl
  | cons p l ih => rw [List.flatMap_cons, List.length_append, ih]; simp [be_length]; omega
abbrev WrM (p : Nat) (v : Value) : Nat → Prop := fun j => j = p ∨ v.ownBlock = some j
abbrev WrNew (w : World) (v v' : Value) : Prop := ∀ g, v'.ownBlock = some g → v.ownBlock = some g ∨ w.heap.size ≤ g
theorem appendedF {W w1 : World} {n₁ B : Nat} {t e : TypeId} {size : Nat} {v v' : Value} {k m : Nat} {xs ys : List Value} {tmp : Obj}
    (hv : Boxed W B t v) (hte : t ≠ e) (hrow : W.ownsRow n₁ e size v k xs) (hB : n₁ ≤ B)
    (hown' : w1.ownsRow n₁ e size v' m ys) (hgrow : (W.alloc tmp).grownBy w1 v.ownBlock) :
    Boxed w1 B t v ∧ Boxed (w1.setCell ⟨B, 0, none⟩ v') B t v' ∧ (w1.setCell ⟨B, 0, none⟩ v').ownsRow n₁ e size v' m ys ∧ Kept (WrM B v) W (w1.setCell ⟨B, 0, none⟩ v') := by
  obtain ⟨a, b, c, _⟩ := appendedW hv hte hrow hB hown' hgrow
  refine ⟨a, b, c, ?_⟩
  have h1 : Kept (WrM B v) W (W.alloc tmp) := (Kept.refl _ _).alloc _
  have h2 : Kept (WrM B v) W w1 := h1.next (Kept.of_grown hgrow) fun j _ e => .inr e
  exact h2.setCell _ _ fun _ => .inl rfl
theorem Kept.wr {w a b : World} {p : Nat} {v v' : Value} (h : Kept (WrM p v) w a) (hn : WrNew w v v') (k : Kept (WrM p v') a b) : Kept (WrM p v) w b :=
  h.next k fun j hj e => by
    rcases e with e | e
    · exact .inl e
    · rcases hn j e with h | h
      · exact .inr h
      · omega
theorem WrNew.trans {w a : World} {v v' v'' : Value} (h : WrNew w v v') (hs : w.heap.size ≤ a.heap.size) (k : WrNew a v' v'') : WrNew w v v'' := fun g hg => by
  rcases k g hg with h1 | h1
  · exact h g h1
  · exact .inr (by omega)
set_option maxRecDepth 20000 in
theorem byteF (p : Nat) (v : Value) (l : List UInt8) (b : UInt8) (w : World) (h : WrAt 0 w p v l) (hl : l.length < 140737488355327) :
    Calls Tryz.prog 97 #[.pointer (some ⟨p, 0, none⟩), .int .u8 (b.toNat : Int)] w fun e w' => ∃ v', e = .returned (.tuple #[]) ∧ Kept (WrM p v) w w' ∧ WrAt 0 w' p v' (l ++ [b]) ∧ WrNew w v v' := by
  obtain ⟨i0, hi, hz0, hz1, hz2⟩ := info_parts Tryz.infoU8
  have hc := h.head.cell
  have hlt := h.lt
  have HL := Lib.hid hl
  have H := Lib.hid h
  clear hl h
  go_enter Tryz.func97, Tryz.ntmps97
  go_wp2_with (at_builtin; refine wpList_append_own_at _ rfl _ _ 104 rfl 0 5 i0 (.int .u8 0) 1 1 Tryz.underlying104 hi hz0 hz1 hz2 rfl (by decide) _ _ _ rfl (H.out.row.alloc _) ⟨w.heap.size, 0, none⟩ 1 1 [.int .u8 (b.toNat : Int)] rfl rfl (cell_one_new _ _ _) (by simp [Value.oneCell']) (by have := HL.out; unfold maxLen; omega) (by have := HL.out; omega) (by omega) ?_; intro v' w1 hown' hgrow _ hloc; obtain ⟨g', cap', rfl⟩ := ownsRow_succ hown'; obtain ⟨hv1, hv2, hr2, hk2⟩ := appendedF H.out.head (by decide) H.out.row H.out.from_ hown' hgrow; have hc1 := hv1.cell; have hf1 := hv1.frozen)
  go_end0
  refine ⟨_, rfl, hk2, ⟨hv2, by simpa [byteVals] using hr2, H.out.from_⟩, fun g hg => ?_⟩
  rcases hloc with e | e
  · exact .inl (e ▸ hg)
  · have := hg.symm.trans e
    simp at this
    right; omega
set_option maxRecDepth 20000 in
set_option maxHeartbeats 1000000 in
theorem fixedF (p : Nat) (v : Value) (l : List UInt8) (x n : Nat) (w : World) (h : WrAt 0 w p v l) (hx : x < 18446744073709551616) (hn1 : 1 ≤ n) (hn8 : n ≤ 8) (hxn : x < 2 ^ (8 * n)) (hl : l.length < 70368744177664) :
    Calls Tryz.prog 98 #[.pointer (some ⟨p, 0, none⟩), .int .u64 (x : Int), .int .i64 (n : Int)] w fun e w' => ∃ v', e = .returned (.int .i64 0) ∧ Kept (WrM p v) w w' ∧ WrAt 0 w' p v' (l ++ be x n) ∧ WrNew w v v' := by
  obtain ⟨i0, hi, hz0, hz1, hz2⟩ := info_parts Tryz.infoU8
  have HL := Lib.hid hl
  have H := Lib.hid h
  have HX := Lib.hid hxn
  clear hl h hxn
  go_enter Tryz.func98, Tryz.ntmps98
  have hdv : ((x : Int) / 2 ^ (8 * n) != 0) = false := by
    have e : (x : Int) / 2 ^ (8 * n) = ((x / 2 ^ (8 * n) : Nat) : Int) := by simp
    rw [e, Nat.div_eq_of_lt HX.out]; rfl
  rcases Nat.lt_or_ge n 8 with h8 | h8
  all_goals
    go_wp2_with fail
    go_loopw [2] (fun i wr => ∃ j v', j ≤ n ∧ i = .int .i64 ((j : Int) - 1) ∧ Kept (WrM p v) w wr ∧ WrNew w v v' ∧ ∃ pre, WrAt 0 wr p v' (l ++ pre) ∧ pre ++ be x j = be x n) (fun i _ => (intOf i + 1).toNat)
    case atStart => exact ⟨n, v, Nat.le_refl _, by first | rfl | go_num, Kept.refl _ _, fun g hg => .inl hg, [], by rw [List.append_nil]; exact H.out, rfl⟩
    case round =>
      obtain ⟨j, v', hj, rfl, hk, hnew, pre, hw, hpre⟩ := hrel
      cases j with
      | zero =>
        have HW := Lib.hid hw
        have HP := Lib.hid hpre
        have HK := Lib.hid hk
        clear hw hpre hk
        go_wp2
        go_ret
        refine ⟨v', rfl, HK.out, ?_, hnew⟩
        have e := HP.out
        rw [be, List.append_nil] at e
        rw [← e]; exact HW.out
      | succ j =>
        rw [show (((j + 1 : Nat) : Int) - 1) = (j : Int) by omega]
        have hc := hw.head.cell
        have hlt := hw.lt
        have hpl : pre.length + (j + 1) = n := by
          have := congrArg List.length hpre
          rw [List.length_append, be_length, be_length] at this
          exact this
        have HW := Lib.hid hw
        have HP := Lib.hid hpre
        have HK := Lib.hid hk
        have hval : ((x : Int) / 2 ^ (8 * j) % 256) = ((UInt8.ofNat (x / 2 ^ (8 * j) % 256)).toNat : Int) := by
          rw [UInt8.toNat_ofNat']
          simp
        have HV := Lib.hid hval
        clear hw hpre hk hval
        have hj8 : j ≤ 7 := by omega
        have hwr : IntKind.i64.wrap (8 * (j : Int)) = 8 * (j : Int) := by rw [IntKind.wrap_i64]; omega
        have hsf : Op.shift .shr .u64 (x : Int) .i64 (8 * (j : Int)) = pure (.int .u64 ((x : Int) / 2 ^ (8 * j))) := by
          rw [shift_shr_any _ _ _ _ (by omega)]
          have e : min (8 * (j : Int)).toNat IntKind.u64.bits = 8 * j := by
            have : (8 * (j : Int)).toNat = 8 * j := by omega
            rw [this]; show min (8 * j) 64 = 8 * j; omega
          rw [e]
        have HWd : Hid (WrAt 0 wr.drew p v' (l ++ pre)) := ⟨HW.out.head, HW.out.row, HW.out.from_⟩
        go_wp2_with fail
        go_region_law ((refine step_append_lies (wr.drew.alloc (.cells #[.int .u8 ((x : Int) / 2 ^ (8 * j) % 256)] 5)) rfl (.tmp 36) (.tmp 42) 104 rfl 0 5 i0 (.int .u8 0) 1 1 Tryz.underlying104 hi hz0 hz1 hz2 rfl (by decide) v' (l ++ pre).length (byteVals (l ++ pre)) (by simp [Act.eval]) (HWd.out.row.alloc _) ⟨wr.heap.size, 0, none⟩ 1 1 [.int .u8 ((x : Int) / 2 ^ (8 * j) % 256)] (by simp [Act.eval]) rfl (cell_one_new wr.drew _ _) (by simp [Value.oneCell']) (by decide) (by have := HL.out; unfold maxLen; simp; omega) (by have := HL.out; simp; omega) (by omega) _ rfl ?_; intro g cap w1 hown' hgrow hg1 hg2; obtain ⟨hv1, hv2, hr2, hk2⟩ := appendedF (W := wr.drew) HWd.out.head (by decide) HWd.out.row HWd.out.from_ hown' hgrow; have hc1 := hv1.cell; have hf1 := hv1.frozen; have HG := Lib.hid hg1; clear hg1))
        go_wp2
        go_roundw
        case rel =>
          simp only [List.length_append] at hk2 hv2
          refine ⟨j, _, by omega, by go_num, (HK.out.drew).wr hnew hk2, (hnew.trans HK.out.size (fun g0 hg0 => by
            have hg0' : g0 = g := by simp only [Value.ownBlock, Option.some.injEq] at hg0; exact hg0.symm
            subst hg0'
            rcases HG.out with e | e
            · exact .inl e
            · right; rw [e]; simp)), pre ++ [UInt8.ofNat (x / 2 ^ (8 * j) % 256)], ⟨hv2, ?_, HW.out.from_⟩, ?_⟩
          · rw [HV.out] at hr2
            simpa [byteVals, Nat.add_assoc] using hr2
          · rw [List.append_assoc]; exact HP.out
        case measure => first | (simp [intOf]; done) | (simp [intOf]; omega)
        case roundEnd =>
          simp only [List.length_append] at hk2 hv2
          refine ⟨⟨j, _, by omega, rfl, (HK.out.drew).wr hnew hk2, (hnew.trans HK.out.size (fun g0 hg0 => by
            have hg0' : g0 = g := by simp only [Value.ownBlock, Option.some.injEq] at hg0; exact hg0.symm
            subst hg0'
            rcases HG.out with e | e
            · exact .inl e
            · right; rw [e]; simp)), pre ++ [UInt8.ofNat (x / 2 ^ (8 * j) % 256)], ⟨hv2, ?_, HW.out.from_⟩, ?_⟩, by first | (simp [intOf]; done) | (simp [intOf]; omega)⟩
          · rw [HV.out] at hr2
            simpa [byteVals, Nat.add_assoc] using hr2
          · rw [List.append_assoc]; exact HP.out
set_option maxRecDepth 20000 in
set_option maxHeartbeats 1000000 in
theorem uintF (p : Nat) (v : Value) (l : List UInt8) (x : Nat) (w : World) (h : WrAt 0 w p v l) (hx : x < 16384) (hl : l.length < 70368744177664) :
    Calls Tryz.prog 96 #[.pointer (some ⟨p, 0, none⟩), .int .u64 (x : Int)] w fun e w' => ∃ v', e = .returned (.tuple #[]) ∧ Kept (WrM p v) w w' ∧ WrAt 0 w' p v' (l ++ leb x) ∧ WrNew w v v' := by
  obtain ⟨i0, hi, hz0, hz1, hz2⟩ := info_parts Tryz.infoU8
  have HL := Lib.hid hl
  have H := Lib.hid h
  clear hl h
  go_enter Tryz.func96, Tryz.ntmps96
  go_wp2_with fail
  go_loopw [1] (fun i wr => ∃ (y : Nat) (v' : Value) (pre : List UInt8), y ≤ x ∧ i = .int .u64 (y : Int) ∧ Kept (WrM p v) w wr ∧ WrNew w v v' ∧ WrAt 0 wr p v' (l ++ pre) ∧ pre ++ leb y = leb x) (fun i _ => (intOf i).toNat)
  case atStart => exact ⟨x, v, [], Nat.le_refl _, rfl, Kept.refl _ _, fun g hg => .inl hg, by rw [List.append_nil]; exact H.out, rfl⟩
  case round =>
    obtain ⟨y, v', pre, hy, rfl, hk, hnew, hw, hpre⟩ := hrel
    have hc := hw.head.cell
    have hlt := hw.lt
    have hplen : pre.length ≤ 200 := by
      have h1 := congrArg List.length hpre
      rw [List.length_append] at h1
      have h2 := leb_len x
      omega
    have HW := Lib.hid hw
    have HP := Lib.hid hpre
    have HK := Lib.hid hk
    clear hw hpre hk
    by_cases hb : 128 ≤ y
    · obtain ⟨c, hcv⟩ : ∃ c, c = y % 128 + 128 := ⟨_, rfl⟩
      have hor : bits .or .u8 ((y : Int) % 256) 128 = (c : Int) := by
        have := or128 (y % 256) (by omega)
        rw [show (((y % 256 : Nat) : Int)) = (y : Int) % 256 from by omega] at this
        rw [this, hcv]
        congr 1
        omega
      have HC := Lib.hid hcv
      clear hcv
      go_wp2_with (at_builtin; refine wpList_append_own_at _ rfl _ _ 104 rfl 0 5 i0 (.int .u8 0) 1 1 Tryz.underlying104 hi hz0 hz1 hz2 rfl (by decide) _ _ _ rfl (HW.out.row.alloc _) ⟨wr.heap.size, 0, none⟩ 1 1 [.int .u8 (c : Int)] rfl rfl (cell_one_new _ _ _) (by simp [Value.oneCell']) (by have := HL.out; unfold maxLen; simp; omega) (by have := HL.out; simp; omega) (by omega) ?_; intro v1 w1 hown' hgrow _ hloc; obtain ⟨g', cap', rfl⟩ := ownsRow_succ hown'; obtain ⟨hv1, hv2, hr2, hk2⟩ := appendedF HW.out.head (by decide) HW.out.row HW.out.from_ hown' hgrow; have hc1 := hv1.cell; have hf1 := hv1.frozen; have HG := Lib.hid hloc; clear hloc)
      simp only [List.length_append] at hk2 hv2
      refine ⟨⟨y / 128, _, pre ++ [UInt8.ofNat (y % 128 + 128)], by omega, by first | rfl | go_num, HK.out.wr hnew hk2, (hnew.trans HK.out.size (fun g0 hg0 => by
            rcases HG.out with e | e
            · exact .inl (e ▸ hg0)
            · have h1 := hg0.symm.trans e
              simp at h1
              right; omega)), ⟨hv2, ?_, HW.out.from_⟩, ?_⟩, by simp [intOf]; omega⟩
      · have e : (c : Int) = ((UInt8.ofNat (y % 128 + 128)).toNat : Int) := by
          rw [HC.out, UInt8.toNat_ofNat']
          omega
        rw [e] at hr2
        simpa [byteVals, Nat.add_assoc] using hr2
      · rw [List.append_assoc, List.singleton_append, ← leb_big y hb]
        exact HP.out
    · have hsm : y < 128 := by omega
      have hwr : IntKind.u8.wrap (y : Int) = (y : Int) := by rw [IntKind.wrap_u8]; omega
      go_wp2_with (at_builtin; refine wpList_append_own_at _ rfl _ _ 104 rfl 0 5 i0 (.int .u8 0) 1 1 Tryz.underlying104 hi hz0 hz1 hz2 rfl (by decide) _ _ _ rfl (HW.out.row.alloc _) ⟨wr.heap.size, 0, none⟩ 1 1 [.int .u8 (y : Int)] rfl rfl (cell_one_new _ _ _) (by simp [Value.oneCell']) (by have := HL.out; unfold maxLen; simp; omega) (by have := HL.out; simp; omega) (by omega) ?_; intro v1 w1 hown' hgrow _ hloc; obtain ⟨g', cap', rfl⟩ := ownsRow_succ hown'; obtain ⟨hv1, hv2, hr2, hk2⟩ := appendedF HW.out.head (by decide) HW.out.row HW.out.from_ hown' hgrow; have hc1 := hv1.cell; have hf1 := hv1.frozen; have HG := Lib.hid hloc; clear hloc)
      go_end0
      simp only [List.length_append] at hk2 hv2
      refine ⟨_, rfl, HK.out.wr hnew hk2, ⟨hv2, ?_, HW.out.from_⟩, (hnew.trans HK.out.size (fun g0 hg0 => by
            rcases HG.out with e | e
            · exact .inl (e ▸ hg0)
            · have h1 := hg0.symm.trans e
              simp at h1
              right; omega))⟩
      have e : (y : Int) = ((UInt8.ofNat y).toNat : Int) := by
        rw [UInt8.toNat_ofNat']
        omega
      rw [e] at hr2
      rw [← HP.out, leb_small y hsm]
      simpa [byteVals, Nat.add_assoc] using hr2
theorem DiskAt.not_foot {w : World} {x : DiskH} {m : DiskM} (hx : DiskAt w x m) {k : Nat} {cs : Array Value} {t : TypeId} {fr : Nat × Nat} (hk : w.heap[k]? = some (.cells cs t fr)) (h1 : t ≠ 122) (h2 : t ≠ 129) (h3 : t ≠ 127) : ¬ x.foot k := by
  intro hf
  rcases hf with e | e | e | e | e
  · subst e; exact cells_ne hk hx.head h1 rfl
  · subst e; exact cells_ne hk hx.lies h2 rfl
  · subst e
    obtain ⟨D, hD⟩ := hx.last
    obtain ⟨es, c, hb, _⟩ := hD.own
    exact map_ne hk hb rfl
  · obtain ⟨cs', hc⟩ := row_cells hx.row e
    exact cells_ne hk hc h3 rfl
  · obtain ⟨cs', hc⟩ := hx.pend.page k e
    exact cells_ne hk hc h2 rfl
theorem DiskAt.not_row {w : World} {x : DiskH} {m : DiskM} (hx : DiskAt w x m) {b : Nat} {e : TypeId} {z : Nat} {v : Value} {n : Nat} {xs : List Value} (h : w.ownsRow b e z v n xs) (h1 : e ≠ 122) (h2 : e ≠ 129) (h3 : e ≠ 127) : ∀ g, v.ownBlock = some g → ¬ x.foot g := fun g hg => by
  obtain ⟨cs, hc⟩ := row_cells h hg
  exact hx.not_foot hc h1 h2 h3
theorem own_zero' {w : World} {b : Nat} {e : TypeId} {z : Nat} {v : Value} {n : Nat} {xs : List Value} (h : w.ownsRow b e z v n xs) : w.ownsRow 0 e z v n xs :=
  ⟨h.1, h.2.imp id fun ⟨g, cap, cur, h1, _, h3⟩ => ⟨g, cap, cur, h1, Nat.zero_le _, h3⟩⟩
structure PutIn (w wr : World) (x x' : DiskH) (m : DiskM) (eb sb db p : Nat) (serial : Nat) (mm : DiskM × Int) (v' : Value) (bs : List UInt8) (g cap : Nat) (l : List PageV) : Prop where
  lay : LayAt wr eb sb db x'.d mm.2 serial
  disk : DiskAt wr x' mm.1
  wr_ : WrAt 0 wr p v' bs
  same : x'.d = x.d
  foot : ∀ k, x'.foot k → x.foot k ∨ w.heap.size ≤ k
  kept : Kept x.foot w wr
  pages : PagesAt wr (.slice (some ⟨g, 0, none⟩) l.length cap) l
  new : w.heap.size ≤ eb ∧ w.heap.size ≤ p ∧ ∀ k, v'.ownBlock = some k → w.heap.size ≤ k
section
variable {w wr w2 : World} {x x' x2 : DiskH} {m : DiskM} {eb sb db p : Nat} {serial : Nat} {mm mm2 : DiskM × Int} {v' v2 : Value} {bs bs2 : List UInt8} {g cap : Nat} {l : List PageV}
theorem PutIn.no (h : PutIn w wr x x' m eb sb db p serial mm v' bs g cap l) (k : Kept No wr w2) : PutIn w w2 x x' m eb sb db p serial mm v' bs g cap l :=
  ⟨h.lay.kept k (fun h => h) (fun h => h) (fun h => h), h.disk.kept k (fun _ _ h => h), ⟨k.heap h.wr_.head (fun h => h), k.row h.wr_.row (fun _ _ h => h), h.wr_.from_⟩, h.same, h.foot, h.kept.next k (fun _ _ h => h.elim), h.pages.kept k (fun _ _ h => h), h.new⟩
theorem PutIn.layed (h : PutIn w wr x x' m eb sb db p serial mm v' bs g cap l) (k : Kept (fun k => k = eb ∨ x'.foot k) wr w2) (hl : LayAt w2 eb sb db x2.d mm2.2 serial) (hd : DiskAt w2 x2 mm2.1) (hs : x2.d = x'.d)
    (hf : ∀ k, x2.foot k → x'.foot k ∨ wr.heap.size ≤ k) : PutIn w w2 x x2 m eb sb db p serial mm2 v' bs g cap l := by
  refine ⟨hl, hd, ⟨k.heap h.wr_.head ?_, k.row h.wr_.row (fun j hj => ?_), h.wr_.from_⟩, hs.trans h.same, fun j hj => ?_, h.kept.next k (fun j hj e => ?_), h.pages.kept k (fun j hj => ?_), h.new⟩
  · rintro (e | e)
    · exact cells_ne h.wr_.head h.lay.e (by decide) e
    · exact h.disk.not_foot h.wr_.head (by decide) (by decide) (by decide) e
  · rintro (e | e)
    · obtain ⟨cs, hc⟩ := row_cells h.wr_.row hj
      exact cells_ne hc h.lay.e (by decide) e
    · exact h.disk.not_row h.wr_.row (by decide) (by decide) (by decide) j hj e
  · rcases hf j hj with e | e
    · exact h.foot j e
    · have := h.kept.size; right; omega
  · rcases e with rfl | e
    · have := h.new.1; omega
    · rcases h.foot j e with e | e
      · exact e
      · omega
  · rintro (e | e)
    · obtain ⟨cs, hc⟩ := row_cells h.pages.row hj
      exact cells_ne hc h.lay.e (by decide) e
    · exact h.disk.not_row h.pages.row (by decide) (by decide) (by decide) j hj e
theorem PutIn.wrote (h : PutIn w wr x x' m eb sb db p serial mm v' bs g cap l) (k : Kept (WrM p v') wr w2) (hw : WrAt 0 w2 p v2 bs2) (hn : WrNew wr v' v2) : PutIn w w2 x x' m eb sb db p serial mm v2 bs2 g cap l := by
  have hne : ∀ (j : Nat) (cs : Array Value) (t : TypeId), wr.heap[j]? = some (.cells cs t (0, 0)) → t ≠ 208 → t ≠ 5 → ¬ WrM p v' j := by
    intro j cs t hj h1 h2 e
    rcases e with e | e
    · exact cells_ne hj h.wr_.head h1 e
    · obtain ⟨cs', hc⟩ := row_cells h.wr_.row e
      exact cells_ne hj hc h2 rfl
  refine ⟨h.lay.kept k (hne _ _ _ h.lay.e (by decide) (by decide)) (hne _ _ _ h.lay.s (by decide) (by decide)) (hne _ _ _ h.lay.d (by decide) (by decide)), h.disk.kept k (fun j hj e => ?_), hw, h.same, h.foot, h.kept.next k (fun j hj e => ?_), h.pages.kept k (fun j hj => ?_), h.new.1, h.new.2.1, fun j hj => ?_⟩
  · rcases e with e | e
    · exact h.disk.not_foot h.wr_.head (by decide) (by decide) (by decide) (e ▸ hj)
    · exact h.disk.not_row h.wr_.row (by decide) (by decide) (by decide) j e hj
  · rcases e with e | e
    · have := h.new.2.1; omega
    · have := h.new.2.2 j e; omega
  · obtain ⟨cs, hc⟩ := row_cells h.pages.row hj
    exact hne _ _ _ hc (by decide) (by decide)
  · rcases hn j hj with e | e
    · exact h.new.2.2 j e
    · have := h.kept.size; omega
end
theorem pow32 : (2 : Nat) ^ (8 * 4) = 4294967296 := by decide
theorem laysM_pend (first serial : Nat) : ∀ (l : List PageV) (i : Nat) (x : DiskM × Int), (laysM first serial i l x).1.pend.length ≤ x.1.pend.length + l.length
  | [], _, x => by simp [laysM]
  | p :: l, i, x => by
    rw [laysM, List.length_cons]
    have h1 := laysM_pend first serial l (i + 1) (layM serial x (first + 1 + i) 67 p.body)
    have h2 := layM_pend serial x (first + 1 + i) 67 p.body
    omega
theorem rise_pairwise : ∀ (l : List PageV), (∀ i (h : i + 1 < l.length), l[i].number < l[i + 1].number) → (l.map (·.number)).Pairwise (· < ·)
  | [], _ => List.Pairwise.nil
  | [p], _ => by simp
  | p :: q :: l, h => by
    have ih := rise_pairwise (q :: l) (fun i hi => h (i + 1) (by simpa using hi))
    rw [List.map_cons, List.pairwise_cons]
    refine ⟨fun n hn => ?_, ih⟩
    have h0 : p.number < q.number := h 0 (by simp)
    rw [List.map_cons, List.pairwise_cons] at ih
    rw [List.map_cons, List.mem_cons] at hn
    rcases hn with rfl | hn
    · exact h0
    · have := ih.1 n hn
      omega
theorem rightM_ok {count serial : Nat} {l : List PageV} (hf : Fit count l) (h1 : 0 < serial) (h2 : serial ≤ 4611686018427387904) : rightM (count : Int) serial l = 0 := by
  unfold rightM
  have h3 := hf.room
  rw [if_neg (by omega), if_neg (by omega), if_pos (rise_pairwise l hf.rise), if_pos (by
    rw [List.all_eq_true]
    intro p hp
    have := hf.body p hp
    simp [this])]
set_option maxHeartbeats 4000000 in
theorem put_ok2 (x : DiskH) (m : DiskM) (first count serial : Nat) (v : Value) (l : List PageV) (w : World) (hx : DiskAt w x m) (h : PagesAt w v l) (hf : Fit count l) (h1 : 0 < serial) (h2 : serial ≤ 4611686018427387904) (hfc : first + count ≤ m.lies.length) (hc1 : 1 ≤ count)
    (hrc : l.length < count) (hp : m.pend.length < 500000) (hv : ∀ g, v.ownBlock = some g → ¬ x.foot g) :
    Calls Tryz.prog 59 #[dev x.d, .int .i64 (first : Int), .int .i64 (count : Int), .int .u64 (serial : Int), v] w fun e w' => ∃ x' : DiskH,
      e = .returned (.int .i64 (putM m first (count : Int) serial l).2) ∧ Kept x.foot w w' ∧ DiskAt w' x' (putM m first (count : Int) serial l).1 ∧ x'.d = x.d ∧ ∀ g, x'.foot g → x.foot g ∨ w.heap.size ≤ g := by
  have hmost := hx.most
  obtain ⟨g, cap, hvv, -⟩ := h.at hf.some_
  have hlen := h.len
  have hroom := hf.room
  have hr198 : room (count : Int) ≤ 198 := by unfold room; omega
  have hput : putM m first (count : Int) serial l = (if (layM serial (laysM first serial 0 l (m, 0)) first 74 (leb l.length ++ l.flatMap fun p => p.kind :: be p.number 4)).2 ≠ 0 then (layM serial (laysM first serial 0 l (m, 0)) first 74 (leb l.length ++ l.flatMap fun p => p.kind :: be p.number 4)) else (layM serial (laysM first serial 0 l (m, 0)) first 74 (leb l.length ++ l.flatMap fun p => p.kind :: be p.number 4)).1.sync) := by
    unfold putM heads
    rw [rightM_ok hf h1 h2]
  rw [hput]
  generalize hlm : layM serial (laysM first serial 0 l (m, 0)) first 74 (leb l.length ++ l.flatMap fun p => p.kind :: be p.number 4) = lm
  clear hput
  have HLM := Lib.hid hlm
  clear hlm
  have H := Lib.hid h
  have HX := Lib.hid hx
  have HF := Lib.hid hf
  have HV := Lib.hid hv
  clear h hx hf hv
  subst hvv
  go_enter Tryz.func59, Tryz.ntmps59
  go_wp2_with fail
  have k0 : Kept No w ((w.alloc (.cells #[dev x.d] 85)).alloc (.cells #[.int .u64 (serial : Int)] 26)) := ((Kept.refl _ _).alloc _).alloc _
  have hd0 : ((w.alloc (.cells #[dev x.d] 85)).alloc (.cells #[.int .u64 (serial : Int)] 26)).heap[w.heap.size]? = some (.cells #[dev x.d] 85 (0, 0)) := ((Kept.refl No _).alloc _).heap (heap_alloc_new w _) (fun h => h)
  have hs0 : ((w.alloc (.cells #[dev x.d] 85)).alloc (.cells #[.int .u64 (serial : Int)] 26)).heap[w.heap.size + 1]? = some (.cells #[.int .u64 (serial : Int)] 26 (0, 0)) := by
    have := heap_alloc_new (w.alloc (.cells #[dev x.d] 85)) (.cells #[.int .u64 (serial : Int)] 26)
    simpa using this
  generalize (w.alloc (.cells #[dev x.d] 85)).alloc (.cells #[.int .u64 (serial : Int)] 26) = W0 at *
  have HX0 := Lib.hid (HX.out.kept k0 (fun _ _ h => h))
  refine (there_ok x m first count W0 HX0.out hc1 hfc).mono ?_
  rintro e w1 ⟨rfl, k1⟩
  have hd1 := k1.heap hd0 (fun h => h)
  have hs1 := k1.heap hs0 (fun h => h)
  have hs1' := ((Kept.refl No w1).alloc (.cells #[.int .i64 0] 29)).heap hs1 (fun h => h)
  have s0 := (cell_of_row _ (w.heap.size + 1) 0 _ _ _ hs1').trans rfl
  have K1 := Lib.hid (k0.trans k1)
  clear HX0 hd0 hs0 k0 k1
  go_wp2_with fail
  have he2 := heap_alloc_new w1 (.cells #[.int .i64 0] 29)
  have ka : Kept No w1 (w1.alloc (.cells #[.int .i64 0] 29)) := (Kept.refl _ _).alloc _
  have hebs : w.heap.size ≤ w1.heap.size := K1.out.size
  generalize heb : w1.heap.size = eb at *
  have hd2 := ka.heap hd1 (fun h => h)
  have hs2 := ka.heap hs1 (fun h => h)
  have K2 := Lib.hid (K1.out.trans ka)
  clear hd1 hs1 hs1' ka
  generalize w1.alloc (.cells #[.int .i64 0] 29) = w2 at *
  clear heb K1
  refine (right_ok count serial _ l w2 (H.out.kept K2.out (fun _ _ h => h)) HF.out h1 h2 (by omega)).mono ?_
  rintro e w3 ⟨rfl, k3⟩
  have he3 := k3.heap he2 (fun h => h)
  have e0 := (cell_of_row _ eb 0 _ _ _ he3).trans rfl
  have g0 := frozen_of_row w3 eb 0 _ _ he3
  have hL3 : LayAt (w3.setCell ⟨eb, 0, none⟩ (.int .i64 0)) eb (w.heap.size + 1) w.heap.size x.d 0 serial := by
    have hd3 := k3.heap hd2 (fun h => h)
    have hs3 := k3.heap hs2 (fun h => h)
    have k4 : Kept (fun k => k = eb) w3 (w3.setCell ⟨eb, 0, none⟩ (.int .i64 0)) := (Kept.refl _ _).setCell _ _ (fun _ => rfl)
    exact ⟨heap_setCell_same _ eb 0 _ _ _ he3, k4.heap hs3 (cells_ne hs3 he3 (by decide)), k4.heap hd3 (cells_ne hd3 he3 (by decide))⟩
  have HLay := Lib.hid hL3
  have K3 := Lib.hid ((K2.out.trans k3).setCell ⟨eb, 0, none⟩ (.int .i64 0) (fun hk => absurd hk (by simp; omega)))
  clear he2 he3 hd2 hs2 hL3 s0 k3 K2
  go_wp2_with fail
  generalize w3.setCell ⟨eb, 0, none⟩ (.int .i64 0) = w4 at *
  refine (newWriter_ok w4).mono ?_
  rintro e w5 ⟨p, v0, rfl, k5, hw5⟩
  have hwr5 : WrAt 0 w5 p v0 [] := ⟨hw5.head, own_zero' hw5.row, Nat.zero_le _⟩
  have hp5 := hw5.from_
  have hv5 : ∀ k, v0.ownBlock = some k → w4.heap.size ≤ k := fun k hk => (hw5.row.lt k hk).1
  have HLay := Lib.hid (HLay.out.kept k5 (fun h => h) (fun h => h) (fun h => h))
  have h45 := K3.out.size
  have K5 := Lib.hid (K3.out.trans k5)
  clear K3 k5 hw5 e0 g0
  go_wp2_with fail
  have hll : leb l.length = leb l.length := rfl
  refine (uintF p v0 [] l.length w5 hwr5 (by omega) (by simp)).mono ?_
  rintro e w6 ⟨v1, rfl, k6, hw6, hn6⟩
  have hx6 := HX.out.kept K5.out (fun _ _ h => h)
  have hin : PutIn w w6 x x m eb (w.heap.size + 1) w.heap.size p serial (m, 0) v1 (leb l.length) g cap l := by
    have hk6 : ∀ k, WrM p v0 k → w.heap.size ≤ k := fun k e => by
      rcases e with rfl | e
      · omega
      · have := hv5 k e; omega
    have hlt := HLay.out
    refine ⟨HLay.out.kept k6 ?_ ?_ ?_, hx6.kept k6 (fun j hj e => ?_), by simpa using hw6, rfl, fun k hk => .inl hk, (K5.out.of_no _).next k6 (fun k hk e => absurd hk (by have := hk6 k e; omega)), H.out.kept ((K5.out.of_no (fun k => w.heap.size ≤ k)).next k6 (fun k hk e => hk6 k e)) (fun k hk e => ?_), hebs, by omega, fun k hk => ?_⟩
    · rintro (e | e)
      · exact cells_ne HLay.out.e hwr5.head (by decide) e
      · obtain ⟨cs, hc⟩ := row_cells hwr5.row e
        exact cells_ne HLay.out.e hc (by decide) rfl
    · rintro (e | e)
      · exact cells_ne HLay.out.s hwr5.head (by decide) e
      · obtain ⟨cs, hc⟩ := row_cells hwr5.row e
        exact cells_ne HLay.out.s hc (by decide) rfl
    · rintro (e | e)
      · exact cells_ne HLay.out.d hwr5.head (by decide) e
      · obtain ⟨cs, hc⟩ := row_cells hwr5.row e
        exact cells_ne HLay.out.d hc (by decide) rfl
    · have := hk6 j e
      have := HX.out.foot_lt hj
      omega
    · have := (H.out.row.lt k hk).2
      omega
    · rcases hn6 k hk with h | h
      · have := hv5 k h; omega
      · have := K5.out.size; omega
  have HIN := Lib.hid hin
  clear hin hx6 k6 hw6 hn6 hwr5 hp5 hv5 HLay K5
  go_wp2_with fail
  go_loopw [35] (fun i wr => ∃ (j : Nat) (x' : DiskH) (v' : Value), j ≤ l.length ∧ i = .int .i64 (j : Int) ∧ PutIn w wr x x' m eb (w.heap.size + 1) w.heap.size p serial (laysM first serial 0 (l.take j) (m, 0)) v' (leb l.length ++ (l.take j).flatMap (fun p => p.kind :: be p.number 4)) g cap l) (fun i _ => l.length - (intOf i).toNat)
  case atStart => exact ⟨0, x, v1, by omega, rfl, by simpa [laysM] using HIN.out⟩
  case round =>
    obtain ⟨j, x', v', hj, rfl, hin⟩ := hrel
    by_cases hjl : j < l.length
    · obtain ⟨r0, r1, r2, r3⟩ := hin.pages.row4 rfl j hjl
      have hok := hin.pages.ok _ (List.getElem_mem hjl)
      have hb := HF.out.body _ (List.getElem_mem hjl)
      have hpend : (laysM first serial 0 (l.take j) (m, 0)).1.pend.length ≤ m.pend.length + j := by
        have h3 := laysM_pend first serial (l.take j) 0 (m, 0)
        rw [List.length_take, Nat.min_eq_left (by omega)] at h3
        exact h3
      have hstep := laysM_snoc first serial (m, 0) l[j] (l.take j) 0
      rw [← List.take_succ_eq_append_getElem hjl, List.length_take, Nat.min_eq_left (by omega), Nat.zero_add] at hstep
      have hheads : leb l.length ++ (l.take (j + 1)).flatMap (fun p => p.kind :: be p.number 4) = (leb l.length ++ (l.take j).flatMap fun p => p.kind :: be p.number 4) ++ (l[j].kind :: be l[j].number 4) := by
        rw [List.take_succ_eq_append_getElem hjl, heads_snoc]
      have hbl : (leb l.length ++ (l.take j).flatMap fun p => p.kind :: be p.number 4).length ≤ 2000 := by
        rw [List.length_append, heads_len, List.length_take]
        have := leb_len l.length
        omega
      generalize hmm : laysM first serial 0 (l.take j) (m, 0) = mm at *
      generalize hbs : leb l.length ++ (l.take j).flatMap (fun p => p.kind :: be p.number 4) = bs at *
      generalize hpg : l[j] = pg at *
      have HIN := Lib.hid hin
      clear hin
      go_wp2_with fail
      rw [show ((first : Int) + 1 + (j : Int)) = ((first + 1 + j : Nat) : Int) from by omega]
      have ka : Kept No wr (wr.alloc (.cells #[.int .u8 (pg.kind.toNat : Int), .int .u32 (pg.number : Int), .int .u64 (pg.serial : Int), .string ⟨⟨pg.body⟩⟩] 28)) := (Kept.refl _ _).alloc _
      have hq := heap_alloc_new wr (.cells #[.int .u8 (pg.kind.toNat : Int), .int .u32 (pg.number : Int), .int .u64 (pg.serial : Int), .string ⟨⟨pg.body⟩⟩] 28)
      have H2 := Lib.hid (HIN.out.no ka)
      clear HIN ka r0 r1 r2 r3
      generalize wr.alloc (.cells #[.int .u8 (pg.kind.toNat : Int), .int .u32 (pg.number : Int), .int .u64 (pg.serial : Int), .string ⟨⟨pg.body⟩⟩] 28) = wa at *
      refine (lay_ok eb (w.heap.size + 1) w.heap.size x' mm.1 mm.2 serial (first + 1 + j) 67 pg.body wa H2.out.lay H2.out.disk (by omega) hb h2 (by omega)).mono ?_
      rintro e w8 ⟨x2, rfl, k8, hl8, hd8, hs8, hf8⟩
      have hq8 := k8.heap hq (by
        rintro (e | e)
        · exact cells_ne hq H2.out.lay.e (by decide) e
        · exact H2.out.disk.not_foot hq (by decide) (by decide) (by decide) e)
      have H3 := Lib.hid (H2.out.layed (mm2 := layM serial mm (first + 1 + j) 67 pg.body) k8 hl8 hd8 hs8 hf8)
      have q0 := (cell_of_row w8 wr.heap.size 0 _ _ _ hq8).trans rfl
      clear H2 k8 hl8 hd8 hs8 hf8 hq
      go_wp2_with fail
      refine (byteF p v' bs pg.kind w8 H3.out.wr_ (by omega)).mono ?_
      rintro e w9 ⟨v2, rfl, k9, hw9, hn9⟩
      have hq9 := k9.heap hq8 (by
        rintro (e | e)
        · exact cells_ne hq8 H3.out.wr_.head (by decide) e
        · obtain ⟨cs, hc⟩ := row_cells H3.out.wr_.row e
          exact cells_ne hq8 hc (by decide) rfl)
      have H4 := Lib.hid (H3.out.wrote k9 hw9 hn9)
      have q1 := (cell_of_row w9 wr.heap.size 1 _ _ _ hq9).trans rfl
      clear H3 k9 hw9 hn9 q0 hq8
      have hok2 := hok.number
      go_wp2_with fail
      refine (fixedF p v2 _ pg.number 4 w9 H4.out.wr_ (by omega) (by decide) (by decide) (by rw [pow32]; exact hok2) (by rw [List.length_append]; simp only [List.length_singleton]; omega)).mono ?_
      rintro e w10 ⟨v3, rfl, k10, hw10, hn10⟩
      have H5 := Lib.hid (H4.out.wrote k10 hw10 hn10)
      clear H4 k10 hw10 hn10 q1 hq9
      go_wp2_with fail
      go_roundw
      case rel =>
        refine ⟨j + 1, x2, v3, by omega, by first | rfl | go_num, ?_⟩
        rw [hstep, hheads]
        have := H5.out
        rw [List.append_assoc] at this
        exact this
      case measure => simp [intOf]; omega
    · have e : j = l.length := by omega
      subst e
      rw [List.take_length] at hin
      have hpend := laysM_pend first serial l 0 (m, 0)
      have hbl : (leb l.length ++ l.flatMap fun p => p.kind :: be p.number 4).length ≤ 996 := by
        rw [List.length_append, heads_len]
        have := leb_len l.length
        omega
      have hlm := HLM.out
      generalize hmm : laysM first serial 0 l (m, 0) = mm at *
      generalize hbs : leb l.length ++ l.flatMap (fun p => p.kind :: be p.number 4) = bs at *
      have HIN := Lib.hid hin
      clear hin
      go_wp2_with fail
      refine (wtold_ok 0 p v' bs wr HIN.out.wr_ (by omega)).mono ?_
      rintro e w7 ⟨rfl, rfl⟩
      go_wp2_with fail
      refine (lay_ok eb (w.heap.size + 1) w.heap.size x' mm.1 mm.2 serial first 74 bs wr HIN.out.lay HIN.out.disk (by omega) hbl h2 (by omega)).mono ?_
      rintro e w8 ⟨x2, rfl, k8, hl8, hd8, hs8, hf8⟩
      have H3 := Lib.hid (HIN.out.layed (mm2 := layM serial mm first 74 bs) k8 hl8 hd8 hs8 hf8)
      clear HIN k8 hl8 hd8 hs8 hf8
      have e0 := (cell_of_row w8 eb 0 _ _ _ H3.out.lay.e).trans rfl
      have g0 := frozen_of_row w8 eb 0 _ _ H3.out.lay.e
      have d0 := (cell_of_row w8 w.heap.size 0 _ _ _ H3.out.lay.d).trans rfl
      rw [show layM serial mm first 74 bs = lm from hlm] at H3 e0
      by_cases hz : lm.2 = 0
      · rw [hz] at e0
        have hzz := H3.out.lay.e
        have hts := types_373
        have hmt : ∀ w, (method 373 24 (.pointer (some ⟨x2.d, 0, none⟩)) "Sync").run Tryz.prog w = .ok (213, .pointer (some ⟨x2.d, 0, none⟩)) w := fun w => dev_method_sync x2.d w
        have hcf : ∀ w, (callFunc 213 #[.pointer (some ⟨x2.d, 0, none⟩)]).run Tryz.prog w = .ok (.enter 213 #[.pointer (some ⟨x2.d, 0, none⟩)]) w := fun w => by kernel_rfl
        go_wp2_with fail
        refine (dsync_any x2 lm.1 w8 H3.out.disk).mono ?_
        rintro e w9 ⟨x3, rfl, k9, hx9, hs9, hf9⟩
        have hl9 := H3.out.lay.kept k9 (H3.out.disk.not_foot H3.out.lay.e (by decide) (by decide) (by decide)) (H3.out.disk.not_foot H3.out.lay.s (by decide) (by decide) (by decide)) (H3.out.disk.not_foot H3.out.lay.d (by decide) (by decide) (by decide))
        have e9 := (cell_of_row w9 eb 0 _ _ _ hl9.e).trans rfl
        have g9 := frozen_of_row w9 eb 0 _ _ hl9.e
        have HX9 := Lib.hid hx9
        have HE9 := Lib.hid hl9.e
        have K9 := Lib.hid (H3.out.kept.next k9 (fun k hk e => by
          rcases H3.out.foot k e with e | e
          · exact e
          · omega))
        clear hx9 hl9 k9 e0 g0 d0
        generalize hsy : lm.1.sync = sy at *
        go_wp2
        go_ret
        have hebw := H3.out.new.1
        have k10 : Kept (fun k => k = eb) w9 (w9.setCell ⟨eb, 0, none⟩ (.int .i64 sy.2)) := (Kept.refl _ _).setCell _ _ (fun _ => rfl)
        refine ⟨rfl, K9.out.setCell _ _ (fun hk => absurd hk (by simp; omega)), x3, HX9.out.kept k10 (fun k hk e => HX9.out.not_foot HE9.out (by decide) (by decide) (by decide) (e ▸ hk)), hs9.trans H3.out.same, fun k hk => H3.out.foot k (hf9 k hk)⟩
      · have hzb : (lm.2 == 0) = false := by simpa using hz
        go_wp2_with fail
        go_ret
        exact ⟨rfl, H3.out.kept, x2, H3.out.disk, H3.out.same, H3.out.foot⟩
structure LiesAt (w : World) (v : Value) (bl : List Nat) (ls : List (List UInt8)) : Prop where
  row : w.ownsRow 0 104 1 v ls.length (bl.map pageSlice)
  len : bl.length = ls.length
  page : ∀ i (h : i < ls.length) (h' : i < bl.length), BytesAt w bl[i] ls[i]
  most : ls.length ≤ 65536
theorem LiesAt.kept {M : Nat → Prop} {w w' : World} {v : Value} {bl : List Nat} {ls : List (List UInt8)} (h : LiesAt w v bl ls) (k : Kept M w w') (h1 : ∀ g, v.ownBlock = some g → ¬ M g) (h2 : ∀ g ∈ bl, ¬ M g) : LiesAt w' v bl ls :=
  ⟨k.row h.row h1, h.len, fun i hi hi' => (h.page i hi hi').kept k (h2 _ (List.getElem_mem hi')), h.most⟩
theorem LiesAt.at {w : World} {v : Value} {bl : List Nat} {ls : List (List UInt8)} (h : LiesAt w v bl ls) (h0 : 0 < ls.length) : ∃ g cap, v = .slice (some ⟨g, 0, none⟩) ls.length cap ∧ ∀ i (hi : i < ls.length) (hi' : i < bl.length), w.cell? ⟨g, i, none⟩ = some (pageSlice bl[i]) := by
  rcases h.row.2 with ⟨_, h2⟩ | ⟨g, cap, cur, hv, hb, hg, hc, hn, hs, ht⟩
  · omega
  · refine ⟨g, cap, hv, fun i hi hi' => ?_⟩
    have : (bl.map pageSlice)[i]? = some (pageSlice bl[i]) := by simp [hi']
    rw [cell_of_row w g _ _ _ _ hg, ← this, ← ht, ← Array.getElem?_toList, List.getElem?_take, if_pos (by omega)]
theorem unleb_most (l : List UInt8) (most : Nat) : ∀ f i v x, unleb l most f i v = .ok x → x.1 ≤ most
  | 0, i, v, x, h => by simp [unleb] at h
  | f + 1, i, v, x, h => by
    unfold unleb at h
    cases hl : l[i]? with
    | none => rw [hl] at h; cases h
    | some c =>
      rw [hl] at h
      simp only at h
      split at h
      · cases h
      · split at h
        · exact unleb_most l most f _ _ x h
        · split at h
          · cases h
          · rename_i h3
            cases h
            simp only
            have : ¬ (most < v + c.toNat % 128 * 2 ^ (7 * i)) := fun h4 => h3 (.inr h4)
            omega
theorem uint_most (r : Rd) (most : Nat) : (r.uint most).2 ≤ most := by
  unfold Rd.uint
  split
  · exact Nat.zero_le _
  · cases h : unleb (r.s.drop r.pos) most 10 0 0 with
    | error e => exact Nat.zero_le _
    | ok x => exact unleb_most _ _ _ _ _ x h
theorem dec_err {b : List UInt8} {n : Nat} {e : Int} (h : dec b n = .error e) : e ≠ 0 := by
  unfold dec decode at h
  split at h
  · cases h; decide
  · split at h
    · cases h; decide
    · simp only at h
      split at h
      · cases h; decide
      · split at h
        · cases h; decide
        · split at h
          · cases h; decide
          · cases h
theorem dec_ok {b : List UInt8} {n : Nat} {p : PageV} (h : dec b n = .ok p) : p.number = n ∧ p.serial ≤ 4611686018427387904 ∧ p.body.length ≤ 996 := by
  unfold dec decode at h
  split at h
  · cases h
  · split at h
    · cases h
    · simp only at h
      split at h
      · cases h
      · split at h
        · cases h
        · split at h
          · cases h
          · cases h
            rename_i h1 h2 h3
            refine ⟨rfl, by simp only; omega, ?_⟩
            simp only [List.length_take]
            omega
def BatchOut (w w' : World) (ls : List (List UInt8)) (first : Nat) (s : Nat) (v' : Value) (ok : Bool) : Prop :=
  match batchM ls first with
  | some (s', l) => s = s' ∧ ok = true ∧ PagesAt w' v' l ∧ (∀ g, v'.ownBlock = some g → w.heap.size ≤ g) ∧ s' ≤ 4611686018427387904
  | none => ok = false
theorem LiesAt.get {w : World} {v : Value} {bl : List Nat} {ls : List (List UInt8)} (h : LiesAt w v bl ls) {g cap : Nat} (hv : v = .slice (some ⟨g, 0, none⟩) ls.length cap) (i : Nat) (hi : i < ls.length) : ∃ b, w.cell? ⟨g, i, none⟩ = some (pageSlice b) ∧ BytesAt w b ls[i] ∧ b ∈ bl := by
  obtain ⟨g', cap', hv', hc⟩ := h.at (by omega)
  rw [hv] at hv'
  cases hv'
  exact ⟨bl[i]'(by rw [h.len]; exact hi), hc i hi _, h.page i hi _, List.getElem_mem _⟩
theorem decode_err (b : Nat) (l : List UInt8) (number : Nat) (w : World) (h : BytesAt w b l) (hn : number < 4294967296) (e0 : Int) (he : dec l number = .error e0) :
    Calls Tryz.prog 51 #[pageSlice b, .int .u32 (number : Int)] w fun e w' => e = .returned (.tuple #[.agg #[.int .u8 0, .int .u32 0, .int .u64 0, .string ByteArray.empty], .int .i64 e0]) ∧ Kept No w w' := by
  have := decode_ok b l number w h hn
  rw [he] at this
  exact this
theorem decode_got (b : Nat) (l : List UInt8) (number : Nat) (w : World) (h : BytesAt w b l) (hn : number < 4294967296) (p : PageV) (he : dec l number = .ok p) :
    Calls Tryz.prog 51 #[pageSlice b, .int .u32 (number : Int)] w fun e w' => e = .returned (.tuple #[.agg #[.int .u8 (p.kind.toNat : Int), .int .u32 (p.number : Int), .int .u64 (p.serial : Int), .string ⟨⟨p.body⟩⟩], .int .i64 0]) ∧ Kept No w w' := by
  have := decode_ok b l number w h hn
  rw [he] at this
  exact this
set_option maxHeartbeats 4000000 in
theorem batch_err (v : Value) (bl : List Nat) (ls : List (List UInt8)) (first : Nat) (w : World) (h : LiesAt w v bl ls) (h0 : 0 < ls.length) (hf : first < 4294967296) (e0 : Int) (he : dec ls[0] first = .error e0) :
    Calls Tryz.prog 77 #[v, .int .i64 (first : Int)] w fun e w' => ∃ s v', e = .returned (.tuple #[.int .u64 s, v', .bool false]) ∧ Kept No w w' := by
  obtain ⟨g, cap, rfl, -⟩ := h.at h0
  obtain ⟨b0, c0, hb0, -⟩ := h.get rfl 0 h0
  have hw : IntKind.u32.wrap (first : Int) = (first : Int) := by rw [IntKind.wrap_u32]; omega
  have HD := Lib.hid (decode_err b0 _ first w hb0 hf e0 he)
  have hne := dec_err he
  have hneb : (e0 != 0) = true := by simpa using hne
  have hlen := h.most
  clear hb0 h
  generalize ls[0] = l0 at *
  go_enter Tryz.func77, Tryz.ntmps77
  go_wp2_with fail
  refine HD.out.mono ?_
  rintro e w1 ⟨rfl, k1⟩
  go_wp2
  go_ret3
  exact ⟨_, _, rfl, k1.alloc _⟩
set_option maxHeartbeats 4000000 in
theorem batch_kind (v : Value) (bl : List Nat) (ls : List (List UInt8)) (first : Nat) (w : World) (h : LiesAt w v bl ls) (h0 : 0 < ls.length) (hf : first < 4294967296) (p : PageV) (he : dec ls[0] first = .ok p) (hk : p.kind ≠ 74 ∨ p.serial = 0) :
    Calls Tryz.prog 77 #[v, .int .i64 (first : Int)] w fun e w' => ∃ s v', e = .returned (.tuple #[.int .u64 s, v', .bool false]) ∧ Kept No w w' := by
  obtain ⟨g, cap, rfl, -⟩ := h.at h0
  obtain ⟨b0, c0, hb0, -⟩ := h.get rfl 0 h0
  have hw : IntKind.u32.wrap (first : Int) = (first : Int) := by rw [IntKind.wrap_u32]; omega
  have HD := Lib.hid (decode_got b0 _ first w hb0 hf p he)
  have hlen := h.most
  clear hb0 h he
  generalize ls[0] = l0 at *
  by_cases hk7 : p.kind = 74
  · have hs0 : p.serial = 0 := hk.resolve_left (fun h => h hk7)
    have hkb : ((p.kind.toNat : Int) != 74) = false := by rw [hk7]; rfl
    have hsb : ((p.serial : Int) == 0) = true := by rw [hs0]; rfl
    clear hk hk7 hs0
    go_enter Tryz.func77, Tryz.ntmps77
    go_wp2_with fail
    refine HD.out.mono ?_
    rintro e w1 ⟨rfl, k1⟩
    go_wp2
    go_ret3
    exact ⟨_, _, rfl, k1.alloc _⟩
  · have hkb : ((p.kind.toNat : Int) != 74) = true := by
      rw [bne_iff_ne]
      intro e
      apply hk7
      apply UInt8.toNat_inj.1
      show p.kind.toNat = 74
      omega
    clear hk hk7
    go_enter Tryz.func77, Tryz.ntmps77
    go_wp2_with fail
    refine HD.out.mono ?_
    rintro e w1 ⟨rfl, k1⟩
    go_wp2
    go_ret3
    exact ⟨_, _, rfl, k1.alloc _⟩
end Go.Proofs.YtabhieafjkaocaaGreat
