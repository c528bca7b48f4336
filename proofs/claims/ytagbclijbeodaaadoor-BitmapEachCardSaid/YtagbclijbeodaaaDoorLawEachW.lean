/- The walk of BitmapEach. -/
import Derived.Test.YtagbclijbeodaaaDoorBnH
import Derived.Laws.EntriesVeiled
import Derived.Laws.ResultCell
import Derived.Sort.QuietIn
namespace Go.Proofs.YtagbclijbeodaaaDoor
open Go.RowKit Go.Shelf
set_option linter.unusedVariables false

attribute [local go_sem] Oper.semAt_some

theorem row_no {w w' : World} {b : Nat} {e : TypeId} {z : Nat} {v : Value} {n : Nat} {xs : List Value} (h : w.ownsRow b e z v n xs) (k : Kept No w w') : w'.ownsRow b e z v n xs := k.row h (fun _ _ x => x)
theorem row_len {w : World} {b : Nat} {e : TypeId} {z : Nat} {v : Value} {n : Nat} {xs : List Value} (h : w.ownsRow b e z v n xs) : ∃ a cap, v = .slice a n cap := by
  rcases h.2 with ⟨h1, h2⟩ | ⟨g, cap, cur, h1, _⟩
  · rw [h1, h2]; exact ⟨_, _, rfl⟩
  · exact ⟨_, _, h1⟩

abbrev eachFn (bx : Nat) : Value := .func (.func 21) #[] #[.pointer (some ⟨bx, 0, none⟩)]

/-- What lies behind the walk's beginning: five boxes, the numbers that were in, the iterator's copy; the set's own row is none of these. B: they lie below B. -/
structure Scene (w : World) (B LB RB SB WB EB bx s s' N : Nat) (A : List Nat) (lv u u' wv : Value) (W : World) : Prop where
  base : Kept No w W
  later : Boxed W LB 22 lv
  res : Boxed W RB 4 (.bool false)
  set : Boxed W SB 23 (.pointer (some ⟨s, 0, none⟩))
  want : Boxed W WB 22 wv
  each : Boxed W EB 27 (eachFn bx)
  row : W.ownsRow 0 3 1 wv (els N A 0).length (nums (els N A 0))
  it : EachAt W bx s' N u' A
  at_ : ∃ ws, SetAt W s N u ws
  size : B ≤ W.heap.size
  below : w.heap.size ≤ B ∧ LB < B ∧ RB < B ∧ SB < B ∧ WB < B ∧ EB < B ∧ s < B ∧ bx < B ∧ s' < B ∧ (∀ g, u.ownBlock = some g → g < B) ∧ (∀ g, u'.ownBlock = some g → g < B) ∧ (∀ g, wv.ownBlock = some g → g < B)
  away : ∀ g, u.ownBlock = some g → w.heap.size ≤ g ∧ g ≠ LB ∧ g ≠ RB ∧ g ≠ SB ∧ g ≠ WB ∧ g ≠ EB ∧ g ≠ bx ∧ g ≠ s' ∧ u'.ownBlock ≠ some g ∧ wv.ownBlock ≠ some g ∧ g ≠ s
  low : 0 < w.heap.size

/-- What may be turned. -/
def Free (B : Nat) (u : Value) : Nat → Prop := fun k => u.ownBlock = some k ∨ B ≤ k

theorem boxK {M : Nat → Prop} {W W' : World} {b : Nat} {t : TypeId} {v : Value} (h : Boxed W b t v) (k : Kept M W W') (hm : ¬ M b) : Boxed W' b t v := k.heap h hm

section
variable {w : World} {B LB RB SB WB EB bx s s' N : Nat} {A : List Nat} {lv u u' wv : Value} {W W' : World}
theorem Scene.leaves (h : Scene w B LB RB SB WB EB bx s s' N A lv u u' wv W) : Leaves (Free B u) bx s' u' := by
  obtain ⟨b0, b1, b2, b3, b4, b5, b6, b7, b8, b9, b10, b11⟩ := h.below
  have hl := h.low
  refine ⟨?_, ?_, ?_, ?_⟩
  · rintro (e | e)
    · exact (h.away _ e).2.2.2.2.2.2.1 rfl
    · omega
  · rintro (e | e)
    · exact (h.away _ e).2.2.2.2.2.2.2.1 rfl
    · omega
  · intro g hg
    rintro (e | e)
    · exact (h.away _ e).2.2.2.2.2.2.2.2.1 hg
    · have := b10 g hg; omega
  · rintro (e | e)
    · have := (h.away _ e).1; omega
    · omega
theorem Scene.kept (h : Scene w B LB RB SB WB EB bx s s' N A lv u u' wv W) (k : Kept (Free B u) W W') (hs : ∃ ws, SetAt W' s N u ws) : Scene w B LB RB SB WB EB bx s s' N A lv u u' wv W' := by
  obtain ⟨b0, b1, b2, b3, b4, b5, b6, b7, b8, b9, b10, b11⟩ := h.below
  have nb : ∀ j, j < B → (∀ g, u.ownBlock = some g → g ≠ j) → ¬ Free B u j := fun j h1 h2 => by
    rintro (e | e)
    · exact h2 _ e rfl
    · omega
  refine ⟨h.base.next k fun j hj e => ?_, boxK h.later k (nb _ b1 fun g hg => (h.away g hg).2.1), boxK h.res k (nb _ b2 fun g hg => (h.away g hg).2.2.1), boxK h.set k (nb _ b3 fun g hg => (h.away g hg).2.2.2.1),
    boxK h.want k (nb _ b4 fun g hg => (h.away g hg).2.2.2.2.1), boxK h.each k (nb _ b5 fun g hg => (h.away g hg).2.2.2.2.2.1), k.row h.row fun g hg => nb _ (b11 g hg) fun g' hg' e => (h.away g' hg').2.2.2.2.2.2.2.2.2.1 (e ▸ hg), h.it.kept k h.leaves, hs,
    Nat.le_trans h.size k.size, h.below, h.away, h.low⟩
  rcases e with e | e
  · have := (h.away j e).1; omega
  · omega
/-- a step that lets the set be, too. -/
theorem Scene.keptNew (h : Scene w B LB RB SB WB EB bx s s' N A lv u u' wv W) (k : Kept (fun j => B ≤ j) W W') : Scene w B LB RB SB WB EB bx s s' N A lv u u' wv W' := by
  obtain ⟨b0, b1, b2, b3, b4, b5, b6, b7, b8, b9, b10, b11⟩ := h.below
  obtain ⟨ws, hs⟩ := h.at_
  exact h.kept (k.mono fun j _ e => .inr e) ⟨ws, hs.kept k (by omega) fun g hg => by have := b9 g hg; omega⟩
end

/-- What lies behind the third loop. -/
structure Late (Sc : World → Prop) (KB AG D D2 : Nat) (kv : Int) (v : Value) (l : List Nat) (W : World) : Prop where
  sc : Sc W
  k : Boxed W KB 3 (.int .i64 kv)
  again : Boxed W AG 22 v
  row : W.ownsRow 0 3 1 v l.length (nums l)
  def1 : W.heap[D]? = some (.deferred (some []))
  def2 : W.heap[D2]? = some (.deferred (some []))
theorem Late.kept {Sc : World → Prop} {KB AG D D2 : Nat} {kv : Int} {v : Value} {l : List Nat} {W W' : World} (h : Late Sc KB AG D D2 kv v l W) (k : Kept No W W') (hs : Sc W → Sc W') : Late Sc KB AG D D2 kv v l W' :=
  ⟨hs h.sc, boxK h.k k (fun h => h), boxK h.again k (fun h => h), row_no h.row k, k.heap h.def1 (fun h => h), k.heap h.def2 (fun h => h)⟩

theorem not_prefix {l pre : List Nat} {x : Nat} (h : x ≠ l.getD pre.length 0) : ¬ pre ++ [x] <+: l := by
  rintro ⟨r, rfl⟩
  apply h
  simp [List.getD_eq_getElem?_getD]
theorem tidy_one : Tidy 1 [1] := by
  have := tidy_puts 1 [0]
  exact this
theorem els_one : els 1 [1] 0 = [0] := by decide
theorem ints_one (w : World) : IntsAt (w.alloc (.cells #[.int .i64 0] 3)) (.slice (some ⟨w.heap.size, 0, none⟩) 1 1) [0] := by
  refine ⟨by decide, by decide, .inr ⟨⟨w.heap.size, 0, none⟩, 1, rfl, fun i hi => ?_⟩⟩
  have : i = 0 := by simpa using hi
  subst this
  exact ⟨by simp, cell_one_new w _ _ 0 _ rfl⟩
theorem results_box {P : Program} {fn : Func} {p : Tmp} {ty : TypeId} (h : fn.results = #[.cell p ty]) {b : Bool} (tmps : Array Value) (w : World) (g : Nat) (hp : tmps.getD p undef = .pointer (some ⟨g, 0, none⟩))
    (hu : P.underlying ty = some .bool) (hc : w.cell? ⟨g, 0, none⟩ = some (.bool b)) : (results fn tmps).run P w = .ok (.bool b) w := by
  have hp' : tmps[p]?.getD undef = .pointer (some ⟨g, 0, none⟩) := by simpa using hp
  have hl : (loadVar ty ⟨g, 0, none⟩).run P w = .ok (.bool b) w := by
    have hia := run_isAgg_plain hu rfl w
    simp [loadVar, hia, hc]
  simp [results, h, hp', asAddr, hl]
theorem lift_prefix {l pre : List Nat} (hlt : pre.length < l.length) (h : pre <+: l) : pre ++ [l.getD pre.length 0] <+: l := by
  obtain ⟨r, rfl⟩ := h
  cases r with
  | nil => simp at hlt
  | cons y r => exact ⟨r, by simp [List.getD_eq_getElem?_getD]⟩

theorem getD_cast (l : List Nat) (j : Nat) : (l.map fun x : Nat => (x : Int)).getD j 0 = ((l.getD j 0 : Nat) : Int) := by
  rw [List.getD_eq_getElem?_getD, List.getElem?_map, List.getD_eq_getElem?_getD]
  cases l[j]? <;> rfl

set_option maxHeartbeats 4000000 in
set_option maxRecDepth 100000 in
theorem each_walk (n : Int) (v1 : Value) (l : List Int) (v2 : Value) (l2 : List Int) (w : World) (hn : -9223372036854775808 ≤ n) (hn2 : n ≤ 9223372036854775807) (h1 : IntsAt w v1 l) (h2 : IntsAt w v2 l2) (hT : Tab w) :
    Calls Tryd.prog 3 #[.int .i64 n, v1, v2] w fun e w' => e = .returned (.bool true) ∧ Below w.heap.size w w' := by
  have hof := of_ok n v1 l
  have h0 : 0 ≤ n % 2001 := Int.emod_nonneg _ (by omega)
  have h3 : n % 2001 < 2001 := Int.emod_lt_of_pos _ (by omega)
  obtain ⟨N, hN⟩ := Int.eq_ofNat_of_zero_le h0
  have eN : (n % 2001).toNat = N := by rw [hN]; rfl
  rw [eN] at hof
  rw [hN] at h3
  have ta := tidy_puts N l
  have hln := h2.2.1
  have hlen := els_length_le N (puts N l) 0
  have hsub : ∀ x ∈ els N (puts N l) 0, x < N := fun x hx => (mem_els.1 hx).1
  obtain ⟨a1, c1, e1⟩ := h1.len
  obtain ⟨a2, c2, e2⟩ := h2.len
  subst e1 e2
  obtain ⟨i0, hi, hz0, hz1, hz2⟩ := info_parts Tryd.infoInt
  generalize puts N l = A at *
  have HO := Lib.hid hof
  have HL := Lib.hid h1
  have HL2 := Lib.hid h2
  have HA := Lib.hid ta
  have HT := Lib.hid hT
  have HS := Lib.hid hsub
  have HN := Lib.hid hN
  clear hof h1 h2 ta hT hN eN h0 hsub
  refine (callsIn_wide (n := 9)).1 ?_
  refine callsIn_of_wp_marks Tryd.func3 rfl trivial ?_ rfl
  simp only [Tryd.ntmps3, List.size_toArray, List.length_cons, List.length_nil, Nat.reduceAdd, Nat.reduceSub, Array.replicate_succ, Array.replicate_zero, List.push_toArray, List.append_toArray, List.nil_append, List.cons_append]
  gi_wp2_with fail
  refine ⟨trivial, ?_⟩
  have k0 : Kept No w ((w.alloc (.cells #[.slice a2 l2.length c2] 22)).alloc (.cells #[.bool false] 4)) := ((Kept.refl _ _).alloc _).alloc _
  refine (callsIn_wide.2 (HO.out _ hn hn2 (HL.out.kept k0 (fun _ _ h => h)))).mono ?_
  rintro e w1 ⟨s, u, rfl, k1, ms⟩
  gi_wp2_with fail
  refine ⟨trivial, ?_⟩
  have k1' : Kept No w (w1.alloc (.cells #[.pointer (some ⟨s, 0, none⟩)] 23)) := (k0.trans k1).alloc _
  refine (callsIn_wide.2 (gone_ok s N u A _ (ms.1.no' ((Kept.refl _ _).alloc _)) HA.out (HT.out.kept k1' (fun h => h)))).mono ?_
  rintro e w2 ⟨wv, rfl, k2, hrow⟩
  obtain ⟨aw, cw, rfl⟩ := row_len hrow
  have cS : (w2.alloc (.cells #[.slice aw (els N A 0).length cw] 22)).cell? ⟨w1.heap.size, 0, none⟩ = some (.pointer (some ⟨s, 0, none⟩)) := (boxK (Boxed.new w1 _ _) (k2.alloc _) (fun h => h)).cell
  gi_wp2_with fail
  refine ⟨trivial, ?_⟩
  have k2' : Kept No w (w2.alloc (.cells #[.slice aw (els N A 0).length cw] 22)) := (k1'.trans k2).alloc _
  have ms2 : SetAt (w2.alloc (.cells #[.slice aw (els N A 0).length cw] 22)) s N u A := ((ms.1.no' ((Kept.refl _ _).alloc _)).no' k2).no' ((Kept.refl _ _).alloc _)
  refine (callsIn_wide.2 (each_ok s N u A _ ms2 HA.out (HT.out.kept k2' (fun h => h)))).mono ?_
  rintro e w3 ⟨bx, s', u', rfl, k3, hE, hb1, hb2, hb3⟩
  have hq := fun w' => run_eql_func_nil (P := Tryd.prog) w' 27 (.func 21) #[] #[.pointer (some ⟨bx, 0, none⟩)] Tryd.underlying27
  have sz1 := k1.size
  have sz2 := k2.size
  have sz3 := k3.size
  simp only [World.size_alloc] at sz1 sz2 sz3 hb1 hb2 hb3
  have low := World.block_lt_of_cell? w _ (HT.out 0 (by decide))
  have hs1 := ms.1.lt
  have hms := ms.2
  have hown1 : ∀ g, u.ownBlock = some g → g < w1.heap.size := fun g hg => ms.1.own_lt hg
  simp only [World.size_alloc] at hms
  have kL : Kept No w1 (w3.alloc (.cells #[eachFn bx] 27)) := ((((Kept.refl _ _).alloc _).trans k2).alloc _ |>.trans k3).alloc _
  have kA : Kept No (w1.alloc (.cells #[.pointer (some ⟨s, 0, none⟩)] 23)) (w3.alloc (.cells #[eachFn bx] 27)) := ((k2.alloc _).trans k3).alloc _
  have kB : Kept No (w2.alloc (.cells #[.slice aw (els N A 0).length cw] 22)) (w3.alloc (.cells #[eachFn bx] 27)) := k3.alloc _
  have kC : Kept No ((w.alloc (.cells #[.slice a2 l2.length c2] 22)).alloc (.cells #[.bool false] 4)) (w3.alloc (.cells #[eachFn bx] 27)) := k1.trans kL
  have hsc : Scene w (w3.heap.size + 1) w.heap.size (w.heap.size + 1) w1.heap.size w2.heap.size w3.heap.size bx s s' N A (.slice a2 l2.length c2) u u' (.slice aw (els N A 0).length cw) (w3.alloc (.cells #[eachFn bx] 27)) := by
    refine ⟨(k2'.trans k3).alloc _, ?_, ?_, ?_, ?_, Boxed.new _ _ _, ?_, ?_, ⟨A, ?_⟩, by simp, ?_, ?_, low⟩
    · exact boxK ((Boxed.new w _ _).alloc _) kC (fun h => h)
    · have := Boxed.new (w.alloc (.cells #[.slice a2 l2.length c2] 22)) 4 (.bool false)
      rw [World.size_alloc] at this
      exact boxK this kC (fun h => h)
    · exact boxK (Boxed.new _ _ _) kA (fun h => h)
    · exact boxK (Boxed.new _ _ _) kB (fun h => h)
    · exact row_no (own_zero hrow) (((Kept.refl _ _).alloc _ |>.trans k3).alloc _)
    · exact hE.kept ((Kept.refl No _).alloc _) ⟨fun h => h, fun h => h, fun _ _ h => h, fun h => h⟩
    · exact ms2.no' kB
    · have e1 := lt_of_heap hE.box
      have e2 := hE.set.lt
      exact ⟨by omega, by omega, by omega, by omega, by omega, by omega, by omega, by omega, by omega, fun g hg => by have := hown1 g hg; omega, fun g hg => by have := hE.set.own_lt hg; omega, fun g hg => by have := (hrow.lt g hg).2; omega⟩
    · intro g hg
      have e1 := hown1 g hg
      have e2 := hms.2 g hg
      exact ⟨by omega, by omega, by omega, by omega, by omega, by omega, by omega, by omega, fun h => by have := hb3 g h; omega, fun h => by have := (hrow.lt g h).1; simp at this; omega, fun h => ms.1.other (h ▸ hg)⟩
  have cE := hsc.each.cell
  have HSc := Lib.hid hsc
  clear hsc kL kA kB kC hms hs1 hown1 low hb1 hb2 hb3 hE hrow cS k0 k1 k1' k2 k2' k3 ms ms2 HO HL HA HT
  gi_wp2_with fail
  generalize hW4 : w3.alloc (.cells #[eachFn bx] 27) = W4 at *
  clear hW4
  generalize hB : w3.heap.size + 1 = B at *
  refine wpIn_wide.2 ?_
  go_loopw [10] (fun i wr => ∃ k : Nat, k ≤ l2.length ∧ i = .int .i64 k ∧ Scene w B w.heap.size (w.heap.size + 1) w1.heap.size w2.heap.size w3.heap.size bx s s' N A (.slice a2 l2.length c2) u u' (.slice aw (els N A 0).length cw) wr) (fun i _ => l2.length - (intOf i).toNat)
  case atStart => exact ⟨0, Nat.zero_le _, rfl, HSc.out⟩
  case round =>
    obtain ⟨k, hk, rfl, hsc⟩ := hrel
    clear HSc
    have cLt := hsc.later.cell
    have cSt := hsc.set.cell
    by_cases hlt : k < l2.length
    · obtain ⟨b2, off, cap, ev, hb2, hcs⟩ := (HL2.out.kept hsc.base (fun _ _ h => h)).at (by omega)
      obtain ⟨rfl, rfl⟩ : a2 = some ⟨b2, off, none⟩ ∧ c2 = cap := by simpa using ev
      have hcell := hcs k hlt
      have hel := HL2.out.elem hlt
      obtain ⟨ws, hset⟩ := hsc.at_
      generalize hx : l2.getD k 0 = x at *
      have hput := put_any s N u ws wr.drew x hset.drew
      have HPu := Lib.hid hput
      have HSR := Lib.hid hsc
      clear hx hcs ev hb2 hsc hset hput
      go_wp2_with fail
      go_still_tail 5, (by kernel_rfl)
      repeat still_step
      change wpList _ _ _ _ _ wr.drew
      go_wp2_with fail
      refine HPu.out.mono ?_
      rintro e w5 ⟨c5, rfl, k5, st5⟩
      have sc5 := HSR.out.kept (((Kept.refl _ wr).drew).next (N := fun k => u.ownBlock = some k) k5 (fun _ _ e => Or.inl e)) st5
      have cS5 := sc5.set.cell
      have HS5 := Lib.hid sc5
      obtain ⟨ws5, hs5⟩ := st5
      have htk := take_any s N u ws5 w5 (k : Int) hs5
      have HTk := Lib.hid htk
      clear htk hs5 sc5 k5 HPu HSR cSt cLt hcell hel
      go_wp2_with fail
      refine HTk.out.mono ?_
      rintro e w6 ⟨c6, rfl, k6, st6⟩
      have HS6 := Lib.hid (HS5.out.kept (k6.mono fun _ _ e => Or.inl e) st6)
      clear HS5 HTk st6 k6 cS5
      go_wp2
      go_roundw
      case rel => exact ⟨k + 1, by omega, by go_num, HS6.out⟩
      case measure => simp [intOf]; omega
    · obtain rfl : k = l2.length := by omega
      have HSR := Lib.hid hsc
      clear hsc hlt hk
      go_wp2_with fail
      obtain ⟨wo, rfl⟩ : ∃ wo : World, wo = wr := ⟨_, rfl⟩
      have cWo := HSR.out.want.cell
      have h0l : (els N A 0).length ≤ 2001 := by omega
      gi_wp2_with fail
      refine wpIn_wide.2 ?_
      go_loopw [11] (fun i wr => ∃ k : Nat, 1 ≤ k ∧ (k ≤ (els N A 0).length ∨ k = 1) ∧ i = .int .i64 k ∧ Scene w B w.heap.size (w.heap.size + 1) w1.heap.size w2.heap.size w3.heap.size bx s s' N A (.slice a2 l2.length c2) u u' (.slice aw (els N A 0).length cw) wr) (fun i _ => 2002 - (intOf i).toNat)
      case atStart => exact ⟨1, Nat.le_refl _, .inr rfl, rfl, HSR.out⟩
      case round =>
        clear HSR cSt cLt cWo
        obtain ⟨k, hk1, hk, rfl, hsc⟩ := hrel
        have cWo := hsc.want.cell
        have hW := ints_of_row hsc.row (by omega) (fun x hx => by have := HS.out x hx; omega)
        by_cases hlt : k < (els N A 0).length
        · obtain ⟨j, rfl⟩ : ∃ j, k = j + 1 := ⟨k - 1, by omega⟩
          have hri := els_rise N A 0 hlt
          obtain ⟨b2, off, cap, ev, hb2, hcs⟩ := hW.at (by rw [List.length_map]; omega)
          rw [List.length_map] at ev hcs
          obtain ⟨rfl, rfl⟩ : aw = some ⟨b2, off, none⟩ ∧ cw = cap := by simpa using ev
          have hc1 := hcs j (by omega)
          have hc2 := hcs (j + 1) hlt
          rw [getD_cast] at hc1 hc2
          generalize (els N A 0).getD j 0 = x at *
          generalize (els N A 0).getD (j + 1) 0 = y at *
          have X1 := Lib.hid hsc
          clear hcs ev hb2 hW hsc
          go_wp2_with fail
          go_quiet (fail)
          go_wp2
          go_roundw
          case rel => exact ⟨j + 1 + 1, by omega, .inl (by omega), rfl, X1.out.keptNew ((Kept.refl _ _).drewN _)⟩
          case measure => simp [intOf]; omega
        · have cE2 : (wr.alloc (.cells #[.int .i64 0] 3)).cell? ⟨w3.heap.size, 0, none⟩ = some (eachFn bx) := (boxK hsc.each ((Kept.refl No _).alloc _) (fun h => h)).cell
          have HSR := Lib.hid hsc
          have HW := Lib.hid hW
          clear hsc hW
          go_wp2_with fail
          obtain ⟨wq, rfl⟩ : ∃ wq : World, wq = wr := ⟨_, rfl⟩
          gi_wp2_with fail
          have bK := Boxed.new wq 3 (.int .i64 0)
          have hsc := HSR.out.keptNew (((Kept.refl _ _).alloc (.cells #[.int .i64 0] 3)))
          have hszB := HSR.out.size
          have hszQ : (wq.alloc (.cells #[.int .i64 0] 3)).heap.size = wq.heap.size + 1 := by simp
          generalize wq.heap.size = KB at *
          generalize wq.alloc (.cells #[.int .i64 0] 3) = W0 at *
          refine' range_told rfl (by omega) (gf := 21) (lb := #[.pointer (some ⟨bx, 0, none⟩)]) rfl trivial (enters_of Tryd.func21 (by kernel_rfl) rfl)
            (each_stops (9 - 1) (by omega) bx s' N u' A (Free B u) hsc.leaves W0 hsc.it) (fun k hk => .inr (by omega)) (fun _ => rfl)
            (fun (pre : List Nat) W => Scene w B w.heap.size (w.heap.size + 1) w1.heap.size w2.heap.size w3.heap.size bx s s' N A (.slice a2 l2.length c2) u u' (.slice aw (els N A 0).length cw) W ∧ Boxed W KB 3 (.int .i64 (pre.length : Int)) ∧ pre.length ≤ 40)
            (fun c pre W => (c = .exit 4 ∧ Scene w B w.heap.size (w.heap.size + 1) w1.heap.size w2.heap.size w3.heap.size bx s s' N A (.slice a2 l2.length c2) u u' (.slice aw (els N A 0).length cw) W ∧ Boxed W KB 3 (.int .i64 41) ∧ pre.length = 41) ∨ ¬ pre <+: els N A 0)
            (ownFrom_of fun s A C hk h => ⟨h.1.keptNew (hk.mono fun j _ e => by omega), boxK h.2.1 hk (by omega), h.2.2⟩)
            (fun c => ownFrom_of fun s A C hk h => h.imp (fun h => ⟨h.1, h.2.1.keptNew (hk.mono fun j _ e => by omega), boxK h.2.2.1 hk (by omega), h.2.2.2⟩) id)
            ⟨hsc, bK, by simp⟩
            _ ?assign ?body ?done ?stop
          case assign =>
            intro l x W K hK
            gi_wp2
            exact hK
          case body =>
            rintro lo pre x W hlo ⟨r, hr⟩ ⟨sc, bk, h40⟩ hlt
            have cK := bk.cell
            have cWw := sc.want.cell
            have hWi := ints_of_row sc.row (by omega) (fun x hx => by have := HS.out x hx; omega)
            obtain ⟨b2, off, cap, ev, hb2, hcs⟩ := hWi.at (by rw [List.length_map]; omega)
            rw [List.length_map] at ev hcs
            obtain ⟨rfl, rfl⟩ : aw = some ⟨b2, off, none⟩ ∧ cw = cap := by simpa using ev
            have hc1 := hcs pre.length hlt
            rw [getD_cast] at hc1
            have hgd : decide ((els N A 0).length ≤ pre.length) = false := by simp; omega
            by_cases hx : x = (els N A 0).getD pre.length 0
            · have HX := Lib.hid hx
              rw [← hx] at hc1
              have SC := Lib.hid sc
              have BK := Lib.hid bk
              have hCi := Lib.hid hcs
              have hRi := Lib.hid hr
              have hcE3 : (W.alloc (.cells #[.int .i64 0] 3)).cell? ⟨w3.heap.size, 0, none⟩ = some (eachFn bx) := (boxK sc.each ((Kept.refl No _).alloc _) (fun h => h)).cell
              clear hx hcs hr ev hb2 hWi sc bk HSR HW hsc bK cE2
              gi_wp2_with fail
              have bI := Boxed.new W 3 (.int .i64 0)
              have SC1 := Lib.hid (SC.out.keptNew ((Kept.refl _ W).alloc (.cells #[.int .i64 0] 3)))
              have BK1 := Lib.hid (boxK BK.out ((Kept.refl No W).alloc (.cells #[.int .i64 0] 3)) (fun h => h))
              have hr1 := ((Kept.refl No W).alloc (.cells #[.int .i64 0] 3)).heap hRi.out (fun h => h)
              have hk01 : Kept No W (W.alloc (.cells #[.int .i64 0] 3)) := (Kept.refl No W).alloc _
              have hszW := SC.out.size
              have hszW2 : W0.heap.size ≤ W.heap.size := by have := lt_of_heap hRi.out; have := BK.out.lt; omega
              have hszQ2 : (W.alloc (.cells #[.int .i64 0] 3)).heap.size = W.heap.size + 1 := by simp
              have hIB : W.heap.size = W.heap.size := rfl
              generalize hIBe : W.heap.size = IB at hszQ2 bI hszW hszW2 ⊢
              generalize W.alloc (.cells #[.int .i64 0] 3) = W1 at *
              clear hcE3 hIB
              refine' range_in (l₀ := lo) (r₀ := r) rfl hr1 (by omega) (gf := 21) (lb := #[.pointer (some ⟨bx, 0, none⟩)]) rfl trivial (enters_of Tryd.func21 (by kernel_rfl) rfl)
                ((each_stops (9 - 1 - 1 - 1) (by omega) bx s' N u' A (Free B u) SC1.out.leaves W1 SC1.out.it).inRound lo) (fun k hk => .inr (by omega)) (fun _ => rfl)
                (fun (pre' : List Nat) W' => Boxed W' IB 3 (.int .i64 (pre'.length : Int)) ∧ Kept (fun j => j = IB ∨ W1.heap.size ≤ j) W1 W')
                (fun c pre' W' => (c = .exit 6 ∧ Kept (fun j => j = IB ∨ W1.heap.size ≤ j) W1 W') ∨ ¬ pre' <+: els N A 0)
                (ownFrom_of fun s A C hk h => ⟨boxK h.1 hk (by omega), h.2.next hk fun j _ e => .inr e⟩)
                (fun c => ownFrom_of fun s A C hk h => h.imp (fun h => ⟨h.1, h.2.next hk fun j _ e => .inr e⟩) id)
                ⟨bI, Kept.refl _ _⟩
                _ ?assign2 ?body2 ?done2 ?stop2
              case assign2 =>
                intro l x W K hK
                gi_wp2
                exact hK
              case body2 =>
                rintro lq pre' y W' ⟨bI', k'⟩ hlt'
                have sc' := SC1.out.keptNew (k'.mono fun j _ e => by omega)
                have cI := bI'.cell
                have fI := bI'.frozen
                have cW' := sc'.want.cell
                have cL' := sc'.later.cell
                have hWi := ints_of_row sc'.row (by omega) (fun x hx => by have := HS.out x hx; omega)
                obtain ⟨b3, off3, cap3, ev, hb3, hcs⟩ := hWi.at (by rw [List.length_map]; omega)
                rw [List.length_map] at ev hcs
                obtain ⟨⟨rfl, rfl⟩, rfl⟩ : (b2 = b3 ∧ off = off3) ∧ cw = cap3 := by simpa using ev
                have hc2 := hcs pre'.length hlt'
                rw [getD_cast] at hc2
                have hgd2 : decide ((els N A 0).length ≤ pre'.length) = false := by simp; omega
                by_cases hy : y = (els N A 0).getD pre'.length 0
                · rw [← hy] at hc2
                  have hbI := bI'.set (.int .i64 ((pre'.length : Int) + 1))
                  have hk1 : Kept (Free B u) W' (W'.setCell ⟨IB, 0, none⟩ (.int .i64 ((pre'.length : Int) + 1))) := (Kept.refl _ _).setCell _ _ fun _ => .inr (by simp; omega)
                  have hk2 := k'.setCell ⟨IB, 0, none⟩ (.int .i64 ((pre'.length : Int) + 1)) (fun _ => .inl rfl)
                  have cL2 := (boxK sc'.later ((Kept.refl _ _).setCell ⟨IB, 0, none⟩ (.int .i64 ((pre'.length : Int) + 1)) (fun _ => rfl) : Kept (fun j => j = IB) W' _) (by have := sc'.below.2.1; omega)).cell
                  have HF := Lib.hid (And.intro hk1 (And.intro hbI hk2))
                  clear hcs ev hb3 hWi sc' bI' hbI k' hk1 hk2 hy
                  by_cases hbr : l2.length < pre'.length + 1
                  · gi_wp2
                    exact ⟨(KeepsOthers.setCell _ _ _).from _, .inl ⟨rfl, HF.out.2.2⟩⟩
                  · gi_wp2
                    exact ⟨(KeepsOthers.setCell _ _ _).from _, HF.out.1, by simpa using HF.out.2.1, HF.out.2.2⟩
                · have fR := sc'.res.frozen
                  have cR := sc'.res.cell
                  have hnp := not_prefix hy
                  generalize (els N A 0).getD pre'.length 0 = z at *
                  clear hcs ev hb3 hWi sc' bI' k'
                  gi_wp2
                  exact ⟨(KeepsOthers.setCell _ _ _).from _, .inr hnp⟩
              case done2 =>
                rintro ys W' - ⟨bI', k'⟩
                clear bI'
                have sc2 := SC1.out.keptNew (k'.mono fun j _ e => by omega)
                have bk2 := boxK BK1.out k' (by omega)
                obtain ⟨ws, hset⟩ := sc2.at_
                have HCl := Lib.hid (clear_ok s N u ws W' hset)
                have cS2 := sc2.set.cell
                have kk2 : Kept (fun j => u.ownBlock = some j ∨ j = KB) W W' := (hk01.of_no _).next k' (fun j hj e => by omega)
                have SC2 := Lib.hid sc2
                have BK2 := Lib.hid bk2
                have KK2 := Lib.hid kk2
                have hub := sc2.below.2.2.2.2.2.2.2.2.2.1
                have HU := Lib.hid hub
                clear hset sc2 bk2 kk2 k' SC1 BK1 bI hub
                gi_wp2_with fail
                refine ⟨trivial, ?_⟩
                refine (CallsIn.inRound lo (callsIn_wide.2 HCl.out)).mono ?_
                rintro e W3 ⟨rfl, k3, hs3⟩
                have sc3 := SC2.out.kept (k3.mono fun _ _ e => .inl e) ⟨_, hs3⟩
                have bk3 := boxK BK2.out k3 (fun e => by have := HU.out _ e; omega)
                have kk3 : Kept (fun j => u.ownBlock = some j ∨ j = KB) W W3 := KK2.out.next k3 (fun j hj e => .inl e)
                have cK3 := bk3.cell
                have fK3 := bk3.frozen
                have bK4 := bk3.set (.int .i64 ((pre ++ [x]).length : Int))
                have sc4 := sc3.keptNew ((Kept.refl _ _).setCell ⟨KB, 0, none⟩ (.int .i64 ((pre ++ [x]).length : Int)) (fun _ => by simp; omega))
                have kk4 := kk3.setCell ⟨KB, 0, none⟩ (.int .i64 ((pre ++ [x]).length : Int)) (fun _ => .inr rfl)
                have h5 : KeepsFrom W0.heap.size W (W3.setCell ⟨KB, 0, none⟩ (.int .i64 ((pre ++ [x]).length : Int))) := keepsFrom_of kk4 (fun j hj => hj.elim (fun e => by have := HU.out _ e; omega) (fun e => by omega))
                have h6 : Kept (Free B u) W (W3.setCell ⟨KB, 0, none⟩ (.int .i64 ((pre ++ [x]).length : Int))) := kk4.mono fun j _ e => e.elim .inl (fun e => .inr (by omega))
                have HF := Lib.hid (And.intro h5 (And.intro h6 (And.intro sc4 bK4)))
                simp only [List.length_append, List.length_cons, List.length_nil, Nat.zero_add, Int.natCast_add, Int.natCast_one] at HF
                have hln1 : (pre ++ [x]).length = pre.length + 1 := by simp
                clear sc3 bk3 kk3 kk4 k3 hs3 bK4 sc4 h5 h6 HCl SC2 BK2 KK2 cS2
                by_cases h41 : pre.length + 1 ≤ 40
                · gi_wp2
                  exact ⟨HF.out.1, HF.out.2.1, HF.out.2.2.1, by rw [hln1]; exact HF.out.2.2.2, by omega⟩
                · have h40' : pre.length = 40 := by omega
                  gi_wp2
                  have HF2 := HF.out
                  rw [show ((pre.length : Int) + 1) = 41 by omega] at HF2
                  exact ⟨HF2.1, .inl ⟨rfl, HF2.2.2.1, HF2.2.2.2, by omega⟩⟩
              case stop2 =>
                rintro c pre' W' hp (⟨rfl, k'⟩ | h)
                · skip
                  have sc2 := SC1.out.keptNew (k'.mono fun j _ e => by omega)
                  have bk2 := boxK BK1.out k' (by omega)
                  obtain ⟨ws, hset⟩ := sc2.at_
                  have HCl := Lib.hid (clear_ok s N u ws W' hset)
                  have cS2 := sc2.set.cell
                  have kk2 : Kept (fun j => u.ownBlock = some j ∨ j = KB) W W' := (hk01.of_no _).next k' (fun j hj e => by omega)
                  have SC2 := Lib.hid sc2
                  have BK2 := Lib.hid bk2
                  have KK2 := Lib.hid kk2
                  have hub := sc2.below.2.2.2.2.2.2.2.2.2.1
                  have HU := Lib.hid hub
                  clear hset sc2 bk2 kk2 k' SC1 BK1 bI hub
                  gi_wp2_with fail
                  refine ⟨trivial, ?_⟩
                  refine (CallsIn.inRound lo (callsIn_wide.2 HCl.out)).mono ?_
                  rintro e W3 ⟨rfl, k3, hs3⟩
                  have sc3 := SC2.out.kept (k3.mono fun _ _ e => .inl e) ⟨_, hs3⟩
                  have bk3 := boxK BK2.out k3 (fun e => by have := HU.out _ e; omega)
                  have kk3 : Kept (fun j => u.ownBlock = some j ∨ j = KB) W W3 := KK2.out.next k3 (fun j hj e => .inl e)
                  have cK3 := bk3.cell
                  have fK3 := bk3.frozen
                  have bK4 := bk3.set (.int .i64 ((pre ++ [x]).length : Int))
                  have sc4 := sc3.keptNew ((Kept.refl _ _).setCell ⟨KB, 0, none⟩ (.int .i64 ((pre ++ [x]).length : Int)) (fun _ => by simp; omega))
                  have kk4 := kk3.setCell ⟨KB, 0, none⟩ (.int .i64 ((pre ++ [x]).length : Int)) (fun _ => .inr rfl)
                  have h5 : KeepsFrom W0.heap.size W (W3.setCell ⟨KB, 0, none⟩ (.int .i64 ((pre ++ [x]).length : Int))) := keepsFrom_of kk4 (fun j hj => hj.elim (fun e => by have := HU.out _ e; omega) (fun e => by omega))
                  have h6 : Kept (Free B u) W (W3.setCell ⟨KB, 0, none⟩ (.int .i64 ((pre ++ [x]).length : Int))) := kk4.mono fun j _ e => e.elim .inl (fun e => .inr (by omega))
                  have HF := Lib.hid (And.intro h5 (And.intro h6 (And.intro sc4 bK4)))
                  simp only [List.length_append, List.length_cons, List.length_nil, Nat.zero_add, Int.natCast_add, Int.natCast_one] at HF
                  have hln1 : (pre ++ [x]).length = pre.length + 1 := by simp
                  clear sc3 bk3 kk3 kk4 k3 hs3 bK4 sc4 h5 h6 HCl SC2 BK2 KK2 cS2
                  by_cases h41 : pre.length + 1 ≤ 40
                  · gi_wp2
                    exact ⟨HF.out.1, HF.out.2.1, HF.out.2.2.1, by rw [hln1]; exact HF.out.2.2.2, by omega⟩
                  · have h40' : pre.length = 40 := by omega
                    gi_wp2
                    have HF2 := HF.out
                    rw [show ((pre.length : Int) + 1) = 41 by omega] at HF2
                    exact ⟨HF2.1, .inl ⟨rfl, HF2.2.2.1, HF2.2.2.2, by omega⟩⟩
                · exact absurd hp h
            · have fR := sc.res.frozen
              have cR := sc.res.cell
              have hnp := not_prefix hx
              have hbl := sc.below.2.2.1
              have hbs := sc.size
              generalize (els N A 0).getD pre.length 0 = y at *
              clear hcs hr ev hb2 hWi sc bk HSR HW hsc bK cE2
              gi_wp2
              exact ⟨(KeepsOthers.setCell _ _ _).from _, .inr hnp⟩
          case done =>
            rintro D xs W hD rfl ⟨sc, bk, h40⟩ hdef
            dsimp only
            have hp : True := trivial
            have cE5 : (W.alloc (.cells #[.slice none 0 0] 22)).cell? ⟨w3.heap.size, 0, none⟩ = some (eachFn bx) := (boxK sc.each ((Kept.refl No _).alloc _) (fun h => h)).cell
            have SC5 := sc.keptNew ((Kept.refl _ W).alloc (.cells #[.slice none 0 0] 22))
            have BK5 := boxK bk ((Kept.refl No W).alloc (.cells #[.slice none 0 0] 22)) (fun h => h)
            have def5 := ((Kept.refl No W).alloc (.cells #[.slice none 0 0] 22)).heap hdef (fun h => h)
            gi_wp2_with fail
            have bG := Boxed.new W 22 (.slice none 0 0)
            have hszW := sc.size
            have hDlt := lt_of_heap hdef
            have hKBlt := bk.lt
            have hsz5 : (W.alloc (.cells #[.slice none 0 0] 22)).heap.size = W.heap.size + 1 := by simp
            clear sc bk hdef hp HW HSR hsc bK cE2
            generalize W.heap.size = AG at *
            generalize W.alloc (.cells #[.slice none 0 0] 22) = W5 at *
            have X5 := Lib.hid (And.intro SC5 (And.intro BK5 def5))
            refine' range_told rfl (by omega) (gf := 21) (lb := #[.pointer (some ⟨bx, 0, none⟩)]) rfl trivial (enters_of Tryd.func21 (by kernel_rfl) rfl)
              (each_stops (9 - 1) (by omega) bx s' N u' A (Free B u) SC5.leaves W5 SC5.it) (fun k hk => .inr (by omega)) (fun _ => rfl)
              (fun (pre : List Nat) W => (∃ v, Boxed W AG 22 v ∧ W.ownsRow W5.heap.size 3 1 v pre.length (nums pre) ∧ True) ∧ Kept (fun k => k = AG ∨ W5.heap.size ≤ k) W5 W)
              (fun _ _ _ => False)
              (OwnFrom.and (Own.from (holdsRow_own W5.heap.size AG 22 3 1 (fun pre : List Nat => pre.length) (fun pre => nums pre) (fun _ _ => True)) _) (ownFrom_kept (fun k h => .inr h)))
              (fun _ _ _ _ _ hs _ _ => hs)
              ⟨⟨_, bG, World.ownsRow_nil _ _ _ _, trivial⟩, Kept.refl _ _⟩
              _ ?assign3 ?body3 ?done3 ?stop3
            case assign3 =>
              intro l x W K hK
              gi_wp2
              exact hK
            case body3 =>
              rintro lo pre x W _ _ ⟨⟨v, hv, hrow, _⟩, hB3⟩ hlt
              have hc := hv.cell
              have hB2 : W5.heap.size ≤ W.heap.size := hB3.size
              clear SC5 BK5 def5 bG cE5
              gi_wp2_with (gi_at_builtin; refine wpListIn_append_own _ rfl _ _ 22 rfl W5.heap.size 3 i0 (.int .i64 0) 1 8 Tryd.underlying22 hi hz0 hz1 hz2 rfl (by decide) _ _ _ rfl (hrow.alloc _) ⟨W.heap.size, 0, none⟩ 1 1 [.int .i64 (x : Int)] rfl rfl (cell_one_new _ _ _) (by simp [Value.oneCell']) (by unfold maxLen; omega) (by omega) (by simp; omega) ?_; intro v' w1' hown' hgrow _; obtain ⟨g', cap', rfl⟩ := ownsRow_succ hown'; obtain ⟨hv1, hv2, hr2, hk2, hb2⟩ := appendedK (M := fun k => k = AG ∨ W5.heap.size ≤ k) hv (by decide) hrow (fun j h => .inr h) (.inl rfl) hown' hgrow; have hc1 := hv1.cell; have hf1 := hv1.frozen)
              exact ⟨hk2.from _, hb2.mono fun j _ e => .inr (by omega), ⟨_, hv2, by simpa [nums] using hr2, trivial⟩, hB3.trans hb2⟩
            case stop3 =>
              rintro D2 c pre W _ _ h _
              exact h.elim
            case done3 =>
              rintro D2 ys W hD2 rfl ⟨⟨v, hv, hrow, _⟩, hB3⟩ hdef2
              have k5 : Kept (fun j => B ≤ j) W5 W := hB3.mono fun j _ e => by omega
              have late : Late (Scene w B w.heap.size (w.heap.size + 1) w1.heap.size w2.heap.size w3.heap.size bx s s' N A (.slice a2 l2.length c2) u u' (.slice aw (els N A 0).length cw)) KB AG D D2 ((els N A 0).length : Int) v (els N A 0) W := ⟨X5.out.1.keptNew k5, boxK X5.out.2.1 hB3 (by omega), hv, own_zero hrow, hB3.heap X5.out.2.2 (by omega), hdef2⟩
              have hne : D ≠ D2 := by omega
              have LT := Lib.hid late
              have cW6 := late.sc.want.cell
              clear SC5 BK5 def5 bG cE5 X5 hrow hv hB3 k5 late hdef2
              gi_wp2_with fail
              obtain ⟨av, cv, rfl⟩ := row_len LT.out.row
              have hbn := fun (W : World) (q : Nat) => bound_ok n (W.drewN q) hn hn2
              rw [HN.out] at hbn
              have HBn := Lib.hid hbn
              clear cW6 hbn
              obtain ⟨wo4, hwo4⟩ : ∃ wo4 : World, wo4 = W := ⟨_, rfl⟩
              clear hwo4
              refine wpIn_wide.2 ?_
              go_loopw [18] (fun i wr => ∃ k : Nat, k ≤ 100 ∧ (k ≤ (els N A 0).length) ∧ i = .int .i64 k ∧ Late (Scene w B w.heap.size (w.heap.size + 1) w1.heap.size w2.heap.size w3.heap.size bx s s' N A (.slice a2 l2.length c2) u u' (.slice aw (els N A 0).length cw)) KB AG D D2 ((els N A 0).length : Int) (.slice av (els N A 0).length cv) (els N A 0) wr) (fun i _ => 101 - (intOf i).toNat)
              case atStart => exact ⟨0, by omega, Nat.zero_le _, rfl, LT.out⟩
              case round =>
                obtain ⟨k4, hk1, hk, rfl, lt4⟩ := hrel
                clear LT
                have cWo := lt4.sc.want.cell
                by_cases hlt : k4 < (els N A 0).length ∧ k4 < 100
                · obtain ⟨hlt, hlt2⟩ := hlt
                  have hW := ints_of_row lt4.sc.row (by omega) (fun x hx => by have := HS.out x hx; omega)
                  obtain ⟨b2, off, cap, ev, hb2, hcs⟩ := hW.at (by rw [List.length_map]; omega)
                  rw [List.length_map] at ev hcs
                  obtain ⟨rfl, rfl⟩ : aw = some ⟨b2, off, none⟩ ∧ cw = cap := by simpa using ev
                  have hc1 := hcs k4 hlt
                  rw [getD_cast] at hc1
                  have hin : (els N A 0).getD k4 0 < N := HS.out _ (by have e : (els N A 0).getD k4 0 = (els N A 0)[k4] := by simp [hlt]
                                                                       rw [e]; exact List.getElem_mem _)
                  generalize (els N A 0).getD k4 0 = x at *
                  have LT := Lib.hid lt4
                  clear hcs ev hb2 hW lt4
                  go_wp2_with fail
                  go_quiet ((go_at_call 11; exact quiet (HBn.out _ _)))
                  go_wp2
                  go_roundw
                  case rel => exact ⟨k4 + 1, by omega, by omega, by go_num, LT.out.kept ((Kept.refl _ _).drewN _) (fun h => h.keptNew ((Kept.refl _ _).drewN _))⟩
                  case measure => simp [intOf]; omega
                · have LT := Lib.hid lt4
                  clear lt4
                  by_cases hA : k4 < (els N A 0).length
                  all_goals first | (exfalso; omega) | skip
                  all_goals
                    go_wp2_with fail
                    gi_wp2_with fail
                    refine ⟨trivial, ?_⟩
                    refine (callsIn_wide.2 (new_ok 1 wr (by omega))).mono ?_
                    rintro e w7 ⟨s1, v1, rfl, k7, hs1, hs1a, hs1b⟩
                    have lt7 := LT.out.kept k7 (fun h => h.keptNew (k7.of_no _))
                    have hbd : D < wr.heap.size ∧ D2 < wr.heap.size ∧ B ≤ wr.heap.size := ⟨lt_of_heap LT.out.def1, lt_of_heap LT.out.def2, LT.out.sc.size⟩
                    have cA7 := lt7.again.cell
                    have cW7 := lt7.sc.want.cell
                    have hi1 := ints_of_row lt7.row (by omega) (fun x hx => by have := HS.out x hx; omega)
                    have hi2 := ints_of_row lt7.sc.row (by omega) (fun x hx => by have := HS.out x hx; omega)
                    have hsame := sameInts_ok _ _ _ _ w7 hi1 hi2
                    rw [decide_eq_true (rfl : ((els N A 0).map fun x : Nat => (x : Int)) = (els N A 0).map fun x : Nat => (x : Int))] at hsame
                    have HSM := Lib.hid hsame
                    have LT7 := Lib.hid lt7
                    have HS1 := Lib.hid hs1
                    have hs1l := hs1.lt
                    have HS1B := Lib.hid hs1b
                    clear hi1 hi2 hsame lt7 hs1 LT k7 cWo hs1b
                    gi_wp2_with fail
                    refine ⟨trivial, ?_⟩
                    refine (callsIn_wide.2 HSM.out).mono ?_
                    rintro e w' ⟨rfl, q6, rfl⟩
                    have LT8 := Lib.hid (LT7.out.kept ((Kept.refl _ _).drewN q6) (fun h => h.keptNew ((Kept.refl _ _).drewN q6)))
                    have HS8 := Lib.hid (HS1.out.drewN q6)
                    have hsz8 : (w7.drewN q6).heap.size = w7.heap.size := rfl
                    clear HSM LT7 HS1 cA7 cW7
                    generalize w7.drewN q6 = w8 at *
                    have cK8 := LT8.out.k.cell
                    have cW8 := LT8.out.sc.want.cell
                    have HPt := Lib.hid (put_ok s1 1 v1 _ w8 0 HS8.out (by omega))
                    gi_wp2_with fail
                    refine ⟨trivial, ?_⟩
                    refine (callsIn_wide.2 HPt.out).mono ?_
                    rintro e w9 ⟨rfl, k9, hs9⟩
                    have hs9b : SetAt w9 s1 1 v1 [1] := hs9
                    have sc9 := LT8.out.sc.keptNew (k9.mono fun j hj e => by have := HS1B.out _ e; omega)
                    have d19 := k9.heap LT8.out.def1 (fun e => by have := HS1B.out _ e; omega)
                    have d29 := k9.heap LT8.out.def2 (fun e => by have := HS1B.out _ e; omega)
                    have HGo := Lib.hid (gone_ok s1 1 v1 [1] w9 hs9b tidy_one sc9.it.tab)
                    have X9 := Lib.hid (And.intro sc9 (And.intro d19 d29))
                    clear sc9 d19 d29 hs9b hs9 k9 LT8 HS8 cK8 cW8 HPt
                    gi_wp2_with fail
                    refine ⟨trivial, ?_⟩
                    refine (callsIn_wide.2 HGo.out).mono ?_
                    rintro e w10 ⟨u10, rfl, k10, row10⟩
                    rw [els_one] at row10
                    have R10 := Lib.hid row10
                    have X10 := Lib.hid (And.intro (X9.out.1.keptNew (k10.of_no _)) (And.intro (k10.heap X9.out.2.1 (fun h => h)) (k10.heap X9.out.2.2 (fun h => h))))
                    clear X9 HGo row10
                    gi_wp2_with fail
                    have hi5 := ints_one w10
                    have hi6 : IntsAt (w10.alloc (.cells #[.int .i64 0] 3)) u10 [0] := ints_of_row (l := [0]) (row_no R10.out ((Kept.refl No _).alloc _)) (by decide) (by decide)
                    have hsame2 := sameInts_ok _ _ _ _ _ hi6 hi5
                    rw [decide_eq_true (rfl : ([0] : List Int) = [0])] at hsame2
                    have HS2 := Lib.hid hsame2
                    clear hi5 hi6 hsame2
                    refine ⟨trivial, ?_⟩
                    refine (callsIn_wide.2 HS2.out).mono ?_
                    rintro e w' ⟨rfl, q7, rfl⟩
                    have k11 : Kept No w10 ((w10.alloc (.cells #[.int .i64 0] 3)).drewN q7) := ((Kept.refl No _).alloc _).drewN _
                    have X11 := Lib.hid (And.intro (X10.out.1.keptNew (k11.of_no _)) (And.intro (k11.heap X10.out.2.1 (fun h => h)) (k11.heap X10.out.2.2 (fun h => h))))
                    clear HS2 k11 X10 R10
                    generalize (w10.alloc (.cells #[.int .i64 0] 3)).drewN q7 = w11 at *
                    have cR := X11.out.1.res.cell
                    have fR := X11.out.1.res.frozen
                    gi_wp2_with fail
                    have bR := X11.out.1.res
                    have kR : Kept (fun j => j = w.heap.size + 1) w11 (w11.setCell ⟨w.heap.size + 1, 0, none⟩ (.bool true)) := (Kept.refl _ _).setCell _ _ (fun _ => rfl)
                    have nR1 : D ≠ w.heap.size + 1 := fun e => by have h1 := X11.out.2.1; rw [e] at h1; exact absurd (h1.symm.trans bR) (by simp)
                    have nR2 : D2 ≠ w.heap.size + 1 := fun e => by have h1 := X11.out.2.2; rw [e] at h1; exact absurd (h1.symm.trans bR) (by simp)
                    have e1 := kR.heap X11.out.2.1 nR1
                    have e2 := kR.heap X11.out.2.2 nR2
                    have b1 := bR.set (.bool true)
                    have c1 : Kept No w (w11.setCell ⟨w.heap.size + 1, 0, none⟩ (.bool true)) := X11.out.1.base.next kR (fun j hj e => by omega)
                    generalize w11.setCell ⟨w.heap.size + 1, 0, none⟩ (.bool true) = w12 at *
                    refine ⟨by simp, .inl ⟨_, _, rfl, run_takeDeferred e2, ?_⟩⟩
                    have kP2 := kept_putObj (M := fun j => j = D2) (.deferred none) e2 rfl
                    have e3 := kP2.heap e1 hne
                    have b3 := boxK b1 kP2 (fun e => nR2 e.symm)
                    refine ⟨by simp, .inl ⟨_, _, rfl, run_takeDeferred e3, ?_⟩⟩
                    have kP1 := kept_putObj (M := fun j => j = D) (.deferred none) e3 rfl
                    have b4 := boxK b3 kP1 (fun e => nR1 e.symm)
                    have hle := X11.out.1.below.1
                    have c2 : Kept No w ((w12.putObj D2 (.deferred none)).putObj D (.deferred none)) := (c1.next kP2 (fun j hj e => by omega)).next kP1 (fun j hj e => by omega)
                    have cF := b4.cell
                    exact ⟨_, results_box (b := true) rfl _ _ (w.heap.size + 1) rfl Tryd.underlying4 cF, rfl, c2.below (Nat.le_refl _) (fun _ _ h => h)⟩
          case stop =>
            rintro D c pre W hD hp (⟨rfl, sc, bk, h41⟩ | h) hdef
            · have hl41 : 41 ≤ (els N A 0).length := by have := hp.length_le; omega
              have cE5 : (W.alloc (.cells #[.slice none 0 0] 22)).cell? ⟨w3.heap.size, 0, none⟩ = some (eachFn bx) := (boxK sc.each ((Kept.refl No _).alloc _) (fun h => h)).cell
              have SC5 := sc.keptNew ((Kept.refl _ W).alloc (.cells #[.slice none 0 0] 22))
              have BK5 := boxK bk ((Kept.refl No W).alloc (.cells #[.slice none 0 0] 22)) (fun h => h)
              have def5 := ((Kept.refl No W).alloc (.cells #[.slice none 0 0] 22)).heap hdef (fun h => h)
              gi_wp2_with fail
              have bG := Boxed.new W 22 (.slice none 0 0)
              have hszW := sc.size
              have hDlt := lt_of_heap hdef
              have hKBlt := bk.lt
              have hsz5 : (W.alloc (.cells #[.slice none 0 0] 22)).heap.size = W.heap.size + 1 := by simp
              clear sc bk hdef hp HW HSR hsc bK cE2
              generalize W.heap.size = AG at *
              generalize W.alloc (.cells #[.slice none 0 0] 22) = W5 at *
              have X5 := Lib.hid (And.intro SC5 (And.intro BK5 def5))
              refine' range_told rfl (by omega) (gf := 21) (lb := #[.pointer (some ⟨bx, 0, none⟩)]) rfl trivial (enters_of Tryd.func21 (by kernel_rfl) rfl)
                (each_stops (9 - 1) (by omega) bx s' N u' A (Free B u) SC5.leaves W5 SC5.it) (fun k hk => .inr (by omega)) (fun _ => rfl)
                (fun (pre : List Nat) W => (∃ v, Boxed W AG 22 v ∧ W.ownsRow W5.heap.size 3 1 v pre.length (nums pre) ∧ True) ∧ Kept (fun k => k = AG ∨ W5.heap.size ≤ k) W5 W)
                (fun _ _ _ => False)
                (OwnFrom.and (Own.from (holdsRow_own W5.heap.size AG 22 3 1 (fun pre : List Nat => pre.length) (fun pre => nums pre) (fun _ _ => True)) _) (ownFrom_kept (fun k h => .inr h)))
                (fun _ _ _ _ _ hs _ _ => hs)
                ⟨⟨_, bG, World.ownsRow_nil _ _ _ _, trivial⟩, Kept.refl _ _⟩
                _ ?assign3 ?body3 ?done3 ?stop3
              case assign3 =>
                intro l x W K hK
                gi_wp2
                exact hK
              case body3 =>
                rintro lo pre x W _ _ ⟨⟨v, hv, hrow, _⟩, hB3⟩ hlt
                have hc := hv.cell
                have hB2 : W5.heap.size ≤ W.heap.size := hB3.size
                clear SC5 BK5 def5 bG cE5
                gi_wp2_with (gi_at_builtin; refine wpListIn_append_own _ rfl _ _ 22 rfl W5.heap.size 3 i0 (.int .i64 0) 1 8 Tryd.underlying22 hi hz0 hz1 hz2 rfl (by decide) _ _ _ rfl (hrow.alloc _) ⟨W.heap.size, 0, none⟩ 1 1 [.int .i64 (x : Int)] rfl rfl (cell_one_new _ _ _) (by simp [Value.oneCell']) (by unfold maxLen; omega) (by omega) (by simp; omega) ?_; intro v' w1' hown' hgrow _; obtain ⟨g', cap', rfl⟩ := ownsRow_succ hown'; obtain ⟨hv1, hv2, hr2, hk2, hb2⟩ := appendedK (M := fun k => k = AG ∨ W5.heap.size ≤ k) hv (by decide) hrow (fun j h => .inr h) (.inl rfl) hown' hgrow; have hc1 := hv1.cell; have hf1 := hv1.frozen)
                exact ⟨hk2.from _, hb2.mono fun j _ e => .inr (by omega), ⟨_, hv2, by simpa [nums] using hr2, trivial⟩, hB3.trans hb2⟩
              case stop3 =>
                rintro D2 c pre W _ _ h _
                exact h.elim
              case done3 =>
                rintro D2 ys W hD2 rfl ⟨⟨v, hv, hrow, _⟩, hB3⟩ hdef2
                have k5 : Kept (fun j => B ≤ j) W5 W := hB3.mono fun j _ e => by omega
                have late : Late (Scene w B w.heap.size (w.heap.size + 1) w1.heap.size w2.heap.size w3.heap.size bx s s' N A (.slice a2 l2.length c2) u u' (.slice aw (els N A 0).length cw)) KB AG D D2 (41 : Int) v (els N A 0) W := ⟨X5.out.1.keptNew k5, boxK X5.out.2.1 hB3 (by omega), hv, own_zero hrow, hB3.heap X5.out.2.2 (by omega), hdef2⟩
                have hne : D ≠ D2 := by omega
                have LT := Lib.hid late
                have cW6 := late.sc.want.cell
                clear SC5 BK5 def5 bG cE5 X5 hrow hv hB3 k5 late hdef2
                gi_wp2_with fail
                obtain ⟨av, cv, rfl⟩ := row_len LT.out.row
                have hbn := fun (W : World) (q : Nat) => bound_ok n (W.drewN q) hn hn2
                rw [HN.out] at hbn
                have HBn := Lib.hid hbn
                clear cW6 hbn
                obtain ⟨wo4, hwo4⟩ : ∃ wo4 : World, wo4 = W := ⟨_, rfl⟩
                clear hwo4
                refine wpIn_wide.2 ?_
                go_loopw [18] (fun i wr => ∃ k : Nat, k ≤ 100 ∧ (k ≤ (els N A 0).length) ∧ i = .int .i64 k ∧ Late (Scene w B w.heap.size (w.heap.size + 1) w1.heap.size w2.heap.size w3.heap.size bx s s' N A (.slice a2 l2.length c2) u u' (.slice aw (els N A 0).length cw)) KB AG D D2 (41 : Int) (.slice av (els N A 0).length cv) (els N A 0) wr) (fun i _ => 101 - (intOf i).toNat)
                case atStart => exact ⟨0, by omega, Nat.zero_le _, rfl, LT.out⟩
                case round =>
                  obtain ⟨k4, hk1, hk, rfl, lt4⟩ := hrel
                  clear LT
                  have cWo := lt4.sc.want.cell
                  by_cases hlt : k4 < (els N A 0).length ∧ k4 < 100
                  · obtain ⟨hlt, hlt2⟩ := hlt
                    have hW := ints_of_row lt4.sc.row (by omega) (fun x hx => by have := HS.out x hx; omega)
                    obtain ⟨b2, off, cap, ev, hb2, hcs⟩ := hW.at (by rw [List.length_map]; omega)
                    rw [List.length_map] at ev hcs
                    obtain ⟨rfl, rfl⟩ : aw = some ⟨b2, off, none⟩ ∧ cw = cap := by simpa using ev
                    have hc1 := hcs k4 hlt
                    rw [getD_cast] at hc1
                    have hin : (els N A 0).getD k4 0 < N := HS.out _ (by have e : (els N A 0).getD k4 0 = (els N A 0)[k4] := by simp [hlt]
                                                                         rw [e]; exact List.getElem_mem _)
                    generalize (els N A 0).getD k4 0 = x at *
                    have LT := Lib.hid lt4
                    clear hcs ev hb2 hW lt4
                    go_wp2_with fail
                    go_quiet ((go_at_call 11; exact quiet (HBn.out _ _)))
                    go_wp2
                    go_roundw
                    case rel => exact ⟨k4 + 1, by omega, by omega, by go_num, LT.out.kept ((Kept.refl _ _).drewN _) (fun h => h.keptNew ((Kept.refl _ _).drewN _))⟩
                    case measure => simp [intOf]; omega
                  · have LT := Lib.hid lt4
                    clear lt4
                    by_cases hA : k4 < (els N A 0).length
                    all_goals first | (exfalso; omega) | skip
                    all_goals rcases Nat.lt_or_ge 41 (els N A 0).length with h41a | h41a
                    all_goals first | (exfalso; omega) | skip
                    all_goals
                      go_wp2_with fail
                      gi_wp2_with fail
                      refine ⟨trivial, ?_⟩
                      refine (callsIn_wide.2 (new_ok 1 wr (by omega))).mono ?_
                      rintro e w7 ⟨s1, v1, rfl, k7, hs1, hs1a, hs1b⟩
                      have lt7 := LT.out.kept k7 (fun h => h.keptNew (k7.of_no _))
                      have hbd : D < wr.heap.size ∧ D2 < wr.heap.size ∧ B ≤ wr.heap.size := ⟨lt_of_heap LT.out.def1, lt_of_heap LT.out.def2, LT.out.sc.size⟩
                      have cA7 := lt7.again.cell
                      have cW7 := lt7.sc.want.cell
                      have hi1 := ints_of_row lt7.row (by omega) (fun x hx => by have := HS.out x hx; omega)
                      have hi2 := ints_of_row lt7.sc.row (by omega) (fun x hx => by have := HS.out x hx; omega)
                      have hsame := sameInts_ok _ _ _ _ w7 hi1 hi2
                      rw [decide_eq_true (rfl : ((els N A 0).map fun x : Nat => (x : Int)) = (els N A 0).map fun x : Nat => (x : Int))] at hsame
                      have HSM := Lib.hid hsame
                      have LT7 := Lib.hid lt7
                      have HS1 := Lib.hid hs1
                      have hs1l := hs1.lt
                      have HS1B := Lib.hid hs1b
                      clear hi1 hi2 hsame lt7 hs1 LT k7 cWo hs1b
                      gi_wp2_with fail
                      refine ⟨trivial, ?_⟩
                      refine (callsIn_wide.2 HSM.out).mono ?_
                      rintro e w' ⟨rfl, q6, rfl⟩
                      have LT8 := Lib.hid (LT7.out.kept ((Kept.refl _ _).drewN q6) (fun h => h.keptNew ((Kept.refl _ _).drewN q6)))
                      have HS8 := Lib.hid (HS1.out.drewN q6)
                      have hsz8 : (w7.drewN q6).heap.size = w7.heap.size := rfl
                      clear HSM LT7 HS1 cA7 cW7
                      generalize w7.drewN q6 = w8 at *
                      have cK8 := LT8.out.k.cell
                      have cW8 := LT8.out.sc.want.cell
                      have HPt := Lib.hid (put_ok s1 1 v1 _ w8 0 HS8.out (by omega))
                      gi_wp2_with fail
                      refine ⟨trivial, ?_⟩
                      refine (callsIn_wide.2 HPt.out).mono ?_
                      rintro e w9 ⟨rfl, k9, hs9⟩
                      have hs9b : SetAt w9 s1 1 v1 [1] := hs9
                      have sc9 := LT8.out.sc.keptNew (k9.mono fun j hj e => by have := HS1B.out _ e; omega)
                      have d19 := k9.heap LT8.out.def1 (fun e => by have := HS1B.out _ e; omega)
                      have d29 := k9.heap LT8.out.def2 (fun e => by have := HS1B.out _ e; omega)
                      have HGo := Lib.hid (gone_ok s1 1 v1 [1] w9 hs9b tidy_one sc9.it.tab)
                      have X9 := Lib.hid (And.intro sc9 (And.intro d19 d29))
                      clear sc9 d19 d29 hs9b hs9 k9 LT8 HS8 cK8 cW8 HPt
                      gi_wp2_with fail
                      refine ⟨trivial, ?_⟩
                      refine (callsIn_wide.2 HGo.out).mono ?_
                      rintro e w10 ⟨u10, rfl, k10, row10⟩
                      rw [els_one] at row10
                      have R10 := Lib.hid row10
                      have X10 := Lib.hid (And.intro (X9.out.1.keptNew (k10.of_no _)) (And.intro (k10.heap X9.out.2.1 (fun h => h)) (k10.heap X9.out.2.2 (fun h => h))))
                      clear X9 HGo row10
                      gi_wp2_with fail
                      have hi5 := ints_one w10
                      have hi6 : IntsAt (w10.alloc (.cells #[.int .i64 0] 3)) u10 [0] := ints_of_row (l := [0]) (row_no R10.out ((Kept.refl No _).alloc _)) (by decide) (by decide)
                      have hsame2 := sameInts_ok _ _ _ _ _ hi6 hi5
                      rw [decide_eq_true (rfl : ([0] : List Int) = [0])] at hsame2
                      have HS2 := Lib.hid hsame2
                      clear hi5 hi6 hsame2
                      refine ⟨trivial, ?_⟩
                      refine (callsIn_wide.2 HS2.out).mono ?_
                      rintro e w' ⟨rfl, q7, rfl⟩
                      have k11 : Kept No w10 ((w10.alloc (.cells #[.int .i64 0] 3)).drewN q7) := ((Kept.refl No _).alloc _).drewN _
                      have X11 := Lib.hid (And.intro (X10.out.1.keptNew (k11.of_no _)) (And.intro (k11.heap X10.out.2.1 (fun h => h)) (k11.heap X10.out.2.2 (fun h => h))))
                      clear HS2 k11 X10 R10
                      generalize (w10.alloc (.cells #[.int .i64 0] 3)).drewN q7 = w11 at *
                      have cR := X11.out.1.res.cell
                      have fR := X11.out.1.res.frozen
                      gi_wp2_with fail
                      have bR := X11.out.1.res
                      have kR : Kept (fun j => j = w.heap.size + 1) w11 (w11.setCell ⟨w.heap.size + 1, 0, none⟩ (.bool true)) := (Kept.refl _ _).setCell _ _ (fun _ => rfl)
                      have nR1 : D ≠ w.heap.size + 1 := fun e => by have h1 := X11.out.2.1; rw [e] at h1; exact absurd (h1.symm.trans bR) (by simp)
                      have nR2 : D2 ≠ w.heap.size + 1 := fun e => by have h1 := X11.out.2.2; rw [e] at h1; exact absurd (h1.symm.trans bR) (by simp)
                      have e1 := kR.heap X11.out.2.1 nR1
                      have e2 := kR.heap X11.out.2.2 nR2
                      have b1 := bR.set (.bool true)
                      have c1 : Kept No w (w11.setCell ⟨w.heap.size + 1, 0, none⟩ (.bool true)) := X11.out.1.base.next kR (fun j hj e => by omega)
                      generalize w11.setCell ⟨w.heap.size + 1, 0, none⟩ (.bool true) = w12 at *
                      refine ⟨by simp, .inl ⟨_, _, rfl, run_takeDeferred e2, ?_⟩⟩
                      have kP2 := kept_putObj (M := fun j => j = D2) (.deferred none) e2 rfl
                      have e3 := kP2.heap e1 hne
                      have b3 := boxK b1 kP2 (fun e => nR2 e.symm)
                      refine ⟨by simp, .inl ⟨_, _, rfl, run_takeDeferred e3, ?_⟩⟩
                      have kP1 := kept_putObj (M := fun j => j = D) (.deferred none) e3 rfl
                      have b4 := boxK b3 kP1 (fun e => nR1 e.symm)
                      have hle := X11.out.1.below.1
                      have c2 : Kept No w ((w12.putObj D2 (.deferred none)).putObj D (.deferred none)) := (c1.next kP2 (fun j hj e => by omega)).next kP1 (fun j hj e => by omega)
                      have cF := b4.cell
                      exact ⟨_, results_box (b := true) rfl _ _ (w.heap.size + 1) rfl Tryd.underlying4 cF, rfl, c2.below (Nat.le_refl _) (fun _ _ h => h)⟩
            · exact absurd hp h
end Go.Proofs.YtagbclijbeodaaaDoor
