/- A part. -/
import Derived.Test.YtabhieafjkaocaaGreatMabe
import Derived.Test.YtabhieafjkaocaaGreatMaao
import Derived.Test.YtabhieafjkaocaaGreatMaau
import Derived.ChangeKeysEq
import Derived.Laws.StructEq
set_option linter.unusedVariables false
set_option linter.unusedSimpArgs false
namespace Go.Proofs.YtabhieafjkaocaaGreat
open Go.RowKit Bm
theorem countP_range_add (p : Nat → Bool) (a b : Nat) : (List.range (a + b)).countP p = (List.range a).countP p + (List.range b).countP (fun i => p (a + i)) := by
  rw [List.range_add, List.countP_append, List.countP_map]; rfl
theorem pc_count (k : Nat) : ∀ x, pc k x = (List.range k).countP fun i => x.testBit i := by
  induction k with
  | zero => intro x; rfl
  | succ k ih =>
    intro x
    rw [pc, ih, show k + 1 = 1 + k by omega, countP_range_add]
    congr 1
    · rw [show List.range 1 = [0] from rfl, List.countP_cons, List.countP_nil, Nat.testBit_zero]
      have : x % 2 = 0 ∨ x % 2 = 1 := by omega
      rcases this with h | h <;> simp [h]
    · congr 1
      funext i
      rw [Nat.testBit_div_two, Nat.add_comm]
theorem cnt_count (ws : List Nat) (hw : ∀ j, ws.getD j 0 < 18446744073709551616) : cnt ws = (List.range (64 * ws.length)).countP (mem ws) := by
  induction ws with
  | nil => rfl
  | cons x ws ih =>
    have hx := hw 0
    have := ih (fun j => by have := hw (j + 1); simpa using this)
    rw [show 64 * (x :: ws).length = 64 + 64 * ws.length by simp; omega, countP_range_add]
    have e1 : cnt (x :: ws) = pc 64 x + cnt ws := by simp [cnt]
    have A : (List.range 64).countP (mem (x :: ws)) = pc 64 x := by
      rw [pc_count]
      apply List.countP_congr
      intro i hi
      rw [List.mem_range] at hi
      unfold mem
      rw [show i / 64 = 0 by omega, show i % 64 = i by omega]
      simp
    have B : (List.range (64 * ws.length)).countP (fun i => mem (x :: ws) (64 + i)) = cnt ws := by
      rw [this]
      apply List.countP_congr
      intro i _
      unfold mem
      rw [show (64 + i) / 64 = i / 64 + 1 by omega, show (64 + i) % 64 = i % 64 by omega]
      simp
    omega
def usedTo (ws : List Nat) (k : Nat) : Nat := (List.range k).countP (mem ws)
theorem usedTo_succ (ws : List Nat) (k : Nat) : usedTo ws (k + 1) = usedTo ws k + if mem ws k = true then 1 else 0 := by
  unfold usedTo
  rw [countP_range_add]
  congr 1
  show (List.countP (fun i => mem ws (k + i)) [0]) = _
  rw [List.countP_cons, List.countP_nil]
  simp
theorem usedTo_le (ws : List Nat) (k : Nat) : usedTo ws k ≤ k := by
  have := List.countP_le_length (p := mem ws) (l := List.range k)
  rw [List.length_range] at this
  exact this
theorem usedTo_all {n : Nat} {ws : List Nat} (h : Tidy n ws) : usedTo ws n = cnt ws := by
  rw [cnt_count ws h.low]
  have hs := h.size
  have : 64 * ws.length = n + (64 * ws.length - n) := by omega
  rw [this, countP_range_add]
  have hz : (List.range (64 * ws.length - n)).countP (fun i => mem ws (n + i)) = 0 := by
    rw [List.countP_eq_zero]
    intro i _
    rw [show mem ws (n + i) = false from h.top (n + i) (by omega)]
    simp
  rw [hz]
  rfl
structure SeenM where
  kind : List Int
  body : List (List UInt8)
  root : Root8
def seenK (st : StM) (dm : DiskM) (i : Nat) : Int := if mem st.now.ws i = true then ((liesM dm st.count i).1.kind.toNat : Int) else -1
def seenB (st : StM) (dm : DiskM) (i : Nat) : List UInt8 := if mem st.now.ws i = true then (liesM dm st.count i).1.body else []
def seenM (st : StM) (dm : DiskM) : SeenM := ⟨(List.range st.now.n).map (seenK st dm), (List.range st.now.n).map (seenB st dm), st.now.root⟩
structure Looks (st : StM) (dm : DiskM) : Prop where
  lives : st.dead = false
  lies : ∀ i, i < st.now.n → mem st.now.ws i = true → (liesM dm st.count i).2 = 0 ∧ (liesM dm st.count i).1.number = i ∧ 1 ≤ (liesM dm st.count i).1.serial ∧ (liesM dm st.count i).1.serial ≤ st.serial
theorem Looks.used {st : StM} {dm : DiskM} (h : Looks st dm) (ho : st.now.Ok) {i : Nat} (hi : i < st.now.n) (hm : mem st.now.ws i = true) : st.read dm i = ((liesM dm st.count i).1, 0) := by
  have h0 : i ≠ 0 := by rintro rfl; rw [ho.zero] at hm; cases hm
  have ha : st.now.asked i = 0 := by
    unfold HeldM.asked
    rw [if_neg (by omega), if_pos hm]
  unfold StM.read
  rw [if_neg (by simp [h.lives]), if_neg (by simp [ha])]
  exact Prod.ext rfl (h.lies i hi hm).1
theorem Looks.free {st : StM} {dm : DiskM} (h : Looks st dm) {i : Nat} (hi : i < st.now.n) (hm : mem st.now.ws i = false) : st.read dm i = (zeroP, if i = 0 then 1 else 71) := by
  have ha : st.now.asked i = if i = 0 then 1 else 71 := by
    unfold HeldM.asked
    by_cases h0 : i = 0
    · rw [if_pos (.inl h0), if_pos h0]
    · rw [if_neg (by omega), if_neg (by simp [hm]), if_neg h0]
  unfold StM.read
  rw [if_neg (by simp [h.lives]), if_pos (by rw [ha]; split <;> decide), ha]
def kindC (l : List Int) : List Value := l.map fun k => .int .i64 k
def textC (l : List (List UInt8)) : List Value := l.map fun b => .string ⟨⟨b⟩⟩
structure SeenAt (w : World) (base : Nat) (kv bv : Value) (m : SeenM) : Prop where
  kind : w.ownsRow base 3 1 kv m.kind.length (kindC m.kind)
  body : w.ownsRow base 9 1 bv m.body.length (textC m.body)
def seenC (kv bv : Value) (r : Root8) : Array Value := #[kv, bv, .int .u32 (r.a : Int), .int .u32 (r.b : Int), .int .u32 (r.c : Int), .int .u32 (r.d : Int), .int .u32 (r.e : Int), .int .u32 (r.f : Int), .int .u32 (r.g : Int), .int .u32 (r.h : Int)]
theorem seenC_set (kv bv : Value) (r : Root8) (i x : Nat) (hi : i < 8) : (seenC kv bv r).setIfInBounds (2 + i) (.int .u32 (x : Int)) = seenC kv bv (r.set i x) := by
  have hi' : i = 0 ∨ i = 1 ∨ i = 2 ∨ i = 3 ∨ i = 4 ∨ i = 5 ∨ i = 6 ∨ i = 7 := by omega
  rcases hi' with rfl | rfl | rfl | rfl | rfl | rfl | rfl | rfl <;> simp [Root8.set, seenC]
def rootTo (r : Root8) : Nat → Root8
  | 0 => Root8.zero
  | k + 1 => (rootTo r k).set k (r.get k)
theorem rootTo_all (r : Root8) : rootTo r 8 = r := by
  cases r; rfl
end Go.Proofs.YtabhieafjkaocaaGreat
namespace Go.Proofs.YtabhieafjkaocaaGreat
open Go.RowKit Go.Lib Bm
set_option maxRecDepth 20000
theorem seen_size : (Tryz.prog.info? 55).map (·.size) = some 10 := by kernel_rfl
theorem page_size4 : (Tryz.prog.info? 28).map (·.size) = some 4 := by kernel_rfl
theorem infoInt : (Tryz.prog.info? 3).map (fun i => (i.zero, i.size, i.bytes)) = some (some (.int .i64 0), 1, 8) := by kernel_rfl
theorem infoString : (Tryz.prog.info? 9).map (fun i => (i.zero, i.size, i.bytes)) = some (some (.string ⟨#[]⟩), 1, 16) := by kernel_rfl
theorem set10 (w : World) (B : Nat) (t : TypeId) (z0 z1 z2 z3 z4 z5 z6 z7 z8 z9 v0 v1 v2 v3 v4 v5 v6 v7 v8 v9 : Value) (h : w.heap[B]? = some (.cells #[z0, z1, z2, z3, z4, z5, z6, z7, z8, z9] t (0, 0))) : ((((((((((w.setCell ⟨B, 0, none⟩ v0).setCell ⟨B, 1, none⟩ v1).setCell ⟨B, 2, none⟩ v2).setCell ⟨B, 3, none⟩ v3).setCell ⟨B, 4, none⟩ v4).setCell ⟨B, 5, none⟩ v5).setCell ⟨B, 6, none⟩ v6).setCell ⟨B, 7, none⟩ v7).setCell ⟨B, 8, none⟩ v8).setCell ⟨B, 9, none⟩ v9).heap[B]? = some (.cells #[v0, v1, v2, v3, v4, v5, v6, v7, v8, v9] t (0, 0)) := by
  have H := (heap_setCell_same _ B 9 _ _ v9 (heap_setCell_same _ B 8 _ _ v8 (heap_setCell_same _ B 7 _ _ v7 (heap_setCell_same _ B 6 _ _ v6 (heap_setCell_same _ B 5 _ _ v5 (heap_setCell_same _ B 4 _ _ v4 (heap_setCell_same _ B 3 _ _ v3 (heap_setCell_same _ B 2 _ _ v2 (heap_setCell_same _ B 1 _ _ v1 (heap_setCell_same _ B 0 _ _ v0 h))))))))))
  simp only [List.setIfInBounds_toArray, List.set_cons_succ, List.set_cons_zero] at H
  exact H
theorem kept10 (w : World) (B : Nat) (v0 v1 v2 v3 v4 v5 v6 v7 v8 v9 : Value) : Kept (fun k => k = B) w ((((((((((w.setCell ⟨B, 0, none⟩ v0).setCell ⟨B, 1, none⟩ v1).setCell ⟨B, 2, none⟩ v2).setCell ⟨B, 3, none⟩ v3).setCell ⟨B, 4, none⟩ v4).setCell ⟨B, 5, none⟩ v5).setCell ⟨B, 6, none⟩ v6).setCell ⟨B, 7, none⟩ v7).setCell ⟨B, 8, none⟩ v8).setCell ⟨B, 9, none⟩ v9) := (((((((((((Kept.refl (fun k => k = B) w).setCell ⟨B, 0, none⟩ v0 (fun _ => rfl)).setCell ⟨B, 1, none⟩ v1 (fun _ => rfl)).setCell ⟨B, 2, none⟩ v2 (fun _ => rfl)).setCell ⟨B, 3, none⟩ v3 (fun _ => rfl)).setCell ⟨B, 4, none⟩ v4 (fun _ => rfl)).setCell ⟨B, 5, none⟩ v5 (fun _ => rfl)).setCell ⟨B, 6, none⟩ v6 (fun _ => rfl)).setCell ⟨B, 7, none⟩ v7 (fun _ => rfl)).setCell ⟨B, 8, none⟩ v8 (fun _ => rfl)).setCell ⟨B, 9, none⟩ v9 (fun _ => rfl))
structure LkAt (w wr : World) (A V j : Nat) (kv bv : Value) (st : StM) (dm : DiskM) : Prop where
  res : wr.heap[A]? = some (.cells #[.slice none 0 0, .slice none 0 0, .int .u32 0, .int .u32 0, .int .u32 0, .int .u32 0, .int .u32 0, .int .u32 0, .int .u32 0, .int .u32 0] 55 (0, 0))
  row : wr.heap[V]? = some (.cells (seenC kv bv Root8.zero) 55 (0, 0))
  kind : wr.ownsRow w.heap.size 3 1 kv j (kindC ((List.range j).map (seenK st dm)))
  body : wr.ownsRow w.heap.size 9 1 bv j (textC ((List.range j).map (seenB st dm)))
  kept : Kept No w wr
theorem LkAt.nk {w wr w7 : World} {A V j : Nat} {kv bv : Value} {st : StM} {dm : DiskM} (h : LkAt w wr A V j kv bv st dm) (k7 : Kept No wr w7) : ∀ q cs t, w7.heap[q]? = some (.cells cs t (0, 0)) → t ≠ 3 → ¬ kv.ownBlock = some q := fun q cs t hq hne e => by
  obtain ⟨cs', hc'⟩ := row_cells (k7.row h.kind (fun _ _ h => h)) e
  exact cells_ne hq hc' hne rfl
theorem LkAt.c0 {w wr w7 : World} {A V j : Nat} {kv bv : Value} {st : StM} {dm : DiskM} (h : LkAt w wr A V j kv bv st dm) (k7 : Kept No wr w7) : w7.cell? ⟨V, 0, none⟩ = some kv := (cell_of_row w7 V 0 _ _ _ (k7.heap h.row (fun h => h))).trans rfl
theorem LkAt.rk {w wr w7 : World} {A V j : Nat} {kv bv : Value} {st : StM} {dm : DiskM} (h : LkAt w wr A V j kv bv st dm) (k7 : Kept No wr w7) (o : Obj) : (w7.alloc o).ownsRow w.heap.size 3 1 kv j (kindC ((List.range j).map (seenK st dm))) := ((Kept.refl No w7).alloc o).row (k7.row h.kind (fun _ _ h => h)) (fun _ _ h => h)
theorem LkAt.next {w wr w7 w8 w10 : World} {A V j : Nat} {kv bv : Value} {st : StM} {dm : DiskM} {g2 c2 g3 c3 : Nat} {kc : Int} {sb : List UInt8} (h : LkAt w wr A V j kv bv st dm) (hA : w.heap.size = A) (hAV : A < V) (k7 : Kept No wr w7) (kg : Kept (fun k => kv.ownBlock = some k) w7 w8)
    (hown : w8.ownsRow w.heap.size 3 1 (.slice (some ⟨g2, 0, none⟩) (j + 1) c2) (j + 1) (kindC ((List.range j).map (seenK st dm)) ++ [.int .i64 kc]))
    (kg3 : Kept (fun k => bv.ownBlock = some k) (w8.setCell ⟨V, 0, none⟩ (.slice (some ⟨g2, 0, none⟩) (j + 1) c2)) w10)
    (hown3 : w10.ownsRow w.heap.size 9 1 (.slice (some ⟨g3, 0, none⟩) (j + 1) c3) (j + 1) (textC ((List.range j).map (seenB st dm)) ++ [.string ⟨⟨sb⟩⟩]))
    (hk : seenK st dm j = kc) (hb : seenB st dm j = sb) :
    LkAt w (w10.setCell ⟨V, 1, none⟩ (.slice (some ⟨g3, 0, none⟩) (j + 1) c3)) A V (j + 1) (.slice (some ⟨g2, 0, none⟩) (j + 1) c2) (.slice (some ⟨g3, 0, none⟩) (j + 1) c3) st dm := by
  have kz : Kept (fun k => k = V) w8 (w8.setCell ⟨V, 0, none⟩ (.slice (some ⟨g2, 0, none⟩) (j + 1) c2)) := (Kept.refl _ _).setCell _ _ (fun _ => rfl)
  have kz3 : Kept (fun k => k = V) w10 (w10.setCell ⟨V, 1, none⟩ (.slice (some ⟨g3, 0, none⟩) (j + 1) c3)) := (Kept.refl _ _).setCell _ _ (fun _ => rfl)
  have hK7 := k7.row h.kind (fun _ _ e => e)
  have hB7 := k7.row h.body (fun _ _ e => e)
  have hV7 := k7.heap h.row (fun e => e)
  have hA7 := k7.heap h.res (fun e => e)
  have nkv : ∀ q cs t, w7.heap[q]? = some (.cells cs t (0, 0)) → t ≠ 3 → ¬ kv.ownBlock = some q := fun q cs t hq hne e => by
    obtain ⟨cs', hc'⟩ := row_cells hK7 e
    exact cells_ne hq hc' hne rfl
  have hV8 := kg.heap hV7 (nkv _ _ _ hV7 (by decide))
  have hA8 := kg.heap hA7 (nkv _ _ _ hA7 (by decide))
  have hB8 := kg.row hB7 (fun g hg e => by obtain ⟨cs, hc⟩ := row_cells hB7 hg; exact nkv g cs _ hc (by decide) e)
  have nbv : ∀ q cs t, w8.heap[q]? = some (.cells cs t (0, 0)) → t ≠ 9 → ¬ bv.ownBlock = some q := fun q cs t hq hne e => by
    obtain ⟨cs', hc'⟩ := row_cells hB8 e
    exact cells_ne hq hc' hne rfl
  have hV9 := heap_setCell_same w8 V 0 _ _ (.slice (some ⟨g2, 0, none⟩) (j + 1) c2) hV8
  have hA9 := kz.heap hA8 (by omega)
  have hK9 := kz.row hown (fun g hg e => by subst e; obtain ⟨cs, hc⟩ := row_cells hown hg; exact cells_ne hc hV8 (by decide) rfl)
  have hV10 := kg3.heap hV9 (nbv _ _ _ hV8 (by decide))
  have hA10 := kg3.heap hA9 (nbv _ _ _ hA8 (by decide))
  have hK10 := kg3.row hK9 (fun g hg e => by obtain ⟨cs, hc⟩ := row_cells hown hg; exact nbv g cs _ hc (by decide) e)
  have hV11 := heap_setCell_same w10 V 1 _ _ (.slice (some ⟨g3, 0, none⟩) (j + 1) c3) hV10
  refine ⟨kz3.heap hA10 (by omega), ?_, ?_, ?_, ?_⟩
  · simp only [seenC, List.setIfInBounds_toArray, List.set_cons_zero, List.set_cons_succ] at hV11
    exact hV11
  · have e : kindC ((List.range (j + 1)).map (seenK st dm)) = kindC ((List.range j).map (seenK st dm)) ++ [.int .i64 kc] := by simp [kindC, List.range_succ, hk]
    rw [e]
    exact kz3.row hK10 (fun g hg e => by subst e; obtain ⟨cs, hc⟩ := row_cells hK10 hg; exact cells_ne hc hV10 (by decide) rfl)
  · have e : textC ((List.range (j + 1)).map (seenB st dm)) = textC ((List.range j).map (seenB st dm)) ++ [.string ⟨⟨sb⟩⟩] := by simp [textC, List.range_succ, hb]
    rw [e]
    exact kz3.row hown3 (fun g hg e => by subst e; obtain ⟨cs, hc⟩ := row_cells hown3 hg; exact cells_ne hc hV10 (by decide) rfl)
  · exact ((((h.kept.trans k7).next kg (fun k hk e => by have := (h.kind.lt k e).1; omega)).next kz (fun k hk e => by omega)).next kg3 (fun k hk e => by have := (h.body.lt k e).1; omega)).next kz3 (fun k hk e => by omega)
structure LkR (w wr : World) (A V n k : Nat) (kv bv : Value) (st : StM) (dm : DiskM) : Prop where
  res : wr.heap[A]? = some (.cells #[.slice none 0 0, .slice none 0 0, .int .u32 0, .int .u32 0, .int .u32 0, .int .u32 0, .int .u32 0, .int .u32 0, .int .u32 0, .int .u32 0] 55 (0, 0))
  row : wr.heap[V]? = some (.cells (seenC kv bv (rootTo st.now.root k)) 55 (0, 0))
  kind : wr.ownsRow w.heap.size 3 1 kv n (kindC ((List.range n).map (seenK st dm)))
  body : wr.ownsRow w.heap.size 9 1 bv n (textC ((List.range n).map (seenB st dm)))
  kept : Kept No w wr
theorem LkR.next {w wr : World} {A V n k : Nat} {kv bv : Value} {st : StM} {dm : DiskM} (h : LkR w wr A V n k kv bv st dm) (hA : w.heap.size = A) (hAV : A < V) (hk : k < 8) :
    LkR w (wr.setCell ⟨V, 2 + k, none⟩ (.int .u32 (st.now.root.get k : Int))) A V n (k + 1) kv bv st dm := by
  have kz : Kept (fun q => q = V) wr (wr.setCell ⟨V, 2 + k, none⟩ (.int .u32 (st.now.root.get k : Int))) := (Kept.refl _ _).setCell _ _ (fun _ => rfl)
  have hV := heap_setCell_same wr V (2 + k) _ _ (.int .u32 (st.now.root.get k : Int)) h.row
  rw [seenC_set _ _ _ _ _ hk] at hV
  exact ⟨kz.heap h.res (by omega), hV, kz.row h.kind (fun g hg e => by subst e; obtain ⟨cs, hc⟩ := row_cells h.kind hg; exact cells_ne hc h.row (by decide) rfl),
    kz.row h.body (fun g hg e => by subst e; obtain ⟨cs, hc⟩ := row_cells h.body hg; exact cells_ne hc h.row (by decide) rfl), h.kept.next kz (fun q hq e => by omega)⟩
set_option maxHeartbeats 8000000 in
theorem look_ok (s u : Nat) (v bp : Value) (x : DiskH) (st : StM) (dm : DiskM) (w : World) (hS : StAt w s x.d u v bp st) (hX : DiskAt w x dm) (hfit : st.count + st.now.n ≤ dm.lies.length) (hl : Looks st dm) :
    Calls Tryz.prog 30 #[.pointer (some ⟨s, 0, none⟩)] w fun e w' => ∃ kv bv, e = .returned (.tuple #[.agg (seenC kv bv st.now.root), .bool true]) ∧ Kept No w w' ∧ SeenAt w' w.heap.size kv bv (seenM st dm) := by
  have HPG : Hid (∀ w', Kept No w w' → _) := Lib.hid (fun w' k => pages_ok s x.d u v bp st w' (hS.no k))
  have HSE : Hid (∀ w', Kept No w w' → _) := Lib.hid (fun w' k => serial_ok s x.d u v bp st w' (hS.no k))
  have HRO : Hid (∀ i, i < 8 → ∀ w', Kept No w w' → _) := Lib.hid (fun i hi w' k => root_ok s x.d u v bp st i w' (hS.no k) hi)
  have HFR : Hid (∀ w', Kept No w w' → _) := Lib.hid (fun w' k => free_ok s x.d u v bp st w' (hS.no k))
  have HRE : Hid (∀ i, i < 4294967296 → ∀ w', Kept No w w' → _) := Lib.hid (fun i hi w' k => sread_ok s u v bp x st dm i w' (hS.no k) (hX.kept k (fun _ _ h => h)) hfit hi)
  have HOK := Lib.hid hS.held.ok
  have HLK := Lib.hid hl
  have hn4 := hS.held.ok.most
  have hn2 := hS.held.ok.some_
  have hser : st.serial < 4611686018427387904 := by have := hS.next; omega
  have hall := usedTo_all hS.held.ok.tidy
  have HALL := Lib.hid hall
  clear hS hX hl hall
  generalize hNN : st.now.n = N at *
  have HNN := Lib.hid hNN
  clear hNN
  have hwN : IntKind.i64.wrap (N : Int) = (N : Int) := by rw [IntKind.wrap_i64]; omega
  go_enter Tryz.func30, Tryz.ntmps30
  go_wp2_with fail
  have hA := heap_alloc_new w (.cells #[.slice none 0 0, .slice none 0 0, .int .u32 0, .int .u32 0, .int .u32 0, .int .u32 0, .int .u32 0, .int .u32 0, .int .u32 0, .int .u32 0] 55)
  have k1 : Kept No w (w.alloc (.cells #[.slice none 0 0, .slice none 0 0, .int .u32 0, .int .u32 0, .int .u32 0, .int .u32 0, .int .u32 0, .int .u32 0, .int .u32 0, .int .u32 0] 55)) := (Kept.refl _ _).alloc _
  have hV := heap_alloc_new (w.alloc (.cells #[.slice none 0 0, .slice none 0 0, .int .u32 0, .int .u32 0, .int .u32 0, .int .u32 0, .int .u32 0, .int .u32 0, .int .u32 0, .int .u32 0] 55)) (.cells #[.slice none 0 0, .slice none 0 0, .int .u32 0, .int .u32 0, .int .u32 0, .int .u32 0, .int .u32 0, .int .u32 0, .int .u32 0, .int .u32 0] 55)
  have k2 : Kept No (w.alloc (.cells #[.slice none 0 0, .slice none 0 0, .int .u32 0, .int .u32 0, .int .u32 0, .int .u32 0, .int .u32 0, .int .u32 0, .int .u32 0, .int .u32 0] 55)) ((w.alloc (.cells #[.slice none 0 0, .slice none 0 0, .int .u32 0, .int .u32 0, .int .u32 0, .int .u32 0, .int .u32 0, .int .u32 0, .int .u32 0, .int .u32 0] 55)).alloc (.cells #[.slice none 0 0, .slice none 0 0, .int .u32 0, .int .u32 0, .int .u32 0, .int .u32 0, .int .u32 0, .int .u32 0, .int .u32 0, .int .u32 0] 55)) := (Kept.refl _ _).alloc _
  have e1 : (w.alloc (.cells #[.slice none 0 0, .slice none 0 0, .int .u32 0, .int .u32 0, .int .u32 0, .int .u32 0, .int .u32 0, .int .u32 0, .int .u32 0, .int .u32 0] 55)).heap.size = w.heap.size + 1 := by simp
  have e2 : ((w.alloc (.cells #[.slice none 0 0, .slice none 0 0, .int .u32 0, .int .u32 0, .int .u32 0, .int .u32 0, .int .u32 0, .int .u32 0, .int .u32 0, .int .u32 0] 55)).alloc (.cells #[.slice none 0 0, .slice none 0 0, .int .u32 0, .int .u32 0, .int .u32 0, .int .u32 0, .int .u32 0, .int .u32 0, .int .u32 0, .int .u32 0] 55)).heap.size = w.heap.size + 1 + 1 := by simp
  rw [e1] at hV
  have hA2 := k2.heap hA (fun h => h)
  have hst : LkAt w ((w.alloc (.cells #[.slice none 0 0, .slice none 0 0, .int .u32 0, .int .u32 0, .int .u32 0, .int .u32 0, .int .u32 0, .int .u32 0, .int .u32 0, .int .u32 0] 55)).alloc (.cells #[.slice none 0 0, .slice none 0 0, .int .u32 0, .int .u32 0, .int .u32 0, .int .u32 0, .int .u32 0, .int .u32 0, .int .u32 0, .int .u32 0] 55)) w.heap.size (w.heap.size + 1) 0 (.slice none 0 0) (.slice none 0 0) st dm := ⟨hA2, hV, World.ownsRow_nil _ _ _ _, World.ownsRow_nil _ _ _ _, k1.trans k2⟩
  have HST := Lib.hid hst
  clear hA hV k1 k2 hA2 hst
  generalize ((w.alloc (.cells #[.slice none 0 0, .slice none 0 0, .int .u32 0, .int .u32 0, .int .u32 0, .int .u32 0, .int .u32 0, .int .u32 0, .int .u32 0, .int .u32 0] 55)).alloc (.cells #[.slice none 0 0, .slice none 0 0, .int .u32 0, .int .u32 0, .int .u32 0, .int .u32 0, .int .u32 0, .int .u32 0, .int .u32 0, .int .u32 0] 55)) = w2 at *
  generalize hAe : w.heap.size = A at *
  have hAV : A < A + 1 := by omega
  generalize hVe : A + 1 = V at *
  have HAE := Lib.hid hAe
  clear hAe hVe e1
  obtain ⟨iint, hiint, hzint0, hzint1, hzint2⟩ := info_parts infoInt
  obtain ⟨istring, histring, hzstring0, hzstring1, hzstring2⟩ := info_parts infoString
  go_loopw [5, 6] (fun c i wr => ∃ (j : Nat) (kv bv : Value), j ≤ N ∧ c = .int .i64 (usedTo st.now.ws j : Int) ∧ i = .int .i64 (j : Int) ∧ LkAt w wr A V j kv bv st dm) (fun _ i _ => N - (intOf i).toNat)
  case atStart => exact ⟨0, _, _, by omega, rfl, rfl, HST.out⟩
  case round =>
    obtain ⟨j, kv, bv, hj, rfl, rfl, hlk⟩ := hrel
    have HL := Lib.hid hlk
    clear hlk
    have hus := usedTo_le st.now.ws j
    have husn := usedTo_succ st.now.ws j
    have HUSN := Lib.hid husn
    clear husn
    generalize hU : usedTo st.now.ws j = U at *
    have HUU := Lib.hid hU
    clear hU
    by_cases hlt : j < N
    · by_cases hm : mem st.now.ws j = true
      · have hre := HRE.out j (by omega) wr HL.out.kept
        rw [HLK.out.used HOK.out (by rw [HNN.out]; exact hlt) hm] at hre
        obtain ⟨-, hnum, hs1, hs2⟩ := HLK.out.lies j (by rw [HNN.out]; exact hlt) hm
        have hK : seenK st dm j = ((liesM dm st.count j).1.kind.toNat : Int) := if_pos hm
        have hB : seenB st dm j = (liesM dm st.count j).1.body := if_pos hm
        have hup : usedTo st.now.ws (j + 1) = U + 1 := by rw [HUSN.out, if_pos hm]
        generalize (liesM dm st.count j).1 = p at *
        obtain ⟨kd, nm, sr, bd⟩ := p
        simp only at hnum hs1 hs2 hK hB
        subst hnum
        simp only [pageRow] at hre
        have HR := Lib.hid hre
        have HK := Lib.hid hK
        have HB := Lib.hid hB
        have HUP := Lib.hid hup
        clear hre hK hB hup hm HUSN
        have hwkd : IntKind.i64.wrap (kd.toNat : Int) = (kd.toNat : Int) := by have := kd.toNat_lt; rw [IntKind.wrap_i64]; omega
        have hwj : IntKind.u32.wrap (nm : Int) = (nm : Int) := by rw [IntKind.wrap_u32]; omega
        go_wp2_with (go_at_call 14; refine (HPG.out wr HL.out.kept).mono ?_; rintro e w' ⟨rfl, rfl⟩)
        refine HR.out.mono ?_
        rintro e w5 ⟨rfl, k5⟩
        have hP5 := heap_alloc_new w5 (.cells #[.int .u8 0, .int .u32 0, .int .u64 0, .string ⟨#[]⟩] 28)
        have hP6 := setRow_heap _ _ _ #[.int .u8 (kd.toNat : Int), .int .u32 (nm : Int), .int .u64 (sr : Int), .string ⟨⟨bd⟩⟩] _ _ hP5
        have k6 : Kept No w5 ((w5.alloc (.cells #[.int .u8 0, .int .u32 0, .int .u64 0, .string ⟨#[]⟩] 28)).setRow w5.heap.size #[.int .u8 (kd.toNat : Int), .int .u32 (nm : Int), .int .u64 (sr : Int), .string ⟨⟨bd⟩⟩]) := ((Kept.refl No w5).alloc _).setRow _ _ (fun h => absurd h (by omega))
        have HP5 := Lib.hid hP5
        have HR5 := Lib.hid (k5.heap HL.out.row (fun h => h))
        have K5 := Lib.hid k5
        clear hP5 k5
        have hVP : V < w5.heap.size := lt_of_heap HR5.out
        go_wp2_with (refine wpList_store_row (by rfl) 28 (.tmp 7) (.tmp 22) (by rfl) w5.heap.size 28 _ _ (by rfl) (by rfl) HP5.out (by exact page_size4) (by rfl) (by simp [Value.oneCell']) ?_; generalize (w5.alloc (.cells #[.int .u8 0, .int .u32 0, .int .u64 0, .string ⟨#[]⟩] 28)).setRow w5.heap.size #[.int .u8 (kd.toNat : Int), .int .u32 (nm : Int), .int .u64 (sr : Int), .string ⟨⟨bd⟩⟩] = w6 at *; generalize w5.heap.size = P at *; have p0 := (cell_of_row w6 P 0 _ _ _ hP6).trans rfl; have p1 := (cell_of_row w6 P 1 _ _ _ hP6).trans rfl; have p2 := (cell_of_row w6 P 2 _ _ _ hP6).trans rfl; have K6 := Lib.hid k6; have HP6 := Lib.hid hP6; clear k6 hP6)
        have hse := fun q => HSE.out (w6.drewN q) (((HL.out.kept.trans K5.out).trans K6.out).drewN q)
        have hq1 : decide ((sr : Int) < 1) = false := by simp; omega
        have hq2 : decide ((st.serial : Int) < (sr : Int)) = false := by simp; omega
        go_quiet (first | (go_at_call 16; exact quiet (hse _)))
        have k7 := (K5.out.trans K6.out).drewN nq
        have HP7 := Lib.hid ((Kept.refl No w6).drewN nq |>.heap HP6.out (fun h => h))
        clear hse
        generalize w6.drewN nq = w7 at *
        have K7 := Lib.hid k7
        clear k7 K5 K6 HP6 HR HP5 p0 p1 p2
        have HV7 := Lib.hid (K7.out.heap HL.out.row (fun h => h))
        have HKV : Hid (∀ q cs t, w7.heap[q]? = some (.cells cs t (0, 0)) → t ≠ 3 → ¬ kv.ownBlock = some q) := Lib.hid (fun q cs t hq hne e => by
          obtain ⟨cs', hc'⟩ := row_cells (K7.out.row HL.out.kind (fun _ _ h => h)) e
          exact cells_ne hq hc' hne rfl)
        have hv0 : w7.cell? ⟨V, 0, none⟩ = some kv := (cell_of_row w7 V 0 _ _ _ HV7.out).trans rfl
        have HRK : Hid (∀ o, (w7.alloc o).ownsRow w.heap.size 3 1 kv nm (kindC ((List.range nm).map (seenK st dm)))) := Lib.hid (fun o => ((Kept.refl No w7).alloc o).row (K7.out.row HL.out.kind (fun _ _ h => h)) (fun _ _ h => h))
        have HPV : Hid (P ≠ V) := Lib.hid (by omega)
        obtain ⟨ka, kc, hkv⟩ := row_slice HL.out.kind
        obtain ⟨ba, bc, hbv⟩ := row_slice HL.out.body
        have HKE := Lib.hid hkv
        have HBE := Lib.hid hbv
        have hAle : w.heap.size ≤ w7.heap.size := by have := (HL.out.kept.trans K7.out).size; exact this
        clear hkv hbv
        go_wp2_with (first
          | (at_builtin; go_loud (refine wpList_append_own_at _ (by rfl) (.tmp 70) (.tmp 72) 45 (by rfl) w.heap.size 3 iint _ 1 8 Tryz.underlying45 hiint hzint0 hzint1 hzint2 (by rfl) (by decide) kv nm (kindC ((List.range nm).map (seenK st dm))) (by rfl) (HRK.out _) ⟨w7.heap.size, 0, none⟩ 1 1 [.int .i64 (kd.toNat : Int)] (by rfl) (by rfl) (cell_one_new _ _ _) (by simp [Value.oneCell']) (by unfold maxLen; omega) (by omega) (by simp; omega) ?_; intro v2 w8 hown hgrow _ _; obtain ⟨g2, c2, rfl⟩ := ownsRow_succ hown; have kg : Kept (fun k => kv.ownBlock = some k) w7 w8 := ((Kept.refl _ w7).alloc _).trans (Kept.of_grown hgrow); have hV8 := kg.heap HV7.out (HKV.out _ _ _ HV7.out (by decide)); have hP8 := kg.heap HP7.out (HKV.out _ _ _ HP7.out (by decide)); have vf8 := frozen_of_row w8 V 0 _ _ hV8; have vc8 : w8.cell? ⟨V, 0, none⟩ = some kv := (cell_of_row w8 V 0 _ _ _ hV8).trans rfl; have hV9 := heap_setCell_same w8 V 0 _ _ (.slice (some ⟨g2, 0, none⟩) (nm + 1) c2) hV8; simp only [seenC, List.setIfInBounds_toArray, List.set_cons_zero] at hV9; have kz : Kept (fun k => k = V) w8 (w8.setCell ⟨V, 0, none⟩ (.slice (some ⟨g2, 0, none⟩) (nm + 1) c2)) := (Kept.refl _ _).setCell _ _ (fun _ => rfl); have hP9 := kz.heap hP8 HPV.out; have c1 : (w8.setCell ⟨V, 0, none⟩ (.slice (some ⟨g2, 0, none⟩) (nm + 1) c2)).cell? ⟨V, 1, none⟩ = some bv := (cell_of_row (w8.setCell ⟨V, 0, none⟩ (.slice (some ⟨g2, 0, none⟩) (nm + 1) c2)) V 1 _ _ _ hV9).trans rfl; have c3 : (w8.setCell ⟨V, 0, none⟩ (.slice (some ⟨g2, 0, none⟩) (nm + 1) c2)).cell? ⟨P, 3, none⟩ = some (.string ⟨⟨bd⟩⟩) := (cell_of_row (w8.setCell ⟨V, 0, none⟩ (.slice (some ⟨g2, 0, none⟩) (nm + 1) c2)) P 3 _ _ _ hP9).trans rfl; have hb7 := K7.out.row HL.out.body (fun _ _ h => h); have hb8 := kg.row hb7 (fun g hg e => by obtain ⟨cs, hc⟩ := row_cells hb7 hg; exact HKV.out g cs _ hc (by decide) e); have hbV : ¬ bv.ownBlock = some V := fun e => by { obtain ⟨cs, hc⟩ := row_cells hb8 e; exact cells_ne hc hV8 (by decide) rfl }; have hb9 := kz.row hb8 (fun g hg e => hbV (by rw [hg, e])); have HRB : Hid (∀ o, ((w8.setCell ⟨V, 0, none⟩ (.slice (some ⟨g2, 0, none⟩) (nm + 1) c2)).alloc o).ownsRow w.heap.size 9 1 bv nm (textC ((List.range nm).map (seenB st dm)))) := Lib.hid (fun o => ((Kept.refl No (w8.setCell ⟨V, 0, none⟩ (.slice (some ⟨g2, 0, none⟩) (nm + 1) c2))).alloc o).row hb9 (fun _ _ h => h)); have HSS : Hid ((w8.setCell ⟨V, 0, none⟩ (.slice (some ⟨g2, 0, none⟩) (nm + 1) c2)).heap.size = w8.heap.size) := Lib.hid (by simp); have HBV := Lib.hid hbV; have HV9 := Lib.hid hV9; have HOW := Lib.hid hown; have KG := Lib.hid kg; have hle9 : w.heap.size ≤ (w8.setCell ⟨V, 0, none⟩ (.slice (some ⟨g2, 0, none⟩) (nm + 1) c2)).heap.size := Nat.le_trans hAle (Nat.le_trans kg.size kz.size); clear hV9 hown kg kz hgrow hV8 hP8 hP9 hb7 hb8 hb9 hbV))
          | (at_builtin; go_loud (refine wpList_append_own_at _ (by rfl) (.tmp 76) (.tmp 79) 52 (by rfl) w.heap.size 9 istring _ 1 16 Tryz.underlying52 histring hzstring0 hzstring1 hzstring2 (by rfl) (by decide) bv nm (textC ((List.range nm).map (seenB st dm))) (by rfl) (HRB.out _) ⟨w8.heap.size, 0, none⟩ 1 1 [.string ⟨⟨bd⟩⟩] (by rfl) (by rfl) (by have hc := cell_one_new (w8.setCell ⟨V, 0, none⟩ (.slice (some ⟨g2, 0, none⟩) (nm + 1) c2)) (.string ⟨⟨bd⟩⟩) 9; rw [HSS.out] at hc; exact hc) (by simp [Value.oneCell']) (by unfold maxLen; omega) (by omega) (Nat.le_trans hle9 ((Kept.refl No _).alloc _).size) ?_; intro v3 w10 hown3 hgrow3 _ _; obtain ⟨g3, c3', rfl⟩ := ownsRow_succ hown3; have kg3 : Kept (fun k => bv.ownBlock = some k) (w8.setCell ⟨V, 0, none⟩ (.slice (some ⟨g2, 0, none⟩) (nm + 1) c2)) w10 := ((Kept.refl _ _).alloc _).trans (Kept.of_grown hgrow3); have hV10 := kg3.heap HV9.out HBV.out; have vf10 := frozen_of_row w10 V 1 _ _ hV10; have vc10 : w10.cell? ⟨V, 1, none⟩ = some bv := (cell_of_row w10 V 1 _ _ _ hV10).trans rfl; have KG3 := Lib.hid kg3; have HOW3 := Lib.hid hown3; clear hV10 kg3 hown3 hgrow3)))
        exact ⟨⟨nm + 1, _, _, by omega, by rw [HUP.out] <;> rfl, by first | rfl | go_num, HL.out.next HAE.out hAV K7.out KG.out HOW.out KG3.out HOW3.out HK.out HB.out⟩, by simp [intOf]; omega⟩
      · have hmf : mem st.now.ws j = false := by simpa using hm
        have hre := HRE.out j (by omega) wr HL.out.kept
        by_cases hj0 : j = 0
        · skip
          rw [HLK.out.free (by rw [HNN.out]; exact hlt) hmf] at hre
          have hK : seenK st dm j = -1 := if_neg (by rw [hmf]; decide)
          have hB : seenB st dm j = [] := if_neg (by rw [hmf]; decide)
          have hup : usedTo st.now.ws (j + 1) = U := by rw [HUSN.out, if_neg (by rw [hmf]; decide)]; rfl
          rw [if_pos hj0] at hre
          simp only [pageRow, zeroP] at hre
          have HR := Lib.hid hre
          have HK := Lib.hid hK
          have HB := Lib.hid hB
          have HUP := Lib.hid hup
          have hwj : IntKind.u32.wrap (j : Int) = (j : Int) := by rw [IntKind.wrap_u32]; omega
          have hqj : (((j : Nat) : Int) == 0) = true := by rw [beq_iff_eq]; omega
          have hj1 : ¬ 0 < j := by omega
          have hdj : decide ((0 : Int) < (j : Int)) = false := by simp; omega
          clear hre hK hB hup hm hmf HUSN hj0
          go_wp2_with (go_at_call 14; refine (HPG.out wr HL.out.kept).mono ?_; rintro e w' ⟨rfl, rfl⟩)
          refine HR.out.mono ?_
          rintro e w5 ⟨rfl, k5⟩
          have hP5 := heap_alloc_new w5 (.cells #[.int .u8 0, .int .u32 0, .int .u64 0, .string ⟨#[]⟩] 28)
          have hP6 := setRow_heap _ _ _ #[.int .u8 0, .int .u32 0, .int .u64 0, .string ⟨⟨[]⟩⟩] _ _ hP5
          have k6 : Kept No w5 ((w5.alloc (.cells #[.int .u8 0, .int .u32 0, .int .u64 0, .string ⟨#[]⟩] 28)).setRow w5.heap.size #[.int .u8 0, .int .u32 0, .int .u64 0, .string ⟨⟨[]⟩⟩]) := ((Kept.refl No w5).alloc _).setRow _ _ (fun h => absurd h (by omega))
          have HP5 := Lib.hid hP5
          have HR5 := Lib.hid (k5.heap HL.out.row (fun h => h))
          have K5 := Lib.hid k5
          clear hP5 k5
          have hVP : V < w5.heap.size := lt_of_heap HR5.out
          go_wp2_with (first
            | (refine wpList_store_row (by rfl) 28 (.tmp 7) (.tmp 22) (by rfl) w5.heap.size 28 _ _ (by rfl) (by rfl) HP5.out (by exact page_size4) (by rfl) (by simp [Value.oneCell']) ?_; generalize (w5.alloc (.cells #[.int .u8 0, .int .u32 0, .int .u64 0, .string ⟨#[]⟩] 28)).setRow w5.heap.size #[.int .u8 0, .int .u32 0, .int .u64 0, .string ⟨⟨[]⟩⟩] = w7 at *; generalize w5.heap.size = P at *; have p0 := (cell_of_row w7 P 0 _ _ _ hP6).trans rfl; have p1 := (cell_of_row w7 P 1 _ _ _ hP6).trans rfl; have p2 := (cell_of_row w7 P 2 _ _ _ hP6).trans rfl; have p3 := (cell_of_row w7 P 3 _ _ _ hP6).trans rfl; have K7 := Lib.hid (K5.out.trans k6); have HP7 := Lib.hid hP6; have HV7 := Lib.hid (K7.out.heap HL.out.row (fun h => h)); have HKV := Lib.hid (HL.out.nk K7.out); have hv0 := HL.out.c0 K7.out; have HRK := Lib.hid (HL.out.rk K7.out); have HPV : Hid (P ≠ V) := Lib.hid (by omega); have hAle : w.heap.size ≤ w7.heap.size := (HL.out.kept.trans K7.out).size; clear k6 hP6)
            | (at_builtin; go_loud (refine wpList_append_own_at _ (by rfl) (.tmp 70) (.tmp 72) 45 (by rfl) w.heap.size 3 iint _ 1 8 Tryz.underlying45 hiint hzint0 hzint1 hzint2 (by rfl) (by decide) kv j (kindC ((List.range j).map (seenK st dm))) (by rfl) (HRK.out _) ⟨w7.heap.size, 0, none⟩ 1 1 [.int .i64 (-1)] (by rfl) (by rfl) (cell_one_new _ _ _) (by simp [Value.oneCell']) (by unfold maxLen; omega) (by omega) (by simp; omega) ?_; intro v2 w8 hown hgrow _ _; obtain ⟨g2, c2, rfl⟩ := ownsRow_succ hown; have kg : Kept (fun k => kv.ownBlock = some k) w7 w8 := ((Kept.refl _ w7).alloc _).trans (Kept.of_grown hgrow); have hV8 := kg.heap HV7.out (HKV.out _ _ _ HV7.out (by decide)); have hP8 := kg.heap HP7.out (HKV.out _ _ _ HP7.out (by decide)); have vf8 := frozen_of_row w8 V 0 _ _ hV8; have vc8 : w8.cell? ⟨V, 0, none⟩ = some kv := (cell_of_row w8 V 0 _ _ _ hV8).trans rfl; have hV9 := heap_setCell_same w8 V 0 _ _ (.slice (some ⟨g2, 0, none⟩) (j + 1) c2) hV8; simp only [seenC, List.setIfInBounds_toArray, List.set_cons_zero] at hV9; have kz : Kept (fun k => k = V) w8 (w8.setCell ⟨V, 0, none⟩ (.slice (some ⟨g2, 0, none⟩) (j + 1) c2)) := (Kept.refl _ _).setCell _ _ (fun _ => rfl); have hP9 := kz.heap hP8 HPV.out; have c1 : (w8.setCell ⟨V, 0, none⟩ (.slice (some ⟨g2, 0, none⟩) (j + 1) c2)).cell? ⟨V, 1, none⟩ = some bv := (cell_of_row (w8.setCell ⟨V, 0, none⟩ (.slice (some ⟨g2, 0, none⟩) (j + 1) c2)) V 1 _ _ _ hV9).trans rfl; have c3 : (w8.setCell ⟨V, 0, none⟩ (.slice (some ⟨g2, 0, none⟩) (j + 1) c2)).cell? ⟨P, 3, none⟩ = some (.string ⟨⟨[]⟩⟩) := (cell_of_row (w8.setCell ⟨V, 0, none⟩ (.slice (some ⟨g2, 0, none⟩) (j + 1) c2)) P 3 _ _ _ hP9).trans rfl; have hb7 := K7.out.row HL.out.body (fun _ _ h => h); have hb8 := kg.row hb7 (fun g hg e => by obtain ⟨cs, hc⟩ := row_cells hb7 hg; exact HKV.out g cs _ hc (by decide) e); have hbV : ¬ bv.ownBlock = some V := fun e => by { obtain ⟨cs, hc⟩ := row_cells hb8 e; exact cells_ne hc hV8 (by decide) rfl }; have hb9 := kz.row hb8 (fun g hg e => hbV (by rw [hg, e])); have HRB : Hid (∀ o, ((w8.setCell ⟨V, 0, none⟩ (.slice (some ⟨g2, 0, none⟩) (j + 1) c2)).alloc o).ownsRow w.heap.size 9 1 bv j (textC ((List.range j).map (seenB st dm)))) := Lib.hid (fun o => ((Kept.refl No (w8.setCell ⟨V, 0, none⟩ (.slice (some ⟨g2, 0, none⟩) (j + 1) c2))).alloc o).row hb9 (fun _ _ h => h)); have HSS : Hid ((w8.setCell ⟨V, 0, none⟩ (.slice (some ⟨g2, 0, none⟩) (j + 1) c2)).heap.size = w8.heap.size) := Lib.hid (by simp); have HBV := Lib.hid hbV; have HV9 := Lib.hid hV9; have HOW := Lib.hid hown; have KG := Lib.hid kg; have hle9 : w.heap.size ≤ (w8.setCell ⟨V, 0, none⟩ (.slice (some ⟨g2, 0, none⟩) (j + 1) c2)).heap.size := Nat.le_trans hAle (Nat.le_trans kg.size kz.size); clear hV9 hown kg kz hgrow hV8 hP8 hP9 hb7 hb8 hb9 hbV))
            | (at_builtin; go_loud (refine wpList_append_own_at _ (by rfl) (.tmp 76) (.tmp 79) 52 (by rfl) w.heap.size 9 istring _ 1 16 Tryz.underlying52 histring hzstring0 hzstring1 hzstring2 (by rfl) (by decide) bv j (textC ((List.range j).map (seenB st dm))) (by rfl) (HRB.out _) ⟨w8.heap.size, 0, none⟩ 1 1 [.string ⟨⟨[]⟩⟩] (by rfl) (by rfl) (by have hc := cell_one_new (w8.setCell ⟨V, 0, none⟩ (.slice (some ⟨g2, 0, none⟩) (j + 1) c2)) (.string ⟨⟨[]⟩⟩) 9; rw [HSS.out] at hc; exact hc) (by simp [Value.oneCell']) (by unfold maxLen; omega) (by omega) (Nat.le_trans hle9 ((Kept.refl No _).alloc _).size) ?_; intro v3 w10 hown3 hgrow3 _ _; obtain ⟨g3, c3', rfl⟩ := ownsRow_succ hown3; have kg3 : Kept (fun k => bv.ownBlock = some k) (w8.setCell ⟨V, 0, none⟩ (.slice (some ⟨g2, 0, none⟩) (j + 1) c2)) w10 := ((Kept.refl _ _).alloc _).trans (Kept.of_grown hgrow3); have hV10 := kg3.heap HV9.out HBV.out; have vf10 := frozen_of_row w10 V 1 _ _ hV10; have vc10 : w10.cell? ⟨V, 1, none⟩ = some bv := (cell_of_row w10 V 1 _ _ _ hV10).trans rfl; have KG3 := Lib.hid kg3; have HOW3 := Lib.hid hown3; clear hV10 kg3 hown3 hgrow3)))
          exact ⟨⟨j + 1, _, _, by omega, by rw [HUP.out] <;> rfl, by first | rfl | go_num, HL.out.next HAE.out hAV K7.out KG.out HOW.out KG3.out HOW3.out HK.out HB.out⟩, by simp [intOf]; omega⟩
        · skip
          rw [HLK.out.free (by rw [HNN.out]; exact hlt) hmf] at hre
          have hK : seenK st dm j = -1 := if_neg (by rw [hmf]; decide)
          have hB : seenB st dm j = [] := if_neg (by rw [hmf]; decide)
          have hup : usedTo st.now.ws (j + 1) = U := by rw [HUSN.out, if_neg (by rw [hmf]; decide)]; rfl
          rw [if_neg hj0] at hre
          simp only [pageRow, zeroP] at hre
          have HR := Lib.hid hre
          have HK := Lib.hid hK
          have HB := Lib.hid hB
          have HUP := Lib.hid hup
          have hwj : IntKind.u32.wrap (j : Int) = (j : Int) := by rw [IntKind.wrap_u32]; omega
          have hqj : (((j : Nat) : Int) == 0) = false := by rw [beq_eq_false_iff_ne]; omega
          have hj1 : 0 < j := by omega
          have hj2 : ¬ j = 0 := hj0
          have hdj : decide ((0 : Int) < (j : Int)) = true := by simp; omega
          clear hre hK hB hup hm hmf HUSN hj0
          go_wp2_with (go_at_call 14; refine (HPG.out wr HL.out.kept).mono ?_; rintro e w' ⟨rfl, rfl⟩)
          refine HR.out.mono ?_
          rintro e w5 ⟨rfl, k5⟩
          have hP5 := heap_alloc_new w5 (.cells #[.int .u8 0, .int .u32 0, .int .u64 0, .string ⟨#[]⟩] 28)
          have hP6 := setRow_heap _ _ _ #[.int .u8 0, .int .u32 0, .int .u64 0, .string ⟨⟨[]⟩⟩] _ _ hP5
          have k6 : Kept No w5 ((w5.alloc (.cells #[.int .u8 0, .int .u32 0, .int .u64 0, .string ⟨#[]⟩] 28)).setRow w5.heap.size #[.int .u8 0, .int .u32 0, .int .u64 0, .string ⟨⟨[]⟩⟩]) := ((Kept.refl No w5).alloc _).setRow _ _ (fun h => absurd h (by omega))
          have HP5 := Lib.hid hP5
          have HR5 := Lib.hid (k5.heap HL.out.row (fun h => h))
          have K5 := Lib.hid k5
          clear hP5 k5
          have hVP : V < w5.heap.size := lt_of_heap HR5.out
          go_wp2_with (first
            | (refine wpList_store_row (by rfl) 28 (.tmp 7) (.tmp 22) (by rfl) w5.heap.size 28 _ _ (by rfl) (by rfl) HP5.out (by exact page_size4) (by rfl) (by simp [Value.oneCell']) ?_; generalize (w5.alloc (.cells #[.int .u8 0, .int .u32 0, .int .u64 0, .string ⟨#[]⟩] 28)).setRow w5.heap.size #[.int .u8 0, .int .u32 0, .int .u64 0, .string ⟨⟨[]⟩⟩] = w7 at *; generalize w5.heap.size = P at *; have p0 := (cell_of_row w7 P 0 _ _ _ hP6).trans rfl; have p1 := (cell_of_row w7 P 1 _ _ _ hP6).trans rfl; have p2 := (cell_of_row w7 P 2 _ _ _ hP6).trans rfl; have p3 := (cell_of_row w7 P 3 _ _ _ hP6).trans rfl; have K7 := Lib.hid (K5.out.trans k6); have HP7 := Lib.hid hP6; have HV7 := Lib.hid (K7.out.heap HL.out.row (fun h => h)); have HKV := Lib.hid (HL.out.nk K7.out); have hv0 := HL.out.c0 K7.out; have HRK := Lib.hid (HL.out.rk K7.out); have HPV : Hid (P ≠ V) := Lib.hid (by omega); have hAle : w.heap.size ≤ w7.heap.size := (HL.out.kept.trans K7.out).size; clear k6 hP6)
            | (at_builtin; go_loud (refine wpList_append_own_at _ (by rfl) (.tmp 70) (.tmp 72) 45 (by rfl) w.heap.size 3 iint _ 1 8 Tryz.underlying45 hiint hzint0 hzint1 hzint2 (by rfl) (by decide) kv j (kindC ((List.range j).map (seenK st dm))) (by rfl) (HRK.out _) ⟨w7.heap.size, 0, none⟩ 1 1 [.int .i64 (-1)] (by rfl) (by rfl) (cell_one_new _ _ _) (by simp [Value.oneCell']) (by unfold maxLen; omega) (by omega) (by simp; omega) ?_; intro v2 w8 hown hgrow _ _; obtain ⟨g2, c2, rfl⟩ := ownsRow_succ hown; have kg : Kept (fun k => kv.ownBlock = some k) w7 w8 := ((Kept.refl _ w7).alloc _).trans (Kept.of_grown hgrow); have hV8 := kg.heap HV7.out (HKV.out _ _ _ HV7.out (by decide)); have hP8 := kg.heap HP7.out (HKV.out _ _ _ HP7.out (by decide)); have vf8 := frozen_of_row w8 V 0 _ _ hV8; have vc8 : w8.cell? ⟨V, 0, none⟩ = some kv := (cell_of_row w8 V 0 _ _ _ hV8).trans rfl; have hV9 := heap_setCell_same w8 V 0 _ _ (.slice (some ⟨g2, 0, none⟩) (j + 1) c2) hV8; simp only [seenC, List.setIfInBounds_toArray, List.set_cons_zero] at hV9; have kz : Kept (fun k => k = V) w8 (w8.setCell ⟨V, 0, none⟩ (.slice (some ⟨g2, 0, none⟩) (j + 1) c2)) := (Kept.refl _ _).setCell _ _ (fun _ => rfl); have hP9 := kz.heap hP8 HPV.out; have c1 : (w8.setCell ⟨V, 0, none⟩ (.slice (some ⟨g2, 0, none⟩) (j + 1) c2)).cell? ⟨V, 1, none⟩ = some bv := (cell_of_row (w8.setCell ⟨V, 0, none⟩ (.slice (some ⟨g2, 0, none⟩) (j + 1) c2)) V 1 _ _ _ hV9).trans rfl; have c3 : (w8.setCell ⟨V, 0, none⟩ (.slice (some ⟨g2, 0, none⟩) (j + 1) c2)).cell? ⟨P, 3, none⟩ = some (.string ⟨⟨[]⟩⟩) := (cell_of_row (w8.setCell ⟨V, 0, none⟩ (.slice (some ⟨g2, 0, none⟩) (j + 1) c2)) P 3 _ _ _ hP9).trans rfl; have hb7 := K7.out.row HL.out.body (fun _ _ h => h); have hb8 := kg.row hb7 (fun g hg e => by obtain ⟨cs, hc⟩ := row_cells hb7 hg; exact HKV.out g cs _ hc (by decide) e); have hbV : ¬ bv.ownBlock = some V := fun e => by { obtain ⟨cs, hc⟩ := row_cells hb8 e; exact cells_ne hc hV8 (by decide) rfl }; have hb9 := kz.row hb8 (fun g hg e => hbV (by rw [hg, e])); have HRB : Hid (∀ o, ((w8.setCell ⟨V, 0, none⟩ (.slice (some ⟨g2, 0, none⟩) (j + 1) c2)).alloc o).ownsRow w.heap.size 9 1 bv j (textC ((List.range j).map (seenB st dm)))) := Lib.hid (fun o => ((Kept.refl No (w8.setCell ⟨V, 0, none⟩ (.slice (some ⟨g2, 0, none⟩) (j + 1) c2))).alloc o).row hb9 (fun _ _ h => h)); have HSS : Hid ((w8.setCell ⟨V, 0, none⟩ (.slice (some ⟨g2, 0, none⟩) (j + 1) c2)).heap.size = w8.heap.size) := Lib.hid (by simp); have HBV := Lib.hid hbV; have HV9 := Lib.hid hV9; have HOW := Lib.hid hown; have KG := Lib.hid kg; have hle9 : w.heap.size ≤ (w8.setCell ⟨V, 0, none⟩ (.slice (some ⟨g2, 0, none⟩) (j + 1) c2)).heap.size := Nat.le_trans hAle (Nat.le_trans kg.size kz.size); clear hV9 hown kg kz hgrow hV8 hP8 hP9 hb7 hb8 hb9 hbV))
            | (at_builtin; go_loud (refine wpList_append_own_at _ (by rfl) (.tmp 76) (.tmp 79) 52 (by rfl) w.heap.size 9 istring _ 1 16 Tryz.underlying52 histring hzstring0 hzstring1 hzstring2 (by rfl) (by decide) bv j (textC ((List.range j).map (seenB st dm))) (by rfl) (HRB.out _) ⟨w8.heap.size, 0, none⟩ 1 1 [.string ⟨⟨[]⟩⟩] (by rfl) (by rfl) (by have hc := cell_one_new (w8.setCell ⟨V, 0, none⟩ (.slice (some ⟨g2, 0, none⟩) (j + 1) c2)) (.string ⟨⟨[]⟩⟩) 9; rw [HSS.out] at hc; exact hc) (by simp [Value.oneCell']) (by unfold maxLen; omega) (by omega) (Nat.le_trans hle9 ((Kept.refl No _).alloc _).size) ?_; intro v3 w10 hown3 hgrow3 _ _; obtain ⟨g3, c3', rfl⟩ := ownsRow_succ hown3; have kg3 : Kept (fun k => bv.ownBlock = some k) (w8.setCell ⟨V, 0, none⟩ (.slice (some ⟨g2, 0, none⟩) (j + 1) c2)) w10 := ((Kept.refl _ _).alloc _).trans (Kept.of_grown hgrow3); have hV10 := kg3.heap HV9.out HBV.out; have vf10 := frozen_of_row w10 V 1 _ _ hV10; have vc10 : w10.cell? ⟨V, 1, none⟩ = some bv := (cell_of_row w10 V 1 _ _ _ hV10).trans rfl; have KG3 := Lib.hid kg3; have HOW3 := Lib.hid hown3; clear hV10 kg3 hown3 hgrow3)))
          exact ⟨⟨j + 1, _, _, by omega, by rw [HUP.out] <;> rfl, by first | rfl | go_num, HL.out.next HAE.out hAV K7.out KG.out HOW.out KG3.out HOW3.out HK.out HB.out⟩, by simp [intOf]; omega⟩
    · obtain rfl : j = N := by omega
      have hlr : LkR w wr A V j 0 kv bv st dm := ⟨HL.out.res, HL.out.row, HL.out.kind, HL.out.body, HL.out.kept⟩
      have hcu : cnt st.now.ws = U := HALL.out.symm.trans HUU.out
      have HLR := Lib.hid hlr
      have HCU := Lib.hid hcu
      clear hlr hcu HUU HUSN HALL HRE HLK
      go_wp2_with (go_at_call 14; refine (HPG.out wr HL.out.kept).mono ?_; rintro e w' ⟨rfl, rfl⟩)
      clear HL
      go_loopw [10] (fun i wq => ∃ k : Nat, k ≤ 8 ∧ i = .int .i64 (k : Int) ∧ LkR w wq A V j k kv bv st dm) (fun i _ => 8 - (intOf i).toNat)
      case atStart => exact ⟨0, by omega, rfl, HLR.out⟩
      case round =>
        obtain ⟨k, hk, rfl, hlr⟩ := hrel
        have HR := Lib.hid hlr
        clear hlr HLR
        by_cases hlt8 : k < 8
        · have hcell : ∃ y, wr.cell? ⟨V, 2 + k, none⟩ = some y := by
            rw [cell_of_row wr V (2 + k) _ _ _ HR.out.row]
            exact ⟨_, Array.getElem?_eq_getElem (by simp [seenC]; omega)⟩
          obtain ⟨y, hcell⟩ := hcell
          have hfr := frozen_of_row wr V (2 + k) _ _ HR.out.row
          have hgl : st.now.root.get k < 4294967296 := HOK.out.small k hlt8
          have HNX := Lib.hid (HR.out.next HAE.out hAV hlt8)
          have hro := HRO.out k hlt8 wr HR.out.kept
          generalize st.now.root.get k = X at *
          have HRK := Lib.hid hro
          clear hro
          have hwx : IntKind.u32.wrap (X : Int) = (X : Int) := by rw [IntKind.wrap_u32]; omega
          go_wp2_with (go_at_call 17; refine HRK.out.mono ?_; rintro e w' ⟨rfl, rfl⟩)
          go_roundw
          case rel => exact ⟨k + 1, by omega, by first | rfl | go_num, HNX.out⟩
          case measure => simp [intOf]; omega
        · obtain rfl : k = 8 := by omega
          have hhr := HR.out.row
          rw [rootTo_all] at hhr
          obtain ⟨ka, kc, rfl⟩ := row_slice HR.out.kind
          obtain ⟨ba, bc, rfl⟩ := row_slice HR.out.body
          unfold seenC at hhr
          have hres := HR.out.res
          have hfre := HFR.out wr.drew HR.out.kept.drew
          rw [HCU.out] at hfre
          have HFE := Lib.hid hfre
          have hw1 : IntKind.i64.wrap ((j : Int) - 1) = (j : Int) - 1 := by rw [IntKind.wrap_i64]; omega
          have hw2 : IntKind.i64.wrap ((j : Int) - 1 - (U : Int)) = (j : Int) - 1 - (U : Int) := by rw [IntKind.wrap_i64]; omega
          have HKD := Lib.hid HR.out.kept.drew
          have c0 := (cell_of_row wr V 0 _ _ _ hhr).trans rfl; have c1 := (cell_of_row wr V 1 _ _ _ hhr).trans rfl; have c2 := (cell_of_row wr V 2 _ _ _ hhr).trans rfl; have c3 := (cell_of_row wr V 3 _ _ _ hhr).trans rfl; have c4 := (cell_of_row wr V 4 _ _ _ hhr).trans rfl; have c5 := (cell_of_row wr V 5 _ _ _ hhr).trans rfl; have c6 := (cell_of_row wr V 6 _ _ _ hhr).trans rfl; have c7 := (cell_of_row wr V 7 _ _ _ hhr).trans rfl; have c8 := (cell_of_row wr V 8 _ _ _ hhr).trans rfl; have c9 := (cell_of_row wr V 9 _ _ _ hhr).trans rfl
          have b0 := (cell_of_row wr A 0 _ _ _ hres).trans rfl; have b1 := (cell_of_row wr A 1 _ _ _ hres).trans rfl; have b2 := (cell_of_row wr A 2 _ _ _ hres).trans rfl; have b3 := (cell_of_row wr A 3 _ _ _ hres).trans rfl; have b4 := (cell_of_row wr A 4 _ _ _ hres).trans rfl; have b5 := (cell_of_row wr A 5 _ _ _ hres).trans rfl; have b6 := (cell_of_row wr A 6 _ _ _ hres).trans rfl; have b7 := (cell_of_row wr A 7 _ _ _ hres).trans rfl; have b8 := (cell_of_row wr A 8 _ _ _ hres).trans rfl; have b9 := (cell_of_row wr A 9 _ _ _ hres).trans rfl
          have f0 := frozen_of_row wr A 0 _ _ hres; have f1 := frozen_of_row wr A 1 _ _ hres; have f2 := frozen_of_row wr A 2 _ _ hres; have f3 := frozen_of_row wr A 3 _ _ hres; have f4 := frozen_of_row wr A 4 _ _ hres; have f5 := frozen_of_row wr A 5 _ _ hres; have f6 := frozen_of_row wr A 6 _ _ hres; have f7 := frozen_of_row wr A 7 _ _ hres; have f8 := frozen_of_row wr A 8 _ _ hres; have f9 := frozen_of_row wr A 9 _ _ hres
          have HV := Lib.hid hhr
          have HA := Lib.hid hres
          clear hhr hfre HRO HSE HOK hres
          go_wp2_with fail
          go_region_with (first
            | (go_at_call 15; refine HFE.out.mono ?_; rintro e w6 ⟨rfl, k6⟩; have hV6 := k6.heap (row_drewN HV.out 1) (fun h => h); have hA6 := k6.heap (row_drewN HA.out 1) (fun h => h); have c0' := (cell_of_row w6 V 0 _ _ _ hV6).trans rfl; have c1' := (cell_of_row w6 V 1 _ _ _ hV6).trans rfl; have c2' := (cell_of_row w6 V 2 _ _ _ hV6).trans rfl; have c3' := (cell_of_row w6 V 3 _ _ _ hV6).trans rfl; have c4' := (cell_of_row w6 V 4 _ _ _ hV6).trans rfl; have c5' := (cell_of_row w6 V 5 _ _ _ hV6).trans rfl; have c6' := (cell_of_row w6 V 6 _ _ _ hV6).trans rfl; have c7' := (cell_of_row w6 V 7 _ _ _ hV6).trans rfl; have c8' := (cell_of_row w6 V 8 _ _ _ hV6).trans rfl; have c9' := (cell_of_row w6 V 9 _ _ _ hV6).trans rfl; have b0' := (cell_of_row w6 A 0 _ _ _ hA6).trans rfl; have b1' := (cell_of_row w6 A 1 _ _ _ hA6).trans rfl; have b2' := (cell_of_row w6 A 2 _ _ _ hA6).trans rfl; have b3' := (cell_of_row w6 A 3 _ _ _ hA6).trans rfl; have b4' := (cell_of_row w6 A 4 _ _ _ hA6).trans rfl; have b5' := (cell_of_row w6 A 5 _ _ _ hA6).trans rfl; have b6' := (cell_of_row w6 A 6 _ _ _ hA6).trans rfl; have b7' := (cell_of_row w6 A 7 _ _ _ hA6).trans rfl; have b8' := (cell_of_row w6 A 8 _ _ _ hA6).trans rfl; have b9' := (cell_of_row w6 A 9 _ _ _ hA6).trans rfl; have f0' := frozen_of_row w6 A 0 _ _ hA6; have f1' := frozen_of_row w6 A 1 _ _ hA6; have f2' := frozen_of_row w6 A 2 _ _ hA6; have f3' := frozen_of_row w6 A 3 _ _ hA6; have f4' := frozen_of_row w6 A 4 _ _ hA6; have f5' := frozen_of_row w6 A 5 _ _ hA6; have f6' := frozen_of_row w6 A 6 _ _ hA6; have f7' := frozen_of_row w6 A 7 _ _ hA6; have f8' := frozen_of_row w6 A 8 _ _ hA6; have f9' := frozen_of_row w6 A 9 _ _ hA6; have K6 := Lib.hid k6; have HA6 := Lib.hid hA6; clear k6 hV6 hA6)
            | (go_at_call 14; refine (HPG.out _ (by first | exact HKD.out | exact HKD.out.trans K6.out)).mono ?_; rintro e w' ⟨rfl, rfl⟩))
          all_goals
            go_wp2
            refine bodyPost_ret (results_pair rfl _ _ A _ _ _ _ rfl (set10 _ _ _ _ _ _ _ _ _ _ _ _ _ _ _ _ _ _ _ _ _ _ _ HA6.out) Tryz.underlying55 rfl (by exact seen_size)) rfl ?_
            have kk := kept10 w6 A (.slice ka j kc) (.slice ba j bc) (.int .u32 (st.now.root.a : Int)) (.int .u32 (st.now.root.b : Int)) (.int .u32 (st.now.root.c : Int)) (.int .u32 (st.now.root.d : Int)) (.int .u32 (st.now.root.e : Int)) (.int .u32 (st.now.root.f : Int)) (.int .u32 (st.now.root.g : Int)) (.int .u32 (st.now.root.h : Int))
            have hae := HAE.out
            have kx := (Kept.refl No wr).drew.trans K6.out
            have ek : (seenM st dm).kind = (List.range j).map (seenK st dm) := by show (List.range st.now.n).map _ = _; rw [HNN.out]
            have eb : (seenM st dm).body = (List.range j).map (seenB st dm) := by show (List.range st.now.n).map _ = _; rw [HNN.out]
            have hk6 := kx.row HR.out.kind (fun _ _ h => h)
            have hb6 := kx.row HR.out.body (fun _ _ h => h)
            exact ⟨_, _, rfl, (HR.out.kept.trans kx).next kk (fun k hk e => by omega), by rw [ek, List.length_map, List.length_range]; exact kk.row hk6 (fun g hg e => by subst e; obtain ⟨cs, hc⟩ := row_cells hk6 hg; exact cells_ne hc HA6.out (by decide) rfl), by rw [eb, List.length_map, List.length_range]; exact kk.row hb6 (fun g hg e => by subst e; obtain ⟨cs, hc⟩ := row_cells hb6 hg; exact cells_ne hc HA6.out (by decide) rfl)⟩
theorem u32_plain : Tryz.prog.plainKey 25 = true := by kernel_rfl
theorem infoU32' : (Tryz.prog.info? 25).map (fun i => (i.zero, i.size, i.bytes)) = some (some (.int .u32 0), 1, 4) := by kernel_rfl
def u32C (l : List Nat) : List Value := l.map fun x : Nat => .int .u32 (x : Int)
theorem eqItems_u32 (d : Nat) (xs ys : List Nat) (w : World) : ∀ is : List Nat, (∀ i ∈ is, i < xs.length ∧ i < ys.length) →
    (Op.eqItems (d + 1) 25 1 ⟨u32C xs⟩ ⟨u32C ys⟩ is).run Tryz.prog w = .ok (decide (∀ i ∈ is, xs.getD i 0 = ys.getD i 0)) w
  | [], _ => by simp [Op.eqItems]
  | i :: is, h => by
    obtain ⟨h1, h2⟩ := h i (by simp)
    have ih := eqItems_u32 d xs ys w is (fun j hj => h j (by simp [hj]))
    have p1 := run_part_plain w u32_plain (xs := ⟨u32C xs⟩) (off := i * 1) (v := .int .u32 (xs.getD i 0 : Int)) (by simp [u32C, h1])
    have p2 := run_part_plain w u32_plain (xs := ⟨u32C ys⟩) (off := i * 1) (v := .int .u32 (ys.getD i 0 : Int)) (by simp [u32C, h2])
    have p3 := run_equalIn_int (P := Tryz.prog) w d 25 .u32 .u32 (xs.getD i 0 : Int) (ys.getD i 0 : Int) Tryz.underlying25
    simp only [Op.eqItems, Sem.run_bind, p1, p2, p3, Result.andThen_ok]
    by_cases hxy : xs.getD i 0 = ys.getD i 0
    · have hb : (((xs.getD i 0 : Nat) : Int) == ((ys.getD i 0 : Nat) : Int)) = true := by rw [beq_iff_eq, hxy]
      rw [hb]
      simp only [Bool.not_true, Bool.false_eq_true, if_false, ih]
      refine congrArg (fun b => Result.ok b w) ?_
      apply decide_eq_decide.2
      simp only [List.forall_mem_cons, hxy, true_and]
    · have hb : (((xs.getD i 0 : Nat) : Int) == ((ys.getD i 0 : Nat) : Int)) = false := by rw [beq_eq_false_iff_ne]; omega
      rw [hb]
      simp only [Bool.not_false, if_true, Sem.run_pure]
      refine congrArg (fun b => Result.ok b w) ?_
      symm
      rw [decide_eq_false_iff_not]
      intro hh
      exact hxy (hh i (by simp))
theorem roots_eq (r q : Root8) (w : World) : (Op.equalIn 10000 53 (.agg #[.int .u32 (r.a : Int), .int .u32 (r.b : Int), .int .u32 (r.c : Int), .int .u32 (r.d : Int), .int .u32 (r.e : Int), .int .u32 (r.f : Int), .int .u32 (r.g : Int), .int .u32 (r.h : Int)])
    (.agg #[.int .u32 (q.a : Int), .int .u32 (q.b : Int), .int .u32 (q.c : Int), .int .u32 (q.d : Int), .int .u32 (q.e : Int), .int .u32 (q.f : Int), .int .u32 (q.g : Int), .int .u32 (q.h : Int)])).run Tryz.prog w = .ok (decide (r = q)) w := by
  obtain ⟨i0, hi, -, -, -⟩ := info_parts infoU32'
  have hc : Tryz.prog.cellsOf 25 = 1 := by kernel_rfl
  have h := run_equalIn_array (P := Tryz.prog) (w := w) 9999 ⟨u32C r.list⟩ ⟨u32C q.list⟩ Tryz.underlying53 hi
  rw [hc, eqItems_u32 9998 r.list q.list w (List.range 8) (fun i hi => by simp at hi; exact ⟨by simp [Root8.list]; omega, by simp [Root8.list]; omega⟩)] at h
  refine h.trans ?_
  refine congrArg (fun b => Result.ok b w) ?_
  apply decide_eq_decide.2
  constructor
  · intro hh
    have g0 := hh 0 (by simp)
    have g1 := hh 1 (by simp)
    have g2 := hh 2 (by simp)
    have g3 := hh 3 (by simp)
    have g4 := hh 4 (by simp)
    have g5 := hh 5 (by simp)
    have g6 := hh 6 (by simp)
    have g7 := hh 7 (by simp)
    cases r; cases q
    simp [Root8.list] at g0 g1 g2 g3 g4 g5 g6 g7
    subst g0 g1 g2 g3 g4 g5 g6 g7
    rfl
  · rintro rfl i _; rfl
instance : DecidableEq SeenM := fun a b => decidable_of_iff (a.kind = b.kind ∧ a.body = b.body ∧ a.root = b.root)
  ⟨fun ⟨h1, h2, h3⟩ => by cases a; cases b; simp only at h1 h2 h3; rw [h1, h2, h3], fun h => by rw [h]; exact ⟨rfl, rfl, rfl⟩⟩
theorem own_at1 {w : World} {base n : Nat} {e : TypeId} {v : Value} {xs : List Value} (h : w.ownsRow base e 1 v n xs) (hn : 0 < n) :
    ∃ g cap, v = .slice (some ⟨g, 0, none⟩) n cap ∧ ∀ i u, xs[i]? = some u → w.cell? ⟨g, i, none⟩ = some u := by
  rcases h.2 with ⟨_, h2⟩ | ⟨g, cap, cur, hv, _, hg, _⟩
  · omega
  · refine ⟨g, cap, hv, fun i u hu => ?_⟩
    have := h.cells (g := g) (by rw [hv]; rfl) i u hu
    by_cases h0 : i = 0
    · subst h0; simpa [Addr.add] using this
    · simpa [Addr.add, h0] using this
theorem kindC_at (l : List Int) (i : Nat) (h : i < l.length) : (kindC l)[i]? = some (.int .i64 (l.getD i 0)) := by simp [kindC, h]
theorem textC_at (l : List (List UInt8)) (i : Nat) (h : i < l.length) : (textC l)[i]? = some (.string ⟨⟨l.getD i []⟩⟩) := by simp [textC, h]
theorem getD_ext {α : Type} {d : α} : ∀ {a b : List α}, a.length = b.length → (∀ i, i < a.length → a.getD i d = b.getD i d) → a = b := by
  intro a b hl h
  apply List.ext_getElem hl
  intro i h1 h2
  have := h i h1
  simpa [h1, h2] using this
set_option maxHeartbeats 8000000 in
theorem alike_ok (b1 b2 : Nat) (k1 t1 k2 t2 : Value) (m o : SeenM) (w : World) (h1 : SeenAt w b1 k1 t1 m) (h2 : SeenAt w b2 k2 t2 o) (l1 : m.body.length = m.kind.length) (l2 : o.body.length = o.kind.length) (hk1 : m.kind.length < 1000000) (hk2 : o.kind.length < 1000000) :
    Calls Tryz.prog 32 #[.agg (seenC k1 t1 m.root), .agg (seenC k2 t2 o.root)] w fun e w' => e = .returned (.bool (decide (m = o))) ∧ Kept No w w' := by
  have H1 := Lib.hid h1
  have H2 := Lib.hid h2
  clear h1 h2
  generalize hZ : decide (m = o) = Z
  have HZ := Lib.hid hZ
  clear hZ
  obtain ⟨ka, kc, hk⟩ := row_slice H1.out.kind
  obtain ⟨oa, oc, ho⟩ := row_slice H2.out.kind
  obtain ⟨ta, tc, ht⟩ := row_slice H1.out.body
  obtain ⟨ua, uc, hu⟩ := row_slice H2.out.body
  subst hk ho ht hu
  unfold seenC
  have L1 := Lib.hid l1
  have L2 := Lib.hid l2
  clear l1 l2
  generalize hT1 : m.body.length = T1 at *
  generalize hT2 : o.body.length = T2 at *
  have HT1 := Lib.hid hT1
  have HT2 := Lib.hid hT2
  clear hT1 hT2
  by_cases hlen : m.kind.length = o.kind.length
  · by_cases hroot : m.root = o.root
    · have HROOT := Lib.hid hroot
      rw [← hroot]
      have HLEN := Lib.hid hlen
      have hZ2 : Z = decide (m.kind = o.kind ∧ m.body = o.body) := by
        rw [← HZ.out]
        by_cases h : m = o
        · rw [decide_eq_true h, decide_eq_true]
          rw [h]; exact ⟨rfl, rfl⟩
        · rw [decide_eq_false h, decide_eq_false]
          rintro ⟨q1, q2⟩
          apply h
          cases m; cases o
          simp only at q1 q2 hroot
          rw [q1, q2, hroot]
      have HZ2 := Lib.hid hZ2
      clear hroot hZ2 HZ hlen
      generalize hN1 : m.kind.length = N at *
      have hN2 : o.kind.length = N := HLEN.out.symm
      rw [hN2]
      have HN1 := Lib.hid hN1
      have HN2 := Lib.hid hN2
      clear hN1 hN2 HLEN
      have hRE : ∀ w, (Op.equalIn 10000 53 _ _).run Tryz.prog w = .ok _ w := fun w => roots_eq m.root m.root w
      rw [decide_eq_true (rfl : m.root = m.root)] at hRE
      go_enter Tryz.func32, Tryz.ntmps32
      go_wp2_with fail
      have hA := heap_alloc_new w (.cells #[.slice ka N kc, .slice ta T1 tc, .int .u32 (m.root.a : Int), .int .u32 (m.root.b : Int), .int .u32 (m.root.c : Int), .int .u32 (m.root.d : Int), .int .u32 (m.root.e : Int), .int .u32 (m.root.f : Int), .int .u32 (m.root.g : Int), .int .u32 (m.root.h : Int)] 55)
      have hB := heap_alloc_new (w.alloc (.cells #[.slice ka N kc, .slice ta T1 tc, .int .u32 (m.root.a : Int), .int .u32 (m.root.b : Int), .int .u32 (m.root.c : Int), .int .u32 (m.root.d : Int), .int .u32 (m.root.e : Int), .int .u32 (m.root.f : Int), .int .u32 (m.root.g : Int), .int .u32 (m.root.h : Int)] 55)) (.cells #[.slice oa N oc, .slice ua T2 uc, .int .u32 (m.root.a : Int), .int .u32 (m.root.b : Int), .int .u32 (m.root.c : Int), .int .u32 (m.root.d : Int), .int .u32 (m.root.e : Int), .int .u32 (m.root.f : Int), .int .u32 (m.root.g : Int), .int .u32 (m.root.h : Int)] 55)
      have k1 : Kept No w (w.alloc (.cells #[.slice ka N kc, .slice ta T1 tc, .int .u32 (m.root.a : Int), .int .u32 (m.root.b : Int), .int .u32 (m.root.c : Int), .int .u32 (m.root.d : Int), .int .u32 (m.root.e : Int), .int .u32 (m.root.f : Int), .int .u32 (m.root.g : Int), .int .u32 (m.root.h : Int)] 55)) := (Kept.refl _ _).alloc _
      have k2 : Kept No (w.alloc (.cells #[.slice ka N kc, .slice ta T1 tc, .int .u32 (m.root.a : Int), .int .u32 (m.root.b : Int), .int .u32 (m.root.c : Int), .int .u32 (m.root.d : Int), .int .u32 (m.root.e : Int), .int .u32 (m.root.f : Int), .int .u32 (m.root.g : Int), .int .u32 (m.root.h : Int)] 55)) ((w.alloc (.cells #[.slice ka N kc, .slice ta T1 tc, .int .u32 (m.root.a : Int), .int .u32 (m.root.b : Int), .int .u32 (m.root.c : Int), .int .u32 (m.root.d : Int), .int .u32 (m.root.e : Int), .int .u32 (m.root.f : Int), .int .u32 (m.root.g : Int), .int .u32 (m.root.h : Int)] 55)).alloc (.cells #[.slice oa N oc, .slice ua T2 uc, .int .u32 (m.root.a : Int), .int .u32 (m.root.b : Int), .int .u32 (m.root.c : Int), .int .u32 (m.root.d : Int), .int .u32 (m.root.e : Int), .int .u32 (m.root.f : Int), .int .u32 (m.root.g : Int), .int .u32 (m.root.h : Int)] 55)) := (Kept.refl _ _).alloc _
      rw [show (w.alloc (.cells #[.slice ka N kc, .slice ta T1 tc, .int .u32 (m.root.a : Int), .int .u32 (m.root.b : Int), .int .u32 (m.root.c : Int), .int .u32 (m.root.d : Int), .int .u32 (m.root.e : Int), .int .u32 (m.root.f : Int), .int .u32 (m.root.g : Int), .int .u32 (m.root.h : Int)] 55)).heap.size = w.heap.size + 1 from by simp] at hB
      have hA2 := k2.heap hA (fun h => h)
      have k12 := k1.trans k2
      have g1 := k12.row H1.out.kind (fun _ _ h => h)
      have g2 := k12.row H2.out.kind (fun _ _ h => h)
      have g3 := k12.row H1.out.body (fun _ _ h => h)
      have g4 := k12.row H2.out.body (fun _ _ h => h)
      clear hA k1 k2
      generalize ((w.alloc (.cells #[.slice ka N kc, .slice ta T1 tc, .int .u32 (m.root.a : Int), .int .u32 (m.root.b : Int), .int .u32 (m.root.c : Int), .int .u32 (m.root.d : Int), .int .u32 (m.root.e : Int), .int .u32 (m.root.f : Int), .int .u32 (m.root.g : Int), .int .u32 (m.root.h : Int)] 55)).alloc (.cells #[.slice oa N oc, .slice ua T2 uc, .int .u32 (m.root.a : Int), .int .u32 (m.root.b : Int), .int .u32 (m.root.c : Int), .int .u32 (m.root.d : Int), .int .u32 (m.root.e : Int), .int .u32 (m.root.f : Int), .int .u32 (m.root.g : Int), .int .u32 (m.root.h : Int)] 55)) = w2 at *
      rw [HT1.out] at g3
      rw [HT2.out] at g4
      rw [HN1.out] at g1
      rw [HN2.out] at g2
      have G1 := Lib.hid g1
      have G2 := Lib.hid g2
      have G3 := Lib.hid g3
      have G4 := Lib.hid g4
      have K12 := Lib.hid k12
      have HA2 := Lib.hid hA2
      have HB2 := Lib.hid hB
      clear hA2 hB g1 g2 g3 g4 k12
      generalize w.heap.size = A at *
      go_loopw [5] (fun i wr => ∃ j : Nat, j ≤ N ∧ i = .int .i64 (j : Int) ∧ Kept No w2 wr ∧ ∀ q, q < j → m.kind.getD q 0 = o.kind.getD q 0 ∧ m.body.getD q [] = o.body.getD q []) (fun i _ => N - (intOf i).toNat)
      case atStart => exact ⟨0, by omega, rfl, Kept.refl _ _, fun q hq => absurd hq (by omega)⟩
      case round =>
        obtain ⟨j, hj, rfl, hkw, hall⟩ := hrel
        have hA3 := hkw.heap HA2.out (fun h => h)
        have hB3 := hkw.heap HB2.out (fun h => h)
        have a0 : wr.cell? ⟨A, 0, none⟩ = some (.slice ka N kc) := (cell_of_row wr _ 0 _ _ _ hA3).trans rfl
        have a1 : wr.cell? ⟨A, 1, none⟩ = some (.slice ta T1 tc) := (cell_of_row wr _ 1 _ _ _ hA3).trans rfl
        have b0 : wr.cell? ⟨A + 1, 0, none⟩ = some (.slice oa N oc) := (cell_of_row wr _ 0 _ _ _ hB3).trans rfl
        have b1 : wr.cell? ⟨A + 1, 1, none⟩ = some (.slice ua T2 uc) := (cell_of_row wr _ 1 _ _ _ hB3).trans rfl
        have G5 := Lib.hid (hkw.row G1.out (fun _ _ h => h))
        have G6 := Lib.hid (hkw.row G2.out (fun _ _ h => h))
        have G7 := Lib.hid (hkw.row G3.out (fun _ _ h => h))
        have G8 := Lib.hid (hkw.row G4.out (fun _ _ h => h))
        have KW := Lib.hid hkw
        clear hkw hA3 hB3
        have HALL := Lib.hid hall
        clear hall
        by_cases hlt : j < N
        · obtain ⟨x1, y1, e1, f1⟩ := own_at1 G5.out (by omega)
          obtain ⟨x2, y2, e2, f2⟩ := own_at1 G6.out (by omega)
          obtain ⟨x3, y3, e3, f3⟩ := own_at1 G7.out (by rw [L1.out]; omega)
          obtain ⟨x4, y4, e4, f4⟩ := own_at1 G8.out (by rw [L2.out, HN2.out]; omega)
          injection e1 with e11 e12 e13
          injection e2 with e21 e22 e23
          injection e3 with e31 e32 e33
          injection e4 with e41 e42 e43
          subst e11 e13 e21 e23 e31 e33 e41 e43
          have c1 := f1 j _ (kindC_at m.kind j (by rw [HN1.out]; exact hlt))
          have c2 := f2 j _ (kindC_at o.kind j (by rw [HN2.out]; exact hlt))
          have c3 := f3 j _ (textC_at m.body j (by rw [HT1.out, L1.out]; exact hlt))
          have c4 := f4 j _ (textC_at o.body j (by rw [HT2.out, L2.out, HN2.out]; exact hlt))
          have t1 : j < T1 := by rw [L1.out]; exact hlt
          have t2 : j < T2 := by rw [L2.out, HN2.out]; exact hlt
          clear f1 f2 f3 f4
          have HNO : Hid (¬ (m.kind.getD j 0 = o.kind.getD j 0 ∧ m.body.getD j [] = o.body.getD j []) → Z = false) := Lib.hid (fun h => by
            rw [HZ2.out, decide_eq_false_iff_not]
            rintro ⟨q1, q2⟩
            exact h ⟨by rw [q1], by rw [q2]⟩)
          have HUP : Hid ((m.kind.getD j 0 = o.kind.getD j 0 ∧ m.body.getD j [] = o.body.getD j []) → ∀ q, q < j + 1 → m.kind.getD q 0 = o.kind.getD q 0 ∧ m.body.getD q [] = o.body.getD q []) := Lib.hid (fun h q hq => by
            by_cases hqj : q = j
            · subst hqj; exact h
            · exact HALL.out q (by omega))
          generalize m.kind.getD j 0 = X1 at *
          generalize o.kind.getD j 0 = X2 at *
          generalize m.body.getD j [] = Y1 at *
          generalize o.body.getD j [] = Y2 at *
          clear HALL
          by_cases hX : X1 = X2
          · subst hX
            by_cases hY : Y1 = Y2
            · subst hY
              have HUQ := Lib.hid (HUP.out ⟨rfl, rfl⟩)
              clear HUP HNO
              go_wp2_with fail
              go_quiet (first | fail)
              go_wp2
              go_roundw
              case rel => exact ⟨j + 1, by omega, by first | rfl | go_num, KW.out.drewN _, HUQ.out⟩
              case measure => simp [intOf]; omega
            · have hz := HNO.out (fun h => hY h.2)
              have hs : (Y1 == Y2) = false := by rw [beq_eq_false_iff_ne]; exact hY
              have hs2 : (!(Y1 == Y2)) = true := by rw [hs]; rfl
              clear HUP HNO
              go_wp2_with fail
              go_quiet (first | fail)
              go_wp2
              go_ret
              exact ⟨by rw [hz]; rfl, (K12.out.trans KW.out).drewN _⟩
          · have hz := HNO.out (fun h => hX h.1)
            have hs : (X1 == X2) = false := by rw [beq_eq_false_iff_ne]; exact hX
            have hs' : (X1 != X2) = true := by rw [bne_iff_ne]; exact hX
            clear HUP HNO
            go_wp2_with fail
            go_quiet (first | fail)
            go_wp2
            go_ret
            exact ⟨by rw [hz]; rfl, (K12.out.trans KW.out).drewN _⟩
        · obtain rfl : j = N := by omega
          have hz : Z = true := by
            rw [HZ2.out, decide_eq_true_eq]
            exact ⟨getD_ext (d := 0) (by rw [HN1.out, HN2.out]) (fun q hq => (HALL.out q (by rw [← HN1.out]; exact hq)).1), getD_ext (d := []) (by rw [HT1.out, HT2.out, L1.out, L2.out, HN2.out]) (fun q hq => (HALL.out q (by rw [← L1.out, ← HT1.out]; exact hq)).2)⟩
          go_wp2_with fail
          go_ret
          exact ⟨by rw [hz]; rfl, K12.out.trans KW.out⟩
    · have hz : Z = false := by rw [← HZ.out, decide_eq_false_iff_not]; rintro rfl; exact hroot rfl
      subst hz
      have hq : ((m.kind.length : Int) != (o.kind.length : Int)) = false := by rw [bne_eq_false_iff_eq]; omega
      clear HZ
      have hex : ¬ (m.root.a = o.root.a ∧ m.root.b = o.root.b ∧ m.root.c = o.root.c ∧ m.root.d = o.root.d ∧ m.root.e = o.root.e ∧ m.root.f = o.root.f ∧ m.root.g = o.root.g ∧ m.root.h = o.root.h) := by
        rintro ⟨q1, q2, q3, q4, q5, q6, q7, q8⟩
        apply hroot
        cases hm : m.root; cases ho : o.root
        simp only [hm, ho] at q1 q2 q3 q4 q5 q6 q7 q8
        subst q1 q2 q3 q4 q5 q6 q7 q8
        rfl
      have hRE : ∀ w, (Op.equalIn 10000 53 _ _).run Tryz.prog w = .ok _ w := fun w => roots_eq m.root o.root w
      rw [decide_eq_false hroot] at hRE
      clear hroot hex
      go_enter Tryz.func32, Tryz.ntmps32
      go_wp2_with fail
      go_ret
      exact ⟨rfl, ((Kept.refl No w).alloc _).alloc _⟩
  · have hz : Z = false := by rw [← HZ.out, decide_eq_false_iff_not]; rintro rfl; exact hlen rfl
    subst hz
    have hq : ((m.kind.length : Int) != (o.kind.length : Int)) = true := by rw [bne_iff_ne]; omega
    clear hlen HZ
    go_enter Tryz.func32, Tryz.ntmps32
    go_wp2
    go_ret
    exact ⟨rfl, ((Kept.refl No w).alloc _).alloc _⟩
end Go.Proofs.YtabhieafjkaocaaGreat
