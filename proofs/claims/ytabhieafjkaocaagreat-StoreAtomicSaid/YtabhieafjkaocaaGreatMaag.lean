/- A part. -/
import Derived.Test.YtabhieafjkaocaaGreatMaad
import Derived.Test.YtabhieafjkaocaaGreatMaaf
import Derived.Test.YtabhieafjkaocaaGreatMaae
import Derived.Lib.LazyBuf
import Derived.StillTailTactics
import Derived.ChangeKeysEq
set_option linter.unusedVariables false
set_option linter.unusedSimpArgs false
namespace Go.Proofs.YtabhieafjkaocaaGreat
open Go.RowKit Go.Lib
set_option maxRecDepth 20000
theorem rowBytes_append (a b : List UInt8) : rowBytes (a ++ b) = rowBytes a ++ rowBytes b := List.map_append
theorem rowBytes_length (a : List UInt8) : (rowBytes a).length = a.length := List.length_map _
theorem rowBytes_one (a : List UInt8) : ∀ v ∈ rowBytes a, v.oneCell' = true := by
  intro v hv
  obtain ⟨x, _, rfl⟩ := List.mem_map.1 hv
  rfl
theorem rowBytes_get (a : List UInt8) (i : Nat) (h : i < a.length) : (⟨rowBytes a⟩ : Array Value)[i]? = some (.int .u8 (a[i].toNat : Int)) := by
  rw [← Array.getElem?_toList]
  show (rowBytes a)[i]? = _
  rw [rowBytes, List.getElem?_map, List.getElem?_eq_getElem h]
  rfl
theorem own_full {w : World} {e : TypeId} {g n : Nat} {xs : List Value} (h : w.ownsRow 0 e 1 (.slice (some ⟨g, 0, none⟩) n n) n xs) : w.heap[g]? = some (.cells ⟨xs⟩ e (0, 0)) := by
  obtain ⟨hl, h0 | ⟨g', cap, cur, hv, _, hg, _, _, hs, ht⟩⟩ := h
  · cases h0.1
  · simp only [Value.slice.injEq, Option.some.injEq, Addr.mk.injEq] at hv
    obtain ⟨⟨rfl, -, -⟩, -, rfl⟩ := hv
    rw [List.take_of_length_le (by rw [Array.length_toList]; omega)] at ht
    subst ht
    exact hg
theorem put_bytes (x n b off len cap : Nat) (w : World) (hx : x < 18446744073709551616) (hn : n ≤ 8) (hnl : n ≤ len) (A M B L : List UInt8) (hL : L = A ++ (M ++ B)) (hM : M.length = n) (hA : A.length = off) (t : TypeId)
    (hg : w.heap[b]? = some (.cells ⟨rowBytes L⟩ t (0, 0))) :
    Calls Tryz.prog 126 #[.slice (some ⟨b, off, none⟩) len cap, .int .u64 (x : Int), .int .i64 (n : Int)] w fun e w' => e = .returned (.tuple #[]) ∧ Kept (fun k => k = b) w w' ∧ w'.heap[b]? = some (.cells ⟨rowBytes (A ++ (be x n ++ B))⟩ t (0, 0)) := by
  subst hL
  rw [rowBytes_append, rowBytes_append] at hg ⊢
  exact put_ok x n b off len cap w hx hn hnl _ _ _ t (by rw [rowBytes_length, hM]) (by rw [rowBytes_length, hA]) hg
theorem run_copy_str {P : Program} (w : World) (dT sT ty elem : TypeId) (g o dLen dCap : Nat) (s : ByteArray) (cur : Array Value) (t : TypeId) (hu : P.underlying dT = some (.slice elem)) (hs : (P.info? elem).map (·.size) = some 1)
    (hg : w.heap[g]? = some (.cells cur t (0, 0))) (hle : s.size ≤ dLen) (hfit : o + s.size ≤ cur.size) :
    (Builtin.copy_ #[dT, sT] ty #[.slice (some ⟨g, o, none⟩) dLen dCap, .string s]).run P w = .ok (goInt s.size) (w.setRow g (cur.toList.take o ++ rowBytes s.data.toList ++ cur.toList.drop (o + s.size)).toArray) := by
  have hmin : Nat.min s.size dLen = s.size := Nat.min_eq_left hle
  have hl : (rowBytes s.data.toList).length = s.size := by rw [rowBytes_length]; rfl
  have hst := run_storeCells_at P g o t (rowBytes s.data.toList) 0 cur w hg (by rw [hl]; simpa using hfit) (rowBytes_one _)
  cases hq : P.info? elem with
  | none => simp [hq] at hs
  | some i =>
    have hi : i.size = 1 := by simpa [hq] using hs
    simp [Builtin.copy_, run_underlying hu, Builtin.lenOf, Builtin.firstCells, sizeOf, typeInfo, hq, hi, hmin]
    rw [List.take_of_length_le (by rw [List.length_map]; exact Nat.le_refl _)]
    rw [hl] at hst
    have hst2 := hst
    unfold rowBytes at hst2 ⊢
    rw [hst2]
    simp [Result.andThen]
theorem wpList_copy_str {P : Program} {w : World} {ops : Array Oper} {rest : List Oper} {o : Oper} {a : Act} {Q : Exit → Act → World → Prop} (hgd : o.guard = none) (d x : Operand) (dT sT : TypeId)
    (ho : o.op = .call { callee := .builtin .copy, args := #[d, x], argTypes := #[dT, sT] }) (elem : TypeId) (hu : P.underlying dT = some (.slice elem)) (hs : (P.info? elem).map (·.size) = some 1)
    (g off dLen dCap : Nat) (s : ByteArray) (hd : a.eval d = .slice (some ⟨g, off, none⟩) dLen dCap) (hx : a.eval x = .string s) (A M B L : List UInt8) (hL : L = A ++ (M ++ B)) (hA : A.length = off) (hM : M.length = s.size) (t : TypeId)
    (hg : w.heap[g]? = some (.cells ⟨rowBytes L⟩ t (0, 0))) (hle : s.size ≤ dLen)
    (h : ∀ w', Kept (fun k => k = g) w w' → w'.heap[g]? = some (.cells ⟨rowBytes (A ++ (s.data.toList ++ B))⟩ t (0, 0)) → wpList P ops Q rest (a.put o.dst (goInt s.size)) w') : wpList P ops Q (o :: rest) a w := by
  refine wpList_plain hgd fun K hK => ?_
  subst hL
  have hrun := run_copy_str (P := P) w dT sT o.type elem g off dLen dCap s _ t hu hs hg hle (by show _ ≤ (rowBytes _).length; rw [rowBytes_length]; simp; omega)
  have e : ((⟨rowBytes (A ++ (M ++ B))⟩ : Array Value).toList.take off ++ rowBytes s.data.toList ++ (⟨rowBytes (A ++ (M ++ B))⟩ : Array Value).toList.drop (off + s.size)).toArray = ⟨rowBytes (A ++ (s.data.toList ++ B))⟩ := by
    apply Array.ext'
    show (rowBytes (A ++ (M ++ B))).take off ++ rowBytes s.data.toList ++ (rowBytes (A ++ (M ++ B))).drop (off + s.size) = rowBytes (A ++ (s.data.toList ++ B))
    rw [rowBytes_append, rowBytes_append, List.take_left' (by rw [rowBytes_length, hA]), ← List.append_assoc (rowBytes A), List.drop_left' (by rw [List.length_append, rowBytes_length, rowBytes_length, hA, hM]), rowBytes_append, rowBytes_append, List.append_assoc]
  rw [e] at hrun
  unfold Oper.wp
  simp only [execOp, ho, resolve, invoke, builtin]
  simp [hd, hx, hrun, Result.andThen]
  exact hK _ _ (h _ ((Kept.refl _ _).setRow _ _ (fun _ => rfl)) (setRow_heap w g _ _ t _ hg))
def pageRow (p : PageV) : Array Value := #[.int .u8 (p.kind.toNat : Int), .int .u32 (p.number : Int), .int .u64 (p.serial : Int), .string ⟨⟨p.body⟩⟩]
theorem set_bytes (A B : List UInt8) (m k : UInt8) (i : Nat) (h : A.length = i) : (⟨rowBytes (A ++ (m :: B))⟩ : Array Value).setIfInBounds i (.int .u8 (k.toNat : Int)) = ⟨rowBytes (A ++ (k :: B))⟩ := by
  have := set_mid (rowBytes A) [] (rowBytes B) (.int .u8 (m.toNat : Int)) (.int .u8 (k.toNat : Int)) i (by rw [rowBytes_length]; simpa using h)
  rw [rowBytes_append, rowBytes_append]
  exact this
theorem get_bytes (A B : List UInt8) (m : UInt8) (i : Nat) (h : A.length = i) : (⟨rowBytes (A ++ (m :: B))⟩ : Array Value)[i]? = some (.int .u8 (m.toNat : Int)) := by
  subst h
  rw [rowBytes_get _ _ (by simp)]
  simp
theorem zeros_row (n : Nat) : List.replicate n (Value.int .u8 0) = rowBytes (List.replicate n 0) := by
  rw [rowBytes, List.map_replicate]
  rfl
set_option maxHeartbeats 4000000 in
theorem encode_ok (p : PageV) (w : World) (h1 : p.serial ≤ 4611686018427387904) (h2 : p.body.length ≤ 996) (h3 : p.number < 4294967296) :
    Calls Tryz.prog 78 #[.agg (pageRow p)] w fun e w' => ∃ b, e = .returned (.tuple #[.slice (some ⟨b, 0, none⟩) 1024 1024, .int .i64 0]) ∧ Kept No w w' ∧ w.heap.size ≤ b ∧ w'.heap[b]? = some (.cells ⟨rowBytes (encode (sumOn 0) p)⟩ 5 (0, 0)) := by
  obtain ⟨i0, hi, hz0, hz1, hz2⟩ := info_parts Tryz.infoU8
  unfold pageRow
  have hsz : (⟨⟨p.body⟩⟩ : ByteArray).size = p.body.length := rfl
  go_enter Tryz.func78, Tryz.ntmps78
  have H0 := Lib.hid (heap_alloc_new w (.cells #[.int .u8 (p.kind.toNat : Int), .int .u32 (p.number : Int), .int .u64 (p.serial : Int), .string ⟨⟨p.body⟩⟩] 28))
  go_wp2_with (refine wpList_make_full _ (by rfl) (.const (.int .i64 1024)) (.const (.int .i64 1024)) 104 (by rfl) 0 5 i0 (.int .u8 0) 1 Tryz.underlying104 hi hz0 hz1 .i64 .i64 1024 1024 1024 (by rfl) (by rfl) (by rfl) (by rfl) (by rw [hz2]; decide) (by decide) (by omega) ?_; intro w1 hown hgrow; have HB := Lib.hid ((Kept.of_grown_none hgrow).heap H0.out (fun h => h)); have c2 := (cell_of_row w1 w.heap.size 2 _ _ _ HB.out).trans rfl; have HR := Lib.hid (own_full hown); have K1 := Lib.hid (((Kept.refl No w).alloc (.cells #[.int .u8 (p.kind.toNat : Int), .int .u32 (p.number : Int), .int .u64 (p.serial : Int), .string ⟨⟨p.body⟩⟩] 28)).trans (Kept.of_grown_none hgrow)); clear hown hgrow)
  have R0 : w1.heap[w.heap.size + 1]? = some (.cells ⟨rowBytes (List.replicate 1024 0)⟩ 5 (0, 0)) := by
    have h := HR.out
    rw [show (Value.int IntKind.u8 0).cells = #[Value.int IntKind.u8 0] from rfl, toList_madeCells_one, zeros_row] at h
    simpa using h
  clear HR H0
  refine (put_bytes p.serial 8 _ _ _ _ _ (by omega) (by decide) (by decide) [] (List.replicate 8 0) (List.replicate 1016 0) _ (by decide +kernel) rfl rfl _ R0).mono ?_
  rintro e w2 ⟨rfl, k2, R2⟩
  have HB := Lib.hid (k2.heap HB.out (by simp))
  have K2 := Lib.hid (K1.out.next k2 (fun k hk e => by subst e; exact absurd hk (by omega)))
  clear k2 K1 R0 c2
  rw [show List.replicate 1016 (0 : UInt8) = 0 :: List.replicate 1015 0 from rfl, List.nil_append] at R2
  have c0 := (cell_of_row w2 w.heap.size 0 _ _ _ HB.out).trans rfl
  have d8 := (cell_of_row w2 (w.heap.size + 1) 8 _ _ _ R2).trans (get_bytes _ _ _ 8 (be_length _ _))
  have f8 := frozen_of_row w2 (w.heap.size + 1) 8 _ _ R2
  have R3 := Lib.hid (heap_setCell_same w2 (w.heap.size + 1) 8 _ _ (.int .u8 (p.kind.toNat : Int)) R2)
  have HB := Lib.hid (((Kept.refl (fun k => k = w.heap.size + 1) w2).setCell ⟨w.heap.size + 1, 8, none⟩ (.int .u8 (p.kind.toNat : Int)) (fun _ => rfl)).heap HB.out (by simp))
  have K3 := Lib.hid (K2.out.setCell ⟨w.heap.size + 1, 8, none⟩ (.int .u8 (p.kind.toNat : Int)) (fun hk => absurd hk (by simp)))
  clear R2 K2
  go_wp2_with fail
  clear c0 d8 f8
  have R3 := R3.out
  rw [set_bytes _ _ _ _ _ (be_length _ _)] at R3
  generalize w2.setCell ⟨w.heap.size + 1, 8, none⟩ (.int .u8 (p.kind.toNat : Int)) = w3 at R3 HB K3 ⊢
  have c3 := (cell_of_row w3 w.heap.size 3 _ _ _ HB.out).trans rfl
  go_still_tail 6, (by kernel_rfl)
  repeat still_step
  change wpList _ _ _ _ _ w3.drew
  go_wp2_with fail
  refine (put_bytes p.body.length 2 (w.heap.size + 1) 10 1014 1014 w3.drew (by omega) (by decide) (by decide) (be p.serial 8 ++ [p.kind, 0]) (List.replicate 2 0) (List.replicate 1012 0) _ (by rw [show List.replicate 1015 (0 : UInt8) = 0 :: (List.replicate 2 0 ++ List.replicate 1012 0) from by decide +kernel]; simp) rfl (by simp [be_length]) _ R3).mono ?_
  rintro e w4 ⟨rfl, k4, R4⟩
  have HB := Lib.hid (k4.heap HB.out (by simp))
  have K4 := Lib.hid (K3.out.drew.next k4 (fun k hk e => by subst e; exact absurd hk (by omega)))
  clear k4 K3 R3 c3
  have c1 := (cell_of_row w4 w.heap.size 1 _ _ _ HB.out).trans rfl
  go_wp2_with fail
  go_still_tail 5, (by kernel_rfl)
  repeat still_step
  change wpList _ _ _ _ _ w4.drew
  go_wp2_with fail
  refine (put_bytes p.number 4 (w.heap.size + 1) 12 1012 1012 w4.drew (by omega) (by decide) (by decide) ((be p.serial 8 ++ [p.kind, 0]) ++ be p.body.length 2) (List.replicate 4 0) (List.replicate 1008 0) _ (by rw [show List.replicate 1012 (0 : UInt8) = List.replicate 4 0 ++ List.replicate 1008 0 from by decide +kernel]; simp) rfl (by simp [be_length]) _ R4).mono ?_
  rintro e w5 ⟨rfl, k5, R5⟩
  have HB := Lib.hid (k5.heap HB.out (by simp))
  have K5 := Lib.hid (K4.out.drew.next k5 (fun k hk e => by subst e; exact absurd hk (by omega)))
  clear k5 K4 R4 c1
  have c3 := (cell_of_row w5 w.heap.size 3 _ _ _ HB.out).trans rfl
  go_wp2_with fail
  go_still_tail 4, (by kernel_rfl)
  repeat still_step
  change wpList _ _ _ _ _ w5.drew
  have hL5 : (be p.serial 8 ++ [p.kind, 0]) ++ be p.body.length 2 ++ (be p.number 4 ++ List.replicate 1008 0) = ((be p.serial 8 ++ [p.kind, 0]) ++ be p.body.length 2 ++ be p.number 4 ++ List.replicate 4 0) ++ (List.replicate p.body.length 0 ++ List.replicate (1004 - p.body.length) 0) := by
    rw [List.replicate_append_replicate, show p.body.length + (1004 - p.body.length) = 1004 from by omega, show List.replicate 1008 (0 : UInt8) = List.replicate 4 0 ++ List.replicate 1004 0 from by decide +kernel]
    simp
  rw [hL5] at R5
  clear hL5
  refine wpList_copy_str (by rfl) (.tmp 37) (.tmp 39) 104 9 (by rfl) 5 Tryz.underlying104 (by kernel_rfl) (w.heap.size + 1) 20 1004 1004 ⟨⟨p.body⟩⟩ (by rfl) (by rfl) _ (List.replicate p.body.length 0) _ _ rfl (by simp [be_length]) (by rw [hsz]; simp) _ R5 (by rw [hsz]; omega) ?_
  intro w6 k6 R6
  have HB := Lib.hid (k6.heap HB.out (by simp))
  have K6 := Lib.hid (K5.out.drew.next k6 (fun k hk e => by subst e; exact absurd hk (by omega)))
  clear k6 K5 R5 c3
  have c2 := (cell_of_row w6 w.heap.size 2 _ _ _ HB.out).trans rfl
  go_wp2_with fail
  go_still_tail 4, (by kernel_rfl)
  repeat still_step
  change wpList _ _ _ _ _ w6.drew
  go_wp2_with fail
  refine (put_bytes p.serial 8 (w.heap.size + 1) 1016 8 8 w6.drew (by omega) (by decide) (by decide) ((be p.serial 8 ++ [p.kind, 0]) ++ be p.body.length 2 ++ be p.number 4 ++ List.replicate 4 0 ++ (p.body ++ List.replicate (996 - p.body.length) 0)) (List.replicate 8 0) [] _ (by rw [show 1004 - p.body.length = (996 - p.body.length) + 8 from by omega, ← List.replicate_append_replicate]; simp) rfl (by simp [be_length]; omega) _ R6).mono ?_
  rintro e w7 ⟨rfl, k7, R7⟩
  have hlay : (be p.serial 8 ++ [p.kind, 0]) ++ be p.body.length 2 ++ be p.number 4 ++ List.replicate 4 0 ++ (p.body ++ List.replicate (996 - p.body.length) 0) ++ (be p.serial 8 ++ []) = lay p (be 0 4) := by
    rw [show be 0 4 = List.replicate 4 0 from by decide +kernel, lay]
    simp
  rw [hlay] at R7
  have K7 := Lib.hid (K6.out.drew.next k7 (fun k hk e => by subst e; exact absurd hk (by omega)))
  clear k7 K6 R6 c2 HB hlay
  go_wp2_with fail
  have hll : (lay p (be 0 4)).length = 1024 := lay_length _ _ h2 (be_length _ _)
  have hcv : ∀ q : InC (Kept No w7), (convert 104 9 (.slice (some ⟨w.heap.size + 1, 0, none⟩) 1024 1024)).run Tryz.prog q.world = .ok (.string ⟨(lay p (be 0 4)).toArray⟩) q.world := fun q => by
    have hr := q.here.heap R7 (fun h => h)
    exact conv_row (B := 0) (l := lay p (be 0 4)) ⟨by rw [byteVals, List.length_map]; omega, .inr ⟨w.heap.size + 1, 1024, _, by rw [hll], Nat.zero_le _, hr, by omega, by decide, by show (rowBytes _).length = _; rw [rowBytes_length]; omega, by show (rowBytes _).take _ = _; rw [List.take_of_length_le (by rw [rowBytes_length]; omega)]; rfl⟩⟩
  have hsum := fun w => sum_ok ⟨(lay p (be 0 4)).toArray⟩ w (by show (lay p (be 0 4)).length ≤ _; omega)
  have HS := Lib.hid hsum
  have R7 := Lib.hid R7
  have HL := Lib.hid hll
  clear hsum hll
  refine wp_region_in_tail (Kept No w7) 6 (by kernel_rfl) (by kernel_rfl) ((Kept.refl _ _).drew) ?_
  simp only [List.take_succ_cons, List.take_zero, List.drop_succ_cons, List.drop_zero]
  repeat (go_big_quiet_step (first | (go_at_call 127; exact in_kept (HS.out _))))
  refine wpQuiet_nil ?_
  intro w8 hw'
  obtain ⟨⟨wx, k8⟩, hw''⟩ := hw'
  change w8 = wx at hw''
  subst hw''
  have R8 := k8.heap R7.out (fun h => h)
  have hlt := sumOn_lt (lay p (be 0 4))
  clear hcv
  go_wp2_with fail
  refine (put_bytes (sumOn 0 (lay p (be 0 4))) 4 (w.heap.size + 1) 16 1008 1008 w8 (by omega) (by decide) (by decide) (be p.serial 8 ++ (p.kind :: 0 :: (be p.body.length 2 ++ be p.number 4))) (be 0 4) (p.body ++ (List.replicate (996 - p.body.length) 0 ++ be p.serial 8)) _ (by rw [lay]; simp) (be_length _ _) (by simp [be_length]) _ R8).mono ?_
  rintro e w9 ⟨rfl, k9, R9⟩
  have K9 := Lib.hid ((K7.out.trans k8).next k9 (fun k hk e => by subst e; exact absurd hk (by omega)))
  have hfin : be p.serial 8 ++ (p.kind :: 0 :: (be p.body.length 2 ++ be p.number 4)) ++ (be (sumOn 0 (lay p (be 0 4))) 4 ++ (p.body ++ (List.replicate (996 - p.body.length) 0 ++ be p.serial 8))) = encode (sumOn 0) p := by
    rw [encode]
    generalize sumOn 0 (lay p (be 0 4)) = sm
    simp [lay]
  rw [hfin] at R9
  have R9 := Lib.hid R9
  clear k9 k8 K7 R7 R8 hfin HS HL hlt
  go_wp2_with fail
  go_ret2
  exact ⟨_, rfl, K9.out, by omega, R9.out⟩
theorem eqItems_bytes (d : Nat) (a b : List UInt8) (w : World) : ∀ is : List Nat, (∀ i ∈ is, i < a.length ∧ i < b.length) →
    (Op.eqItems (d + 1) 5 1 ⟨rowBytes a⟩ ⟨rowBytes b⟩ is).run Tryz.prog w = .ok (is.all fun i => a[i]?.getD 0 == b[i]?.getD 0) w
  | [], _ => by simp [Op.eqItems]
  | i :: is, h => by
    have ha := rowBytes_get a i (h i (by simp)).1
    have hb := rowBytes_get b i (h i (by simp)).2
    have pa : (part 5 ⟨rowBytes a⟩ (i * 1)).run Tryz.prog w = .ok (.int .u8 (a[i]'(h i (by simp)).1).toNat) w := by
      rw [Nat.mul_one]
      have z := Tryz.isAgg5
      simp [part, ha, go_sem, z]
    have pb : (part 5 ⟨rowBytes b⟩ (i * 1)).run Tryz.prog w = .ok (.int .u8 (b[i]'(h i (by simp)).2).toNat) w := by
      rw [Nat.mul_one]
      have z := Tryz.isAgg5
      simp [part, hb, go_sem, z]
    have ih := eqItems_bytes d a b w is (fun j hj => h j (by simp [hj]))
    simp only [Op.eqItems, Sem.run_bind, pa, pb, Result.andThen_ok, run_equalIn_int w d 5 .u8 .u8 _ _ Tryz.underlying5]
    have e : (((a[i]'(h i (by simp)).1).toNat : Int) == ((b[i]'(h i (by simp)).2).toNat : Int)) = (a[i]?.getD 0 == b[i]?.getD 0) := by
      rw [List.getElem?_eq_getElem (h i (by simp)).1, List.getElem?_eq_getElem (h i (by simp)).2]
      simp only [Option.getD_some]
      rw [Bool.eq_iff_iff, beq_iff_eq, beq_iff_eq]
      constructor
      · intro q
        exact UInt8.toNat_inj.1 (Int.ofNat_inj.1 q)
      · intro q
        rw [q]
    rw [e, List.all_cons]
    cases (a[i]?.getD 0 == b[i]?.getD 0)
    · simp
    · simpa using ih
theorem all_eq (a b : List UInt8) (n : Nat) (ha : a.length = n) (hb : b.length = n) : ((List.range n).all fun i => a[i]?.getD 0 == b[i]?.getD 0) = (a == b) := by
  rw [Bool.eq_iff_iff, List.all_eq_true, beq_iff_eq]
  constructor
  · intro h
    refine List.ext_getElem (by omega) fun i h1 h2 => ?_
    have := h i (List.mem_range.2 (by omega))
    rw [List.getElem?_eq_getElem h1, List.getElem?_eq_getElem h2] at this
    simpa using this
  · intro h i _
    rw [h]
    simp
theorem pages_eq (a b : List UInt8) (w : World) (ha : a.length = 1024) (hb : b.length = 1024) : (Op.equalIn 10000 128 (.agg ⟨rowBytes a⟩) (.agg ⟨rowBytes b⟩)).run Tryz.prog w = .ok (a == b) w := by
  obtain ⟨i0, hi, hz0, hz1, hz2⟩ := info_parts Tryz.infoU8
  have hc : Tryz.prog.cellsOf 5 = 1 := by kernel_rfl
  rw [show (10000 : Nat) = 9998 + 1 + 1 from rfl, run_equalIn_array w (9998 + 1) ⟨rowBytes a⟩ ⟨rowBytes b⟩ Tryz.underlying128 hi, hc, eqItems_bytes 9998 a b w _ (fun i hi => by have := List.mem_range.1 hi; omega), all_eq a b 1024 ha hb]
end Go.Proofs.YtabhieafjkaocaaGreat
namespace Go.Proofs.YtabhieafjkaocaaGreat
open Go.RowKit
theorem add_off (g off i : Nat) : (⟨g, off, none⟩ : Addr).add i = ⟨g, off + i, none⟩ := by unfold Addr.add; split <;> simp_all
def over (cur : Array Value) (k : Nat) (vs : List Value) : Array Value := (cur.toList.take k ++ vs ++ cur.toList.drop (k + vs.length)).toArray
theorem over_nil (cur : Array Value) (k : Nat) : over cur k [] = cur := by
  unfold over
  simp
theorem over_cons (cur : Array Value) (k : Nat) (v : Value) (vs : List Value) (h : k < cur.size) : over (cur.setIfInBounds k v) (k + 1) vs = over cur k (v :: vs) := by
  unfold over
  congr 1
  rw [Array.toList_setIfInBounds]
  apply List.ext_getElem?
  intro j
  have hk : k < cur.toList.length := by simpa using h
  simp only [List.getElem?_append, List.length_append, List.length_take, List.length_set, List.getElem?_take, List.getElem?_drop, List.length_cons, List.getElem?_set]
  have m1 : min (k + 1) cur.toList.length = k + 1 := by omega
  have m2 : min k cur.toList.length = k := by omega
  rw [m1, m2]
  by_cases h1 : j < k
  · have a1 : j < k + 1 + vs.length := by omega
    have a2 : j < k + 1 := by omega
    have a3 : j < k + (vs.length + 1) := by omega
    have a4 : ¬ k = j := by omega
    simp [h1, a1, a2, a3, a4]
  · by_cases h2 : j = k
    · subst h2
      have a1 : j < j + 1 + vs.length := by omega
      have a3 : j < j + (vs.length + 1) := by omega
      simp [a1, a3, h]
    · by_cases h3 : j < k + 1 + vs.length
      · have a2 : ¬ j < k + 1 := by omega
        have a3 : j < k + (vs.length + 1) := by omega
        have a5 : j - k = (j - (k + 1)) + 1 := by omega
        simp [h1, h3, a2, a3, a5]
      · have a2 : ¬ j < k + 1 := by omega
        have a3 : ¬ j < k + (vs.length + 1) := by omega
        have a6 : ¬ k = k + 1 + vs.length + (j - (k + 1 + vs.length)) := by omega
        have a7 : k + 1 + vs.length + (j - (k + 1 + vs.length)) = k + (vs.length + 1) + (j - (k + (vs.length + 1))) := by omega
        simp [h3, a3, a7]
        intro e
        omega
section
variable {P : Program}
theorem run_storeCells_part (g off : Nat) (t : TypeId) : ∀ (vs : List Value) (i : Nat) (cur : Array Value) (w : World), w.heap[g]? = some (.cells cur t (0, 0)) → off + i + vs.length ≤ cur.size → (∀ v ∈ vs, v.oneCell' = true) →
    (storeCells ⟨g, off, none⟩ vs i).run P w = .ok () (w.setRow g (over cur (off + i) vs)) := by
  intro vs
  induction vs with
  | nil =>
    intro i cur w hg hl h1
    rw [over_nil]
    have e : w.setRow g cur = w := by
      have hlt : g < w.heap.size := (Array.getElem?_eq_some_iff.1 hg).1
      have hv : w.heap[g] = .cells cur t (0, 0) := (Array.getElem?_eq_some_iff.1 hg).2
      unfold World.setRow
      cases w with
      | mk heap tape drawn os output =>
        congr 1
        apply Array.ext
        · simp
        · intro k h1 h2
          simp only [Array.getElem_modify]
          split
          · rename_i hk; subst hk; simp at hv; simp [hv]
          · rfl
    rw [e]
    rfl
  | cons v rest ih =>
    intro i cur w hg hl h1
    simp only [List.length_cons] at hl
    have hi : off + i < cur.size := by omega
    have hcell : w.cell? ⟨g, off + i, none⟩ = some cur[off + i] := by simp [World.cell?, hg, hi]
    have hfro : w.frozen? ⟨g, off + i, none⟩ = false := by simp [World.frozen?, hg]
    have hst : (store ((⟨g, off, none⟩ : Addr).add i) v).run P w = .ok () (w.setRow g (cur.setIfInBounds (off + i) v)) := by
      rw [add_off, run_store P w _ v _ (h1 v (by simp)), hcell]
      simp [hfro, setCell_eq_setRow w g (off + i) cur t (0, 0) v hg]
    have h2 := ih (i + 1) (cur.setIfInBounds (off + i) v) (w.setRow g (cur.setIfInBounds (off + i) v)) (setRow_heap w g cur _ t _ hg) (by simp; omega) (fun x hx => h1 x (by simp [hx]))
    simp only [storeCells, Sem.run_bind, hst, Result.andThen_ok, h2, setRow_setRow]
    rw [show off + (i + 1) = off + i + 1 by omega, over_cons cur (off + i) v rest hi]
theorem run_storeVar_part (w : World) (g off : Nat) (t ty : TypeId) (old cells : Array Value) (hg : w.heap[g]? = some (.cells old t (0, 0))) (hi : (P.info? ty).map (·.size) = some cells.size)
    (ho : off + cells.size ≤ old.size) (h1 : cells.all (·.oneCell') = true) :
    (storeVar ty ⟨g, off, none⟩ (.agg cells)).run P w = .ok () (w.setRow g (over old off cells.toList)) := by
  have := run_storeCells_part (P := P) g off t cells.toList 0 old w hg (by simpa using ho) (fun v hv => (Array.all_eq_true_iff_forall_mem.1 h1) v (by simpa using hv))
  cases hq : P.info? ty with
  | none => simp [hq] at hi
  | some i =>
    have hs : cells.size = i.size := by simp [hq] at hi; omega
    simp [storeVar, sizeOf, typeInfo, hq, Value.cells, hs, this]
theorem wpList_store_part {ops : Array Oper} {rest : List Oper} {o : Oper} {a : Act} {w : World} {Q : Exit → Act → World → Prop} (hgd : o.guard = none) (ty : TypeId) (x y : Operand) (ho : o.op = .store ty x y)
    (g off : Nat) (t : TypeId) (old cells : Array Value) (hx : a.eval x = .pointer (some ⟨g, off, none⟩)) (hy : a.eval y = .agg cells) (hg : w.heap[g]? = some (.cells old t (0, 0)))
    (hi : (P.info? ty).map (·.size) = some cells.size) (hold : off + cells.size ≤ old.size) (h1 : cells.all (·.oneCell') = true)
    (h : wpList P ops Q rest (a.put o.dst undef) (w.setRow g (over old off cells.toList))) : wpList P ops Q (o :: rest) a w := by
  refine wpList_plain hgd fun _ hK => ?_
  unfold Oper.wp execOp
  simp only [ho, hx, hy, Instr.storeAt, Instr.sureAddr, Sem.run_bind, Sem.run_pure, Result.andThen_ok, run_storeVar_part w g off t ty old cells hg hi hold h1]
  exact hK _ _ h
theorem run_loadVar_part (w : World) (g off : Nat) (t ty : TypeId) (cs : Array Value) (cells : List Value) (fr : Nat × Nat) (d : TypeDesc) (hg : w.heap[g]? = some (.cells cs t fr))
    (hu : P.underlying ty = some d) (hd : (match d with | .struct _ | .array _ _ => true | _ => false) = true) (hi : (P.info? ty).map (·.size) = some cells.length) (hc : ∀ j v, cells[j]? = some v → cs[off + j]? = some v) :
    (loadVar ty ⟨g, off, none⟩).run P w = .ok (.agg cells.toArray) w := by
  have hl : (loadCells ⟨g, off, none⟩ cells.length).run P w = .ok cells.toArray w :=
    run_loadCells_list (P := P) w ⟨g, off, none⟩ cells (fun j v hv => by
      rw [add_off, cell_of_row w g (off + j) cs t fr hg]
      exact hc j v hv)
  cases hq : P.info? ty with
  | none => simp [hq] at hi
  | some i =>
    have hs : i.size = cells.length := by simpa [hq] using hi
    have hagg : (isAgg ty).run P w = .ok true w := by
      unfold isAgg
      rw [Sem.run_bind, run_underlying hu w]
      cases d <;> simp_all
    simp [loadVar, Sem.run_bind, hagg, sizeOf, typeInfo, hq, hs, hl]
end
end Go.Proofs.YtabhieafjkaocaaGreat
namespace Go.Proofs.YtabhieafjkaocaaGreat
def leb (v : Nat) : List UInt8 := if v < 128 then [UInt8.ofNat v] else UInt8.ofNat (v % 128 + 128) :: leb (v / 128)
  termination_by v
  decreasing_by omega
structure Rd where
  s : List UInt8
  pos : Nat
  err : Int
def Rd.take (r : Rd) (n : Nat) : Rd × Option (List UInt8) :=
  if r.err ≠ 0 then (r, none) else if r.s.length < r.pos + n then (⟨r.s, r.pos, 10⟩, none) else (⟨r.s, r.pos + n, 0⟩, some ((r.s.drop r.pos).take n))
def Rd.fixed (r : Rd) (n : Nat) : Rd × Nat := ((r.take n).1, num ((r.take n).2.getD []))
def Rd.raw (r : Rd) (n : Nat) : Rd × List UInt8 := ((r.take n).1, (r.take n).2.getD [])
def unleb (l : List UInt8) (most : Nat) : Nat → Nat → Nat → Except Int (Nat × Nat)
  | 0, _, _ => .error 11
  | f + 1, i, v =>
    match l[i]? with
    | none => .error 10
    | some c =>
      if i = 9 ∧ 1 < c.toNat then .error 11
      else
        let v' := v + c.toNat % 128 * 2 ^ (7 * i)
        if 128 ≤ c.toNat then unleb l most f (i + 1) v'
        else if (c.toNat = 0 ∧ 0 < i) ∨ most < v' then .error 11 else .ok (v', i + 1)
def uintOut (s : List UInt8) (pos : Nat) : Except Int (Nat × Nat) → Rd × Nat
  | .error e => (⟨s, pos, e⟩, 0)
  | .ok x => (⟨s, pos + x.2, 0⟩, x.1)
def Rd.uint (r : Rd) (most : Nat) : Rd × Nat := if r.err ≠ 0 then (r, 0) else uintOut r.s r.pos (unleb (r.s.drop r.pos) most 10 0 0)
def Rd.fin (r : Rd) : Int := if r.err = 0 ∧ r.pos < r.s.length then 12 else r.err
def dec (b : List UInt8) (number : Nat) : Except Int PageV := decode (sumOn 0) b number 4 51 50
def enc (p : PageV) : List UInt8 := encode (sumOn 0) p
def ends (b : List UInt8) : Nat × Nat := (num (b.take 8), num (b.drop 1016))
def room (count : Int) : Nat := min ((max count 1) - 1).toNat 198
def slots (lies : List (List UInt8)) (first serial : Nat) : Nat → Nat → Rd → List PageV → Option (Rd × List PageV)
  | 0, _, r, l => some (r, l)
  | n + 1, i, r, l =>
    let k := r.fixed 1
    let m := k.1.fixed 4
    match dec (lies[i + 1]?.getD []) (first + 1 + i) with
    | .error _ => none
    | .ok c => if c.kind ≠ 67 ∨ c.serial ≠ serial ∨ (0 < i ∧ m.2 ≤ (l[i - 1]?.map (·.number)).getD 0) then none
      else slots lies first serial n (i + 1) m.1 (l ++ [⟨UInt8.ofNat k.2, m.2, serial, c.body⟩])
def batchM (lies : List (List UInt8)) (first : Nat) : Option (Nat × List PageV) :=
  match dec (lies[0]?.getD []) first with
  | .error _ => none
  | .ok h => if h.kind ≠ 74 ∨ h.serial = 0 then none else
    let r := (Rd.mk h.body 0 0).uint (room lies.length)
    match slots lies first h.serial r.2 0 r.1 [] with
    | none => none
    | some (r, l) => if r.fin = 0 then some (h.serial, l) else none
def topOf (lies : List (List UInt8)) : Nat := lies.foldl (fun t b => max t (max (ends b).1 (ends b).2)) 0
def rightM (count : Int) (serial : Nat) (l : List PageV) : Int :=
  if serial = 0 ∨ 4611686018427387904 < serial then 1
  else if room count < l.length then 60
  else if (l.map (·.number)).Pairwise (· < ·) then (if l.all (fun p => p.body.length ≤ 996) then 0 else 82) else 1
def layM (serial : Nat) (x : DiskM × Int) (at_ : Nat) (kind : UInt8) (body : List UInt8) : DiskM × Int :=
  if x.2 ≠ 0 then x else if 996 < body.length then (x.1, 82) else x.1.write at_ (enc ⟨kind, at_, serial, body⟩)
def laysM (first serial : Nat) : Nat → List PageV → DiskM × Int → DiskM × Int
  | _, [], x => x
  | i, p :: l, x => laysM first serial (i + 1) l (layM serial x (first + 1 + i) 67 p.body)
def heads (l : List PageV) : List UInt8 := leb l.length ++ l.flatMap fun p => p.kind :: be p.number 4
def putM (m : DiskM) (first : Nat) (count : Int) (serial : Nat) (l : List PageV) : DiskM × Int :=
  let x := layM serial (laysM first serial 0 l (m, rightM count serial l)) first 74 (heads l)
  if x.2 ≠ 0 then x else x.1.sync
def homeW (j serial : Nat) : List PageV → DiskM → DiskM × Int
  | [], m => m.sync
  | p :: l, m => if 996 < p.body.length then (m, 82) else
    let x := m.write ((j + p.number : Nat) : Int) (enc { p with serial := serial })
    if x.2 ≠ 0 then x else homeW j serial l x.1
end Go.Proofs.YtabhieafjkaocaaGreat
