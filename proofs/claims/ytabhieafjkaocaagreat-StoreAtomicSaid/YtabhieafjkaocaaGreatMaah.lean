/- A part. -/
import Derived.Test.YtabhieafjkaocaaGreatMaag
import Derived.Maps.OwnSet
import Derived.Maps.RangeWalk
import Derived.Test.YtabhieafjkaocaaGreatMaaf
set_option linter.unusedVariables false
set_option linter.unusedSimpArgs false
namespace Go.Proofs.YtabhieafjkaocaaGreat
open Go.RowKit Go.Lib Go.Maps
set_option maxRecDepth 20000
def ptrElem (v : Value) : Option (DataW Unit × List MemPlace) :=
  match v with
  | .pointer none => some (.lit (.int .i64 (-1)), [])
  | .pointer (some ⟨g, 0, none⟩) => some (.lit (.int .i64 (g : Int)), [])
  | _ => none
theorem ptrElem_inv {v : Value} {g : Nat} {ps : List MemPlace} (h : ptrElem v = some (.lit (.int .i64 (g : Int)), ps)) : v = .pointer (some ⟨g, 0, none⟩) := by
  unfold ptrElem at h
  split at h
  · simp at h
  · rename_i g'
    simp at h
    have : g' = g := by omega
    rw [this]
  · cases h
def lastG {α : Type} : List (Nat × α) → Nat → Option α
  | [], _ => none
  | x :: l, n => (lastG l n).or (if x.1 = n then some x.2 else none)
theorem lastG_append {α : Type} (l k : List (Nat × α)) (n : Nat) : lastG (l ++ k) n = (lastG k n).or (lastG l n) := by
  induction l with
  | nil => simp [lastG]
  | cons x l ih => simp [lastG, ih, Option.or_assoc]
structure DiskH where
  d : Nat
  bl : Nat
  bm : Nat
  pv : Value
  pl : List (Nat × Nat)
def DiskH.foot (x : DiskH) (k : Nat) : Prop := k = x.d ∨ k = x.bl ∨ k = x.bm ∨ x.pv.ownBlock = some k ∨ k ∈ x.pl.map (·.2)
def PendAt (w : World) : List (Nat × Nat) → List (Nat × List UInt8) → Prop
  | [], [] => True
  | p :: pl, q :: l => p.1 = q.1 ∧ w.heap[p.2]? = some (.cells ⟨rowBytes q.2⟩ 129 (0, 0)) ∧ PendAt w pl l
  | _, _ => False
def pendCells (pl : List (Nat × Nat)) : List Value := pl.flatMap fun p => [Value.int .i64 (p.1 : Int), Value.pointer (some ⟨p.2, 0, none⟩)]
structure LastAt (w : World) (bm len : Nat) (pl : List (Nat × Nat)) (D : DataW Unit) : Prop where
  own : w.ownsMap Tryz.prog 3 ptrElem bm pl.length D
  has : ∀ k : Nat, Maps.has D (.int .i64 (k : Int)) = (lastG pl k).isSome
  get : ∀ (k g : Nat), lastG pl k = some g → ∀ z, D.atKey (.int .i64 (k : Int)) z = .lit (.int .i64 (g : Int))
  nat : ∀ z : Int, Maps.has D (.int .i64 z) = true → 0 ≤ z
structure DiskAt (w : World) (x : DiskH) (m : DiskM) : Prop where
  head : w.heap[x.d]? = some (.cells #[.slice (some ⟨x.bl, 0, none⟩) m.lies.length m.lies.length, x.pv, .map (some x.bm), .bool m.off, .bool m.armed, .int .i64 m.left] 122 (0, 0))
  lies : w.heap[x.bl]? = some (.cells ⟨rowBytes m.lies.flatten⟩ 129 (0, 0))
  row : w.ownsRow 0 127 2 x.pv x.pl.length (pendCells x.pl)
  pend : PendAt w x.pl m.pend
  last : ∃ D, LastAt w x.bm m.lies.length x.pl D
  fits : m.Fits
  some_ : 1 ≤ m.lies.length
  most : m.lies.length ≤ 65536
  left : -9223372036854775808 ≤ m.left ∧ m.left < 9223372036854775808 ∧ (m.armed = true → 0 ≤ m.left)
  apart : x.bl ∉ x.pl.map (·.2)
theorem PendAt.kept {M : Nat → Prop} {w w' : World} (k : Kept M w w') : ∀ {pl : List (Nat × Nat)} {l : List (Nat × List UInt8)}, PendAt w pl l → (∀ g ∈ pl.map (·.2), ¬ M g) → PendAt w' pl l
  | [], [], _, _ => trivial
  | p :: pl, q :: l, h, hm => ⟨h.1, k.heap h.2.1 (hm _ (by simp)), h.2.2.kept k fun g hg => hm g (by simp at hg ⊢; exact .inr hg)⟩
  | [], _ :: _, h, _ => h.elim
  | _ :: _, [], h, _ => h.elim
theorem PendAt.length {w : World} : ∀ {pl : List (Nat × Nat)} {l : List (Nat × List UInt8)}, PendAt w pl l → pl.length = l.length
  | [], [], _ => rfl
  | p :: pl, q :: l, h => by simp [h.2.2.length]
  | [], _ :: _, h => h.elim
  | _ :: _, [], h => h.elim
theorem PendAt.snoc {w : World} : ∀ {pl : List (Nat × Nat)} {l : List (Nat × List UInt8)}, PendAt w pl l → ∀ (n g : Nat) (b : List UInt8), w.heap[g]? = some (.cells ⟨rowBytes b⟩ 129 (0, 0)) → PendAt w (pl ++ [(n, g)]) (l ++ [(n, b)])
  | [], [], _, n, g, b, hg => ⟨rfl, hg, trivial⟩
  | p :: pl, q :: l, h, n, g, b, hg => ⟨h.1, h.2.1, h.2.2.snoc n g b hg⟩
  | [], _ :: _, h, _, _, _, _ => h.elim
  | _ :: _, [], h, _, _, _, _ => h.elim
theorem PendAt.last {w : World} : ∀ {pl : List (Nat × Nat)} {l : List (Nat × List UInt8)}, PendAt w pl l → ∀ n : Nat, match lastG pl n with
    | none => DiskM.last l n = none
    | some g => ∃ b, DiskM.last l n = some b ∧ w.heap[g]? = some (.cells ⟨rowBytes b⟩ 129 (0, 0))
  | [], [], _, n => rfl
  | p :: pl, q :: l, h, n => by
    have ih := h.2.2.last n
    unfold lastG DiskM.last
    rw [← h.1]
    cases hl : lastG pl n with
    | some g =>
      rw [hl] at ih
      obtain ⟨b, hb, hg⟩ := ih
      exact ⟨b, by rw [hb]; rfl, hg⟩
    | none =>
      rw [hl] at ih
      simp only at ih
      rw [ih]
      by_cases hp : p.1 = n
      · simp only [hp, if_true, Option.none_or]
        exact ⟨q.2, rfl, h.2.1⟩
      · simp [hp]
  | [], _ :: _, h, _ => h.elim
  | _ :: _, [], h, _ => h.elim
theorem DiskAt.kept {M : Nat → Prop} {w w' : World} {x : DiskH} {m : DiskM} (h : DiskAt w x m) (k : Kept M w w') (hm : ∀ g, x.foot g → ¬ M g) : DiskAt w' x m := by
  obtain ⟨D, hD⟩ := h.last
  refine ⟨k.heap h.head (hm _ (.inl rfl)), k.heap h.lies (hm _ (.inr (.inl rfl))), k.row h.row (fun g hg => hm g (.inr (.inr (.inr (.inl hg))))), h.pend.kept k (fun g hg => hm g (.inr (.inr (.inr (.inr hg))))), ⟨D, ?_, hD.has, hD.get, hD.nat⟩, h.fits, h.some_, h.most, h.left, h.apart⟩
  obtain ⟨es, clock, hb, F, hs, hD2⟩ := hD.own
  exact ⟨es, clock, k.heap hb (hm _ (.inr (.inr (.inl rfl)))), F, hs, hD2⟩
theorem DiskAt.foot_lt {w : World} {x : DiskH} {m : DiskM} (h : DiskAt w x m) {g : Nat} (hg : x.foot g) : g < w.heap.size := by
  rcases hg with rfl | rfl | rfl | hg | hg
  · exact lt_of_heap h.head
  · exact lt_of_heap h.lies
  · obtain ⟨D, hD⟩ := h.last
    exact hD.own.lt
  · exact (h.row.lt g hg).2
  · have : ∀ {pl : List (Nat × Nat)} {l : List (Nat × List UInt8)}, PendAt w pl l → g ∈ pl.map (·.2) → g < w.heap.size := by
      intro pl
      induction pl with
      | nil => intro l _ h; cases h
      | cons p pl ih =>
        intro l hp hg
        cases l with
        | nil => exact hp.elim
        | cons q l =>
          rcases List.mem_cons.1 hg with rfl | hg
          · exact lt_of_heap hp.2.1
          · exact ih hp.2.2 hg
    exact this h.pend hg
end Go.Proofs.YtabhieafjkaocaaGreat
namespace Go.Proofs.YtabhieafjkaocaaGreat
open Go.RowKit
section
variable {P : Program} {ops : Array Oper} {rest : List Oper} {o : Oper} {a : Act} {w : World} {C : World → Prop} {Q : Act → Prop}
theorem wpQuiet_run (hw : Region.wanted o (yielded ops a.tmps) = true) (v : Value) (hr : ∀ w, C w → (execOp a.eval o).run P w = .ok (.value v) w) (h : wpQuiet P ops C Q rest (a.put o.dst v)) : wpQuiet P ops C Q (o :: rest) a :=
  BigFrame.wpQuiet_want hw fun K hK => ⟨v, fun w hC => by unfold Oper.quietAt; rw [hr w hC]; exact ⟨rfl, rfl⟩, hK _ h⟩
theorem wpQuiet_load_row (hw : Region.wanted o (yielded ops a.tmps) = true) (ty : TypeId) (x : Operand) (ho : o.op = .load ty x) (g : Nat) (hx : a.eval x = .pointer (some ⟨g, 0, none⟩)) (t : TypeId) (cs : Array Value) (fr : Nat × Nat) (d : TypeDesc)
    (hg : ∀ w, C w → w.heap[g]? = some (.cells cs t fr)) (hu : P.underlying ty = some d) (hd : (match d with | .struct _ | .array _ _ => true | _ => false) = true) (hi : (P.info? ty).map (·.size) = some cs.size)
    (h : wpQuiet P ops C Q rest (a.put o.dst (.agg cs))) : wpQuiet P ops C Q (o :: rest) a := by
  refine wpQuiet_run hw (.agg cs) (fun w hC => ?_) h
  unfold execOp
  simp only [ho, hx, Instr.loadAt, Instr.sureAddr, Sem.run_bind, Sem.run_pure, Result.andThen_ok, run_loadVar_row w g t ty cs fr d (hg w hC) hu hd hi]
end
theorem run_arrayAt {P : Program} {arr : TypeId} {n : Nat} {e : TypeId} (hu : P.underlying arr = some (.array n e)) (w : World) (a : Option Addr) (len cap : Nat) (h : n ≤ len) : (Instr.arrayAt arr (.slice a len cap)).run P w = .ok (.pointer a) w := by
  have h' : ¬ len < n := by omega
  simp [Instr.arrayAt, run_underlying hu, h', Result.andThen]
theorem wpList_load_wanted {P : Program} {ops : Array Oper} {rest : List Oper} {o : Oper} {a : Act} {w : World} {Q : Exit → Act → World → Prop} (hw : Region.wanted o (yielded ops a.tmps) = true) (ty : TypeId) (x : Operand) (ho : o.op = .load ty x)
    (g : Nat) (hx : a.eval x = .pointer (some ⟨g, 0, none⟩)) (t : TypeId) (cs : Array Value) (fr : Nat × Nat) (d : TypeDesc) (hg : w.heap[g]? = some (.cells cs t fr))
    (hu : P.underlying ty = some d) (hd : (match d with | .struct _ | .array _ _ => true | _ => false) = true) (hi : (P.info? ty).map (·.size) = some cs.size)
    (h : wpList P ops Q rest (a.put o.dst (.agg cs)) w) : wpList P ops Q (o :: rest) a w :=
  BigFrame.wpList_want hw fun _ hK => wp_load_row ty x ho g hx t cs fr d hg hu hd hi (hK _ _ h)
theorem in_all {P : Program} {M : Nat → Prop} {w0 : World} {f : FuncId} {args : Array Value} {v : Value} {p : InC (Kept M w0)}
    (h : ∀ w, Kept M w0 w → Calls P f args w fun e w' => e = .returned v ∧ w = w') : Calls P f args p.world fun e w' => e = .returned v ∧ ∃ p : InC (Kept M w0), w' = p.world :=
  in_same (h p.world p.here)
end Go.Proofs.YtabhieafjkaocaaGreat
namespace Go.Proofs.YtabhieafjkaocaaGreat
open Go.RowKit Go.Lib
set_option maxRecDepth 20000
structure BytesAt (w : World) (b : Nat) (l : List UInt8) : Prop where
  row : w.heap[b]? = some (.cells ⟨rowBytes l⟩ 5 (0, 0))
  len : l.length = 1024
abbrev pageSlice (b : Nat) : Value := .slice (some ⟨b, 0, none⟩) 1024 1024
theorem zeros_cells : Tryz.zeroCells128 = ⟨rowBytes (List.replicate 1024 0)⟩ := by kernel_rfl
theorem size_page : (Tryz.prog.info? 128).map (·.size) = some 1024 := by kernel_rfl
theorem rowBytes_size (l : List UInt8) : (⟨rowBytes l⟩ : Array Value).size = l.length := rowBytes_length l
set_option maxHeartbeats 1000000 in
theorem blank_ok (b : Nat) (l : List UInt8) (w : World) (h : BytesAt w b l) :
    Calls Tryz.prog 49 #[pageSlice b] w fun e w' => e = .returned (.bool (l == List.replicate 1024 0)) ∧ w = w' := by
  have hat := run_arrayAt (P := Tryz.prog) Tryz.underlying128 w (some ⟨b, 0, none⟩) 1024 1024 (Nat.le_refl _)
  have heq : (Op.equalIn 10000 128 (.agg ⟨rowBytes l⟩) (.agg Tryz.zeroCells128)).run Tryz.prog w = .ok (l == List.replicate 1024 0) w := by
    rw [zeros_cells]
    exact pages_eq l _ w h.len (by simp)
  have H := Lib.hid h
  clear h
  unfold pageSlice
  generalize hR : (l == List.replicate 1024 0) = R at heq ⊢
  go_enter Tryz.func49, Tryz.ntmps49
  go_wp2_with (refine wpList_load_wanted (by rfl) 128 _ (by rfl) b (by rfl) _ _ _ _ H.out.row Tryz.underlying128 (by rfl) (by rw [size_page, rowBytes_size, H.out.len]) ?_)
  go_ret
  exact ⟨rfl, rfl⟩
theorem num_bounds (l : List UInt8) (h : l.length ≤ 8) : num l < 18446744073709551616 := by
  have := num_lt l
  have h2 : 256 ^ l.length ≤ 256 ^ 8 := Nat.pow_le_pow_right (by omega) h
  have h3 : (256 : Nat) ^ 8 = 18446744073709551616 := by decide
  omega
theorem taken_part (b : Nat) (l : List UInt8) (w : World) (h : BytesAt w b l) (o n cap : Nat) (hn : n ≤ 8) (hon : o + n ≤ 1024) :
    Calls Tryz.prog 81 #[.slice (some ⟨b, o, none⟩) n cap] w fun e w' => e = .returned (.int .u64 (num ((l.drop o).take n) : Int)) ∧ w = w' := by
  have hl := h.len
  have hlen : ((l.drop o).take n).length = n := by simp; omega
  have := taken_ok ((l.drop o).take n) b o cap w (by omega) (fun i hi => by
    rw [cell_of_row w b (o + i) _ _ _ h.row, rowBytes_get l (o + i) (by rw [hlen] at hi; omega)]
    simp)
  rw [hlen] at this
  exact this
theorem BytesAt.kept {M : Nat → Prop} {w w' : World} {b : Nat} {l : List UInt8} (h : BytesAt w b l) (k : Kept M w w') (hm : ¬ M b) : BytesAt w' b l := ⟨k.heap h.row hm, h.len⟩
theorem BytesAt.cell {w : World} {b : Nat} {l : List UInt8} (h : BytesAt w b l) (i : Nat) (hi : i < 1024) : w.cell? ⟨b, i, none⟩ = some (.int .u8 ((l[i]?.getD 0).toNat : Int)) := by
  have hl := h.len
  rw [cell_of_row w b i _ _ _ h.row, rowBytes_get l i (by omega), List.getElem?_eq_getElem (by omega)]
  rfl
set_option maxHeartbeats 1000000 in
theorem ends_ok (b : Nat) (l : List UInt8) (w : World) (h : BytesAt w b l) :
    Calls Tryz.prog 76 #[pageSlice b] w fun e w' => e = .returned (.tuple #[.int .u64 ((ends l).1 : Int), .int .u64 ((ends l).2 : Int), .bool true]) ∧ Kept No w w' := by
  have h1 : ∀ w', Kept No w w' → Calls Tryz.prog 81 #[.slice (some ⟨b, 0, none⟩) 8 1024] w' fun e w'' => e = .returned (.int .u64 ((ends l).1 : Int)) ∧ w' = w'' := fun w' k => by
    have := taken_part b l w' (h.kept k (fun h => h)) 0 8 1024 (by decide) (by decide)
    rw [List.drop_zero] at this
    exact this
  have h2 : ∀ w', Kept No w w' → Calls Tryz.prog 81 #[.slice (some ⟨b, 1016, none⟩) 8 8] w' fun e w'' => e = .returned (.int .u64 ((ends l).2 : Int)) ∧ w' = w'' := fun w' k => by
    have := taken_part b l w' (h.kept k (fun h => h)) 1016 8 8 (by decide) (by decide)
    rw [List.take_of_length_le (by have := h.len; simp; omega)] at this
    exact this
  have H1 := Lib.hid h1
  have H2 := Lib.hid h2
  clear h1 h2
  generalize ends l = x at H1 H2 ⊢
  unfold pageSlice
  go_enter Tryz.func76, Tryz.ntmps76
  go_wp2_with fail
  refine wp_region_in (Kept No w) (by kernel_rfl) (by kernel_rfl) ((Kept.refl _ _).drew) ?_
  go_big_quiet_step (fail)
  go_big_quiet_step (fail)
  go_big_quiet_step ((go_at_call 81; exact in_all H1.out))
  go_big_quiet_step (fail)
  go_big_quiet_step (fail)
  go_big_quiet_step ((go_at_call 81; exact in_all H2.out))
  go_big_quiet_step (fail)
  go_big_quiet_step (fail)
  go_big_quiet_step (fail)
  refine wpQuiet_nil ?_
  intro w1 hw'
  obtain ⟨⟨wx, k1⟩, hw''⟩ := hw'
  change w1 = wx at hw''
  subst hw''
  go_wp2_with fail
  go_ret3
  exact ⟨rfl, k1⟩
end Go.Proofs.YtabhieafjkaocaaGreat
namespace Go.Proofs.YtabhieafjkaocaaGreat
open Go.RowKit
section
variable {P : Program} {ops : Array Oper} {md : Region.Mode} {CC : Array Bool → World → Prop}
def goUpon (P : Program) (C : World → Prop) (v : Value) : Result Next → Prop
  | .ok (.value u) w => C w ∧ u = v
  | .ok .skip w => C w ∧ v = undef
  | .ok (.enter f args) w => Calls P f args w (fun e w' => e = .returned v ∧ C w')
  | _ => False
def YieldsC (P : Program) (md : Region.Mode) (ops : Array Oper) (CC : Array Bool → World → Prop) (i : Nat) (o : Oper) (v : Value) (a : Act) : Prop :=
  (Region.wanted o (yielded ops a.tmps) = true ∧ ∀ listed, i ∈ Region.ready md ops listed → ∀ w, CC listed w → goUpon P (CC (listed.setIfInBounds i true)) v ((execOp a.eval o).run P w)) ∨
  (Region.wanted o (yielded ops a.tmps) = false ∧ v = undef ∧ ∀ listed, i ∈ Region.ready md ops listed → ∀ w, CC listed w → CC (listed.setIfInBounds i true) w)
def cOp (P : Program) (md : Region.Mode) (ops : Array Oper) (CC : Array Bool → World → Prop) (i : Nat) (K : Act → Prop) (a : Act) : Prop := ∃ o, ops[i]? = some o ∧ ∃ v, YieldsC P md ops CC i o v a ∧ K (a.put o.dst v)
def wpAnyC (P : Program) (md : Region.Mode) (ops : Array Oper) (CC : Array Bool → World → Prop) (Q : Array Bool → Act → Prop) : Nat → Array Bool → Act → Prop
  | 0, listed, a => Region.ready md ops listed = [] ∧ Q listed a
  | f + 1, listed, a => (Region.ready md ops listed = [] → Q listed a) ∧ ∀ i ∈ Region.ready md ops listed, cOp P md ops CC i (wpAnyC P md ops CC Q f (listed.setIfInBounds i true)) a
theorem wp_of_yieldsC {i : Nat} {o : Oper} {v : Value} {a : Act} {listed : Array Bool} {w : World} {K' : Act → World → Prop} {Q' : Exit → Act → World → Prop} (hi : ops[i]? = some o) (hr : i ∈ Region.ready md ops listed) (hC : CC listed w)
    (hy : YieldsC P md ops CC i o v a) (h : ∀ w', CC (listed.setIfInBounds i true) w' → K' (a.put o.dst v) w') : wpOp P ops Q' i K' a w := by
  unfold wpOp
  simp only [hi]
  rcases hy with ⟨hw, hv⟩ | ⟨hw, rfl, hv⟩
  · simp only [hw, if_true]
    refine .inl ?_
    have h3 := hv listed hr w hC
    unfold Oper.wp
    generalize (execOp a.eval o).run P w = r at *
    cases r with
    | ok n w' =>
      cases n <;> simp only [goUpon] at h3 <;> simp only [Oper.upon]
      case value u => obtain ⟨e1, rfl⟩ := h3; exact h _ e1
      case skip => obtain ⟨e1, rfl⟩ := h3; exact h _ e1
      case enter f args => exact h3.mono fun e w'' ⟨he, hw''⟩ => by subst he; exact h _ hw''
    | halt x w' => simp only [goUpon] at h3
  · simp only [hw, Bool.false_eq_true, if_false]
    exact h _ (hv listed hr w hC)
theorem any_of_C {Q : Array Bool → Act → Prop} {Q' : Exit → Act → World → Prop} (hQ : ∀ listed a w, CC listed w → Q listed a → Q' .normal a w) :
    ∀ (f : Nat) (listed : Array Bool) (a : Act) (w : World), CC listed w → wpAnyC P md ops CC Q f listed a → wpAny P md ops Q' f listed a w
  | 0, _, _, _, hw, h => ⟨h.1, hQ _ _ _ hw h.2⟩
  | f + 1, _, _, _, hw, h => ⟨fun h0 => hQ _ _ _ hw (h.1 h0), fun i hi => by
      obtain ⟨o, ho, v, hy, hk⟩ := h.2 i hi
      exact wp_of_yieldsC ho hi hw hy fun w' hw' => any_of_C hQ f _ _ w' hw' hk⟩
theorem YieldsC.same {i : Nat} {o : Oper} {v : Value} {a a' : Act} (hy : YieldsC P md ops CC i o v a) (he : execOp a'.eval o = execOp a.eval o)
    (hw : Region.wanted o (yielded ops a'.tmps) = Region.wanted o (yielded ops a.tmps)) : YieldsC P md ops CC i o v a' := by
  unfold YieldsC at *
  rw [he, hw]
  exact hy
theorem cOp_put {i j : Nat} {oi oj : Oper} {v : Value} (hj : ops[j]? = some oj) (hap : oi.apart ops oj = true) (hsi : ∀ cs b, oi.op ≠ .select cs b) (hsj : ∀ cs b, oj.op ≠ .select cs b) {K : Act → Prop} {a : Act}
    (hy : YieldsC P md ops CC i oi v a) (h : cOp P md ops CC j K (a.put oi.dst v)) : cOp P md ops CC j (fun a' => YieldsC P md ops CC i oi v a' ∧ K (a'.put oi.dst v)) a := by
  obtain ⟨h1, h2, h3⟩ := Oper.apart_spec hap
  obtain ⟨o, ho, u, hu, hk⟩ := h
  obtain rfl : oj = o := by rw [hj] at ho; exact Option.some.inj ho
  exact ⟨oj, hj, u, hu.same (execOp_put oj hsj a oi.dst v h1).symm (wanted_put oj a oi.dst v h1).symm, hy.same (execOp_put oi hsi a oj.dst u h3) (wanted_put oi a oj.dst u h3), by rw [← Act.put_comm a v u h2]; exact hk⟩
theorem cOp_mono {i : Nat} {a : Act} {K K' : Act → Prop} (h : ∀ a, K a → K' a) (hh : cOp P md ops CC i K a) : cOp P md ops CC i K' a :=
  let ⟨o, ho, v, hy, hk⟩ := hh
  ⟨o, ho, v, hy, h _ hk⟩
theorem wpAnyC_first {Q : Array Bool → Act → Prop} {i : Nat} {oi : Oper} {v : Value} (hi : ops[i]? = some oi) (hsel : ∀ (j : Nat) (o : Oper) cs b, ops[j]? = some o → o.op ≠ .select cs b) :
    ∀ (f : Nat) (listed : Array Bool) (a : Act),
      (∀ j oj, ops[j]? = some oj → j ≠ i → listed.getD j true = false → (∀ e ∈ oj.after, Region.binds md e = true → e.on ≠ i) → oi.apart ops oj = true) →
      i ∈ Region.ready md ops listed → YieldsC P md ops CC i oi v a →
      wpAnyC P md ops CC Q f (listed.setIfInBounds i true) (a.put oi.dst v) → wpAnyC P md ops CC Q (f + 1) listed a := by
  intro f
  induction f with
  | zero =>
    intro listed a _ hr hy H
    refine ⟨fun h => (by rw [h] at hr; cases hr), fun j hj => ?_⟩
    by_cases hji : j = i
    · subst hji; exact ⟨oi, hi, v, hy, H⟩
    · have := ready_mono hj hji
      rw [H.1] at this
      cases this
  | succ f ih =>
    intro listed a hfree hr hy H
    refine ⟨fun h => (by rw [h] at hr; cases hr), fun j hj => ?_⟩
    by_cases hji : j = i
    · subst hji; exact ⟨oi, hi, v, hy, H⟩
    · have h1 := H.2 j (ready_mono hj hji)
      obtain ⟨hjun, oj, hoj, hall⟩ := mem_ready.1 hj
      have hnot : ∀ e ∈ oj.after, Region.binds md e = true → e.on ≠ i := fun e he hb heq => by
        have h1 := hall e he hb
        have h0 := (mem_ready.1 hr).1
        rw [heq, getD_both h0] at h1
        cases h1
      have h2 := cOp_put hoj (hfree j oj hoj hji hjun hnot) (fun cs b => hsel i oi cs b hi) (fun cs b => hsel j oj cs b hoj) hy h1
      refine cOp_mono (fun a' h3 => ih (listed.setIfInBounds j true) a' ?_ (ready_mono hr (Ne.symm hji)) h3.1 ?_) h2
      · intro k ok hk hki hun hno
        refine hfree k ok hk hki ?_ hno
        by_cases hjk : j = k
        · subst hjk; exact hjun
        · rw [getD_set_ne true hjk] at hun; exact hun
      · rw [Array.setIfInBounds_comm _ _ hji]
        exact h3.2
def wpC (P : Program) (md : Region.Mode) (ops : Array Oper) (CC : Array Bool → World → Prop) (Q : Array Bool → Act → Prop) : List Oper → Nat → Array Bool → Act → Prop
  | [], _, listed, a => Q listed a
  | o :: l, k, listed, a => ∃ v, YieldsC P md ops CC k o v a ∧ wpC P md ops CC Q l (k + 1) (listed.setIfInBounds k true) (a.put o.dst v)
theorem wpAnyC_lex {Q : Array Bool → Act → Prop} (hs : Region.noSelect ops = true) : ∀ (l : List Oper) (k : Nat) (listed : Array Bool) (a : Act), (∀ j, l[j]? = ops[k + j]?) →
    Region.lexFrom md ops l.length k listed = true → wpC P md ops CC Q l k listed a → wpAnyC P md ops CC Q l.length listed a
  | [], _, _, _, _, hB, h => ⟨by simpa [Region.lexFrom] using hB, h⟩
  | o :: l, k, listed, a, hl, hB, h => by
    have h0 : ops[k]? = some o := by simpa using (hl 0).symm
    simp only [List.length_cons, Region.lexFrom, Bool.and_eq_true] at hB
    obtain ⟨⟨hr, hf⟩, hB'⟩ := hB
    obtain ⟨v, hy, hK⟩ := h
    exact wpAnyC_first h0 (Region.noSelect_spec hs) l.length listed a (Region.free_spec h0 hf) (by simpa using hr) hy
      (wpAnyC_lex hs l (k + 1) _ _ (fun j => by have := hl (j + 1); simpa [Nat.add_assoc, Nat.add_comm 1 j] using this) hB' hK)
def flags (sp : List Nat) (listed : Array Bool) : List Bool := sp.map fun j => listed.getD j false
theorem flags_other {sp : List Nat} {listed : Array Bool} {k : Nat} (h : sp.contains k = false) : flags sp (listed.setIfInBounds k true) = flags sp listed := by
  unfold flags
  refine List.map_congr_left fun j hj => ?_
  have hne : k ≠ j := fun e => by
    subst e
    have : sp.contains k = true := List.contains_iff_mem.2 hj
    rw [this] at h; cases h
  exact getD_set_ne false hne
theorem wp_region_C {id : Nat} {Q : Exit → Act → World → Prop} {a : Act} {w : World} {l : List Oper} (sp : List Nat) (D : List Bool → World → Prop) (hm : P.follows .mixedOrders = true) (hB : Region.lexB .any l.toArray = true)
    (hD : D (sp.map fun _ => false) w.drew)
    (h : wpC P .any l.toArray (fun listed => D (flags sp listed)) (fun listed a' => ∀ w', D (flags sp listed) w' → Q .normal a' w') l 0 (Array.replicate l.length false) a) : (Code.region id l.toArray true).wp P Q a w := by
  simp only [Region.lexB, Bool.and_eq_true] at hB
  refine wp_region_any hm ?_
  have hinit : flags sp (Array.replicate l.toArray.size false) = sp.map fun _ => false := by
    unfold flags
    refine List.map_congr_left fun j _ => ?_
    simp [Array.getD]
  have hz : l.toArray.size = l.length := by simp
  have := wpAnyC_lex (P := P) (CC := fun listed => D (flags sp listed)) (Q := fun listed a' => ∀ w', D (flags sp listed) w' → Q .normal a' w') (md := .any) hB.1 l 0 (Array.replicate l.toArray.size false) a (by simp) (by simpa using hB.2) (by rw [hz]; exact h)
  have h2 := any_of_C (P := P) (md := .any) (ops := l.toArray) (CC := fun listed => D (flags sp listed)) (Q := fun listed a' => ∀ w', D (flags sp listed) w' → Q .normal a' w') (Q' := Q) (fun listed a w' hw' h => h w' hw') l.length _ a w.drew (by show D (flags sp _) w.drew; rw [hinit]; exact hD) this
  rw [hz] at h2 ⊢
  exact h2
end
section
variable {P : Program} {ops : Array Oper} {md : Region.Mode} {Q : Array Bool → Act → Prop} {rest : List Oper} {o : Oper} {k : Nat} {listed : Array Bool} {a : Act} {sp : List Nat} {D : List Bool → World → Prop}
theorem wpC_nil (h : Q listed a) : wpC P md ops (fun l => D (flags sp l)) Q [] k listed a := h
def plainOp : Op → Bool
  | .move _ | .assign _ | .pick .. | .build .. | .load .. | .binOp .. | .unOp .. | .convert .. | .sliceToArrayPointer .. | .makeInterface .. | .slice .. | .fieldAddr .. | .field .. | .indexAddr .. | .index .. | .extract .. | .lookup .. => true
  | _ => false
theorem no_enter {s : Sem Value} {w w' : World} {f : FuncId} {args : Array Value} : (do pure (Next.value (← s)) : Sem Next).run P w ≠ .ok (.enter f args) w' := by
  rw [Sem.run_bind]
  generalize s.run P w = r
  cases r <;> simp [Result.andThen]
theorem plainOp_enter {ρ : Operand → Value} (h : plainOp o.op = true) {w w' : World} {f : FuncId} {args : Array Value} : (execOp ρ o).run P w ≠ .ok (.enter f args) w' := by
  unfold execOp
  cases ho : o.op <;> rw [ho] at h <;> simp only [plainOp] at h <;> simp only
  all_goals first
    | exact no_enter
    | (simp; done)
    | (rw [Sem.run_bind]; generalize (asBool _).run P w = r; cases r <;> simp [Result.andThen]; done)
    | cases h
theorem wpC_quiet (hw : Region.wanted o (yielded ops a.tmps) = true) (hk : sp.contains k = false) (hc : plainOp o.op = true)
    (h : ∀ K : Act → Prop, (∀ a, wpC P md ops (fun l => D (flags sp l)) Q rest (k + 1) (listed.setIfInBounds k true) a → K a) → o.quiet P a (fun w => ∃ p : InC (fun w => ∃ b, D b w), w = p.world) K) :
    wpC P md ops (fun l => D (flags sp l)) Q (o :: rest) k listed a := by
  obtain ⟨v, hv, hn⟩ := h _ (fun _ h => h)
  refine ⟨v, .inl ⟨hw, fun li hr w hC => ?_⟩, hn⟩
  have h1 := hv w ⟨⟨w, ⟨_, hC⟩⟩, rfl⟩
  show goUpon P (D (flags sp (li.setIfInBounds k true))) v _
  rw [flags_other hk]
  unfold Oper.quietAt at h1
  have hne := fun f args w' => plainOp_enter (P := P) (o := o) (ρ := a.eval) hc (w := w) (w' := w') (f := f) (args := args)
  generalize (execOp a.eval o).run P w = r at *
  cases r with
  | ok n w' =>
    cases n <;> simp only [Oper.quietUpon] at h1 <;> simp only [goUpon]
    case value u => obtain ⟨rfl, rfl⟩ := h1; exact ⟨hC, rfl⟩
    case skip => obtain ⟨rfl, rfl⟩ := h1; exact ⟨hC, rfl⟩
    case enter f args => exact absurd rfl (hne f args w')
  | halt x w' => simp only [Oper.quietUpon] at h1
theorem wpC_call (hw : Region.wanted o (yielded ops a.tmps) = true) (hk : sp.contains k = false) (v : Value) (f : FuncId) (args : Array Value) (hr : ∀ w, (execOp a.eval o).run P w = .ok (.enter f args) w)
    (hc : ∀ b w, D b w → Calls P f args w fun e w' => e = .returned v ∧ D b w')
    (h : wpC P md ops (fun l => D (flags sp l)) Q rest (k + 1) (listed.setIfInBounds k true) (a.put o.dst v)) : wpC P md ops (fun l => D (flags sp l)) Q (o :: rest) k listed a := by
  refine ⟨v, .inl ⟨hw, fun li _ w hC => ?_⟩, h⟩
  rw [hr w]
  show Calls P f args w fun e w' => e = .returned v ∧ D (flags sp (li.setIfInBounds k true)) w'
  rw [flags_other hk]
  exact hc _ w hC
theorem wpC_special (hw : Region.wanted o (yielded ops a.tmps) = true) (v : Value)
    (hs : ∀ li, k ∈ Region.ready md ops li → ∀ w, D (flags sp li) w → goUpon P (D (flags sp (li.setIfInBounds k true))) v ((execOp a.eval o).run P w))
    (h : wpC P md ops (fun l => D (flags sp l)) Q rest (k + 1) (listed.setIfInBounds k true) (a.put o.dst v)) : wpC P md ops (fun l => D (flags sp l)) Q (o :: rest) k listed a :=
  ⟨v, .inl ⟨hw, hs⟩, h⟩
end
def BoxD (M : Nat → Prop) (w1 : World) (t : TypeId) (z cs : Array Value) : List Bool → World → Prop
  | [false, false], w => Kept M w1 w ∧ w.heap.size = w1.heap.size
  | [true, false], w => Kept M w1 w ∧ w.heap.size = w1.heap.size + 1 ∧ w.heap[w1.heap.size]? = some (.cells z t (0, 0))
  | [true, true], w => Kept M w1 w ∧ w.heap.size = w1.heap.size + 1 ∧ w.heap[w1.heap.size]? = some (.cells cs t (0, 0))
  | _, _ => False
theorem BoxD.kept {M : Nat → Prop} {w1 w : World} {t : TypeId} {z cs : Array Value} {b : List Bool} (h : BoxD M w1 t z cs b w) : Kept M w1 w := by
  unfold BoxD at h
  split at h
  · exact h.1
  · exact h.1
  · exact h.1
  · exact h.elim
instance {M : Nat → Prop} {w1 : World} {t : TypeId} {z cs : Array Value} : Nonempty (InC fun w => ∃ b, BoxD M w1 t z cs b w) := ⟨⟨w1, [false, false], Kept.refl _ _, rfl⟩⟩
theorem ready_self {ops : Array Oper} {md : Region.Mode} {k : Nat} {li : Array Bool} (h : k ∈ Region.ready md ops li) : li.getD k false = false ∧ k < li.size := by
  have h0 := (mem_ready.1 h).1
  rcases Nat.lt_or_ge k li.size with h' | h'
  · simp [h'] at h0
    exact ⟨by simp [h', h0], h'⟩
  · simp [Array.getElem?_eq_none h'] at h0
theorem set_self {li : Array Bool} {k : Nat} (h : k < li.size) : (li.setIfInBounds k true).getD k false = true := by
  simp [h]
theorem ready_on {ops : Array Oper} {md : Region.Mode} {k : Nat} {li : Array Bool} {o : Oper} (h : k ∈ Region.ready md ops li) (ho : ops[k]? = some o) (e : Edge) (he : e ∈ o.after) (hb : Region.binds md e = true) : li.getD e.on false = true := by
  obtain ⟨_, o', ho', hall⟩ := mem_ready.1 h
  obtain rfl : o = o' := by rw [ho] at ho'; exact Option.some.inj ho'
  exact hall e he hb
theorem box_alloc {P : Program} {ops : Array Oper} {M : Nat → Prop} {w1 : World} {t : TypeId} {z cs : Array Value} {k k2 : Nat} {o : Oper} {ρ : Operand → Value} (hrun : ∀ w, (execOp ρ o).run P w = .ok (.value (.pointer (some ⟨w.heap.size, 0, none⟩))) (w.alloc (.cells z t)))
    (hkk : k ≠ k2) : ∀ li, k ∈ Region.ready .any ops li → ∀ w, BoxD M w1 t z cs (flags [k, k2] li) w → goUpon P (BoxD M w1 t z cs (flags [k, k2] (li.setIfInBounds k true))) (.pointer (some ⟨w1.heap.size, 0, none⟩)) ((execOp ρ o).run P w) := by
  intro li hr w hC
  obtain ⟨h1, h2⟩ := ready_self hr
  have e2 : (li.setIfInBounds k true).getD k2 false = li.getD k2 false := getD_set_ne false hkk
  simp only [flags, List.map_cons, List.map_nil, h1] at hC
  rw [hrun w]
  show BoxD M w1 t z cs [(li.setIfInBounds k true).getD k false, (li.setIfInBounds k true).getD k2 false] _ ∧ _
  rw [set_self h2, e2]
  cases hf : li.getD k2 false with
  | true => rw [hf] at hC; exact hC.elim
  | false =>
    rw [hf] at hC
    obtain ⟨hk, hs⟩ := hC
    rw [hs]
    refine ⟨⟨hk.alloc _, by simp [hs], ?_⟩, rfl⟩
    have := heap_alloc_new w (.cells z t)
    rwa [hs] at this
theorem box_store {P : Program} {ops : Array Oper} {M : Nat → Prop} {w1 : World} {t : TypeId} {z cs : Array Value} {k k2 : Nat} {o : Oper} {ρ : Operand → Value} (ty : TypeId) (x y : Operand) (ho : o.op = .store ty x y)
    (hx : ρ x = .pointer (some ⟨w1.heap.size, 0, none⟩)) (hy : ρ y = .agg cs) (hi : (P.info? ty).map (·.size) = some cs.size) (hz : z.size = cs.size) (hc : cs.all (·.oneCell') = true)
    (h2k : ops[k2]? = some o) (hon : o.after.any (fun e => Region.binds .any e && e.on == k) = true) (hkk : k2 ≠ k) :
    ∀ li, k2 ∈ Region.ready .any ops li → ∀ w, BoxD M w1 t z cs (flags [k, k2] li) w → goUpon P (BoxD M w1 t z cs (flags [k, k2] (li.setIfInBounds k2 true))) undef ((execOp ρ o).run P w) := by
  intro li hr w hC
  obtain ⟨h1, h2⟩ := ready_self hr
  obtain ⟨e, he, hb⟩ := Array.any_eq_true'.1 hon
  simp only [Bool.and_eq_true, beq_iff_eq] at hb
  have h3 := ready_on hr h2k e he hb.1
  rw [hb.2] at h3
  have e2 : (li.setIfInBounds k2 true).getD k false = li.getD k false := getD_set_ne false hkk
  simp only [flags, List.map_cons, List.map_nil, h1, h3] at hC
  obtain ⟨hk, hs, hg⟩ := hC
  have hrun : (execOp ρ o).run P w = .ok .skip (w.setRow w1.heap.size cs) := by
    have hlt : w1.heap.size < w.heap.size := by omega
    unfold execOp
    simp only [ho, hx, hy, Instr.storeAt, Instr.sureAddr, Sem.run_bind, Sem.run_pure, Result.andThen_ok]
    rw [run_storeVar_row w w1.heap.size t ty z cs hg hi hz hc]
    rfl
  rw [hrun]
  show BoxD M w1 t z cs [(li.setIfInBounds k2 true).getD k false, (li.setIfInBounds k2 true).getD k2 false] _ ∧ _
  rw [set_self h2, e2, h3]
  exact ⟨⟨hk.setRow _ _ (fun h => absurd h (by omega)), by simp [hs], setRow_heap _ _ _ _ _ _ hg⟩, rfl⟩
end Go.Proofs.YtabhieafjkaocaaGreat
namespace Go.Proofs.YtabhieafjkaocaaGreat
open Go.RowKit Go.Lib
set_option maxRecDepth 20000
theorem encode_arg (p : PageV) (w : World) (h1 : 4611686018427387904 < p.serial) (h2 : p.serial < 18446744073709551616) :
    Calls Tryz.prog 78 #[.agg (pageRow p)] w fun e w' => e = .returned (.tuple #[.slice none 0 0, .int .i64 1]) ∧ Kept No w w' := by
  unfold pageRow
  go_enter Tryz.func78, Tryz.ntmps78
  have c2 := (cell_of_row _ w.heap.size 2 _ _ _ (heap_alloc_new w (.cells #[.int .u8 (p.kind.toNat : Int), .int .u32 (p.number : Int), .int .u64 (p.serial : Int), .string ⟨⟨p.body⟩⟩] 28))).trans rfl
  go_wp2
  go_ret2
  exact ⟨rfl, (Kept.refl _ _).alloc _⟩
def decRow : Except Int PageV → Array Value
  | .ok p => pageRow p
  | .error _ => #[.int .u8 0, .int .u32 0, .int .u64 0, .string ByteArray.empty]
def decErr : Except Int PageV → Int
  | .ok _ => 0
  | .error e => e
theorem page_size : (Tryz.prog.info? 28).map (·.size) = some 4 := by kernel_rfl
theorem num2_lt (l : List UInt8) (n : Nat) (h : num ((l.drop 10).take 2) = n) : n < 65536 := by
  have := num_lt ((l.drop 10).take 2)
  have h2 : 256 ^ ((l.drop 10).take 2).length ≤ 256 ^ 2 := Nat.pow_le_pow_right (by omega) (by rw [List.length_take]; omega)
  have h3 : (256 : Nat) ^ 2 = 65536 := by decide
  omega
theorem zeroRow_one : (#[Value.int .u8 0, .int .u32 0, .int .u64 0, .string ByteArray.empty] : Array Value).all (·.oneCell') = true := by simp [Value.oneCell']
theorem pageRow_one (p : PageV) : (pageRow p).all (·.oneCell') = true := by simp [pageRow, Value.oneCell']
theorem conv_part (b : Nat) (l : List UInt8) (w : World) (h : BytesAt w b l) (o n cap : Nat) (hon : o + n ≤ 1024) : (convert 104 9 (.slice (some ⟨b, o, none⟩) n cap)).run Tryz.prog w = .ok (.string ⟨⟨(l.drop o).take n⟩⟩) w := by
  have hl := h.len
  have hlen : ((l.drop o).take n).length = n := by simp; omega
  have := strOf_bytes ((l.drop o).take n)
  rw [show (⟨⟨(l.drop o).take n⟩⟩ : ByteArray) = ⟨((l.drop o).take n).toArray⟩ from rfl, ← this]
  have hr := run_convert_bytes_arg (P := Tryz.prog) w 104 5 Tryz.underlying104 Tryz.underlying5 b o n cap (((l.drop o).take n).map fun b => (b.toNat : Int)) (by rw [List.length_map, hlen]) (fun i hi => by
    rw [h.cell (o + i) (by omega)]
    have h1 : o + i < l.length := by omega
    simp [hi, List.getElem?_eq_getElem h1, List.getElem?_take, List.getElem?_drop]) 9 Tryz.underlying9
  exact hr
set_option maxHeartbeats 4000000 in
theorem decode_blank (b : Nat) (l : List UInt8) (number : Nat) (w : World) (h : BytesAt w b l) (hn : number < 4294967296) (hz : (l == List.replicate 1024 0) = true) :
    Calls Tryz.prog 51 #[pageSlice b, .int .u32 (number : Int)] w fun e w' => e = .returned (.tuple #[.agg #[.int .u8 0, .int .u32 0, .int .u64 0, .string ByteArray.empty], .int .i64 51]) ∧ Kept No w w' := by
  have hl := h.len
  have hlt := lt_of_heap h.row
  have K0 := Lib.hid ((Kept.refl No w).alloc (.cells #[.int .u8 0, .int .u32 0, .int .u64 0, .string ByteArray.empty] 28))
  have HB := Lib.hid (heap_alloc_new w (.cells #[.int .u8 0, .int .u32 0, .int .u64 0, .string ByteArray.empty] 28))
  have H1 := Lib.hid (h.kept K0.out (fun h => h))
  have HBL := Lib.hid (blank_ok b l _ H1.out)
  have HT := Lib.hid (taken_part b l _ H1.out 10 2 1014 (by decide) (by decide))
  clear h
  unfold pageSlice at HBL ⊢
  go_enter Tryz.func51, Tryz.ntmps51
  go_wp2_with fail
  refine (HBL.out).mono ?_
  rintro e w' ⟨rfl, rfl⟩
  rw [hz]
  go_wp2_with (refine wpList_store_row (by rfl) 28 (.tmp 4) (.tmp 16) (by rfl) w.heap.size 28 _ _ (by rfl) (by rfl) HB.out (by exact page_size) (by rfl) (by exact zeroRow_one) ?_)
  refine bodyPost_ret (results_pair rfl _ _ _ _ _ _ _ rfl (setRow_heap _ _ _ _ _ _ HB.out) Tryz.underlying28 rfl (by exact page_size)) rfl ?_
  exact ⟨rfl, K0.out.setRow _ _ (fun hk => absurd hk (by omega))⟩
set_option maxHeartbeats 4000000 in
theorem decode_long (b : Nat) (l : List UInt8) (number : Nat) (w : World) (h : BytesAt w b l) (hn : number < 4294967296) (hz : (l == List.replicate 1024 0) = false) (n : Nat) (hN : num ((l.drop 10).take 2) = n) (hbig : 996 < n) (hn2 : n < 65536) :
    Calls Tryz.prog 51 #[pageSlice b, .int .u32 (number : Int)] w fun e w' => e = .returned (.tuple #[.agg #[.int .u8 0, .int .u32 0, .int .u64 0, .string ByteArray.empty], .int .i64 50]) ∧ Kept No w w' := by
  have hl := h.len
  have hlt := lt_of_heap h.row
  have K0 := Lib.hid ((Kept.refl No w).alloc (.cells #[.int .u8 0, .int .u32 0, .int .u64 0, .string ByteArray.empty] 28))
  have HB := Lib.hid (heap_alloc_new w (.cells #[.int .u8 0, .int .u32 0, .int .u64 0, .string ByteArray.empty] 28))
  have H1 := Lib.hid (h.kept K0.out (fun h => h))
  have HBL := Lib.hid (blank_ok b l _ H1.out)
  have HT := Lib.hid (taken_part b l _ H1.out 10 2 1014 (by decide) (by decide))
  clear h
  unfold pageSlice at HBL ⊢
  go_enter Tryz.func51, Tryz.ntmps51
  go_wp2_with fail
  refine (HBL.out).mono ?_
  rintro e w' ⟨rfl, rfl⟩
  rw [hz]
  go_wp2_with fail
  refine (HT.out).mono ?_
  rintro e w' ⟨rfl, rfl⟩
  rw [hN]
  go_wp2_with (refine wpList_store_row (by rfl) 28 (.tmp 4) (.tmp 23) (by rfl) w.heap.size 28 _ _ (by rfl) (by rfl) HB.out (by exact page_size) (by rfl) (by exact zeroRow_one) ?_)
  refine bodyPost_ret (results_pair rfl _ _ _ _ _ _ _ rfl (setRow_heap _ _ _ _ _ _ HB.out) Tryz.underlying28 rfl (by exact page_size)) rfl ?_
  exact ⟨rfl, K0.out.setRow _ _ (fun hk => absurd hk (by omega))⟩
set_option maxHeartbeats 4000000 in
theorem decode_serial (b : Nat) (l : List UInt8) (number : Nat) (w : World) (h : BytesAt w b l) (hn : number < 4294967296) (hz : (l == List.replicate 1024 0) = false) (n : Nat) (hN : num ((l.drop 10).take 2) = n) (hbig : n ≤ 996) (hser : 4611686018427387904 < num (l.take 8)) (hser2 : num (l.take 8) < 18446744073709551616) :
    Calls Tryz.prog 51 #[pageSlice b, .int .u32 (number : Int)] w fun e w' => e = .returned (.tuple #[.agg #[.int .u8 0, .int .u32 0, .int .u64 0, .string ByteArray.empty], .int .i64 50]) ∧ Kept No w w' := by
  have hl := h.len
  have hlt := lt_of_heap h.row
  have K0 := Lib.hid ((Kept.refl No w).alloc (.cells #[.int .u8 0, .int .u32 0, .int .u64 0, .string ByteArray.empty] 28))
  have HB := Lib.hid (heap_alloc_new w (.cells #[.int .u8 0, .int .u32 0, .int .u64 0, .string ByteArray.empty] 28))
  have H1 := Lib.hid (h.kept K0.out (fun h => h))
  have HBL := Lib.hid (blank_ok b l _ H1.out)
  have HT := Lib.hid (taken_part b l _ H1.out 10 2 1014 (by decide) (by decide))
  clear h
  unfold pageSlice at HBL ⊢
  go_enter Tryz.func51, Tryz.ntmps51
  go_wp2_with fail
  refine (HBL.out).mono ?_
  rintro e w' ⟨rfl, rfl⟩
  rw [hz]
  go_wp2_with fail
  refine (HT.out).mono ?_
  rintro e w' ⟨rfl, rfl⟩
  rw [hN]
  have hz1 : Hid (∀ w', Kept No (w.alloc (.cells #[.int .u8 0, .int .u32 0, .int .u64 0, .string ByteArray.empty] 28)) w' → Calls Tryz.prog 81 #[.slice (some ⟨b, 0, none⟩) 8 1024] w' fun e w'' => e = .returned (.int .u64 (num (l.take 8) : Int)) ∧ w' = w'') := Lib.hid (fun w' k => by
    have := taken_part b l w' (H1.out.kept k (fun h => h)) 0 8 1024 (by decide) (by decide)
    rw [List.drop_zero] at this
    exact this)
  generalize hw1 : w.alloc (.cells #[.int .u8 0, .int .u32 0, .int .u64 0, .string ByteArray.empty] 28) = w1 at *
  have p8 : ∀ p : InC (fun w => ∃ b', BoxD No w1 28 #[.int .u8 0, .int .u32 0, .int .u64 0, .string ByteArray.empty] (pageRow ⟨l[8]?.getD 0, number, num (l.take 8), (l.drop 20).take n⟩) b' w), p.world.cell? ⟨b, 8, none⟩ = some (.int .u8 ((l[8]?.getD 0).toNat : Int)) := fun p => (H1.out.kept p.here.choose_spec.kept (fun h => h)).cell 8 (by decide)
  have hcv : ∀ p : InC (fun w => ∃ b', BoxD No w1 28 #[.int .u8 0, .int .u32 0, .int .u64 0, .string ByteArray.empty] (pageRow ⟨l[8]?.getD 0, number, num (l.take 8), (l.drop 20).take n⟩) b' w), (convert 104 9 (.slice (some ⟨b, 20, none⟩) n 1004)).run Tryz.prog p.world = .ok (.string ⟨⟨(l.drop 20).take n⟩⟩) p.world := fun p => conv_part b l p.world (H1.out.kept p.here.choose_spec.kept (fun h => h)) 20 n 1004 (by omega)
  go_wp2_with fail
  generalize hk8 : l[8]?.getD 0 = kd at p8 hcv
  generalize hS : num (l.take 8) = sr at p8 hcv hz1 hser hser2
  generalize hBD : (l.drop 20).take n = body at p8 hcv
  refine wp_region_C [13, 14] (BoxD No w1 28 #[.int .u8 0, .int .u32 0, .int .u64 0, .string ByteArray.empty] (pageRow ⟨kd, number, sr, body⟩)) (by kernel_rfl) (by kernel_rfl) ⟨(Kept.refl _ _).drew, rfl⟩ ?_
  iterate 6 (refine wpC_quiet (by rfl) (by rfl) (by rfl) ?_; intro K hK; go_big_quiet_op; go_big_quiet_on)
  refine wpC_call (by rfl) (by rfl) (.int .u64 (sr : Int)) 81 #[.slice (some ⟨b, 0, none⟩) 8 1024] (fun w => by go_simp) (fun b' w' hD => (hz1.out w' hD.kept).mono (by rintro e w2 ⟨rfl, rfl⟩; exact ⟨rfl, hD⟩)) ?_
  simp only [Act.put, List.setIfInBounds_toArray, List.set_cons_succ, List.set_cons_zero]
  iterate 6 (refine wpC_quiet (by rfl) (by rfl) (by rfl) ?_; intro K hK; go_big_quiet_op; go_big_quiet_on)
  refine wpC_special (by rfl) (.pointer (some ⟨w1.heap.size, 0, none⟩)) (box_alloc (fun w => by go_simp; rfl) (by decide)) ?_
  refine wpC_special (by rfl) undef (box_store 28 (.tmp 7) (.tmp 36) (by rfl) (by rfl) (by rfl) page_size rfl (pageRow_one _) (by rfl) (by kernel_rfl) (by decide)) ?_
  refine wpC_nil ?_
  intro w8 hw8
  have hw8 : Kept No w1 w8 ∧ w8.heap.size = w1.heap.size + 1 ∧ w8.heap[w1.heap.size]? = some (.cells (pageRow ⟨kd, number, sr, body⟩) 28 (0, 0)) := hw8
  obtain ⟨k8, -, HQ⟩ := hw8
  have HB := Lib.hid (k8.heap HB.out (fun h => h))
  have H1 := Lib.hid (H1.out.kept k8 (fun h => h))
  have K8 := Lib.hid (K0.out.trans k8)
  have HQ := Lib.hid HQ
  clear p8 hcv hz1 k8 HBL HT K0
  have hlt1 : w.heap.size < w1.heap.size := by rw [← hw1]; simp
  generalize hq : w1.heap.size = q at HQ hlt1 ⊢
  clear hw1 hq
  go_wp2_with (refine wpList_load_row (by rfl) 28 (.tmp 7) (by rfl) q (by rfl) _ _ _ _ HQ.out Tryz.underlying28 (by rfl) page_size ?_)
  refine (encode_arg ⟨kd, number, sr, body⟩ w8 hser hser2).mono ?_
  rintro e w9 ⟨rfl, k9⟩
  have HB := Lib.hid (k9.heap HB.out (fun h => h))
  have K9 := Lib.hid (K8.out.trans k9)
  clear H1 HQ k9 K8
  have HZ : True := trivial
  clear HZ
  go_wp2_with fail
  refine wp_region_in (Kept No w9) (by kernel_rfl) (by kernel_rfl) ((Kept.refl _ _).drew) ?_
  repeat (go_big_quiet_step (fail))
  refine wpQuiet_nil ?_
  intro w10 hw'
  obtain ⟨⟨wx, k10⟩, hw''⟩ := hw'
  change w10 = wx at hw''
  subst hw''
  have HB := Lib.hid (k10.heap HB.out (fun h => h))
  have K10 := Lib.hid (K9.out.trans k10)
  clear K9 k10
  go_wp2_with (refine wpList_store_row (by rfl) 28 (.tmp 4) (.tmp 53) (by rfl) w.heap.size 28 _ _ (by rfl) (by rfl) HB.out (by exact page_size) (by rfl) (by exact zeroRow_one) ?_)
  refine bodyPost_ret (results_pair rfl _ _ _ _ _ _ _ rfl (setRow_heap _ _ _ _ _ _ HB.out) Tryz.underlying28 rfl (by exact page_size)) rfl ?_
  exact ⟨rfl, K10.out.setRow _ _ (fun hk => absurd hk (by omega))⟩
set_option maxHeartbeats 4000000 in
theorem decode_bad (b : Nat) (l : List UInt8) (number : Nat) (w : World) (h : BytesAt w b l) (hn : number < 4294967296) (hz : (l == List.replicate 1024 0) = false) (n : Nat) (hN : num ((l.drop 10).take 2) = n) (hbig : n ≤ 996) (hser : num (l.take 8) ≤ 4611686018427387904) (hR : (encode (sumOn 0) ⟨l[8]?.getD 0, number, num (l.take 8), (l.drop 20).take n⟩ == l) = false) :
    Calls Tryz.prog 51 #[pageSlice b, .int .u32 (number : Int)] w fun e w' => e = .returned (.tuple #[.agg #[.int .u8 0, .int .u32 0, .int .u64 0, .string ByteArray.empty], .int .i64 50]) ∧ Kept No w w' := by
  have hl := h.len
  have hlt := lt_of_heap h.row
  have K0 := Lib.hid ((Kept.refl No w).alloc (.cells #[.int .u8 0, .int .u32 0, .int .u64 0, .string ByteArray.empty] 28))
  have HB := Lib.hid (heap_alloc_new w (.cells #[.int .u8 0, .int .u32 0, .int .u64 0, .string ByteArray.empty] 28))
  have H1 := Lib.hid (h.kept K0.out (fun h => h))
  have HBL := Lib.hid (blank_ok b l _ H1.out)
  have HT := Lib.hid (taken_part b l _ H1.out 10 2 1014 (by decide) (by decide))
  clear h
  unfold pageSlice at HBL ⊢
  go_enter Tryz.func51, Tryz.ntmps51
  go_wp2_with fail
  refine (HBL.out).mono ?_
  rintro e w' ⟨rfl, rfl⟩
  rw [hz]
  go_wp2_with fail
  refine (HT.out).mono ?_
  rintro e w' ⟨rfl, rfl⟩
  rw [hN]
  have hz1 : Hid (∀ w', Kept No (w.alloc (.cells #[.int .u8 0, .int .u32 0, .int .u64 0, .string ByteArray.empty] 28)) w' → Calls Tryz.prog 81 #[.slice (some ⟨b, 0, none⟩) 8 1024] w' fun e w'' => e = .returned (.int .u64 (num (l.take 8) : Int)) ∧ w' = w'') := Lib.hid (fun w' k => by
    have := taken_part b l w' (H1.out.kept k (fun h => h)) 0 8 1024 (by decide) (by decide)
    rw [List.drop_zero] at this
    exact this)
  generalize hw1 : w.alloc (.cells #[.int .u8 0, .int .u32 0, .int .u64 0, .string ByteArray.empty] 28) = w1 at *
  have p8 : ∀ p : InC (fun w => ∃ b', BoxD No w1 28 #[.int .u8 0, .int .u32 0, .int .u64 0, .string ByteArray.empty] (pageRow ⟨l[8]?.getD 0, number, num (l.take 8), (l.drop 20).take n⟩) b' w), p.world.cell? ⟨b, 8, none⟩ = some (.int .u8 ((l[8]?.getD 0).toNat : Int)) := fun p => (H1.out.kept p.here.choose_spec.kept (fun h => h)).cell 8 (by decide)
  have hcv : ∀ p : InC (fun w => ∃ b', BoxD No w1 28 #[.int .u8 0, .int .u32 0, .int .u64 0, .string ByteArray.empty] (pageRow ⟨l[8]?.getD 0, number, num (l.take 8), (l.drop 20).take n⟩) b' w), (convert 104 9 (.slice (some ⟨b, 20, none⟩) n 1004)).run Tryz.prog p.world = .ok (.string ⟨⟨(l.drop 20).take n⟩⟩) p.world := fun p => conv_part b l p.world (H1.out.kept p.here.choose_spec.kept (fun h => h)) 20 n 1004 (by omega)
  go_wp2_with fail
  generalize hk8 : l[8]?.getD 0 = kd at p8 hcv hR
  generalize hS : num (l.take 8) = sr at p8 hcv hz1 hser hR
  have hbody : ((l.drop 20).take n).length ≤ 996 := by rw [List.length_take]; omega
  generalize hBD : (l.drop 20).take n = body at p8 hcv hbody hR
  refine wp_region_C [13, 14] (BoxD No w1 28 #[.int .u8 0, .int .u32 0, .int .u64 0, .string ByteArray.empty] (pageRow ⟨kd, number, sr, body⟩)) (by kernel_rfl) (by kernel_rfl) ⟨(Kept.refl _ _).drew, rfl⟩ ?_
  iterate 6 (refine wpC_quiet (by rfl) (by rfl) (by rfl) ?_; intro K hK; go_big_quiet_op; go_big_quiet_on)
  refine wpC_call (by rfl) (by rfl) (.int .u64 (sr : Int)) 81 #[.slice (some ⟨b, 0, none⟩) 8 1024] (fun w => by go_simp) (fun b' w' hD => (hz1.out w' hD.kept).mono (by rintro e w2 ⟨rfl, rfl⟩; exact ⟨rfl, hD⟩)) ?_
  simp only [Act.put, List.setIfInBounds_toArray, List.set_cons_succ, List.set_cons_zero]
  iterate 6 (refine wpC_quiet (by rfl) (by rfl) (by rfl) ?_; intro K hK; go_big_quiet_op; go_big_quiet_on)
  refine wpC_special (by rfl) (.pointer (some ⟨w1.heap.size, 0, none⟩)) (box_alloc (fun w => by go_simp; rfl) (by decide)) ?_
  refine wpC_special (by rfl) undef (box_store 28 (.tmp 7) (.tmp 36) (by rfl) (by rfl) (by rfl) page_size rfl (pageRow_one _) (by rfl) (by kernel_rfl) (by decide)) ?_
  refine wpC_nil ?_
  intro w8 hw8
  have hw8 : Kept No w1 w8 ∧ w8.heap.size = w1.heap.size + 1 ∧ w8.heap[w1.heap.size]? = some (.cells (pageRow ⟨kd, number, sr, body⟩) 28 (0, 0)) := hw8
  obtain ⟨k8, -, HQ⟩ := hw8
  have HB := Lib.hid (k8.heap HB.out (fun h => h))
  have H1 := Lib.hid (H1.out.kept k8 (fun h => h))
  have K8 := Lib.hid (K0.out.trans k8)
  have HQ := Lib.hid HQ
  clear p8 hcv hz1 k8 HBL HT K0
  have hlt1 : w.heap.size < w1.heap.size := by rw [← hw1]; simp
  generalize hq : w1.heap.size = q at HQ hlt1 ⊢
  clear hw1 hq
  go_wp2_with (refine wpList_load_row (by rfl) 28 (.tmp 7) (by rfl) q (by rfl) _ _ _ _ HQ.out Tryz.underlying28 (by rfl) page_size ?_)
  refine (encode_ok ⟨kd, number, sr, body⟩ w8 hser hbody hn).mono ?_
  rintro e w9 ⟨eb, rfl, k9, -, HE⟩
  have HB := Lib.hid (k9.heap HB.out (fun h => h))
  have K9 := Lib.hid (K8.out.trans k9)
  have HQ := Lib.hid (k9.heap HQ.out (fun h => h))
  have H1 := Lib.hid (H1.out.kept k9 (fun h => h))
  have HE := Lib.hid HE
  clear k9 K8
  have hat1 : ∀ w, (Instr.arrayAt 128 (.slice (some ⟨eb, 0, none⟩) 1024 1024)).run Tryz.prog w = .ok (.pointer (some ⟨eb, 0, none⟩)) w := fun w => run_arrayAt Tryz.underlying128 w _ _ _ (Nat.le_refl _)
  have hat2 : ∀ w, (Instr.arrayAt 128 (.slice (some ⟨b, 0, none⟩) 1024 1024)).run Tryz.prog w = .ok (.pointer (some ⟨b, 0, none⟩)) w := fun w => run_arrayAt Tryz.underlying128 w _ _ _ (Nat.le_refl _)
  have hel : (encode (sumOn 0) ⟨kd, number, sr, body⟩).length = 1024 := encode_length _ _ hbody
  have heq : ∀ w, (Op.equalIn 10000 128 (.agg ⟨rowBytes (encode (sumOn 0) ⟨kd, number, sr, body⟩)⟩) (.agg ⟨rowBytes l⟩)).run Tryz.prog w = .ok false w := fun w => by
    rw [pages_eq _ _ w hel hl, hR]
  generalize encode (sumOn 0) ⟨kd, number, sr, body⟩ = E at HE hel heq
  go_wp2_with fail
  refine wp_region_in (Kept No w9) (by kernel_rfl) (by kernel_rfl) ((Kept.refl _ _).drew) ?_
  iterate 5 (go_big_quiet_step (fail))
  refine wpQuiet_load_row (by rfl) 128 (.tmp 46) (by rfl) eb (by rfl) 5 _ (0, 0) _ (by rintro w ⟨p, rfl⟩; exact p.here.heap HE.out (fun h => h)) Tryz.underlying128 (by rfl) (by rw [size_page, rowBytes_size, hel]) ?_
  simp only [Act.put, List.setIfInBounds_toArray, List.set_cons_succ, List.set_cons_zero]
  iterate 2 (go_big_quiet_step (fail))
  refine wpQuiet_load_row (by rfl) 128 (.tmp 49) (by rfl) b (by rfl) 5 _ (0, 0) _ (by rintro w ⟨p, rfl⟩; exact p.here.heap H1.out.row (fun h => h)) Tryz.underlying128 (by rfl) (by rw [size_page, rowBytes_size, hl]) ?_
  simp only [Act.put, List.setIfInBounds_toArray, List.set_cons_succ, List.set_cons_zero]
  iterate 2 (go_big_quiet_step (fail))
  refine wpQuiet_nil ?_
  intro w10 hw'
  obtain ⟨⟨wx, k10⟩, hw''⟩ := hw'
  change w10 = wx at hw''
  subst hw''
  have HB := Lib.hid (k10.heap HB.out (fun h => h))
  have K10 := Lib.hid (K9.out.trans k10)
  clear K9 k10
  go_wp2_with (refine wpList_store_row (by rfl) 28 (.tmp 4) (.tmp 53) (by rfl) w.heap.size 28 _ _ (by rfl) (by rfl) HB.out (by exact page_size) (by rfl) (by exact zeroRow_one) ?_)
  refine bodyPost_ret (results_pair rfl _ _ _ _ _ _ _ rfl (setRow_heap _ _ _ _ _ _ HB.out) Tryz.underlying28 rfl (by exact page_size)) rfl ?_
  exact ⟨rfl, K10.out.setRow _ _ (fun hk => absurd hk (by omega))⟩
set_option maxHeartbeats 4000000 in
theorem decode_good (b : Nat) (l : List UInt8) (number : Nat) (w : World) (h : BytesAt w b l) (hn : number < 4294967296) (hz : (l == List.replicate 1024 0) = false) (n : Nat) (hN : num ((l.drop 10).take 2) = n) (hbig : n ≤ 996) (hser : num (l.take 8) ≤ 4611686018427387904) (hR : (encode (sumOn 0) ⟨l[8]?.getD 0, number, num (l.take 8), (l.drop 20).take n⟩ == l) = true) :
    Calls Tryz.prog 51 #[pageSlice b, .int .u32 (number : Int)] w fun e w' => e = .returned (.tuple #[.agg (pageRow ⟨l[8]?.getD 0, number, num (l.take 8), (l.drop 20).take n⟩), .int .i64 0]) ∧ Kept No w w' := by
  have hl := h.len
  have hlt := lt_of_heap h.row
  have K0 := Lib.hid ((Kept.refl No w).alloc (.cells #[.int .u8 0, .int .u32 0, .int .u64 0, .string ByteArray.empty] 28))
  have HB := Lib.hid (heap_alloc_new w (.cells #[.int .u8 0, .int .u32 0, .int .u64 0, .string ByteArray.empty] 28))
  have H1 := Lib.hid (h.kept K0.out (fun h => h))
  have HBL := Lib.hid (blank_ok b l _ H1.out)
  have HT := Lib.hid (taken_part b l _ H1.out 10 2 1014 (by decide) (by decide))
  clear h
  unfold pageSlice at HBL ⊢
  go_enter Tryz.func51, Tryz.ntmps51
  go_wp2_with fail
  refine (HBL.out).mono ?_
  rintro e w' ⟨rfl, rfl⟩
  rw [hz]
  go_wp2_with fail
  refine (HT.out).mono ?_
  rintro e w' ⟨rfl, rfl⟩
  rw [hN]
  have hz1 : Hid (∀ w', Kept No (w.alloc (.cells #[.int .u8 0, .int .u32 0, .int .u64 0, .string ByteArray.empty] 28)) w' → Calls Tryz.prog 81 #[.slice (some ⟨b, 0, none⟩) 8 1024] w' fun e w'' => e = .returned (.int .u64 (num (l.take 8) : Int)) ∧ w' = w'') := Lib.hid (fun w' k => by
    have := taken_part b l w' (H1.out.kept k (fun h => h)) 0 8 1024 (by decide) (by decide)
    rw [List.drop_zero] at this
    exact this)
  generalize hw1 : w.alloc (.cells #[.int .u8 0, .int .u32 0, .int .u64 0, .string ByteArray.empty] 28) = w1 at *
  have p8 : ∀ p : InC (fun w => ∃ b', BoxD No w1 28 #[.int .u8 0, .int .u32 0, .int .u64 0, .string ByteArray.empty] (pageRow ⟨l[8]?.getD 0, number, num (l.take 8), (l.drop 20).take n⟩) b' w), p.world.cell? ⟨b, 8, none⟩ = some (.int .u8 ((l[8]?.getD 0).toNat : Int)) := fun p => (H1.out.kept p.here.choose_spec.kept (fun h => h)).cell 8 (by decide)
  have hcv : ∀ p : InC (fun w => ∃ b', BoxD No w1 28 #[.int .u8 0, .int .u32 0, .int .u64 0, .string ByteArray.empty] (pageRow ⟨l[8]?.getD 0, number, num (l.take 8), (l.drop 20).take n⟩) b' w), (convert 104 9 (.slice (some ⟨b, 20, none⟩) n 1004)).run Tryz.prog p.world = .ok (.string ⟨⟨(l.drop 20).take n⟩⟩) p.world := fun p => conv_part b l p.world (H1.out.kept p.here.choose_spec.kept (fun h => h)) 20 n 1004 (by omega)
  go_wp2_with fail
  generalize hk8 : l[8]?.getD 0 = kd at p8 hcv hR
  generalize hS : num (l.take 8) = sr at p8 hcv hz1 hser hR
  have hbody : ((l.drop 20).take n).length ≤ 996 := by rw [List.length_take]; omega
  generalize hBD : (l.drop 20).take n = body at p8 hcv hbody hR
  refine wp_region_C [13, 14] (BoxD No w1 28 #[.int .u8 0, .int .u32 0, .int .u64 0, .string ByteArray.empty] (pageRow ⟨kd, number, sr, body⟩)) (by kernel_rfl) (by kernel_rfl) ⟨(Kept.refl _ _).drew, rfl⟩ ?_
  iterate 6 (refine wpC_quiet (by rfl) (by rfl) (by rfl) ?_; intro K hK; go_big_quiet_op; go_big_quiet_on)
  refine wpC_call (by rfl) (by rfl) (.int .u64 (sr : Int)) 81 #[.slice (some ⟨b, 0, none⟩) 8 1024] (fun w => by go_simp) (fun b' w' hD => (hz1.out w' hD.kept).mono (by rintro e w2 ⟨rfl, rfl⟩; exact ⟨rfl, hD⟩)) ?_
  simp only [Act.put, List.setIfInBounds_toArray, List.set_cons_succ, List.set_cons_zero]
  iterate 6 (refine wpC_quiet (by rfl) (by rfl) (by rfl) ?_; intro K hK; go_big_quiet_op; go_big_quiet_on)
  refine wpC_special (by rfl) (.pointer (some ⟨w1.heap.size, 0, none⟩)) (box_alloc (fun w => by go_simp; rfl) (by decide)) ?_
  refine wpC_special (by rfl) undef (box_store 28 (.tmp 7) (.tmp 36) (by rfl) (by rfl) (by rfl) page_size rfl (pageRow_one _) (by rfl) (by kernel_rfl) (by decide)) ?_
  refine wpC_nil ?_
  intro w8 hw8
  have hw8 : Kept No w1 w8 ∧ w8.heap.size = w1.heap.size + 1 ∧ w8.heap[w1.heap.size]? = some (.cells (pageRow ⟨kd, number, sr, body⟩) 28 (0, 0)) := hw8
  obtain ⟨k8, -, HQ⟩ := hw8
  have HB := Lib.hid (k8.heap HB.out (fun h => h))
  have H1 := Lib.hid (H1.out.kept k8 (fun h => h))
  have K8 := Lib.hid (K0.out.trans k8)
  have HQ := Lib.hid HQ
  clear p8 hcv hz1 k8 HBL HT K0
  have hlt1 : w.heap.size < w1.heap.size := by rw [← hw1]; simp
  generalize hq : w1.heap.size = q at HQ hlt1 ⊢
  clear hw1 hq
  go_wp2_with (refine wpList_load_row (by rfl) 28 (.tmp 7) (by rfl) q (by rfl) _ _ _ _ HQ.out Tryz.underlying28 (by rfl) page_size ?_)
  refine (encode_ok ⟨kd, number, sr, body⟩ w8 hser hbody hn).mono ?_
  rintro e w9 ⟨eb, rfl, k9, -, HE⟩
  have HB := Lib.hid (k9.heap HB.out (fun h => h))
  have K9 := Lib.hid (K8.out.trans k9)
  have HQ := Lib.hid (k9.heap HQ.out (fun h => h))
  have H1 := Lib.hid (H1.out.kept k9 (fun h => h))
  have HE := Lib.hid HE
  clear k9 K8
  have hat1 : ∀ w, (Instr.arrayAt 128 (.slice (some ⟨eb, 0, none⟩) 1024 1024)).run Tryz.prog w = .ok (.pointer (some ⟨eb, 0, none⟩)) w := fun w => run_arrayAt Tryz.underlying128 w _ _ _ (Nat.le_refl _)
  have hat2 : ∀ w, (Instr.arrayAt 128 (.slice (some ⟨b, 0, none⟩) 1024 1024)).run Tryz.prog w = .ok (.pointer (some ⟨b, 0, none⟩)) w := fun w => run_arrayAt Tryz.underlying128 w _ _ _ (Nat.le_refl _)
  have hel : (encode (sumOn 0) ⟨kd, number, sr, body⟩).length = 1024 := encode_length _ _ hbody
  have heq : ∀ w, (Op.equalIn 10000 128 (.agg ⟨rowBytes (encode (sumOn 0) ⟨kd, number, sr, body⟩)⟩) (.agg ⟨rowBytes l⟩)).run Tryz.prog w = .ok true w := fun w => by
    rw [pages_eq _ _ w hel hl, hR]
  generalize encode (sumOn 0) ⟨kd, number, sr, body⟩ = E at HE hel heq
  go_wp2_with fail
  refine wp_region_in (Kept No w9) (by kernel_rfl) (by kernel_rfl) ((Kept.refl _ _).drew) ?_
  iterate 5 (go_big_quiet_step (fail))
  refine wpQuiet_load_row (by rfl) 128 (.tmp 46) (by rfl) eb (by rfl) 5 _ (0, 0) _ (by rintro w ⟨p, rfl⟩; exact p.here.heap HE.out (fun h => h)) Tryz.underlying128 (by rfl) (by rw [size_page, rowBytes_size, hel]) ?_
  simp only [Act.put, List.setIfInBounds_toArray, List.set_cons_succ, List.set_cons_zero]
  iterate 2 (go_big_quiet_step (fail))
  refine wpQuiet_load_row (by rfl) 128 (.tmp 49) (by rfl) b (by rfl) 5 _ (0, 0) _ (by rintro w ⟨p, rfl⟩; exact p.here.heap H1.out.row (fun h => h)) Tryz.underlying128 (by rfl) (by rw [size_page, rowBytes_size, hl]) ?_
  simp only [Act.put, List.setIfInBounds_toArray, List.set_cons_succ, List.set_cons_zero]
  iterate 2 (go_big_quiet_step (fail))
  refine wpQuiet_nil ?_
  intro w10 hw'
  obtain ⟨⟨wx, k10⟩, hw''⟩ := hw'
  change w10 = wx at hw''
  subst hw''
  have HB := Lib.hid (k10.heap HB.out (fun h => h))
  have K10 := Lib.hid (K9.out.trans k10)
  have HQ := Lib.hid (k10.heap HQ.out (fun h => h))
  go_wp2_with (first
    | (refine wpList_load_row (by rfl) 28 (.tmp 7) (by rfl) q (by rfl) _ _ _ _ HQ.out Tryz.underlying28 (by rfl) page_size ?_)
    | (refine wpList_store_row (by rfl) 28 (.tmp 4) (.tmp 54) (by rfl) w.heap.size 28 _ _ (by rfl) (by rfl) HB.out (by exact page_size) (by rfl) (by exact pageRow_one _) ?_))
  refine bodyPost_ret (results_pair rfl _ _ _ _ _ _ _ rfl (setRow_heap _ _ _ _ _ _ HB.out) Tryz.underlying28 rfl (by exact page_size)) rfl ?_
  exact ⟨by subst hk8 hS hBD; rfl, K10.out.setRow _ _ (fun hk => absurd hk (by omega))⟩
set_option maxHeartbeats 1000000 in
theorem decode_ok (b : Nat) (l : List UInt8) (number : Nat) (w : World) (h : BytesAt w b l) (hn : number < 4294967296) :
    Calls Tryz.prog 51 #[pageSlice b, .int .u32 (number : Int)] w fun e w' => e = .returned (.tuple #[.agg (decRow (dec l number)), .int .i64 (decErr (dec l number))]) ∧ Kept No w w' := by
  have hl := h.len
  have hs2 := num_bounds (l.take 8) (by rw [List.length_take]; omega)
  unfold dec decode
  rw [if_neg (by omega)]
  by_cases hz : l = List.replicate 1024 0
  · rw [if_pos hz]
    exact decode_blank b l number w h hn (by rw [hz]; exact beq_self_eq_true _)
  · rw [if_neg hz]
    have hzb : (l == List.replicate 1024 0) = false := by rw [beq_eq_false_iff_ne]; exact hz
    simp only
    generalize hN : num ((l.drop 10).take 2) = n
    by_cases hbig : n > 996
    · rw [if_pos hbig]
      exact decode_long b l number w h hn hzb n hN hbig (num2_lt l n hN)
    · rw [if_neg hbig]
      by_cases hser : num (l.take 8) > 2 ^ 62
      · rw [if_pos hser]
        exact decode_serial b l number w h hn hzb n hN (by omega) (by omega) hs2
      · rw [if_neg hser]
        by_cases hE : encode (sumOn 0) ⟨l[8]?.getD 0, number, num (l.take 8), (l.drop 20).take n⟩ ≠ l
        · rw [if_pos hE]
          exact decode_bad b l number w h hn hzb n hN (by omega) (by omega) (by rw [beq_eq_false_iff_ne]; exact hE)
        · rw [if_neg hE]
          exact decode_good b l number w h hn hzb n hN (by omega) (by omega) (by rw [beq_iff_eq]; simpa using hE)
end Go.Proofs.YtabhieafjkaocaaGreat
