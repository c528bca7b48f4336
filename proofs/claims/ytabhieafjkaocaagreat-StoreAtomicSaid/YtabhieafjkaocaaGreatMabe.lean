/- A part. -/
import Derived.Test.YtabhieafjkaocaaGreatMabd
import Derived.Test.YtabhieafjkaocaaGreatMabb
import Derived.RangeFuncBound
import Derived.Lib.SlKeysI
import Derived.Test.YtabhieafjkaocaaGreatMaah
import Derived.Maps.AppendAt
import Derived.Test.YtabhieafjkaocaaGreatMabc
import Derived.Test.YtabhieafjkaocaaGreatMaat
import Derived.StillTailTactics
import Derived.Test.YtabhieafjkaocaaGreatMaau
import Derived.Test.YtabhieafjkaocaaGreatMaar
set_option linter.unusedVariables false
set_option linter.unusedSimpArgs false
namespace Go.Proofs.YtabhieafjkaocaaGreat
open Go.RowKit Go.Maps Go.Sort Go.Shelf
set_option maxRecDepth 100000
set_option maxHeartbeats 2000000 in
theorem appendSeq_u (n : Nat) (hn : 2 ≤ n) (g : Nat) (lb : Array Value) (eg : ∀ args w, (callFunc g args).run Tryz.prog w = .ok (.enter g args) w)
    (S : List Int → Prop) (N : Nat) (hN : N ≤ maxLen) (hNb : N * 4 ≤ 140737488355328) (w : World) (hseq : SeqGives Fence.wide (n - 1) Tryz.prog g lb encU S N w) :
    CallsIn Fence.wide n Tryz.prog 159 #[.slice none 0 0, .func (.func g) #[] lb] w fun e w' => ∃ (v : Value) (ss : List Int), e = .returned v ∧ S ss ∧ w'.ownsRow w.heap.size 25 1 v ss.length (ss.map encU) ∧ (v = .slice none 0 0 ↔ ss = []) ∧ Below w.heap.size w w' := by
  have h1 : 1 ≤ n := by omega
  have hne : (114 : TypeId) ≠ 25 := by decide
  refine callsIn_of_wp_marks Tryz.func159 rfl trivial ?_ rfl
  simp only [Tryz.ntmps159, List.size_toArray, List.length_cons, List.length_nil, Nat.reduceAdd, Nat.reduceSub, Array.replicate_succ, Array.replicate_zero, List.push_toArray, List.append_toArray, List.nil_append, List.cons_append]
  gi_wp2
  refine wpIn_rangeFunc ?_
  intro fn hfn
  obtain ⟨W0, hW0⟩ : ∃ W0, w.alloc (.cells #[.slice none 0 0] 114) = W0 := ⟨_, rfl⟩
  have hs0 : W0.heap.size = w.heap.size + 1 := by rw [← hW0]; simp
  have hv0 : W0.heap[w.heap.size]? = some (.cells #[.slice none 0 0] 114 (0, 0)) := by rw [← hW0]; exact World.alloc_heap_new w _
  have hb0 : Below w.heap.size w W0 := by rw [← hW0]; exact (Below.refl _ w).alloc (Nat.le_refl _) _
  rw [hW0]
  obtain ⟨W1, hW1⟩ : ∃ W1, (W0.alloc (.deferred (some []))).alloc (.loop (apRecU fn (.func (.func g) #[] lb) w.heap.size W0.heap.size .ready none)) = W1 := ⟨_, rfl⟩
  have hold : ∀ k, k < W0.heap.size → W1.heap[k]? = W0.heap[k]? := fun k hk => by
    rw [← hW1]; exact (Below.heap_alloc _ _ k (by simp; omega)).trans (Below.heap_alloc _ _ k hk)
  have hb1 : Below w.heap.size w W1 := by rw [← hW1]; exact (hb0.alloc hb0.size _).alloc (by have := hb0.size; simp; omega) _
  have hs1 : W1.heap.size = W0.heap.size + 2 := by rw [← hW1]; simp
  have hM : ApAtU w fn (.func (.func g) #[] lb) w.heap.size (W0.heap.size + 1) W0.heap.size [] W1 :=
    ⟨⟨_, (hold w.heap.size (by omega)).trans hv0, ⟨rfl, .inl ⟨rfl, rfl⟩⟩, by simp⟩,
     by rw [← hW1]; have := World.alloc_heap_new (W0.alloc (.deferred (some []))) (.loop (apRecU fn (.func (.func g) #[] lb) w.heap.size W0.heap.size .ready none)); rwa [World.size_alloc] at this,
     by rw [← hW1]; exact (Below.heap_alloc _ _ _ (by simp)).trans (World.alloc_heap_new W0 _), hb1⟩
  refine ⟨W0.heap.size + 1, [{ target := .collected W0.heap.size, args := #[] }], W1, { target := .fn (.func g) lb, args := #[.func (.yield (W0.heap.size + 1)) #[] #[]] }, W1, g,
    #[.func (.yield (W0.heap.size + 1)) #[] #[]] ++ lb, W1, ?_, ?_, ?_, ?_, fun _ => h1, ?_⟩
  · rw [← hW1]; exact run_enterLoop_outer _ _ _ _ _
  · simp [resolve, go_sem]
  · intro f' hf'; trivial
  · simp [invoke, go_sem, eg]
  · refine (hseq (W0.heap.size + 1) (ApAtU w fn (.func (.func g) #[] lb) w.heap.size (W0.heap.size + 1) W0.heap.size) W1 hb1 (ap_abidesU _ _ _ _ _ _ _ hb1.size)
      (fun pre x W hJ hl => apYieldU (n - 1 - 1) w fn _ w.heap.size (W0.heap.size + 1) W0.heap.size (by omega) (by omega) (by omega) (Nat.le_refl _) (by omega) N hN hNb pre x W hJ hl) hM).mono ?_
    rintro e W2 ⟨⟨v0, rfl⟩, ss, hS, h2⟩
    obtain ⟨v, hv, hrow, hnil⟩ := h2.box
    have hend := run_endLoop (P := Tryz.prog) h2.L (by simp [apRecU])
    obtain ⟨W3, hW3⟩ : ∃ W3, W2.putObj (W0.heap.size + 1) (.loop { apRecU fn (.func (.func g) #[] lb) w.heap.size W0.heap.size .ready none with state := .exhausted }) = W3 := ⟨_, rfl⟩
    rw [hW3] at hend
    have hg3 : W2.grownBy W3 (some (W0.heap.size + 1)) := by rw [← hW3]; exact grownBy_putObj_a _ _ _
    have hv3 : W3.heap[w.heap.size]? = some (.cells #[v] 114 (0, 0)) := by rw [← hW3]; exact (World.putObj_heap_other (by omega)).trans hv
    have hK3 : W3.heap[W0.heap.size]? = some (.deferred (some [])) := by rw [← hW3]; exact (World.putObj_heap_other (by omega)).trans h2.K
    have hrow3 := hrow.kept hg3 (ownsRow_ne_a hrow h2.L (fun cur e => by first | cases e | exact hne (Obj.cells.inj e).2.1))
    have hb3 : Below w.heap.size w W3 := h2.below.grown hg3 h2.below.size (fun k e => by cases e; omega)
    obtain ⟨hc3, hf3⟩ := cell_of_box_a hv3
    clear hW3
    refine ⟨none, W3, hend, ?_⟩
    gi_wp2
    rw [← hs0]
    refine ⟨by simp, .inl ⟨_, _, rfl, run_takeDeferred hK3, ?_⟩⟩
    exact ⟨_, results_tmp rfl _ _ _, v, ss, rfl, hS, hrow3.kept (grownBy_putObj_a _ _ _) (ownsRow_ne_a hrow3 hK3 (fun cur e => by first | cases e | exact hne (Obj.cells.inj e).2.1)), hnil, hb3.grown (grownBy_putObj_a _ _ _) hb3.size (fun k e => by cases e; omega)⟩
set_option maxHeartbeats 1000000 in
theorem collect_u (n : Nat) (hn : 3 ≤ n) (g : Nat) (lb : Array Value) (eg : ∀ args w, (callFunc g args).run Tryz.prog w = .ok (.enter g args) w)
    (S : List Int → Prop) (N : Nat) (hN : N ≤ maxLen) (hNb : N * 4 ≤ 140737488355328) (w : World) (hseq : SeqGives Fence.wide (n - 1 - 1) Tryz.prog g lb encU S N w) :
    CallsIn Fence.wide n Tryz.prog 133 #[.func (.func g) #[] lb] w fun e w' => ∃ (v : Value) (ss : List Int), e = .returned v ∧ S ss ∧ w'.ownsRow w.heap.size 25 1 v ss.length (ss.map encU) ∧ (v = .slice none 0 0 ↔ ss = []) ∧ Below w.heap.size w w' := by
  have h1 : 1 ≤ n := by omega
  refine callsIn_of_wp Tryz.func133 rfl trivial ?_ rfl
  simp only [Tryz.ntmps133, List.size_toArray, List.length_cons, List.length_nil, Nat.reduceAdd, Nat.reduceSub, Array.replicate_succ, Array.replicate_zero, List.push_toArray, List.append_toArray, List.nil_append, List.cons_append]
  gi_wp2
  refine ⟨trivial, (appendSeq_u (n - 1) (by omega) g lb eg S N hN hNb _ hseq).mono ?_⟩
  rintro e w' ⟨v, ss, rfl, hS, hrow, hnil, hb⟩
  gi_wp2
  go_ret
  exact ⟨v, ss, rfl, hS, hrow, hnil, hb⟩
theorem holds_of_block_u {w : World} {g : Nat} {cur : Array Value} {e : TypeId} {ss : List Int} (hb : w.heap[g]? = some (.cells cur e (0, 0))) (ht : cur.toList.take ss.length = ss.map encU) : Holds encU w g 0 ss.toArray := by
  intro j hj
  have hj' : j < ss.length := by simpa using hj
  refine ⟨?_, by simp [World.frozen?, hb]⟩
  have h1 : (cur.toList.take ss.length)[j]? = (ss.map encU)[j]? := by rw [ht]
  rw [List.getElem?_take_of_lt hj'] at h1
  simp only [World.cell?, hb, Nat.zero_add]
  simp only [Option.isSome_none, Bool.false_eq_true, if_false]
  rw [← Array.getElem?_toList, h1]
  simp [hj']
theorem heap_sorted_u {w : World} {g n : Nat} {os : Array Obj} {cur : Array Value} {e : TypeId} {fr : Nat × Nat} (d : Array Int) (hb : w.heap[g]? = some (.cells cur e fr)) :
    (grow (putRow encU (Sort.ahead w n) g 0 d) os).heap[g]? = some (.cells (putCells encU 0 d cur) e fr) := by
  have hg : g < w.heap.size := (Array.getElem?_eq_some_iff.1 hb).1
  rw [heap_grow_old _ _ (by simpa using hg)]
  simp [putRow, mapBlock, Sort.ahead, Array.getElem?_modify, hb, onCells]
theorem grownBy_sorted_u {w : World} {g n : Nat} {os : Array Obj} (d : Array Int) : w.grownBy (grow (putRow encU (Sort.ahead w n) g 0 d) os) (some g) := by
  refine ⟨rfl, rfl, rfl, by simp, fun k hk hne => ?_⟩
  rw [heap_grow_old _ _ (by simpa using hk)]
  have : g ≠ k := fun e => hne (by rw [e])
  simp [putRow, mapBlock, Sort.ahead, Array.getElem?_modify, this]
theorem take_putCells_u (cur : Array Value) (ts : List Int) (h : ts.length ≤ cur.size) : (putCells encU 0 ts.toArray cur).toList.take ts.length = ts.map encU := by
  apply List.ext_getElem?
  intro j
  by_cases hj : j < ts.length
  · rw [List.getElem?_take_of_lt hj, Array.getElem?_toList]
    simp [putCells, hj, show j < cur.size by omega]
  · rw [List.getElem?_take_eq_none (by omega), List.getElem?_eq_none (by simp; omega)]
theorem ownsRow_sorted_u {w : World} {base g cap n : Nat} {e : TypeId} {os : Array Obj} {cur : Array Value} {ss ts : List Int} (hl : ts.length = ss.length) (hbase : base ≤ g) (hb : w.heap[g]? = some (.cells cur e (0, 0)))
    (h1 : ss.length ≤ cap) (h2 : cap ≤ maxLen) (h3 : cur.size = cap * 1) :
    (grow (putRow encU (Sort.ahead w n) g 0 ts.toArray) os).ownsRow base e 1 (.slice (some ⟨g, 0, none⟩) ss.length cap) ss.length (ts.map encU) :=
  ⟨by simp [hl], .inr ⟨g, cap, _, rfl, hbase, heap_sorted_u _ hb, h1, h2, by simp [putCells, h3], by rw [Nat.mul_one, ← hl]; exact take_putCells_u cur ts (by omega)⟩⟩
theorem sorted_keysU {cl : List ConT} {ss : List Int} (h : Rise cl) (hp : ss.Perm (keysU cl)) : (ss.mergeSort fun x y => decide (x ≤ y)) = keysU cl := by
  have tr : ∀ a b c : Int, decide (a ≤ b) = true → decide (b ≤ c) = true → decide (a ≤ c) = true := fun a b c h1 h2 => by simp only [decide_eq_true_eq] at *; omega
  have to : ∀ a b : Int, (decide (a ≤ b) || decide (b ≤ a)) = true := fun a b => by simp only [Bool.or_eq_true, decide_eq_true_eq]; omega
  refine List.Perm.eq_of_pairwise (le := fun a b => decide (a ≤ b) = true) (fun a b _ _ h1 h2 => ?_) (List.pairwise_mergeSort tr to ss) ?_ ((List.mergeSort_perm ss _).trans hp)
  · simp only [decide_eq_true_eq] at h1 h2
    omega
  · unfold Rise at h
    unfold keysU
    rw [List.pairwise_map] at h ⊢
    exact h.imp fun {a b} hab => by simp; omega
set_option maxHeartbeats 2000000 in
theorem sorted_u (Bm hm : Nat) (cl : List ConT) (D0 : DataW Unit) (w : World) (hBm : Bm < w.heap.size) (hmc : w.cell? ⟨Bm, 0, none⟩ = some (.map (some hm))) (hH : HasAt w hm cl D0) :
    Calls Tryz.prog 91 #[.func (.func 135) #[] #[.pointer (some ⟨Bm, 0, none⟩)]] w fun e w' => ∃ v : Value, e = .returned v ∧ w'.ownsRow w.heap.size 25 1 v cl.length ((keysU cl).map encU) ∧ Kept No w w' := by
  have hlen := rise_length hH.rise (fun x hx => (hH.ok x hx).1)
  have hrise := Lib.hid hH.rise
  have hC := collect_u 3 (by omega) 135 #[.pointer (some ⟨Bm, 0, none⟩)] (fun args w => by kernel_rfl) (fun ss => ss.Perm (keysU cl)) cl.length (by unfold maxLen; omega) (by omega) w (keys_gives_u 1 (by omega) Bm hm cl D0 w hBm hmc hH)
  have HC := Lib.hid ((callsIn_wide (n := 3)).1 hC)
  clear hC hH
  go_enter Tryz.func91, Tryz.ntmps91
  go_wp2_with (go_at_call 133; go_loud (refine HC.out.mono ?_; rintro e W ⟨v, ss, rfl, hS, hrow, hnil, hb⟩))
  have hsl : ss.length = cl.length := by have := hS.length_eq; simpa [keysU] using this
  have HB := Lib.hid hb
  have HSS := Lib.hid (sorted_keysU hrise.out hS)
  clear hb
  rcases hrow.2 with ⟨rfl, hz⟩ | ⟨gb, cap, cur, rfl, hbase, hgb, r1, r2, r3, r4⟩
  · have hss : ss = [] := List.eq_nil_of_length_eq_zero hz
    subst hss
    have hcl : cl = [] := List.eq_nil_of_length_eq_zero (by simpa using hsl.symm)
    subst hcl
    have HR := Lib.hid hrow
    clear hrow hnil hS
    go_wp2_with (go_at_call 134; go_loud (refine (Sort_nil_u32 none 0 W).mono ?_; rintro e w' ⟨rfl, rfl⟩))
    go_ret
    exact ⟨_, rfl, by simpa [keysU] using HR.out, ⟨HB.out.os, HB.out.tape, HB.out.output, HB.out.size, fun k hk _ => HB.out.block k hk⟩⟩
  · have hH : Holds encU W gb 0 ss.toArray := holds_of_block_u hgb (by simpa using r4)
    have hgl : gb < W.heap.size := (Array.getElem?_eq_some_iff.1 hgb).1
    have hsz : ss.length < 65536 := by omega
    have cS := sort_u32 gb 0 cap ss W hH hgl hsz
    rw [HSS.out] at cS
    have HS := Lib.hid cS
    have HG := Lib.hid hgb
    have R4 := Lib.hid r4
    clear cS hrow hnil hS hH hgb r4
    go_wp2_with (go_at_call 134; go_loud (refine HS.out.mono ?_; rintro e w' ⟨rfl, nn, os, rfl⟩))
    go_ret
    have hk : (keysU cl).length = ss.length := by simp [keysU, hsl]
    have hG := grownBy_sorted_u (w := W) (g := gb) (n := nn) (os := os) (keysU cl).toArray
    have hB := HB.out.grown hG HB.out.size (fun j hj => by cases hj; exact hbase)
    refine ⟨_, rfl, ?_, ⟨hB.os, hB.tape, hB.output, hB.size, fun k hk _ => hB.block k hk⟩⟩
    rw [← hsl]
    exact ownsRow_sorted_u hk hbase HG.out r1 r2 r3
end Go.Proofs.YtabhieafjkaocaaGreat
namespace Go.Proofs.YtabhieafjkaocaaGreat
open Go.RowKit
def ThreeD (wa wb wc : World) : List Bool → World → Prop
  | [false, false], w => w = wa
  | [true, false], w => w = wb
  | [true, true], w => w = wc
  | _, _ => False
theorem three_all {wa wb wc : World} {R : World → Prop} (ha : R wa) (hb : R wb) (hc : R wc) : ∀ p : InC (fun w => ∃ b, ThreeD wa wb wc b w), R p.world := fun p => by
  obtain ⟨b, h⟩ := p.here
  unfold ThreeD at h
  split at h
  · rw [h]; exact ha
  · rw [h]; exact hb
  · rw [h]; exact hc
  · exact h.elim
theorem three_some (wa wb wc : World) : Nonempty (InC (fun w => ∃ b, ThreeD wa wb wc b w)) := ⟨⟨wa, [false, false], rfl⟩⟩
section
variable {P : Program} {ops : Array Oper} {wa wb wc : World} {k k2 : Nat} {o : Oper} {ρ : Operand → Value} {v : Value}
theorem three_one (hkk : k ≠ k2) (hr : (execOp ρ o).run P wa = .ok (.value v) wb) : ∀ li, k ∈ Region.ready .any ops li → ∀ w, ThreeD wa wb wc (flags [k, k2] li) w → goUpon P (ThreeD wa wb wc (flags [k, k2] (li.setIfInBounds k true))) v ((execOp ρ o).run P w) := by
  intro li hrd w hC
  obtain ⟨h1, h2⟩ := ready_self hrd
  have e2 : (li.setIfInBounds k true).getD k2 false = li.getD k2 false := getD_set_ne false hkk
  simp only [flags, List.map_cons, List.map_nil, h1] at hC
  cases hf : li.getD k2 false with
  | true => rw [hf] at hC; exact hC.elim
  | false =>
    rw [hf] at hC
    have hC : w = wa := hC
    subst hC
    rw [hr]
    show ThreeD _ _ _ [(li.setIfInBounds k true).getD k false, (li.setIfInBounds k true).getD k2 false] _ ∧ _
    rw [set_self h2, e2, hf]
    exact ⟨rfl, rfl⟩
theorem three_two (hkk : k2 ≠ k) (h2k : ops[k2]? = some o) (hon : o.after.any (fun e => Region.binds .any e && e.on == k) = true) (hr : (execOp ρ o).run P wb = .ok (.value v) wc) :
    ∀ li, k2 ∈ Region.ready .any ops li → ∀ w, ThreeD wa wb wc (flags [k, k2] li) w → goUpon P (ThreeD wa wb wc (flags [k, k2] (li.setIfInBounds k2 true))) v ((execOp ρ o).run P w) := by
  intro li hrd w hC
  obtain ⟨h1, h2⟩ := ready_self hrd
  obtain ⟨e, he, hb⟩ := Array.any_eq_true'.1 hon
  simp only [Bool.and_eq_true, beq_iff_eq] at hb
  have h3 := ready_on hrd h2k e he hb.1
  rw [hb.2] at h3
  have e2 : (li.setIfInBounds k2 true).getD k false = li.getD k false := getD_set_ne false hkk
  simp only [flags, List.map_cons, List.map_nil, h1, h3] at hC
  have hC : w = wb := hC
  subst hC
  rw [hr]
  show ThreeD _ _ _ [(li.setIfInBounds k2 true).getD k false, (li.setIfInBounds k2 true).getD k2 false] _ ∧ _
  rw [set_self h2, e2, h3]
  exact ⟨rfl, rfl⟩
end
section
variable {P : Program} {ops : Array Oper} {md : Region.Mode} {Q : Array Bool → Act → Prop} {rest : List Oper} {o : Oper} {k : Nat} {listed : Array Bool} {a : Act} {sp : List Nat} {D : List Bool → World → Prop}
theorem wpC_nilCheck (hw : Region.wanted o (yielded ops a.tmps) = true) (hk : sp.contains k = false) (x : Operand) (ho : o.op = .nilCheck x) (ad : Addr) (hx : a.eval x = .pointer (some ad))
    (h : wpC P md ops (fun l => D (flags sp l)) Q rest (k + 1) (listed.setIfInBounds k true) (a.put o.dst (.pointer (some ad)))) : wpC P md ops (fun l => D (flags sp l)) Q (o :: rest) k listed a := by
  refine ⟨.pointer (some ad), .inl ⟨hw, fun li _ w hC => ?_⟩, h⟩
  have hr : (execOp a.eval o).run P w = .ok (.value (.pointer (some ad))) w := by
    unfold execOp
    simp only [ho, hx]
    simp
  rw [hr]
  show D (flags sp (li.setIfInBounds k true)) w ∧ _
  rw [flags_other hk]
  exact ⟨hC, rfl⟩
end
theorem exec_append {P : Program} {o : Oper} {ρ : Operand → Value} {w w' : World} {v v' X : Value} {t : TypeId} (s x : Operand) (ho : o.op = .call { callee := .builtin .append, args := #[s, x], argTypes := #[t, t] }) (hs : ρ s = v) (hx : ρ x = X)
    (hr : (Builtin.append_ #[t, t] o.type #[v, X]).run P w = .ok v' w') : (execOp ρ o).run P w = .ok (.value v') w' := by
  unfold execOp
  simp only [ho, resolve, invoke, builtin, Sem.run_bind, Sem.run_pure, Result.andThen_ok, List.map_toArray, List.map_cons, List.map_nil, hs, hx, hr]
end Go.Proofs.YtabhieafjkaocaaGreat
namespace Go.Proofs.YtabhieafjkaocaaGreat
open Go.RowKit Go.Lib Go.Maps Bm
set_option maxRecDepth 20000
theorem keys_cell {w : World} {base : Nat} {sv : Value} {n : Nat} {l : List ConT} (h : w.ownsRow base 25 1 sv n ((keysU l).map encU)) (hn : n = l.length) (k : Nat) (hk : k < n) :
    ∃ g cap, sv = .slice (some ⟨g, 0, none⟩) n cap ∧ w.cell? ⟨g, k, none⟩ = some (.int .u32 ((l[k]'(hn ▸ hk)).1 : Int)) := by
  rcases h.2 with ⟨_, h2⟩ | ⟨g, cap, cur, hv, hb, hg, hc, hm, hs, ht⟩
  · omega
  · refine ⟨g, cap, hv, ?_⟩
    rw [cell_of_row w g _ _ _ _ hg, ← Array.getElem?_toList]
    have h1 : (cur.toList.take (n * 1))[k]? = ((keysU l).map encU)[k]? := by rw [ht]
    rw [List.getElem?_take_of_lt (by omega)] at h1
    rw [h1]
    simp [keysU, hn ▸ hk]
theorem look_cont {w : World} {hm : Nat} {l : List ConT} {D : DataW Unit} (h : HasAt w hm l D) (k : Nat) (hk : k < 4294967296) (c : UInt8 × List UInt8) (hc : getC k l = some c) :
    (Instr.lookup 91 (.map (some hm)) (.int .u32 (k : Int)) false).run Tryz.prog w = .ok (.agg #[.int .u8 (c.1.toNat : Int), .string ⟨⟨c.2⟩⟩]) w := by
  have hwf : (Lit.int .u32 (k : Int)).wf = true := by
    simp [Lit.wf, IntKind.u32]
    have : IntKind.u32.min = 0 := rfl
    have : IntKind.u32.max = 4294967295 := rfl
    omega
  have hkey := keyOf_int_mk (P := Tryz.prog) Tryz.underlying25 hwf
  have hz : (zeroValue 95).run Tryz.prog w = .ok (.agg #[.int .u8 0, .string ByteArray.empty]) w := by kernel_rfl
  obtain ⟨v, ps, hrun, hv⟩ := h.own.lookup lawU Tryz.underlying91 hz (zd := .agg [.lit (.int .u8 0), .lit (.string [])]) (zp := []) rfl hkey
  rw [hrun]
  rw [h.get k c hc] at hv
  have hps : ps = [] := by
    unfold contElem at hv
    split at hv
    · simp at hv; exact hv.2
    · cases hv
  subst hps
  rw [contElem_inv hv]
theorem getC_get : ∀ (l : List ConT), Rise l → ∀ (k : Nat) (h : k < l.length), getC (l[k]).1 l = some (l[k]).2
  | x :: l, hr, 0, h => by simp [getC]
  | x :: l, hr, k + 1, h => by
    have h1 := List.pairwise_cons.1 hr
    simp only [List.getElem_cons_succ, getC]
    have hk : k < l.length := by simpa using h
    have : x.1 < (l[k]).1 := h1.1 _ (List.mem_map_of_mem (List.getElem_mem hk))
    rw [if_neg (by omega)]
    exact getC_get l h1.2 k hk
def pagesTo (m : BtM) (k : Nat) : List PageV := m.held.page :: (m.has.take k).map fun x => ⟨x.2.1, x.1, 0, x.2.2⟩
theorem pagesTo_all (m : BtM) : pagesTo m m.has.length = m.pages := by simp [pagesTo, BtM.pages]
theorem pagesTo_succ (m : BtM) (k : Nat) (h : k < m.has.length) : pagesTo m (k + 1) = pagesTo m k ++ [⟨(m.has[k]).2.1, (m.has[k]).1, 0, (m.has[k]).2.2⟩] := by
  unfold pagesTo
  rw [List.take_add_one, List.getElem?_eq_getElem h]
  simp only [Option.toList_some, List.map_append, List.map_cons, List.map_nil, List.cons_append]
theorem pagesTo_len (m : BtM) (k : Nat) (h : k ≤ m.has.length) : (pagesTo m k).length = k + 1 := by simp [pagesTo, Nat.min_eq_left h]
theorem own_one (w : World) (base : Nat) (p : PageV) (hb : base ≤ w.heap.size) : (w.alloc (.cells (pageRow p) 28)).ownsRow base 28 4 (.slice (some ⟨w.heap.size, 0, none⟩) 1 1) 1 (pageCells [p]) := by
  refine ⟨by simp [pageCells, pageRow], .inr ⟨_, 1, pageRow p, rfl, hb, heap_alloc_new w _, Nat.le_refl _, by decide, rfl, ?_⟩⟩
  simp [pageCells, pageRow]
set_option maxHeartbeats 4000000 in
theorem bpages_ok (b s u : Nat) (v : Value) (hm : Nat) (m : BtM) (w : World) (h : BtAt w b s u v hm m) :
    Calls Tryz.prog 58 #[.pointer (some ⟨b, 0, none⟩)] w fun e w' => ∃ pv, e = .returned pv ∧ Kept No w w' ∧ PagesAt w' pv m.pages ∧ ∀ g, pv.ownBlock = some g → w.heap.size ≤ g := by
  have H := Lib.hid h
  have HHEAD := Lib.hid h.head
  have HBODY := Lib.hid (body_ok u v m.held w h.held)
  have hlen := h.len
  obtain ⟨D, hD⟩ := h.has
  have HD := Lib.hid hD
  clear h hD
  generalize hN : m.has.length = N at *
  have HN := Lib.hid hN
  clear hN
  go_enter Tryz.func58, Tryz.ntmps58
  go_wp2_with (first
    | (refine wpList_load_part (by rfl) 88 (.tmp 8) (by rfl) b 1 (by rfl) _ _ [.pointer (some ⟨u, 0, none⟩), .int .u32 (m.held.root.a : Int), .int .u32 (m.held.root.b : Int), .int .u32 (m.held.root.c : Int), .int .u32 (m.held.root.d : Int), .int .u32 (m.held.root.e : Int), .int .u32 (m.held.root.f : Int), .int .u32 (m.held.root.g : Int), .int .u32 (m.held.root.h : Int)] _ _ HHEAD.out Tryz.underlying88 (by rfl) (by exact held_size) (by exact part_of [_] [.pointer (some ⟨u, 0, none⟩), .int .u32 (m.held.root.a : Int), .int .u32 (m.held.root.b : Int), .int .u32 (m.held.root.c : Int), .int .u32 (m.held.root.d : Int), .int .u32 (m.held.root.e : Int), .int .u32 (m.held.root.f : Int), .int .u32 (m.held.root.g : Int), .int .u32 (m.held.root.h : Int)] [_, _, _]) ?_)
    | (go_at_call 80; refine HBODY.out.mono ?_; rintro e w1 ⟨rfl, k1⟩; have K1 := Lib.hid k1; have c10 : ∀ o, (w1.alloc o).cell? ⟨b, 10, none⟩ = some (.map (some hm)) := fun o => (cell_of_row _ b 10 _ _ _ ((H.out.no k1).no ((Kept.refl No _).alloc o)).head).trans rfl; have HD1 := Lib.hid (HD.out.kept k1 (fun h => h)); clear k1)
    | (go_at_call 92; go_loud (refine (keys_u (some hm) _).mono ?_; rintro e w3 ⟨rfl, hw3⟩; have HW3 := Lib.hid hw3; clear hw3))
    | (go_at_call 91; go_loud (refine (sorted_u _ hm m.has D _ (by rw [HW3.out]; simp) (by rw [HW3.out]; simp) (by rw [HW3.out]; exact HD1.out.kept (((Kept.refl No _).alloc _).alloc _) (fun h => h))).mono ?_; rintro e w4 ⟨sv, rfl, hkeys, k4⟩; have HK4 := Lib.hid hkeys; have K4 := Lib.hid k4; obtain ⟨ka, kc, rfl⟩ := row_slice hkeys; clear hkeys k4)))
  have k3 : Kept No w w3 := by rw [HW3.out]; exact (K1.out.alloc _).alloc _
  have kk4 : Kept No w w4 := k3.trans K4.out
  have hrow3 : w3.ownsRow w.heap.size 28 4 (.slice (some ⟨w1.heap.size, 0, none⟩) 1 1) 1 (pageCells [m.held.page]) := by
    rw [HW3.out]
    exact ((Kept.refl No _).alloc _).row (own_one w1 w.heap.size m.held.page K1.out.size) (fun _ _ h => h)
  have hrow4 := K4.out.row hrow3 (fun _ _ h => h)
  have hsz3 : w.heap.size ≤ w3.heap.size := k3.size
  have HROW4 := Lib.hid hrow4
  have KK4 := Lib.hid kk4
  have HKEYS : Hid (w4.ownsRow 0 25 1 (.slice ka m.has.length kc) m.has.length ((keysU m.has).map encU)) := Lib.hid (by
    have hk := HK4.out
    refine ⟨hk.1, ?_⟩
    rcases hk.2 with h | ⟨g, cap, cur, hv, hb, r⟩
    · exact .inl h
    · exact .inr ⟨g, cap, cur, hv, Nat.zero_le _, r⟩)
  clear k3 kk4 hrow3 hrow4 HW3 K4 HK4 HBODY HD1 c10 HHEAD
  rw [HN.out] at HKEYS ⊢
  go_loopw [3, 20] (fun v' i wr => ∃ k : Nat, k ≤ N ∧ i = .int .i64 (k : Int) ∧ wr.ownsRow w.heap.size 28 4 v' (k + 1) (pageCells (pagesTo m k)) ∧ wr.ownsRow 0 25 1 (.slice ka N kc) N ((keysU m.has).map encU) ∧ Kept No w wr) (fun _ i _ => N - (intOf i).toNat)
  case atStart => exact ⟨0, by omega, rfl, HROW4.out, HKEYS.out, KK4.out⟩
  case round =>
    obtain ⟨k, hk, rfl, hrow, hkr, hkw⟩ := hrel
    have HROW := Lib.hid hrow
    have HKR := Lib.hid hkr
    have HKW := Lib.hid hkw
    obtain ⟨pa, pc, rfl⟩ := row_slice hrow
    clear hrow hkr hkw
    by_cases hlt : k < N
    · have hlt' : k < m.has.length := by rw [HN.out]; exact hlt
      obtain ⟨g, cap, hv, hcell⟩ := keys_cell HKR.out HN.out.symm k hlt
      injection hv with hv1 hv2 hv3
      subst hv1
      subst hv3
      have hget := getC_get m.has HD.out.rise k hlt'
      have hokk := HD.out.ok _ (List.getElem_mem hlt')
      have hsucc := pagesTo_succ m k hlt'
      generalize hx : m.has[k] = x at *
      obtain ⟨num, kind, body⟩ := x
      simp only at hcell hget hokk hsucc
      have hB := H.out.no HKW.out
      have c10 := (cell_of_row wr b 10 _ _ _ hB.head).trans rfl
      have hlk : ∀ q, (Instr.lookup 91 (.map (some hm)) (.int .u32 (num : Int)) false).run Tryz.prog (wr.drewN q) = .ok (.agg #[.int .u8 (kind.toNat : Int), .string ⟨⟨body⟩⟩]) (wr.drewN q) := fun q => look_cont (HD.out.kept (HKW.out.drewN q) (fun h => h)) num (by omega) _ hget
      have HS := Lib.hid hsucc
      have HNUM : Hid (num < 4294967296) := Lib.hid (by omega)
      obtain ⟨i0, hi, hz0, hz1, hz2⟩ := info_parts Tryz.infoPg
      have hszw := HKW.out.size
      have hrn : ((wr.drew).alloc (.cells #[.int .u8 (kind.toNat : Int), .int .u32 (num : Int), .int .u64 0, .string ⟨⟨body⟩⟩] 28)).ownsRow w.heap.size 28 4 (.slice pa (k + 1) pc) (k + 1) (pageCells (pagesTo m k)) := (((Kept.refl No wr).drew).alloc _).row HROW.out (fun _ _ h => h)
      have HRN := Lib.hid hrn
      have hnew : (∀ j u, [.int .u8 (kind.toNat : Int), .int .u32 (num : Int), .int .u64 0, .string ⟨⟨body⟩⟩][j]? = some u → ((wr.drew).alloc (.cells #[.int .u8 (kind.toNat : Int), .int .u32 (num : Int), .int .u64 0, .string ⟨⟨body⟩⟩] 28)).cell? ((⟨wr.heap.size, 0, none⟩ : Addr).add j) = some u) := World.news_of_block (heap_alloc_new wr.drew _)
      obtain ⟨v2, w5, hrun, hown', hgrow, -, hloc⟩ := run_append_own_at (P := Tryz.prog) _ w.heap.size 98 98 28 i0 _ 4 32 Tryz.underlying98 hi hz0 hz1 hz2 rfl (by decide) _ (k + 1) (pageCells (pagesTo m k)) hrn ⟨wr.heap.size, 0, none⟩ 1 1 [.int .u8 (kind.toNat : Int), .int .u32 (num : Int), .int .u64 0, .string ⟨⟨body⟩⟩] rfl hnew (by simp [Value.oneCell']) (by unfold maxLen; omega) (by omega) (by simp; omega)
      have HO := Lib.hid hown'
      have HG := Lib.hid hgrow
      have HRUN := Lib.hid hrun
      have hk2 : Kept No w w5 := (((HKW.out.drew).alloc _)).next (Kept.of_grown hgrow) (fun j hj e => by
        rcases hrn.2 with ⟨h, _⟩ | ⟨g2, _, _, h, hb, _⟩
        · rw [h] at e; cases e
        · rw [h] at e
          have : j = g2 := by simpa [Value.ownBlock] using e.symm
          omega)
      have kd1 : Kept No w wr.drew := HKW.out.drew
      have kd2 : Kept No w ((wr.drew).alloc (.cells #[.int .u8 (kind.toNat : Int), .int .u32 (num : Int), .int .u64 0, .string ⟨⟨body⟩⟩] 28)) := HKW.out.drew.alloc _
      obtain ⟨wa, hwa⟩ : ∃ wa, wa = wr.drew := ⟨_, rfl⟩
      obtain ⟨wb, hwb⟩ : ∃ wb, wb = ((wr.drew).alloc (.cells #[.int .u8 (kind.toNat : Int), .int .u32 (num : Int), .int .u64 0, .string ⟨⟨body⟩⟩] 28)) := ⟨_, rfl⟩
      have HWA := Lib.hid hwa
      have HWB := Lib.hid hwb
      rw [← hwa] at kd1
      rw [← hwb] at kd2
      clear hwa hwb
      have hcall : ∀ p : InC (fun w' => ∃ b, ThreeD wa wb w5 b w'), Kept No w p.world := three_all kd1 kd2 hk2
      have hne := three_some wa wb w5
      have hcb : ∀ p : InC (fun w' => ∃ b, ThreeD wa wb w5 b w'), p.world.cell? ⟨b, 10, none⟩ = some (.map (some hm)) := fun p => (cell_of_row _ b 10 _ _ _ (H.out.no (hcall p)).head).trans rfl
      have hlk : ∀ p : InC (fun w' => ∃ b, ThreeD wa wb w5 b w'), (Instr.lookup 91 (.map (some hm)) (.int .u32 (num : Int)) false).run Tryz.prog p.world = .ok (.agg #[.int .u8 (kind.toNat : Int), .string ⟨⟨body⟩⟩]) p.world := fun p => look_cont (HD.out.kept (hcall p) (fun h => h)) num (by omega) _ hget
      have hfd0 : ∀ w, (Instr.field 95 (.agg #[.int .u8 (kind.toNat : Int), .string ⟨⟨body⟩⟩]) 0).run Tryz.prog w = .ok (.int .u8 (kind.toNat : Int)) w := fun _ => by kernel_rfl
      have hfd1 : ∀ w, (Instr.field 95 (.agg #[.int .u8 (kind.toNat : Int), .string ⟨⟨body⟩⟩]) 1).run Tryz.prog w = .ok (.string ⟨⟨body⟩⟩) w := fun _ => by kernel_rfl
      have HK2 := Lib.hid hk2
      clear hget hokk hsucc hx hB hlt' hrn hnew hrun hown' hgrow hk2 kd1 kd2 hcall
      go_wp2_with fail
      refine wp_region_C [17, 18] (ThreeD wa wb w5) (by kernel_rfl) (by kernel_rfl) HWA.out.symm ?_
      iterate 2 (refine wpC_quiet (by rfl) (by rfl) (by rfl) ?_; intro K hK; go_big_quiet_op; go_big_quiet_on)
      refine wpC_nilCheck (by rfl) (by rfl) _ (by rfl) ⟨b, 0, none⟩ (by rfl) ?_; simp only [Act.put, List.setIfInBounds_toArray, List.set_cons_succ, List.set_cons_zero]
      iterate 7 (refine wpC_quiet (by rfl) (by rfl) (by rfl) ?_; intro K hK; go_big_quiet_op; go_big_quiet_on)
      refine wpC_nilCheck (by rfl) (by rfl) _ (by rfl) ⟨b, 0, none⟩ (by rfl) ?_; simp only [Act.put, List.setIfInBounds_toArray, List.set_cons_succ, List.set_cons_zero]
      iterate 6 (refine wpC_quiet (by rfl) (by rfl) (by rfl) ?_; intro K hK; go_big_quiet_op; go_big_quiet_on)
      refine wpC_special (by rfl) (.slice (some ⟨wr.heap.size, 0, none⟩) 1 1) (three_one (by decide) (by rw [HWA.out, HWB.out]; go_simp)) ?_
      simp only [Act.put, List.setIfInBounds_toArray, List.set_cons_succ, List.set_cons_zero]
      refine wpC_special (by rfl) v2 (three_two (by decide) (by rfl) (by kernel_rfl) (by rw [HWB.out]; exact exec_append _ _ (by rfl) (by rfl) (by rfl) HRUN.out)) ?_
      simp only [Act.put, List.setIfInBounds_toArray, List.set_cons_succ, List.set_cons_zero]
      refine wpC_quiet (by rfl) (by rfl) (by rfl) ?_; intro K hK; go_big_quiet_op; go_big_quiet_on
      refine wpC_nil ?_
      intro w8 hw8
      have hw8 : w8 = w5 := hw8
      subst hw8
      go_wp2_with fail
      refine ⟨⟨k + 1, by omega, by first | rfl | go_num, ?_, ?_, HK2.out⟩, by simp [intOf]; omega⟩
      · rw [HS.out, pageCells_snoc]
        exact HO.out
      · have hkr := ((((Kept.refl No wr).drew).alloc (.cells #[.int .u8 (kind.toNat : Int), .int .u32 (num : Int), .int .u64 0, .string ⟨⟨body⟩⟩] 28)).row HKR.out (fun _ _ h => h))
        refine (Kept.of_grown HG.out).row hkr (fun g3 hg3 e => ?_)
        obtain ⟨cs, hc⟩ := row_cells hkr hg3
        obtain ⟨cs', hc'⟩ := row_cells HRN.out e
        exact cells_ne hc hc' (by decide) rfl
    · obtain rfl : k = N := by omega
      go_wp2_with fail
      go_ret
      have hN := HN.out
      have hall := pagesTo_all m
      rw [hN] at hall
      refine ⟨_, rfl, HKW.out, ⟨?_, fun p hp => ?_, ?_⟩, fun g hg => ?_⟩
      · have h1 := HROW.out
        rw [hall] at h1
        have hl : m.pages.length = k + 1 := by rw [← hall, pagesTo_len m k (by omega)]
        rw [hl]
        refine ⟨h1.1, ?_⟩
        rcases h1.2 with h | ⟨g, cap, cur, hv, hb, r⟩
        · exact .inl h
        · exact .inr ⟨g, cap, cur, hv, Nat.zero_le _, r⟩
      · unfold BtM.pages at hp
        rcases List.mem_cons.1 hp with rfl | hp
        · exact head_ok _ H.out.held.ok.most
        · obtain ⟨x, hx, rfl⟩ := List.mem_map.1 hp
          obtain ⟨q1, q2⟩ := HD.out.ok x hx
          exact ⟨by show x.1 < 4294967296; omega, by show 0 < 18446744073709551616; decide, by show x.2.2.length < 4611686018427387904; omega⟩
      · rw [← hall, pagesTo_len m k (by omega)]; omega
      · rcases HROW.out.2 with ⟨h, _⟩ | ⟨g2, _, _, h, hb, _⟩
        · rw [h] at hg; cases hg
        · rw [h] at hg
          have : g2 = g := by simpa [Value.ownBlock] using hg
          omega
end Go.Proofs.YtabhieafjkaocaaGreat
namespace Go.Proofs.YtabhieafjkaocaaGreat
open Go.RowKit Go.Lib Go.Maps Go.MapKept Go.ChangeMaps Bm
set_option maxRecDepth 20000
def BtM.drop (m : BtM) : BtM := ⟨m.held, [], m.changed, true⟩
theorem HasAt.cleared {w' : World} {hm : Nat} {clock : Nat} (h : w'.heap[hm]? = some (.map #[] clock)) : HasAt w' hm [] (.map []) :=
  ⟨⟨#[], clock, h, ⟨by simp, stamped_empty clock, by simp⟩, by simp, rfl⟩, List.Pairwise.nil, rfl, fun k => rfl, fun k c h => by simp [getC] at h, by simp, fun z h => by simp [Maps.has] at h⟩
theorem drop_ok (b s u : Nat) (v : Value) (hm : Nat) (m : BtM) (w : World) (h : BtAt w b s u v hm m) :
    Calls Tryz.prog 13 #[.pointer (some ⟨b, 0, none⟩)] w fun e w' => e = .returned (.tuple #[]) ∧ Kept (fun k => k = b ∨ k = hm) w w' ∧ BtAt w' b s u v hm m.drop := by
  have c10 := (cell_of_row w b 10 _ _ _ h.head).trans rfl
  have c12 := (cell_of_row w b 12 _ _ _ h.head).trans rfl
  have f12 := frozen_of_row w b 12 _ _ h.head
  obtain ⟨ap1, ap2, ap3, ap4, ap5, ap6⟩ := h.apart
  obtain ⟨D, hD⟩ := h.has
  obtain ⟨es, clock, hb, -⟩ := hD.own
  have k1 : Kept (fun j => j = b ∨ j = hm) w (w.setCell ⟨b, 12, none⟩ (.bool true)) := (Kept.refl _ _).setCell _ _ (fun _ => .inl rfl)
  have hb1 : (w.setCell ⟨b, 12, none⟩ (.bool true)).heap[hm]? = some (.map es clock) := ((Kept.refl (fun k => k = b) w).setCell ⟨b, 12, none⟩ (.bool true) (fun _ => rfl)).heap hb (fun e => ap3 e.symm)
  have hcl := fun ty => run_clear_map (P := Tryz.prog) Tryz.underlying91 hb1 ty
  have hh1 := heap_setCell_same w b 12 _ _ (.bool true) h.head
  simp only [List.setIfInBounds_toArray, List.set_cons_succ, List.set_cons_zero] at hh1
  have d10 := (cell_of_row _ b 10 _ _ _ hh1).trans rfl
  have H := Lib.hid h
  have HH1 := Lib.hid hh1
  have HB1 := Lib.hid hb1
  clear h hD hh1
  go_enter Tryz.func13, Tryz.ntmps13
  go_wp2_with (simp only [hcl])
  go_end0
  have k2 := k1.setBlock HB1.out (.map #[] clock) (fun _ => .inr rfl)
  refine ⟨rfl, k2, ?_, H.out.held.kept k2 (fun e => e.elim ap1 ap2) (fun g hg e => e.elim (fun e => ap5 (e ▸ hg)) (fun e => ap6 (e ▸ hg))), _, HasAt.cleared (heap_setBlock_same HB1.out _)⟩
  rw [heap_setBlock_other HB1.out _ (fun e => ap3 e)]
  exact HH1.out
def commitW (st : StM) (m : BtM) (dm : DiskM) : DiskM × Int :=
  let a := putM dm 0 (st.count : Int) st.next m.pages
  if a.2 ≠ 0 then a else homeW st.count st.next m.pages a.1
def commitM (st : StM) (m : BtM) (dm : DiskM) : StM × BtM × DiskM × Int :=
  if m.ended then (st, m, dm, 5)
  else if room (st.count : Int) < m.size then (st, m, dm, 60)
  else if m.changed = false then (st, m.drop, dm, 0)
  else if (commitW st m dm).2 ≠ 0 then ({ st with dead := true }, { m with ended := true }, (commitW st m dm).1, (commitW st m dm).2)
  else ({ st with now := m.held, serial := st.next, next := st.next + 1 }, { m with ended := true }, (commitW st m dm).1, 0)
theorem fit_pages {w : World} {hm : Nat} {m : BtM} {D : DataW Unit} {cnt : Nat} (h : HasAt w hm m.has D) (ho : m.held.Ok) (hp : ∀ y ∈ m.has, 0 < y.1) (hr : m.pages.length ≤ room (cnt : Int)) : Fit cnt m.pages := by
  refine ⟨by simp [BtM.pages], hr, fun i hi => ?_, fun p hp' => ?_⟩
  · cases i with
    | zero =>
      have hl : 0 < m.has.length := by simpa [BtM.pages] using hi
      show (0 : Nat) < (m.pages[1]).number
      have : m.pages[1] = ⟨(m.has[0]).2.1, (m.has[0]).1, 0, (m.has[0]).2.2⟩ := by simp [BtM.pages]
      rw [this]
      exact hp _ (List.getElem_mem hl)
    | succ i =>
      have hl : i + 1 < m.has.length := by simpa [BtM.pages] using hi
      have e1 : m.pages[i + 1] = ⟨(m.has[i]).2.1, (m.has[i]).1, 0, (m.has[i]).2.2⟩ := by simp [BtM.pages]
      have e2 : m.pages[i + 1 + 1] = ⟨(m.has[i + 1]).2.1, (m.has[i + 1]).1, 0, (m.has[i + 1]).2.2⟩ := by simp [BtM.pages]
      rw [e1, e2]
      have h1 : (m.has.map fun x => x.1).Pairwise (· < ·) := h.rise
      have := List.pairwise_iff_getElem.1 h1 i (i + 1) (by simp; omega) (by simp; omega) (by omega)
      simpa using this
  · unfold BtM.pages at hp'
    rcases List.mem_cons.1 hp' with rfl | hp'
    · exact page_fits _ ho.most
    · obtain ⟨y, hy, rfl⟩ := List.mem_map.1 hp'
      exact (h.ok y hy).2
set_option maxHeartbeats 4000000 in
theorem commit_ok (b s u us hm : Nat) (v vs bp : Value) (x : DiskH) (st : StM) (dm : DiskM) (m : BtM) (w : World) (hb : BtAt w b s u v hm m) (hs : StAt w s x.d us vs bp st) (hx : DiskAt w x dm) (hme : m.ended = false) (hpos : ∀ y ∈ m.has, 0 < y.1) (hf : ¬ x.foot hm)
    (hser : st.next < 4611686018427387904) (hpl : dm.pend.length < 100000) (hcn : st.count ≤ dm.lies.length) :
    Calls Tryz.prog 24 #[.pointer (some ⟨b, 0, none⟩)] w fun e w' => ∃ (x' : DiskH) (u' : Nat) (v' : Value), e = .returned (.int .i64 (commitM st m dm).2.2.2) ∧ Kept (fun k => x.foot k ∨ k = s ∨ k = b ∨ k = hm) w w' ∧
      DiskAt w' x' (commitM st m dm).2.2.1 ∧ x'.d = x.d ∧ (∀ g, x'.foot g → x.foot g ∨ w.heap.size ≤ g) ∧ StAt w' s x.d u' v' bp (commitM st m dm).1 ∧ BtAt w' b s u v hm (commitM st m dm).2.1 ∧ ((u' = us ∧ v' = vs) ∨ (u' = u ∧ v' = v)) := by
  have HB := Lib.hid hb
  have HS := Lib.hid hs
  have HX := Lib.hid hx
  have HO := Lib.hid (open_ok b s u v hm m w hb)
  have hlen := hb.len
  have hcnt := hs.count
  have c0 := (cell_of_row w b 0 _ _ _ hb.head).trans rfl
  have sc1 := (cell_of_row w s 1 _ _ _ hs.head).trans rfl
  have hsz := fun q => size_ok b s u v hm m (w.drewN q) (HB.out.no ((Kept.refl No w).drewN q))
  have hrm := fun q => room_ok st.count (w.drewN q) (by omega)
  have hszm : m.size ≤ 4097 := by unfold BtM.size; split <;> omega
  have HE := Lib.hid hme
  clear hb hs hx hme
  generalize hC : commitM st m dm = C
  have HC := Lib.hid hC
  clear hC
  have hrl : room (st.count : Int) ≤ 198 := by unfold room; omega
  generalize hSZ : m.size = SZ at *
  generalize hRM : room (st.count : Int) = RM at *
  have HSZ := Lib.hid hSZ
  have HRM := Lib.hid hRM
  clear hSZ hRM
  by_cases hbig : RM < SZ
  · have e1 : C = (st, m, dm, 60) := by rw [← HC.out]; unfold commitM; rw [if_neg (by simp [HE.out]), if_pos (by rw [HRM.out, HSZ.out]; exact hbig)]
    subst e1
    have hd : decide ((RM : Int) < (SZ : Int)) = true := by simp; omega
    clear HC
    go_enter Tryz.func24, Tryz.ntmps24
    go_wp2_with (go_at_call 43; refine HO.out.mono ?_; rintro e w' ⟨rfl, rfl⟩; rw [show (if m.ended = true then (5 : Int) else 0) = 0 from by rw [HE.out]; rfl])
    go_quiet (first | (go_at_call 20; exact quiet (hsz _)) | (go_at_call 57; exact quiet (hrm _)))
    go_wp2
    go_ret
    have k := (Kept.refl (fun k => x.foot k ∨ k = s ∨ k = b ∨ k = hm) w).drewN nq
    exact ⟨x, us, vs, rfl, k, HX.out.kept ((Kept.refl No w).drewN nq) (fun _ _ h => h), rfl, fun _ h => .inl h, HS.out.no ((Kept.refl No w).drewN nq), HB.out.no ((Kept.refl No w).drewN nq), .inl ⟨rfl, rfl⟩⟩
  have hd : decide ((RM : Int) < (SZ : Int)) = false := by simp; omega
  have HNB : Hid (¬ RM < SZ) := Lib.hid hbig
  clear hbig
  have c11 := (cell_of_row w b 11 _ _ _ HB.out.head).trans rfl
  by_cases hch : m.changed = false
  · have e1 : C = (st, m.drop, dm, 0) := by rw [← HC.out]; unfold commitM; rw [if_neg (by simp [HE.out]), if_neg (by rw [HRM.out, HSZ.out]; exact HNB.out), if_pos hch]
    subst e1
    rw [hch] at c11
    have hdr := fun q => drop_ok b s u v hm m (w.drewN q) (HB.out.no ((Kept.refl No w).drewN q))
    clear HC hch
    go_enter Tryz.func24, Tryz.ntmps24
    go_wp2_with (go_at_call 43; refine HO.out.mono ?_; rintro e w' ⟨rfl, rfl⟩; rw [show (if m.ended = true then (5 : Int) else 0) = 0 from by rw [HE.out]; rfl])
    go_quiet (first | (go_at_call 20; exact quiet (hsz _)) | (go_at_call 57; exact quiet (hrm _)))
    go_wp2_with (go_at_call 13; refine (hdr _).mono ?_; rintro e w1 ⟨rfl, k1, hb1⟩)
    go_ret
    have kq : Kept No w (w.drewN nq) := (Kept.refl No w).drewN nq
    have hsn := HS.out.no kq
    have hn1 : s ≠ b := cells_ne HS.out.head HB.out.head (by decide)
    obtain ⟨D, hD⟩ := HB.out.has
    obtain ⟨es, clock, hmb, -⟩ := hD.own
    have hn2 : s ≠ hm := map_ne HS.out.head hmb
    have hn3 : us ≠ b := cells_ne HS.out.held.set.head HB.out.head (by decide)
    have hn4 : us ≠ hm := map_ne HS.out.held.set.head hmb
    have hn5 : ∀ g, vs.ownBlock = some g → g ≠ b ∧ g ≠ hm := fun g hg => by
      obtain ⟨cs, hc⟩ := row_cells HS.out.held.set.row hg
      exact ⟨cells_ne hc HB.out.head (by decide), map_ne hc hmb⟩
    have hfb : ¬ x.foot b := HX.out.not_foot HB.out.head (by decide) (by decide) (by decide)
    refine ⟨x, us, vs, rfl, (kq.of_no _).trans (k1.mono fun k _ e => e.elim (fun e => .inr (.inr (.inl e))) (fun e => .inr (.inr (.inr e)))), (HX.out.kept kq (fun _ _ h => h)).kept k1 (fun g hg e => e.elim (fun e => hfb (e ▸ hg)) (fun e => hf (e ▸ hg))), rfl, fun _ h => .inl h, hsn.kept k1 (fun e => e.elim hn1 hn2) (fun e => e.elim hn3 hn4) (fun g hg e => e.elim (hn5 g hg).1 (hn5 g hg).2), hb1, .inl ⟨rfl, rfl⟩⟩
  have hch' : m.changed = true := by simpa using hch
  rw [hch'] at c11
  have hpl1 : m.pages.length ≤ RM := by
    have h1 := HSZ.out
    unfold BtM.size at h1
    rw [if_neg (by simp [HE.out, hch'])] at h1
    have := HNB.out
    simp [BtM.pages]; omega
  have e1 : C = if (commitW st m dm).2 ≠ 0 then ({ st with dead := true }, { m with ended := true }, (commitW st m dm).1, (commitW st m dm).2) else ({ st with now := m.held, serial := st.next, next := st.next + 1 }, { m with ended := true }, (commitW st m dm).1, 0) := by
    rw [← HC.out]; unfold commitM; rw [if_neg (by simp [HE.out]), if_neg (by rw [HRM.out, HSZ.out]; exact HNB.out), if_neg hch]
  have HC1 := Lib.hid e1
  obtain ⟨D, hD⟩ := HB.out.has
  have HFIT := Lib.hid (fit_pages (cnt := st.count) hD HB.out.held.ok hpos (by rw [HRM.out]; exact hpl1))
  obtain ⟨es, clock, hmb, -⟩ := hD.own
  have hn1 : s ≠ b := cells_ne HS.out.head HB.out.head (by decide)
  have hfb : ¬ x.foot b := HX.out.not_foot HB.out.head (by decide) (by decide) (by decide)
  have hpgs := fun q => bpages_ok b s u v hm m (w.drewN q) (HB.out.no ((Kept.refl No w).drewN q))
  have HPL1 := Lib.hid hpl1
  clear HC hch hch' e1 hD hpl1
  go_enter Tryz.func24, Tryz.ntmps24
  go_wp2_with (go_at_call 43; refine HO.out.mono ?_; rintro e w' ⟨rfl, rfl⟩; rw [show (if m.ended = true then (5 : Int) else 0) = 0 from by rw [HE.out]; rfl])
  go_quiet (first | (go_at_call 20; exact quiet (hsz _)) | (go_at_call 57; exact quiet (hrm _)))
  go_wp2_with (go_at_call 58; refine (hpgs _).mono ?_; rintro e w1 ⟨pv, rfl, k1, hpg, hnew⟩; have K1 := Lib.hid (((Kept.refl No w).drewN nq).trans k1); have HPG := Lib.hid hpg; have HNEW := Lib.hid hnew; have f12 := frozen_of_row w1 b 12 _ _ (HB.out.no K1.out).head; have d12 := (cell_of_row w1 b 12 _ _ _ (HB.out.no K1.out).head).trans rfl; clear k1 hpg hnew)
  have hB1 := HB.out.no K1.out
  have k2 : Kept (fun k => k = b) w1 (w1.setCell ⟨b, 12, none⟩ (.bool true)) := (Kept.refl _ _).setCell _ _ (fun _ => rfl)
  have hh2 := heap_setCell_same w1 b 12 _ _ (.bool true) hB1.head
  simp only [List.setIfInBounds_toArray, List.set_cons_succ, List.set_cons_zero] at hh2
  obtain ⟨ap1, ap2, ap3, ap4, ap5, ap6⟩ := hB1.apart
  have hB2 : BtAt (w1.setCell ⟨b, 12, none⟩ (.bool true)) b s u v hm { m with ended := true } := ⟨hh2, hB1.held.kept k2 ap1 (fun g hg e => ap5 (e ▸ hg)), hB1.has.imp fun D hD => hD.kept k2 (fun e => ap3 e.symm)⟩
  have hS1 := HS.out.no K1.out
  have hus : us ≠ b := cells_ne hS1.held.set.head hB1.head (by decide)
  have hvs : ∀ g, vs.ownBlock = some g → g ≠ b := fun g hg => by
    obtain ⟨cs, hc⟩ := row_cells hS1.held.set.row hg
    exact cells_ne hc hB1.head (by decide)
  have hS2 := hS1.kept k2 hn1 hus hvs
  have hX1 := HX.out.kept K1.out (fun _ _ h => h)
  have hX2 := hX1.kept k2 (fun g hg e => hfb (e ▸ hg))
  have hpvb : ∀ g, pv.ownBlock = some g → g ≠ b ∧ ¬ x.foot g := fun g hg => by
    have h1 := HNEW.out g hg
    simp only [World.drewN] at h1
    have h2 := lt_of_heap HB.out.head
    exact ⟨by omega, fun hf => by have := HX.out.foot_lt hf; omega⟩
  have hPG2 := HPG.out.kept k2 (fun g hg => (hpvb g hg).1)
  have K2 : Hid (Kept (fun k => k = b) w (w1.setCell ⟨b, 12, none⟩ (.bool true))) := Lib.hid ((K1.out.of_no _).trans k2)
  generalize w1.setCell ⟨b, 12, none⟩ (.bool true) = w2 at *
  have sc0 := (cell_of_row w2 s 0 _ _ _ hS2.head).trans rfl
  have sc1 := (cell_of_row w2 s 1 _ _ _ hS2.head).trans rfl
  have sc12 := (cell_of_row w2 s 12 _ _ _ hS2.head).trans rfl
  have kd : Kept No w2 w2.drew := (Kept.refl _ _).drew
  have hput := put_ok2 x dm 0 st.count st.next pv m.pages w2.drew (hX2.kept kd (fun _ _ h => h)) (hPG2.kept kd (fun _ _ h => h)) HFIT.out (by have := HS.out.next; omega) (by omega) (by omega) (by omega) (by have := HPL1.out; have := HRM.out; unfold room at this; omega) (by omega) (fun g hg => (hpvb g hg).2)
  have HPUT := Lib.hid hput
  have HB2 := Lib.hid (hB2.no kd)
  have HS2 := Lib.hid (hS2.no kd)
  have HPG2 := Lib.hid (hPG2.kept kd (fun _ _ h => h))
  have HX2 := Lib.hid (hX2.kept kd (fun _ _ h => h))
  have K2d : Hid (Kept (fun k => k = b) w w2.drew) := Lib.hid (K2.out.trans (kd.of_no _))
  have HPV := Lib.hid hpvb
  have HAP := Lib.hid hB2.apart
  clear hB1 k2 hh2 ap1 ap2 ap3 ap4 ap5 ap6 hB2 hS1 hus hvs hS2 hX1 hX2 hpvb hPG2 K2 hput kd K1 HPG hpgs hsz hrm f12 d12
  go_still_tail 13, (by kernel_rfl)
  repeat still_step
  change wpList _ _ _ _ _ w2.drew
  go_wp2_with fail
  refine HPUT.out.mono ?_
  rintro e w3 ⟨x3, rfl, k3, hd3, hs3, hf3⟩
  have hfs : ¬ x.foot s := HX2.out.not_foot HS2.out.head (by decide) (by decide) (by decide)
  have hfu : ∀ (a : Nat), (∃ cs, w2.drew.heap[a]? = some (.cells cs 143 (0, 0))) → ¬ x.foot a := fun a ⟨cs, h⟩ => HX2.out.not_foot h (by decide) (by decide) (by decide)
  have hS3 := HS2.out.kept k3 hfs (hfu _ ⟨_, HS2.out.held.set.head⟩) (HX2.out.not_row HS2.out.held.set.row (by decide) (by decide) (by decide))
  have hB3 := HB2.out.kept k3 hfb (hfu _ ⟨_, HB2.out.held.set.head⟩) (HX2.out.not_row HB2.out.held.set.row (by decide) (by decide) (by decide)) hf
  have HS3 := Lib.hid hS3
  have HB3 := Lib.hid hB3
  have HPG3 := Lib.hid (HPG2.out.kept k3 (fun g hg => (HPV.out g hg).2))
  have HX3 := Lib.hid hd3
  have K3 := Lib.hid (((K2d.out.mono (N := fun k => x.foot k ∨ k = s ∨ k = b ∨ k = hm) fun k _ e => .inr (.inr (.inl e)))).trans (k3.mono fun k _ e => .inl e))
  have hsz3 := K2d.out.size
  have HF3 := Lib.hid (show ∀ g, x3.foot g → x.foot g ∨ w.heap.size ≤ g from fun g hg => (hf3 g hg).imp id (fun e => by omega))
  have HSD3 := Lib.hid hs3
  have hC1 := HC1.out
  have hcw : commitW st m dm = if (putM dm 0 (st.count : Int) st.next m.pages).2 ≠ 0 then putM dm 0 (st.count : Int) st.next m.pages else homeW st.count st.next m.pages (putM dm 0 (st.count : Int) st.next m.pages).1 := rfl
  have hdone := putM_done dm 0 (st.count : Int) st.next m.pages
  have hplen := putM_len dm 0 (st.count : Int) st.next m.pages
  rw [hcw] at hC1
  have HC2 := Lib.hid hC1
  have HDN := Lib.hid hdone
  clear hS3 hB3 hd3 hf3 hs3 k3 hsz3 hC1 hcw hdone hfs hfu HPUT HC1 sc0 sc1 sc12 HS2 HB2 HX2 HPG2 K2d
  generalize putM dm 0 (st.count : Int) st.next m.pages = pm at *
  have sf13 := frozen_of_row w3 s 13 _ _ HS3.out.head
  have sd13 := (cell_of_row w3 s 13 _ _ _ HS3.out.head).trans rfl
  by_cases hz : pm.2 = 0
  · have hz1 : (pm.2 != 0) = false := by simp [hz]
    have hz2 : (pm.2 == 0) = true := by simp [hz]
    have sc12 := (cell_of_row w3 s 12 _ _ _ HS3.out.head).trans rfl
    have hpend := (HDN.out hz).2
    go_wp2_with fail
    refine (home_ok s st.count x3 pm.1 st.next pv m.pages w3 (HSD3.out ▸ HS3.out.sd) HX3.out HPG3.out (by simp [BtM.pages]) HFIT.out.body (by omega) (by rw [hpend]; have := HPL1.out; simp only [List.length_nil]; omega)).mono ?_
    rintro e w4 ⟨x4, rfl, k4, hd4, hs4, hf4⟩
    have hfs : ¬ x3.foot s := HX3.out.not_foot HS3.out.head (by decide) (by decide) (by decide)
    have hfb3 : ¬ x3.foot b := HX3.out.not_foot HB3.out.head (by decide) (by decide) (by decide)
    have hfh : ¬ x3.foot hm := fun h => (HF3.out hm h).elim hf (fun h2 => by
      have := lt_of_heap hmb
      omega)
    have hfu : ∀ (a : Nat), (∃ cs, w3.heap[a]? = some (.cells cs 143 (0, 0))) → ¬ x3.foot a := fun a ⟨cs, h⟩ => HX3.out.not_foot h (by decide) (by decide) (by decide)
    have hS4 := HS3.out.kept k4 hfs (hfu _ ⟨_, HS3.out.held.set.head⟩) (HX3.out.not_row HS3.out.held.set.row (by decide) (by decide) (by decide))
    have hB4 := HB3.out.kept k4 hfb3 (hfu _ ⟨_, HB3.out.held.set.head⟩) (HX3.out.not_row HB3.out.held.set.row (by decide) (by decide) (by decide)) hfh
    have HS4 := Lib.hid hS4
    have HB4 := Lib.hid hB4
    have HX4 := Lib.hid hd4
    have hsz3 := K3.out.size
    have K4 : Hid (Kept (fun k => x.foot k ∨ k = s ∨ k = b ∨ k = hm) w w4) := Lib.hid (K3.out.next k4 (fun k hk e => (HF3.out k e).elim .inl (fun h => absurd h (by omega))))
    have HF4 := Lib.hid (show ∀ g, x4.foot g → x.foot g ∨ w.heap.size ≤ g from fun g hg => (hf4 g hg).elim (HF3.out g) (fun e => .inr (by omega)))
    have HSD4 := Lib.hid (hs4.trans HSD3.out)
    have hC1 := HC2.out
    rw [if_neg (show ¬ pm.2 ≠ 0 from by simp [hz])] at hC1
    have HC3 := Lib.hid hC1
    clear hS4 hB4 hd4 hf4 hs4 k4 hsz3 hC1 hfs hfu hfh hfb3 HS3 HB3 HX3 HPG3 K3 HF3 HSD3 HC2 HDN sc12 hpend sf13 sd13 hplen
    generalize homeW st.count st.next m.pages pm.1 = hw at *
    have sf13 := frozen_of_row w4 s 13 _ _ HS4.out.head
    have sd13 := (cell_of_row w4 s 13 _ _ _ HS4.out.head).trans rfl
    by_cases hy : hw.2 = 0
    · have hy1 : (hw.2 != 0) = false := by simp [hy]
      have hy2 : (hw.2 == 0) = true := by simp [hy]
      have hC := HC3.out
      rw [if_neg (show ¬ hw.2 ≠ 0 from by simp [hy])] at hC
      have HCF := Lib.hid hC
      have sc12 := (cell_of_row w4 s 12 _ _ _ HS4.out.head).trans rfl
      have h5 : (w4.setRow s (over #[dev x.d, .int .i64 (st.count : Int), .pointer (some ⟨us, 0, none⟩), .int .u32 (st.now.root.a : Int), .int .u32 (st.now.root.b : Int), .int .u32 (st.now.root.c : Int), .int .u32 (st.now.root.d : Int), .int .u32 (st.now.root.e : Int), .int .u32 (st.now.root.f : Int), .int .u32 (st.now.root.g : Int), .int .u32 (st.now.root.h : Int), .int .u64 (st.serial : Int), .int .u64 (st.next : Int), .bool st.dead, bp] 2 [.pointer (some ⟨u, 0, none⟩), .int .u32 (m.held.root.a : Int), .int .u32 (m.held.root.b : Int), .int .u32 (m.held.root.c : Int), .int .u32 (m.held.root.d : Int), .int .u32 (m.held.root.e : Int), .int .u32 (m.held.root.f : Int), .int .u32 (m.held.root.g : Int), .int .u32 (m.held.root.h : Int)])).heap[s]? = some (.cells (over #[dev x.d, .int .i64 (st.count : Int), .pointer (some ⟨us, 0, none⟩), .int .u32 (st.now.root.a : Int), .int .u32 (st.now.root.b : Int), .int .u32 (st.now.root.c : Int), .int .u32 (st.now.root.d : Int), .int .u32 (st.now.root.e : Int), .int .u32 (st.now.root.f : Int), .int .u32 (st.now.root.g : Int), .int .u32 (st.now.root.h : Int), .int .u64 (st.serial : Int), .int .u64 (st.next : Int), .bool st.dead, bp] 2 [.pointer (some ⟨u, 0, none⟩), .int .u32 (m.held.root.a : Int), .int .u32 (m.held.root.b : Int), .int .u32 (m.held.root.c : Int), .int .u32 (m.held.root.d : Int), .int .u32 (m.held.root.e : Int), .int .u32 (m.held.root.f : Int), .int .u32 (m.held.root.g : Int), .int .u32 (m.held.root.h : Int)]) 90 (0, 0)) := setRow_heap _ _ _ _ _ _ HS4.out.head
      have h5 : (w4.setRow s (over #[dev x.d, .int .i64 (st.count : Int), .pointer (some ⟨us, 0, none⟩), .int .u32 (st.now.root.a : Int), .int .u32 (st.now.root.b : Int), .int .u32 (st.now.root.c : Int), .int .u32 (st.now.root.d : Int), .int .u32 (st.now.root.e : Int), .int .u32 (st.now.root.f : Int), .int .u32 (st.now.root.g : Int), .int .u32 (st.now.root.h : Int), .int .u64 (st.serial : Int), .int .u64 (st.next : Int), .bool st.dead, bp] 2 [.pointer (some ⟨u, 0, none⟩), .int .u32 (m.held.root.a : Int), .int .u32 (m.held.root.b : Int), .int .u32 (m.held.root.c : Int), .int .u32 (m.held.root.d : Int), .int .u32 (m.held.root.e : Int), .int .u32 (m.held.root.f : Int), .int .u32 (m.held.root.g : Int), .int .u32 (m.held.root.h : Int)])).heap[s]? = some (.cells #[dev x.d, .int .i64 (st.count : Int), .pointer (some ⟨u, 0, none⟩), .int .u32 (m.held.root.a : Int), .int .u32 (m.held.root.b : Int), .int .u32 (m.held.root.c : Int), .int .u32 (m.held.root.d : Int), .int .u32 (m.held.root.e : Int), .int .u32 (m.held.root.f : Int), .int .u32 (m.held.root.g : Int), .int .u32 (m.held.root.h : Int), .int .u64 (st.serial : Int), .int .u64 (st.next : Int), .bool st.dead, bp] 90 (0, 0)) := h5
      have k5 : Kept (fun k => k = s) w4 (w4.setRow s (over #[dev x.d, .int .i64 (st.count : Int), .pointer (some ⟨us, 0, none⟩), .int .u32 (st.now.root.a : Int), .int .u32 (st.now.root.b : Int), .int .u32 (st.now.root.c : Int), .int .u32 (st.now.root.d : Int), .int .u32 (st.now.root.e : Int), .int .u32 (st.now.root.f : Int), .int .u32 (st.now.root.g : Int), .int .u32 (st.now.root.h : Int), .int .u64 (st.serial : Int), .int .u64 (st.next : Int), .bool st.dead, bp] 2 [.pointer (some ⟨u, 0, none⟩), .int .u32 (m.held.root.a : Int), .int .u32 (m.held.root.b : Int), .int .u32 (m.held.root.c : Int), .int .u32 (m.held.root.d : Int), .int .u32 (m.held.root.e : Int), .int .u32 (m.held.root.f : Int), .int .u32 (m.held.root.g : Int), .int .u32 (m.held.root.h : Int)])) := (Kept.refl _ _).setRow _ _ (fun _ => rfl)
      have e12 := (cell_of_row _ s 12 _ _ _ h5).trans rfl
      have e11 := (cell_of_row _ s 11 _ _ _ h5).trans rfl
      have g11 := frozen_of_row _ s 11 _ _ h5
      have g12 := frozen_of_row _ s 12 _ _ h5
      have HHB := Lib.hid HB4.out.head
      have hbp := HS4.out.bp1
      have hwn : IntKind.u64.wrap ((st.next : Int) + 1) = (st.next : Int) + 1 := by rw [IntKind.wrap_u64]; omega
      have H5 := Lib.hid h5
      have K5 := Lib.hid k5
      clear hC HC3 hy h5 k5
      go_wp2_with (first
        | (refine wpList_load_part (by rfl) 88 (.tmp 68) (by rfl) b 1 (by rfl) _ _ [.pointer (some ⟨u, 0, none⟩), .int .u32 (m.held.root.a : Int), .int .u32 (m.held.root.b : Int), .int .u32 (m.held.root.c : Int), .int .u32 (m.held.root.d : Int), .int .u32 (m.held.root.e : Int), .int .u32 (m.held.root.f : Int), .int .u32 (m.held.root.g : Int), .int .u32 (m.held.root.h : Int)] _ _ HHB.out Tryz.underlying88 (by rfl) (by exact held_size) (by exact part_of [_] [.pointer (some ⟨u, 0, none⟩), .int .u32 (m.held.root.a : Int), .int .u32 (m.held.root.b : Int), .int .u32 (m.held.root.c : Int), .int .u32 (m.held.root.d : Int), .int .u32 (m.held.root.e : Int), .int .u32 (m.held.root.f : Int), .int .u32 (m.held.root.g : Int), .int .u32 (m.held.root.h : Int)] [_, _, _]) ?_)
        | (refine wpList_store_part (by rfl) 88 (.tmp 71) (.tmp 69) (by rfl) s 2 90 #[dev x.d, .int .i64 (st.count : Int), .pointer (some ⟨us, 0, none⟩), .int .u32 (st.now.root.a : Int), .int .u32 (st.now.root.b : Int), .int .u32 (st.now.root.c : Int), .int .u32 (st.now.root.d : Int), .int .u32 (st.now.root.e : Int), .int .u32 (st.now.root.f : Int), .int .u32 (st.now.root.g : Int), .int .u32 (st.now.root.h : Int), .int .u64 (st.serial : Int), .int .u64 (st.next : Int), .bool st.dead, bp] #[.pointer (some ⟨u, 0, none⟩), .int .u32 (m.held.root.a : Int), .int .u32 (m.held.root.b : Int), .int .u32 (m.held.root.c : Int), .int .u32 (m.held.root.d : Int), .int .u32 (m.held.root.e : Int), .int .u32 (m.held.root.f : Int), .int .u32 (m.held.root.g : Int), .int .u32 (m.held.root.h : Int)] (by rfl) (by rfl) HS4.out.head (by exact held_size) (by simp) (by simp [Value.oneCell']) ?_))
      go_ret
      rw [HCF.out]
      generalize w4.setRow s (over #[dev x.d, .int .i64 (st.count : Int), .pointer (some ⟨us, 0, none⟩), .int .u32 (st.now.root.a : Int), .int .u32 (st.now.root.b : Int), .int .u32 (st.now.root.c : Int), .int .u32 (st.now.root.d : Int), .int .u32 (st.now.root.e : Int), .int .u32 (st.now.root.f : Int), .int .u32 (st.now.root.g : Int), .int .u32 (st.now.root.h : Int), .int .u64 (st.serial : Int), .int .u64 (st.next : Int), .bool st.dead, bp] 2 [.pointer (some ⟨u, 0, none⟩), .int .u32 (m.held.root.a : Int), .int .u32 (m.held.root.b : Int), .int .u32 (m.held.root.c : Int), .int .u32 (m.held.root.d : Int), .int .u32 (m.held.root.e : Int), .int .u32 (m.held.root.f : Int), .int .u32 (m.held.root.g : Int), .int .u32 (m.held.root.h : Int)]) = w5 at *
      have k6 : Kept (fun k => k = s) w4 ((w5.setCell ⟨s, 11, none⟩ (.int .u64 (st.next : Int))).setCell ⟨s, 12, none⟩ (.int .u64 ((st.next : Int) + 1))) := (K5.out.setCell _ _ (fun _ => rfl)).setCell _ _ (fun _ => rfl)
      have hh6 := heap_setCell_same _ s 12 _ _ (.int .u64 ((st.next : Int) + 1)) (heap_setCell_same w5 s 11 _ _ (.int .u64 (st.next : Int)) H5.out)
      simp only [List.setIfInBounds_toArray, List.set_cons_succ, List.set_cons_zero] at hh6
      have hfs4 : ¬ x4.foot s := HX4.out.not_foot HS4.out.head (by decide) (by decide) (by decide)
      have hub : u ≠ s := cells_ne HB4.out.held.set.head HS4.out.head (by decide)
      have hvb : ∀ g, v.ownBlock = some g → g ≠ s := fun g hg => by
        obtain ⟨cs, hc⟩ := row_cells HB4.out.held.set.row hg
        exact cells_ne hc HS4.out.head (by decide)
      have hms : hm ≠ s := by
        obtain ⟨D, hD⟩ := HB4.out.has
        obtain ⟨es', clock', hmb', -⟩ := hD.own
        exact fun e => map_ne HS4.out.head hmb' e.symm
      refine ⟨x4, u, v, rfl, K4.out.trans (k6.mono fun k _ e => .inr (.inl e)), HX4.out.kept k6 (fun g hg e => hfs4 (e ▸ hg)), HSD4.out, HF4.out, ⟨hh6, HB4.out.held.kept k6 hub hvb, HS4.out.count, ⟨by show st.next < st.next + 1; omega, by show st.next + 1 ≤ 4611686018427387904; omega⟩, HS4.out.bp1⟩, HB4.out.kept k6 (fun e => hn1 e.symm) hub hvb hms, .inr ⟨rfl, rfl⟩⟩
    · have hy1 : (hw.2 != 0) = true := by simp [hy]
      have hy2 : (hw.2 == 0) = false := by simp [hy]
      have hC := HC3.out
      rw [if_pos hy] at hC
      have HCF := Lib.hid hC
      clear hC HC3 hy
      go_wp2_with fail
      go_ret
      have k5 : Kept (fun k => k = s) w4 (w4.setCell ⟨s, 13, none⟩ (.bool true)) := (Kept.refl _ _).setCell _ _ (fun _ => rfl)
      have hh5 := heap_setCell_same w4 s 13 _ _ (.bool true) HS4.out.head
      simp only [List.setIfInBounds_toArray, List.set_cons_succ, List.set_cons_zero] at hh5
      rw [HCF.out]
      have hus : us ≠ s := cells_ne HS4.out.held.set.head HS4.out.head (by decide)
      have hvs : ∀ g, vs.ownBlock = some g → g ≠ s := fun g hg => by
        obtain ⟨cs, hc⟩ := row_cells HS4.out.held.set.row hg
        exact cells_ne hc HS4.out.head (by decide)
      have hfs4 : ¬ x4.foot s := HX4.out.not_foot HS4.out.head (by decide) (by decide) (by decide)
      have hub : u ≠ s := cells_ne HB4.out.held.set.head HS4.out.head (by decide)
      have hvb : ∀ g, v.ownBlock = some g → g ≠ s := fun g hg => by
        obtain ⟨cs, hc⟩ := row_cells HB4.out.held.set.row hg
        exact cells_ne hc HS4.out.head (by decide)
      have hms : hm ≠ s := by
        obtain ⟨D, hD⟩ := HB4.out.has
        obtain ⟨es', clock', hmb', -⟩ := hD.own
        exact fun e => map_ne HS4.out.head hmb' e.symm
      refine ⟨x4, us, vs, rfl, K4.out.trans (k5.mono fun k _ e => .inr (.inl e)), HX4.out.kept k5 (fun g hg e => hfs4 (e ▸ hg)), HSD4.out, HF4.out, ⟨hh5, HS4.out.held.kept k5 hus hvs, HS4.out.count, HS4.out.next, HS4.out.bp1⟩, HB4.out.kept k5 (fun e => hn1 e.symm) hub hvb hms, .inl ⟨rfl, rfl⟩⟩
  · have hz1 : (pm.2 != 0) = true := by simp [hz]
    have hz2 : (pm.2 == 0) = false := by simp [hz]
    have hC := HC2.out
    rw [if_pos hz, if_pos hz] at hC
    have HCF := Lib.hid hC
    clear hC HC2 hz
    go_wp2_with fail
    go_ret
    have k4 : Kept (fun k => k = s) w3 (w3.setCell ⟨s, 13, none⟩ (.bool true)) := (Kept.refl _ _).setCell _ _ (fun _ => rfl)
    have hh4 := heap_setCell_same w3 s 13 _ _ (.bool true) HS3.out.head
    simp only [List.setIfInBounds_toArray, List.set_cons_succ, List.set_cons_zero] at hh4
    rw [HCF.out]
    have hus : us ≠ s := cells_ne HS3.out.held.set.head HS3.out.head (by decide)
    have hvs : ∀ g, vs.ownBlock = some g → g ≠ s := fun g hg => by
      obtain ⟨cs, hc⟩ := row_cells HS3.out.held.set.row hg
      exact cells_ne hc HS3.out.head (by decide)
    have hfs3 : ¬ x3.foot s := HX3.out.not_foot HS3.out.head (by decide) (by decide) (by decide)
    have hub : u ≠ s := cells_ne HB3.out.held.set.head HS3.out.head (by decide)
    have hvb : ∀ g, v.ownBlock = some g → g ≠ s := fun g hg => by
      obtain ⟨cs, hc⟩ := row_cells HB3.out.held.set.row hg
      exact cells_ne hc HS3.out.head (by decide)
    have hms : hm ≠ s := by
      obtain ⟨D, hD⟩ := HB3.out.has
      obtain ⟨es', clock', hmb', -⟩ := hD.own
      exact fun e => map_ne HS3.out.head hmb' e.symm
    refine ⟨x3, us, vs, rfl, K3.out.trans (k4.mono fun k _ e => .inr (.inl e)), HX3.out.kept k4 (fun g hg e => hfs3 (e ▸ hg)), HSD3.out, HF3.out, ⟨hh4, HS3.out.held.kept k4 hus hvs, HS3.out.count, HS3.out.next, HS3.out.bp1⟩, HB3.out.kept k4 (fun e => hn1 e.symm) hub hvb hms, .inl ⟨rfl, rfl⟩⟩
end Go.Proofs.YtabhieafjkaocaaGreat
namespace Go.Proofs.YtabhieafjkaocaaGreat
open Go.RowKit Go.Lib Go.Maps Bm
set_option maxRecDepth 20000
def zeroP : PageV := ⟨0, 0, 0, []⟩
def liesM (dm : DiskM) (cnt n : Nat) : PageV × Int :=
  if dm.off then (zeroP, 40) else match dec (dm.view (cnt + n)) n with
    | .ok p => (p, 0)
    | .error _ => (zeroP, 70)
theorem liesM_on (dm : DiskM) (cnt n : Nat) (ho : dm.off = false) : decRow (dec (dm.view (cnt + n)) n) = pageRow (liesM dm cnt n).1 ∧ liesErr (dec (dm.view (cnt + n)) n) = (liesM dm cnt n).2 := by
  unfold liesM
  rw [ho, if_neg (by simp)]
  cases dec (dm.view (cnt + n)) n <;> exact ⟨rfl, rfl⟩
theorem lies_off (s u : Nat) (v bp : Value) (x : DiskH) (m : StM) (dm : DiskM) (n : Nat) (w : World) (h : StAt w s x.d u v bp m) (hx : DiskAt w x dm) (ho : dm.off = true) (hn32 : n < 4294967296) :
    Calls Tryz.prog 42 #[.pointer (some ⟨s, 0, none⟩), .int .u32 (n : Int)] w fun e w' => e = .returned (.tuple #[.agg (pageRow zeroP), .int .i64 40]) ∧ Kept No w w' := by
  have hready : dm.ready ((m.count : Int) + (n : Int)) = 40 := by unfold DiskM.ready; rw [ho, if_pos rfl]
  have hw1 : IntKind.i64.wrap (n : Int) = (n : Int) := by rw [IntKind.wrap_i64]; omega
  have hc := h.count
  have hw2 : IntKind.i64.wrap ((m.count : Int) + (n : Int)) = (m.count : Int) + (n : Int) := by rw [IntKind.wrap_i64]; omega
  have H := Lib.hid h
  have HX := Lib.hid hx
  clear h hx
  go_enter Tryz.func42, Tryz.ntmps42
  go_wp2_with fail
  have hR := heap_alloc_new w (.cells #[.int .u8 0, .int .u32 0, .int .u64 0, .string ⟨#[]⟩] 28)
  have k1 : Kept No w (w.alloc (.cells #[.int .u8 0, .int .u32 0, .int .u64 0, .string ⟨#[]⟩] 28)) := (Kept.refl _ _).alloc _
  generalize (w.alloc (.cells #[.int .u8 0, .int .u32 0, .int .u64 0, .string ⟨#[]⟩] 28)) = w1 at *
  generalize hRe : w.heap.size = R at *
  have HRE := Lib.hid hRe
  have HR := Lib.hid hR
  have K1 := Lib.hid k1
  have hS1 := k1.heap H.out.head (fun h => h)
  have HX1 := Lib.hid (HX.out.kept k1 (fun _ _ h => h))
  have c0 := (cell_of_row w1 s 0 _ _ _ hS1).trans rfl
  have c1 := (cell_of_row w1 s 1 _ _ _ hS1).trans rfl
  clear hRe hR k1 hS1
  have hts := types_373
  have hmt : ∀ w, (method 373 24 (.pointer (some ⟨x.d, 0, none⟩)) "Read").run Tryz.prog w = .ok (212, .pointer (some ⟨x.d, 0, none⟩)) w := fun w => dev_method_read x.d w
  have hcf : ∀ w (i : Int), (callFunc 212 #[.pointer (some ⟨x.d, 0, none⟩), .int .i64 i]).run Tryz.prog w = .ok (.enter 212 #[.pointer (some ⟨x.d, 0, none⟩), .int .i64 i]) w := fun w i => by kernel_rfl
  go_region_with (first | (go_at_call 212; refine (dread_no x dm _ _ (HX1.out.kept (Kept.refl No w1).drew (fun _ _ h => h)) (by rw [hready]; decide)).mono ?_; rw [hready]; rintro e w' ⟨rfl, rfl⟩))
  all_goals
    have hR2 := (Kept.refl No w1).drew.heap HR.out (fun h => h)
    have HR2 := Lib.hid hR2
    clear hR2
    go_wp2_with (refine wpList_store_row (by rfl) 28 (.tmp 4) (.tmp 28) (by rfl) R 28 _ _ (by rfl) (by rfl) (HR2.out) (by exact page_size) (by rfl) (by simp [Value.oneCell', pageRow]) ?_)
    refine bodyPost_ret (results_pair rfl _ _ R _ _ _ _ rfl (setRow_heap _ _ _ _ _ _ (HR2.out)) Tryz.underlying28 rfl (by exact page_size)) rfl ?_
    exact ⟨rfl, (K1.out.drew).setRow _ _ (fun h => absurd h (by have := HRE.out; omega))⟩
theorem lies_any (s u : Nat) (v bp : Value) (x : DiskH) (m : StM) (dm : DiskM) (n : Nat) (w : World) (h : StAt w s x.d u v bp m) (hx : DiskAt w x dm) (hn : m.count + n < dm.lies.length) (hn32 : n < 4294967296) :
    Calls Tryz.prog 42 #[.pointer (some ⟨s, 0, none⟩), .int .u32 (n : Int)] w fun e w' => e = .returned (.tuple #[.agg (pageRow (liesM dm m.count n).1), .int .i64 (liesM dm m.count n).2]) ∧ Kept No w w' := by
  cases ho : dm.off
  · obtain ⟨e1, e2⟩ := liesM_on dm m.count n ho
    rw [← e1, ← e2]
    exact lies_ok s u v bp x m dm n w h hx ho hn hn32
  · have : liesM dm m.count n = (zeroP, 40) := by unfold liesM; rw [if_pos ho]
    rw [this]
    exact lies_off s u v bp x m dm n w h hx ho hn32
def StM.read (st : StM) (dm : DiskM) (n : Nat) : PageV × Int :=
  if st.dead then (zeroP, 5) else if st.now.asked n ≠ 0 then (zeroP, st.now.asked n) else liesM dm st.count n
set_option maxHeartbeats 1000000 in
theorem sread_ok (s u : Nat) (v bp : Value) (x : DiskH) (m : StM) (dm : DiskM) (n : Nat) (w : World) (h : StAt w s x.d u v bp m) (hx : DiskAt w x dm) (hn : m.count + m.now.n ≤ dm.lies.length) (hn32 : n < 4294967296) :
    Calls Tryz.prog 9 #[.pointer (some ⟨s, 0, none⟩), .int .u32 (n : Int)] w fun e w' => e = .returned (.tuple #[.agg (pageRow (m.read dm n).1), .int .i64 (m.read dm n).2]) ∧ Kept No w w' := by
  have H := Lib.hid h
  have HX := Lib.hid hx
  clear h hx
  generalize hA : m.read dm n = A
  have HA := Lib.hid hA
  clear hA
  have k1 : Kept No w (w.alloc (.cells #[.int .u8 0, .int .u32 0, .int .u64 0, .string ⟨#[]⟩] 28)) := (Kept.refl _ _).alloc _
  have hR := heap_alloc_new w (.cells #[.int .u8 0, .int .u32 0, .int .u64 0, .string ⟨#[]⟩] 28)
  have HR := Lib.hid hR
  have K1 := Lib.hid k1
  have hS1 := H.out.no k1
  have c13 := (cell_of_row _ s 13 _ _ _ hS1.head).trans rfl
  have HS1 := Lib.hid hS1
  have HX1 := Lib.hid (HX.out.kept k1 (fun _ _ h => h))
  have HASK := Lib.hid (asked_ok u v m.now n _ hS1.held hn32)
  have HLI := Lib.hid (fun w' (k : Kept No (w.alloc (.cells #[.int .u8 0, .int .u32 0, .int .u64 0, .string ⟨#[]⟩] 28)) w') hq => lies_any s u v bp x m dm n w' (hS1.no k) (HX1.out.kept k (fun _ _ h => h)) hq hn32)
  have HHEAD := Lib.hid hS1.head
  clear hR k1 hS1
  cases hdd : m.dead
  · rw [hdd] at c13
    by_cases hask : m.now.asked n = 0
    · have hq := asked_ok0 hask
      have e1 : A = liesM dm m.count n := by rw [← HA.out]; unfold StM.read; rw [hdd, if_neg (by simp), if_neg (by simp [hask])]
      subst e1
      have HAK := Lib.hid hask
      have HQ := Lib.hid (show m.count + n < dm.lies.length by omega)
      clear hask hdd HA hq
      go_enter Tryz.func9, Tryz.ntmps9
      go_wp2_with (first
        | (refine wpList_load_part (by rfl) 88 (.tmp 17) (by rfl) s 2 (by rfl) _ _ [.pointer (some ⟨u, 0, none⟩), .int .u32 (m.now.root.a : Int), .int .u32 (m.now.root.b : Int), .int .u32 (m.now.root.c : Int), .int .u32 (m.now.root.d : Int), .int .u32 (m.now.root.e : Int), .int .u32 (m.now.root.f : Int), .int .u32 (m.now.root.g : Int), .int .u32 (m.now.root.h : Int)] _ _ HHEAD.out Tryz.underlying88 (by rfl) (by exact held_size) (by exact part_of [_, _] [.pointer (some ⟨u, 0, none⟩), .int .u32 (m.now.root.a : Int), .int .u32 (m.now.root.b : Int), .int .u32 (m.now.root.c : Int), .int .u32 (m.now.root.d : Int), .int .u32 (m.now.root.e : Int), .int .u32 (m.now.root.f : Int), .int .u32 (m.now.root.g : Int), .int .u32 (m.now.root.h : Int)] [_, _, _, _]) ?_)
        | (go_at_call 41; refine HASK.out.mono ?_; rintro e w2 ⟨rfl, k2⟩; have K2 := Lib.hid k2; rw [HAK.out]; clear k2)
        | (go_at_call 42; refine (HLI.out _ K2.out HQ.out).mono ?_; rintro e w3 ⟨rfl, k3⟩; have K3 := Lib.hid (K2.out.trans k3); have HR3 := Lib.hid ((K2.out.trans k3).heap HR.out (fun h => h)); clear k3)
        | (refine wpList_store_row (by rfl) 28 (.tmp 4) (.tmp 28) (by rfl) w.heap.size 28 _ _ (by rfl) (by rfl) (HR3.out) (by exact page_size) (by rfl) (by simp [Value.oneCell', pageRow]) ?_))
      refine bodyPost_ret (results_pair rfl _ _ w.heap.size _ _ _ _ rfl (setRow_heap _ _ _ _ _ _ (HR3.out)) Tryz.underlying28 rfl (by exact page_size)) rfl ?_
      exact ⟨rfl, (K1.out.trans K3.out).setRow _ _ (fun h => absurd h (by omega))⟩
    · have e1 : A = (zeroP, m.now.asked n) := by rw [← HA.out]; unfold StM.read; rw [hdd, if_neg (by simp), if_pos hask]
      subst e1
      have hak : (m.now.asked n != 0) = true := by simp [hask]
      clear HA hdd hask
      generalize m.now.asked n = q at *
      go_enter Tryz.func9, Tryz.ntmps9
      go_wp2_with (first
        | (refine wpList_load_part (by rfl) 88 (.tmp 17) (by rfl) s 2 (by rfl) _ _ [.pointer (some ⟨u, 0, none⟩), .int .u32 (m.now.root.a : Int), .int .u32 (m.now.root.b : Int), .int .u32 (m.now.root.c : Int), .int .u32 (m.now.root.d : Int), .int .u32 (m.now.root.e : Int), .int .u32 (m.now.root.f : Int), .int .u32 (m.now.root.g : Int), .int .u32 (m.now.root.h : Int)] _ _ HHEAD.out Tryz.underlying88 (by rfl) (by exact held_size) (by exact part_of [_, _] [.pointer (some ⟨u, 0, none⟩), .int .u32 (m.now.root.a : Int), .int .u32 (m.now.root.b : Int), .int .u32 (m.now.root.c : Int), .int .u32 (m.now.root.d : Int), .int .u32 (m.now.root.e : Int), .int .u32 (m.now.root.f : Int), .int .u32 (m.now.root.g : Int), .int .u32 (m.now.root.h : Int)] [_, _, _, _]) ?_)
        | (go_at_call 41; refine HASK.out.mono ?_; rintro e w2 ⟨rfl, k2⟩; have K2 := Lib.hid k2; have HR3 := Lib.hid (k2.heap HR.out (fun h => h)); clear k2)
        | (refine wpList_store_row (by rfl) 28 (.tmp 4) (.tmp 23) (by rfl) w.heap.size 28 _ _ (by rfl) (by rfl) (HR3.out) (by exact page_size) (by rfl) (by simp [Value.oneCell', pageRow]) ?_))
      refine bodyPost_ret (results_pair rfl _ _ w.heap.size _ _ _ _ rfl (setRow_heap _ _ _ _ _ _ (HR3.out)) Tryz.underlying28 rfl (by exact page_size)) rfl ?_
      exact ⟨rfl, (K1.out.trans K2.out).setRow _ _ (fun h => absurd h (by omega))⟩
  · rw [hdd] at c13
    have e1 : A = (zeroP, 5) := by rw [← HA.out]; unfold StM.read; rw [hdd, if_pos rfl]
    subst e1
    clear HA hdd
    go_enter Tryz.func9, Tryz.ntmps9
    go_wp2_with (refine wpList_store_row (by rfl) 28 (.tmp 4) (.tmp 14) (by rfl) w.heap.size 28 _ _ (by rfl) (by rfl) (HR.out) (by exact page_size) (by rfl) (by simp [Value.oneCell', pageRow]) ?_)
    refine bodyPost_ret (results_pair rfl _ _ w.heap.size _ _ _ _ rfl (setRow_heap _ _ _ _ _ _ (HR.out)) Tryz.underlying28 rfl (by exact page_size)) rfl ?_
    exact ⟨rfl, (K1.out).setRow _ _ (fun h => absurd h (by omega))⟩
def BtM.read (m : BtM) (dm : DiskM) (cnt n : Nat) : PageV × Int :=
  if m.ended then (zeroP, 5) else if m.held.asked n ≠ 0 then (zeroP, m.held.asked n) else match getC n m.has with
    | some c => (⟨c.1, n, 0, c.2⟩, 0)
    | none => liesM dm cnt n
end Go.Proofs.YtabhieafjkaocaaGreat
