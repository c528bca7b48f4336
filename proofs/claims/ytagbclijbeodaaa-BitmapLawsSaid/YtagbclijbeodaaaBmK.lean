/- Contracts on with, Or, And, Minus. -/
import Derived.Test.YtagbclijbeodaaaBmJ
import Derived.StillTailTactics
namespace Go.Proofs.Ytagbclijbeodaaa
open Go.RowKit
set_option linter.unusedVariables false

/-- the words after k rounds. -/
def mix (op : Nat → Nat → Nat) (a b : List Nat) : Nat → List Nat
  | 0 => a
  | k + 1 => (mix op a b k).set k (op (a.getD k 0) (b.getD k 0))
theorem mix_length (op : Nat → Nat → Nat) (a b : List Nat) (k : Nat) : (mix op a b k).length = a.length := by
  induction k with
  | zero => rfl
  | succ k ih => simp [mix, ih]
theorem mix_getD (op : Nat → Nat → Nat) (a b : List Nat) (k j : Nat) (hj : j < a.length) : (mix op a b k).getD j 0 = if j < k then op (a.getD j 0) (b.getD j 0) else a.getD j 0 := by
  induction k with
  | zero => simp [mix]
  | succ k ih =>
    rw [mix]
    simp only [List.getD_eq_getElem?_getD, List.getElem?_set] at ih ⊢
    by_cases e : k = j
    · subst e
      have : k < (mix op a b k).length := by rw [mix_length]; exact hj
      simp [this]
    · rw [if_neg e, ih]
      by_cases h : j < k
      · rw [if_pos h, if_pos (by omega)]
      · rw [if_neg h, if_neg (by omega)]

theorem enter_or (args : Array Value) (w : World) : (callFunc 25 args).run Try.prog w = .ok (.enter 25 args) w := by
  go_simp
theorem enter_and (args : Array Value) (w : World) : (callFunc 26 args).run Try.prog w = .ok (.enter 26 args) w := by
  go_simp
theorem enter_minus (args : Array Value) (w : World) : (callFunc 27 args).run Try.prog w = .ok (.enter 27 args) w := by
  go_simp

/-- What with asks of the other set, in the middle of its work: its words' slice, its k-th word. -/
def Other (w : World) (s' : Nat) (u : Option Addr) (l cap' : Nat) (k y : Nat) : Prop :=
  ∃ g', u = some ⟨g', 0, none⟩ ∧ w.cell? ⟨s', 1, none⟩ = some (.slice u l cap') ∧ w.cell? ⟨g', k, none⟩ = some (.int .u64 (y : Int))

theorem with_ok (f : Nat) (op : Nat → Nat → Nat) (s s' n : Nat) (v : Value) (u : Option Addr) (cap' : Nat) (ws ws' : List Nat) (w : World)
    (hop : ∀ x y : Nat, x < 18446744073709551616 → y < 18446744073709551616 → op x y < 18446744073709551616)
    (hE : ∀ args w, (callFunc f args).run Try.prog w = .ok (.enter f args) w)
    (hF : ∀ (x y : Nat) (w : World), x < 18446744073709551616 → y < 18446744073709551616 → Calls Try.prog f #[.int .u64 (x : Int), .int .u64 (y : Int)] w fun e w' => e = .returned (.int .u64 ((op x y : Nat) : Int)) ∧ w = w')
    (h : SetAt w s n v ws) (hc' : w.cell? ⟨s', 0, none⟩ = some (.int .i64 (n : Int))) (hlow : ∀ j, ws'.getD j 0 < 18446744073709551616)
    (hO : ∀ wr k, Kept (fun j => v.ownBlock = some j) w wr → SetAt wr s n v (mix op ws ws' k) → k < ws.length → Other wr s' u ws.length cap' k (ws'.getD k 0)) :
    Calls Try.prog 24 #[.pointer (some ⟨s, 0, none⟩), .pointer (some ⟨s', 0, none⟩), .func (.func f) #[] #[]] w fun e w' => e = .returned (.int .i64 0) ∧ Kept (fun k => v.ownBlock = some k) w w' ∧ SetAt w' s n v (mix op ws ws' ws.length) := by
  have hc := h.n_cell
  have hv := h.v_cell
  have hlen : ws.length ≤ 65536 := by have := h.size; have := h.bound; omega
  have H := Lib.hid h
  have HO := Lib.hid hO
  have HL := Lib.hid hlow
  have HF := Lib.hid hF
  have HP := Lib.hid hop
  obtain ⟨a, cap, rfl⟩ := h.slen
  clear h hO hlow hF hop
  go_enter Try.func24, Try.ntmps24
  go_wp2_with fail
  go_quiet (fail)
  go_wp2_with fail
  go_loopw [28] (fun i wr => ∃ k : Nat, k ≤ ws.length ∧ i = .int .i64 k ∧ Kept (fun k => (Value.slice a ws.length cap).ownBlock = some k) w wr ∧ SetAt wr s n (.slice a ws.length cap) (mix op ws ws' k)) (fun i _ => ws.length - (intOf i).toNat)
  case atStart => exact ⟨0, Nat.zero_le _, rfl, (Kept.refl _ _).drewN _, H.out.drewN _⟩
  case round =>
    obtain ⟨k, hk, rfl, hkw, hs⟩ := hrel
    by_cases hlt : k < ws.length
    · have hml := mix_length op ws ws' k
      obtain ⟨g, cap1, e1, hgs, hcap, hcs, hfr⟩ := hs.slice' (by omega)
      obtain ⟨rfl, rfl⟩ : a = some ⟨g, 0, none⟩ ∧ cap = cap1 := by simpa using And.intro (by simpa using (Value.slice.inj e1).1) (Value.slice.inj e1).2.2
      have hvs := hs.v_cell
      have hx := hcs k (by omega)
      rw [mix_getD op ws ws' k k hlt, if_neg (Nat.lt_irrefl k)] at hx
      have hf := hfr k
      have hx0 := H.out.word k
      have hy0 := HL.out k
      obtain ⟨g', rfl, ho1, ho2⟩ := HO.out wr k hkw hs hlt
      have hcall := flip (HF.out (ws.getD k 0) (ws'.getD k 0) wr.drew hx0 hy0)
      have hst := hs.stored (by omega) k (op (ws.getD k 0) (ws'.getD k 0)) (HP.out _ _ hx0 hy0)
      have HS := Lib.hid hst
      have HK := Lib.hid hkw
      clear hs hcs hfr hst hkw e1 hcap
      generalize hX : ws.getD k 0 = X at *
      generalize hY : ws'.getD k 0 = Y at *
      have he : mix op ws ws' (k + 1) = (mix op ws ws' k).set k (op X Y) := by rw [mix, hX, hY]
      have HE := Lib.hid he
      clear hX hY he
      go_wp2_with fail
      go_still_tail 22, (by kernel_rfl)
      still_call hcall
      repeat still_step
      refine wpStill_nil ?_
      change wpList _ _ _ _ _ wr.drew
      go_wp2
      go_roundw
      case rel =>
        refine ⟨k + 1, by omega, by go_num, HK.out.trans HS.out.1, ?_⟩
        rw [HE.out]
        exact HS.out.2
      case measure => simp [intOf]; omega
    · obtain rfl : k = ws.length := by omega
      have HS := Lib.hid hs
      have HK := Lib.hid hkw
      clear hs hkw
      go_wp2
      go_ret
      exact ⟨rfl, HK.out, HS.out⟩

theorem with_nil (f s : Nat) (w : World) :
    Calls Try.prog 24 #[.pointer (some ⟨s, 0, none⟩), .pointer none, .func (.func f) #[] #[]] w fun e w' => e = .returned (.int .i64 2) ∧ w = w' := by
  go_enter Try.func24, Try.ntmps24
  go_wp2
  go_ret
  exact ⟨rfl, rfl⟩

theorem with_arg (f s s' n n' : Nat) (w : World) (hne : n ≠ n') (hc : w.cell? ⟨s, 0, none⟩ = some (.int .i64 (n : Int))) (hc' : w.cell? ⟨s', 0, none⟩ = some (.int .i64 (n' : Int))) :
    Calls Try.prog 24 #[.pointer (some ⟨s, 0, none⟩), .pointer (some ⟨s', 0, none⟩), .func (.func f) #[] #[]] w fun e w' => e = .returned (.int .i64 1) ∧ ∃ q, w' = w.drewN q := by
  have hd : ((n : Int) != (n' : Int)) = true := by rw [bne_iff_ne]; omega
  clear hne
  go_enter Try.func24, Try.ntmps24
  go_wp2_with fail
  go_quiet (fail)
  go_wp2
  go_ret
  exact ⟨rfl, _, rfl⟩

/-- Another set, with no block in common with the one that is changed. -/
theorem other_apart {w : World} {s' n : Nat} {v : Value} {u : Option Addr} {cap' : Nat} {ws ws' : List Nat} (h' : SetAt w s' n (.slice u ws'.length cap') ws') (hl : ws.length = ws'.length)
    (h1 : v.ownBlock ≠ some s') (h2 : ∀ g, (Value.slice u ws'.length cap').ownBlock = some g → v.ownBlock ≠ some g) :
    ∀ wr k, Kept (fun j => v.ownBlock = some j) w wr → k < ws.length → Other wr s' u ws.length cap' k (ws'.getD k 0) := by
  intro wr k hk hlt
  have h2' := h'.kept hk h1 h2
  obtain ⟨g, cap, e, _, _, hcs, _⟩ := h2'.slice' (by omega)
  have hv := h2'.v_cell
  obtain ⟨e1, _, e2⟩ := Value.slice.inj e
  refine ⟨g, e1, ?_, hcs k (by omega)⟩
  rw [hl]; exact hv

/-- The set itself. -/
theorem other_self {op : Nat → Nat → Nat} {w : World} {s n : Nat} {u : Option Addr} {cap' : Nat} {ws : List Nat} :
    ∀ wr k, Kept (fun j => (Value.slice u ws.length cap').ownBlock = some j) w wr → SetAt wr s n (.slice u ws.length cap') (mix op ws ws k) → k < ws.length → Other wr s u ws.length cap' k (ws.getD k 0) := by
  intro wr k _ hs hlt
  have hml := mix_length op ws ws k
  obtain ⟨g, cap, e, _, _, hcs, _⟩ := hs.slice' (by omega)
  have hv := hs.v_cell
  obtain ⟨e1, _, e2⟩ := Value.slice.inj e
  have := hcs k (by omega)
  rw [mix_getD op ws ws k k hlt, if_neg (Nat.lt_irrefl k)] at this
  exact ⟨g, e1, hv, this⟩

def OrW (a b : List Nat) : List Nat := mix (fun x y => x ||| y) a b a.length
def AndW (a b : List Nat) : List Nat := mix (fun x y => x &&& y) a b a.length
def MinusW (a b : List Nat) : List Nat := mix (fun x y => x &&& (18446744073709551615 - y)) a b a.length

theorem or_lt (x y : Nat) (hx : x < 18446744073709551616) (hy : y < 18446744073709551616) : x ||| y < 18446744073709551616 := or_lt64 x y hx hy

/-- What Or, And, Minus ask of two sets: apart, or one. -/
def Pair (w : World) (s s' n : Nat) (v v' : Value) (ws ws' : List Nat) : Prop :=
  SetAt w s n v ws ∧ SetAt w s' n v' ws' ∧ ((v.ownBlock ≠ some s' ∧ ∀ g, v'.ownBlock = some g → v.ownBlock ≠ some g) ∨ (s = s' ∧ v = v' ∧ ws = ws'))

theorem or_ok (s s' n : Nat) (v v' : Value) (ws ws' : List Nat) (w : World) (h : Pair w s s' n v v' ws ws') :
    Calls Try.prog 13 #[.pointer (some ⟨s, 0, none⟩), .pointer (some ⟨s', 0, none⟩)] w fun e w' => e = .returned (.int .i64 0) ∧ Kept (fun k => v.ownBlock = some k) w w' ∧ SetAt w' s n v (OrW ws ws') := by
  obtain ⟨h1, h2, h3⟩ := h
  obtain ⟨u, cap', rfl⟩ := h2.slen
  have hwith := with_ok 25 (fun x y => x ||| y) s s' n v u cap' ws ws' w or_lt enter_or or_fn h1 h2.n_cell h2.word (by
    rcases h3 with ⟨ha, hb⟩ | ⟨rfl, rfl, rfl⟩
    · intro wr k hk _ hlt
      exact other_apart h2 (h1.size.trans h2.size.symm) ha hb wr k hk hlt
    · exact other_self)
  have HW := Lib.hid hwith
  clear hwith h1 h2 h3
  go_enter Try.func13, Try.ntmps13
  go_wp2_with fail
  refine HW.out.mono ?_
  rintro e w' ⟨rfl, hk, hs⟩
  have HK := Lib.hid hk
  have HS := Lib.hid hs
  clear hk hs
  go_wp2
  go_ret
  exact ⟨rfl, HK.out, HS.out⟩

theorem or_arg (s s' n n' : Nat) (w : World) (hne : n ≠ n') (hc : w.cell? ⟨s, 0, none⟩ = some (.int .i64 (n : Int))) (hc' : w.cell? ⟨s', 0, none⟩ = some (.int .i64 (n' : Int))) :
    Calls Try.prog 13 #[.pointer (some ⟨s, 0, none⟩), .pointer (some ⟨s', 0, none⟩)] w fun e w' => e = .returned (.int .i64 1) ∧ ∃ q, w' = w.drewN q := by
  have HW := Lib.hid (with_arg 25 s s' n n' w hne hc hc')
  clear hc hc'
  go_enter Try.func13, Try.ntmps13
  go_wp2_with fail
  refine HW.out.mono ?_
  rintro e w' ⟨rfl, q, rfl⟩
  go_wp2
  go_ret
  exact ⟨rfl, _, rfl⟩

theorem and_ok (s s' n : Nat) (v v' : Value) (ws ws' : List Nat) (w : World) (h : Pair w s s' n v v' ws ws') :
    Calls Try.prog 14 #[.pointer (some ⟨s, 0, none⟩), .pointer (some ⟨s', 0, none⟩)] w fun e w' => e = .returned (.int .i64 0) ∧ Kept (fun k => v.ownBlock = some k) w w' ∧ SetAt w' s n v (AndW ws ws') := by
  obtain ⟨h1, h2, h3⟩ := h
  obtain ⟨u, cap', rfl⟩ := h2.slen
  have hwith := with_ok 26 (fun x y => x &&& y) s s' n v u cap' ws ws' w (fun x y hx _ => word_take_lt x y hx) enter_and and_fn h1 h2.n_cell h2.word (by
    rcases h3 with ⟨ha, hb⟩ | ⟨rfl, rfl, rfl⟩
    · intro wr k hk _ hlt
      exact other_apart h2 (h1.size.trans h2.size.symm) ha hb wr k hk hlt
    · exact other_self)
  have HW := Lib.hid hwith
  clear hwith h1 h2 h3
  go_enter Try.func14, Try.ntmps14
  go_wp2_with fail
  refine HW.out.mono ?_
  rintro e w' ⟨rfl, hk, hs⟩
  have HK := Lib.hid hk
  have HS := Lib.hid hs
  clear hk hs
  go_wp2
  go_ret
  exact ⟨rfl, HK.out, HS.out⟩

theorem and_arg (s s' n n' : Nat) (w : World) (hne : n ≠ n') (hc : w.cell? ⟨s, 0, none⟩ = some (.int .i64 (n : Int))) (hc' : w.cell? ⟨s', 0, none⟩ = some (.int .i64 (n' : Int))) :
    Calls Try.prog 14 #[.pointer (some ⟨s, 0, none⟩), .pointer (some ⟨s', 0, none⟩)] w fun e w' => e = .returned (.int .i64 1) ∧ ∃ q, w' = w.drewN q := by
  have HW := Lib.hid (with_arg 26 s s' n n' w hne hc hc')
  clear hc hc'
  go_enter Try.func14, Try.ntmps14
  go_wp2_with fail
  refine HW.out.mono ?_
  rintro e w' ⟨rfl, q, rfl⟩
  go_wp2
  go_ret
  exact ⟨rfl, _, rfl⟩

theorem minus_ok (s s' n : Nat) (v v' : Value) (ws ws' : List Nat) (w : World) (h : Pair w s s' n v v' ws ws') :
    Calls Try.prog 15 #[.pointer (some ⟨s, 0, none⟩), .pointer (some ⟨s', 0, none⟩)] w fun e w' => e = .returned (.int .i64 0) ∧ Kept (fun k => v.ownBlock = some k) w w' ∧ SetAt w' s n v (MinusW ws ws') := by
  obtain ⟨h1, h2, h3⟩ := h
  obtain ⟨u, cap', rfl⟩ := h2.slen
  have hwith := with_ok 27 (fun x y => x &&& (18446744073709551615 - y)) s s' n v u cap' ws ws' w (fun x y hx _ => word_take_lt x _ hx) enter_minus minus_fn h1 h2.n_cell h2.word (by
    rcases h3 with ⟨ha, hb⟩ | ⟨rfl, rfl, rfl⟩
    · intro wr k hk _ hlt
      exact other_apart h2 (h1.size.trans h2.size.symm) ha hb wr k hk hlt
    · exact other_self)
  have HW := Lib.hid hwith
  clear hwith h1 h2 h3
  go_enter Try.func15, Try.ntmps15
  go_wp2_with fail
  refine HW.out.mono ?_
  rintro e w' ⟨rfl, hk, hs⟩
  have HK := Lib.hid hk
  have HS := Lib.hid hs
  clear hk hs
  go_wp2
  go_ret
  exact ⟨rfl, HK.out, HS.out⟩

theorem minus_arg (s s' n n' : Nat) (w : World) (hne : n ≠ n') (hc : w.cell? ⟨s, 0, none⟩ = some (.int .i64 (n : Int))) (hc' : w.cell? ⟨s', 0, none⟩ = some (.int .i64 (n' : Int))) :
    Calls Try.prog 15 #[.pointer (some ⟨s, 0, none⟩), .pointer (some ⟨s', 0, none⟩)] w fun e w' => e = .returned (.int .i64 1) ∧ ∃ q, w' = w.drewN q := by
  have HW := Lib.hid (with_arg 27 s s' n n' w hne hc hc')
  clear hc hc'
  go_enter Try.func15, Try.ntmps15
  go_wp2_with fail
  refine HW.out.mono ?_
  rintro e w' ⟨rfl, q, rfl⟩
  go_wp2
  go_ret
  exact ⟨rfl, _, rfl⟩

theorem or_nil (s : Nat) (w : World) :
    Calls Try.prog 13 #[.pointer (some ⟨s, 0, none⟩), .pointer none] w fun e w' => e = .returned (.int .i64 2) ∧ w = w' := by
  have HW := Lib.hid (with_nil 25 s w)
  go_enter Try.func13, Try.ntmps13
  go_wp2_with fail
  refine HW.out.mono ?_
  rintro e w' ⟨rfl, rfl⟩
  go_wp2
  go_ret
  exact ⟨rfl, rfl⟩

end Go.Proofs.Ytagbclijbeodaaa
