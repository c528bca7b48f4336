/- exchange.Start: what is refused. -/
import Derived.Test.YtpkadglempbjiaaGreatEtC
import Derived.Test.YtpkadglempbjiaaGreatTrB
namespace Go.Proofs.YtpkadglempbjiaaGreat
open Go.RowKit Go.Lib
set_option linter.unusedVariables false
set_option linter.unusedSimpArgs false
set_option maxRecDepth 100000

theorem results_mid {P : Program} {fn : Func} {s p u : Tmp} {ty : TypeId} (h : fn.results = #[.tmp s, .cell p ty, .tmp u]) (tmps : Array Value) (w : World) (g : Nat) (t : TypeId) (cs : Array Value) (fr : Nat × Nat) (d : TypeDesc)
    (hp : tmps.getD p undef = .pointer (some ⟨g, 0, none⟩)) (hg : w.heap[g]? = some (.cells cs t fr))
    (hu : P.underlying ty = some d) (hd : (match d with | .struct _ | .array _ _ => true | _ => false) = true) (hi : (P.info? ty).map (·.size) = some cs.size) :
    (results fn tmps).run P w = .ok (.tuple #[tmps.getD s undef, .agg cs, tmps.getD u undef]) w := by
  have hp' : tmps[p]?.getD undef = .pointer (some ⟨g, 0, none⟩) := by simpa using hp
  simp only [results, h]
  simp [Sem.run_bind, hp', asAddr, Result.andThen, run_loadVar_row w g t ty cs fr d hg hu hd hi]

theorem twidth_ok (n : Int) (p : Nat) (fr : Nat × Nat) (w : World) (hg : w.heap[p]? = some (.cells (treeRow n) 80 fr)) :
    Calls Tryz.prog 22 #[.pointer (some ⟨p, 0, none⟩)] w fun e w' => e = .returned (.int .i64 n) ∧ w = w' := by
  have hc := cell_of_row w p 0 _ _ _ hg
  rw [show (treeRow n)[0]? = some (.int .i64 n) from rfl] at hc
  clear hg
  go_enter Tryz.func22, Tryz.ntmps22
  go_wp2
  go_ret
  exact ⟨rfl, rfl⟩

theorem rep_yes (n : Int) (h1 : 1 ≤ n) (h2 : n ≤ 5) (w : World) : Calls Tryz.prog 21 #[.int .u8 n] w fun e w' => e = .returned (.bool true) ∧ w = w' := by
  go_enter Tryz.func21, Tryz.ntmps21
  go_wp2
  go_ret
  exact ⟨rfl, rfl⟩
theorem rep_no (n : Int) (h : n < 1 ∨ 5 < n) (w : World) : Calls Tryz.prog 21 #[.int .u8 n] w fun e w' => e = .returned (.bool false) ∧ w = w' := by
  by_cases h1 : n < 1
  · go_enter Tryz.func21, Tryz.ntmps21
    go_wp2
    go_ret
    exact ⟨rfl, rfl⟩
  have h2 : decide (n ≤ 5) = false := by simp; omega
  go_enter Tryz.func21, Tryz.ntmps21
  go_wp2
  go_ret
  exact ⟨rfl, rfl⟩

def zFrame : Value := .agg #[.int .u8 0, .int .u8 0, .int .u8 0, .int .u16 0, .int .u32 0, .int .u64 0, .int .u32 0, .bool false, .string ByteArray.empty]
def termRow (tw wait tries : Int) (short mend : Bool) : Value := .agg #[.int .i64 tw, .int .i64 wait, .int .i64 tries, .bool short, .bool mend]

theorem start_box (w : World) (a b c : Obj) : (((w.alloc a).alloc b).alloc c).heap[w.heap.size + 1 + 1]? = some c := by
  have := heap_alloc_new ((w.alloc a).alloc b) c
  simpa using this

set_option maxHeartbeats 1000000 in
theorem start_nil (i0 i1 i2 f t tw wait tries : Int) (short mend : Bool) (w : World) : Calls Tryz.prog 7 #[idRow i0 i1 i2, .int .u8 f, .int .u8 t, .pointer none, .nilIface, termRow tw wait tries short mend] w fun e w' => e = .returned (.tuple #[.pointer none, zFrame, .int .i64 2]) ∧ Kept No w w' := by
  unfold idRow termRow
  go_enter Tryz.func7, Tryz.ntmps7
  go_wp2_with fail
  exact bodyPost_ret (results_mid rfl _ _ _ _ _ _ _ rfl (start_box _ _ _ _) Tryz.underlying38 rfl (by kernel_rfl)) rfl ⟨rfl, (((Kept.refl _ _).alloc _).alloc _).alloc _⟩

set_option maxHeartbeats 1000000 in
theorem start_hnil (i0 i1 i2 f t tw wait tries : Int) (short mend : Bool) (p : Nat) (w : World) (hm : mend = true) : Calls Tryz.prog 7 #[idRow i0 i1 i2, .int .u8 f, .int .u8 t, .pointer (some ⟨p, 0, none⟩), .nilIface, termRow tw wait tries short mend] w fun e w' => e = .returned (.tuple #[.pointer none, zFrame, .int .i64 2]) ∧ Kept No w w' := by
  subst hm
  unfold idRow termRow
  go_enter Tryz.func7, Tryz.ntmps7
  go_wp2_with fail
  exact bodyPost_ret (results_mid rfl _ _ _ _ _ _ _ rfl (start_box _ _ _ _) Tryz.underlying38 rfl (by kernel_rfl)) rfl ⟨rfl, (((Kept.refl _ _).alloc _).alloc _).alloc _⟩
end Go.Proofs.YtpkadglempbjiaaGreat
