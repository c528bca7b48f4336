/- The contract on Told. -/
import Derived.Test.YtagbclijbeodaaaBmC
import Derived.Laws.BytesArg
import Derived.Deep.OwnRows
namespace Go.Proofs.Ytagbclijbeodaaa
open Go.RowKit
set_option linter.unusedVariables false

theorem Try.infoU8 : (Try.prog.info? 5).map (fun i => (i.zero, i.size, i.bytes)) = some (some (.int .u8 0), 1, 1) := by kernel_rfl

/-- byte i of the words. -/
def tb (ws : List Nat) (i : Nat) : Int := ((ws.getD (i / 8) 0 / 2 ^ (8 * (i % 8)) % 256 : Nat) : Int)
/-- the first k of m bytes, behind them 0. -/
def tl (ws : List Nat) (m k : Nat) : List Int := (List.range m).map fun i => if i < k then tb ws i else 0
theorem tl_length (ws : List Nat) (m k : Nat) : (tl ws m k).length = m := by simp [tl]
theorem tl_zero (ws : List Nat) (m : Nat) : tl ws m 0 = List.replicate m 0 := by
  apply List.ext_getElem (by simp [tl])
  intro i h1 h2; simp [tl]
theorem tl_set (ws : List Nat) (m k : Nat) : (tl ws m k).set k (tb ws k) = tl ws m (k + 1) := by
  apply List.ext_getElem (by simp [tl])
  intro i h1 h2
  rw [List.getElem_set]
  by_cases e : k = i
  · subst e; simp [tl]
  · simp only [e, if_false, tl, List.getElem_map, List.getElem_range]
    by_cases h : i < k
    · rw [if_pos h, if_pos (by omega)]
    · rw [if_neg h, if_neg (by omega)]

def bytesV (l : List Int) : List Value := l.map (Value.int .u8)
def told (n : Nat) (ws : List Nat) : ByteArray := strOfNums (tl ws ((n + 7) / 8) ((n + 7) / 8))

theorem byte_wrap (x k : Nat) : IntKind.u8.wrap ((x : Int) / 2 ^ k) = ((x / 2 ^ k % 256 : Nat) : Int) := by
  rw [IntKind.wrap_u8', int_pow2, ← Int.natCast_ediv]; omega

theorem told_ok (s n : Nat) (v : Value) (ws : List Nat) (w : World) (h : SetAt w s n v ws) :
    Calls Try.prog 9 #[.pointer (some ⟨s, 0, none⟩)] w fun e w' => e = .returned (.string (told n ws)) ∧ Kept No w w' := by
  obtain ⟨i0, hi, hz0, hz1, hz2⟩ := info_parts Try.infoU8
  have hc := h.n_cell
  have hb := h.bound
  obtain ⟨a, cap, rfl⟩ := h.slen
  have H := Lib.hid h
  clear h
  go_enter Try.func9, Try.ntmps9
  go_wp2_with (at_make; refine wpList_make_row w rfl _ _ 44 rfl 5 i0 (.int .u8 0) Try.underlying44 hi hz0 hz1 rfl .i64 .i64 ((n + 7) / 8) (by go_num) (by go_num) (by rw [hz2]; omega) (by omega) ?_)
  have hrow := World.ownsRow_lit (base := w.heap.size) (e := 5) (size := 1) w (madeCells #[Value.int .u8 0] ((n + 7) / 8)) ((n + 7) / 8) (Nat.le_refl _) (by unfold maxLen; omega) (by rw [size_madeCells]; omega)
  have e0 : (madeCells #[Value.int .u8 0] ((n + 7) / 8)).toList = bytesV (tl ws ((n + 7) / 8) 0) := by rw [toList_madeCells_one, tl_zero]; simp [bytesV]
  rw [e0] at hrow
  have HR := Lib.hid hrow
  clear hrow e0
  have HW : Hid (∀ wr, Kept No w wr → SetAt wr s n (.slice a ws.length cap) ws) := fun wr hk => H.out.kept hk (fun h => h) (fun _ _ h => h)
  have hstart : Kept No w (w.alloc (.cells (madeCells #[Value.int .u8 0] ((n + 7) / 8)) 5)) := (Kept.refl _ _).alloc _
  generalize hw0 : w.alloc (.cells (madeCells #[Value.int .u8 0] ((n + 7) / 8)) 5) = w0 at *
  clear hw0
  go_loopw [16] (fun i wr => ∃ k : Nat, k ≤ (n + 7) / 8 ∧ i = .int .i64 k ∧ Kept No w wr ∧ wr.ownsRow w.heap.size 5 1 (.slice (some ⟨w.heap.size, 0, none⟩) ((n + 7) / 8) ((n + 7) / 8)) ((n + 7) / 8) (bytesV (tl ws ((n + 7) / 8) k))) (fun i _ => (n + 7) / 8 - (intOf i).toNat)
  case atStart => exact ⟨0, Nat.zero_le _, rfl, hstart, HR.out⟩
  case round =>
    obtain ⟨k, hk, rfl, hkw, hown⟩ := hrel
    clear hstart HR
    by_cases hlt : k < (n + 7) / 8
    · have hset := HW.out wr hkw
      have hsz := hset.size
      obtain ⟨g, cap1, e1, _, _, hcs, _⟩ := hset.slice' (by omega)
      obtain ⟨rfl, rfl⟩ : a = some ⟨g, 0, none⟩ ∧ cap = cap1 := by simpa using e1
      have hv := hset.v_cell
      have hx := hcs (k / 8) (by omega)
      have hlen : k / 8 < ws.length := by omega
      have hf := hown.frozenAt k
      have hcell := hown.cellAt k (by omega)
      have hcell' : wr.cell? ⟨w.heap.size, k, none⟩ = some (.int .u8 ((tl ws ((n + 7) / 8) k).getD k 0)) := by
        rw [hcell]
        have : k < (tl ws ((n + 7) / 8) k).length := by rw [tl_length]; exact hlt
        simp [bytesV, this]
      obtain ⟨hs1, hs2⟩ := hown.stored k (.int .u8 (tb ws k))
      have eset : (bytesV (tl ws ((n + 7) / 8) k)).set k (.int .u8 (tb ws k)) = bytesV (tl ws ((n + 7) / 8) (k + 1)) := by
        rw [← tl_set]; simp [bytesV, List.map_set]
      rw [eset] at hs1
      have HS := Lib.hid hs1
      have HK : Hid (Kept No w (wr.setCell ⟨w.heap.size, k, none⟩ (.int .u8 (tb ws k)))) := hkw.setCell _ _ (fun h => absurd h (Nat.lt_irrefl _))
      have hltz : ws.length ≤ 65536 := by omega
      generalize hX : ws.getD (k / 8) 0 = X at *
      have hTB : tb ws k = ((X / 2 ^ (8 * (k % 8)) % 256 : Nat) : Int) := by rw [tb, hX]
      have HT := Lib.hid hTB
      clear hcs e1 hcell hs1 hs2 eset hX hTB hset hown hsz hkw
      generalize (tl ws ((n + 7) / 8) k).getD k 0 = old at *
      go_wp2
      go_roundw
      case rel =>
        have hval : ((X : Int) / 2 ^ (8 * (k % 8)) % 256) = tb ws k := by rw [HT.out]; simp
        rw [hval]
        exact ⟨k + 1, by omega, by go_num, HK.out, HS.out⟩
      case measure => simp [intOf]; omega
    · obtain rfl : k = (n + 7) / 8 := by omega
      have hl : (tl ws ((n + 7) / 8) ((n + 7) / 8)).length = (n + 7) / 8 := tl_length _ _ _
      have hconv := run_convert_bytes_arg (P := Try.prog) wr 44 5 Try.underlying44 Try.underlying5 w.heap.size 0 ((n + 7) / 8) ((n + 7) / 8) (tl ws ((n + 7) / 8) ((n + 7) / 8)) hl (fun i hi => by
        rw [Nat.zero_add, hown.cellAt i (by omega)]
        have : i < (tl ws ((n + 7) / 8) ((n + 7) / 8)).length := by omega
        simp [bytesV, this]) 9 Try.underlying9
      have HK := Lib.hid hkw
      clear hown hl hkw
      have hnn : decide (((((n + 7) / 8 : Nat)) : Int) < ((n : Int) + 7) / 8) = false := by simp
      go_wp2
      go_ret
      exact ⟨rfl, HK.out⟩

end Go.Proofs.Ytagbclijbeodaaa
