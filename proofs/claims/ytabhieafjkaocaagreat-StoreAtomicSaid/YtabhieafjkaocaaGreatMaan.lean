/- A part. -/
import Derived.Test.YtabhieafjkaocaaGreatMaam
import Derived.Deep.OwnRows
import Derived.Laws.BytesArg
set_option linter.unusedVariables false
set_option linter.unusedSimpArgs false
namespace Go.Proofs.YtabhieafjkaocaaGreat.Bm
open Go.RowKit
theorem u64s_made (n : Nat) : (madeCells #[Value.int .u64 0] n).toList = words (List.replicate n 0) := by
  rw [toList_madeCells_one]; simp [words]
def MadeSet (B : Nat) (w : World) (s n : Nat) (v : Value) (ws : List Nat) : Prop := SetAt w s n v ws ∧ B ≤ s ∧ ∀ g, v.ownBlock = some g → B ≤ g
theorem new_ok (n : Nat) (w : World) (h : n ≤ 65536) :
    Calls Tryz.prog 79 #[.int .i64 (n : Int)] w fun e w' => ∃ s v, e = .returned (.tuple #[.pointer (some ⟨s, 0, none⟩), .int .i64 0]) ∧ Kept No w w' ∧ SetAt w' s n v (List.replicate ((n + 63) / 64) 0) ∧ w.heap.size ≤ s ∧ (∀ g, v.ownBlock = some g → w.heap.size ≤ g) := by
  obtain ⟨i0, hi, hz0, hz1, hz2⟩ := info_parts Tryz.infoU64
  have hd : decide ((n : Int) < 0) = false := by simp
  have hd2 : decide ((65536 : Int) < n) = false := by simp; omega
  go_enter Tryz.func79, Tryz.ntmps79
  go_wp2_with (at_make; refine wpList_make_row w rfl _ _ 141 rfl 26 i0 (.int .u64 0) Tryz.underlying141 hi hz0 hz1 rfl .i64 .i64 ((n + 63) / 64) (by go_num) (by go_num) (by rw [hz2]; omega) (by omega) ?_)
  go_ret2
  have hrow := World.ownsRow_lit (base := 0) (e := 26) (size := 1) w (madeCells #[Value.int .u64 0] ((n + 63) / 64)) ((n + 63) / 64) (Nat.zero_le _) (by unfold maxLen; omega) (by rw [size_madeCells]; omega)
  rw [u64s_made] at hrow
  refine ⟨w.heap.size + 1, .slice (some ⟨w.heap.size, 0, none⟩) ((n + 63) / 64) ((n + 63) / 64), rfl, ((Kept.refl _ _).alloc _).alloc _, ?_, Nat.le_succ _, ?_⟩
  · have := SetAt.made (n := n) (ws := List.replicate ((n + 63) / 64) 0) (by rw [List.length_replicate]; exact hrow) (by simp) h (by intro x hx; rw [List.mem_replicate] at hx; omega)
    simpa using this
  · intro g hg
    simp [Value.ownBlock] at hg
    omega
end Go.Proofs.YtabhieafjkaocaaGreat.Bm
namespace Go.Proofs.YtabhieafjkaocaaGreat.Bm
open Go.RowKit
theorem Tryz.infoU8 : (Tryz.prog.info? 5).map (fun i => (i.zero, i.size, i.bytes)) = some (some (.int .u8 0), 1, 1) := by kernel_rfl
def tb (ws : List Nat) (i : Nat) : Int := ((ws.getD (i / 8) 0 / 2 ^ (8 * (i % 8)) % 256 : Nat) : Int)
def tl (ws : List Nat) (m k : Nat) : List Int := (List.range m).map fun i => if i < k then tb ws i else 0
theorem tl_length (ws : List Nat) (m k : Nat) : (tl ws m k).length = m := by simp [tl]
theorem tl_zero (ws : List Nat) (m : Nat) : tl ws m 0 = List.replicate m 0 := by
  apply List.ext_getElem (by simp [tl])
  intro i h1 h2; simp [tl]
theorem tl_set (ws : List Nat) (m k : Nat) : (tl ws m k).set k (tb ws k) = tl ws m (k + 1) := by
  apply List.ext_getElem (by simp [tl])
  intro i h1 h2
  rw [List.getElem_set]
  by_cases e : k = i
  · subst e; simp [tl]
  · simp only [e, if_false, tl, List.getElem_map, List.getElem_range]
    by_cases h : i < k
    · rw [if_pos h, if_pos (by omega)]
    · rw [if_neg h, if_neg (by omega)]
def bytesV (l : List Int) : List Value := l.map (Value.int .u8)
def told (n : Nat) (ws : List Nat) : ByteArray := strOfNums (tl ws ((n + 7) / 8) ((n + 7) / 8))
set_option maxRecDepth 4000 in
theorem told_ok (s n : Nat) (v : Value) (ws : List Nat) (w : World) (h : SetAt w s n v ws) :
    Calls Tryz.prog 129 #[.pointer (some ⟨s, 0, none⟩)] w fun e w' => e = .returned (.string (told n ws)) ∧ Kept No w w' := by
  obtain ⟨i0, hi, hz0, hz1, hz2⟩ := info_parts Tryz.infoU8
  have hc := h.n_cell
  have hb := h.bound
  obtain ⟨a, cap, rfl⟩ := h.slen
  have H := Lib.hid h
  clear h
  go_enter Tryz.func129, Tryz.ntmps129
  go_wp2_with (at_make; refine wpList_make_row w rfl _ _ 104 rfl 5 i0 (.int .u8 0) Tryz.underlying104 hi hz0 hz1 rfl .i64 .i64 ((n + 7) / 8) (by go_num) (by go_num) (by rw [hz2]; omega) (by omega) ?_)
  have hrow := World.ownsRow_lit (base := w.heap.size) (e := 5) (size := 1) w (madeCells #[Value.int .u8 0] ((n + 7) / 8)) ((n + 7) / 8) (Nat.le_refl _) (by unfold maxLen; omega) (by rw [size_madeCells]; omega)
  have e0 : (madeCells #[Value.int .u8 0] ((n + 7) / 8)).toList = bytesV (tl ws ((n + 7) / 8) 0) := by rw [toList_madeCells_one, tl_zero]; simp [bytesV]
  rw [e0] at hrow
  have HR := Lib.hid hrow
  clear hrow e0
  have HW : Hid (∀ wr, Kept No w wr → SetAt wr s n (.slice a ws.length cap) ws) := fun wr hk => H.out.kept hk (fun h => h) (fun _ _ h => h)
  have hstart : Kept No w (w.alloc (.cells (madeCells #[Value.int .u8 0] ((n + 7) / 8)) 5)) := (Kept.refl _ _).alloc _
  generalize hw0 : w.alloc (.cells (madeCells #[Value.int .u8 0] ((n + 7) / 8)) 5) = w0 at *
  clear hw0
  go_loopw [16] (fun i wr => ∃ k : Nat, k ≤ (n + 7) / 8 ∧ i = .int .i64 k ∧ Kept No w wr ∧ wr.ownsRow w.heap.size 5 1 (.slice (some ⟨w.heap.size, 0, none⟩) ((n + 7) / 8) ((n + 7) / 8)) ((n + 7) / 8) (bytesV (tl ws ((n + 7) / 8) k))) (fun i _ => (n + 7) / 8 - (intOf i).toNat)
  case atStart => exact ⟨0, Nat.zero_le _, rfl, hstart, HR.out⟩
  case round =>
    obtain ⟨k, hk, rfl, hkw, hown⟩ := hrel
    clear hstart HR
    by_cases hlt : k < (n + 7) / 8
    · have hset := HW.out wr hkw
      have hsz := hset.size
      obtain ⟨g, cap1, e1, _, _, hcs, _⟩ := hset.slice' (by omega)
      obtain ⟨rfl, rfl⟩ : a = some ⟨g, 0, none⟩ ∧ cap = cap1 := by simpa using e1
      have hv := hset.v_cell
      have hx := hcs (k / 8) (by omega)
      have hlen : k / 8 < ws.length := by omega
      have hf := hown.frozenAt k
      have hcell := hown.cellAt k (by omega)
      have hcell' : wr.cell? ⟨w.heap.size, k, none⟩ = some (.int .u8 ((tl ws ((n + 7) / 8) k).getD k 0)) := by
        rw [hcell]
        have : k < (tl ws ((n + 7) / 8) k).length := by rw [tl_length]; exact hlt
        simp [bytesV, this]
      obtain ⟨hs1, hs2⟩ := hown.stored k (.int .u8 (tb ws k))
      have eset : (bytesV (tl ws ((n + 7) / 8) k)).set k (.int .u8 (tb ws k)) = bytesV (tl ws ((n + 7) / 8) (k + 1)) := by
        rw [← tl_set]; simp [bytesV, List.map_set]
      rw [eset] at hs1
      have HS := Lib.hid hs1
      have HK : Hid (Kept No w (wr.setCell ⟨w.heap.size, k, none⟩ (.int .u8 (tb ws k)))) := hkw.setCell _ _ (fun h => absurd h (Nat.lt_irrefl _))
      have hltz : ws.length ≤ 65536 := by omega
      generalize hX : ws.getD (k / 8) 0 = X at *
      have hTB : tb ws k = ((X / 2 ^ (8 * (k % 8)) % 256 : Nat) : Int) := by rw [tb, hX]
      have HT := Lib.hid hTB
      clear hcs e1 hcell hs1 hs2 eset hX hTB hset hown hsz hkw
      generalize (tl ws ((n + 7) / 8) k).getD k 0 = old at *
      go_wp2
      go_roundw
      case rel =>
        have hval : ((X : Int) / 2 ^ (8 * (k % 8)) % 256) = tb ws k := by rw [HT.out]; simp
        rw [hval]
        exact ⟨k + 1, by omega, by go_num, HK.out, HS.out⟩
      case measure => simp [intOf]; omega
    · obtain rfl : k = (n + 7) / 8 := by omega
      have hl : (tl ws ((n + 7) / 8) ((n + 7) / 8)).length = (n + 7) / 8 := tl_length _ _ _
      have hconv := run_convert_bytes_arg (P := Tryz.prog) wr 104 5 Tryz.underlying104 Tryz.underlying5 w.heap.size 0 ((n + 7) / 8) ((n + 7) / 8) (tl ws ((n + 7) / 8) ((n + 7) / 8)) hl (fun i hi => by
        rw [Nat.zero_add, hown.cellAt i (by omega)]
        have : i < (tl ws ((n + 7) / 8) ((n + 7) / 8)).length := by omega
        simp [bytesV, this]) 9 Tryz.underlying9
      have HK := Lib.hid hkw
      clear hown hl hkw
      have hnn : decide (((((n + 7) / 8 : Nat)) : Int) < ((n : Int) + 7) / 8) = false := by simp
      go_wp2
      go_ret
      exact ⟨rfl, HK.out⟩
end Go.Proofs.YtabhieafjkaocaaGreat.Bm
namespace Go.Proofs.YtabhieafjkaocaaGreat.Bm
open Go.RowKit
def cut (b : ByteArray) (k : Nat) : Nat := (b.data.toList.getD k 0).toNat
theorem cut_lt (b : ByteArray) (k : Nat) : cut b k < 256 := UInt8.toNat_lt _
def fw (b : ByteArray) (n : Nat) : Nat → List Nat
  | 0 => List.replicate ((n + 63) / 64) 0
  | k + 1 => (fw b n k).set (k / 8) ((fw b n k).getD (k / 8) 0 ||| cut b k * 2 ^ (8 * (k % 8)))
theorem shl_byte (c k : Nat) (hc : c < 256) (hk : k < 8) : c * 2 ^ (8 * k) < 18446744073709551616 := by
  have h1 : 2 ^ (8 * k) ≤ 2 ^ 56 := Nat.pow_le_pow_right (by omega) (by omega)
  have h2 : c * 2 ^ (8 * k) ≤ 255 * 2 ^ 56 := Nat.mul_le_mul (by omega) h1
  omega
theorem wrap_shl (c k : Nat) (hc : c < 256) (hk : k < 8) : IntKind.u64.wrap ((c : Int) * 2 ^ (8 * k)) = ((c * 2 ^ (8 * k) : Nat) : Int) := by
  have := shl_byte c k hc hk
  rw [IntKind.wrap_u64, int_pow2, ← Int.natCast_mul]
  generalize c * 2 ^ (8 * k) = y at *
  omega
theorem or_lt64 (x y : Nat) (hx : x < 18446744073709551616) (hy : y < 18446744073709551616) : x ||| y < 18446744073709551616 := Nat.or_lt_two_pow (n := 64) hx hy
theorem from_ok (n : Nat) (b : ByteArray) (w : World) (hn : n ≤ 65536) (h : b.size = (n + 7) / 8) (htop : n % 64 ≠ 0 → (fw b n b.size).getD (n / 64) 0 / 2 ^ (n % 64) = 0) :
    Calls Tryz.prog 84 #[.int .i64 (n : Int), .string b] w fun e w' => ∃ s v, e = .returned (.tuple #[.pointer (some ⟨s, 0, none⟩), .int .i64 0]) ∧ Kept No w w' ∧ MadeSet w.heap.size w' s n v (fw b n b.size) := by
  have hnew := new_ok n w hn
  have HN := Lib.hid hnew
  have HT := Lib.hid htop
  have hbs : b.size ≤ 65536 := by omega
  have hne : ((b.size : Int) != ((n : Int) + 7) / 8) = false := by rw [bne_eq_false_iff_eq]; omega
  have HB := Lib.hid h
  clear hnew h htop
  go_enter Tryz.func84, Tryz.ntmps84
  go_wp2_with fail
  refine HN.out.mono ?_
  rintro e w' ⟨s, u, rfl, hk, hset, hs, hu⟩
  go_wp2_with fail
  go_loopw [25] (fun i wr => ∃ k : Nat, k ≤ b.size ∧ i = .int .i64 k ∧ Kept No w wr ∧ MadeSet w.heap.size wr s n u (fw b n k)) (fun i _ => b.size - (intOf i).toNat)
  case atStart => exact ⟨0, Nat.zero_le _, rfl, hk, hset, hs, hu⟩
  case round =>
    obtain ⟨k, hkl, rfl, hkw, hm⟩ := hrel
    clear hk hset hs hu HN
    by_cases hlt : k < b.size
    · have hsz := hm.1.size
      have hkk : k / 8 < (fw b n k).length := by rw [hsz]; have := HB.out; omega
      obtain ⟨g, cap, rfl, hgs, hcap, hcs, hfr⟩ := hm.1.slice' (by omega)
      have hv := hm.1.v_cell
      have hx := hcs (k / 8) hkk
      have hf := hfr (k / 8)
      have hw := hm.1.word (k / 8)
      have hlim : (fw b n k).length ≤ 65536 := by rw [hsz]; omega
      have hcb : (b[k].toNat : Nat) = cut b k := by simp [cut, hlt]; rfl
      have hst := hm.1.stored rfl (k / 8) ((fw b n k).getD (k / 8) 0 ||| cut b k * 2 ^ (8 * (k % 8))) (or_lt64 _ _ hw (shl_byte _ _ (cut_lt _ _) (Nat.mod_lt _ (by omega))))
      have HS := Lib.hid hst
      have HM := Lib.hid hm
      have HC := Lib.hid hcb
      have HKW := Lib.hid hkw
      clear hst hm hcs hfr hcb hsz hkw
      generalize hX : (fw b n k).getD (k / 8) 0 = X at *
      have HX := Lib.hid hX
      clear hX
      go_wp2_with fail
      go_region
      go_wp2
      go_roundw
      case rel =>
        have hval : bits .or .u64 (X : Int) (IntKind.u64.wrap (IntKind.u64.wrap (b[k].toNat : Int) * 2 ^ (8 * (k % 8)))) = ((X ||| cut b k * 2 ^ (8 * (k % 8)) : Nat) : Int) := by
          have hc := cut_lt b k
          have h8 : k % 8 < 8 := Nat.mod_lt _ (by omega)
          rw [HC.out, show IntKind.u64.wrap ((cut b k : Nat) : Int) = ((cut b k : Nat) : Int) from by rw [IntKind.wrap_u64]; omega, wrap_shl _ _ hc h8, u64_or_nat _ _ hw (shl_byte _ _ hc h8)]
        rw [hval]
        obtain ⟨h1, h2⟩ := HS.out
        have he : fw b n (k + 1) = (fw b n k).set (k / 8) (X ||| cut b k * 2 ^ (8 * (k % 8))) := by rw [fw, HX.out]
        rw [← he] at h2
        exact ⟨k + 1, by omega, by go_num, HKW.out.next h1 (fun j hj e => by have := HM.out.2.2 j e; omega), h2, HM.out.2⟩
      case measure => simp [intOf]; omega
    · obtain rfl : k = b.size := by omega
      have HM := Lib.hid hm
      have HKW := Lib.hid hkw
      by_cases h64 : n % 64 = 0
      · have hd : ((n : Int) % 64 != 0) = false := by rw [bne_eq_false_iff_eq]; omega
        clear hkw hm
        go_wp2
        go_ret2
        exact ⟨s, u, rfl, HKW.out, HM.out⟩
      · have hd : ((n : Int) % 64 != 0) = true := by rw [bne_iff_ne]; omega
        have hsz := hm.1.size
        have hkk : n / 64 < (fw b n b.size).length := by rw [hsz]; omega
        obtain ⟨g, cap, rfl, hgs, hcap, hcs, hfr⟩ := hm.1.slice' (by omega)
        have hv := hm.1.v_cell
        have hx := hcs (n / 64) hkk
        have hlim : (fw b n b.size).length ≤ 65536 := by rw [hsz]; omega
        have hz := HT.out h64
        clear hcs hfr hsz hm hkw
        generalize hX : (fw b n b.size).getD (n / 64) 0 = X at *
        clear hX
        have hz2 : ((X : Int) / 2 ^ (n % 64) != 0) = false := by rw [bne_eq_false_iff_eq, int_pow2, ← Int.natCast_ediv, hz]; rfl
        clear hz
        go_wp2
        go_ret2
        exact ⟨s, _, rfl, HKW.out, HM.out⟩
end Go.Proofs.YtabhieafjkaocaaGreat.Bm
