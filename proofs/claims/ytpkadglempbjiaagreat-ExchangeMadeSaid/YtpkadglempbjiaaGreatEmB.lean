/- message.Encode of a Hello. -/
import Derived.Test.YtpkadglempbjiaaGreatEmA
namespace Go.Proofs.YtpkadglempbjiaaGreat
open Go.RowKit Go.Lib
set_option linter.unusedVariables false
set_option linter.unusedSimpArgs false
set_option maxRecDepth 100000

set_option maxHeartbeats 4000000 in
theorem encode_hello (n : Nat) (h1 : 1 ≤ n) (h2 : n ≤ 32) (w : World) : Calls Tryz.prog 37 #[.agg (helloRow n)] w fun e w' => e = .returned (.tuple #[.string ⟨#[1, UInt8.ofNat n]⟩, .int .i64 0]) ∧ Kept No w w' := by
  have hval := fun w => valid_hello n (by omega) (by omega) w
  unfold helloRow at hval ⊢
  have HVAL := Lib.hid hval
  clear hval
  go_enter Tryz.func37, Tryz.ntmps37
  go_wp2_with fail
  refine (HVAL.out _).mono ?_
  rintro e w1 ⟨rfl, k1⟩
  have g1 := k1.heap (heap_alloc_new w _) (fun h => h)
  have c0 := cell_of_row w1 w.heap.size 0 _ _ _ g1
  simp only [List.getElem?_toArray, List.getElem?_cons_zero] at c0
  have G1 := Lib.hid g1
  have K1 : Hid (Kept No w w1) := Lib.hid (((Kept.refl No w).alloc _).trans k1)
  clear k1 g1 HVAL
  go_wp2_with fail
  refine (of_1 _).mono ?_
  rintro e w2 ⟨rfl, k2⟩
  have hl2 : w.heap.size < w2.heap.size := lt_of_heap (k2.heap G1.out (fun h => h))
  have hs2 : w.heap.size ≤ w2.heap.size := by omega
  unfold face1
  go_wp2_with fail
  have k3 : Kept No w1 (w2.alloc (.cells #[.func (.func 101) #[] #[], .func (.func 102) #[] #[], .func (.func 103) #[] #[], .func (.func 104) #[] #[]] 165)) := k2.alloc _
  have gf := heap_alloc_new w2 (.cells #[.func (.func 101) #[] #[], .func (.func 102) #[] #[], .func (.func 103) #[] #[], .func (.func 104) #[] #[]] 165)
  have K3 : Hid (Kept No w (w2.alloc (.cells #[.func (.func 101) #[] #[], .func (.func 102) #[] #[], .func (.func 103) #[] #[], .func (.func 104) #[] #[]] 165))) := Lib.hid (K1.out.trans k3)
  have g3 := k3.heap G1.out (fun h => h)
  generalize hw3 : w2.alloc (.cells #[.func (.func 101) #[] #[], .func (.func 102) #[] #[], .func (.func 103) #[] #[], .func (.func 104) #[] #[]] 165) = w3 at k3 gf K3 g3 ⊢
  clear hw3
  have hbf : w.heap.size ≠ w2.heap.size := by omega
  generalize hbn : w.heap.size = b at g3 hbf ⊢
  generalize w2.heap.size = fb at gf hbf ⊢
  have HBN := Lib.hid hbn
  have GF := Lib.hid gf
  have G3 := Lib.hid g3
  have p0 := cell_of_row w3 b 0 _ _ _ g3
  have p1 := cell_of_row w3 b 1 _ _ _ g3
  have p2 := cell_of_row w3 b 2 _ _ _ g3
  have p3 := cell_of_row w3 b 3 _ _ _ g3
  have p4 := cell_of_row w3 b 4 _ _ _ g3
  have p5 := cell_of_row w3 b 5 _ _ _ g3
  have p6 := cell_of_row w3 b 6 _ _ _ g3
  have p7 := cell_of_row w3 b 7 _ _ _ g3
  have p8 := cell_of_row w3 b 8 _ _ _ g3
  have p9 := cell_of_row w3 b 9 _ _ _ g3
  have p10 := cell_of_row w3 b 10 _ _ _ g3
  have p11 := cell_of_row w3 b 11 _ _ _ g3
  have p12 := cell_of_row w3 b 12 _ _ _ g3
  simp only [List.getElem?_toArray, List.getElem?_cons_zero, List.getElem?_cons_succ] at p0 p1 p2 p3 p4 p5 p6 p7 p8 p9 p10 p11 p12
  clear hbn gf g3 k2 k3 c0 G1 K1 hl2 hs2
  go_region_held3 (fun w' => w'.cell? ⟨b, 0, none⟩ = some (.int .u8 1) ∧ w'.cell? ⟨b, 1, none⟩ = some (.int .i64 0) ∧ w'.cell? ⟨b, 2, none⟩ = some (.int .u8 (n : Int)) ∧ w'.cell? ⟨b, 3, none⟩ = some (.int .u16 0) ∧ w'.cell? ⟨b, 4, none⟩ = some (.bool false) ∧ w'.cell? ⟨b, 5, none⟩ = some (.string ByteArray.empty) ∧ w'.cell? ⟨b, 6, none⟩ = some (.string ByteArray.empty) ∧ w'.cell? ⟨b, 7, none⟩ = some (.slice none 0 0) ∧ w'.cell? ⟨b, 8, none⟩ = some (.slice none 0 0) ∧ w'.cell? ⟨b, 9, none⟩ = some (.slice none 0 0) ∧ w'.cell? ⟨b, 10, none⟩ = some (.slice none 0 0) ∧ w'.cell? ⟨b, 11, none⟩ = some (.slice none 0 0) ∧ w'.cell? ⟨b, 12, none⟩ = some (.slice none 0 0)) (first | exact ⟨p0, p1, p2, p3, p4, p5, p6, p7, p8, p9, p10, p11, p12⟩ | exact ⟨e0, e1, e2, e3, e4, e5, e6, e7, e8, e9, e10, e11, e12⟩ | exact ⟨(((Kept.refl No w4).alloc _).cell h4 (fun h => h)).trans e0, (((Kept.refl No w4).alloc _).cell h4 (fun h => h)).trans e1, (((Kept.refl No w4).alloc _).cell h4 (fun h => h)).trans e2, (((Kept.refl No w4).alloc _).cell h4 (fun h => h)).trans e3, (((Kept.refl No w4).alloc _).cell h4 (fun h => h)).trans e4, (((Kept.refl No w4).alloc _).cell h4 (fun h => h)).trans e5, (((Kept.refl No w4).alloc _).cell h4 (fun h => h)).trans e6, (((Kept.refl No w4).alloc _).cell h4 (fun h => h)).trans e7, (((Kept.refl No w4).alloc _).cell h4 (fun h => h)).trans e8, (((Kept.refl No w4).alloc _).cell h4 (fun h => h)).trans e9, (((Kept.refl No w4).alloc _).cell h4 (fun h => h)).trans e10, (((Kept.refl No w4).alloc _).cell h4 (fun h => h)).trans e11, (((Kept.refl No w4).alloc _).cell h4 (fun h => h)).trans e12⟩)
    (first | (go_at_call 57; refine (newWriter_ok _).mono ?_; rintro e w4 ⟨q, v, rfl, k4, hw4⟩; have h4 : b < w4.heap.size := lt_of_heap (k4.heap G3.out (fun h => h)); have e0 := (k4.cell (o := 0) (lt_of_heap G3.out) (fun h => h)).trans p0; have e1 := (k4.cell (o := 1) (lt_of_heap G3.out) (fun h => h)).trans p1; have e2 := (k4.cell (o := 2) (lt_of_heap G3.out) (fun h => h)).trans p2; have e3 := (k4.cell (o := 3) (lt_of_heap G3.out) (fun h => h)).trans p3; have e4 := (k4.cell (o := 4) (lt_of_heap G3.out) (fun h => h)).trans p4; have e5 := (k4.cell (o := 5) (lt_of_heap G3.out) (fun h => h)).trans p5; have e6 := (k4.cell (o := 6) (lt_of_heap G3.out) (fun h => h)).trans p6; have e7 := (k4.cell (o := 7) (lt_of_heap G3.out) (fun h => h)).trans p7; have e8 := (k4.cell (o := 8) (lt_of_heap G3.out) (fun h => h)).trans p8; have e9 := (k4.cell (o := 9) (lt_of_heap G3.out) (fun h => h)).trans p9; have e10 := (k4.cell (o := 10) (lt_of_heap G3.out) (fun h => h)).trans p10; have e11 := (k4.cell (o := 11) (lt_of_heap G3.out) (fun h => h)).trans p11; have e12 := (k4.cell (o := 12) (lt_of_heap G3.out) (fun h => h)).trans p12))
  have hN : w.heap.size ≤ w3.heap.size := K3.out.size
  have hwB : WrAt w3.heap.size w4 q v [] := hw4
  have k34 : Kept No w3 w4 := ((Kept.refl No w3).drew).trans k4
  have gn := heap_alloc_new w4 (.cells #[.int .u8 1, .int .i64 0, .int .u8 (n : Int), .int .u16 0, .bool false, .string ByteArray.empty, .string ByteArray.empty, .slice none 0 0, .slice none 0 0, .slice none 0 0, .slice none 0 0, .slice none 0 0, .slice none 0 0, .pointer (some ⟨q, 0, none⟩), .pointer none] 173)
  have k45 : Kept No w4 (w4.alloc (.cells #[.int .u8 1, .int .i64 0, .int .u8 (n : Int), .int .u16 0, .bool false, .string ByteArray.empty, .string ByteArray.empty, .slice none 0 0, .slice none 0 0, .slice none 0 0, .slice none 0 0, .slice none 0 0, .slice none 0 0, .pointer (some ⟨q, 0, none⟩), .pointer none] 173)) := (Kept.refl _ _).alloc _
  have hw5 := hwB.kept k45 (fun _ _ _ h => h)
  have gb := (k34.trans k45).heap G3.out (fun h => h)
  have gf := (k34.trans k45).heap GF.out (fun h => h)
  have hown : ∀ g, v.ownBlock = some g → w3.heap.size ≤ g ∧ g < w4.heap.size := fun g hg => hwB.row.lt g hg
  have hq := hwB.from_
  have hql : q < w4.heap.size := hwB.lt
  have hbl := lt_of_heap G3.out
  have hfl := lt_of_heap GF.out
  have K5 : Hid (Kept No w (w4.alloc (.cells #[.int .u8 1, .int .i64 0, .int .u8 (n : Int), .int .u16 0, .bool false, .string ByteArray.empty, .string ByteArray.empty, .slice none 0 0, .slice none 0 0, .slice none 0 0, .slice none 0 0, .slice none 0 0, .slice none 0 0, .pointer (some ⟨q, 0, none⟩), .pointer none] 173))) := Lib.hid (K3.out.trans (k34.trans k45))
  have h5s : (w4.alloc (.cells #[.int .u8 1, .int .i64 0, .int .u8 (n : Int), .int .u16 0, .bool false, .string ByteArray.empty, .string ByteArray.empty, .slice none 0 0, .slice none 0 0, .slice none 0 0, .slice none 0 0, .slice none 0 0, .slice none 0 0, .pointer (some ⟨q, 0, none⟩), .pointer none] 173)).heap.size = w4.heap.size + 1 := by simp
  generalize w4.alloc (.cells #[.int .u8 1, .int .i64 0, .int .u8 (n : Int), .int .u16 0, .bool false, .string ByteArray.empty, .string ByteArray.empty, .slice none 0 0, .slice none 0 0, .slice none 0 0, .slice none 0 0, .slice none 0 0, .slice none 0 0, .pointer (some ⟨q, 0, none⟩), .pointer none] 173) = w5 at gn hw5 gb gf K5 h5s ⊢
  generalize w4.heap.size = nb at gn hown hql h5s ⊢
  have c13 := cell_of_row w5 nb 13 _ _ _ gn
  have cb0 := cell_of_row w5 b 0 _ _ _ gb
  simp only [List.getElem?_toArray, List.getElem?_cons_zero, List.getElem?_cons_succ] at c13 cb0
  have HW5 : Hid (WrAt w3.heap.size w5.drew q v []) := ⟨hw5.head, hw5.row, hw5.from_⟩
  have GN := Lib.hid gn
  have GF5 := Lib.hid gf
  have HO := Lib.hid hown
  have H5S := Lib.hid h5s
  clear p0 p1 p2 p3 p4 p5 p6 p7 p8 p9 p10 p11 p12 e0 e1 e2 e3 e4 e5 e6 e7 e8 e9 e10 e11 e12 k4 hw4 hwB k34 gn k45 hw5 gb gf hown h5s
  clear K3 G3 GF h4
  go_wp2_with fail
  go_still_tail 6, (by kernel_rfl)
  repeat still_step
  change wpList _ _ _ _ _ w5.drew
  go_wp2_with fail
  refine (byte_fine w3.heap.size q v [] 1 _ HW5.out (by decide)).mono ?_
  rintro e w6 ⟨v6, rfl, k6, hw6, ho6⟩
  have k56 : Kept (WrM q v) w5 w6 := ((Kept.refl _ w5).drew).trans k6
  have nM : ¬ WrM q v nb := fun h => by
    rcases h with h | h
    · omega
    · have := (HO.out nb h).2; omega
  have nF : ¬ WrM q v fb := fun h => by
    rcases h with h | h
    · omega
    · have := (HO.out fb h).1; omega
  have gn6 := k56.heap GN.out nM
  have cf := cell_of_row w6 fb 2 _ _ _ (k56.heap GF5.out nF)
  have d2 := cell_of_row w6 nb 2 _ _ _ gn6
  have d13 := cell_of_row w6 nb 13 _ _ _ gn6
  simp only [List.getElem?_toArray, List.getElem?_cons_zero, List.getElem?_cons_succ] at cf d2 d13
  have K6 : Hid (Kept No w w6) := Lib.hid (K5.out.next k56 (fun j hj h => by
    rcases h with h | h
    · omega
    · have := (HO.out j h).1; omega))
  have HW6 := Lib.hid hw6
  have HO6 : Hid (∀ g, v6.ownBlock = some g → v.ownBlock = some g ∨ w5.heap.size ≤ g) := Lib.hid ho6
  have GN6 := Lib.hid gn6
  clear k6 hw6 ho6 k56 nF gn6 GF5 c13 cb0 K5 HW5 GN
  go_wp2_with fail
  refine (putwidth_ok w3.heap.size nb q n (by omega) v6 _ _ d2 d13 HW6.out (by decide)).mono ?_
  rintro e w7 ⟨v7, rfl, k7, hw7⟩
  have nM7 : ¬ WrM q v6 nb := fun h => by
    rcases h with h | h
    · omega
    · rcases HO6.out nb h with h | h
      · have := (HO.out nb h).2; omega
      · have := H5S.out; omega
  have f13 := cell_of_row w7 nb 13 _ _ _ (k7.heap GN6.out nM7)
  simp only [List.getElem?_toArray, List.getElem?_cons_zero, List.getElem?_cons_succ] at f13
  have HW7 := Lib.hid hw7
  have K7 : Hid (Kept No w w7) := Lib.hid (K6.out.next k7 (fun j hj h => by
    rcases h with h | h
    · omega
    · rcases HO6.out j h with h | h
      · have := (HO.out j h).1; omega
      · have := H5S.out; omega))
  clear k7 hw7 d2 d13 cf K6 HW6 GN6 HO6 nM nM7
  go_wp2_with fail
  refine (wtold_ok w3.heap.size q _ _ _ HW7.out (by simp)).mono ?_
  rintro e w' ⟨rfl, rfl⟩
  go_wp2_with fail
  go_ret2
  exact ⟨rfl, K7.out⟩
end Go.Proofs.YtpkadglempbjiaaGreat
