/- A part. -/
import Derived.Test.YtabhieafjkaocaaGreatMaas
import Derived.Test.YtabhieafjkaocaaGreatMaan
import Derived.StillTailTactics
import Derived.Deep.RegionWith
set_option linter.unusedVariables false
set_option linter.unusedSimpArgs false
namespace Go.Proofs.YtabhieafjkaocaaGreat
open Go.RowKit Go.Lib Bm
set_option maxRecDepth 20000
theorem root_index (r : Root8) (k : Nat) (h : k < 8) (w : World) : (Instr.index 53 (.agg ⟨rootC r⟩) (.int .i64 (k : Int))).run Tryz.prog w = .ok (.int .u32 (r.get k : Int)) w := by
  have hi' : k = 0 ∨ k = 1 ∨ k = 2 ∨ k = 3 ∨ k = 4 ∨ k = 5 ∨ k = 6 ∨ k = 7 := by omega
  rcases hi' with rfl | rfl | rfl | rfl | rfl | rfl | rfl | rfl <;> first | rfl | (show _ = _; kernel_rfl) | (simp [Instr.index]; done)
theorem root_size : (Tryz.prog.info? 53).map (·.size) = some 8 := by kernel_rfl
theorem body_ok (u : Nat) (v : Value) (h : HeldM) (w : World) (H : HeldAt w u v h) :
    Calls Tryz.prog 80 #[heldV u h.root] w fun e w' => e = .returned (.string ⟨⟨h.body⟩⟩) ∧ Kept No w w' := by
  have hmost := H.ok.most
  have HH := Lib.hid H
  have HRT := Lib.hid H.ok.small
  clear H
  go_enter Tryz.func80, Tryz.ntmps80
  go_wp2_with fail
  have hA := heap_alloc_new w (.cells #[.pointer (some ⟨u, 0, none⟩), .int .u32 (h.root.a : Int), .int .u32 (h.root.b : Int), .int .u32 (h.root.c : Int), .int .u32 (h.root.d : Int), .int .u32 (h.root.e : Int), .int .u32 (h.root.f : Int), .int .u32 (h.root.g : Int), .int .u32 (h.root.h : Int)] 88)
  have k1 : Kept No w (w.alloc (.cells #[.pointer (some ⟨u, 0, none⟩), .int .u32 (h.root.a : Int), .int .u32 (h.root.b : Int), .int .u32 (h.root.c : Int), .int .u32 (h.root.d : Int), .int .u32 (h.root.e : Int), .int .u32 (h.root.f : Int), .int .u32 (h.root.g : Int), .int .u32 (h.root.h : Int)] 88)) := (Kept.refl _ _).alloc _
  generalize w.alloc (.cells #[.pointer (some ⟨u, 0, none⟩), .int .u32 (h.root.a : Int), .int .u32 (h.root.b : Int), .int .u32 (h.root.c : Int), .int .u32 (h.root.d : Int), .int .u32 (h.root.e : Int), .int .u32 (h.root.f : Int), .int .u32 (h.root.g : Int), .int .u32 (h.root.h : Int)] 88) = w1 at *
  generalize hA' : w.heap.size = A at *
  have HAE := Lib.hid hA'
  clear hA'
  refine (newWriter_ok w1).mono ?_
  rintro e w2 ⟨p, v0, rfl, k2, hw2⟩
  have hBw := k1.size
  have hA2 := k2.heap hA (fun h => h)
  have HA2 := Lib.hid hA2
  have hAlt := lt_of_heap hA
  have K2 := Lib.hid (k1.trans k2)
  generalize hB : w1.heap.size = B at *
  clear hB hA k1 k2
  have c0 := (cell_of_row w2 A 0 _ _ _ hA2).trans rfl
  have HS2 := Lib.hid (HH.out.set.kept K2.out (fun h => h) (fun _ _ h => h))
  have HW2 := Lib.hid hw2
  clear hw2 hA2
  have hwu : IntKind.u64.wrap (h.n : Int) = (h.n : Int) := by rw [IntKind.wrap_u64]; omega
  go_wp2_with (go_at_call 44; refine (len_any u h.n v h.ws _ HS2.out).mono ?_; rintro e w' ⟨rfl, rfl⟩)
  refine (fixed_ok B p v0 [] h.n 4 w2 HW2.out (by omega) (by decide) (by decide) (by rw [show (2 : Nat) ^ (8 * 4) = 4294967296 from rfl]; omega) (by simp)).mono ?_
  rintro e w3 ⟨v1, rfl, k3, hw3⟩
  have hA3 := k3.heap HA2.out (by omega)
  have K3 := Lib.hid (K2.out.next k3 (fun k hk e => by have := HAE.out; omega))
  have HW3 := Lib.hid hw3
  clear k3 hw3 HW2 HS2 HA2 K2 c0
  have HA3 := Lib.hid hA3
  clear hA3
  have hix := root_index h.root
  have HIX := Lib.hid hix
  clear hix
  go_wp2_with (refine wpList_load_part (by rfl) 53 (.tmp 13) (by rfl) A 1 (by rfl) _ _ (rootC h.root) _ _ HA3.out Tryz.underlying53 (by rfl) (by exact root_size) (by exact part_of [_] (rootC h.root) []) ?_)
  go_loopw [15] (fun i wr => ∃ (k : Nat) (v' : Value), k ≤ 8 ∧ i = .int .i64 (k : Int) ∧ WrAt B wr p v' (be h.n 4 ++ (h.root.list.take k).flatMap fun x => be x 4) ∧ Kept No w wr ∧ Kept (fun j => B ≤ j) w3 wr) (fun i _ => 8 - (intOf i).toNat)
  case atStart => exact ⟨0, v1, by omega, rfl, by simpa using HW3.out, K3.out, Kept.refl _ _⟩
  case round =>
    obtain ⟨k, v', hk, rfl, hw, kw, kb⟩ := hrel
    have KB := Lib.hid kb
    clear kb
    have HW := Lib.hid hw
    have KW := Lib.hid kw
    clear hw kw
    by_cases hlt : k < 8
    · have hx := HIX.out k hlt
      have hsm := HRT.out k hlt
      have hsnoc : h.root.list.take (k + 1) = h.root.list.take k ++ [h.root.get k] := by
        match k, hlt with
        | 0, _ | 1, _ | 2, _ | 3, _ | 4, _ | 5, _ | 6, _ | 7, _ => rfl
      have HSN := Lib.hid hsnoc
      clear hsnoc
      have hll : (be h.n 4 ++ (h.root.list.take k).flatMap fun x => be x 4).length < 1000 := by
        have : ∀ l : List Nat, (l.flatMap fun x => be x 4).length = 4 * l.length := fun l => by
          induction l with
          | nil => rfl
          | cons a l ih => simp [be_length, ih]; omega
        rw [List.length_append, be_length, this, List.length_take]
        omega
      generalize hX : h.root.get k = X at *
      have hwx : IntKind.u64.wrap (X : Int) = (X : Int) := by rw [IntKind.wrap_u64]; omega
      generalize hL : (be h.n 4 ++ (h.root.list.take k).flatMap fun x => be x 4) = L at *
      have HL := Lib.hid hL
      clear hL hX
      go_wp2_with fail
      refine (fixed_ok B p v' L X 4 wr HW.out (by omega) (by decide) (by decide) (by rw [show (2 : Nat) ^ (8 * 4) = 4294967296 from rfl]; omega) (by omega)).mono ?_
      rintro e w6 ⟨v6, rfl, k6, hw6⟩
      have K6 := Lib.hid (KW.out.next k6 (fun k hk e => by have := HAE.out; omega))
      have HW6 := Lib.hid hw6
      have KB6 := Lib.hid (KB.out.trans k6)
      clear k6 hw6 HW KW hll KB
      go_wp2_with fail
      go_roundw
      case rel =>
        refine ⟨k + 1, v6, by omega, by first | rfl | go_num, ?_, K6.out, KB6.out⟩
        have := HW6.out
        rw [← HL.out, List.append_assoc] at this
        rw [HSN.out, List.flatMap_append]
        simpa using this
      case measure => simp [intOf]; omega
    · obtain rfl : k = 8 := by omega
      have hA6 := KB.out.heap HA3.out (by omega)
      have c0 := (cell_of_row wr A 0 _ _ _ hA6).trans rfl
      have HS6 := Lib.hid (HH.out.set.kept KW.out (fun h => h) (fun _ _ h => h))
      have hll : (be h.n 4 ++ (h.root.list.take 8).flatMap fun x => be x 4).length = 36 := by
        simp [Root8.list, be_length]
      have hbd : h.body = (be h.n 4 ++ (h.root.list.take 8).flatMap fun x => be x 4) ++ toldL h.n h.ws := rfl
      have htl := toldL_len h.n h.ws
      have hts : (told h.n h.ws).size = (h.n + 7) / 8 := told_size h.n h.ws
      generalize hL : (be h.n 4 ++ (h.root.list.take 8).flatMap fun x => be x 4) = L at *
      have HBD := Lib.hid hbd
      clear hL hbd hA6
      go_wp2_with fail
      refine (told_ok u h.n v h.ws wr HS6.out).mono ?_
      rintro e w7 ⟨rfl, k7⟩
      have HW7 := Lib.hid (HW.out.kept k7 (fun _ _ _ h => h))
      have K7 := Lib.hid (KW.out.trans k7)
      clear k7 HW KW c0 HS6
      go_wp2_with fail
      refine (raw_ok B p v' L (told h.n h.ws) w7 HW7.out (by omega)).mono ?_
      rintro e w8 ⟨v8, rfl, k8, hw8⟩
      have K8 := Lib.hid (K7.out.next k8 (fun k hk e => by have := HAE.out; omega))
      have HW8 := Lib.hid hw8
      clear k8 hw8 HW7 K7
      go_wp2_with fail
      refine (wtold_ok B p v8 _ w8 HW8.out (by rw [List.length_append]; have : (told h.n h.ws).data.toList.length = (h.n + 7) / 8 := htl; omega)).mono ?_
      rintro e w9 ⟨rfl, rfl⟩
      go_wp2_with fail
      go_ret
      rw [HBD.out]
      exact ⟨rfl, K8.out⟩
theorem act_keeps (m : DiskM) : m.act.1.pend = m.pend ∧ m.act.1.lies = m.lies := by
  unfold DiskM.act
  split
  · split <;> exact ⟨rfl, rfl⟩
  · exact ⟨rfl, rfl⟩
theorem sync_len (m : DiskM) : (m.sync).1.lies.length = m.lies.length := by
  unfold DiskM.sync
  split
  · rfl
  · split
    · rw [(act_keeps m).2]
    · show m.act.1.landed.length = _
      unfold DiskM.landed
      rw [DiskM.landed_length, (act_keeps m).2]
theorem act_off (m : DiskM) (h : m.act.2 = 0) : m.act.1.off = m.off := by
  unfold DiskM.act at h ⊢
  split
  · split
    · rename_i h1 h2; rw [if_pos h1, if_pos h2] at h; cases h
    · rfl
  · rfl
theorem sync_done (m : DiskM) (h : (m.sync).2 = 0) : (m.sync).1.off = false ∧ (m.sync).1.pend = [] := by
  unfold DiskM.sync at h ⊢
  split
  · rename_i h1; rw [if_pos h1] at h; exact absurd h h1
  · rename_i h1
    rw [if_neg h1] at h
    split
    · rename_i h2; rw [if_pos h2] at h; exact absurd h h2
    · rename_i h2
      refine ⟨?_, rfl⟩
      show m.act.1.off = false
      rw [act_off m (by simpa using h2)]
      have h3 : m.ready 0 = 0 := by simpa using h1
      unfold DiskM.ready at h3
      cases ho : m.off
      · rfl
      · rw [ho, if_pos rfl] at h3; cases h3
theorem layM_len (serial : Nat) (x : DiskM × Int) (n : Nat) (k : UInt8) (b : List UInt8) : (layM serial x n k b).1.lies.length = x.1.lies.length := by
  unfold layM
  split
  · rfl
  · split
    · rfl
    · exact (write_pend _ _ _).2
theorem laysM_len (first serial : Nat) : ∀ (l : List PageV) (i : Nat) (x : DiskM × Int), (laysM first serial i l x).1.lies.length = x.1.lies.length
  | [], _, _ => rfl
  | p :: l, i, x => by
    show (laysM first serial (i + 1) l (layM serial x (first + 1 + i) 67 p.body)).1.lies.length = _
    rw [laysM_len first serial l, layM_len]
theorem putM_len (m : DiskM) (first : Nat) (count : Int) (serial : Nat) (l : List PageV) : (putM m first count serial l).1.lies.length = m.lies.length := by
  unfold putM
  simp only
  split
  · rw [layM_len, laysM_len]
  · rw [sync_len, layM_len, laysM_len]
theorem putM_done (m : DiskM) (first : Nat) (count : Int) (serial : Nat) (l : List PageV) (h : (putM m first count serial l).2 = 0) : (putM m first count serial l).1.off = false ∧ (putM m first count serial l).1.pend = [] := by
  unfold putM at h ⊢
  simp only at h ⊢
  split
  · rename_i h1; rw [if_pos h1] at h; exact absurd h h1
  · rename_i h1; rw [if_neg h1] at h; exact sync_done _ h
theorem homeW_len (cnt serial : Nat) : ∀ (l : List PageV) (m : DiskM), (homeW cnt serial l m).1.lies.length = m.lies.length
  | [], m => sync_len m
  | p :: l, m => by
    unfold homeW
    split
    · rfl
    · simp only
      split
      · exact (write_pend _ _ _).2
      · rw [homeW_len cnt serial l, (write_pend _ _ _).2]
theorem homeW_done (cnt serial : Nat) : ∀ (l : List PageV) (m : DiskM), (homeW cnt serial l m).2 = 0 → (homeW cnt serial l m).1.off = false ∧ (homeW cnt serial l m).1.pend = []
  | [], m, h => sync_done m h
  | p :: l, m, h => by
    unfold homeW at h ⊢
    split
    · rename_i h1; rw [if_pos h1] at h; cases h
    · rename_i h1
      rw [if_neg h1] at h
      simp only at h ⊢
      split
      · rename_i h2; rw [if_pos h2] at h; exact absurd h h2
      · rename_i h2; rw [if_neg h2] at h; exact homeW_done cnt serial l _ h
def layoutM (dm : DiskM) (cnt n serial : Nat) : DiskM × Int :=
  let a := putM dm 0 (cnt : Int) serial [(HeldM.fresh n).page]
  if a.2 ≠ 0 then a else homeW cnt serial [(HeldM.fresh n).page] a.1
theorem page_fits (h : HeldM) (ho : h.n ≤ 4096) : h.page.body.length ≤ 996 := by
  show h.body.length ≤ 996
  rw [h.body_len]; omega
theorem room_two (cnt : Nat) (h : 2 ≤ cnt) : 1 ≤ room (cnt : Int) := by unfold room; omega
theorem fit_head (h : HeldM) (cnt : Nat) (ho : h.n ≤ 4096) (hc : 2 ≤ cnt) : Fit cnt [h.page] :=
  ⟨by simp, by simpa using room_two cnt hc, fun i hi => by simp at hi, fun p hp => by simp at hp; subst hp; exact page_fits h ho⟩
def HeadOut (w w' : World) (x' : DiskH) (dm' : DiskM) (e : Int) (n : Nat) (v : Value) : Prop :=
  if e = 0 then ∃ b, v = pageSlice b ∧ w.heap.size ≤ b ∧ BytesAt w' b (dm'.view n) else v = .slice none 0 0
theorem pages_one (w : World) (p : PageV) (hp : PageOk p) (cs : Array Value) (hcs : cs = pageRow p) : PagesAt (w.alloc (.cells cs 28)) (.slice (some ⟨w.heap.size, 0, none⟩) 1 1) [p] := by
  subst hcs
  have h := World.ownsRow_lit (base := 0) (e := 28) (size := 4) w (pageRow p) 1 (Nat.zero_le _) (by unfold maxLen; omega) rfl
  refine ⟨?_, fun q hq => by simp at hq; subst hq; exact hp, by simp⟩
  have e : pageCells [p] = (pageRow p).toList := by simp [pageCells]
  rw [e]
  exact h
theorem head_ok (h : HeldM) (ho : h.n ≤ 4096) : PageOk h.page := ⟨by show 0 < 4294967296; decide, by show 0 < 18446744073709551616; decide, by have := page_fits h ho; omega⟩
set_option maxHeartbeats 2000000 in
theorem layout_ok (s cnt n serial : Nat) (x : DiskH) (dm : DiskM) (w : World) (h : SdAt w s x.d cnt) (hx : DiskAt w x dm) (hn2 : 2 ≤ n) (hn : n ≤ 4096) (hs0 : 0 < serial) (hser : serial ≤ 4611686018427387904) (hlen : cnt < dm.lies.length) (hp : dm.pend.length < 100000) :
    Calls Tryz.prog 50 #[.pointer (some ⟨s, 0, none⟩), .int .i64 (n : Int), .int .u64 (serial : Int)] w fun e w' => ∃ (x' : DiskH) (v : Value),
      e = .returned (.tuple #[v, .int .i64 (layoutM dm cnt n serial).2]) ∧ Kept x.foot w w' ∧ DiskAt w' x' (layoutM dm cnt n serial).1 ∧ x'.d = x.d ∧ (∀ g, x'.foot g → x.foot g ∨ w.heap.size ≤ g) ∧ HeadOut w w' x' (layoutM dm cnt n serial).1 (layoutM dm cnt n serial).2 cnt v := by
  have hcnt := h.count
  generalize hL : layoutM dm cnt n serial = L
  have HL := Lib.hid hL
  clear hL
  have hmost := hx.most
  have hfo := HeldM.fresh_ok n hn2 hn
  have HFO := Lib.hid hfo
  have HX := Lib.hid hx
  have H := Lib.hid h
  clear h hx hfo
  go_enter Tryz.func50, Tryz.ntmps50
  go_wp2_with fail
  refine (new_ok n w (by omega)).mono ?_
  rintro e w1 ⟨t, tv, rfl, k1, hset, ht, htv⟩
  have HSET := Lib.hid hset
  have HHA : HeldAt w1 t tv (HeldM.fresh n) := ⟨hset, HFO.out⟩
  have HHA := Lib.hid HHA
  have K1 := Lib.hid k1
  clear hset k1 HSET
  go_wp2_with fail
  refine (body_ok t tv (HeldM.fresh n) w1 HHA.out).mono ?_
  rintro e w2 ⟨rfl, k2⟩
  have K2 := Lib.hid (K1.out.trans k2)
  clear k2 K1
  have hpg : (HeldM.fresh n).page = (HeldM.fresh n).page := rfl
  go_wp2_with fail
  have hpages := pages_one w2 (HeldM.fresh n).page (head_ok _ hn) #[.int .u8 83, .int .u32 0, .int .u64 0, .string ⟨⟨(HeldM.fresh n).body⟩⟩] rfl
  have ka : Kept No w2 (w2.alloc (.cells #[.int .u8 83, .int .u32 0, .int .u64 0, .string ⟨⟨(HeldM.fresh n).body⟩⟩] 28)) := (Kept.refl _ _).alloc _
  have K3 := Lib.hid (K2.out.trans ka)
  have hw2 := K2.out.size
  clear ka K2
  generalize w2.alloc (.cells #[.int .u8 83, .int .u32 0, .int .u64 0, .string ⟨⟨(HeldM.fresh n).body⟩⟩] 28) = w3 at *
  generalize w2.heap.size = P at *
  have HPG := Lib.hid hpages
  have HXL := Lib.hid (fun g (h : x.foot g) => HX.out.foot_lt h)
  have HX3 := Lib.hid (HX.out.kept K3.out (fun _ _ h => h))
  have H3 := Lib.hid (H.out.kept K3.out (fun h => h))
  obtain ⟨c0, c1⟩ := H3.out.cells
  clear hpages HX H HHA
  go_still_tail 10, (by kernel_rfl)
  repeat still_step
  change wpList _ _ _ _ _ w3.drew
  go_wp2_with fail
  have kd : Kept No w3 w3.drew := (Kept.refl _ _).drew
  refine (put_ok2 x dm 0 cnt serial _ [(HeldM.fresh n).page] w3.drew (HX3.out.kept kd (fun _ _ h => h)) (HPG.out.kept kd (fun _ _ h => h)) (fit_head _ _ hn hcnt.1) hs0 hser (by omega) (by omega) (by simp; omega) (by omega) (HX3.out.not_row HPG.out.row (by decide) (by decide) (by decide))).mono ?_
  rintro e w4 ⟨x1, rfl, k4, hd4, hs4, hf4⟩
  have H3d := H3.out.kept kd (fun h => h)
  have HX3d := HX3.out.kept kd (fun _ _ h => h)
  have H4 := Lib.hid (show SdAt w4 s x1.d cnt from hs4 ▸ H3d.kept k4 (H3d.not_foot HX3d))
  have HPG4 := Lib.hid ((HPG.out.kept kd (fun _ _ h => h)).kept k4 (HX3d.not_row (HPG.out.kept kd (fun _ _ h => h)).row (by decide) (by decide) (by decide)))
  have K4 := Lib.hid (((K3.out.trans kd).of_no x.foot).trans k4)
  have hsz4 : w.heap.size ≤ w3.drew.heap.size := (K3.out.trans kd).size
  have F4 := Lib.hid (show ∀ g, x1.foot g → x.foot g ∨ w.heap.size ≤ g from fun g hg => (hf4 g hg).imp id (fun e => by omega))
  have HD4 := Lib.hid hd4
  have hlen4 := putM_len dm 0 (cnt : Int) serial [(HeldM.fresh n).page]
  have hdone := putM_done dm 0 (cnt : Int) serial [(HeldM.fresh n).page]
  have hLd : layoutM dm cnt n serial = if (putM dm 0 (cnt : Int) serial [(HeldM.fresh n).page]).2 ≠ 0 then putM dm 0 (cnt : Int) serial [(HeldM.fresh n).page] else homeW cnt serial [(HeldM.fresh n).page] (putM dm 0 (cnt : Int) serial [(HeldM.fresh n).page]).1 := rfl
  rw [HL.out] at hLd
  have HLD := Lib.hid hLd
  have HDONE := Lib.hid hdone
  clear k4 hd4 hf4 H3d HX3d H3 HX3 HPG K3 kd hLd hdone c0 c1 HL
  generalize putM dm 0 (cnt : Int) serial [(HeldM.fresh n).page] = pm at *
  by_cases hz : pm.2 = 0
  · have hz1 : (pm.2 != 0) = false := by simp [hz]
    have hz2 : (pm.2 == 0) = true := by simp [hz]
    have hLh : L = homeW cnt serial [(HeldM.fresh n).page] pm.1 := by have := HLD.out; rw [if_neg (by simp [hz])] at this; exact this
    have HLH := Lib.hid hLh
    obtain ⟨po, pp⟩ := HDONE.out hz
    have PP := Lib.hid pp
    clear hz hLh po pp HLD HDONE
    go_wp2_with fail
    refine (home_ok s cnt x1 pm.1 serial _ [(HeldM.fresh n).page] w4 H4.out HD4.out HPG4.out (by simp) (fun p hp => by simp at hp; subst hp; exact page_fits _ hn) hser (by rw [PP.out]; simp)).mono ?_
    rintro e w5 ⟨x2, rfl, k5, hd5, hs5, hf5⟩
    have hlen5 := homeW_len cnt serial [(HeldM.fresh n).page] pm.1
    have hdone := homeW_done cnt serial [(HeldM.fresh n).page] pm.1
    rw [← HLH.out] at hd5 hlen5 hdone ⊢
    have H5 := Lib.hid (show SdAt w5 s x2.d cnt from hs5 ▸ H4.out.kept k5 (H4.out.not_foot HD4.out))
    have K5 := Lib.hid (K4.out.next k5 (fun g hg e => (F4.out g e).resolve_right (by omega)))
    have hsz5 := K4.out.size
    have F5 := Lib.hid (show ∀ g, x2.foot g → x.foot g ∨ w.heap.size ≤ g from fun g hg => (hf5 g hg).elim (F4.out g) (fun e => .inr (by omega)))
    have HD5 := Lib.hid hd5
    have HDONE := Lib.hid hdone
    have HS5 := Lib.hid (hs5.trans hs4)
    clear k5 hd5 hf5 hdone hs5 hs4 K4 F4 HD4 H4 HPG4 PP HLH
    by_cases hz : L.2 = 0
    · have hz3 : (L.2 != 0) = false := by simp [hz]
      have hz4 : (L.2 == 0) = true := by simp [hz]
      have HZ := Lib.hid hz
      have hready : L.1.ready (cnt : Int) = 0 := by
        unfold DiskM.ready
        rw [(HDONE.out hz).1, if_neg (by simp), if_neg (by omega)]
      have HRDY := Lib.hid hready
      obtain ⟨c0, c1⟩ := H5.out.cells
      have hts := types_373
      have hmt : ∀ w, (method 373 24 (.pointer (some ⟨x2.d, 0, none⟩)) "Read").run Tryz.prog w = .ok (212, .pointer (some ⟨x2.d, 0, none⟩)) w := fun w => dev_method_read x2.d w
      have hcf : ∀ w (i : Int), (callFunc 212 #[.pointer (some ⟨x2.d, 0, none⟩), .int .i64 i]).run Tryz.prog w = .ok (.enter 212 #[.pointer (some ⟨x2.d, 0, none⟩), .int .i64 i]) w := fun w i => by kernel_rfl
      clear hz hready
      go_wp2_with fail
      go_region_with (first | (go_at_call 212; refine (dread_ok x2 L.1 cnt _ (HD5.out.kept (Kept.refl No w5).drew (fun _ _ h => h)) HRDY.out (by omega)).mono ?_; rintro e w' ⟨b, rfl, k', hbn, hb⟩; have K' := Lib.hid ((Kept.refl No w5).drew.trans k'); have HBN := Lib.hid hbn; have HBY := Lib.hid hb; clear k' hbn hb))
      all_goals
        go_wp2
        go_ret2
        have hbn := HBN.out
        have hsz := K5.out.size
        have hwd : w5.drew.heap.size = w5.heap.size := rfl
        refine ⟨x2, _, by rw [HZ.out]; rfl, K5.out.next K'.out (fun _ _ h => h.elim), HD5.out.kept K'.out (fun _ _ h => h), HS5.out, F5.out, ?_⟩
        unfold HeadOut
        rw [if_pos HZ.out]
        exact ⟨b, rfl, by omega, HBY.out⟩
    · have hz3 : (L.2 != 0) = true := by simp [hz]
      have hz4 : (L.2 == 0) = false := by simp [hz]
      have HZ := Lib.hid hz
      clear hz
      go_wp2_with fail
      go_ret2
      refine ⟨x2, _, rfl, K5.out, HD5.out, HS5.out, F5.out, ?_⟩
      unfold HeadOut
      rw [if_neg HZ.out]
      rfl
  · have hz1 : (pm.2 != 0) = true := by simp [hz]
    have hz2 : (pm.2 == 0) = false := by simp [hz]
    have hLh : L = pm := by have := HLD.out; rw [if_pos hz] at this; exact this
    subst hLh
    have HZ := Lib.hid hz
    clear hz HLD HDONE
    go_wp2_with fail
    go_ret2
    refine ⟨x1, _, rfl, K4.out, HD4.out, hs4, F4.out, ?_⟩
    unfold HeadOut
    rw [if_neg HZ.out]
    rfl
theorem fixed_part {s pre post : List UInt8} {x pos : Nat} (hs : s = pre ++ (be x 4 ++ post)) (hp : pre.length = pos) (hx : x < 4294967296) : (Rd.mk s pos 0).fixed 4 = (⟨s, pos + 4, 0⟩, x) := by
  have hl : s.length = pos + 4 + post.length := by rw [hs]; simp [be_length, hp]; omega
  have hd : s.drop pos = be x 4 ++ post := drop_of hs hp
  have ht : (s.drop pos).take 4 = be x 4 := take_of hd (be_length _ _)
  have htk : (Rd.mk s pos 0).take 4 = (⟨s, pos + 4, 0⟩, some (be x 4)) := by
    unfold Rd.take
    simp only [ne_eq, not_true_eq_false, if_false]
    rw [if_neg (by omega), ht]
  unfold Rd.fixed
  rw [htk]
  show (_, num (be x 4)) = _
  rw [num_be, Nat.mod_eq_of_lt (by rw [show (256 : Nat) ^ 4 = 4294967296 from rfl]; exact hx)]
theorem rd_n (h : HeldM) (o : h.Ok) : (Rd.mk h.body 0 0).fixed 4 = (⟨h.body, 4, 0⟩, h.n) := by
  have := o.most
  exact fixed_part (pre := []) (post := (h.root.list.flatMap fun x => be x 4) ++ toldL h.n h.ws) (by simp [HeldM.body]) rfl (by omega)
theorem rd_root (h : HeldM) (o : h.Ok) (k : Nat) (hk : k < 8) : (Rd.mk h.body (4 + 4 * k) 0).fixed 4 = (⟨h.body, 4 + 4 * (k + 1), 0⟩, h.root.get k) := by
  have hsm := o.small k hk
  have e : h.body = (be h.n 4 ++ (h.root.list.take k).flatMap fun x => be x 4) ++ (be (h.root.get k) 4 ++ ((h.root.list.drop (k + 1)).flatMap fun x => be x 4) ++ toldL h.n h.ws) := by
    have hi' : k = 0 ∨ k = 1 ∨ k = 2 ∨ k = 3 ∨ k = 4 ∨ k = 5 ∨ k = 6 ∨ k = 7 := by omega
    clear hsm
    rcases hi' with rfl | rfl | rfl | rfl | rfl | rfl | rfl | rfl <;> simp [HeldM.body, Root8.list, Root8.get]
  have hl : (be h.n 4 ++ (h.root.list.take k).flatMap fun x => be x 4).length = 4 + 4 * k := by
    have hf : ∀ l : List Nat, (l.flatMap fun x => be x 4).length = 4 * l.length := fun l => by
      induction l with
      | nil => rfl
      | cons a l ih => simp [be_length, ih]; omega
    rw [List.length_append, be_length, hf, List.length_take]
    simp [Root8.list]; omega
  have := fixed_part (s := h.body) (x := h.root.get k) (post := ((h.root.list.drop (k + 1)).flatMap fun x => be x 4) ++ toldL h.n h.ws) (e.trans (by simp only [List.append_assoc])) hl hsm
  rw [this]
  rfl
theorem rd_rest (h : HeldM) : (Rd.mk h.body 36 0).raw (h.body.length - 36) = (⟨h.body, h.body.length, 0⟩, toldL h.n h.ws) := by
  have hl := h.body_len
  have e : h.body = (be h.n 4 ++ (h.root.list.flatMap fun x => be x 4)) ++ toldL h.n h.ws := rfl
  have hp : (be h.n 4 ++ (h.root.list.flatMap fun x => be x 4)).length = 36 := by simp [Root8.list, be_length]
  have hd : h.body.drop 36 = toldL h.n h.ws := drop_of e hp
  have ht : (h.body.drop 36).take (h.body.length - 36) = toldL h.n h.ws := by
    rw [hd, List.take_of_length_le (by rw [toldL_len]; omega)]
  have htk : (Rd.mk h.body 36 0).take (h.body.length - 36) = (⟨h.body, h.body.length, 0⟩, some (toldL h.n h.ws)) := by
    unfold Rd.take
    simp only [ne_eq, not_true_eq_false, if_false]
    rw [if_neg (by omega), ht]
    congr 2
    omega
  unfold Rd.raw
  rw [htk]
  rfl
theorem held_row (p : Value) (r : Root8) (i x : Nat) (hi : i < 8) :
    (#[p, .int .u32 (r.a : Int), .int .u32 (r.b : Int), .int .u32 (r.c : Int), .int .u32 (r.d : Int), .int .u32 (r.e : Int), .int .u32 (r.f : Int), .int .u32 (r.g : Int), .int .u32 (r.h : Int)] : Array Value).setIfInBounds (1 + i) (.int .u32 (x : Int)) =
    #[p, .int .u32 ((r.set i x).a : Int), .int .u32 ((r.set i x).b : Int), .int .u32 ((r.set i x).c : Int), .int .u32 ((r.set i x).d : Int), .int .u32 ((r.set i x).e : Int), .int .u32 ((r.set i x).f : Int), .int .u32 ((r.set i x).g : Int), .int .u32 ((r.set i x).h : Int)] := by
  have hi' : i = 0 ∨ i = 1 ∨ i = 2 ∨ i = 3 ∨ i = 4 ∨ i = 5 ∨ i = 6 ∨ i = 7 := by omega
  rcases hi' with rfl | rfl | rfl | rfl | rfl | rfl | rfl | rfl <;> simp [Root8.set]
abbrev heldC (p : Value) (r : Root8) : Array Value := #[p, .int .u32 (r.a : Int), .int .u32 (r.b : Int), .int .u32 (r.c : Int), .int .u32 (r.d : Int), .int .u32 (r.e : Int), .int .u32 (r.f : Int), .int .u32 (r.g : Int), .int .u32 (r.h : Int)]
structure RgtIn (w wr : World) (q A R B : Nat) (h : HeldM) (number serial k : Nat) : Prop where
  page : wr.heap[A]? = some (.cells #[.int .u8 83, .int .u32 (number : Int), .int .u64 (serial : Int), .string ⟨⟨h.body⟩⟩] 28 (0, 0))
  res : wr.heap[R]? = some (.cells #[.pointer none, .int .u32 0, .int .u32 0, .int .u32 0, .int .u32 0, .int .u32 0, .int .u32 0, .int .u32 0, .int .u32 0] 88 (0, 0))
  hb : wr.heap[B]? = some (.cells (heldC (.pointer none) (h.root.upto k)) 88 (0, 0))
  rd : RdAt wr q ⟨h.body, 4 + 4 * k, 0⟩
  kept : Kept No w wr
set_option maxHeartbeats 2000000 in
theorem rightH_ok (h : HeldM) (o : h.Ok) (number serial : Nat) (w : World) :
    Calls Tryz.prog 52 #[.agg #[.int .u8 83, .int .u32 (number : Int), .int .u64 (serial : Int), .string ⟨⟨h.body⟩⟩], .int .i64 (h.n : Int)] w fun e w' => ∃ (u : Nat) (v : Value), e = .returned (.tuple #[heldV u h.root, .bool true]) ∧ Kept No w w' ∧ HeldAt w' u v h ∧ w.heap.size ≤ u ∧ ∀ g, v.ownBlock = some g → w.heap.size ≤ g := by
  have HO := Lib.hid o
  have hmost := o.most
  have hbl := h.body_len
  clear o
  go_enter Tryz.func52, Tryz.ntmps52
  go_wp2_with fail
  have hA := heap_alloc_new w (.cells #[.int .u8 83, .int .u32 (number : Int), .int .u64 (serial : Int), .string ⟨⟨h.body⟩⟩] 28)
  have k1 : Kept No w (w.alloc (.cells #[.int .u8 83, .int .u32 (number : Int), .int .u64 (serial : Int), .string ⟨⟨h.body⟩⟩] 28)) := (Kept.refl _ _).alloc _
  have hR := heap_alloc_new (w.alloc (.cells #[.int .u8 83, .int .u32 (number : Int), .int .u64 (serial : Int), .string ⟨⟨h.body⟩⟩] 28)) (.cells #[.pointer none, .int .u32 0, .int .u32 0, .int .u32 0, .int .u32 0, .int .u32 0, .int .u32 0, .int .u32 0, .int .u32 0] 88)
  have k2 : Kept No (w.alloc (.cells #[.int .u8 83, .int .u32 (number : Int), .int .u64 (serial : Int), .string ⟨⟨h.body⟩⟩] 28)) ((w.alloc (.cells #[.int .u8 83, .int .u32 (number : Int), .int .u64 (serial : Int), .string ⟨⟨h.body⟩⟩] 28)).alloc (.cells #[.pointer none, .int .u32 0, .int .u32 0, .int .u32 0, .int .u32 0, .int .u32 0, .int .u32 0, .int .u32 0, .int .u32 0] 88)) := (Kept.refl _ _).alloc _
  have hB := heap_alloc_new ((w.alloc (.cells #[.int .u8 83, .int .u32 (number : Int), .int .u64 (serial : Int), .string ⟨⟨h.body⟩⟩] 28)).alloc (.cells #[.pointer none, .int .u32 0, .int .u32 0, .int .u32 0, .int .u32 0, .int .u32 0, .int .u32 0, .int .u32 0, .int .u32 0] 88)) (.cells #[.pointer none, .int .u32 0, .int .u32 0, .int .u32 0, .int .u32 0, .int .u32 0, .int .u32 0, .int .u32 0, .int .u32 0] 88)
  have k3 : Kept No ((w.alloc (.cells #[.int .u8 83, .int .u32 (number : Int), .int .u64 (serial : Int), .string ⟨⟨h.body⟩⟩] 28)).alloc (.cells #[.pointer none, .int .u32 0, .int .u32 0, .int .u32 0, .int .u32 0, .int .u32 0, .int .u32 0, .int .u32 0, .int .u32 0] 88)) (((w.alloc (.cells #[.int .u8 83, .int .u32 (number : Int), .int .u64 (serial : Int), .string ⟨⟨h.body⟩⟩] 28)).alloc (.cells #[.pointer none, .int .u32 0, .int .u32 0, .int .u32 0, .int .u32 0, .int .u32 0, .int .u32 0, .int .u32 0, .int .u32 0] 88)).alloc (.cells #[.pointer none, .int .u32 0, .int .u32 0, .int .u32 0, .int .u32 0, .int .u32 0, .int .u32 0, .int .u32 0, .int .u32 0] 88)) := (Kept.refl _ _).alloc _
  have e1 : (w.alloc (.cells #[.int .u8 83, .int .u32 (number : Int), .int .u64 (serial : Int), .string ⟨⟨h.body⟩⟩] 28)).heap.size = w.heap.size + 1 := by simp
  have e2 : ((w.alloc (.cells #[.int .u8 83, .int .u32 (number : Int), .int .u64 (serial : Int), .string ⟨⟨h.body⟩⟩] 28)).alloc (.cells #[.pointer none, .int .u32 0, .int .u32 0, .int .u32 0, .int .u32 0, .int .u32 0, .int .u32 0, .int .u32 0, .int .u32 0] 88)).heap.size = w.heap.size + 1 + 1 := by simp
  have e3 : (((w.alloc (.cells #[.int .u8 83, .int .u32 (number : Int), .int .u64 (serial : Int), .string ⟨⟨h.body⟩⟩] 28)).alloc (.cells #[.pointer none, .int .u32 0, .int .u32 0, .int .u32 0, .int .u32 0, .int .u32 0, .int .u32 0, .int .u32 0, .int .u32 0] 88)).alloc (.cells #[.pointer none, .int .u32 0, .int .u32 0, .int .u32 0, .int .u32 0, .int .u32 0, .int .u32 0, .int .u32 0, .int .u32 0] 88)).heap.size = w.heap.size + 1 + 1 + 1 := by simp
  rw [e1] at hR
  rw [e2] at hB
  have hA3 := (k2.trans k3).heap hA (fun h => h)
  have hR3 := k3.heap hR (fun h => h)
  have K3 := Lib.hid ((k1.trans k2).trans k3)
  clear hA hR k1 k2 k3 e1 e2
  generalize (((w.alloc (.cells #[.int .u8 83, .int .u32 (number : Int), .int .u64 (serial : Int), .string ⟨⟨h.body⟩⟩] 28)).alloc (.cells #[.pointer none, .int .u32 0, .int .u32 0, .int .u32 0, .int .u32 0, .int .u32 0, .int .u32 0, .int .u32 0, .int .u32 0] 88)).alloc (.cells #[.pointer none, .int .u32 0, .int .u32 0, .int .u32 0, .int .u32 0, .int .u32 0, .int .u32 0, .int .u32 0, .int .u32 0] 88)) = w3 at *
  have HA3 := Lib.hid hA3
  have HR3 := Lib.hid hR3
  have HB3 := Lib.hid hB
  have hQ : w3.heap.size = w.heap.size + 1 + 1 + 1 := e3
  clear hA3 hR3 hB e3
  generalize hAe : w.heap.size = A at *
  have hAR : A < A + 1 := by omega
  have hRB : A + 1 < A + 1 + 1 := by omega
  generalize hRe : A + 1 = R at *
  generalize hBe : R + 1 = B at *
  have HAE := Lib.hid hAe
  clear hAe hRe
  refine (newReader_ok h.body w3 (by omega)).mono ?_
  rintro e w4 ⟨rfl, k4, hrd⟩
  generalize hq : w3.heap.size = q at *
  have hrow : RdAt w4 q ⟨h.body, 0, 0⟩ := hrd
  have HRD := Lib.hid hrd
  have hBq : B < q := by omega
  have K4 := Lib.hid (K3.out.trans k4)
  have HA4 := Lib.hid (k4.heap HA3.out (fun h => h))
  have HR4 := Lib.hid (k4.heap HR3.out (fun h => h))
  have HB4 := Lib.hid (k4.heap HB3.out (fun h => h))
  clear k4 hrd hrow HA3 HR3 HB3 K3 hq hQ hBe
  go_wp2_with fail
  have hfx := rfixed_ok q ⟨h.body, 0, 0⟩ 4 w4 HRD.out (by decide) (by decide)
  rw [rd_n h HO.out] at hfx
  refine hfx.mono ?_
  rintro e w5 ⟨rfl, k5, hrd5, hsz5⟩
  have hin : RgtIn w w5 q A R B h number serial 0 := ⟨k5.heap HA4.out (by omega), k5.heap HR4.out (by omega), k5.heap HB4.out (by omega), hrd5, K4.out.next k5 (fun k hk e => by have := HAE.out; omega)⟩
  have HIN := Lib.hid hin
  clear k5 hrd5 hsz5 hin HA4 HR4 HB4 K4 HRD hfx
  go_wp2_with fail
  go_loopw [19] (fun i wr => ∃ k : Nat, k ≤ 8 ∧ i = .int .i64 (k : Int) ∧ RgtIn w wr q A R B h number serial k) (fun i _ => 8 - (intOf i).toNat)
  case atStart => exact ⟨0, by omega, rfl, HIN.out⟩
  case round =>
    obtain ⟨k, hk, rfl, hin⟩ := hrel
    have HI := Lib.hid hin
    clear hin
    by_cases hlt : k < 8
    · go_wp2_with fail
      have hfx := rfixed_ok q ⟨h.body, 4 + 4 * k, 0⟩ 4 wr HI.out.rd (by decide) (by decide)
      rw [rd_root h HO.out k hlt] at hfx
      have hsm := HO.out.small k hlt
      refine hfx.mono ?_
      rintro e w6 ⟨rfl, k6, hrd6, hsz6⟩
      have hB6 := k6.heap HI.out.hb (by omega)
      have hup : (h.root.upto (k + 1)) = (h.root.upto k).set k (h.root.get k) := rfl
      have hcell : ∃ x, w6.cell? ⟨B, 1 + k, none⟩ = some x := by
        rw [cell_of_row w6 B (1 + k) _ _ _ hB6]
        exact ⟨_, Array.getElem?_eq_getElem (by simp; omega)⟩
      obtain ⟨xx, hcell⟩ := hcell
      have hfr := frozen_of_row w6 B (1 + k) _ _ hB6
      have hB7 := heap_setCell_same w6 B (1 + k) _ _ (.int .u32 (h.root.get k : Int)) hB6
      rw [held_row (.pointer none) (h.root.upto k) k (h.root.get k) hlt, ← hup] at hB7
      have HB7 := Lib.hid hB7
      have HK6 := Lib.hid k6
      have HRD6 := Lib.hid hrd6
      clear hB6 hB7 hup k6 hrd6 hsz6 hfx
      generalize hX : h.root.get k = X at *
      have hwx : IntKind.u32.wrap (X : Int) = (X : Int) := by rw [IntKind.wrap_u32]; omega
      clear hX
      go_wp2_with fail
      go_roundw
      case rel =>
        have kz : Kept (fun j => j = B) w6 (w6.setCell ⟨B, 1 + k, none⟩ (.int .u32 (X : Int))) := (Kept.refl _ _).setCell _ _ (fun _ => rfl)
        refine ⟨k + 1, by omega, by first | rfl | go_num, kz.heap (HK6.out.heap HI.out.page (by omega)) (by omega), kz.heap (HK6.out.heap HI.out.res (by omega)) (by omega), HB7.out, HRD6.out.kept kz (by omega), (HI.out.kept.next HK6.out (fun k hk e => by have := HAE.out; omega)).next kz (fun k hk e => by have := HAE.out; omega)⟩
      case measure => simp [intOf]; omega
    · obtain rfl : k = 8 := by omega
      have hI := HI.out
      have hI2 : RgtIn w wr q A R B h number serial 8 := hI
      have hhb := hI2.hb
      rw [Root8.upto_all] at hhb
      have HB := Lib.hid hhb
      have HRS := Lib.hid hI2.res
      have HPGE := Lib.hid hI2.page
      have HRD := Lib.hid (show RdAt wr q ⟨h.body, 36, 0⟩ from hI2.rd)
      have KW := Lib.hid hI2.kept
      clear hI hI2 hhb HI HIN
      go_wp2_with fail
      refine (rleft_ok q ⟨h.body, 36, 0⟩ wr HRD.out).mono ?_
      rintro e w7 ⟨rfl, k7⟩
      have HRD7 := Lib.hid (HRD.out.kept k7 (fun h => h))
      have HB7 := Lib.hid (k7.heap HB.out (fun h => h))
      have HRS7 := Lib.hid (k7.heap HRS.out (fun h => h))
      have HP7 := Lib.hid (k7.heap HPGE.out (fun h => h))
      have KW7 := Lib.hid (KW.out.trans k7)
      clear k7 HRD HB HRS HPGE KW
      go_wp2_with fail
      have hrw := rraw_ok q ⟨h.body, 36, 0⟩ (h.body.length - 36) w7 HRD7.out (by omega)
      rw [rd_rest h] at hrw
      rw [show ((h.n : Int) + 7) / 8 = ((h.body.length - 36 : Nat) : Int) from by omega]
      refine hrw.mono ?_
      rintro e w8 ⟨rfl, k8, hrd8, hsz8⟩
      have HRD8 := Lib.hid hrd8
      have HB8 := Lib.hid (k8.heap HB7.out (by omega))
      have HRS8 := Lib.hid (k8.heap HRS7.out (by omega))
      have HP8 := Lib.hid (k8.heap HP7.out (by omega))
      have KW8 := Lib.hid (KW7.out.next k8 (fun k hk e => by have := HAE.out; omega))
      clear k8 hrd8 hsz8 HRD7 HB7 HRS7 HP7 KW7 hrw
      go_wp2_with fail
      have hfw := fw_told h.n h.ws HO.out.tidy
      refine (from_ok h.n (told h.n h.ws) w8 (by omega) (told_size h.n h.ws) (by rw [hfw]; exact tidy_top h.n h.ws HO.out.tidy)).mono ?_
      rw [hfw]
      rintro e w9 ⟨t, tv, rfl, k9, hset, ht1, ht2⟩
      have HSET := Lib.hid hset
      have hA9 : A ≤ w8.heap.size := by have := KW8.out.size; have := HAE.out; omega
      have HT1 := Lib.hid (show A ≤ t by omega)
      have HT2 := Lib.hid (fun g hg => Nat.le_trans hA9 (ht2 g hg))
      have HTB : Hid (t ≠ B ∧ t ≠ R ∧ (∀ g, tv.ownBlock = some g → g ≠ B ∧ g ≠ R)) := Lib.hid (by
        have h1 := lt_of_heap HB8.out
        have h2 := lt_of_heap HRS8.out
        refine ⟨by omega, by omega, fun g hg => ?_⟩
        have := ht2 g hg
        omega)
      have HRD9 := Lib.hid (HRD8.out.kept k9 (fun h => h))
      have hb9 := k9.heap HB8.out (fun h => h)
      have hp9 := k9.heap HP8.out (fun h => h)
      have HB9 := Lib.hid hb9
      have HRS9 := Lib.hid (k9.heap HRS8.out (fun h => h))
      have KW9 := Lib.hid (KW8.out.trans k9)
      have p0 := (cell_of_row w9 A 0 _ _ _ hp9).trans rfl
      have b0 := (cell_of_row w9 B 0 _ _ _ hb9).trans rfl
      have bf0 := frozen_of_row w9 B 0 _ _ hb9
      have hwn : IntKind.u64.wrap (h.n : Int) = (h.n : Int) := by rw [IntKind.wrap_u64]; omega
      have hsome := HO.out.some_
      have HH0 := Lib.hid (has_mem t h.n tv h.ws w9 0 HSET.out (by omega))
      have hm0 := HO.out.zero
      have HM0 := Lib.hid hm0
      have HIX := Lib.hid (root_index h.root)
      clear k9 hset ht1 ht2 hA9 hfw hb9 hp9 HRD8 HB8 HRS8 HP8 KW8 hm0
      go_wp2_with (first
        | (go_at_call 87; refine (rerr_ok q _ w9 HRD9.out).mono ?_; rintro e w' ⟨rfl, rfl⟩)
        | (go_at_call 45; refine (show Calls _ _ #[.pointer (some ⟨t, 0, none⟩), .int .i64 0] _ _ from HH0.out).mono ?_; rintro e w' ⟨rfl, rfl⟩; rw [HM0.out])
        | (refine wpList_load_part (by rfl) 53 (.tmp 61) (by rfl) B 1 (by rfl) _ _ (rootC h.root) _ _ HB9.out Tryz.underlying53 (by rfl) (by exact root_size) (by exact part_of [_] (rootC h.root) []) ?_))
      go_loopw [63] (fun i wr => ∃ k : Nat, k ≤ 8 ∧ i = .int .i64 (k : Int) ∧ w9 = wr) (fun i _ => 8 - (intOf i).toNat)
      case atStart => exact ⟨0, by omega, rfl, rfl⟩
      case round =>
        obtain ⟨k, hk, rfl, rfl⟩ := hrel
        by_cases hlt : k < 8
        · have hx := HIX.out k hlt
          have hsm := HO.out.small k hlt
          have hroot := HO.out.root k hlt
          generalize hX : h.root.get k = X at *
          clear hX
          by_cases hx0 : X = 0
          · subst hx0
            have hq0 : (((0 : Nat) : Int) == 0) = true := rfl
            clear hroot
            go_wp2_with fail
            go_roundw
            case rel => exact ⟨k + 1, by omega, by first | rfl | go_num, by first | rfl | trivial⟩
            case measure => simp [intOf]; omega
          · have hq0 : ((X : Int) == 0) = false := by rw [beq_eq_false_iff_ne]; omega
            obtain ⟨q1, q2⟩ := hroot.resolve_left hx0
            have HQ := Lib.hid q2
            have hw1 : IntKind.i64.wrap (X : Int) = (X : Int) := by rw [IntKind.wrap_i64]; omega
            have HHX := Lib.hid (has_mem t h.n tv h.ws w9 X HSET.out q1)
            clear hroot q2 hx0
            go_wp2_with (go_at_call 45; refine HHX.out.mono ?_; rintro e w' ⟨rfl, rfl⟩; rw [HQ.out])
            all_goals exact ⟨⟨k + 1, by omega, by first | rfl | go_num, by first | rfl | trivial⟩, by simp [intOf]; omega⟩
        · obtain rfl : k = 8 := by omega
          have hb2 := heap_setCell_same w9 B 0 _ _ (.pointer (some ⟨t, 0, none⟩)) HB9.out
          simp only [List.setIfInBounds_toArray, List.set_cons_zero] at hb2
          have kz : Kept (fun j => j = B) w9 (w9.setCell ⟨B, 0, none⟩ (.pointer (some ⟨t, 0, none⟩))) := (Kept.refl _ _).setCell _ _ (fun _ => rfl)
          have HB10 := Lib.hid hb2
          have HRS10 := Lib.hid (kz.heap HRS9.out (by omega))
          have KZ := Lib.hid kz
          clear hb2 kz
          go_wp2_with (first
            | (refine wpList_load_row (by rfl) 88 (.tmp 6) (by rfl) B (by rfl) _ _ _ _ HB10.out Tryz.underlying88 (by rfl) (by exact held_size) ?_)
            | (refine wpList_store_row (by rfl) 88 (.tmp 4) (.tmp 79) (by rfl) R 88 _ _ (by rfl) (by rfl) HRS10.out (by exact held_size) (by rfl) (by simp [Value.oneCell']) ?_))
          refine bodyPost_ret (results_pair rfl _ _ R _ _ _ _ rfl (setRow_heap _ _ _ _ _ _ HRS10.out) Tryz.underlying88 rfl (by exact held_size)) rfl ?_
          obtain ⟨n1, n2, n3⟩ := HTB.out
          have hAe := HAE.out
          have ks : Kept (fun j => j = B ∨ j = R) w9 _ := (KZ.out.mono (N := fun j => j = B ∨ j = R) (fun _ _ e => .inl e)).setRow R (heldC (.pointer (some ⟨t, 0, none⟩)) h.root) (fun _ => .inr rfl)
          refine ⟨t, tv, rfl, KW9.out.next ks (fun k hk e => by omega), ⟨HSET.out.kept ks (fun e => e.elim n1 n2) (fun g hg e => e.elim (n3 g hg).1 (n3 g hg).2), HO.out⟩, by have := HT1.out; omega, fun g hg => by have := HT2.out g hg; omega⟩
end Go.Proofs.YtabhieafjkaocaaGreat
