/- A part. -/
import Derived.Test.YtabhieafjkaocaaGreatMaas
set_option linter.unusedVariables false
set_option linter.unusedSimpArgs false
namespace Go.Proofs.YtabhieafjkaocaaGreat
open Go.RowKit Go.Lib Go.Maps Bm
set_option maxRecDepth 20000
def BtM.write (m : BtM) (n : Nat) (c : UInt8 × List UInt8) : BtM × Int :=
  if m.ended then (m, 5) else if m.held.asked n ≠ 0 then (m, m.held.asked n) else if 996 < c.2.length then (m, 82)
  else (⟨m.held, insC n c m.has, true, m.ended⟩, 0)
set_option maxHeartbeats 1000000 in
theorem write_ok (b s u : Nat) (v : Value) (hm : Nat) (m : BtM) (n : Nat) (kind : UInt8) (body : List UInt8) (w : World) (h : BtAt w b s u v hm m) (hn : n < 4294967296) (hb : body.length ≤ 9223372036854775807) :
    Calls Tryz.prog 21 #[.pointer (some ⟨b, 0, none⟩), .int .u32 (n : Int), .int .u8 (kind.toNat : Int), .string ⟨⟨body⟩⟩] w fun e w' =>
      e = .returned (.int .i64 (m.write n (kind, body)).2) ∧ Kept (BtF b v hm) w w' ∧ BtAt w' b s u v hm (m.write n (kind, body)).1 := by
  have HO := Lib.hid (open_ok b s u v hm m w h)
  have HASK := Lib.hid (asked_ok u v m.held n w h.held hn)
  have H := Lib.hid h
  have HHEAD := Lib.hid h.head
  clear h
  generalize hA : m.write n (kind, body) = A
  have HA := Lib.hid hA
  clear hA
  by_cases he : m.ended = true
  · have e1 : A = (m, 5) := by rw [← HA.out]; unfold BtM.write; rw [if_pos he]
    subst e1
    have HE := Lib.hid he
    clear he HA
    go_enter Tryz.func21, Tryz.ntmps21
    go_wp2_with (go_at_call 43; refine HO.out.mono ?_; rintro e w' ⟨rfl, rfl⟩; rw [HE.out])
    go_ret
    exact ⟨rfl, Kept.refl _ _, H.out⟩
  have HE := Lib.hid he
  by_cases hask : m.held.asked n = 0
  · have HAK := Lib.hid hask
    by_cases hbig : 996 < body.length
    · have e1 : A = (m, 82) := by rw [← HA.out]; unfold BtM.write; rw [if_neg he, if_neg (by simp [hask]), if_pos hbig]
      subst e1
      have hd : decide ((996 : Int) < (body.length : Int)) = true := by simp; omega
      clear he HA hask hbig
      go_enter Tryz.func21, Tryz.ntmps21
      go_wp2_with (first
        | (go_at_call 43; refine HO.out.mono ?_; rintro e w' ⟨rfl, rfl⟩; rw [if_neg HE.out])
        | (refine wpList_load_part (by rfl) 88 (.tmp 18) (by rfl) b 1 (by rfl) _ _ [.pointer (some ⟨u, 0, none⟩), .int .u32 (m.held.root.a : Int), .int .u32 (m.held.root.b : Int), .int .u32 (m.held.root.c : Int), .int .u32 (m.held.root.d : Int), .int .u32 (m.held.root.e : Int), .int .u32 (m.held.root.f : Int), .int .u32 (m.held.root.g : Int), .int .u32 (m.held.root.h : Int)] _ _ HHEAD.out Tryz.underlying88 (by rfl) (by exact held_size) (by exact part_of [_] [.pointer (some ⟨u, 0, none⟩), .int .u32 (m.held.root.a : Int), .int .u32 (m.held.root.b : Int), .int .u32 (m.held.root.c : Int), .int .u32 (m.held.root.d : Int), .int .u32 (m.held.root.e : Int), .int .u32 (m.held.root.f : Int), .int .u32 (m.held.root.g : Int), .int .u32 (m.held.root.h : Int)] [_, _, _]) ?_)
        | (go_at_call 41; refine HASK.out.mono ?_; rintro e w1 ⟨rfl, k1⟩; have K1 := Lib.hid k1; clear k1; rw [HAK.out]))
      go_ret
      exact ⟨rfl, K1.out.of_no _, H.out.no K1.out⟩
    · have e1 : A = (⟨m.held, insC n (kind, body) m.has, true, m.ended⟩, 0) := by rw [← HA.out]; unfold BtM.write; rw [if_neg he, if_neg (by simp [hask]), if_neg hbig]
      subst e1
      have hd : decide ((996 : Int) < (body.length : Int)) = false := by simp; omega
      have HBL : Hid (body.length ≤ 996) := Lib.hid (by omega)
      clear he HA hask hbig
      go_enter Tryz.func21, Tryz.ntmps21
      go_wp2_with (first
        | (go_at_call 43; refine HO.out.mono ?_; rintro e w' ⟨rfl, rfl⟩; rw [if_neg HE.out])
        | (refine wpList_load_part (by rfl) 88 (.tmp 18) (by rfl) b 1 (by rfl) _ _ [.pointer (some ⟨u, 0, none⟩), .int .u32 (m.held.root.a : Int), .int .u32 (m.held.root.b : Int), .int .u32 (m.held.root.c : Int), .int .u32 (m.held.root.d : Int), .int .u32 (m.held.root.e : Int), .int .u32 (m.held.root.f : Int), .int .u32 (m.held.root.g : Int), .int .u32 (m.held.root.h : Int)] _ _ HHEAD.out Tryz.underlying88 (by rfl) (by exact held_size) (by exact part_of [_] [.pointer (some ⟨u, 0, none⟩), .int .u32 (m.held.root.a : Int), .int .u32 (m.held.root.b : Int), .int .u32 (m.held.root.c : Int), .int .u32 (m.held.root.d : Int), .int .u32 (m.held.root.e : Int), .int .u32 (m.held.root.f : Int), .int .u32 (m.held.root.g : Int), .int .u32 (m.held.root.h : Int)] [_, _, _]) ?_))
      refine HASK.out.mono ?_
      rintro e w1 ⟨rfl, k1⟩
      rw [HAK.out]
      have hB1 := H.out.no k1
      have HB1 := Lib.hid hB1
      have K1 := Lib.hid k1
      have c10 := (cell_of_row w1 b 10 _ _ _ hB1.head).trans rfl
      obtain ⟨D, hD⟩ := hB1.has
      have HD1 := Lib.hid hD
      obtain ⟨ap1, ap2, ap3, ap4, ap5, ap6⟩ := hB1.apart
      have hlen := hB1.len
      obtain ⟨q1, q2, q3⟩ := asked_ok0 HAK.out
      have hmost := hB1.held.ok.most
      have HNM : Hid (n < 4096) := Lib.hid (by omega)
      have hwf : (Lit.int .u32 (n : Int)).wf = true := by
        simp [Lit.wf, IntKind.u32]
        have : IntKind.u32.min = 0 := rfl
        have : IntKind.u32.max = 4294967295 := rfl
        omega
      have hkey := keyOf_int_mk (P := Tryz.prog) Tryz.underlying25 hwf
      have hK := int_keyed (P := Tryz.prog) Tryz.underlying25
      clear k1 hB1 hD hwf q3
      go_wp2_with (at_mapUpdate; go_loud (refine wpList_mapUpdate_own _ (by rfl) (.tmp 31) (.tmp 32) (.tmp 35) 91 (by rfl) 25 95 hK Tryz.underlying91 contElem hm m.has.length D (by rfl) HD1.out.own (by unfold maxLen; omega) _ _ _ (by rfl) (by rfl) hkey (.agg [.lit (.int .u8 (kind.toNat : Int)), .lit (.string body)]) [] rfl ?_; intro w2 hm2 hg2; have HM := Lib.hid hm2; have G2 := Lib.hid (Kept.of_grown hg2); have hh2 := G2.out.heap HB1.out.head (by intro e; injection e with e; exact ap3 e.symm); have f11 := frozen_of_row w2 b 11 _ _ hh2; have d11 := (cell_of_row w2 b 11 _ _ _ hh2).trans rfl; have HH2 := Lib.hid hh2; clear hm2 hg2 hh2))
      go_ret
      have k3 : Kept (fun j => j = b) w2 (w2.setCell ⟨b, 11, none⟩ (.bool true)) := (Kept.refl _ _).setCell _ _ (fun _ => rfl)
      have hh3 := heap_setCell_same w2 b 11 _ _ (.bool true) HH2.out
      simp only [List.setIfInBounds_toArray, List.set_cons_succ, List.set_cons_zero] at hh3
      refine ⟨rfl, ((K1.out.of_no (BtF b v hm)).trans (G2.out.mono (N := BtF b v hm) fun j _ e => .inr (.inr (by injection e with e; exact e.symm)))).trans (k3.mono fun j _ e => .inl e), hh3, ((HB1.out.held.kept G2.out (fun e => ap2 (by injection e with e; exact e.symm)) fun g hg e => ap6 (by injection e with e; rw [e]; exact hg)).kept k3 ap1 (fun g hg e => ap5 (e ▸ hg))), _, (HD1.out.put HNM.out HBL.out HM.out).kept k3 (fun e => ap3 e.symm)⟩
  · have e1 : A = (m, m.held.asked n) := by
      rw [← HA.out]; unfold BtM.write; rw [if_neg he, if_pos hask]
    subst e1
    have hak : (m.held.asked n != 0) = true := by simp [hask]
    have hak2 : (m.held.asked n == 0) = false := by simp [hask]
    clear he HA hask
    generalize m.held.asked n = q at *
    go_enter Tryz.func21, Tryz.ntmps21
    go_wp2_with (first
      | (go_at_call 43; refine HO.out.mono ?_; rintro e w' ⟨rfl, rfl⟩; rw [if_neg HE.out])
      | (refine wpList_load_part (by rfl) 88 (.tmp 18) (by rfl) b 1 (by rfl) _ _ [.pointer (some ⟨u, 0, none⟩), .int .u32 (m.held.root.a : Int), .int .u32 (m.held.root.b : Int), .int .u32 (m.held.root.c : Int), .int .u32 (m.held.root.d : Int), .int .u32 (m.held.root.e : Int), .int .u32 (m.held.root.f : Int), .int .u32 (m.held.root.g : Int), .int .u32 (m.held.root.h : Int)] _ _ HHEAD.out Tryz.underlying88 (by rfl) (by exact held_size) (by exact part_of [_] [.pointer (some ⟨u, 0, none⟩), .int .u32 (m.held.root.a : Int), .int .u32 (m.held.root.b : Int), .int .u32 (m.held.root.c : Int), .int .u32 (m.held.root.d : Int), .int .u32 (m.held.root.e : Int), .int .u32 (m.held.root.f : Int), .int .u32 (m.held.root.g : Int), .int .u32 (m.held.root.h : Int)] [_, _, _]) ?_)
      | (go_at_call 41; refine HASK.out.mono ?_; rintro e w1 ⟨rfl, k1⟩; have K1 := Lib.hid k1; clear k1))
    go_ret
    exact ⟨rfl, K1.out.of_no _, H.out.no K1.out⟩
end Go.Proofs.YtabhieafjkaocaaGreat
