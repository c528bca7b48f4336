/- A part. -/
import Derived.Test.YtabhieafjkaocaaGreatMaak
set_option linter.unusedVariables false
set_option linter.unusedSimpArgs false
namespace Go.Proofs.YtabhieafjkaocaaGreat
open Go.RowKit Go.Lib
set_option maxRecDepth 20000
theorem Tryz.infoPg : (Tryz.prog.info? 28).map (fun i => (i.zero, i.size, i.bytes)) = some (some (.agg #[.int .u8 0, .int .u32 0, .int .u64 0, .string ByteArray.empty]), 4, 32) := by kernel_rfl
def RdD (w : World) (rp : Nat) (r r1 r2 : Rd) : Bool → Bool → Prop
  | false, false => RdAt w rp r
  | true, false => RdAt w rp r1
  | true, true => RdAt w rp r2
  | false, true => False
def BxD (w1 w : World) (t : TypeId) (z cs : Array Value) : Bool → Bool → Prop
  | false, false => w.heap.size = w1.heap.size
  | true, false => w.heap.size = w1.heap.size + 1 ∧ w.heap[w1.heap.size]? = some (.cells z t (0, 0))
  | true, true => w.heap.size = w1.heap.size + 1 ∧ w.heap[w1.heap.size]? = some (.cells cs t (0, 0))
  | false, true => False
def MixD (w1 : World) (rp : Nat) (r r1 r2 : Rd) (t : TypeId) (z cs : Array Value) : List Bool → World → Prop
  | [c1, c3, al, st], w => Kept (fun k => k = rp) w1 w ∧ RdD w rp r r1 r2 c1 c3 ∧ BxD w1 w t z cs al st
  | _, _ => False
theorem RdD.kept {M : Nat → Prop} {w w' : World} {rp : Nat} {r r1 r2 : Rd} {a b : Bool} (h : RdD w rp r r1 r2 a b) (k : Kept M w w') (hm : ¬ M rp) : RdD w' rp r r1 r2 a b := by
  cases a <;> cases b
  · exact RdAt.kept h k hm
  · exact h.elim
  · exact RdAt.kept h k hm
  · exact RdAt.kept h k hm
theorem BxD.kept {w1 w w' : World} {rp : Nat} {t : TypeId} {z cs : Array Value} {a b : Bool} (h : BxD w1 w t z cs a b) (k : Kept (fun k => k = rp) w w') (hs : w'.heap.size = w.heap.size) (hlt : rp < w1.heap.size) : BxD w1 w' t z cs a b := by
  cases a <;> cases b
  · exact hs.trans h
  · exact h.elim
  · exact ⟨hs.trans h.1, k.heap h.2 (by omega)⟩
  · exact ⟨hs.trans h.1, k.heap h.2 (by omega)⟩
theorem MixD.kept {w1 w : World} {rp : Nat} {r r1 r2 : Rd} {t : TypeId} {z cs : Array Value} {b : List Bool} (h : MixD w1 rp r r1 r2 t z cs b w) : Kept (fun k => k = rp) w1 w := by
  unfold MixD at h
  split at h
  · exact h.1
  · exact h.elim
theorem mix_start {w1 : World} {rp : Nat} {r r1 r2 : Rd} {t : TypeId} {z cs : Array Value} (h : RdAt w1 rp r) : Nonempty (InC fun w => ∃ b, MixD w1 rp r r1 r2 t z cs b w) := ⟨⟨w1, [false, false, false, false], Kept.refl _ _, h, rfl⟩⟩
section
variable {P : Program} {ops : Array Oper} {w1 : World} {rp : Nat} {r r1 r2 : Rd} {t : TypeId} {z cs : Array Value} {ka kb kc kd : Nat} {o : Oper} {ρ : Operand → Value}
theorem mix_one (hne : ka ≠ kb ∧ ka ≠ kc ∧ ka ≠ kd) {f : FuncId} {args : Array Value} {v : Value} (hr : ∀ w, (execOp ρ o).run P w = .ok (.enter f args) w) (hlt : rp < w1.heap.size)
    (hc : ∀ w, RdAt w rp r → Calls P f args w fun e w' => e = .returned v ∧ Kept (fun k => k = rp) w w' ∧ RdAt w' rp r1 ∧ w'.heap.size = w.heap.size) :
    ∀ li, ka ∈ Region.ready .any ops li → ∀ w, MixD w1 rp r r1 r2 t z cs (flags [ka, kb, kc, kd] li) w → goUpon P (MixD w1 rp r r1 r2 t z cs (flags [ka, kb, kc, kd] (li.setIfInBounds ka true))) v ((execOp ρ o).run P w) := by
  intro li hrd w hC
  obtain ⟨h1, h2⟩ := ready_self hrd
  have e2 : (li.setIfInBounds ka true).getD kb false = li.getD kb false := getD_set_ne false hne.1
  have e3 : (li.setIfInBounds ka true).getD kc false = li.getD kc false := getD_set_ne false hne.2.1
  have e4 : (li.setIfInBounds ka true).getD kd false = li.getD kd false := getD_set_ne false hne.2.2
  simp only [flags, List.map_cons, List.map_nil, h1] at hC
  rw [hr w]
  show Calls P f args w fun e w' => e = .returned v ∧ MixD w1 rp r r1 r2 t z cs [(li.setIfInBounds ka true).getD ka false, (li.setIfInBounds ka true).getD kb false, (li.setIfInBounds ka true).getD kc false, (li.setIfInBounds ka true).getD kd false] w'
  rw [set_self h2, e2, e3, e4]
  cases hb : li.getD kb false with
  | true => rw [hb] at hC; exact hC.2.1.elim
  | false =>
    rw [hb] at hC
    obtain ⟨k, hR, hB⟩ := hC
    refine (hc w hR).mono ?_
    rintro e w' ⟨rfl, k', hR', hs⟩
    refine ⟨rfl, k.trans k', hR', ?_⟩
    exact hB.kept k' hs hlt
theorem mix_two (hne : kb ≠ ka ∧ kb ≠ kc ∧ kb ≠ kd) {f : FuncId} {args : Array Value} {v : Value} (hr : ∀ w, (execOp ρ o).run P w = .ok (.enter f args) w) (hlt : rp < w1.heap.size)
    (h2k : ops[kb]? = some o) (hon : o.after.any (fun e => Region.binds .any e && e.on == ka) = true)
    (hc : ∀ w, RdAt w rp r1 → Calls P f args w fun e w' => e = .returned v ∧ Kept (fun k => k = rp) w w' ∧ RdAt w' rp r2 ∧ w'.heap.size = w.heap.size) :
    ∀ li, kb ∈ Region.ready .any ops li → ∀ w, MixD w1 rp r r1 r2 t z cs (flags [ka, kb, kc, kd] li) w → goUpon P (MixD w1 rp r r1 r2 t z cs (flags [ka, kb, kc, kd] (li.setIfInBounds kb true))) v ((execOp ρ o).run P w) := by
  intro li hrd w hC
  obtain ⟨h1, h2⟩ := ready_self hrd
  obtain ⟨e, he, hb⟩ := Array.any_eq_true'.1 hon
  simp only [Bool.and_eq_true, beq_iff_eq] at hb
  have h3 := ready_on hrd h2k e he hb.1
  rw [hb.2] at h3
  have e2 : (li.setIfInBounds kb true).getD ka false = li.getD ka false := getD_set_ne false hne.1
  have e3 : (li.setIfInBounds kb true).getD kc false = li.getD kc false := getD_set_ne false hne.2.1
  have e4 : (li.setIfInBounds kb true).getD kd false = li.getD kd false := getD_set_ne false hne.2.2
  simp only [flags, List.map_cons, List.map_nil, h1, h3] at hC
  rw [hr w]
  show Calls P f args w fun e w' => e = .returned v ∧ MixD w1 rp r r1 r2 t z cs [(li.setIfInBounds kb true).getD ka false, (li.setIfInBounds kb true).getD kb false, (li.setIfInBounds kb true).getD kc false, (li.setIfInBounds kb true).getD kd false] w'
  rw [set_self h2, e2, e3, e4, h3]
  obtain ⟨k, hR, hB⟩ := hC
  refine (hc w hR).mono ?_
  rintro e w' ⟨rfl, k', hR', hs⟩
  refine ⟨rfl, k.trans k', hR', ?_⟩
  exact hB.kept k' hs hlt
theorem mix_alloc (hne : kc ≠ ka ∧ kc ≠ kb ∧ kc ≠ kd) (hrun : ∀ w, (execOp ρ o).run P w = .ok (.value (.pointer (some ⟨w.heap.size, 0, none⟩))) (w.alloc (.cells z t))) (hlt : rp < w1.heap.size) :
    ∀ li, kc ∈ Region.ready .any ops li → ∀ w, MixD w1 rp r r1 r2 t z cs (flags [ka, kb, kc, kd] li) w → goUpon P (MixD w1 rp r r1 r2 t z cs (flags [ka, kb, kc, kd] (li.setIfInBounds kc true))) (.pointer (some ⟨w1.heap.size, 0, none⟩)) ((execOp ρ o).run P w) := by
  intro li hrd w hC
  obtain ⟨h1, h2⟩ := ready_self hrd
  have e2 : (li.setIfInBounds kc true).getD ka false = li.getD ka false := getD_set_ne false hne.1
  have e3 : (li.setIfInBounds kc true).getD kb false = li.getD kb false := getD_set_ne false hne.2.1
  have e4 : (li.setIfInBounds kc true).getD kd false = li.getD kd false := getD_set_ne false hne.2.2
  simp only [flags, List.map_cons, List.map_nil, h1] at hC
  rw [hrun w]
  show MixD w1 rp r r1 r2 t z cs [(li.setIfInBounds kc true).getD ka false, (li.setIfInBounds kc true).getD kb false, (li.setIfInBounds kc true).getD kc false, (li.setIfInBounds kc true).getD kd false] _ ∧ _
  rw [set_self h2, e2, e3, e4]
  obtain ⟨k, hR, hB⟩ := hC
  cases hd : li.getD kd false with
  | true => rw [hd] at hB; exact hB.elim
  | false =>
    rw [hd] at hB
    have hB : w.heap.size = w1.heap.size := hB
    have ka' : Kept No w (w.alloc (.cells z t)) := (Kept.refl _ _).alloc _
    rw [hB]
    refine ⟨⟨k.alloc _, hR.kept ka' (fun h => h), by simp [hB], ?_⟩, rfl⟩
    · have := heap_alloc_new w (.cells z t)
      rwa [hB] at this
theorem mix_store (ty : TypeId) (x y : Operand) (ho : o.op = .store ty x y) (hx : ρ x = .pointer (some ⟨w1.heap.size, 0, none⟩)) (hy : ρ y = .agg cs) (hi : (P.info? ty).map (·.size) = some cs.size) (hz : z.size = cs.size) (hcs : cs.all (·.oneCell') = true) (hlt : rp < w1.heap.size)
    (hne : kd ≠ ka ∧ kd ≠ kb ∧ kd ≠ kc) (h2k : ops[kd]? = some o) (hon : o.after.any (fun e => Region.binds .any e && e.on == kc) = true) :
    ∀ li, kd ∈ Region.ready .any ops li → ∀ w, MixD w1 rp r r1 r2 t z cs (flags [ka, kb, kc, kd] li) w → goUpon P (MixD w1 rp r r1 r2 t z cs (flags [ka, kb, kc, kd] (li.setIfInBounds kd true))) undef ((execOp ρ o).run P w) := by
  intro li hrd w hC
  obtain ⟨h1, h2⟩ := ready_self hrd
  obtain ⟨e, he, hb⟩ := Array.any_eq_true'.1 hon
  simp only [Bool.and_eq_true, beq_iff_eq] at hb
  have h3 := ready_on hrd h2k e he hb.1
  rw [hb.2] at h3
  have e2 : (li.setIfInBounds kd true).getD ka false = li.getD ka false := getD_set_ne false hne.1
  have e3 : (li.setIfInBounds kd true).getD kb false = li.getD kb false := getD_set_ne false hne.2.1
  have e4 : (li.setIfInBounds kd true).getD kc false = li.getD kc false := getD_set_ne false hne.2.2
  simp only [flags, List.map_cons, List.map_nil, h1, h3] at hC
  obtain ⟨k, hR, hs, hg⟩ := hC
  have hrun : (execOp ρ o).run P w = .ok .skip (w.setRow w1.heap.size cs) := by
    unfold execOp
    simp only [ho, hx, hy, Instr.storeAt, Instr.sureAddr, Sem.run_bind, Sem.run_pure, Result.andThen_ok]
    rw [run_storeVar_row w w1.heap.size t ty z cs hg hi hz hcs]
    rfl
  rw [hrun]
  show MixD w1 rp r r1 r2 t z cs [(li.setIfInBounds kd true).getD ka false, (li.setIfInBounds kd true).getD kb false, (li.setIfInBounds kd true).getD kc false, (li.setIfInBounds kd true).getD kd false] _ ∧ _
  rw [set_self h2, e2, e3, e4, h3]
  have ks : Kept (fun j => j = w1.heap.size) w (w.setRow w1.heap.size cs) := (Kept.refl _ _).setRow _ _ (fun _ => rfl)
  exact ⟨⟨k.setRow _ _ (fun h => absurd h (by omega)), hR.kept ks (by omega), by simp [hs], setRow_heap _ _ _ _ _ _ hg⟩, rfl⟩
end
theorem pageCells_snoc (l : List PageV) (p : PageV) : pageCells (l ++ [p]) = pageCells l ++ (pageRow p).toList := by simp [pageCells]
theorem fixed_lt (r : Rd) (n : Nat) : (r.fixed n).2 < 256 ^ n := by
  unfold Rd.fixed
  have h1 := num_lt ((r.take n).2.getD [])
  have h2 := take_len r n
  exact Nat.lt_of_lt_of_le h1 (Nat.pow_le_pow_right (by omega) h2)
structure BatIn (w wr : World) (rp : Nat) (r : Rd) (v' : Value) (l' : List PageV) (hb : Nat) (p : PageV) : Prop where
  rd : RdAt wr rp r
  pages : PagesAt wr v' l'
  kept : Kept No w wr
  page : wr.heap[hb]? = some (.cells (pageRow p) 28 (0, 0))
  new : ∀ g, v'.ownBlock = some g → w.heap.size ≤ g
  newr : w.heap.size ≤ rp ∧ w.heap.size ≤ hb
  apart : ∀ g, v'.ownBlock = some g → g ≠ hb
theorem bat_next {w wd w5 : World} {rp hb Q : Nat} {r : Rd} {v v2 : Value} {l' : List PageV} {p : PageV} {k1 k4 ks : Nat} {body : List UInt8} {x : Value} {o : Obj} (hR : RdAt wd rp r) (hP : PagesAt wd v l') (hK : Kept No w wd) (hB : wd.heap[hb]? = some (.cells (pageRow p) 28 (0, 0)))
    (hnew : ∀ g, v.ownBlock = some g → w.heap.size ≤ g) (hnewr : w.heap.size ≤ rp ∧ w.heap.size ≤ hb) (hapart : ∀ g, v.ownBlock = some g → g ≠ hb) (hQw : w.heap.size ≤ Q) (hQhb : Q ≠ hb) (hQrp : Q ≠ rp) (hown : ∀ j, v.ownBlock = some j → j ≠ Q)
    (h1 : k1 < 256) (h4 : k4 < 4294967296) (hs : ks ≤ 4611686018427387904) (hb2 : body.length ≤ 996) {n : Nat}
    (hO : w5.ownsRow 0 28 4 v2 (l'.length + 1) (pageCells l' ++ [.int .u8 (k1 : Int), .int .u32 (k4 : Int), .int .u64 (ks : Int), .string ⟨⟨body⟩⟩]))
    (hG : (((wd.drewN n).setCell ⟨Q, 3, none⟩ x).alloc o).grownBy w5 v.ownBlock) (hloc : v2.ownBlock = v.ownBlock ∨ v2.ownBlock = some (((wd.drewN n).setCell ⟨Q, 3, none⟩ x).alloc o).heap.size) (hlen : l'.length < 900000) :
    BatIn w w5 rp r v2 (l' ++ [⟨UInt8.ofNat k1, k4, ks, body⟩]) hb p := by
  have k : Kept (fun j => j = Q ∨ v.ownBlock = some j) wd w5 := (((((Kept.refl (fun j => j = Q ∨ v.ownBlock = some j) wd).drewN n).setCell ⟨Q, 3, none⟩ x (fun _ => .inl rfl)).alloc o)).next (Kept.of_grown hG) (fun _ _ e => .inr e)
  have hsz : (((wd.drewN n).setCell ⟨Q, 3, none⟩ x).alloc o).heap.size = wd.heap.size + 1 := by simp [World.setCell]
  have hu : ((UInt8.ofNat k1).toNat : Int) = (k1 : Int) := by rw [UInt8.toNat_ofNat']; omega
  refine ⟨hR.kept k ?_, ⟨?_, fun q hq => ?_, by simp; omega⟩, hK.next k (fun j hj e => ?_), k.heap hB ?_, fun g hg => ?_, hnewr, fun g hg => ?_⟩
  · rintro (e | e)
    · exact hQrp e.symm
    · obtain ⟨cs, hc⟩ := row_cells hP.row e
      exact cells_ne hc hR.row (by decide) rfl
  · rw [pageCells_snoc, List.length_append, List.length_singleton]
    unfold pageRow
    rw [hu]
    exact hO
  · rcases List.mem_append.1 hq with hq | hq
    · exact hP.ok q hq
    · rw [List.mem_singleton] at hq
      subst hq
      exact ⟨h4, by simp only; omega, by simp only; omega⟩
  · rcases e with e | e
    · omega
    · have := hnew j e; omega
  · rintro (e | e)
    · exact hQhb e.symm
    · exact hapart hb e rfl
  · rcases hloc with e | e
    · exact hnew g (e ▸ hg)
    · have := hg.symm.trans e
      simp only [Option.some.injEq] at this
      have := hK.size
      omega
  · rcases hloc with e | e
    · exact hapart g (e ▸ hg)
    · have := hg.symm.trans e
      simp only [Option.some.injEq] at this
      have := lt_of_heap hB
      omega
set_option maxHeartbeats 8000000 in
theorem batch_go (v : Value) (bl : List Nat) (ls : List (List UInt8)) (first : Nat) (w : World) (h : LiesAt w v bl ls) (h0 : 0 < ls.length) (hf : first < 65536) (p : PageV) (he : dec ls[0] first = .ok p) (hk : p.kind = 74) (hs : p.serial ≠ 0) :
    Calls Tryz.prog 77 #[v, .int .i64 (first : Int)] w fun e w' => ∃ (s : Nat) (v' : Value) (ok : Bool), e = .returned (.tuple #[.int .u64 (s : Int), v', .bool ok]) ∧ Kept No w w' ∧ BatchOut w w' ls first s v' ok := by
  obtain ⟨g, cap, rfl, -⟩ := h.at h0
  obtain ⟨b0, c0, hb0, -⟩ := h.get rfl 0 h0
  have hw : IntKind.u32.wrap (first : Int) = (first : Int) := by rw [IntKind.wrap_u32]; omega
  have HD := Lib.hid (decode_got b0 _ first w hb0 (by omega) p he)
  obtain ⟨-, hser, hbody⟩ := dec_ok he
  have hlen := h.most
  have hB : batchM ls first = (match slots ls first p.serial ((Rd.mk p.body 0 0).uint (room (ls.length : Int))).2 0 ((Rd.mk p.body 0 0).uint (room (ls.length : Int))).1 [] with | none => none | some (r, l) => if r.fin = 0 then some (p.serial, l) else none) := by
    unfold batchM
    rw [show ls[0]?.getD [] = ls[0] from by simp [h0]]
    rw [he]
    simp only
    rw [if_neg (by rintro (h | h); exact h hk; exact hs h)]
    rfl
  have hroom : room (ls.length : Int) ≤ ls.length - 1 ∧ room (ls.length : Int) ≤ 198 := by unfold room; omega
  have hum := uint_most (Rd.mk p.body 0 0) (room (ls.length : Int))
  have HU := Lib.hid (fun rp w (h : RdAt w rp ⟨p.body, 0, 0⟩) => ruint_ok rp ⟨p.body, 0, 0⟩ (room (ls.length : Int)) w h (by omega))
  have hkb : ((p.kind.toNat : Int) != 74) = false := by rw [hk]; rfl
  have hsb : ((p.serial : Int) == 0) = false := by rw [beq_eq_false_iff_ne]; omega
  generalize (Rd.mk p.body 0 0).uint (room (ls.length : Int)) = ru at *
  obtain ⟨ru1, n⟩ := ru
  simp only at hB hum HU
  generalize hS : slots ls first p.serial n 0 ru1 [] = S at hB
  unfold BatchOut
  rw [hB]
  have HS := Lib.hid hS
  have H := Lib.hid h
  clear hb0 h hB hk hs he hS
  go_enter Tryz.func77, Tryz.ntmps77
  go_wp2_with fail
  refine HD.out.mono ?_
  rintro e w1 ⟨rfl, k1⟩
  have hbox := heap_alloc_new w1 (.cells #[.int .u8 (p.kind.toNat : Int), .int .u32 (p.number : Int), .int .u64 (p.serial : Int), .string ⟨⟨p.body⟩⟩] 28)
  have q0 := (cell_of_row _ w1.heap.size 0 _ _ _ hbox).trans rfl
  have q2 := (cell_of_row _ w1.heap.size 2 _ _ _ hbox).trans rfl
  have q3 := (cell_of_row _ w1.heap.size 3 _ _ _ hbox).trans rfl
  have k2 : Kept No w (w1.alloc (.cells #[.int .u8 (p.kind.toNat : Int), .int .u32 (p.number : Int), .int .u64 (p.serial : Int), .string ⟨⟨p.body⟩⟩] 28)) := k1.alloc _
  have hsz := k1.size
  go_wp2_with fail
  refine (newReader_ok p.body _ (by omega)).mono ?_
  rintro e w3 ⟨rfl, k3, hr3⟩
  have hbox3 := k3.heap hbox (fun h => h)
  have K3 := Lib.hid (k2.trans k3)
  generalize hhb : w1.heap.size = hb at *
  have hrpn : w.heap.size ≤ (w1.alloc (.cells #[.int .u8 (p.kind.toNat : Int), .int .u32 (p.number : Int), .int .u64 (p.serial : Int), .string ⟨⟨p.body⟩⟩] 28)).heap.size := k2.size
  generalize (w1.alloc (.cells #[.int .u8 (p.kind.toNat : Int), .int .u32 (p.number : Int), .int .u64 (p.serial : Int), .string ⟨⟨p.body⟩⟩] 28)).heap.size = rp at *
  clear q0 q2 q3 hbox k2 k3
  go_wp2_with fail
  refine (room_ok ls.length w3 (by omega)).mono ?_
  rintro e w4 ⟨rfl, rfl⟩
  go_wp2_with fail
  refine (HU.out rp w3 hr3).mono ?_
  rintro e w5 ⟨rfl, k5, hr5⟩
  have hbox5 := k5.heap hbox3 (cells_ne hbox3 hr3.row (by decide))
  have K5 := Lib.hid ((K3.out.of_no (fun k => k = rp)).next k5 (fun k _ e => e) |>.mono (N := No) (fun k hk e => by omega))
  clear K3 k5 hbox3 hr3
  go_wp2_with fail
  go_loopw [11, 48] (fun v' i wr => ∃ (j : Nat) (r : Rd) (l' : List PageV), j ≤ n ∧ i = .int .i64 (j : Int) ∧ l'.length = j ∧ S = slots ls first p.serial (n - j) j r l' ∧ BatIn w wr rp r v' l' hb p) (fun _ i _ => n - (intOf i).toNat)
  case atStart => exact ⟨0, ru1, [], by omega, rfl, rfl, HS.out.symm, hr5, ⟨World.ownsRow_nil _ _ _ _, by simp, by simp⟩, K5.out, hbox5, fun g hg => (by cases hg), ⟨hrpn, by omega⟩, fun g hg => (by cases hg)⟩
  case round =>
    obtain ⟨j, r, l', hj, rfl, hlj, hSj, hin⟩ := hrel
    by_cases hjn : j < n
    · have HIN := Lib.hid hin
      have HSJ := Lib.hid hSj
      have hrl := hin.rd.lt
      have hrh : hb ≠ rp := cells_ne hin.page hin.rd.row (by decide)
      have hk1 := fixed_lt r 1
      have hk4 := fixed_lt (r.fixed 1).1 4
      have h256 : (256 : Nat) ^ 4 = 4294967296 := by decide
      have h2561 : (256 : Nat) ^ 1 = 256 := by decide
      rw [h256] at hk4
      rw [h2561] at hk1
      clear h256 h2561 hin hSj
      have HB1 := Lib.hid (fun w (h : RdAt w rp r) => rbyte_ok rp r w h)
      have HB2 := Lib.hid (fun w (h : RdAt w rp (r.fixed 1).1) => rfixed_ok rp (r.fixed 1).1 4 w h (by decide) (by decide))
      generalize hf1 : r.fixed 1 = f1 at *
      generalize hf2 : f1.1.fixed 4 = f2 at *
      have hwn : IntKind.u32.wrap (f2.2 : Int) = (f2.2 : Int) := by rw [IntKind.wrap_u32]; omega
      have p2 : ∀ q : InC (fun w => ∃ b', MixD wr rp r f1.1 f2.1 28 #[.int .u8 0, .int .u32 0, .int .u64 0, .string ByteArray.empty] #[.int .u8 (f1.2 : Int), .int .u32 (f2.2 : Int), .int .u64 (p.serial : Int), .string ByteArray.empty] b' w), q.world.cell? ⟨hb, 2, none⟩ = some (.int .u64 (p.serial : Int)) := fun q => by
        have := q.here.choose_spec.kept.heap HIN.out.page hrh
        rw [cell_of_row _ hb 2 _ _ _ this]
        rfl
      have hne : Nonempty (InC (fun w => ∃ b', MixD wr rp r f1.1 f2.1 28 #[.int .u8 0, .int .u32 0, .int .u64 0, .string ByteArray.empty] #[.int .u8 (f1.2 : Int), .int .u32 (f2.2 : Int), .int .u64 (p.serial : Int), .string ByteArray.empty] b' w)) := mix_start HIN.out.rd
      go_wp2_with fail
      refine wp_region_C [1, 3, 8, 9] (MixD wr rp r f1.1 f2.1 28 #[.int .u8 0, .int .u32 0, .int .u64 0, .string ByteArray.empty] #[.int .u8 (f1.2 : Int), .int .u32 (f2.2 : Int), .int .u64 (p.serial : Int), .string ByteArray.empty]) (by kernel_rfl) (by kernel_rfl) ⟨(Kept.refl _ _).drew, HIN.out.rd.kept ((Kept.refl No _).drew) (fun h => h), rfl⟩ ?_
      refine wpC_quiet (by rfl) (by rfl) (by rfl) ?_; intro K hK; go_big_quiet_op; go_big_quiet_on
      refine wpC_special (by rfl) (.int .u8 (f1.2 : Int)) (mix_one (by decide) (f := 124) (args := #[.pointer (some ⟨rp, 0, none⟩)]) (fun w => by go_simp) hrl (fun w h => HB1.out w h)) ?_
      simp only [Act.put, List.setIfInBounds_toArray, List.set_cons_succ, List.set_cons_zero]
      refine wpC_quiet (by rfl) (by rfl) (by rfl) ?_; intro K hK; go_big_quiet_op; go_big_quiet_on
      refine wpC_special (by rfl) (.int .u64 (f2.2 : Int)) (mix_two (by decide) (f := 83) (args := #[.pointer (some ⟨rp, 0, none⟩), .int .i64 4]) (fun w => by go_simp) hrl (by rfl) (by kernel_rfl) (fun w h => HB2.out w h)) ?_
      simp only [Act.put, List.setIfInBounds_toArray, List.set_cons_succ, List.set_cons_zero]
      iterate 4 (refine wpC_quiet (by rfl) (by rfl) (by rfl) ?_; intro K hK; go_big_quiet_op; go_big_quiet_on)
      refine wpC_special (by rfl) (.pointer (some ⟨wr.heap.size, 0, none⟩)) (mix_alloc (by decide) (fun w => by go_simp; rfl) hrl) ?_
      refine wpC_special (by rfl) undef (mix_store 28 (.tmp 13) (.tmp 58) (by rfl) (by rfl) (by rfl) (by exact page_size) (by rfl) (by simp [Value.oneCell']) hrl (by decide) (by rfl) (by kernel_rfl)) ?_
      refine wpC_nil ?_
      intro w8 hw8
      have hw8 : Kept (fun k => k = rp) wr w8 ∧ RdAt w8 rp f2.1 ∧ (w8.heap.size = wr.heap.size + 1 ∧ w8.heap[wr.heap.size]? = some (.cells #[.int .u8 (f1.2 : Int), .int .u32 (f2.2 : Int), .int .u64 (p.serial : Int), .string ByteArray.empty] 28 (0, 0))) := hw8
      obtain ⟨k8, hr8, hs8, hQ8⟩ := hw8
      have hrpw := HIN.out.newr.1
      have K8 := Lib.hid ((HIN.out.kept.of_no (fun k => k = rp)).next k8 (fun _ _ e => e) |>.mono (N := No) (fun k hk e => by omega))
      have HB8 := Lib.hid (k8.heap HIN.out.page hrh)
      have HP8 := Lib.hid (HIN.out.pages.kept k8 (fun j hj e => by
        obtain ⟨cs, hc⟩ := row_cells HIN.out.pages.row hj
        exact cells_ne hc HIN.out.rd.row (by decide) e))
      have HR8 := Lib.hid hr8
      have HQ8 := Lib.hid hQ8
      have HL8 := H.out.kept K8.out (fun _ _ h => h) (fun _ _ h => h)
      obtain ⟨b1, c1, hb1, -⟩ := HL8.get rfl (j + 1) (by omega)
      have hnew := HIN.out.new
      have hapart := HIN.out.apart
      have hownlt : ∀ j, u11.ownBlock = some j → j < wr.heap.size := fun j hj => (HIN.out.pages.row.lt j hj).2
      have hnewr := HIN.out.newr
      have hQw : w.heap.size ≤ wr.heap.size := HIN.out.kept.size
      have hQhb : wr.heap.size ≠ hb := by have := lt_of_heap HIN.out.page; omega
      have hQrp : wr.heap.size ≠ rp := by omega
      clear p2 hne k8 hr8 hQ8 HL8 HB1 HB2 HIN
      have hwj : IntKind.u32.wrap ((first : Int) + 1 + (j : Int)) = (first : Int) + 1 + (j : Int) := by rw [IntKind.wrap_u32]; omega
      generalize hQ : wr.heap.size = Q at *
      clear hQ
      have hSJ := HSJ.out
      rw [show n - j = (n - j - 1) + 1 from by omega, slots] at hSJ
      simp only [hf1, hf2, show ls[j + 1]?.getD [] = ls[j + 1]'(by omega) from by rw [List.getElem?_eq_getElem (by omega)]; rfl] at hSJ
      clear HSJ
      have hlj1 : j + 1 < ls.length := by omega
      generalize hl1 : ls[j + 1] = l1 at *
      cases hd : dec l1 (first + 1 + j) with
      | error e0 =>
        rw [hd] at hSJ
        simp only at hSJ
        subst hSJ
        have hne := dec_err hd
        have hneb : (e0 != 0) = true := by simpa using hne
        go_wp2_with fail
        rw [show ((first : Int) + 1 + (j : Int)) = ((first + 1 + j : Nat) : Int) from by omega]
        refine (decode_err b1 l1 (first + 1 + j) w8 hb1 (by omega) e0 hd).mono ?_
        rintro e w9 ⟨rfl, k9⟩
        have K9 := Lib.hid ((K8.out.trans k9).alloc (.cells #[.int .u8 0, .int .u32 0, .int .u64 0, .string ByteArray.empty] 28))
        clear k9
        go_wp2_with fail
        go_quiet (fail)
        go_wp2
        go_ret3
        exact ⟨⟨0, _, rfl⟩, K9.out.drewN _⟩
      | ok c =>
        rw [hd] at hSJ
        simp only at hSJ
        obtain ⟨-, hcs, hcb⟩ := dec_ok hd
        go_wp2_with fail
        rw [show ((first : Int) + 1 + (j : Int)) = ((first + 1 + j : Nat) : Int) from by omega]
        refine (decode_got b1 l1 (first + 1 + j) w8 hb1 (by omega) c hd).mono ?_
        rintro e w9 ⟨rfl, k9⟩
        have ka : Kept No w8 (w9.alloc (.cells #[.int .u8 (c.kind.toNat : Int), .int .u32 (c.number : Int), .int .u64 (c.serial : Int), .string ⟨⟨c.body⟩⟩] 28)) := k9.alloc _
        have hC := heap_alloc_new w9 (.cells #[.int .u8 (c.kind.toNat : Int), .int .u32 (c.number : Int), .int .u64 (c.serial : Int), .string ⟨⟨c.body⟩⟩] 28)
        have hCQ : w9.heap.size ≠ Q := by have := lt_of_heap (k9.heap HQ8.out (fun h => h)); omega
        have hCb : w9.heap.size ≠ hb := by have := lt_of_heap (k9.heap HB8.out (fun h => h)); omega
        have hCw : w.heap.size ≤ w9.heap.size := Nat.le_trans K8.out.size k9.size
        clear hd
        go_wp2_with fail
        generalize w9.alloc (.cells #[.int .u8 (c.kind.toNat : Int), .int .u32 (c.number : Int), .int .u64 (c.serial : Int), .string ⟨⟨c.body⟩⟩] 28) = wd at *
        generalize w9.heap.size = C at *
        have KD := Lib.hid (K8.out.trans ka)
        have HQd := Lib.hid (ka.heap HQ8.out (fun h => h))
        have HBd := Lib.hid (ka.heap HB8.out (fun h => h))
        have HRd := Lib.hid (HR8.out.kept ka (fun h => h))
        have HPd := Lib.hid (HP8.out.kept ka (fun _ _ h => h))
        have HCd := Lib.hid hC
        clear K8 HQ8 HB8 HR8 HP8 hC ka k9
        have cC0 := (cell_of_row wd C 0 _ _ _ HCd.out).trans rfl
        have cC2 := (cell_of_row wd C 2 _ _ _ HCd.out).trans rfl
        have cB2 : wd.cell? ⟨hb, 2, none⟩ = some (.int .u64 (p.serial : Int)) := (cell_of_row wd hb 2 _ _ _ HBd.out).trans rfl
        have cC3 := (cell_of_row wd C 3 _ _ _ HCd.out).trans rfl
        have cQ3 := (cell_of_row wd Q 3 _ _ _ HQd.out).trans rfl
        have fQ3 := frozen_of_row wd Q 3 _ _ HQd.out
        have HQ2 := Lib.hid (fun k => heap_setCell_same (wd.drewN k) Q 3 _ _ (.string ⟨⟨c.body⟩⟩) (row_drewN HQd.out k))
        have hlt3 : Q < wd.heap.size ∧ C < wd.heap.size := ⟨lt_of_heap HQd.out, lt_of_heap HCd.out⟩
        have cQ1 := (cell_of_row wd Q 1 _ _ _ HQd.out).trans rfl
        by_cases hk67 : c.kind = 67
        · have hk67b : ((c.kind.toNat : Int) != 67) = false := by rw [hk67]; rfl
          by_cases hsq : c.serial = p.serial
          · have hsqb : ((c.serial : Int) != (p.serial : Int)) = false := by rw [hsq]; simp
            have HOWN : ∀ j, u11.ownBlock = some j → j ≠ Q := fun j hj e => by have := hownlt j hj; omega
            have HROW : ∀ (k : Nat) (o : Obj), (((wd.drewN k).setCell ⟨Q, 3, none⟩ (.string ⟨⟨c.body⟩⟩)).alloc o).ownsRow 0 28 4 u11 l'.length (pageCells l') := fun k o => by
              have k1 : Kept (fun j => j = Q) wd (((wd.drewN k).setCell ⟨Q, 3, none⟩ (.string ⟨⟨c.body⟩⟩)).alloc o) := (((Kept.refl (fun j => j = Q) wd).drewN k).setCell ⟨Q, 3, none⟩ _ (fun _ => rfl)).alloc o
              exact k1.row HPd.out.row (fun j hj e => HOWN j hj e)
            have HNEWS : ∀ (k : Nat), ∀ j u, [Value.int .u8 (f1.2 : Int), .int .u32 (f2.2 : Int), .int .u64 (p.serial : Int), .string ⟨⟨c.body⟩⟩][j]? = some u → (((wd.drewN k).setCell ⟨Q, 3, none⟩ (.string ⟨⟨c.body⟩⟩)).alloc (.cells #[.int .u8 (f1.2 : Int), .int .u32 (f2.2 : Int), .int .u64 (p.serial : Int), .string ⟨⟨c.body⟩⟩] 28)).cell? ((⟨wd.heap.size, 0, none⟩ : Addr).add j) = some u := fun k => by
              have hs : ((wd.drewN k).setCell ⟨Q, 3, none⟩ (.string ⟨⟨c.body⟩⟩)).heap.size = wd.heap.size := by simp [World.setCell]
              have := heap_alloc_new ((wd.drewN k).setCell ⟨Q, 3, none⟩ (.string ⟨⟨c.body⟩⟩)) (.cells #[.int .u8 (f1.2 : Int), .int .u32 (f2.2 : Int), .int .u64 (p.serial : Int), .string ⟨⟨c.body⟩⟩] 28)
              rw [hs] at this
              exact World.news_of_block this
            obtain ⟨i0, hi, hz0, hz1, hz2⟩ := info_parts Tryz.infoPg
            by_cases hj0 : j = 0
            · have hjz : ¬ 0 < j := by omega
              rw [if_neg (by rintro (h | h | h); exact h hk67; exact h hsq; exact hjz h.1)] at hSJ
              clear hj0
              clear hsq hk67
              go_quiet (fail)
              go_wp2_with (first
                | (refine wpList_load_row (by rfl) 28 (.tmp 13) (by rfl) Q (by rfl) _ _ _ _ (HQ2.out _) Tryz.underlying28 (by rfl) (by exact page_size) ?_)
                | (at_builtin; go_loud (refine wpList_append_own_at _ (by rfl) (.tmp 105) (.tmp 107) 98 (by rfl) 0 28 i0 _ 4 32 Tryz.underlying98 hi hz0 hz1 hz2 (by rfl) (by decide) _ l'.length (pageCells l') (by rfl) (HROW _ _) ⟨wd.heap.size, 0, none⟩ 1 1 [.int .u8 (f1.2 : Int), .int .u32 (f2.2 : Int), .int .u64 (p.serial : Int), .string ⟨⟨c.body⟩⟩] (by rfl) (by rfl) (HNEWS _) (by simp [Value.oneCell']) (by unfold maxLen; omega) (by omega) (by omega) ?_; intro v2 w5 hown' hgrow _ hloc; have HO := Lib.hid hown'; have HG := Lib.hid hgrow; have HLOC := Lib.hid hloc; clear hown' hgrow hloc)))
              refine ⟨⟨j + 1, f2.1, l' ++ [⟨UInt8.ofNat f1.2, f2.2, p.serial, c.body⟩], by omega, by first | rfl | go_num, by simp [hlj], ?_, ?_⟩, by simp [intOf]; omega⟩
              · rw [hSJ]
                rw [show n - (j + 1) = n - j - 1 from by omega]
              · exact bat_next HRd.out HPd.out KD.out HBd.out hnew hnewr hapart hQw hQhb hQrp HOWN hk1 hk4 hser hcb HO.out HG.out HLOC.out (by omega)
            · obtain ⟨i, rfl⟩ : ∃ i, j = i + 1 := ⟨j - 1, by omega⟩
              clear hj0
              obtain ⟨g', cap', hu, -⟩ := HPd.out.at (by omega)
              have hrow := (HPd.out.row4 hu i (by omega)).2.1
              rw [show (l'[i + 1 - 1]?.map (·.number)).getD 0 = (l'[i]'(by omega)).number from by rw [Nat.add_sub_cancel, List.getElem?_eq_getElem (by omega)]; rfl] at hSJ
              generalize hnv : (l'[i]'(by omega)).number = nv at *
              subst hu
              have hil : i < l'.length := by omega
              have hll : l'.length < 900000 := by omega
              have HLJ := Lib.hid hlj
              clear hnv hlj
              by_cases hle : f2.2 ≤ nv
              · rw [if_pos (.inr (.inr ⟨by omega, hle⟩))] at hSJ
                subst hSJ
                clear hk67 hsq
                go_quiet (fail)
                go_wp2
                go_ret3
                exact ⟨⟨0, _, rfl⟩, KD.out.drewN _⟩
              · rw [if_neg (by rintro (h | h | h); exact h hk67; exact h hsq; exact hle h.2)] at hSJ
                have hle' : nv < f2.2 := by omega
                clear hle
                clear hsq hk67
                go_quiet (fail)
                go_wp2_with (first
                  | (refine wpList_load_row (by rfl) 28 (.tmp 13) (by rfl) Q (by rfl) _ _ _ _ (HQ2.out _) Tryz.underlying28 (by rfl) (by exact page_size) ?_)
                  | (at_builtin; go_loud (refine wpList_append_own_at _ (by rfl) (.tmp 105) (.tmp 107) 98 (by rfl) 0 28 i0 _ 4 32 Tryz.underlying98 hi hz0 hz1 hz2 (by rfl) (by decide) _ l'.length (pageCells l') (by rfl) (HROW _ _) ⟨wd.heap.size, 0, none⟩ 1 1 [.int .u8 (f1.2 : Int), .int .u32 (f2.2 : Int), .int .u64 (p.serial : Int), .string ⟨⟨c.body⟩⟩] (by rfl) (by rfl) (HNEWS _) (by simp [Value.oneCell']) (by unfold maxLen; omega) (by omega) (by omega) ?_; intro v2 w5 hown' hgrow _ hloc; have HO := Lib.hid hown'; have HG := Lib.hid hgrow; have HLOC := Lib.hid hloc; clear hown' hgrow hloc)))
                refine ⟨⟨i + 1 + 1, f2.1, l' ++ [⟨UInt8.ofNat f1.2, f2.2, p.serial, c.body⟩], by omega, by first | rfl | go_num, by simp [HLJ.out], ?_, ?_⟩, by simp [intOf]; omega⟩
                · rw [hSJ]
                  rw [show n - (i + 1 + 1) = n - (i + 1) - 1 from by omega]
                · exact bat_next HRd.out HPd.out KD.out HBd.out hnew hnewr hapart hQw hQhb hQrp HOWN hk1 hk4 hser hcb HO.out HG.out HLOC.out (by omega)
          · have hsqb : ((c.serial : Int) != (p.serial : Int)) = true := by rw [bne_iff_ne]; omega
            rw [if_pos (.inr (.inl hsq))] at hSJ
            subst hSJ
            clear hk67 hsq
            go_quiet (fail)
            go_wp2
            go_ret3
            exact ⟨⟨0, _, rfl⟩, KD.out.drewN _⟩
        · have hk67b : ((c.kind.toNat : Int) != 67) = true := by
            rw [bne_iff_ne]
            intro e
            apply hk67
            apply UInt8.toNat_inj.1
            show c.kind.toNat = 67
            omega
          rw [if_pos (.inl hk67)] at hSJ
          subst hSJ
          clear hk67
          go_quiet (fail)
          go_wp2
          go_ret3
          exact ⟨⟨0, _, rfl⟩, KD.out.drewN _⟩
    · have ej : j = n := by omega
      have HIN := Lib.hid hin
      have HE := Lib.hid (fun w (h : RdAt w rp r) => rend_ok rp r w h)
      rw [ej, Nat.sub_self, slots] at hSj
      subst hSj
      have hrh : hb ≠ rp := cells_ne hin.page hin.rd.row (by decide)
      have p2 : ∀ q : InC (Kept No wr), q.world.cell? ⟨hb, 2, none⟩ = some (.int .u64 (p.serial : Int)) := fun q => by
        have := q.here.heap HIN.out.page (fun h => h)
        rw [cell_of_row _ hb 2 _ _ _ this]
        rfl
      clear hin HS
      by_cases hz : r.fin = 0
      · rw [hz] at HE
        go_wp2_with fail
        refine wp_region_in (Kept No wr) (by kernel_rfl) (by kernel_rfl) ((Kept.refl _ _).drew) ?_
        repeat (go_big_quiet_step ((go_at_call 125; exact in_kept (HE.out _ (HIN.out.rd.kept (InC.here _) (fun h => h))))))
        refine wpQuiet_nil ?_
        intro w7 hw'
        obtain ⟨⟨wx, k7⟩, hw''⟩ := hw'
        change w7 = wx at hw''
        subst hw''
        go_wp2_with fail
        go_ret3
        exact ⟨p.serial, u11, rfl, HIN.out.kept.trans k7, rfl, HIN.out.pages.kept k7 (fun _ _ h => h), HIN.out.new⟩
      · have hzb : (r.fin == 0) = false := by simpa using hz
        go_wp2_with fail
        refine wp_region_in (Kept No wr) (by kernel_rfl) (by kernel_rfl) ((Kept.refl _ _).drew) ?_
        repeat (go_big_quiet_step ((go_at_call 125; exact in_kept (HE.out _ (HIN.out.rd.kept (InC.here _) (fun h => h))))))
        refine wpQuiet_nil ?_
        intro w7 hw'
        obtain ⟨⟨wx, k7⟩, hw''⟩ := hw'
        change w7 = wx at hw''
        subst hw''
        go_wp2_with fail
        go_ret3
        exact ⟨⟨p.serial, _, rfl⟩, HIN.out.kept.trans k7⟩
theorem batch_ok (v : Value) (bl : List Nat) (ls : List (List UInt8)) (first : Nat) (w : World) (h : LiesAt w v bl ls) (h0 : 0 < ls.length) (hf : first < 65536) :
    Calls Tryz.prog 77 #[v, .int .i64 (first : Int)] w fun e w' => ∃ (s : Int) (v' : Value) (ok : Bool), e = .returned (.tuple #[.int .u64 s, v', .bool ok]) ∧ Kept No w w' ∧ (ok = true → ∃ n : Nat, s = n) ∧ BatchOut w w' ls first s.toNat v' ok := by
  have hg : ls[0]?.getD [] = ls[0] := by simp [h0]
  cases he : dec ls[0] first with
  | error e0 =>
    refine (batch_err v bl ls first w h h0 (by omega) e0 he).mono ?_
    rintro e w' ⟨s, v', rfl, k⟩
    refine ⟨s, v', false, rfl, k, by simp, ?_⟩
    unfold BatchOut batchM
    rw [hg, he]
  | ok p =>
    by_cases hk : p.kind ≠ 74 ∨ p.serial = 0
    · refine (batch_kind v bl ls first w h h0 (by omega) p he hk).mono ?_
      rintro e w' ⟨s, v', rfl, k⟩
      refine ⟨s, v', false, rfl, k, by simp, ?_⟩
      unfold BatchOut batchM
      rw [hg, he]
      simp only
      rw [if_pos hk]
      trivial
    · have h1 : p.kind = 74 := by
        by_cases h : p.kind = 74
        · exact h
        · exact absurd (.inl h) hk
      have h2 : p.serial ≠ 0 := fun h => hk (.inr h)
      refine (batch_go v bl ls first w h h0 hf p he h1 h2).mono ?_
      rintro e w' ⟨s, v', ok, rfl, k, hB⟩
      exact ⟨s, v', ok, rfl, k, fun _ => ⟨s, rfl⟩, by simpa using hB⟩
end Go.Proofs.YtabhieafjkaocaaGreat
