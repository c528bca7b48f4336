/- A part. -/
import Derived.Test.YtabhieafjkaocaaGreatMabe
import Derived.Test.YtabhieafjkaocaaGreatMaau
import Derived.Test.YtabhieafjkaocaaGreatMaar
set_option linter.unusedVariables false
set_option linter.unusedSimpArgs false
namespace Go.Proofs.YtabhieafjkaocaaGreat
open Go.RowKit Go.Lib Bm
structure CalmD (dm : DiskM) (N : Nat) : Prop where
  off : dm.off = false
  armed : dm.armed = false
  pend : dm.pend = []
  len : dm.lies.length = N
theorem calm_runW {dm : DiskM} {N : Nat} (h : CalmD dm N) (h0 : 0 < N) {l : WrL} (hf : FitW N l) : (runW l dm).2 = 0 ∧ CalmD (runW l dm).1 N ∧ ∀ k, k < N → (runW l dm).1.view k = (DiskM.last l k).getD (dm.view k) := by
  obtain ⟨i1, i2, i3, i4, i5⟩ := runW_calm l dm h.off h.armed (by rw [h.len]; exact h0) (by rw [h.len]; exact hf)
  refine ⟨i1, ⟨i2, i5, i3, by rw [i4, set_len, h.len]⟩, fun k hk => ?_⟩
  exact view_landed dm l k (by rw [h.len]; exact hk) _ i3 i4
theorem pairwise_of_steps : ∀ (l : List PageV), (∀ i (h : i + 1 < l.length), l[i].number < l[i + 1].number) → (l.map (·.number)).Pairwise (· < ·)
  | [], _ => List.Pairwise.nil
  | [p], _ => by simp
  | p :: q :: l, h => by
    have ih := pairwise_of_steps (q :: l) fun i hi => by
      have := h (i + 1) (by simpa using hi)
      simpa using this
    have h0 : p.number < q.number := h 0 (by simp)
    refine List.pairwise_cons.2 ⟨fun x hx => ?_, ih⟩
    simp only [List.map_cons, List.mem_cons] at hx
    rcases hx with rfl | hx
    · exact h0
    · have := (List.pairwise_cons.1 (show ((q.number :: l.map (·.number))).Pairwise (· < ·) from ih)).1 x hx
      show p.number < x
      omega
theorem right_fit {cnt serial : Nat} {l : List PageV} (h : Fit cnt l) (h1 : 0 < serial) (h2 : serial ≤ 4611686018427387904) : rightM (cnt : Int) serial l = 0 := by
  unfold rightM
  rw [if_neg (by omega), if_neg (by have := h.room; omega), if_pos (pairwise_of_steps l h.rise), if_pos]
  rw [List.all_eq_true]
  intro p hp
  simpa using h.body p hp
theorem fit_good {cnt serial : Nat} {l : List PageV} (h : Fit cnt l) (h1 : 0 < serial) (h2 : serial ≤ 4611686018427387904) (hn : ∀ p ∈ l, p.number < 4294967296) : GoodB serial l :=
  ⟨h1, h2, fun p hp => ⟨h.body p hp, hn p hp⟩, pairwise_of_steps l h.rise, by have := h.room; unfold room at this; omega⟩
theorem put_calm {dm : DiskM} {N cnt serial : Nat} {l : List PageV} (h : CalmD dm N) (hN : cnt < N) (hf : Fit cnt l) (h1 : 0 < serial) (h2 : serial ≤ 4611686018427387904) :
    (putM dm 0 (cnt : Int) serial l).2 = 0 ∧ CalmD (putM dm 0 (cnt : Int) serial l).1 N ∧ ∀ k, k < N → (putM dm 0 (cnt : Int) serial l).1.view k = (DiskM.last (putL 0 serial l) k).getD (dm.view k) := by
  have hr := hf.room
  have hl : l.length ≤ 198 := by unfold room at hr; omega
  have hc : l.length < cnt := by have := hf.some_; unfold room at hr; omega
  rw [putM_run dm 0 cnt serial l (right_fit hf h1 h2) hf.body hl]
  exact calm_runW h (by omega) (putL_fit 0 serial N l (by omega) hf.body hl)
theorem home_calm {dm : DiskM} {N cnt serial : Nat} {l : List PageV} (h : CalmD dm N) (h0 : 0 < N) (hb : ∀ p ∈ l, p.body.length ≤ 996) (hn : ∀ p ∈ l, cnt + p.number < N) :
    (homeW cnt serial l dm).2 = 0 ∧ CalmD (homeW cnt serial l dm).1 N ∧ ∀ k, k < N → (homeW cnt serial l dm).1.view k = (DiskM.last (homeL cnt serial l) k).getD (dm.view k) := by
  rw [homeW_run cnt serial l dm hb]
  exact calm_runW h h0 (homeL_fit cnt serial N l hn hb)
theorem last_home_low {cnt serial : Nat} {l : List PageV} {k : Nat} (hk : k < cnt) : DiskM.last (homeL cnt serial l) k = none :=
  last_none _ _ fun x hx e => by
    obtain ⟨p, hp, rfl⟩ := List.mem_map.1 hx
    simp only at e
    omega
theorem last_put_high {serial : Nat} {l : List PageV} {k : Nat} (hk : l.length < k) : DiskM.last (putL 0 serial l) k = none :=
  last_none _ _ fun x hx e => by
    have : x.1 ∈ (putL 0 serial l).map (·.1) := List.mem_map_of_mem hx
    unfold putL at this
    rw [List.map_append, slotsL_keys] at this
    rcases List.mem_append.1 this with h | h
    · rw [List.mem_range'_1] at h; omega
    · simp only [List.map_cons, List.map_nil, List.mem_singleton] at h; omega
theorem last_home_at {cnt serial : Nat} {l : List PageV} (hr : (l.map (·.number)).Pairwise (· < ·)) {p : PageV} (hp : p ∈ l) : DiskM.last (homeL cnt serial l) (cnt + p.number) = some (enc { p with serial := serial }) :=
  last_of _ _ _ (homeL_nodup cnt serial l hr) (List.mem_map.2 ⟨p, hp, rfl⟩)
theorem ends_enc (p : PageV) (h : p.serial < 18446744073709551616) (hb : p.body.length ≤ 996) : ends (enc p) = (p.serial, p.serial) := by
  have h' : p.serial < 2 ^ 64 := by have : (2 : Nat) ^ 64 = 18446744073709551616 := by decide
                                    omega
  unfold ends enc encode
  rw [lay_serial p _ h', lay_tail p _ hb (be_length _ _) h']
theorem ends_zero : ends (List.replicate 1024 0) = (0, 0) := by decide +kernel
theorem topOf_le : ∀ (ls : List (List UInt8)) (B : Nat), (∀ b ∈ ls, (ends b).1 ≤ B ∧ (ends b).2 ≤ B) → topOf ls ≤ B := by
  intro ls B h
  unfold topOf
  have key : ∀ (l : List (List UInt8)) (t : Nat), t ≤ B → (∀ b ∈ l, (ends b).1 ≤ B ∧ (ends b).2 ≤ B) → l.foldl (fun t b => max t (max (ends b).1 (ends b).2)) t ≤ B := by
    intro l
    induction l with
    | nil => intro t ht _; exact ht
    | cons b l ih =>
      intro t ht hb
      rw [List.foldl_cons]
      have := hb b (by simp)
      exact ih _ (by omega) fun c hc => hb c (by simp [hc])
  exact key ls 0 (Nat.zero_le _) h
def EndsLe (dm : DiskM) (cnt B : Nat) : Prop := ∀ k, k < cnt → (ends (dm.view k)).1 ≤ B ∧ (ends (dm.view k)).2 ≤ B
theorem EndsLe.top {dm : DiskM} {cnt B : Nat} (h : EndsLe dm cnt B) : topOf (views dm 0 cnt) ≤ B := topOf_le _ _ fun b hb => by
  unfold views at hb
  obtain ⟨k, hk, rfl⟩ := List.mem_map.1 hb
  rw [Nat.zero_add]
  exact h k (List.mem_range.1 hk)
theorem ends_put {dm dm' : DiskM} {cnt serial B : Nat} {l : List PageV} (h : EndsLe dm cnt B) (hB : serial ≤ B) (hB2 : B < 18446744073709551616) (hb : ∀ p ∈ l, p.body.length ≤ 996) (hl : l.length ≤ 198)
    (hv : ∀ k, k < cnt → dm'.view k = (DiskM.last (putL 0 serial l) k).getD (dm.view k)) : EndsLe dm' cnt B := fun k hk => by
  rw [hv k hk]
  cases hq : DiskM.last (putL 0 serial l) k with
  | none => exact h k hk
  | some b =>
    obtain ⟨x, hx, e⟩ := last_get _ _ _ hq
    have : ∃ p : PageV, b = enc p ∧ p.serial = serial ∧ p.body.length ≤ 996 := by
      unfold putL at hx
      rcases List.mem_append.1 hx with hx | hx
      · obtain ⟨j, hj, hjx⟩ := List.getElem_of_mem hx
        rw [slotsL_len] at hj
        have h1 := slotsL_get 0 serial l 0 j hj
        rw [List.getElem?_eq_getElem (by rw [slotsL_len]; exact hj)] at h1
        injection h1 with h1
        rw [h1, e] at hjx
        have h2 := congrArg Prod.snd hjx
        exact ⟨_, h2.symm, rfl, show (l[j]).body.length ≤ 996 from hb _ (List.getElem_mem hj)⟩
      · simp only [List.mem_singleton] at hx
        rw [e] at hx
        have h2 := congrArg Prod.snd hx
        exact ⟨_, h2, rfl, by have := headsL_len l (by omega); show (heads l).length ≤ 996; omega⟩
    obtain ⟨p, rfl, h1, h2⟩ := this
    rw [Option.getD_some, ends_enc p (by omega) h2]
    simp only
    omega
theorem layout_calm {dm : DiskM} {N cnt n serial : Nat} (h : CalmD dm N) (hN : N = cnt + n) (hc : 2 ≤ cnt) (hn : 2 ≤ n) (hn4 : n ≤ 4096) (h1 : 0 < serial) (h2 : serial ≤ 4611686018427387904) :
    (layoutM dm cnt n serial).2 = 0 ∧ CalmD (layoutM dm cnt n serial).1 N ∧
    (∀ k, k < N → (layoutM dm cnt n serial).1.view k = (DiskM.last (homeL cnt serial [(HeldM.fresh n).page]) k).getD ((DiskM.last (putL 0 serial [(HeldM.fresh n).page]) k).getD (dm.view k))) := by
  have hfit := fit_head (HeldM.fresh n) cnt hn4 hc
  obtain ⟨p1, p2, p3⟩ := put_calm h (by omega) hfit h1 h2
  obtain ⟨q1, q2, q3⟩ := home_calm (cnt := cnt) (serial := serial) (l := [(HeldM.fresh n).page]) p2 (by omega) hfit.body (fun p hp => by simp at hp; subst hp; show cnt + 0 < N; omega)
  unfold layoutM
  simp only
  rw [if_neg (by simp [p1])]
  exact ⟨q1, q2, fun k hk => by rw [q3 k hk, p3 k hk]⟩
theorem commit_calm {dm : DiskM} {N : Nat} {st : StM} {m : BtM} (h : CalmD dm N) (hN : N = st.count + m.held.n) (hc : 2 ≤ st.count) (hf : Fit st.count m.pages) (h1 : 0 < st.next) (h2 : st.next ≤ 4611686018427387904) (hk : ∀ y ∈ m.has, y.1 < m.held.n) (hn : 2 ≤ m.held.n) :
    (commitW st m dm).2 = 0 ∧ CalmD (commitW st m dm).1 N ∧
    (∀ k, k < N → (commitW st m dm).1.view k = (DiskM.last (homeL st.count st.next m.pages) k).getD ((DiskM.last (putL 0 st.next m.pages) k).getD (dm.view k))) := by
  obtain ⟨p1, p2, p3⟩ := put_calm h (by omega) hf h1 h2
  obtain ⟨q1, q2, q3⟩ := home_calm (cnt := st.count) (serial := st.next) (l := m.pages) p2 (by omega) hf.body (fun p hp => by
    unfold BtM.pages at hp
    rcases List.mem_cons.1 hp with rfl | hp
    · show st.count + 0 < N; omega
    · obtain ⟨y, hy, rfl⟩ := List.mem_map.1 hp
      have := hk y hy
      show st.count + y.1 < N; omega)
  unfold commitW
  simp only
  rw [if_neg (by simp [p1])]
  exact ⟨q1, q2, fun k hk => by rw [q3 k hk, p3 k hk]⟩
theorem dec_home {serial : Nat} {p : PageV} (h1 : 0 < serial) (h2 : serial ≤ 4611686018427387904) (hb : p.body.length ≤ 996) : dec (enc { p with serial := serial }) p.number = .ok { p with serial := serial } := dec_enc { p with serial := serial } h1 h2 hb
theorem dec_zero (n : Nat) : dec (List.replicate 1024 0) n = .error 51 := by
  unfold dec decode
  rw [if_neg (by rw [List.length_replicate]; exact fun h => h rfl), if_pos rfl]
theorem batch_zero {ls : List (List UInt8)} (first : Nat) (h : ls[0]? = some (List.replicate 1024 0)) : batchM ls first = none := by
  unfold batchM
  rw [h, Option.getD_some, dec_zero]
theorem laid_views {dm dm' : DiskM} {N cnt serial : Nat} {l : List PageV} (hl : l.length < cnt) (hN : cnt ≤ N) (hv : ∀ k, k < N → dm'.view k = (DiskM.last (homeL cnt serial l) k).getD ((DiskM.last (putL 0 serial l) k).getD (dm.view k))) : Laid (views dm' 0 cnt) 0 serial l := by
  have hd := putL_nodup 0 serial l
  constructor
  · rw [List.getElem?_eq_getElem (by rw [views_len]; omega), views_get _ _ _ _ (by omega), hv _ (by omega), last_home_low (by omega), last_of _ (0 + 0) (enc ⟨74, 0, serial, heads l⟩) hd (by unfold putL; simp)]
    rfl
  · intro j hj
    rw [List.getElem?_eq_getElem (by rw [views_len]; omega), views_get _ _ _ _ (by omega), hv _ (by omega), last_home_low (by omega), last_of _ (0 + (j + 1)) (enc ⟨67, 0 + 1 + j, serial, (l[j]).body⟩) hd ?_]
    · rfl
    · have := slotsL_get 0 serial l 0 j hj
      rw [Nat.zero_add j] at this
      unfold putL
      rw [show 0 + (j + 1) = 0 + 1 + j from by omega]
      exact List.mem_append_left _ (List.mem_of_getElem? this)
theorem EndsLe.commit {dm dm' : DiskM} {N cnt serial B : Nat} {l : List PageV} (h : EndsLe dm cnt B) (hN : cnt ≤ N) (hB : serial ≤ B) (hB2 : B < 18446744073709551616) (hb : ∀ p ∈ l, p.body.length ≤ 996) (hl : l.length ≤ 198)
    (hv : ∀ k, k < N → dm'.view k = (DiskM.last (homeL cnt serial l) k).getD ((DiskM.last (putL 0 serial l) k).getD (dm.view k))) : EndsLe dm' cnt B :=
  ends_put h hB hB2 hb hl fun k hk => by rw [hv k (by omega), last_home_low hk]; rfl
def wk0 (N : Nat) : DiskM := ⟨List.replicate N (List.replicate 1024 0), [], false, false, 0⟩
theorem wk0_calm (N : Nat) : CalmD (wk0 N) N := ⟨rfl, rfl, rfl, List.length_replicate⟩
theorem wk0_view (N k : Nat) (h : k < N) : (wk0 N).view k = List.replicate 1024 0 := by
  unfold DiskM.view wk0
  simp only [DiskM.last, Option.getD_none]
  rw [List.getElem?_replicate, if_pos h]
  rfl
theorem wk0_ends (N cnt : Nat) (h : cnt ≤ N) : EndsLe (wk0 N) cnt 0 := fun k hk => by
  rw [wk0_view N k (by omega), ends_zero]
  exact ⟨Nat.le_refl _, Nat.le_refl _⟩
theorem wk0_batch (N cnt : Nat) (h0 : 0 < cnt) (h : cnt ≤ N) : batchM (views (wk0 N) 0 cnt) 0 = none := by
  refine batch_zero 0 ?_
  rw [List.getElem?_eq_getElem (by rw [views_len]; exact h0), views_get _ _ _ _ h0, wk0_view N _ (by omega)]
theorem wk0_top (N cnt : Nat) (h : cnt ≤ N) : topOf (views (wk0 N) 0 cnt) = 0 := Nat.le_zero.1 (wk0_ends N cnt h).top
def wk1 (N cnt : Nat) : DiskM := (layoutM (wk0 N) cnt (N - cnt) 1).1
def ws1 (N cnt : Nat) : StM := ⟨cnt, HeldM.fresh (N - cnt), 1, 2, false⟩
structure FreshIn (N cnt : Nat) : Prop where
  hc : 2 ≤ cnt
  hn : 2 ≤ N - cnt
  hm : N ≤ 4096
theorem wk1_run {N cnt : Nat} (h : FreshIn N cnt) : (layoutM (wk0 N) cnt (N - cnt) 1).2 = 0 ∧ CalmD (wk1 N cnt) N ∧
    (∀ k, k < N → (wk1 N cnt).view k = (DiskM.last (homeL cnt 1 [(HeldM.fresh (N - cnt)).page]) k).getD ((DiskM.last (putL 0 1 [(HeldM.fresh (N - cnt)).page]) k).getD ((wk0 N).view k))) := by
  have := h.hc; have := h.hn; have := h.hm
  exact layout_calm (wk0_calm N) (by omega) h.hc h.hn (by omega) (by omega) (by omega)
theorem fresh_body (n : Nat) (h : n ≤ 4096) : (HeldM.fresh n).body.length ≤ 996 := page_fits _ h
theorem wk1_head {N cnt : Nat} (h : FreshIn N cnt) : dec ((wk1 N cnt).view cnt) 0 = .ok ⟨83, 0, 1, (HeldM.fresh (N - cnt)).body⟩ := by
  have h1 := h.hc; have h2 := h.hn; have h3 := h.hm
  have e : DiskM.last (homeL cnt 1 [(HeldM.fresh (N - cnt)).page]) cnt = some _ := last_home_at (cnt := cnt) (serial := 1) (l := [(HeldM.fresh (N - cnt)).page]) (by simp) (List.mem_singleton.2 rfl)
  rw [(wk1_run h).2.2 cnt (by omega), e, Option.getD_some]
  exact dec_home (p := (HeldM.fresh (N - cnt)).page) (by omega) (by omega) (fresh_body _ (by omega))
theorem wk1_ends {N cnt : Nat} (h : FreshIn N cnt) : EndsLe (wk1 N cnt) cnt 1 := by
  have h1 := h.hc; have h2 := h.hn; have h3 := h.hm
  refine EndsLe.commit (dm := wk0 N) (N := N) (serial := 1) (l := [(HeldM.fresh (N - cnt)).page]) (fun k hk => ?_) (by omega) (Nat.le_refl _) (by omega) (fun p hp => ?_) (by simp) (wk1_run h).2.2
  · have := wk0_ends N cnt (by omega) k hk
    omega
  · simp at hp; subst hp; exact fresh_body _ (by omega)
def wm0 : BtM := ⟨HeldM.fresh 4, [], false, false⟩
def wm1 : BtM := ⟨(HeldM.fresh 4).put 1, [(1, 7, [97])], true, false⟩
def wm2 : BtM := ⟨{ (HeldM.fresh 4).put 1 with root := Root8.zero.set 2 1 }, [(1, 7, [97])], true, false⟩
theorem wm_alloc : wm0.alloc (7, [97]) = (wm1, 1, 0) := by
  have hf : freeFrom wm0.held.ws wm0.held.n 1 = some 1 := freeFrom_out _ _ _ (by show 1 < 4; omega) (mem_zero 4 1)
  unfold BtM.alloc
  rw [if_neg (by decide), if_neg (by decide), hf]
  rfl
theorem wm_root : wm1.setRoot 2 1 = (wm2, 0) := by rfl
theorem wm_size : wm2.size = 2 := rfl
theorem four_in : FreshIn 8 4 := ⟨by omega, by omega, by omega⟩
theorem wm_ok : wm2.held.Ok := by
  have o1 := (HeldM.fresh_ok 4 (by omega) (by omega)).put (k := 1) (by omega) (by show 1 < 4; omega)
  exact o1.setRoot (i := 2) (n := 1) (by omega) (.inr (by rfl))
theorem wm_fit : Fit 4 wm2.pages := by
  refine ⟨by simp [BtM.pages], by simp [BtM.pages, wm2]; unfold room; omega, fun i hi => ?_, fun p hp => ?_⟩
  · simp [BtM.pages, wm2] at hi
    obtain rfl : i = 0 := by omega
    show (0 : Nat) < 1
    omega
  · unfold BtM.pages at hp
    rcases List.mem_cons.1 hp with rfl | hp
    · exact page_fits _ (by show 4 ≤ 4096; omega)
    · obtain ⟨y, hy, rfl⟩ := List.mem_map.1 hp
      simp [wm2] at hy
      subst hy
      show ([97] : List UInt8).length ≤ 996
      simp
def wk2 : DiskM := (commitW (ws1 8 4) wm2 (wk1 8 4)).1
def wl : List PageV := wm2.pages.map fun p => { p with serial := 2 }
theorem wk2_run : (commitW (ws1 8 4) wm2 (wk1 8 4)).2 = 0 ∧ CalmD wk2 8 ∧ (∀ k, k < 8 → wk2.view k = (DiskM.last (homeL 4 2 wm2.pages) k).getD ((DiskM.last (putL 0 2 wm2.pages) k).getD ((wk1 8 4).view k))) :=
  commit_calm (wk1_run four_in).2.1 rfl (by show 2 ≤ 4; omega) wm_fit (by show 0 < 2; omega) (by show 2 ≤ 4611686018427387904; omega) (fun y hy => by simp [wm2] at hy; subst hy; show 1 < 4; omega) (by show 2 ≤ 4; omega)
theorem wm_commit : commitM (ws1 8 4) wm2 (wk1 8 4) = (⟨4, wm2.held, 2, 3, false⟩, { wm2 with ended := true }, wk2, 0) := by
  unfold commitM
  rw [if_neg (by decide), if_neg (by rw [wm_size]; show ¬ room ((4 : Nat) : Int) < 2; unfold room; omega), if_neg (by decide), if_neg (by simp [wk2_run.1])]
  rfl
theorem wm_good : GoodB 2 wm2.pages := fit_good wm_fit (by omega) (by omega) (fun p hp => by
  unfold BtM.pages at hp
  rcases List.mem_cons.1 hp with rfl | hp
  · show 0 < 4294967296; omega
  · obtain ⟨y, hy, rfl⟩ := List.mem_map.1 hp
    simp [wm2] at hy
    subst hy
    show 1 < 4294967296
    omega)
theorem wk2_batch : batchM (views wk2 0 4) 0 = some (2, wl) := by
  refine batch_laid _ 0 2 wm2.pages (laid_views (by simp [BtM.pages, wm2]) (by omega) wk2_run.2.2) wm_good ?_
  rw [views_len]
  simp [BtM.pages, wm2]
  unfold room; omega
theorem wk2_top : topOf (views wk2 0 4) ≤ 2 :=
  ((show EndsLe (wk1 8 4) 4 2 from fun k hk => by have := wk1_ends four_in k hk; omega).commit (by omega) (Nat.le_refl _) (by omega) wm_fit.body (by simp [BtM.pages, wm2]) wk2_run.2.2).top
theorem wl_mem {p : PageV} (h : p ∈ wl) : p = ⟨83, 0, 2, wm2.held.body⟩ ∨ p = ⟨7, 1, 2, [97]⟩ := by
  unfold wl BtM.pages at h
  simp [wm2] at h
  exact h
def wk3 : DiskM := (homeW 4 2 wl wk2).1
theorem wl_body : ∀ p ∈ wl, p.body.length ≤ 996 := fun p hp => by
  rcases wl_mem hp with rfl | rfl
  · exact page_fits _ (by show 4 ≤ 4096; omega)
  · show ([97] : List UInt8).length ≤ 996; simp
theorem wk3_run : (homeW 4 2 wl wk2).2 = 0 ∧ CalmD wk3 8 ∧ ∀ k, k < 8 → wk3.view k = (DiskM.last (homeL 4 2 wl) k).getD (wk2.view k) :=
  home_calm wk2_run.2.1 (by omega) wl_body (fun p hp => by rcases wl_mem hp with rfl | rfl <;> simp)
theorem wl_rise : (wl.map (·.number)).Pairwise (· < ·) := by simp [wl, BtM.pages, wm2, HeldM.page]
theorem wl_one : (⟨7, 1, 2, [97]⟩ : PageV) ∈ wl := by simp [wl, BtM.pages, wm2]
theorem wl_zero : (⟨83, 0, 2, wm2.held.body⟩ : PageV) ∈ wl := by simp [wl, BtM.pages, wm2, HeldM.page]
theorem wk3_head : dec (wk3.view 4) 0 = .ok ⟨83, 0, 2, wm2.held.body⟩ := by
  have e : DiskM.last (homeL 4 2 wl) 4 = some _ := last_home_at (cnt := 4) (serial := 2) wl_rise wl_zero
  rw [wk3_run.2.2 4 (by omega), e, Option.getD_some]
  exact dec_home (p := ⟨83, 0, 2, wm2.held.body⟩) (by omega) (by omega) (wl_body _ wl_zero)
theorem wk3_one : dec (wk3.view 5) 1 = .ok ⟨7, 1, 2, [97]⟩ := by
  have e : DiskM.last (homeL 4 2 wl) 5 = some _ := last_home_at (cnt := 4) (serial := 2) wl_rise wl_one
  rw [wk3_run.2.2 5 (by omega), e, Option.getD_some]
  exact dec_home (p := ⟨7, 1, 2, [97]⟩) (by omega) (by omega) (wl_body _ wl_one)
def ws3 (top : Nat) : StM := ⟨4, wm2.held, 2, max 2 top + 1, false⟩
theorem ws3_read (top : Nat) : (ws3 top).read wk3 1 = (⟨7, 1, 2, [97]⟩, 0) := by
  have h0 := wk3_run.2.1.off
  have h1 := wk3_one
  generalize wk3 = d at *
  have ha : (ws3 top).now.asked 1 = 0 := by show wm2.held.asked 1 = 0; decide +kernel
  have e : (ws3 top).read d 1 = liesM d 4 1 := by
    unfold StM.read
    rw [if_neg (by show ¬ false = true; simp), if_neg (by rw [ha]; simp)]
    rfl
  rw [e]
  unfold liesM
  rw [h0, if_neg (by simp), show 4 + 1 = 5 from rfl, h1]
end Go.Proofs.YtabhieafjkaocaaGreat
namespace Go.Proofs.YtabhieafjkaocaaGreat
open Go.RowKit Go.Lib Go.Maps Bm
set_option maxRecDepth 20000
theorem open_new (N cnt : Nat) (hF : FreshIn N cnt) (x : DiskH) (w : World) (hx : DiskAt w x (wk0 N)) :
    Calls Tryz.prog 12 #[dev x.d, .int .i64 (cnt : Int)] w fun e w' => ∃ (x' : DiskH) (s u : Nat) (v : Value), e = .returned (.tuple #[.pointer (some ⟨s, 0, none⟩), .int .i64 0]) ∧ Kept x.foot w w' ∧ DiskAt w' x' (wk1 N cnt) ∧ x'.d = x.d ∧ (∀ g, x'.foot g → x.foot g ∨ w.heap.size ≤ g) ∧
      StAt w' s x.d u v (.pointer none) (ws1 N cnt) ∧ w.heap.size ≤ s ∧ w.heap.size ≤ u ∧ ∀ g, v.ownBlock = some g → w.heap.size ≤ g := by
  have h1 := hF.hc; have h2 := hF.hn; have h3 := hF.hm
  have hr := wk1_run hF
  have := open_blank x (wk0 N) cnt (N - cnt) 0 w hx rfl (by rw [(wk0_calm N).len]; exact h3) h1 (by rw [(wk0_calm N).len]; omega) h2 (by rw [(wk0_calm N).pend]; simp) (wk0_batch N cnt (by omega) (by omega)) (wk0_top N cnt (by omega)) (by omega) (wk0_view N cnt (by omega)) hr.1 (wk1_head hF)
  exact this
theorem open_wk2 (x : DiskH) (w : World) (hx : DiskAt w x wk2) :
    ∃ top, Calls Tryz.prog 12 #[dev x.d, .int .i64 4] w fun e w' => ∃ (x' : DiskH) (s u : Nat) (v : Value), e = .returned (.tuple #[.pointer (some ⟨s, 0, none⟩), .int .i64 0]) ∧ Kept x.foot w w' ∧ DiskAt w' x' wk3 ∧ x'.d = x.d ∧
      StAt w' s x.d u v (.pointer none) (ws3 top) := by
  have hr := wk2_run
  have ht := wk2_top
  have h3 := wk3_run
  refine ⟨topOf (views wk2 0 4), ?_⟩
  refine (open_whole x wk2 4 4 (topOf (views wk2 0 4)) 2 2 (max 2 (topOf (views wk2 0 4))) wl wm2.held w hx hr.2.1.off (by rw [hr.2.1.len]; omega) (by omega) (by rw [hr.2.1.len]) (by omega) (by rw [hr.2.1.pend]; simp) wk2_batch rfl (by simp [wl, BtM.pages]) (by simp [wl, BtM.pages, wm2]) (fun p hp => by rcases wl_mem hp with rfl | rfl <;> simp) wl_body (by omega) rfl (by omega) h3.1 wm_ok rfl wk3_head).mono ?_
  rintro e w' ⟨x', s, u, v, h⟩
  exact ⟨x', s, u, v, h.1, h.2.1, h.2.2.1, h.2.2.2.1, h.2.2.2.2.2.1⟩
theorem page_same (w : World) : (binOp .eql 28 (.agg #[.int .u8 7, .int .u32 1, .int .u64 2, .string ⟨⟨[97]⟩⟩]) (.agg #[.int .u8 7, .int .u32 1, .int .u64 2, .string ⟨⟨[97]⟩⟩])).run Tryz.prog w = .ok (.bool true) w := by kernel_rfl
theorem ptr_not (a : Nat) (w : World) : (binOp .eql 22 (.pointer (some ⟨a, 0, none⟩)) (.pointer none)).run Tryz.prog w = .ok (.bool false) w := by kernel_rfl
set_option maxHeartbeats 4000000 in
theorem wakes_walk (d0 d1 d2 d3 : DiskM) (st1 st2 : StM) (m0 m1 m2 m3 : BtM)
    (hnew : ∀ w, Calls Tryz.prog 26 #[.int .i64 8] w fun e w' => ∃ x : DiskH, e = .returned (.tuple #[.pointer (some ⟨x.d, 0, none⟩), .int .i64 0]) ∧ Kept No w w' ∧ DiskAt w' x d0 ∧ ∀ g, x.foot g → w.heap.size ≤ g)
    (hopen : ∀ (x : DiskH) (w : World), DiskAt w x d0 → Calls Tryz.prog 12 #[dev x.d, .int .i64 4] w fun e w' => ∃ (x' : DiskH) (s u : Nat) (v : Value), e = .returned (.tuple #[.pointer (some ⟨s, 0, none⟩), .int .i64 0]) ∧ Kept x.foot w w' ∧ DiskAt w' x' d1 ∧ x'.d = x.d ∧ (∀ g, x'.foot g → x.foot g ∨ w.heap.size ≤ g) ∧
      StAt w' s x.d u v (.pointer none) st1 ∧ w.heap.size ≤ s ∧ w.heap.size ≤ u ∧ ∀ g, v.ownBlock = some g → w.heap.size ≤ g)
    (hm0 : (⟨st1.now, [], false, st1.dead⟩ : BtM) = m0) (hal : m0.alloc (7, [97]) = (m1, 1, 0)) (hsr : m1.setRoot 2 1 = (m2, 0)) (hsize : m2.size = 2) (hcm : commitM st1 m2 d1 = (st2, m3, d2, 0))
    (hme : m2.ended = false) (hpos : ∀ y ∈ m2.has, 0 < y.1) (hnx : st1.next < 4611686018427387904) (hpd : d1.pend.length < 100000) (hcl : st1.count ≤ d1.lies.length)
    (hopen2 : ∀ (x : DiskH) (w : World), DiskAt w x d2 → ∃ st3 : StM, Calls Tryz.prog 12 #[dev x.d, .int .i64 4] w (fun e w' => ∃ (x' : DiskH) (s u : Nat) (v : Value), e = .returned (.tuple #[.pointer (some ⟨s, 0, none⟩), .int .i64 0]) ∧ Kept x.foot w w' ∧ DiskAt w' x' d3 ∧ x'.d = x.d ∧
      StAt w' s x.d u v (.pointer none) st3) ∧ st3.read d3 1 = (⟨7, 1, 2, [97]⟩, 0) ∧ st3.serial = 2 ∧ st3.now.root.get 2 = 1 ∧ st3.now.n = 4 ∧ cnt st3.now.ws = 1 ∧ st3.count + st3.now.n ≤ d3.lies.length) (w : World) :
    Calls Tryz.prog 25 #[] w fun e w' => e = .returned (.bool true) ∧ Kept No w w' := by
  have hps := page_same
  have hpn := ptr_not
  go_enter Tryz.func25, Tryz.ntmps25
  go_wp2_with (go_at_call 26; refine (hnew w).mono ?_; rintro e w1 ⟨x, rfl, k1, hx1, hf1⟩)
  refine (hopen x w1 hx1).mono ?_
  rintro e w2 ⟨x2, s, u, v, rfl, k2, hx2, hd2, hf2, hs2, hsn, hun, hvn⟩
  have K2 : Hid (Kept No w w2) := Lib.hid (k1.next k2 (fun k hk e => absurd (hf1 k e) (by omega)))
  have hz1 := k1.size
  have F2 : Hid (∀ g, x2.foot g → w.heap.size ≤ g) := Lib.hid (fun g hg => (hf2 g hg).elim (hf1 g) (fun h => by omega))
  have hsw : Hid (w.heap.size ≤ s) := Lib.hid (by omega)
  rw [← hd2] at hs2
  have HX2 := Lib.hid hx2
  have HS2 := Lib.hid hs2
  have HD2 := Lib.hid hd2
  clear k1 k2 hx1 hf1 hx2 hf2 hs2 hsn hun hvn hz1 hd2
  go_wp2_with fail
  refine (begin_none s x2.d u v st1 w2 HS2.out).mono ?_
  rintro e w3 ⟨b, u', v', hm, rfl, k3, hs3, hb3, hbn, hun, hvn, hhn⟩
  have hlt := lt_of_heap HS2.out.head
  have hfs : ¬ x2.foot s := HX2.out.not_foot HS2.out.head (by decide) (by decide) (by decide)
  have hx3 := HX2.out.kept k3 (fun g hg e => hfs (e ▸ hg))
  have hsz := K2.out.size
  have K3 : Hid (Kept No w w3) := Lib.hid (K2.out.next k3 (fun k hk e => absurd hsw.out (by omega)))
  have hbF : Hid (∀ g, BtF b v' hm g → w2.heap.size ≤ g) := Lib.hid (fun g hg => by
    rcases hg with e | e | e
    · omega
    · exact hvn g e
    · omega)
  have hxlt : Hid (∀ g, x2.foot g → g < w2.heap.size) := Lib.hid (fun g hg => HX2.out.foot_lt hg)
  have hslt : Hid (s < w2.heap.size ∧ u < w2.heap.size ∧ ∀ g, v.ownBlock = some g → g < w2.heap.size) := Lib.hid ⟨hlt, lt_of_heap HS2.out.held.set.head, fun g hg => by
    obtain ⟨cs, hc⟩ := row_cells HS2.out.held.set.row hg
    exact lt_of_heap hc⟩
  rw [hm0] at hb3
  have HX3 := Lib.hid hx3
  have HS3 := Lib.hid hs3
  have HB3 := Lib.hid hb3
  have HHN := Lib.hid hhn
  have HSZ := Lib.hid hsz
  clear k3 hs3 hb3 hbn hun hvn hhn hlt hfs hx3 hsz HX2 HS2 K2
  go_wp2_with fail
  have hcal := alloc_ok b s u' v' hm m0 7 [97] w3 HB3.out (by simp)
  rw [hal] at hcal
  refine hcal.mono ?_
  rintro e w4 ⟨rfl, k4, hb4⟩
  have HB4 := Lib.hid hb4
  have HK4 := Lib.hid k4
  clear k4 hb4 hcal
  have hcsr := setRoot_ok b s u' v' hm m1 2 1 w4 HB4.out (by omega) (by omega) (by omega)
  rw [hsr] at hcsr
  have HSR := Lib.hid hcsr
  clear hcsr
  go_wp2_with (first
    | (go_at_call 23; refine HSR.out.mono ?_; rintro e w5 ⟨rfl, k5, hb5⟩; have HB5 := Lib.hid hb5; have HK5 := Lib.hid k5; clear k5 hb5)
    | (go_at_call 20; refine (size_ok b s u' v' hm m2 w5 HB5.out).mono ?_; rintro e w' ⟨rfl, rfl⟩; rw [hsize]))
  have k45 := HK4.out.trans HK5.out
  have hx5 := HX3.out.kept k45 (fun g hg e => absurd (hxlt.out g hg) (by have := hbF.out g e; omega))
  have hs5 := HS3.out.kept k45 (fun e => by have := hbF.out s e; have := hslt.out.1; omega) (fun e => by have := hbF.out u e; have := hslt.out.2.1; omega) (fun g hg e => by have := hbF.out g e; have := hslt.out.2.2 g hg; omega)
  have K5 : Hid (Kept No w w5) := Lib.hid (K3.out.next k45 (fun k hk e => by have := hbF.out k e; have := HSZ.out; omega))
  have hccm := commit_ok b s u' u hm v' v (.pointer (some ⟨b, 0, none⟩)) x2 st1 d1 m2 w5 HB5.out hs5 hx5 hme hpos (fun h => by have := hxlt.out hm h; have := HHN.out; omega) hnx hpd hcl
  rw [hcm] at hccm
  refine hccm.mono ?_
  rintro e w6 ⟨x6, u6, v6, rfl, k6, hx6, hd6, hf6, -⟩
  have K6 : Hid (Kept No w w6) := Lib.hid (K5.out.next k6 (fun k hk e => by
    have h1 := HSZ.out
    have h2 := hsw.out
    rcases e with e | e | e | e
    · have := F2.out k e; omega
    · omega
    · have := hbF.out k (.inl e); omega
    · have := hbF.out k (.inr (.inr e)); omega))
  have h5 := K5.out.size
  have F6 : Hid (∀ g, x6.foot g → w.heap.size ≤ g) := Lib.hid (fun g hg => (hf6 g hg).elim (F2.out g) (fun h => by omega))
  have HX6 := Lib.hid hx6
  have HD6 := Lib.hid hd6
  clear k45 hx5 hs5 hccm k6 hx6 hd6 hf6 h5 K5 K3 HK4 HK5 HB3 HB4 HB5 HX3 HS3 HSR
  go_wp2_with fail
  obtain ⟨st3, hop, hrd, hser, hroot, hn4, hcw, hlen⟩ := hopen2 x6 w6 HX6.out
  rw [HD6.out, HD2.out] at hop
  refine hop.mono ?_
  rintro e w7 ⟨x7, s7, u7, v7, rfl, k7, hx7, hd7, hs7⟩
  have K7 : Hid (Kept No w w7) := Lib.hid (K6.out.next k7 (fun k hk e => absurd (F6.out k e) (by omega)))
  have hs7 : StAt w7 s7 x7.d u7 v7 (.pointer none) st3 := by rw [hd7]; exact hs7
  have hcrd := sread_ok s7 u7 v7 (.pointer none) x7 st3 d3 1 w7 hs7 hx7 hlen (by omega)
  rw [hrd] at hcrd
  have ka : ∀ o, Kept No w7 (w7.alloc o) := fun o => (Kept.refl _ _).alloc o
  have HS7 := Lib.hid hs7
  have HCRD := Lib.hid hcrd
  have hsr7 := fun w' (k : Kept No w7 w') => serial_ok s7 x7.d u7 v7 (.pointer none) st3 w' (hs7.no k)
  have hrt7 := fun w' (k : Kept No w7 w') => root_ok s7 x7.d u7 v7 (.pointer none) st3 2 w' (hs7.no k) (by omega)
  have hfr7 := fun w' (k : Kept No w7 w') => free_ok s7 x7.d u7 v7 (.pointer none) st3 w' (hs7.no k)
  have hpg7 := fun w' (k : Kept No w7 w') => pages_ok s7 x7.d u7 v7 (.pointer none) st3 w' (hs7.no k)
  simp only [hser, hroot, hn4, hcw] at hsr7 hrt7 hfr7 hpg7
  have HSR7 := Lib.hid hsr7
  have HRT7 := Lib.hid hrt7
  have HFR7 := Lib.hid hfr7
  have HPG7 := Lib.hid hpg7
  clear k7 hx7 hd7 hs7 hcrd hsr7 hrt7 hfr7 hpg7 hop hrd hser hroot hn4 hcw hlen ka
  have hpr : pageRow ⟨7, 1, 2, [97]⟩ = #[.int .u8 7, .int .u32 1, .int .u64 2, .string ⟨⟨[97]⟩⟩] := rfl
  rw [hpr] at HCRD
  go_wp2_with (first
    | (go_at_call 9; refine HCRD.out.mono ?_; rintro e w8 ⟨rfl, k8⟩; have K8 := Lib.hid k8; have hal8 : Kept No w7 (w8.alloc (.cells #[.int .u8 7, .int .u32 1, .int .u64 2, .string ⟨⟨[97]⟩⟩] 28)) := k8.alloc _; have HAL := Lib.hid hal8; have HBX := Lib.hid (heap_alloc_new w8 (.cells #[.int .u8 7, .int .u32 1, .int .u64 2, .string ⟨⟨[97]⟩⟩] 28)); clear k8 hal8)
    | (refine wpList_store_new (by rfl) 28 (.tmp 10) (.tmp 76) (by rfl) w8 28 _ _ (by rfl) (by rfl) (by rfl) (by exact page_size) (by rfl) (by simp [Value.oneCell']) ?_)
    | (refine wpList_load_wanted (by rfl) 28 (.tmp 10) (by rfl) w8.heap.size (by rfl) _ _ _ _ HBX.out Tryz.underlying28 (by rfl) (by exact page_size) ?_)
    | (go_at_call 16; refine (HSR7.out _ HAL.out).mono ?_; rintro e w' ⟨rfl, rfl⟩)
    | (go_at_call 17; refine (HRT7.out _ HAL.out).mono ?_; rintro e w' ⟨rfl, rfl⟩)
    | (go_at_call 15; refine (HFR7.out _ HAL.out).mono ?_; rintro e w9 ⟨rfl, k9⟩; have K9 := Lib.hid k9; clear k9)
    | (go_at_call 14; refine (HPG7.out _ (HAL.out.trans K9.out)).mono ?_; rintro e w' ⟨rfl, rfl⟩))
  go_ret
  exact ⟨rfl, (K7.out.trans HAL.out).trans K9.out⟩
theorem wakes_ok (w : World) : Calls Tryz.prog 25 #[] w fun e w' => e = .returned (.bool true) ∧ Kept No w w' :=
  wakes_walk (wk0 8) (wk1 8 4) wk2 wk3 (ws1 8 4) _ wm0 wm1 wm2 _ (fun w => dnew_ok 8 w (by omega) (by omega)) (fun x w hx => open_new 8 4 four_in x w hx) rfl wm_alloc wm_root wm_size wm_commit rfl
    (fun y hy => by simp [wm2] at hy; subst hy; show 0 < 1; omega) (by show 2 < 4611686018427387904; omega) (by rw [(wk1_run four_in).2.1.pend]; simp) (by rw [(wk1_run four_in).2.1.len]; show 4 ≤ 8; omega)
    (fun x w hx => by
      obtain ⟨top, h⟩ := open_wk2 x w hx
      refine ⟨ws3 top, h, ws3_read top, rfl, rfl, rfl, ?_, ?_⟩
      · show cnt wm2.held.ws = 1; decide +kernel
      · rw [wk3_run.2.1.len]; show 4 + 4 ≤ 8; omega) w
end Go.Proofs.YtabhieafjkaocaaGreat
