/- A part. -/
import Derived.Test.YtabhieafjkaocaaGreatMabq
import Derived.Test.YtabhieafjkaocaaGreatMabi
import Derived.Test.YtabhieafjkaocaaGreatMabf
set_option linter.unusedVariables false
set_option linter.unusedSimpArgs false
namespace Go.Proofs.YtabhieafjkaocaaGreat
open Go.RowKit Bm
theorem slots_mixed (J J' : List (List UInt8)) (first s S : Nat) (hs : s ≠ S) : ∀ (n i : Nat) (r : Rd) (acc : List PageV),
    (∀ j, i ≤ j → j < i + n → J'[j + 1]?.getD [] = J[j + 1]?.getD [] ∨ ∀ p, dec (J'[j + 1]?.getD []) (first + 1 + j) = .ok p → p.serial = S) →
    slots J' first s n i r acc = slots J first s n i r acc ∨ slots J' first s n i r acc = none
  | 0, i, r, acc, _ => .inl rfl
  | n + 1, i, r, acc, h => by
    unfold slots
    simp only
    rcases h i (Nat.le_refl _) (by omega) with e | e
    · rw [e]
      split
      · exact .inl rfl
      · split
        · exact .inl rfl
        · exact slots_mixed J J' first s S hs n (i + 1) _ _ fun j h1 h2 => h j (by omega) (by omega)
    · right
      split
      · rfl
      · rename_i c hc
        rw [if_pos (.inr (.inl (by rw [e c hc]; exact fun h => hs h.symm)))]
theorem slots_found (J : List (List UInt8)) (first S : Nat) : ∀ (n i : Nat) (r : Rd) (acc : List PageV) (x : Rd × List PageV), slots J first S n i r acc = some x → ∀ j, i ≤ j → j < i + n → ∃ c, dec (J[j + 1]?.getD []) (first + 1 + j) = .ok c ∧ c.serial = S
  | 0, i, r, acc, x, _, j, h1, h2 => by omega
  | n + 1, i, r, acc, x, h, j, h1, h2 => by
    unfold slots at h
    simp only at h
    split at h
    · cases h
    · rename_i c hc
      split at h
      · cases h
      · rename_i hn
        by_cases e : j = i
        · subst e
          refine ⟨c, hc, ?_⟩
          have := fun hh => hn (.inr (.inl hh))
          simpa using this
        · exact slots_found J first S n (i + 1) _ _ x h j (by omega) (by omega)
theorem last_take {p : WrL} (hd : (p.map (·.1)).Nodup) {k j : Nat} {b : List UInt8} (h : DiskM.last (p.take k) j = some b) : DiskM.last p j = some b := by
  obtain ⟨x, hx, rfl⟩ := last_get _ _ _ h
  exact last_of p j b hd (List.mem_of_mem_take hx)
theorem nodup_take {p : WrL} (hd : (p.map (·.1)).Nodup) (k : Nat) : ((p.take k).map (·.1)).Nodup := by
  rw [List.map_take]
  exact (List.take_sublist k _).nodup hd
theorem put_ends {serial : Nat} {l : List PageV} (hs : serial < 18446744073709551616) (hb : ∀ p ∈ l, p.body.length ≤ 996) (hl : l.length ≤ 198) {k : Nat} {b : List UInt8} (h : DiskM.last (putL 0 serial l) k = some b) :
    ends b = (serial, serial) ∧ b.length = 1024 ∧ ((k = 0 ∧ b = enc ⟨74, 0, serial, heads l⟩) ∨ ∃ j, ∃ hj : j < l.length, k = j + 1 ∧ b = enc ⟨67, 0 + 1 + j, serial, (l[j]).body⟩) := by
  obtain ⟨x, hx, e⟩ := last_get _ _ _ h
  have hh : (heads l).length ≤ 996 := by have := headsL_len l (by omega); omega
  unfold putL at hx
  rcases List.mem_append.1 hx with hx | hx
  · obtain ⟨j, hj, hjx⟩ := List.getElem_of_mem hx
    rw [slotsL_len] at hj
    have h1 := slotsL_get 0 serial l 0 j hj
    rw [List.getElem?_eq_getElem (by rw [slotsL_len]; exact hj)] at h1
    injection h1 with h1
    rw [h1, e] at hjx
    have h3 := congrArg Prod.fst hjx
    have h2 := congrArg Prod.snd hjx
    simp only at h2 h3
    have hbj := hb _ (List.getElem_mem hj)
    subst h2
    refine ⟨ends_enc _ hs hbj, enc_len _ hbj, .inr ⟨j, hj, by omega, ?_⟩⟩
    rw [show 0 + j = j by omega]
  · simp only [List.mem_singleton] at hx
    rw [e] at hx
    have h3 := congrArg Prod.fst hx
    have h2 := congrArg Prod.snd hx
    simp only at h2 h3
    subst h2
    exact ⟨ends_enc _ hs hh, enc_len _ hh, .inl ⟨h3, rfl⟩⟩
theorem put_crash {m0 m : DiskM} {N cnt S B k : Nat} {l : List PageV} (h0 : m0.pend = []) (hlen : m0.lies.length = N) (h64 : ∀ k, k < N → (m0.view k).length = 1024) (hl : m.lies = m0.lies) (hp : m.pend = (putL 0 S l).take k)
    (hN : cnt ≤ N) (hc : l.length < cnt) (hE : EndsLe m0 cnt B) (hB : B < S) (hg : GoodB S l) (hr : l.length ≤ room (cnt : Int)) (keep : List Bool) (torn cut : Int) :
    (m.crash keep torn cut).lies.length = N ∧ (∀ j, j < N → ((m.crash keep torn cut).view j).length = 1024) ∧ (∀ j, cnt ≤ j → j < N → (m.crash keep torn cut).view j = m0.view j) ∧ EndsLe (m.crash keep torn cut) cnt S ∧
    (batchM (views (m.crash keep torn cut) 0 cnt) 0 = batchM (views m0 0 cnt) 0 ∨ batchM (views (m.crash keep torn cut) 0 cnt) 0 = none ∨ batchM (views (m.crash keep torn cut) 0 cnt) 0 = some (S, l.map fun p => { p with serial := S })) := by
  have hS2 : S < 18446744073709551616 := by have := hg.s1; omega
  have hbod : ∀ p ∈ l, p.body.length ≤ 996 := fun p hp => (hg.body p hp).1
  have hd := putL_nodup 0 S l
  have hf := putL_fit 0 S N l (by omega) hbod hg.len
  obtain ⟨q1, q2⟩ := crash_view h0 hlen h64 hl hp (fun x hx => hf x (List.mem_of_mem_take hx)) (nodup_take hd k) keep torn cut
  generalize hm' : m.crash keep torn cut = m' at q1 q2 ⊢
  -- each page
  have each : ∀ j, j < N → m'.view j = m0.view j ∨ ∃ b, DiskM.last (putL 0 S l) j = some b ∧ Mix b (m0.view j) (m'.view j) := fun j hj => by
    obtain ⟨a1, a2⟩ := q2 j hj
    cases hq : DiskM.last ((putL 0 S l).take k) j with
    | none => exact .inl (a1 hq)
    | some b => exact .inr ⟨b, last_take hd hq, a2 b hq⟩
  have hlen' : ∀ j, j < N → (m'.view j).length = 1024 := fun j hj => by
    rcases each j hj with e | ⟨b, e, hm⟩
    · rw [e]; exact h64 j hj
    · exact hm.len (put_ends hS2 hbod hg.len e).2.1 (h64 j hj)
  have jr : ∀ j, j < cnt → m'.view j = m0.view j ∨ (DiskM.last (putL 0 S l) j = some (m'.view j)) ∨ ∃ b, DiskM.last (putL 0 S l) j = some b ∧ ∀ n, ∃ e, dec (m'.view j) n = .error e := fun j hj => by
    rcases each j (by omega) with e | ⟨b, e, hm⟩
    · exact .inl e
    · obtain ⟨p1, p2, _⟩ := put_ends hS2 hbod hg.len e
      have hne : (ends (m0.view j)).2 ≠ S := by have := (hE j hj).2; omega
      rcases hm with h | h | ⟨c, c0, c1, h⟩
      · exact .inl h
      · exact .inr (.inl (by rw [h]; exact e))
      · exact .inr (.inr ⟨b, e, fun n => by rw [h]; exact torn_dec p2 (h64 j (by omega)) c0 c1 (by rw [p1]) hne⟩)
  have hvj : ∀ (mm : DiskM) j, j < cnt → (views mm 0 cnt)[j]?.getD [] = mm.view j := fun mm j hj => by
    rw [List.getElem?_eq_getElem (by rw [views_len]; exact hj), views_get _ _ _ _ hj, Option.getD_some, Nat.zero_add]
  refine ⟨q1, hlen', fun j h1 h2 => ?_, fun j hj => ?_, ?_⟩
  · rcases each j h2 with e | ⟨b, e, _⟩
    · exact e
    · rw [last_put_high (by omega)] at e; cases e
  · rcases each j (by omega) with e | ⟨b, e, hm⟩
    · rw [e]; have := hE j hj; omega
    · obtain ⟨p1, p2, _⟩ := put_ends hS2 hbod hg.len e
      have := mix_ends hm p2 (h64 j (by omega)) p1
      have := hE j hj
      omega
  · -- the header
    have hroomlen : (views m' 0 cnt).length = (views m0 0 cnt).length := by rw [views_len, views_len]
    rcases jr 0 (by omega) with e | e | ⟨b, _, e⟩
    · -- as it was
      have e' : (views m' 0 cnt)[0]?.getD [] = (views m0 0 cnt)[0]?.getD [] := by rw [hvj m' 0 (by omega), hvj m0 0 (by omega), e]
      unfold batchM
      rw [e', hroomlen]
      cases hdec : dec ((views m0 0 cnt)[0]?.getD []) 0 with
      | error x => exact .inl rfl
      | ok h =>
        simp only
        have hser : h.serial ≤ B := by
          have h2 := dec_ends hdec
          rw [hvj m0 0 (by omega)] at h2
          have := (hE 0 (by omega)).1
          rw [h2] at this
          exact this
        split
        · exact .inl rfl
        · have hmix := slots_mixed (views m0 0 cnt) (views m' 0 cnt) 0 h.serial S (by omega) (((Rd.mk h.body 0 0).uint (room (views m0 0 cnt).length)).2) 0 (((Rd.mk h.body 0 0).uint (room (views m0 0 cnt).length)).1) [] (fun j _ _ => by
            by_cases hj : j + 1 < cnt
            · rw [hvj m' _ hj, hvj m0 _ hj]
              rcases jr (j + 1) hj with e | e | ⟨b, _, e⟩
              · exact .inl e
              · refine .inr fun p hp => ?_
                have h1 := dec_ends hp
                rw [(put_ends hS2 hbod hg.len e).1] at h1
                exact (congrArg Prod.fst h1).symm
              · refine .inr fun p hp => ?_
                obtain ⟨x, hx⟩ := e (0 + 1 + j)
                rw [hx] at hp; cases hp
            · left
              rw [List.getElem?_eq_none (by rw [views_len]; omega), List.getElem?_eq_none (by rw [views_len]; omega)])
          rcases hmix with hmix | hmix
          · rw [hmix]; exact .inl rfl
          · rw [hmix]; exact .inr (.inl rfl)
    · -- as it was to be
      obtain ⟨_, _, p3⟩ := put_ends hS2 hbod hg.len e
      have hhead : m'.view 0 = enc ⟨74, 0, S, heads l⟩ := by
        rcases p3 with ⟨_, h⟩ | ⟨j, _, h, _⟩
        · exact h
        · omega
      by_cases hall : ∀ j, j < l.length → DiskM.last (putL 0 S l) (j + 1) = some (m'.view (j + 1))
      · right; right
        refine batch_laid (views m' 0 cnt) 0 S l ⟨?_, fun j hj => ?_⟩ hg (by rw [views_len]; exact hr)
        · rw [List.getElem?_eq_getElem (by rw [views_len]; omega), views_get _ _ _ _ (by omega), Nat.zero_add, hhead]
        · rw [List.getElem?_eq_getElem (by rw [views_len]; omega), views_get _ _ _ _ (by omega), Nat.zero_add]
          rcases (put_ends hS2 hbod hg.len (hall j hj)).2.2 with ⟨h, _⟩ | ⟨i, hi, h1, h2⟩
          · omega
          · have : i = j := by omega
            subst this
            rw [h2]
      · right; left
        obtain ⟨j, hj, hne⟩ : ∃ j, j < l.length ∧ DiskM.last (putL 0 S l) (j + 1) ≠ some (m'.view (j + 1)) := by
          apply Classical.byContradiction
          intro hno
          exact hall fun j hj => Classical.byContradiction fun h => hno ⟨j, hj, h⟩
        unfold batchM
        have hh := headsL_len l (by have := hg.len; omega)
        have hlen := hg.len
        rw [hvj m' 0 (by omega), hhead, show dec (enc ⟨74, 0, S, heads l⟩) 0 = .ok ⟨74, 0, S, heads l⟩ from dec_enc ⟨74, 0, S, heads l⟩ hg.s0 hg.s1 (by show (heads l).length ≤ 996; omega)]
        simp only
        rw [if_neg (by have := hg.s0; simp; omega)]
        have e1 : (Rd.mk (heads l) 0 0).uint (room ((views m' 0 cnt).length : Int)) = (⟨heads l, (leb l.length).length, 0⟩, l.length) := rd_leb (by rw [views_len]; exact hr) (by omega)
        rw [e1]
        simp only
        cases hsl : slots (views m' 0 cnt) 0 S l.length 0 ⟨heads l, (leb l.length).length, 0⟩ [] with
        | none => rfl
        | some x =>
          exfalso
          obtain ⟨c, hc1, hc2⟩ := slots_found _ _ _ _ _ _ _ _ hsl j (by omega) (by omega)
          rw [hvj m' _ (by omega)] at hc1
          rcases jr (j + 1) (by omega) with e | e | ⟨b, _, e⟩
          · have h1 := dec_ends hc1
            rw [e] at h1
            have := (hE (j + 1) (by omega)).1
            rw [h1] at this
            simp only at this
            omega
          · exact hne e
          · obtain ⟨x, hx⟩ := e (0 + 1 + j)
            rw [hx] at hc1; cases hc1
    · right; left
      unfold batchM
      rw [hvj m' 0 (by omega)]
      obtain ⟨x, hx⟩ := e 0
      rw [hx]
theorem home_crash {m0 m : DiskM} {N cnt S k : Nat} {l : List PageV} (h0 : m0.pend = []) (hlen : m0.lies.length = N) (h64 : ∀ k, k < N → (m0.view k).length = 1024) (hl : m.lies = m0.lies) (hp : m.pend = (homeL cnt S l).take k)
    (hb : ∀ p ∈ l, p.body.length ≤ 996) (hn : ∀ p ∈ l, cnt + p.number < N) (hr : (l.map (·.number)).Pairwise (· < ·)) (keep : List Bool) (torn cut : Int) :
    (m.crash keep torn cut).lies.length = N ∧ (∀ j, j < N → ((m.crash keep torn cut).view j).length = 1024) ∧ (∀ j, j < N → DiskM.last (homeL cnt S l) j = none → (m.crash keep torn cut).view j = m0.view j) := by
  have hd := homeL_nodup cnt S l hr
  have hf := homeL_fit cnt S N l hn hb
  obtain ⟨q1, q2⟩ := crash_view h0 hlen h64 hl hp (fun x hx => hf x (List.mem_of_mem_take hx)) (nodup_take hd k) keep torn cut
  generalize hm' : m.crash keep torn cut = m' at q1 q2 ⊢
  refine ⟨q1, fun j hj => ?_, fun j hj hno => ?_⟩
  · obtain ⟨a1, a2⟩ := q2 j hj
    cases hq : DiskM.last ((homeL cnt S l).take k) j with
    | none => rw [a1 hq]; exact h64 j hj
    | some b =>
      obtain ⟨x, hx, e⟩ := last_get _ _ _ hq
      have := (hf x (List.mem_of_mem_take hx)).2
      rw [e] at this
      exact (a2 b hq).len this (h64 j hj)
  · obtain ⟨a1, a2⟩ := q2 j hj
    cases hq : DiskM.last ((homeL cnt S l).take k) j with
    | none => exact a1 hq
    | some b => rw [last_take hd hq] at hno; cases hno
def effV (dm : DiskM) (cnt k : Nat) : List UInt8 :=
  match batchM (views dm 0 cnt) 0 with
  | some (S, l) => (DiskM.last (homeL cnt S l) k).getD (dm.view k)
  | none => dm.view k
def ofV (N : Nat) (f : Nat → List UInt8) : DiskM := ⟨(List.range N).map f, [], false, false, 0⟩
theorem ofV_view {N : Nat} {f : Nat → List UInt8} {k : Nat} (hk : k < N) : (ofV N f).view k = f k := by
  rw [view_still rfl]
  simp [ofV, hk]
structure Rests (dm : DiskM) (cnt n B : Nat) : Prop where
  len : dm.lies.length = cnt + n
  long : ∀ k, k < cnt + n → (dm.view k).length = 1024
  pend : dm.pend = []
  ends : EndsLe dm cnt B
theorem Rests.mono {dm : DiskM} {cnt n B B' : Nat} (h : Rests dm cnt n B) (hB : B ≤ B') : Rests dm cnt n B' := ⟨h.len, h.long, h.pend, fun k hk => by have := h.ends k hk; omega⟩
theorem home_same (cnt S : Nat) (l : List PageV) : homeL cnt S (l.map fun p => { p with serial := S }) = homeL cnt S l := by
  unfold homeL
  rw [List.map_map]
  rfl
theorem top_ge (ls : List (List UInt8)) (b : List UInt8) (hb : b ∈ ls) : (ends b).1 ≤ topOf ls ∧ (ends b).2 ≤ topOf ls := by
  have mono : ∀ (l : List (List UInt8)) (t : Nat), t ≤ l.foldl (fun t b => max t (max (ends b).1 (ends b).2)) t := by
    intro l
    induction l with
    | nil => intro t; exact Nat.le_refl _
    | cons c l ih => intro t; rw [List.foldl_cons]; have := ih (max t (max (ends c).1 (ends c).2)); omega
  have key : ∀ (l : List (List UInt8)) (t : Nat), b ∈ l → (ends b).1 ≤ l.foldl (fun t b => max t (max (ends b).1 (ends b).2)) t ∧ (ends b).2 ≤ l.foldl (fun t b => max t (max (ends b).1 (ends b).2)) t := by
    intro l
    induction l with
    | nil => intro t h; cases h
    | cons c l ih =>
      intro t h
      rw [List.foldl_cons]
      rcases List.mem_cons.1 h with rfl | h
      · have := mono l (max t (max (ends b).1 (ends b).2)); omega
      · exact ih _ h
  exact key ls 0 hb
theorem batch_head {ls : List (List UInt8)} {first S : Nat} {l : List PageV} (hb : batchM ls first = some (S, l)) : ∃ p, dec (ls[0]?.getD []) first = .ok p ∧ p.serial = S := by
  unfold batchM at hb
  cases hd : dec (ls[0]?.getD []) first with
  | error e => rw [hd] at hb; cases hb
  | ok h =>
    rw [hd] at hb
    simp only at hb
    split at hb
    · cases hb
    · split at hb
      · cases hb
      · split at hb
        · simp only [Option.some.injEq, Prod.mk.injEq] at hb
          exact ⟨h, rfl, hb.1⟩
        · cases hb
theorem home_done {dm : DiskM} {cnt n B S : Nat} {l : List PageV} (h : Rests dm cnt n B) (hoff : dm.off = false) (h0 : 0 < cnt) (hb : ∀ p ∈ l, p.body.length ≤ 996) (hn : ∀ p ∈ l, p.number < n) (hr : (l.map (·.number)).Pairwise (· < ·)) :
    ((runW (homeL cnt S l) dm).2 = 0 ∧ (runW (homeL cnt S l) dm).1.off = false ∧ Rests (runW (homeL cnt S l) dm).1 cnt n B ∧ views (runW (homeL cnt S l) dm).1 0 cnt = views dm 0 cnt ∧
      ∀ k, k < cnt + n → (runW (homeL cnt S l) dm).1.view k = (DiskM.last (homeL cnt S l) k).getD (dm.view k)) ∨
    (dm.armed = true ∧ (runW (homeL cnt S l) dm).2 = 40 ∧ (runW (homeL cnt S l) dm).1.off = true ∧ (runW (homeL cnt S l) dm).1.pend.length ≤ l.length ∧ ∀ keep torn cut, Rests ((runW (homeL cnt S l) dm).1.crash keep torn cut) cnt n B ∧ views ((runW (homeL cnt S l) dm).1.crash keep torn cut) 0 cnt = views dm 0 cnt ∧
      ∀ k, k < cnt + n → DiskM.last (homeL cnt S l) k = none → ((runW (homeL cnt S l) dm).1.crash keep torn cut).view k = dm.view k) := by
  have hf : FitW dm.lies.length (homeL cnt S l) := homeL_fit cnt S _ l (fun p hp => by have := hn p hp; rw [h.len]; omega) hb
  have vs : ∀ m' : DiskM, (∀ k, k < cnt → m'.view k = dm.view k) → views m' 0 cnt = views dm 0 cnt := fun m' hv => by
    unfold views
    apply List.map_congr_left
    intro i hi
    rw [Nat.zero_add]
    exact hv i (List.mem_range.1 hi)
  rcases runW_cases (homeL cnt S l) dm hoff (by rw [h.len]; omega) hf with ⟨i1, i2, i3, i4, i5⟩ | ⟨i0, i1, i2, i3, k, hk, i4⟩
  · left
    generalize (runW (homeL cnt S l) dm) = r at *
    have hv : ∀ k, k < cnt + n → r.1.view k = (DiskM.last (homeL cnt S l) k).getD (dm.view k) := fun k hk => view_landed dm _ k (by rw [h.len]; exact hk) _ i3 i4
    have hlow : ∀ k, k < cnt → r.1.view k = dm.view k := fun k hk => by rw [hv k (by omega), last_home_low hk]; rfl
    refine ⟨i1, i2, ⟨by rw [i4, set_len, h.len], fun k hk => ?_, i3, fun k hk => by rw [hlow k hk]; exact h.ends k hk⟩, vs _ hlow, hv⟩
    rw [hv k hk]
    cases hq : DiskM.last (homeL cnt S l) k with
    | none => exact h.long k hk
    | some b =>
      obtain ⟨x, hx, e⟩ := last_get _ _ _ hq
      have := (hf x hx).2
      rw [e] at this
      exact this
  · right
    have hpl : (runW (homeL cnt S l) dm).1.pend.length ≤ l.length := by rw [i4, h.pend, List.nil_append, List.length_take]; simp [homeL]; omega
    generalize (runW (homeL cnt S l) dm) = r at *
    refine ⟨i0, i1, i2, hpl, fun keep torn cut => ?_⟩
    obtain ⟨q1, q2, q3⟩ := home_crash (m := r.1) h.pend h.len h.long i3 (by rw [i4, h.pend, List.nil_append]) hb (fun p hp => by have := hn p hp; omega) hr keep torn cut
    have hlow : ∀ k, k < cnt → (r.1.crash keep torn cut).view k = dm.view k := fun k hk => q3 k (by omega) (last_home_low hk)
    exact ⟨⟨q1, q2, rfl, fun k hk => by rw [hlow k hk]; exact h.ends k hk⟩, vs _ hlow, q3⟩
structure MayPut (S cnt n : Nat) (l : List PageV) : Prop where
  good : GoodB S l
  room : l.length ≤ room (cnt : Int)
  num : ∀ p ∈ l, p.number < n
  two : 2 ≤ cnt
theorem room_lt {cnt k : Nat} (h : k ≤ room (cnt : Int)) (h2 : 2 ≤ cnt) : k < cnt := by unfold room at h; omega
theorem put_done {dm : DiskM} {cnt n B S : Nat} {l : List PageV} (h : Rests dm cnt n B) (hoff : dm.off = false) (hB : B < S) (g : MayPut S cnt n l) :
    ((runW (putL 0 S l) dm).2 = 0 ∧ (runW (putL 0 S l) dm).1.off = false ∧ Rests (runW (putL 0 S l) dm).1 cnt n S ∧ batchM (views (runW (putL 0 S l) dm).1 0 cnt) 0 = some (S, l.map fun p => { p with serial := S }) ∧ (runW (putL 0 S l) dm).1.armed = dm.armed ∧
      ∀ k, cnt ≤ k → k < cnt + n → (runW (putL 0 S l) dm).1.view k = dm.view k) ∨
    (dm.armed = true ∧ (runW (putL 0 S l) dm).2 = 40 ∧ (runW (putL 0 S l) dm).1.off = true ∧ (runW (putL 0 S l) dm).1.pend.length ≤ l.length + 1 ∧ ∀ keep torn cut, Rests ((runW (putL 0 S l) dm).1.crash keep torn cut) cnt n S ∧ (∀ k, cnt ≤ k → k < cnt + n → ((runW (putL 0 S l) dm).1.crash keep torn cut).view k = dm.view k) ∧
      (batchM (views ((runW (putL 0 S l) dm).1.crash keep torn cut) 0 cnt) 0 = batchM (views dm 0 cnt) 0 ∨ batchM (views ((runW (putL 0 S l) dm).1.crash keep torn cut) 0 cnt) 0 = none ∨
        batchM (views ((runW (putL 0 S l) dm).1.crash keep torn cut) 0 cnt) 0 = some (S, l.map fun p => { p with serial := S }))) := by
  have hc := room_lt g.room g.two
  have hbod : ∀ p ∈ l, p.body.length ≤ 996 := fun p hp => (g.good.body p hp).1
  have h2 := g.two
  have hlen := h.len
  have hs1 := g.good.s1
  have hf : FitW dm.lies.length (putL 0 S l) := putL_fit 0 S _ l (by omega) hbod g.good.len
  rcases runW_cases (putL 0 S l) dm hoff (by omega) hf with ⟨i1, i2, i3, i4, i5⟩ | ⟨i0, i1, i2, i3, k, hk, i4⟩
  · left
    generalize (runW (putL 0 S l) dm) = r at *
    have hv : ∀ k, k < cnt + n → r.1.view k = (DiskM.last (putL 0 S l) k).getD (dm.view k) := fun k hk => view_landed dm _ k (by omega) _ i3 i4
    have hE : EndsLe r.1 cnt S := ends_put (fun k hk => by have := h.ends k hk; omega) (Nat.le_refl _) (by omega) hbod g.good.len fun k hk => hv k (by omega)
    refine ⟨i1, i2, ⟨by rw [i4, set_len, h.len], fun k hk => ?_, i3, hE⟩, ?_, i5, fun k h1 h2 => by rw [hv k h2, last_put_high (by omega)]; rfl⟩
    · rw [hv k hk]
      cases hq : DiskM.last (putL 0 S l) k with
      | none => exact h.long k hk
      | some b => exact (put_ends (by omega) hbod g.good.len hq).2.1
    · exact batch_laid _ 0 S l (put_laid dm r.1 0 cnt S l hc (by omega) i3 i4) g.good (by rw [views_len]; exact g.room)
  · right
    have hpl : (runW (putL 0 S l) dm).1.pend.length ≤ l.length + 1 := by rw [i4, h.pend, List.nil_append, List.length_take]; simp [putL, slotsL_len]; omega
    generalize (runW (putL 0 S l) dm) = r at *
    refine ⟨i0, i1, i2, hpl, fun keep torn cut => ?_⟩
    obtain ⟨q1, q2, q3, q4, q5⟩ := put_crash (m := r.1) (k := k) h.pend h.len h.long i3 (by rw [i4, h.pend, List.nil_append]) (by omega) hc h.ends hB g.good g.room keep torn cut
    exact ⟨⟨q1, q2, rfl, q4⟩, q3, q5⟩
def allW (dm : DiskM) (cnt S : Nat) (l : List PageV) : DiskM × Int :=
  let a := runW (putL 0 S l) dm
  if a.2 ≠ 0 then a else runW (homeL cnt S l) a.1
def madeV (dm : DiskM) (cnt S : Nat) (l : List PageV) (k : Nat) : List UInt8 := (DiskM.last (homeL cnt S l) k).getD (dm.view k)
theorem all_done {dm : DiskM} {cnt n B S : Nat} {l : List PageV} (h : Rests dm cnt n B) (hoff : dm.off = false) (hB : B < S) (g : MayPut S cnt n l) :
    ((allW dm cnt S l).2 = 0 ∧ (allW dm cnt S l).1.off = false ∧ Rests (allW dm cnt S l).1 cnt n S ∧ batchM (views (allW dm cnt S l).1 0 cnt) 0 = some (S, l.map fun p => { p with serial := S }) ∧
      ∀ k, cnt ≤ k → k < cnt + n → (allW dm cnt S l).1.view k = madeV dm cnt S l k) ∨
    (dm.armed = true ∧ (allW dm cnt S l).2 = 40 ∧ (allW dm cnt S l).1.off = true ∧ (allW dm cnt S l).1.pend.length ≤ l.length + 1 ∧ ∀ keep torn cut, Rests ((allW dm cnt S l).1.crash keep torn cut) cnt n S ∧
      ((batchM (views ((allW dm cnt S l).1.crash keep torn cut) 0 cnt) 0 = batchM (views dm 0 cnt) 0 ∨ batchM (views ((allW dm cnt S l).1.crash keep torn cut) 0 cnt) 0 = none) ∧ (∀ k, cnt ≤ k → k < cnt + n → ((allW dm cnt S l).1.crash keep torn cut).view k = dm.view k) ∨
       batchM (views ((allW dm cnt S l).1.crash keep torn cut) 0 cnt) 0 = some (S, l.map fun p => { p with serial := S }) ∧ (∀ k, cnt ≤ k → k < cnt + n → effV ((allW dm cnt S l).1.crash keep torn cut) cnt k = madeV dm cnt S l k))) := by
  have h2 := g.two
  have hbod : ∀ p ∈ l, p.body.length ≤ 996 := fun p hp => (g.good.body p hp).1
  have eff : ∀ (m' : DiskM), batchM (views m' 0 cnt) 0 = some (S, l.map fun p => { p with serial := S }) → (∀ k, cnt ≤ k → k < cnt + n → DiskM.last (homeL cnt S l) k = none → m'.view k = dm.view k) → ∀ k, cnt ≤ k → k < cnt + n → effV m' cnt k = madeV dm cnt S l k := fun m' hb hv k h1 h2 => by
    unfold effV madeV
    rw [hb]
    simp only
    rw [home_same]
    cases hq : DiskM.last (homeL cnt S l) k with
    | none => simp only [Option.getD_none]; exact hv k h1 h2 hq
    | some b => rfl
  unfold allW
  simp only
  rcases put_done h hoff hB g with ⟨p1, p2, p3, p4, p6, p5⟩ | ⟨p0, p1, p2, p7, p3⟩
  · generalize runW (putL 0 S l) dm = r at *
    rw [if_neg (by simp [p1])]
    rcases home_done (S := S) p3 p2 (by omega) hbod g.num g.good.rise with ⟨q1, q2, q3, q4, q5⟩ | ⟨q0, q1, q2, q6, q3⟩
    · generalize runW (homeL cnt S l) r.1 = t at *
      exact .inl ⟨q1, q2, q3, by rw [q4, p4], fun k h1 h2 => by rw [q5 k h2, p5 k h1 h2]; rfl⟩
    · generalize runW (homeL cnt S l) r.1 = t at *
      refine .inr ⟨by rw [← p6]; exact q0, q1, q2, by omega, fun keep torn cut => ?_⟩
      obtain ⟨s1, s2, s3⟩ := q3 keep torn cut
      have hb : batchM (views (t.1.crash keep torn cut) 0 cnt) 0 = some (S, l.map fun p => { p with serial := S }) := by rw [s2, p4]
      exact ⟨s1, .inr ⟨hb, eff _ hb fun k h1 h2 hq => by rw [s3 k h2 hq, p5 k h1 h2]⟩⟩
  · generalize runW (putL 0 S l) dm = r at *
    rw [if_pos (by simp [p1])]
    refine .inr ⟨p0, p1, p2, p7, fun keep torn cut => ?_⟩
    obtain ⟨s1, s2, s3⟩ := p3 keep torn cut
    refine ⟨s1, ?_⟩
    rcases s3 with e | e | e
    · exact .inl ⟨.inl e, s2⟩
    · exact .inl ⟨.inr e, s2⟩
    · exact .inr ⟨e, eff _ e fun k h1 h2 _ => s2 k h1 h2⟩
theorem lies_same {d d' : DiskM} {cnt i : Nat} (h : d.off = false) (h' : d'.off = false) (hv : d'.view (cnt + i) = d.view (cnt + i)) : liesM d' cnt i = liesM d cnt i := by
  unfold liesM
  rw [h, h', hv]
theorem looks_same {d d' : DiskM} {st st' : StM} (hl : Looks st d) (h : d.off = false) (h' : d'.off = false) (hc : st'.count = st.count) (hn : st'.now = st.now) (hs : st'.serial = st.serial) (hd : st'.dead = false)
    (hv : ∀ i, i < st.now.n → d'.view (st.count + i) = d.view (st.count + i)) : Looks st' d' ∧ seenM st' d' = seenM st d := by
  have e : ∀ i, i < st.now.n → liesM d' st.count i = liesM d st.count i := fun i hi => lies_same h h' (hv i hi)
  refine ⟨⟨hd, fun i hi hm => ?_⟩, ?_⟩
  · rw [hn] at hi hm
    rw [hc, hs, e i hi]
    exact hl.lies i hi hm
  · unfold seenM
    rw [hn]
    congr 1
    · apply List.map_congr_left
      intro i hi
      unfold seenK
      rw [hn, hc, e i (List.mem_range.1 hi)]
    · apply List.map_congr_left
      intro i hi
      unfold seenB
      rw [hn, hc, e i (List.mem_range.1 hi)]
structure HoldsB (S B n : Nat) (l : List PageV) : Prop where
  s0 : 0 < S
  low : S ≤ B
  some_ : 0 < l.length
  len : l.length ≤ 198
  num : ∀ p ∈ l, p.number < n
  body : ∀ p ∈ l, p.body.length ≤ 996
  rise : (l.map (·.number)).Pairwise (· < ·)
theorem MayPut.holds {S cnt n B : Nat} {l : List PageV} (h : MayPut S cnt n l) (h0 : 0 < l.length) (hB : S ≤ B) : HoldsB S B n (l.map fun p => { p with serial := S }) := by
  refine ⟨h.good.s0, hB, by simpa using h0, by simpa using h.good.len, fun p hp => ?_, fun p hp => ?_, ?_⟩
  · obtain ⟨q, hq, rfl⟩ := List.mem_map.1 hp; exact h.num q hq
  · obtain ⟨q, hq, rfl⟩ := List.mem_map.1 hp; exact (h.good.body q hq).1
  · rw [List.map_map]; exact h.good.rise
structure Stands (dm : DiskM) (cnt n : Nat) (h : HeldM) (hs B : Nat) (is : SeenM) : Prop where
  rests : Rests dm cnt n B
  two : 2 ≤ cnt
  whole : ∀ S l, batchM (views dm 0 cnt) 0 = some (S, l) → HoldsB S B n l
  head : dec (effV dm cnt cnt) 0 = .ok ⟨83, 0, hs, h.body⟩
  ok : h.Ok
  num : h.n = n
  low : hs ≤ B
  looks : Looks ⟨cnt, h, hs, 0, false⟩ (ofV (cnt + n) (effV dm cnt))
  seen : seenM ⟨cnt, h, hs, 0, false⟩ (ofV (cnt + n) (effV dm cnt)) = is
structure Bare (dm : DiskM) (cnt n B : Nat) : Prop where
  rests : Rests dm cnt n B
  two : 2 ≤ cnt
  none : batchM (views dm 0 cnt) 0 = none
  blank : dm.view cnt = List.replicate 1024 0
structure Sits (dm : DiskM) (st : StM) (is : SeenM) : Prop where
  rests : Rests dm st.count st.now.n (st.next - 1)
  off : dm.off = false
  two : 2 ≤ st.count
  whole : ∀ S l, batchM (views dm 0 st.count) 0 = some (S, l) → HoldsB S (st.next - 1) st.now.n l
  home : ∀ k, st.count ≤ k → k < st.count + st.now.n → effV dm st.count k = dm.view k
  head : dec (dm.view st.count) 0 = .ok ⟨83, 0, st.serial, st.now.body⟩
  ok : st.now.Ok
  low : st.serial < st.next
  looks : Looks st dm
  seen : seenM st dm = is
theorem Sits.stands {dm : DiskM} {st : StM} {is : SeenM} (h : Sits dm st is) : Stands dm st.count st.now.n st.now st.serial (st.next - 1) is := by
  have h2 := h.ok.some_
  obtain ⟨q1, q2⟩ := looks_same (st' := ⟨st.count, st.now, st.serial, 0, false⟩) (d' := ofV (st.count + st.now.n) (effV dm st.count)) h.looks h.off rfl rfl rfl rfl rfl (fun i hi => by rw [ofV_view (by omega), h.home _ (by omega) (by omega)])
  exact ⟨h.rests, h.two, h.whole, by rw [h.home _ (by omega) (by omega)]; exact h.head, h.ok, rfl, by have := h.low; omega, q1, by rw [q2]; exact h.seen⟩
theorem Stands.same {dm dm' : DiskM} {cnt n hs B B' : Nat} {h : HeldM} {is : SeenM} (H : Stands dm cnt n h hs B is) (hr : Rests dm' cnt n B') (hB : hs ≤ B') (hw : ∀ S l, batchM (views dm' 0 cnt) 0 = some (S, l) → HoldsB S B' n l)
    (hv : ∀ k, cnt ≤ k → k < cnt + n → effV dm' cnt k = effV dm cnt k) : Stands dm' cnt n h hs B' is := by
  have h2 := H.ok.some_
  have hn := H.num
  obtain ⟨q1, q2⟩ := looks_same (st' := ⟨cnt, h, hs, 0, false⟩) (d' := ofV (cnt + n) (effV dm' cnt)) H.looks rfl rfl rfl rfl rfl rfl (fun i hi => by
    have hi : i < h.n := hi
    show (ofV (cnt + n) (effV dm' cnt)).view (cnt + i) = (ofV (cnt + n) (effV dm cnt)).view (cnt + i)
    rw [ofV_view (by omega), ofV_view (by omega), hv _ (by omega) (by omega)])
  exact ⟨hr, H.two, hw, by rw [hv _ (by omega) (by omega)]; exact H.head, H.ok, hn, hB, q1, by rw [q2]; exact H.seen⟩
theorem HoldsB.mono {S B B' n : Nat} {l : List PageV} (h : HoldsB S B n l) (hB : B ≤ B') : HoldsB S B' n l := ⟨h.s0, Nat.le_trans h.low hB, h.some_, h.len, h.num, h.body, h.rise⟩
theorem Stands.mono {dm : DiskM} {cnt n hs B B' : Nat} {h : HeldM} {is : SeenM} (H : Stands dm cnt n h hs B is) (hB : B ≤ B') : Stands dm cnt n h hs B' is :=
  H.same (H.rests.mono hB) (Nat.le_trans H.low hB) (fun S l e => (H.whole S l e).mono hB) (fun _ _ _ => rfl)
theorem Bare.mono {dm : DiskM} {cnt n B B' : Nat} (H : Bare dm cnt n B) (hB : B ≤ B') : Bare dm cnt n B' := ⟨H.rests.mono hB, H.two, H.none, H.blank⟩
def opened (cnt : Nat) (h : HeldM) (hs top : Nat) : StM := ⟨cnt, h, hs, max hs top + 1, false⟩
theorem stands_none {dm : DiskM} {cnt n hs B : Nat} {h : HeldM} {is : SeenM} (H : Stands dm cnt n h hs B is) (hoff : dm.off = false) (hb : batchM (views dm 0 cnt) 0 = none) :
    Sits dm (opened cnt h hs (topOf (views dm 0 cnt))) is ∧ dec (dm.view cnt) 0 = .ok ⟨83, 0, hs, h.body⟩ := by
  have h2 := H.ok.some_
  have hn := H.num
  have he : ∀ k, effV dm cnt k = dm.view k := fun k => by unfold effV; rw [hb]
  have hh : dec (dm.view cnt) 0 = .ok ⟨83, 0, hs, h.body⟩ := by have := H.head; rwa [he] at this
  obtain ⟨q1, q2⟩ := looks_same (st' := opened cnt h hs (topOf (views dm 0 cnt))) (d' := dm) H.looks rfl hoff rfl rfl rfl rfl (fun i hi => by
    have hi : i < h.n := hi
    show dm.view (cnt + i) = (ofV (cnt + n) (effV dm cnt)).view (cnt + i)
    rw [ofV_view (by omega), he])
  refine ⟨⟨⟨by rw [H.rests.len, ← hn]; rfl, fun k hk => H.rests.long k (by rw [← hn]; exact hk), H.rests.pend, fun k hk => ?_⟩, hoff, H.two, fun S l e => ?_, fun k _ _ => he k, hh, H.ok, ?_, q1, by rw [q2]; exact H.seen⟩, hh⟩
  · have : ∀ (ls : List (List UInt8)) b, b ∈ ls → (ends b).1 ≤ topOf ls ∧ (ends b).2 ≤ topOf ls := top_ge
    have := this (views dm 0 cnt) (dm.view k) (by
      unfold views
      exact List.mem_map.2 ⟨k, List.mem_range.2 hk, by rw [Nat.zero_add]⟩)
    show (ends (dm.view k)).1 ≤ max hs (topOf (views dm 0 cnt)) + 1 - 1 ∧ (ends (dm.view k)).2 ≤ max hs (topOf (views dm 0 cnt)) + 1 - 1
    omega
  · have e : batchM (views dm 0 cnt) 0 = some (S, l) := e
    rw [hb] at e; cases e
  · show hs < max hs (topOf (views dm 0 cnt)) + 1
    omega
theorem stands_whole {dm : DiskM} {cnt n hs B S : Nat} {h : HeldM} {is : SeenM} {l : List PageV} (H : Stands dm cnt n h hs B is) (hoff : dm.off = false) (hb : batchM (views dm 0 cnt) 0 = some (S, l)) :
    ((homeW cnt S l dm).2 = 0 ∧ Sits (homeW cnt S l dm).1 (opened cnt h hs (topOf (views dm 0 cnt))) is ∧ dec ((homeW cnt S l dm).1.view cnt) 0 = .ok ⟨83, 0, hs, h.body⟩) ∨
    (dm.armed = true ∧ (homeW cnt S l dm).2 = 40 ∧ (homeW cnt S l dm).1.off = true ∧ (homeW cnt S l dm).1.pend.length ≤ 198 ∧ ∀ keep torn cut, Stands ((homeW cnt S l dm).1.crash keep torn cut) cnt n h hs B is) := by
  have h2 := H.ok.some_
  have hn := H.num
  have ht := H.two
  have g := H.whole S l hb
  have he : ∀ k, effV dm cnt k = (DiskM.last (homeL cnt S l) k).getD (dm.view k) := fun k => by unfold effV; rw [hb]
  rw [homeW_run cnt S l dm g.body]
  rcases home_done (S := S) H.rests hoff (by omega) g.body g.num g.rise with ⟨q1, q2, q3, q4, q5⟩ | ⟨q0, q1, q2, q6, q3⟩
  · generalize runW (homeL cnt S l) dm = r at *
    have hb' : batchM (views r.1 0 cnt) 0 = some (S, l) := by rw [q4]; exact hb
    have hv : ∀ k, k < cnt + n → r.1.view k = effV dm cnt k := fun k hk => by rw [q5 k hk, he]
    have he' : ∀ k, k < cnt + n → effV r.1 cnt k = r.1.view k := fun k hk => by
      unfold effV
      rw [hb']
      simp only
      cases hq : DiskM.last (homeL cnt S l) k with
      | none => rfl
      | some b => rw [q5 k hk, hq]; rfl
    have hh : dec (r.1.view cnt) 0 = .ok ⟨83, 0, hs, h.body⟩ := by rw [hv _ (by omega)]; exact H.head
    obtain ⟨p1, p2⟩ := looks_same (st' := opened cnt h hs (topOf (views dm 0 cnt))) (d' := r.1) H.looks rfl q2 rfl rfl rfl rfl (fun i hi => by
      have hi : i < h.n := hi
      show r.1.view (cnt + i) = (ofV (cnt + n) (effV dm cnt)).view (cnt + i)
      rw [ofV_view (by omega), hv _ (by omega)])
    have top : ∀ k, k < cnt → (ends (r.1.view k)).1 ≤ topOf (views dm 0 cnt) ∧ (ends (r.1.view k)).2 ≤ topOf (views dm 0 cnt) := fun k hk => top_ge _ _ (by
      rw [← q4]
      unfold views
      exact List.mem_map.2 ⟨k, List.mem_range.2 hk, by rw [Nat.zero_add]⟩)
    refine .inl ⟨q1, ⟨⟨by rw [q3.len, ← hn]; rfl, fun k hk => q3.long k (by rw [← hn]; exact hk), q3.pend, fun k hk => ?_⟩, q2, ht, fun S' l' e => ?_, fun k _ hk => he' k (by rw [← hn]; exact hk), hh, H.ok, ?_, p1, by rw [p2]; exact H.seen⟩, hh⟩
    · have := top k hk
      show (ends (r.1.view k)).1 ≤ max hs (topOf (views dm 0 cnt)) + 1 - 1 ∧ (ends (r.1.view k)).2 ≤ max hs (topOf (views dm 0 cnt)) + 1 - 1
      omega
    · have e : batchM (views r.1 0 cnt) 0 = some (S', l') := e
      rw [hb'] at e
      cases e
      have hS : S ≤ topOf (views dm 0 cnt) := by
        obtain ⟨p, hp, hps⟩ := batch_head hb
        have := top 0 (by omega)
        have e0 : (views dm 0 cnt)[0]?.getD [] = r.1.view 0 := by
          rw [← q4, List.getElem?_eq_getElem (by rw [views_len]; omega), views_get _ _ _ _ (by omega), Option.getD_some, Nat.zero_add]
        rw [e0] at hp
        rw [dec_ends hp] at this
        simp only at this
        omega
      refine ⟨g.s0, ?_, g.some_, g.len, fun p hp => by have := g.num p hp; rw [← hn] at this; exact this, g.body, g.rise⟩
      show S ≤ max hs (topOf (views dm 0 cnt)) + 1 - 1
      omega
    · show hs < max hs (topOf (views dm 0 cnt)) + 1
      omega
  · generalize runW (homeL cnt S l) dm = r at *
    refine .inr ⟨q0, q1, q2, by have := g.len; omega, fun keep torn cut => ?_⟩
    obtain ⟨s1, s2, s3⟩ := q3 keep torn cut
    refine H.same s1 H.low (fun S' l' e => H.whole S' l' (by rw [← s2]; exact e)) (fun k h1 hk => ?_)
    rw [he]
    unfold effV
    rw [s2, hb]
    simp only
    cases hq : DiskM.last (homeL cnt S l) k with
    | none => simp only [Option.getD_none]; exact s3 k hk hq
    | some b => rfl
def bareSeen (n : Nat) : SeenM := ⟨(List.range n).map fun _ => -1, (List.range n).map fun _ => [], Root8.zero⟩
theorem fresh_seen (st : StM) (dm : DiskM) (n : Nat) (h : st.now = HeldM.fresh n) (hd : st.dead = false) : Looks st dm ∧ seenM st dm = bareSeen n := by
  have hm : ∀ i, mem st.now.ws i = false := fun i => by rw [h]; exact mem_zero n i
  refine ⟨⟨hd, fun i _ hi => by rw [hm i] at hi; cases hi⟩, ?_⟩
  unfold seenM bareSeen
  rw [show st.now.n = n from by rw [h]; rfl, show st.now.root = Root8.zero from by rw [h]; rfl]
  congr 1
  · apply List.map_congr_left
    intro i _
    unfold seenK
    rw [hm i, if_neg (by simp)]
  · apply List.map_congr_left
    intro i _
    unfold seenB
    rw [hm i, if_neg (by simp)]
theorem layoutM_all (dm : DiskM) (cnt n S : Nat) (hc : 2 ≤ cnt) (hn4 : n ≤ 4096) (h1 : 0 < S) (h2 : S ≤ 4611686018427387904) : layoutM dm cnt n S = allW dm cnt S [(HeldM.fresh n).page] := by
  have hf := fit_head (HeldM.fresh n) cnt hn4 hc
  unfold layoutM allW
  rw [putM_run dm 0 cnt S _ (right_fit hf h1 h2) hf.body (by simp)]
  simp only
  rw [homeW_run cnt S _ _ hf.body]
theorem commitW_all (st : StM) (m : BtM) (dm : DiskM) (hf : Fit st.count m.pages) (h1 : 0 < st.next) (h2 : st.next ≤ 4611686018427387904) (hl : m.pages.length ≤ 198) : commitW st m dm = allW dm st.count st.next m.pages := by
  unfold commitW allW
  rw [putM_run dm 0 st.count st.next _ (right_fit hf h1 h2) hf.body hl]
  simp only
  rw [homeW_run st.count st.next _ _ hf.body]
theorem made_head {dm : DiskM} {cnt S : Nat} {l : List PageV} {h : HeldM} (hr : (l.map (·.number)).Pairwise (· < ·)) (hp : h.page ∈ l) (h1 : 0 < S) (h2 : S ≤ 4611686018427387904) (hb : h.body.length ≤ 996) : dec (madeV dm cnt S l cnt) 0 = .ok ⟨83, 0, S, h.body⟩ := by
  have e : DiskM.last (homeL cnt S l) cnt = some (enc { h.page with serial := S }) := last_home_at (cnt := cnt) (serial := S) hr hp
  unfold madeV
  rw [e, Option.getD_some]
  exact dec_home (p := h.page) h1 h2 hb
theorem eff_made {dm : DiskM} {cnt n S : Nat} {l : List PageV} {dm0 : DiskM} (hb : batchM (views dm 0 cnt) 0 = some (S, l.map fun p => { p with serial := S })) (hv : ∀ k, cnt ≤ k → k < cnt + n → dm.view k = madeV dm0 cnt S l k) : ∀ k, cnt ≤ k → k < cnt + n → effV dm cnt k = dm.view k := fun k h1 h2 => by
  unfold effV
  rw [hb]
  simp only
  rw [home_same]
  cases hq : DiskM.last (homeL cnt S l) k with
  | none => rfl
  | some b =>
    rw [hv k h1 h2]
    unfold madeV
    rw [hq]
    rfl
theorem bare_open {dm : DiskM} {cnt n B : Nat} (H : Bare dm cnt n B) (hoff : dm.off = false) (hn2 : 2 ≤ n) (hall : cnt + n ≤ 4096) (hT : topOf (views dm 0 cnt) + 1 ≤ 4611686018427387904) :
    ((layoutM dm cnt n (topOf (views dm 0 cnt) + 1)).2 = 0 ∧ Sits (layoutM dm cnt n (topOf (views dm 0 cnt) + 1)).1 ⟨cnt, HeldM.fresh n, topOf (views dm 0 cnt) + 1, topOf (views dm 0 cnt) + 2, false⟩ (bareSeen n) ∧
      dec ((layoutM dm cnt n (topOf (views dm 0 cnt) + 1)).1.view cnt) 0 = .ok ⟨83, 0, topOf (views dm 0 cnt) + 1, (HeldM.fresh n).body⟩) ∨
    (dm.armed = true ∧ (layoutM dm cnt n (topOf (views dm 0 cnt) + 1)).2 = 40 ∧ (layoutM dm cnt n (topOf (views dm 0 cnt) + 1)).1.off = true ∧ (layoutM dm cnt n (topOf (views dm 0 cnt) + 1)).1.pend.length ≤ 2 ∧ ∀ keep torn cut,
      Bare ((layoutM dm cnt n (topOf (views dm 0 cnt) + 1)).1.crash keep torn cut) cnt n (topOf (views dm 0 cnt) + 1) ∨
      Stands ((layoutM dm cnt n (topOf (views dm 0 cnt) + 1)).1.crash keep torn cut) cnt n (HeldM.fresh n) (topOf (views dm 0 cnt) + 1) (topOf (views dm 0 cnt) + 1) (bareSeen n)) := by
  have ht := H.two
  have hrest : Rests dm cnt n (topOf (views dm 0 cnt)) := ⟨H.rests.len, H.rests.long, H.rests.pend, fun k hk => top_ge _ _ (by
    unfold views
    exact List.mem_map.2 ⟨k, List.mem_range.2 hk, by rw [Nat.zero_add]⟩)⟩
  generalize topOf (views dm 0 cnt) = top at *
  rw [layoutM_all dm cnt n (top + 1) ht (by omega) (by omega) hT]
  have hbod : (HeldM.fresh n).body.length ≤ 996 := page_fits _ (show n ≤ 4096 by omega)
  have g : MayPut (top + 1) cnt n [(HeldM.fresh n).page] := ⟨⟨by omega, hT, fun p hp => by simp at hp; subst hp; exact ⟨hbod, by show 0 < 4294967296; omega⟩, by simp, by simp⟩, by simpa using room_two cnt ht, fun p hp => by simp at hp; subst hp; show 0 < n; omega, ht⟩
  have hmh := fun dm0 : DiskM => made_head (dm := dm0) (cnt := cnt) (S := top + 1) (l := [(HeldM.fresh n).page]) (h := HeldM.fresh n) (by simp) (by simp) (by omega) hT hbod
  have hok := HeldM.fresh_ok n hn2 (by omega)
  rcases all_done hrest hoff (by omega) g with ⟨q1, q2, q3, q4, q5⟩ | ⟨q0, q1, q2, q6, q3⟩
  · generalize allW dm cnt (top + 1) [(HeldM.fresh n).page] = r at *
    have hh : dec (r.1.view cnt) 0 = .ok ⟨83, 0, top + 1, (HeldM.fresh n).body⟩ := by rw [q5 cnt (by omega) (by omega)]; exact hmh dm
    obtain ⟨f1, f2⟩ := fresh_seen ⟨cnt, HeldM.fresh n, top + 1, top + 2, false⟩ r.1 n rfl rfl
    refine .inl ⟨q1, ⟨q3, q2, ht, fun S l e => ?_, eff_made q4 q5, hh, hok, by show top + 1 < top + 2; omega, f1, f2⟩, hh⟩
    have e : batchM (views r.1 0 cnt) 0 = some (S, l) := e
    rw [q4] at e
    cases e
    exact g.holds (by simp) (by show top + 1 ≤ top + 2 - 1; omega)
  · generalize allW dm cnt (top + 1) [(HeldM.fresh n).page] = r at *
    refine .inr ⟨q0, q1, q2, by simpa using q6, fun keep torn cut => ?_⟩
    obtain ⟨s1, s2⟩ := q3 keep torn cut
    rcases s2 with ⟨e, hv⟩ | ⟨e, hv⟩
    · left
      have e : batchM (views (r.1.crash keep torn cut) 0 cnt) 0 = none := by
        rcases e with e | e
        · rw [e]; exact H.none
        · exact e
      exact ⟨s1, ht, e, by rw [hv cnt (by omega) (by omega)]; exact H.blank⟩
    · right
      obtain ⟨f1, f2⟩ := fresh_seen ⟨cnt, HeldM.fresh n, top + 1, 0, false⟩ (ofV (cnt + n) (effV (r.1.crash keep torn cut) cnt)) n rfl rfl
      refine ⟨s1, ht, fun S l e' => ?_, by rw [hv cnt (by omega) (by omega)]; exact hmh dm, hok, rfl, Nat.le_refl _, f1, f2⟩
      rw [e] at e'
      cases e'
      exact g.holds (by simp) (Nat.le_refl _)
theorem pages_put {is : SeenM} {m : BtM} {st : StM} {S : Nat} (g : Grown is m) (hb : ∀ y ∈ m.has, y.2.2.length ≤ 996) (hp : m.pages.length ≤ room (st.count : Int)) (h0 : 0 < S) (hS : S ≤ 4611686018427387904) (h2 : 2 ≤ st.count) : MayPut S st.count m.held.n m.pages := by
  have hbod : m.held.body.length ≤ 996 := page_fits _ g.ok.most
  have hn2 := g.ok.some_
  have hn4 := g.ok.most
  refine ⟨⟨h0, hS, fun p hp => ?_, ?_, ?_⟩, hp, fun p hp => ?_, h2⟩
  · unfold BtM.pages at hp
    rcases List.mem_cons.1 hp with rfl | hp
    · exact ⟨hbod, by show 0 < 4294967296; omega⟩
    · obtain ⟨y, hy, rfl⟩ := List.mem_map.1 hp
      have := (mem_low g.ok (g.has y hy)).2
      exact ⟨hb y hy, by show y.1 < 4294967296; omega⟩
  · unfold BtM.pages
    rw [List.map_cons, List.map_map]
    refine List.pairwise_cons.2 ⟨fun x hx => ?_, g.rise⟩
    obtain ⟨y, hy, rfl⟩ := List.mem_map.1 hx
    exact (mem_low g.ok (g.has y hy)).1
  · unfold room at hp; omega
  · unfold BtM.pages at hp
    rcases List.mem_cons.1 hp with rfl | hp
    · show 0 < m.held.n; omega
    · obtain ⟨y, hy, rfl⟩ := List.mem_map.1 hp
      exact (mem_low g.ok (g.has y hy)).2
theorem commit_sits {dm : DiskM} {st : StM} {is : SeenM} {m : BtM} (H : Sits dm st is) (g : Grown is m) (hb : ∀ y ∈ m.has, y.2.2.length ≤ 996) (hf : Fit st.count m.pages) (hn : m.held.n = st.now.n) (hS : st.next ≤ 4611686018427387904) :
    ((commitW st m dm).2 = 0 ∧ Sits (commitW st m dm).1 (st.done m) (willM is m)) ∨
    ((commitW st m dm).2 = 40 ∧ (commitW st m dm).1.off = true ∧ (commitW st m dm).1.pend.length ≤ 199 ∧ ∀ keep torn cut,
      Stands ((commitW st m dm).1.crash keep torn cut) st.count st.now.n st.now st.serial st.next is ∨ Stands ((commitW st m dm).1.crash keep torn cut) st.count st.now.n m.held st.next st.next (willM is m)) := by
  have ht := H.two
  have hlow := H.low
  have hbod : m.held.body.length ≤ 996 := page_fits _ g.ok.most
  have hp := hf.room
  have p := pages_put g hb hp (by omega : 0 < st.next) hS ht
  rw [hn] at p
  have h2 := g.ok.some_
  rw [commitW_all st m dm hf (by omega) hS p.good.len]
  have hmh : dec (madeV dm st.count st.next m.pages st.count) 0 = .ok ⟨83, 0, st.next, m.held.body⟩ := made_head p.good.rise (by unfold BtM.pages; simp) (by omega) hS hbod
  have hlook : Looks (st.done m) (ofV (st.count + st.now.n) (fun k => (DiskM.last (homeL st.count st.next m.pages) k).getD ((DiskM.last (putL 0 st.next m.pages) k).getD (dm.view k)))) ∧ seenM (st.done m) (ofV (st.count + st.now.n) (fun k => (DiskM.last (homeL st.count st.next m.pages) k).getD ((DiskM.last (putL 0 st.next m.pages) k).getD (dm.view k)))) = willM (seenM st dm) m :=
    commit_seen (N := st.count + st.now.n) H.looks H.ok (by rw [H.seen]; exact g) H.off rfl hb (by rw [hn]) (by have := room_lt hp ht; omega) hlow hS fun k hk => ofV_view hk
  rw [H.seen] at hlook
  have hmv : ∀ i, i < st.now.n → madeV dm st.count st.next m.pages (st.count + i) = (DiskM.last (homeL st.count st.next m.pages) (st.count + i)).getD ((DiskM.last (putL 0 st.next m.pages) (st.count + i)).getD (dm.view (st.count + i))) := fun i hi => by
    unfold madeV
    rw [last_put_high (l := m.pages) (by have := room_lt hp ht; omega)]
    rfl
  rcases all_done H.rests H.off (by omega) p with ⟨q1, q2, q3, q4, q5⟩ | ⟨q0, q1, q2, q6, q3⟩
  · generalize allW dm st.count st.next m.pages = r at *
    left
    obtain ⟨f1, f2⟩ := looks_same (st' := st.done m) (d' := r.1) hlook.1 rfl q2 rfl rfl rfl hlook.1.lives (fun i hi => by
      have hi : i < m.held.n := hi
      show r.1.view (st.count + i) = (ofV (st.count + st.now.n) _).view (st.count + i)
      rw [ofV_view (by omega), q5 _ (by omega) (by omega), hmv i (by omega)])
    refine ⟨q1, ⟨?_, q2, ht, fun S l e => ?_, fun k h1 h2 => ?_, ?_, g.ok, ?_, f1, by rw [f2]; exact hlook.2⟩⟩
    · show Rests r.1 st.count m.held.n (st.next + 1 - 1)
      rw [hn]; exact q3
    · have e : batchM (views r.1 0 st.count) 0 = some (S, l) := e
      rw [q4] at e
      cases e
      show HoldsB st.next (st.next + 1 - 1) m.held.n _
      rw [hn]
      exact p.holds (by unfold BtM.pages; simp) (by omega)
    · have h2 : k < st.count + m.held.n := h2
      exact eff_made q4 q5 k h1 (by rw [← hn]; exact h2)
    · show dec (r.1.view st.count) 0 = .ok ⟨83, 0, st.next, m.held.body⟩
      rw [q5 _ (by omega) (by omega)]
      exact hmh
    · show st.next < st.next + 1
      omega
  · generalize allW dm st.count st.next m.pages = r at *
    refine .inr ⟨q1, q2, by have := p.good.len; omega, fun keep torn cut => ?_⟩
    obtain ⟨s1, s2⟩ := q3 keep torn cut
    rcases s2 with ⟨e, hv⟩ | ⟨e, hv⟩
    · left
      refine H.stands.same s1 (by omega) (fun S l e' => ?_) fun k h1 h2 => ?_
      · rcases e with e | e
        · rw [e] at e'
          exact (H.whole S l e').mono (by omega)
        · rw [e] at e'; cases e'
      · rcases e with e | e
        · unfold effV
          rw [e, hv k h1 h2]
        · rw [H.home k h1 h2]
          unfold effV
          rw [e]
          exact hv k h1 h2
    · right
      obtain ⟨f1, f2⟩ := looks_same (st' := ⟨st.count, m.held, st.next, 0, false⟩) (d' := ofV (st.count + st.now.n) (effV (r.1.crash keep torn cut) st.count)) hlook.1 rfl rfl rfl rfl rfl rfl (fun i hi => by
        have hi : i < m.held.n := hi
        show (ofV (st.count + st.now.n) _).view (st.count + i) = (ofV (st.count + st.now.n) _).view (st.count + i)
        rw [ofV_view (by omega), ofV_view (by omega), hv _ (by omega) (by omega), hmv i (by omega)])
      refine ⟨s1, ht, fun S l e' => ?_, ?_, g.ok, hn, Nat.le_refl _, f1, by rw [f2]; exact hlook.2⟩
      · rw [e] at e'
        cases e'
        exact p.holds (by unfold BtM.pages; simp) (Nat.le_refl _)
      · rw [hv _ (by omega) (by omega)]
        exact hmh
end Go.Proofs.YtabhieafjkaocaaGreat
