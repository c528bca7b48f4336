/- A part. -/
import Derived.Test.YtabhieafjkaocaaGreatMaac
import Derived.Deep.AppendLies
import Derived.Deep.RegionLaw
import Derived.Laws.Shifts
import Derived.Laws.BitsAllLaws
import Derived.Laws.Bits64b
set_option linter.unusedVariables false
set_option linter.unusedSimpArgs false
namespace Go.Proofs.YtabhieafjkaocaaGreat
open Go.RowKit Go.Lib
def be (v : Nat) : Nat → List UInt8
  | 0 => []
  | n + 1 => UInt8.ofNat (v / 2 ^ (8 * n) % 256) :: be v n
theorem be_length (v n : Nat) : (be v n).length = n := by induction n with | zero => rfl | succ n ih => simp [be, ih]
set_option maxRecDepth 20000 in
set_option maxHeartbeats 1000000 in
theorem fixed_ok (B p : Nat) (v : Value) (l : List UInt8) (x n : Nat) (w : World) (h : WrAt B w p v l) (hx : x < 18446744073709551616) (hn1 : 1 ≤ n) (hn8 : n ≤ 8) (hxn : x < 2 ^ (8 * n)) (hl : l.length < 70368744177664) :
    Calls Tryz.prog 98 #[.pointer (some ⟨p, 0, none⟩), .int .u64 (x : Int), .int .i64 (n : Int)] w fun e w' => ∃ v', e = .returned (.int .i64 0) ∧ Kept (fun k => B ≤ k) w w' ∧ WrAt B w' p v' (l ++ be x n) := by
  obtain ⟨i0, hi, hz0, hz1, hz2⟩ := info_parts Tryz.infoU8
  have HL := Lib.hid hl
  have H := Lib.hid h
  have HX := Lib.hid hxn
  clear hl h hxn
  go_enter Tryz.func98, Tryz.ntmps98
  have hdv : ((x : Int) / 2 ^ (8 * n) != 0) = false := by
    have e : (x : Int) / 2 ^ (8 * n) = ((x / 2 ^ (8 * n) : Nat) : Int) := by simp
    rw [e, Nat.div_eq_of_lt HX.out]; rfl
  rcases Nat.lt_or_ge n 8 with h8 | h8
  all_goals
    go_wp2_with fail
    go_loopw [2] (fun i wr => ∃ j v', j ≤ n ∧ i = .int .i64 ((j : Int) - 1) ∧ Kept (fun k => B ≤ k) w wr ∧ ∃ pre, WrAt B wr p v' (l ++ pre) ∧ pre ++ be x j = be x n) (fun i _ => (intOf i + 1).toNat)
    case atStart => exact ⟨n, v, Nat.le_refl _, by first | rfl | go_num, Kept.refl _ _, [], by rw [List.append_nil]; exact H.out, rfl⟩
    case round =>
      obtain ⟨j, v', hj, rfl, hk, pre, hw, hpre⟩ := hrel
      cases j with
      | zero =>
        have HW := Lib.hid hw
        have HP := Lib.hid hpre
        have HK := Lib.hid hk
        clear hw hpre hk
        go_wp2
        go_ret
        refine ⟨v', rfl, HK.out, ?_⟩
        have e := HP.out
        rw [be, List.append_nil] at e
        rw [← e]; exact HW.out
      | succ j =>
        rw [show (((j + 1 : Nat) : Int) - 1) = (j : Int) by omega]
        have hc := hw.head.cell
        have hlt := hw.lt
        have hpl : pre.length + (j + 1) = n := by
          have := congrArg List.length hpre
          rw [List.length_append, be_length, be_length] at this
          exact this
        have HW := Lib.hid hw
        have HP := Lib.hid hpre
        have HK := Lib.hid hk
        have hval : ((x : Int) / 2 ^ (8 * j) % 256) = ((UInt8.ofNat (x / 2 ^ (8 * j) % 256)).toNat : Int) := by
          rw [UInt8.toNat_ofNat']
          simp
        have HV := Lib.hid hval
        clear hw hpre hk hval
        have hj8 : j ≤ 7 := by omega
        have hwr : IntKind.i64.wrap (8 * (j : Int)) = 8 * (j : Int) := by rw [IntKind.wrap_i64]; omega
        have hsf : Op.shift .shr .u64 (x : Int) .i64 (8 * (j : Int)) = pure (.int .u64 ((x : Int) / 2 ^ (8 * j))) := by
          rw [shift_shr_any _ _ _ _ (by omega)]
          have e : min (8 * (j : Int)).toNat IntKind.u64.bits = 8 * j := by
            have : (8 * (j : Int)).toNat = 8 * j := by omega
            rw [this]; show min (8 * j) 64 = 8 * j; omega
          rw [e]
        have HWd : Hid (WrAt B wr.drew p v' (l ++ pre)) := ⟨HW.out.head, HW.out.row, HW.out.from_⟩
        go_wp2_with fail
        go_region_law ((refine step_append_lies (wr.drew.alloc (.cells #[.int .u8 ((x : Int) / 2 ^ (8 * j) % 256)] 5)) rfl (.tmp 36) (.tmp 42) 104 rfl B 5 i0 (.int .u8 0) 1 1 Tryz.underlying104 hi hz0 hz1 hz2 rfl (by decide) v' (l ++ pre).length (byteVals (l ++ pre)) (by simp [Act.eval]) (HWd.out.row.alloc _) ⟨wr.heap.size, 0, none⟩ 1 1 [.int .u8 ((x : Int) / 2 ^ (8 * j) % 256)] (by simp [Act.eval]) rfl (cell_one_new wr.drew _ _) (by simp [Value.oneCell']) (by decide) (by have := HL.out; unfold maxLen; simp; omega) (by have := HL.out; simp; omega) (by have := HW.out.from_; simp; omega) _ rfl ?_; intro g cap w1 hown' hgrow hg1 hg2; obtain ⟨hv1, hv2, hr2, hk2⟩ := appendedW (W := wr.drew) HWd.out.head (by decide) HWd.out.row HWd.out.from_ hown' hgrow; have hc1 := hv1.cell; have hf1 := hv1.frozen))
        go_wp2
        go_roundw
        case rel =>
          simp only [List.length_append] at hk2 hv2
          refine ⟨j, _, by omega, by go_num, (HK.out.drew).trans hk2, pre ++ [UInt8.ofNat (x / 2 ^ (8 * j) % 256)], ⟨hv2, ?_, HW.out.from_⟩, ?_⟩
          · rw [HV.out] at hr2
            simpa [byteVals, Nat.add_assoc] using hr2
          · rw [List.append_assoc]; exact HP.out
        case measure => first | (simp [intOf]; done) | (simp [intOf]; omega)
        case roundEnd =>
          simp only [List.length_append] at hk2 hv2
          refine ⟨⟨j, _, by omega, rfl, (HK.out.drew).trans hk2, pre ++ [UInt8.ofNat (x / 2 ^ (8 * j) % 256)], ⟨hv2, ?_, HW.out.from_⟩, ?_⟩, by first | (simp [intOf]; done) | (simp [intOf]; omega)⟩
          · rw [HV.out] at hr2
            simpa [byteVals, Nat.add_assoc] using hr2
          · rw [List.append_assoc]; exact HP.out
end Go.Proofs.YtabhieafjkaocaaGreat
namespace Go.Proofs.YtabhieafjkaocaaGreat
def num (l : List UInt8) : Nat := l.foldl (fun a b => a * 256 + b.toNat) 0
theorem num_from (l : List UInt8) (a : Nat) : l.foldl (fun a b => a * 256 + b.toNat) a = a * 256 ^ l.length + num l := by
  unfold num
  induction l generalizing a with
  | nil => simp
  | cons b l ih =>
    rw [List.foldl_cons, List.foldl_cons, ih, ih (0 * 256 + b.toNat), List.length_cons, Nat.pow_succ]
    have e : (a * 256 + b.toNat) * 256 ^ l.length = a * (256 ^ l.length * 256) + b.toNat * 256 ^ l.length := by
      rw [Nat.add_mul, Nat.mul_assoc, Nat.mul_comm 256]
    rw [e, Nat.zero_mul, Nat.zero_add]
    omega
theorem num_cons (b : UInt8) (l : List UInt8) : num (b :: l) = b.toNat * 256 ^ l.length + num l := by
  have := num_from l b.toNat
  unfold num at this ⊢
  rw [List.foldl_cons, Nat.zero_mul, Nat.zero_add]
  exact this
theorem num_be (v n : Nat) : num (be v n) = v % 256 ^ n := by
  induction n with
  | zero => simp [be, num, Nat.mod_one]
  | succ n ih =>
    rw [be, num_cons, be_length, ih]
    have h8 : 2 ^ (8 * n) = 256 ^ n := by rw [Nat.pow_mul]
    rw [h8]
    have e : (UInt8.ofNat (v / 256 ^ n % 256)).toNat = v / 256 ^ n % 256 := by
      rw [UInt8.toNat_ofNat']; omega
    rw [e, Nat.pow_succ, Nat.mod_mul]
    rw [Nat.mul_comm (v / 256 ^ n % 256)]
    omega
theorem num_lt (l : List UInt8) : num l < 256 ^ l.length := by
  induction l with
  | nil => simp [num]
  | cons b l ih =>
    rw [num_cons, List.length_cons, Nat.pow_succ]
    have hb : b.toNat < 256 := b.toNat_lt
    have : b.toNat * 256 ^ l.length ≤ 255 * 256 ^ l.length := Nat.mul_le_mul_right _ (by omega)
    omega
structure PageV where
  kind : UInt8
  number : Nat
  serial : Nat
  body : List UInt8
deriving DecidableEq
def lay (p : PageV) (s : List UInt8) : List UInt8 :=
  be p.serial 8 ++ (p.kind :: 0 :: (be p.body.length 2 ++ (be p.number 4 ++ (s ++ (p.body ++ (List.replicate (996 - p.body.length) 0 ++ be p.serial 8))))))
def encode (sum : List UInt8 → Nat) (p : PageV) : List UInt8 := lay p (be (sum (lay p (be 0 4))) 4)
theorem lay_length (p : PageV) (s : List UInt8) (hb : p.body.length ≤ 996) (hs : s.length = 4) : (lay p s).length = 1024 := by
  simp [lay, be_length, hs]; omega
theorem encode_length (sum : List UInt8 → Nat) (p : PageV) (hb : p.body.length ≤ 996) : (encode sum p).length = 1024 := lay_length _ _ hb (be_length _ _)
def decode (sum : List UInt8 → Nat) (b : List UInt8) (number : Nat) (eForm eBlank ePage : Int) : Except Int PageV :=
  if b.length ≠ 1024 then .error eForm
  else if b = List.replicate 1024 0 then .error eBlank
  else
    let n := num ((b.drop 10).take 2)
    if n > 996 then .error ePage
    else
      let p : PageV := ⟨b[8]?.getD 0, number, num (b.take 8), (b.drop 20).take n⟩
      if p.serial > 2 ^ 62 then .error ePage
      else if encode sum p ≠ b then .error ePage else .ok p
theorem lay_serial (p : PageV) (s : List UInt8) (h : p.serial < 2 ^ 64) : num ((lay p s).take 8) = p.serial := by
  rw [lay, List.take_left' (be_length _ _), num_be]
  exact Nat.mod_eq_of_lt (by have : (256 : Nat) ^ 8 = 2 ^ 64 := by decide
                             omega)
theorem lay_kind (p : PageV) (s : List UInt8) : (lay p s)[8]? = some p.kind := by
  rw [lay, List.getElem?_append_right (by rw [be_length]; exact Nat.le_refl _), be_length]
  rfl
theorem drop_of {α : Type} {l a b : List α} {n : Nat} (h : l = a ++ b) (hn : a.length = n) : l.drop n = b := by rw [h, List.drop_left' hn]
theorem take_of {α : Type} {l a b : List α} {n : Nat} (h : l = a ++ b) (hn : a.length = n) : l.take n = a := by rw [h, List.take_left' hn]
theorem lay_len (p : PageV) (s : List UInt8) (h : p.body.length < 65536) : num (((lay p s).drop 10).take 2) = p.body.length := by
  rw [drop_of (a := be p.serial 8 ++ [p.kind, 0]) (b := be p.body.length 2 ++ (be p.number 4 ++ (s ++ (p.body ++ (List.replicate (996 - p.body.length) 0 ++ be p.serial 8))))) (by simp [lay]) (by simp [be_length]),
    List.take_left' (be_length _ _), num_be]
  exact Nat.mod_eq_of_lt (by have : (256 : Nat) ^ 2 = 65536 := by decide
                             omega)
theorem lay_body (p : PageV) (s : List UInt8) (hs : s.length = 4) : ((lay p s).drop 20).take p.body.length = p.body := by
  rw [drop_of (a := be p.serial 8 ++ (p.kind :: 0 :: (be p.body.length 2 ++ (be p.number 4 ++ s)))) (b := p.body ++ (List.replicate (996 - p.body.length) 0 ++ be p.serial 8)) (by simp [lay]) (by simp [be_length, hs]),
    List.take_left' rfl]
theorem lay_tail (p : PageV) (s : List UInt8) (hb : p.body.length ≤ 996) (hs : s.length = 4) (h : p.serial < 2 ^ 64) : num ((lay p s).drop 1016) = p.serial := by
  rw [drop_of (a := be p.serial 8 ++ (p.kind :: 0 :: (be p.body.length 2 ++ (be p.number 4 ++ (s ++ (p.body ++ List.replicate (996 - p.body.length) 0)))))) (b := be p.serial 8) (by simp [lay]) (by simp [be_length, hs]; omega), num_be]
  exact Nat.mod_eq_of_lt (by have : (256 : Nat) ^ 8 = 2 ^ 64 := by decide
                             omega)
theorem decode_encode (sum : List UInt8 → Nat) (p : PageV) (eForm eBlank ePage : Int) (h0 : 0 < p.serial) (h1 : p.serial ≤ 2 ^ 62) (hb : p.body.length ≤ 996) : decode sum (encode sum p) p.number eForm eBlank ePage = .ok p := by
  have hl := encode_length sum p hb
  have hs4 : (be (sum (lay p (be 0 4))) 4).length = 4 := be_length _ _
  have hser : num ((encode sum p).take 8) = p.serial := lay_serial p _ (by omega)
  have hlen : num (((encode sum p).drop 10).take 2) = p.body.length := lay_len p _ (by omega)
  have hbody : ((encode sum p).drop 20).take p.body.length = p.body := lay_body p _ hs4
  have hkind : (encode sum p)[8]? = some p.kind := lay_kind p _
  have hnb : encode sum p ≠ List.replicate 1024 0 := by
    intro e
    rw [e] at hser
    have : num ((List.replicate 1024 (0 : UInt8)).take 8) = 0 := by decide +kernel
    omega
  unfold decode
  rw [if_neg (by rw [hl]; simp), if_neg hnb]
  simp only [hlen, hser, hbody, hkind, Option.getD_some]
  rw [if_neg (by omega), if_neg (by omega), if_neg (by simp)]
structure DiskM where
  lies : List (List UInt8)
  pend : List (Nat × List UInt8)
  off : Bool
  armed : Bool
  left : Int
namespace DiskM
def last (l : List (Nat × List UInt8)) (n : Nat) : Option (List UInt8) :=
  match l with
  | [] => none
  | x :: l => (last l n).or (if x.1 = n then some x.2 else none)
theorem last_append (l k : List (Nat × List UInt8)) (n : Nat) : last (l ++ k) n = (last k n).or (last l n) := by
  induction l with
  | nil => simp [last]
  | cons x l ih => simp [last, ih, Option.or_assoc]
def view (m : DiskM) (n : Nat) : List UInt8 := (last m.pend n).getD (m.lies[n]?.getD [])
def ready (m : DiskM) (n : Int) : Int := if m.off then 40 else if n < 0 ∨ (m.lies.length : Int) ≤ n then 1 else 0
def act (m : DiskM) : DiskM × Int :=
  if m.armed then if m.left = 0 then ({ m with off := true }, 40) else ({ m with left := m.left - 1 }, 0) else (m, 0)
def write (m : DiskM) (n : Int) (b : List UInt8) : DiskM × Int :=
  if m.ready n ≠ 0 then (m, m.ready n) else if b.length ≠ 1024 then (m, 1)
  else if m.act.2 ≠ 0 then m.act else ({ m.act.1 with pend := m.act.1.pend ++ [(n.toNat, b)] }, 0)
def landed (m : DiskM) : List (List UInt8) := m.pend.foldl (fun l x => l.set x.1 x.2) m.lies
def sync (m : DiskM) : DiskM × Int :=
  if m.ready 0 ≠ 0 then (m, m.ready 0) else if m.act.2 ≠ 0 then m.act else ({ m.act.1 with lies := m.act.1.landed, pend := [] }, 0)
theorem landed_length (l : List (Nat × List UInt8)) (k : List (List UInt8)) : (l.foldl (fun l x => l.set x.1 x.2) k).length = k.length := by
  induction l generalizing k with
  | nil => rfl
  | cons x l ih => rw [List.foldl_cons, ih, List.length_set]
theorem landed_get (l : List (Nat × List UInt8)) (k : List (List UInt8)) (n : Nat) (h : n < k.length) :
    (l.foldl (fun l x => l.set x.1 x.2) k)[n]? = some ((last l n).getD (k[n]?.getD [])) := by
  induction l generalizing k with
  | nil => simp [last, List.getElem?_eq_getElem h]
  | cons x l ih =>
    rw [List.foldl_cons, ih _ (by simpa using h), last]
    cases hl : last l n with
    | some y => simp
    | none =>
      by_cases hx : x.1 = n
      · subst hx; simp [h]
      · simp [hx]
theorem landed_view (m : DiskM) (n : Nat) (h : n < m.lies.length) : m.landed[n]? = some (m.view n) := landed_get _ _ _ h
structure Fits (m : DiskM) : Prop where
  lies : ∀ b ∈ m.lies, b.length = 1024
  pend : ∀ x ∈ m.pend, x.1 < m.lies.length ∧ x.2.length = 1024
end DiskM
end Go.Proofs.YtabhieafjkaocaaGreat
namespace Go.Proofs.YtabhieafjkaocaaGreat
open Go.RowKit Go.Lib
set_option maxRecDepth 20000
theorem num_take_lt (l : List UInt8) (i : Nat) (h : i ≤ 7) : num (l.take i) < 72057594037927936 := by
  have := num_lt (l.take i)
  have h2 : 256 ^ (l.take i).length ≤ 256 ^ 7 := Nat.pow_le_pow_right (by omega) (by rw [List.length_take]; omega)
  have h3 : (256 : Nat) ^ 7 = 72057594037927936 := by decide
  omega
theorem num_snoc (l : List UInt8) (b : UInt8) : num (l ++ [b]) = num l * 256 + b.toNat := by simp [num]
theorem num_take_succ (l : List UInt8) (i : Nat) (h : i < l.length) : num (l.take (i + 1)) = num (l.take i) * 256 + l[i].toNat := by
  rw [List.take_succ_eq_append_getElem h, num_snoc]
theorem or_byte (a b : Nat) (ha : a < 72057594037927936) (hb : b < 256) : bits .or .u64 ((a : Int) * 256) (b : Int) = ((a * 256 + b : Nat) : Int) := by
  have e : (a : Int) * 256 = ((a * 256 : Nat) : Int) := by omega
  rw [e, bits_or_u64_nat _ _ (by omega) (by omega)]
  have := Nat.two_pow_add_eq_or_of_lt (i := 8) (b := b) hb a
  rw [show a * 256 = 2 ^ 8 * a from by omega, this]
set_option maxHeartbeats 1000000 in
theorem taken_ok (l : List UInt8) (b off cap : Nat) (w : World) (hl : l.length ≤ 8) (hc : ∀ i (h : i < l.length), w.cell? ⟨b, off + i, none⟩ = some (.int .u8 (l[i].toNat : Int))) :
    Calls Tryz.prog 81 #[.slice (some ⟨b, off, none⟩) l.length cap] w fun e w' => e = .returned (.int .u64 (num l : Int)) ∧ w = w' := by
  go_enter Tryz.func81, Tryz.ntmps81
  have HC := Lib.hid hc
  clear hc
  go_wp2_with fail
  go_loopw [3, 8] (fun v i wr => ∃ j, j ≤ l.length ∧ i = .int .i64 (j : Int) ∧ v = .int .u64 (num (l.take j) : Int) ∧ w = wr) (fun _ i _ => l.length - (intOf i).toNat)
  case atStart => exact ⟨0, by omega, rfl, rfl, rfl⟩
  case round =>
    obtain ⟨j, hj, rfl, rfl, rfl⟩ := hrel
    by_cases hjl : j < l.length
    · have hcj := HC.out j hjl
      have hn := num_take_lt l j (by omega)
      have hb : l[j].toNat < 256 := l[j].toNat_lt
      have hs := num_take_succ l j hjl
      go_wp2
      refine ⟨⟨j + 1, by omega, rfl, ?_, trivial⟩, by simp [intOf]; omega⟩
      rw [or_byte _ _ hn hb, hs]
    · have e : j = l.length := by omega
      subst e
      rw [List.take_length]
      go_wp2
      go_ret
      exact ⟨rfl, rfl⟩
def rowBytes (l : List UInt8) : List Value := l.map fun b => Value.int .u8 (b.toNat : Int)
theorem set_mid (pre m0 post : List Value) (a v : Value) (k : Nat) (hk : pre.length + m0.length = k) : (⟨pre ++ (m0 ++ a :: post)⟩ : Array Value).setIfInBounds k v = ⟨pre ++ (m0 ++ v :: post)⟩ := by
  apply Array.ext'
  rw [Array.toList_setIfInBounds]
  show (pre ++ (m0 ++ a :: post)).set k v = pre ++ (m0 ++ v :: post)
  subst hk
  rw [List.set_append_right _ _ (by omega), Nat.add_sub_cancel_left, List.set_append_right _ _ (Nat.le_refl _), Nat.sub_self]
  rfl
set_option maxHeartbeats 1000000 in
theorem put_ok (x n b off len cap : Nat) (w : World) (hx : x < 18446744073709551616) (hn : n ≤ 8) (hnl : n ≤ len) (pre mid post : List Value) (t : TypeId) (hm : mid.length = n) (hp : pre.length = off)
    (hg : w.heap[b]? = some (.cells ⟨pre ++ (mid ++ post)⟩ t (0, 0))) :
    Calls Tryz.prog 126 #[.slice (some ⟨b, off, none⟩) len cap, .int .u64 (x : Int), .int .i64 (n : Int)] w fun e w' => e = .returned (.tuple #[]) ∧ Kept (fun k => k = b) w w' ∧ w'.heap[b]? = some (.cells ⟨pre ++ (rowBytes (be x n) ++ post)⟩ t (0, 0)) := by
  go_enter Tryz.func126, Tryz.ntmps126
  have HG := Lib.hid hg
  clear hg
  go_wp2_with fail
  go_loopw [1, 8] (fun v i wr => ∃ j, j ≤ n ∧ i = .int .i64 (j : Int) ∧ v = .int .u64 ((x / 256 ^ j : Nat) : Int) ∧ Kept (fun k => k = b) w wr ∧ wr.heap[b]? = some (.cells ⟨pre ++ (mid.take (n - j) ++ (rowBytes (be x j) ++ post))⟩ t (0, 0))) (fun _ i _ => n - (intOf i).toNat)
  case atStart =>
    refine ⟨0, by omega, rfl, by simp, Kept.refl _ _, ?_⟩
    rw [Nat.sub_zero, List.take_of_length_le (by omega)]
    exact HG.out
  case round =>
    obtain ⟨j, hj, rfl, rfl, hk, hw⟩ := hrel
    by_cases hjn : j < n
    · have hx2 : x / 256 ^ j < 18446744073709551616 := Nat.lt_of_le_of_lt (Nat.div_le_self _ _) hx
      obtain ⟨m0, a, hma⟩ : ∃ m0 a, mid.take (n - j) = m0 ++ [a] := by
        refine ⟨mid.take (n - j - 1), mid[n - j - 1]'(by omega), ?_⟩
        rw [← List.take_succ_eq_append_getElem, show n - j - 1 + 1 = n - j from by omega]
      have hm0 : m0.length = n - 1 - j := by
        have := congrArg List.length hma
        simp at this; omega
      rw [hma, List.append_assoc, List.singleton_append] at hw
      have hcell := cell_of_row wr b (off + (n - 1 - j)) _ _ _ hw
      have hce : (⟨pre ++ (m0 ++ a :: (rowBytes (be x j) ++ post))⟩ : Array Value)[off + (n - 1 - j)]? = some a := by
        rw [← Array.getElem?_toList]
        show (pre ++ (m0 ++ a :: (rowBytes (be x j) ++ post)))[off + (n - 1 - j)]? = some a
        rw [List.getElem?_append_right (by omega), show off + (n - 1 - j) - pre.length = m0.length from by omega, List.getElem?_append_right (Nat.le_refl _), Nat.sub_self]
        rfl
      rw [hce] at hcell
      have hfr := frozen_of_row wr b (off + (n - 1 - j)) _ _ hw
      have HW := Lib.hid hw
      have HK := Lib.hid hk
      have HM := Lib.hid hma
      clear hw hk hma hce
      go_wp2
      have hval : ((x : Int) / 256 ^ j % 256) = ((UInt8.ofNat (x / 2 ^ (8 * j) % 256)).toNat : Int) := by
        rw [UInt8.toNat_ofNat', Nat.pow_mul]
        simp
      refine ⟨⟨j + 1, by omega, rfl, ?_, HK.out.setCell _ _ (fun _ => rfl), ?_⟩, by simp [intOf]; omega⟩
      · rw [Nat.pow_succ, ← Nat.div_div_eq_div_mul]; simp
      · have hb := heap_setCell_same wr b (off + (n - 1 - j)) _ _ (.int .u8 ((x : Int) / 256 ^ j % 256)) HW.out
        rw [set_mid _ _ _ _ _ _ (by omega)] at hb
        have ht : mid.take (n - (j + 1)) = m0 := by
          have := congrArg (List.take m0.length) HM.out
          rw [List.take_take, List.take_left' rfl, Nat.min_eq_left (by omega)] at this
          rw [← this, show m0.length = n - (j + 1) from by omega]
        rw [ht, hb, be, hval]
        rfl
    · have e : j = n := by omega
      subst e
      rw [Nat.sub_self, List.take_zero, List.nil_append] at hw
      have HW := Lib.hid hw
      have HK := Lib.hid hk
      clear hw hk
      go_wp2
      go_end0
      exact ⟨rfl, HK.out, HW.out⟩
def sumSt (c : Nat) : Nat := (c / 2) ^^^ (if c % 2 = 1 then 2197175160 else 0)
def sumTb (i : Nat) : Nat := sumSt (sumSt (sumSt (sumSt i)))
def sumHalf (c : Nat) : Nat := (c / 16) ^^^ sumTb (c % 16)
def sumByte (c : Nat) (b : UInt8) : Nat := sumHalf (sumHalf (c ^^^ b.toNat))
def sumOn (s : Nat) (l : List UInt8) : Nat := 4294967295 ^^^ l.foldl sumByte (4294967295 ^^^ s)
theorem xor32 {a b : Nat} (ha : a < 4294967296) (hb : b < 4294967296) : a ^^^ b < 4294967296 := Nat.xor_lt_two_pow (n := 32) ha hb
theorem sumSt_lt {c : Nat} (h : c < 4294967296) : sumSt c < 4294967296 := by
  unfold sumSt
  exact xor32 (by omega) (by split <;> omega)
theorem sumTb_lt {c : Nat} (h : c < 4294967296) : sumTb c < 4294967296 := sumSt_lt (sumSt_lt (sumSt_lt (sumSt_lt h)))
theorem sumHalf_lt {c : Nat} (h : c < 4294967296) : sumHalf c < 4294967296 := xor32 (by omega) (sumTb_lt (by omega))
theorem sumByte_lt {c : Nat} (b : UInt8) (h : c < 4294967296) : sumByte c b < 4294967296 := sumHalf_lt (sumHalf_lt (xor32 h (by have := b.toNat_lt; omega)))
def sumIt : Nat → Nat → Nat
  | 0, c => c
  | q + 1, c => sumSt (sumIt q c)
theorem sumIt_lt (q : Nat) {c : Nat} (h : c < 4294967296) : sumIt q c < 4294967296 := by
  induction q with
  | zero => exact h
  | succ q ih => exact sumSt_lt ih
theorem st_val (c : Nat) (h : c < 4294967296) : bits .xor .u32 ((c : Int) / 2) (bits .and .u32 2197175160 (-(bits .and .u32 (c : Int) 1) % 4294967296)) = (sumSt c : Int) := by
  have h1 : bits .and .u32 (c : Int) 1 = ((c % 2 : Nat) : Int) := by
    have := u32_and_nat c 1 h (by decide)
    rw [Nat.and_one_is_mod] at this
    exact this
  rw [h1]
  have h2 : ((c : Int) / 2) = ((c / 2 : Nat) : Int) := by omega
  rw [h2, sumSt]
  rcases Nat.mod_two_eq_zero_or_one c with e | e
  · rw [e, if_neg (by decide)]
    have h3 : bits .and .u32 2197175160 (-((0 : Nat) : Int) % 4294967296) = ((0 : Nat) : Int) := by decide +kernel
    rw [h3, u32_xor_nat _ _ (by omega) (by decide)]
  · rw [e, if_pos rfl]
    have h3 : bits .and .u32 2197175160 (-((1 : Nat) : Int) % 4294967296) = ((2197175160 : Nat) : Int) := by decide +kernel
    rw [h3, u32_xor_nat _ _ (by omega) (by decide)]
theorem inv_val (c : Nat) (h : c < 4294967296) : bits .xor .u32 IntKind.u32.max (c : Int) = ((4294967295 ^^^ c : Nat) : Int) := by
  have e : IntKind.u32.max = ((4294967295 : Nat) : Int) := by decide
  rw [e, u32_xor_nat _ _ (by decide) h]
theorem half_val (c : Nat) (h : c < 4294967296) : bits .xor .u32 ((c : Int) / 16) (sumTb (c % 16) : Int) = (sumHalf c : Int) := by
  have e : (c : Int) / 16 = ((c / 16 : Nat) : Int) := by omega
  rw [e, u32_xor_nat _ _ (by omega) (sumTb_lt (by omega)), sumHalf]
theorem and15 (c : Nat) (h : c < 4294967296) : bits .and .u32 (c : Int) 15 = ((c % 16 : Nat) : Int) := by
  have := u32_and_nat c 15 h (by decide)
  rw [show c &&& 15 = c % 16 from Nat.and_two_pow_sub_one_eq_mod c 4] at this
  exact this
theorem foldl_lt (l : List UInt8) (c : Nat) (h : c < 4294967296) : l.foldl sumByte c < 4294967296 := by
  induction l generalizing c with
  | nil => exact h
  | cons b l ih => exact ih _ (sumByte_lt b h)
def tabVals (k : Nat) : List Value := (List.range k).map fun i => Value.int .u32 (sumTb i : Int)
theorem tabVals_get (k : Nat) (h : k < 16) : (⟨tabVals 16⟩ : Array Value)[k]? = some (.int .u32 (sumTb k : Int)) := by
  rw [← Array.getElem?_toList]
  show (tabVals 16)[k]? = _
  rw [tabVals, List.getElem?_map, List.getElem?_range h]
  rfl
theorem tab_set (k : Nat) (h : k < 16) : (⟨tabVals k ++ List.replicate (16 - k) (Value.int .u32 0)⟩ : Array Value).setIfInBounds k (.int .u32 (sumTb k : Int)) = ⟨tabVals (k + 1) ++ List.replicate (16 - (k + 1)) (Value.int .u32 0)⟩ := by
  apply Array.ext'
  rw [Array.toList_setIfInBounds]
  show (tabVals k ++ List.replicate (16 - k) (Value.int .u32 0)).set k _ = tabVals (k + 1) ++ List.replicate (16 - (k + 1)) (Value.int .u32 0)
  have hl : (tabVals k).length = k := by simp [tabVals]
  rw [List.set_append_right _ _ (by omega), hl, Nat.sub_self, show 16 - k = (16 - (k + 1)) + 1 from by omega, List.replicate_succ, List.set_cons_zero, show tabVals (k + 1) = tabVals k ++ [Value.int .u32 (sumTb k : Int)] from by simp [tabVals, List.range_succ]]
  simp
set_option maxHeartbeats 1000000 in
theorem on_ok (s : Nat) (l : ByteArray) (w : World) (hs : s < 4294967296) (hl : l.size ≤ 140737488355328) :
    Calls Tryz.prog 158 #[.int .u32 (s : Int), .string l] w fun e w' => e = .returned (.int .u32 (sumOn s l.data.toList : Int)) ∧ Kept No w w' := by
  go_enter Tryz.func158, Tryz.ntmps158
  go_wp2_with fail
  have H0 := Lib.hid (heap_alloc_new w (.cells #[.int .u32 0, .int .u32 0, .int .u32 0, .int .u32 0, .int .u32 0, .int .u32 0, .int .u32 0, .int .u32 0, .int .u32 0, .int .u32 0, .int .u32 0, .int .u32 0, .int .u32 0, .int .u32 0, .int .u32 0, .int .u32 0] 236))
  go_loopw [10] (fun i wr => ∃ k : Nat, k ≤ 16 ∧ i = .int .i64 (k : Int) ∧ Kept No w wr ∧ wr.heap[w.heap.size]? = some (.cells ⟨tabVals k ++ List.replicate (16 - k) (.int .u32 0)⟩ 236 (0, 0))) (fun i _ => 16 - (intOf i).toNat)
  case atStart => exact ⟨0, by omega, rfl, (Kept.refl _ _).alloc _, H0.out⟩
  case round =>
    obtain ⟨k, hk, rfl, hK, hT⟩ := hrel
    have HK := Lib.hid hK
    have HT := Lib.hid hT
    clear hK hT H0
    by_cases hk16 : k < 16
    · go_wp2_with fail
      go_loopw [7, 15] (fun c j wr2 => ∃ q : Nat, q ≤ 4 ∧ j = .int .i64 (q : Int) ∧ c = .int .u32 (sumIt q k : Int) ∧ wr = wr2) (fun _ j _ => 4 - (intOf j).toNat)
      case atStart => exact ⟨0, by omega, rfl, rfl, rfl⟩
      case round =>
        obtain ⟨q, hq, rfl, rfl, rfl⟩ := hrel
        have hlt := sumIt_lt q (show k < 4294967296 by omega)
        have hst := st_val _ hlt
        by_cases hq4 : q < 4
        · have hs1 : sumIt (q + 1) k = sumSt (sumIt q k) := rfl
          generalize sumIt q k = c at hst hlt hs1 ⊢
          have HS1 := Lib.hid hs1
          clear hs1
          go_wp2
          exact ⟨⟨q + 1, by omega, rfl, by rw [HS1.out], trivial⟩, by simp [intOf]; omega⟩
        · obtain rfl : q = 4 := by omega
          have hs1 : sumIt 4 k = sumTb k := rfl
          rw [hs1]
          clear hst hlt hs1
          have hcell := cell_of_row wr w.heap.size k _ _ _ HT.out
          have hce : (⟨tabVals k ++ List.replicate (16 - k) (Value.int .u32 0)⟩ : Array Value)[k]? = some (.int .u32 0) := by
            rw [← Array.getElem?_toList]
            show (tabVals k ++ List.replicate (16 - k) (Value.int .u32 0))[k]? = _
            have hl : (tabVals k).length = k := by simp [tabVals]
            rw [List.getElem?_append_right (by omega), hl, Nat.sub_self, List.getElem?_replicate]
            simp; omega
          rw [hce] at hcell
          have hfr := frozen_of_row wr w.heap.size k _ _ HT.out
          clear hce
          go_wp2
          refine ⟨⟨k + 1, by omega, rfl, HK.out.setCell _ _ (fun h => by simp at h), ?_⟩, by simp [intOf]; omega⟩
          have hb := heap_setCell_same wr w.heap.size k _ _ (.int .u32 (sumTb k : Int)) HT.out
          rw [tab_set k hk16] at hb
          exact hb
    · obtain rfl : k = 16 := by omega
      have HT2 : Hid (wr.heap[w.heap.size]? = some (.cells ⟨tabVals 16⟩ 236 (0, 0))) := Lib.hid (by have := HT.out; simpa using this)
      clear HT
      go_wp2_with fail
      have hs' : 4294967295 ^^^ s < 4294967296 := xor32 (by decide) hs
      have hi0 := inv_val s hs
      go_loopw [8, 33] (fun c j wr2 => ∃ q : Nat, q ≤ l.size ∧ j = .int .i64 (q : Int) ∧ c = .int .u32 (((l.data.toList.take q).foldl sumByte (4294967295 ^^^ s) : Nat) : Int) ∧ wr = wr2) (fun _ j _ => l.size - (intOf j).toNat)
      case atStart => exact ⟨0, by omega, rfl, by rw [hi0]; rfl, rfl⟩
      case round =>
        obtain ⟨q, hq, rfl, rfl, rfl⟩ := hrel
        clear hi0
        have hc0 := foldl_lt (l.data.toList.take q) _ hs'
        by_cases hql : q < l.size
        · have hsn : (l.data.toList.take (q + 1)).foldl sumByte (4294967295 ^^^ s) = sumByte ((l.data.toList.take q).foldl sumByte (4294967295 ^^^ s)) l[q] := by
            rw [List.take_succ_eq_append_getElem (by simpa using hql), List.foldl_append]
            rfl
          generalize (l.data.toList.take q).foldl sumByte (4294967295 ^^^ s) = c0 at hc0 hsn ⊢
          have hb : l[q].toNat < 256 := l[q].toNat_lt
          have hx1 := u32_xor_nat c0 l[q].toNat hc0 (by omega)
          have hc1 : c0 ^^^ l[q].toNat < 4294967296 := xor32 hc0 (by omega)
          rw [sumByte] at hsn
          generalize c0 ^^^ l[q].toNat = c1 at hx1 hc1 hsn
          have ha1 := and15 c1 hc1
          have hy1 := half_val c1 hc1
          have hc2 := sumHalf_lt hc1
          have hd1 := (cell_of_row wr w.heap.size (c1 % 16) _ _ _ HT2.out).trans (tabVals_get (c1 % 16) (by omega))
          generalize sumHalf c1 = c2 at hy1 hc2 hsn
          have ha2 := and15 c2 hc2
          have hy2 := half_val c2 hc2
          have hd2 := (cell_of_row wr w.heap.size (c2 % 16) _ _ _ HT2.out).trans (tabVals_get (c2 % 16) (by omega))
          have HS := Lib.hid hsn
          clear hsn
          go_wp2
          exact ⟨⟨q + 1, by omega, rfl, by rw [HS.out], trivial⟩, by simp [intOf]; omega⟩
        · obtain rfl : q = l.size := by omega
          rw [List.take_of_length_le (by simp)]
          have hi1 := inv_val _ (foldl_lt l.data.toList _ hs')
          have e : sumOn s l.data.toList = 4294967295 ^^^ l.data.toList.foldl sumByte (4294967295 ^^^ s) := rfl
          have HE := Lib.hid e
          clear e hc0
          generalize l.data.toList.foldl sumByte (4294967295 ^^^ s) = c0 at hi1 HE ⊢
          go_wp2
          go_ret
          exact ⟨by rw [HE.out]; rfl, HK.out⟩
theorem sum_ok (l : ByteArray) (w : World) (hl : l.size ≤ 140737488355328) :
    Calls Tryz.prog 127 #[.string l] w fun e w' => e = .returned (.int .u32 (sumOn 0 l.data.toList : Int)) ∧ Kept No w w' := by
  go_enter Tryz.func127, Tryz.ntmps127
  go_wp2_with fail
  refine (on_ok 0 l _ (by decide) hl).mono ?_
  rintro e w' ⟨rfl, hk⟩
  have HK := Lib.hid hk
  clear hk
  go_wp2_with fail
  go_ret
  exact ⟨rfl, HK.out⟩
theorem sumOn_lt (l : List UInt8) : sumOn 0 l < 4294967296 := xor32 (by decide) (foldl_lt l _ (by decide))
end Go.Proofs.YtabhieafjkaocaaGreat
