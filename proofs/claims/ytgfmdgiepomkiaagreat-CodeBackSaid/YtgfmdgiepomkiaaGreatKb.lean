/- Plain: numbers as bytes. Imports nothing of the dump. -/
import Derived.WalkKit
import Derived.Test.YtgfmdgiepomkiaaGreatGa
namespace Go.Proofs.YtgfmdgiepomkiaaGreat
open Go.RowKit

/-- A number's bytes. -/
def enc (n : Nat) : List Int := if _h : n < 128 then [(n : Int)] else ((n % 128 + 128 : Nat) : Int) :: enc (n / 128)
termination_by n
decreasing_by omega

theorem enc_small {n : Nat} (h : n < 128) : enc n = [(n : Int)] := by rw [enc]; simp [h]
theorem enc_big {n : Nat} (h : ¬ n < 128) : enc n = ((n % 128 + 128 : Nat) : Int) :: enc (n / 128) := by rw [enc]; simp [h]

theorem enc_length_le (k : Nat) : ∀ n, n < 128 ^ (k + 1) → (enc n).length ≤ k + 1 := by
 induction k with
 | zero => intro n h; rw [enc_small (by simpa using h)]; simp
 | succ k ih =>
  intro n h
  by_cases hn : n < 128
  ·
   rw [enc_small hn]; simp
  ·
   rw [enc_big hn]
   have : n / 128 < 128 ^ (k + 1) := by
    rw [Nat.div_lt_iff_lt_mul (by decide)]
    rwa [← Nat.pow_succ]
   have := ih _ this
   simp; omega

theorem enc_length (n : Nat) (h : n < 9223372036854775808) : (enc n).length ≤ 9 := enc_length_le 8 n (by simpa using h)
theorem enc_pos (n : Nat) : 0 < (enc n).length := by
 by_cases hn : n < 128
 ·
  rw [enc_small hn]; simp
 ·
  rw [enc_big hn]; simp
theorem enc_byte (n : Nat) : ∀ x ∈ enc n, 0 ≤ x ∧ x ≤ 255 := by
 induction n using Nat.strongRecOn with
 | _ n ih =>
  by_cases hn : n < 128
  ·
   rw [enc_small hn]; intro x hx; simp at hx; omega
  ·
   rw [enc_big hn]
   intro x hx
   rcases List.mem_cons.1 hx with h | h
   ·
    omega
   ·
    exact ih (n / 128) (by omega) x h

/-- The bytes of several numbers. -/
def encs (l : List Int) : List Int := l.flatMap fun x => enc x.toNat

theorem encs_length_le (l : List Int) (h : ∀ x ∈ l, x ≤ 9223372036854775807) : (encs l).length ≤ 9 * l.length := by
 induction l with
 | nil => simp [encs]
 | cons x l ih =>
  have h1 := enc_length x.toNat (by have := h x (by simp); omega)
  have h2 := ih (fun y hy => h y (by simp [hy]))
  simp only [encs, List.flatMap_cons, List.length_append, List.length_cons] at h2 ⊢
  omega

theorem encs_take_succ (l : List Int) (k : Nat) (h : k < l.length) : encs (l.take (k + 1)) = encs (l.take k) ++ enc (l.getD k 0).toNat := by
 rw [List.take_succ_eq_append_getElem h]
 simp only [encs, List.flatMap_append, List.flatMap_cons, List.flatMap_nil, List.append_nil, List.getD_eq_getElem?_getD, List.getElem?_eq_getElem h, Option.getD_some]

theorem encs_take_all (l : List Int) (k : Nat) (h : l.length ≤ k) : encs (l.take k) = encs l := by rw [List.take_of_length_le h]

def zig (n : Int) : Nat := if n < 0 then (-2 * n - 1).toNat else (2 * n).toNat

theorem i64_xor_m1 (x : Int) (h1 : -9223372036854775808 ≤ x) (h2 : x ≤ 9223372036854775807) : bits .xor .i64 x (-1) = -x - 1 := by
 have key : (BitVec.ofInt 64 x ^^^ BitVec.ofInt 64 (-1)) = BitVec.ofInt 64 (-x - 1) := by
  have e1 : BitVec.ofInt 64 (-1) = BitVec.allOnes 64 := by decide
  rw [e1, BitVec.xor_allOnes]
  apply BitVec.eq_of_toNat_eq
  rw [BitVec.toNat_not, BitVec.toNat_ofInt, BitVec.toNat_ofInt]
  omega
 show IntKind.i64.wrap ((BitVec.ofInt 64 x ^^^ BitVec.ofInt 64 (-1)).toNat : Nat) = _
 rw [key, IntKind.wrap_i64, BitVec.toNat_ofInt]
 omega

theorem i64_xor_0 (x : Int) (h1 : -9223372036854775808 ≤ x) (h2 : x ≤ 9223372036854775807) : bits .xor .i64 x 0 = x := by
 have key : (BitVec.ofInt 64 x ^^^ BitVec.ofInt 64 0) = BitVec.ofInt 64 x := by
  have e1 : BitVec.ofInt 64 0 = 0#64 := by decide
  rw [e1, BitVec.xor_zero]
 show IntKind.i64.wrap ((BitVec.ofInt 64 x ^^^ BitVec.ofInt 64 0).toNat : Nat) = _
 rw [key, IntKind.wrap_i64, BitVec.toNat_ofInt]
 omega

theorem wraps_i64 (n : Int) (h₀ : 0 ≤ n) (h₁ : n < 2 ^ 63) : IntKind.i64.wrap n = n := by rw [IntKind.wrap_i64]; omega

theorem bits_or_comm (k : IntKind) (x y : Int) : bits .or k x y = bits .or k y x := by
 simp only [bits, BitVec.or_comm]

theorem i64_or128 (y : Int) (h1 : 0 ≤ y) (h2 : y < 128) : bits .or .i64 y 128 = y + 128 := by
 rw [bits_or_comm, bits_join .i64 63 (by decide) wraps_i64 7 128 y (by decide) (by decide) (by decide) h1 (by omega) (by omega)]
 omega

theorem i64_or_join (i : Nat) (x y : Int) (hx0 : 0 ≤ x) (hx : x < 2 ^ i) (hx1 : x < 2 ^ 63) (hy0 : 0 ≤ y) (hy : y % 2 ^ i = 0) (hy1 : y < 2 ^ 63) : bits .or .i64 x y = x + y := by
 rw [bits_or_comm, bits_join .i64 63 (by decide) wraps_i64 i y x hy0 hy hy1 hx0 hx hx1]
 omega

theorem u8_and127 (x : Int) (h1 : 0 ≤ x) (h2 : x ≤ 255) : bits .and .u8 x 127 = x % 128 :=
 bits_mask .u8 8 (by decide) wraps_u8 7 (by decide) x h1 (by omega)

/-- Reading a number: fuel, place, what has been read. -/
def rdAt (xs : List Int) : Nat → Nat → Int → Int × Int × Int
 | 0, _, _ => (0, 0, 200)
 | f + 1, i, acc => if i < xs.length then
   (if xs.getD i 0 < 128 then
    (if xs.getD i 0 = 0 ∧ 0 < i then (0, 0, 200) else (acc + xs.getD i 0 % 128 * 128 ^ i, (i : Int) + 1, 0))
   else rdAt xs f (i + 1) (acc + xs.getD i 0 % 128 * 128 ^ i))
  else (0, 0, 200)
def rdN (xs : List Int) : Int × Int × Int := rdAt xs 9 0 0

theorem rdAt_out (xs : List Int) (f i : Nat) (acc : Int) (h : xs.length ≤ i) : rdAt xs f i acc = (0, 0, 200) := by
 cases f with
 | zero => rfl
 | succ f => rw [rdAt, if_neg (by omega)]

theorem rdAt_step (xs : List Int) (k : Nat) (s y x : Int) (hk : k < 9) (hl : k < xs.length) (hx : x = xs.getD k 0) (hy : y = x % 128 * 128 ^ k) :
  rdAt xs (9 - k) k s = if x < 128 then (if x = 0 ∧ 0 < k then (0, 0, 200) else (s + y, (k : Int) + 1, 0)) else rdAt xs (9 - (k + 1)) (k + 1) (s + y) := by
 obtain ⟨f, hf⟩ : ∃ f, 9 - k = f + 1 := ⟨8 - k, by omega⟩
 rw [hf, rdAt, if_pos hl, show 9 - (k + 1) = f by omega, ← hx, ← hy]

theorem rd_bits (k : Nat) (s x : Int) (hk : k < 9) (hs0 : 0 ≤ s) (hs1 : s < 128 ^ k) : ∃ y, y = x % 128 * 128 ^ k ∧ wrap64 (x % 128 * 2 ^ (7 * k)) = y ∧ bits .or .i64 s y = s + y ∧ 0 ≤ y ∧ s + y < 128 ^ (k + 1) ∧ s + y ≤ 9223372036854775807 := by
 have hc : k = 0 ∨ k = 1 ∨ k = 2 ∨ k = 3 ∨ k = 4 ∨ k = 5 ∨ k = 6 ∨ k = 7 ∨ k = 8 := by omega
 have h1 : 0 ≤ x % 128 := by omega
 have h2 : x % 128 < 128 := by omega
 generalize x % 128 = z at h1 h2
 refine ⟨_, rfl, ?_⟩
 have hin : ∀ z : Int, 0 ≤ z → z ≤ 9223372036854775807 → wrap64 z = z := fun z h1 h2 => IntWalk.wrap64_in z ⟨by omega, by omega⟩
 rcases hc with rfl | rfl | rfl | rfl | rfl | rfl | rfl | rfl | rfl
 ·
  exact ⟨by rw [hin _ (by omega) (by omega)]; omega, i64_or_join 0 _ _ (by omega) (by omega) (by omega) (by omega) (by omega) (by omega), by omega, by omega, by omega⟩
 ·
  exact ⟨by rw [hin _ (by omega) (by omega)]; omega, i64_or_join 7 _ _ (by omega) (by omega) (by omega) (by omega) (by omega) (by omega), by omega, by omega, by omega⟩
 ·
  exact ⟨by rw [hin _ (by omega) (by omega)]; omega, i64_or_join 14 _ _ (by omega) (by omega) (by omega) (by omega) (by omega) (by omega), by omega, by omega, by omega⟩
 ·
  exact ⟨by rw [hin _ (by omega) (by omega)]; omega, i64_or_join 21 _ _ (by omega) (by omega) (by omega) (by omega) (by omega) (by omega), by omega, by omega, by omega⟩
 ·
  exact ⟨by rw [hin _ (by omega) (by omega)]; omega, i64_or_join 28 _ _ (by omega) (by omega) (by omega) (by omega) (by omega) (by omega), by omega, by omega, by omega⟩
 ·
  exact ⟨by rw [hin _ (by omega) (by omega)]; omega, i64_or_join 35 _ _ (by omega) (by omega) (by omega) (by omega) (by omega) (by omega), by omega, by omega, by omega⟩
 ·
  exact ⟨by rw [hin _ (by omega) (by omega)]; omega, i64_or_join 42 _ _ (by omega) (by omega) (by omega) (by omega) (by omega) (by omega), by omega, by omega, by omega⟩
 ·
  exact ⟨by rw [hin _ (by omega) (by omega)]; omega, i64_or_join 49 _ _ (by omega) (by omega) (by omega) (by omega) (by omega) (by omega), by omega, by omega, by omega⟩
 ·
  exact ⟨by rw [hin _ (by omega) (by omega)]; omega, i64_or_join 56 _ _ (by omega) (by omega) (by omega) (by omega) (by omega) (by omega), by omega, by omega, by omega⟩

/-- The bytes of Number, and its error. -/
def numL (n : Int) : List Int := if n < 0 then [] else enc n.toNat
def numE (n : Int) : Int := if n < 0 then 2 else 0
def sgnL (n : Int) : List Int := if n < -1099511627776 ∨ 1099511627776 < n then [] else enc (zig n)
def sgnE (n : Int) : Int := if n < -1099511627776 ∨ 1099511627776 < n then 2 else 0

theorem enc_300 : enc 300 = [172, 2] := by rw [enc_big (by decide), enc_small (by decide)]; rfl
theorem numL_300 : numL 300 = [172, 2] := enc_300
theorem numE_300 : numE 300 = 0 := rfl
theorem sgnL_m1 : sgnL (-1) = [1] := by
 show enc 1 = [1]
 exact enc_small (by decide)
theorem sgnE_m1 : sgnE (-1) = 0 := rfl
theorem rdN_a : rdN [172, 2, 9] = (300, 2, 0) := by decide
theorem rdN_b : rdN [128, 0] = (0, 0, 200) := by decide

end Go.Proofs.YtgfmdgiepomkiaaGreat

namespace Go.Proofs.YtgfmdgiepomkiaaGreat
open Go.RowKit

theorem take_eq_succ {xs ys : List Int} {k : Nat} (h1 : k < xs.length) (h2 : k < ys.length) (h : xs.take k = ys.take k) (he : xs.getD k 0 = ys.getD k 0) : xs.take (k + 1) = ys.take (k + 1) := by
 rw [List.take_succ_eq_append_getElem h1, List.take_succ_eq_append_getElem h2, h]
 simp [List.getD_eq_getElem?_getD, List.getElem?_eq_getElem h1, List.getElem?_eq_getElem h2] at he
 rw [he]

theorem ne_of_getD {xs ys : List Int} {k : Nat} (he : xs.getD k 0 ≠ ys.getD k 0) : xs ≠ ys := by
 rintro rfl; exact he rfl

set_option maxHeartbeats 400000 in
theorem bytes_any (a b : Option Addr) (n c m d : Nat) (xs ys : List Int) (w : World) (hx : SlI .u8 w a n c xs) (hy : SlI .u8 w b m d ys) :
  Calls Tryz.prog 14 #[.slice a n c, .slice b m d] w fun e w' => e = .returned (.bool (decide (xs = ys))) ∧ ∃ k, w' = w.drewN k := by
 obtain ⟨hxl, hxc, hxm, hxe⟩ := hx
 obtain ⟨hyl, hyc, hym, hye⟩ := hy
 by_cases hnm : n = m
 ·
  subst hnm
  by_cases h0 : n = 0
  ·
   subst h0
   have e : xs = ys := by rw [List.length_eq_zero_iff.1 hxl, List.length_eq_zero_iff.1 hyl]
   subst e
   clear hxl hyl
   go_enter Tryz.func14, Tryz.ntmps14
   go_wp2
   go_loop [5] (fun i => i = .int .i64 0) (fun _ => 0)
   case atStart => rfl
   case round =>
    subst hrel
    go_wp2
    go_ret
    exact ⟨ret_bool (by simp), 0, rfl⟩
  have hx1 := hxe.resolve_left h0
  have hy1 := hye.resolve_left h0
  clear hxe hye
  obtain ⟨ba, oa, rfl, hca⟩ := hx1
  obtain ⟨bb, ob, rfl, hcb⟩ := hy1
  have Hx := Lib.hid hxl; clear hxl
  have Hy := Lib.hid hyl; clear hyl
  have Hca := Lib.hid hca; clear hca
  have Hcb := Lib.hid hcb; clear hcb
  go_enter Tryz.func14, Tryz.ntmps14
  go_wp2
  go_loopw [4, 5] (fun r i wr => ∃ k : Nat, k ≤ n ∧ r = .bool false ∧ i = .int .i64 k ∧ Hid (xs.take k = ys.take k) ∧ Hid (∃ q, wr = w.drewN q)) (fun _ i _ => n - (intOf i).toNat)
  case atStart => exact ⟨0, Nat.zero_le _, rfl, rfl, by simp [Hid], 0, rfl⟩
  case round wr =>
   obtain ⟨k, hk, rfl, rfl, He, Hw⟩ := hrel
   by_cases hlt : k < n
   ·
    have h1 : wr.cell? ⟨ba, oa + k, none⟩ = some (.int .u8 (xs.getD k 0)) := by obtain ⟨q, rfl⟩ := Hw; exact Hca.out k hlt
    have h2 : wr.cell? ⟨bb, ob + k, none⟩ = some (.int .u8 (ys.getD k 0)) := by obtain ⟨q, rfl⟩ := Hw; exact Hcb.out k hlt
    obtain ⟨x, hxk⟩ : ∃ x, x = xs.getD k 0 := ⟨_, rfl⟩
    obtain ⟨y, hyk⟩ : ∃ y, y = ys.getD k 0 := ⟨_, rfl⟩
    rw [← hxk] at h1
    rw [← hyk] at h2
    have Hxk := Lib.hid hxk; clear hxk
    have Hyk := Lib.hid hyk; clear hyk
    by_cases hxy : x = y
    ·
     have hb : (x != y) = false := by simp [hxy]
     have Hxy := Lib.hid hxy; clear hxy
     go_wp2
     go_quiet (fail)
     go_wp2
     go_roundw
     case rel =>
      refine ⟨k + 1, by omega, rfl, by go_num, ?_, ?_⟩
      ·
       exact take_eq_succ (by rw [Hx.out]; exact hlt) (by rw [Hy.out]; exact hlt) He (by rw [← Hxk.out, ← Hyk.out]; exact Hxy.out)
      ·
       obtain ⟨q, rfl⟩ := Hw
       exact ⟨_, World.drewN_drewN ..⟩
     case measure => simp [intOf]; omega
    ·
     have hb : (x != y) = true := by simp [hxy]
     have Hxy := Lib.hid hxy; clear hxy
     go_wp2
     go_quiet (fail)
     go_wp2
     go_ret
     refine ⟨ret_bool ?_, ?_⟩
     ·
      rw [eq_comm, decide_eq_false_iff_not]
      exact ne_of_getD (k := k) (by rw [← Hxk.out, ← Hyk.out]; exact Hxy.out)
     ·
      obtain ⟨q, rfl⟩ := Hw
      exact ⟨_, World.drewN_drewN ..⟩
   ·
    go_wp2
    go_ret
    refine ⟨ret_bool ?_, Hw⟩
    rw [eq_comm, decide_eq_true_iff]
    have := He.out
    rwa [List.take_of_length_le (by rw [Hx.out]; omega), List.take_of_length_le (by rw [Hy.out]; omega)] at this
 ·
  have hne : xs ≠ ys := by rintro rfl; exact hnm (hxl.symm.trans hyl)
  have hq : ((n : Int) != (m : Int)) = true := by simp; omega
  clear hxe hye hxl hyl hnm
  go_enter Tryz.func14, Tryz.ntmps14
  go_wp2
  go_ret
  exact ⟨ret_bool (by simp [hne]), 0, rfl⟩

theorem info_u8 : (Tryz.prog.info? 5).map (fun i => (i.zero, i.size, i.bytes)) = some (some (.int .u8 0), 1, 1) := by kernel_rfl

set_option maxHeartbeats 400000 in
theorem put_any (B : Nat) (v : Value) (n : Nat) (xs : List Int) (a : Option Addr) (m c : Nat) (ns : List Int) (w : World) (hown : OwnI .u8 5 B w v n xs) (hB : B ≤ w.heap.size)
  (hl : SlI .i64 w a m c ns) (hr : ∀ x ∈ ns, 0 ≤ x ∧ x ≤ 9223372036854775807) (hne : ∀ ad, a = some ad → v.ownBlock ≠ some ad.block) (hn : n + 9 * m ≤ 1099511627776) :
  Calls Tryz.prog 19 #[v, .slice a m c] w fun e w' => ∃ v', e = .returned v' ∧ OwnI .u8 5 B w' v' (n + (encs ns).length) (xs ++ encs ns) ∧ Appd w w' v v' := by
 have Hr := Lib.hid hr; clear hr
 have Hl := Lib.hid hl; clear hl
 have Hm : Hid (ns.length = m) := Hl.out.len
 have hmm : m ≤ 9223372036854775807 := Nat.le_trans Hl.out.le Hl.out.max
 go_enter Tryz.func19, Tryz.ntmps19
 go_wp2
 go_loopw [0, 9] (fun b i wr => ∃ k : Nat, i = .int .i64 k ∧ k ≤ m ∧ OwnI .u8 5 B wr b (n + (encs (ns.take k)).length) (xs ++ encs (ns.take k)) ∧ Appd w wr v b) (fun _ i _ => m - (intOf i).toNat)
 case atStart => exact ⟨0, rfl, Nat.zero_le _, by simpa [encs] using hown, Appd.refl _ _⟩
 case round =>
  obtain ⟨k, rfl, hk, hown', hap⟩ := hrel
  have hsz := hap.grown.size
  by_cases h : k < m
  ·
   obtain ⟨x, hx⟩ : ∃ x : Nat, (x : Int) = ns.getD k 0 := ⟨(ns.getD k 0).toNat, by
    have := Hr.out (ns.getD k 0) (by rw [List.getD_eq_getElem?_getD, List.getElem?_eq_getElem (by rw [Hm.out]; exact h)]; simp); omega⟩
   have hx63 : x < 9223372036854775808 := by
    have := Hr.out (ns.getD k 0) (by rw [List.getD_eq_getElem?_getD, List.getElem?_eq_getElem (by rw [Hm.out]; exact h)]; simp); omega
   obtain ⟨ba, oa, rfl, hcell⟩ : ∃ b off, a = some ⟨b, off, none⟩ ∧ wr.cell? ⟨b, off + k, none⟩ = some (.int .i64 (ns.getD k 0)) := by
    rcases (Hl.out.grown hap.grown hne).cell with h0 | ⟨b, off, ha, hc⟩
    ·
     omega
    ·
     exact ⟨b, off, ha, hc k h⟩
   rw [← hx] at hcell
   have Hx := Lib.hid hx; clear hx
   have hlen : (encs (ns.take k)).length ≤ 9 * k := by
    have := encs_length_le (ns.take k) (fun y hy => (Hr.out y (List.mem_of_mem_take hy)).2)
    have h2 : (ns.take k).length ≤ k := List.length_take_le _ _
    omega
   obtain ⟨ys0, hys0⟩ : ∃ ys0, ys0 = encs (ns.take k) := ⟨_, rfl⟩
   rw [← hys0] at hown' hlen
   have Hys0 := Lib.hid hys0; clear hys0
   go_wp2
   go_loopw [0, 6] (fun b i wr' => ∃ (j : Nat) (ys : List Int), i = .int .i64 j ∧ j ≤ x ∧ ys.length ≤ 9 ∧ OwnI .u8 5 B wr' b (n + (ys0.length + ys.length)) (xs ++ (ys0 ++ ys)) ∧ Appd w wr' v b ∧ Hid (ys ++ enc j = enc x)) (fun _ i _ => (intOf i).toNat)
   case atStart => exact ⟨x, [], rfl, Nat.le_refl _, by simp, by simpa using hown', hap, by simp [Hid]⟩
   case round =>
    clear hown' hap hcell
    obtain ⟨j, ys, rfl, hj, hys, hown', hap, He⟩ := hrel
    have hsz := hap.grown.size
    by_cases h' : j < 128
    ·
     have hd : ¬ (128 : Int) ≤ (j : Int) := by omega
     go_wp2_with (at_builtin; refine wpList_app1 _ rfl _ _ 33 rfl B 5 .u8 1 Tryz.underlying33 info_u8 _ _ _ _ _ hown' rfl rfl ?_ ?_ ?_ ?_)
     ·
      omega
     ·
      omega
     ·
      omega
     intro v' w' h1 h2
     have e1 : enc j = [(j : Int)] := enc_small h'
     have He' : Hid (ys ++ [(j : Int)] = enc x) := by rw [← e1]; exact He
     clear e1
     have Ht : Hid (encs (ns.take (k + 1)) = ys0 ++ (ys ++ [(j : Int)])) := by
      have := encs_take_succ ns k (by rw [Hm.out]; exact h)
      rw [← Hys0.out, ← Hx.out, Int.toNat_natCast, ← He'.out] at this
      exact this
     go_wp2
     go_roundw
     case rel => exact ⟨k + 1, by go_num, by omega, by rw [Ht.out]; simpa [Nat.add_assoc] using h1, hap.trans h2⟩
     case measure => simp [intOf]; omega
    ·
     have hd : (128 : Int) ≤ (j : Int) := by omega
     have hb1 : bits .and .i64 (j : Int) 127 = (j : Int) % 128 := i64_and127 _
     have hb : bits .or .i64 ((j : Int) % 128) 128 = (j : Int) % 128 + 128 := i64_or128 _ (by omega) (by omega)
     go_wp2_with (at_builtin; refine wpList_app1 _ rfl _ _ 33 rfl B 5 .u8 1 Tryz.underlying33 info_u8 _ _ _ _ _ hown' rfl rfl ?_ ?_ ?_ ?_)
     ·
      omega
     ·
      omega
     ·
      omega
     intro v' w' h1 h2
     have e1 : enc j = ((j % 128 + 128 : Nat) : Int) :: enc (j / 128) := enc_big h'
     have He' : Hid ((ys ++ [(j : Int) % 128 + 128]) ++ enc (j / 128) = enc x) := by
      rw [← He.out, e1]; simp [Hid]
     have hl : ys.length + 2 ≤ 9 := by
      have q1 := enc_length x hx63
      have q2 := enc_pos (j / 128)
      rw [← He'.out] at q1
      simp at q1
      omega
     clear e1 hb hb1
     go_wp2
     go_roundw
     case rel => exact ⟨j / 128, ys ++ [(j : Int) % 128 + 128], by go_num, by omega, by simp; omega, by simpa [Nat.add_assoc] using h1, hap.trans h2, He'⟩
     case measure => simp [intOf]; omega
  ·
   have hk' : k = m := by omega
   subst hk'
   have He : Hid (encs (ns.take k) = encs ns) := encs_take_all _ _ (by rw [Hm.out]; exact Nat.le_refl _)
   go_wp2
   go_ret
   refine ⟨_, rfl, ?_, hap⟩
   rw [← He.out]
   exact hown'

end Go.Proofs.YtgfmdgiepomkiaaGreat
