/- Plain: numbers as bytes. Imports nothing of the dump. -/
import Derived.WalkKit
namespace Go.Proofs.Ytilhmlapbifbbaa
open Go.RowKit

/-- A number's bytes. -/
def enc (n : Nat) : List Int := if _h : n < 128 then [(n : Int)] else ((n % 128 + 128 : Nat) : Int) :: enc (n / 128)
termination_by n
decreasing_by omega

theorem enc_small {n : Nat} (h : n < 128) : enc n = [(n : Int)] := by rw [enc]; simp [h]
theorem enc_big {n : Nat} (h : ¬ n < 128) : enc n = ((n % 128 + 128 : Nat) : Int) :: enc (n / 128) := by rw [enc]; simp [h]

theorem enc_length_le (k : Nat) : ∀ n, n < 128 ^ (k + 1) → (enc n).length ≤ k + 1 := by
  induction k with
  | zero => intro n h; rw [enc_small (by simpa using h)]; simp
  | succ k ih =>
    intro n h
    by_cases hn : n < 128
    · rw [enc_small hn]; simp
    · rw [enc_big hn]
      have : n / 128 < 128 ^ (k + 1) := by
        rw [Nat.div_lt_iff_lt_mul (by decide)]
        rwa [← Nat.pow_succ]
      have := ih _ this
      simp; omega

theorem enc_length (n : Nat) (h : n < 9223372036854775808) : (enc n).length ≤ 9 := enc_length_le 8 n (by simpa using h)
theorem enc_pos (n : Nat) : 0 < (enc n).length := by
  by_cases hn : n < 128
  · rw [enc_small hn]; simp
  · rw [enc_big hn]; simp
theorem enc_byte (n : Nat) : ∀ x ∈ enc n, 0 ≤ x ∧ x ≤ 255 := by
  induction n using Nat.strongRecOn with
  | _ n ih =>
    by_cases hn : n < 128
    · rw [enc_small hn]; intro x hx; simp at hx; omega
    · rw [enc_big hn]
      intro x hx
      rcases List.mem_cons.1 hx with h | h
      · omega
      · exact ih (n / 128) (by omega) x h

/-- The bytes of several numbers. -/
def encs (l : List Int) : List Int := l.flatMap fun x => enc x.toNat

theorem encs_length_le (l : List Int) (h : ∀ x ∈ l, x ≤ 9223372036854775807) : (encs l).length ≤ 9 * l.length := by
  induction l with
  | nil => simp [encs]
  | cons x l ih =>
    have h1 := enc_length x.toNat (by have := h x (by simp); omega)
    have h2 := ih (fun y hy => h y (by simp [hy]))
    simp only [encs, List.flatMap_cons, List.length_append, List.length_cons] at h2 ⊢
    omega

theorem encs_take_succ (l : List Int) (k : Nat) (h : k < l.length) : encs (l.take (k + 1)) = encs (l.take k) ++ enc (l.getD k 0).toNat := by
  rw [List.take_succ_eq_append_getElem h]
  simp only [encs, List.flatMap_append, List.flatMap_cons, List.flatMap_nil, List.append_nil, List.getD_eq_getElem?_getD, List.getElem?_eq_getElem h, Option.getD_some]

theorem encs_take_all (l : List Int) (k : Nat) (h : l.length ≤ k) : encs (l.take k) = encs l := by rw [List.take_of_length_le h]

def zig (n : Int) : Nat := if n < 0 then (-2 * n - 1).toNat else (2 * n).toNat

theorem i64_xor_m1 (x : Int) (h1 : -9223372036854775808 ≤ x) (h2 : x ≤ 9223372036854775807) : bits .xor .i64 x (-1) = -x - 1 := by
  have key : (BitVec.ofInt 64 x ^^^ BitVec.ofInt 64 (-1)) = BitVec.ofInt 64 (-x - 1) := by
    have e1 : BitVec.ofInt 64 (-1) = BitVec.allOnes 64 := by decide
    rw [e1, BitVec.xor_allOnes]
    apply BitVec.eq_of_toNat_eq
    rw [BitVec.toNat_not, BitVec.toNat_ofInt, BitVec.toNat_ofInt]
    omega
  show IntKind.i64.wrap ((BitVec.ofInt 64 x ^^^ BitVec.ofInt 64 (-1)).toNat : Nat) = _
  rw [key, IntKind.wrap_i64, BitVec.toNat_ofInt]
  omega

theorem i64_xor_0 (x : Int) (h1 : -9223372036854775808 ≤ x) (h2 : x ≤ 9223372036854775807) : bits .xor .i64 x 0 = x := by
  have key : (BitVec.ofInt 64 x ^^^ BitVec.ofInt 64 0) = BitVec.ofInt 64 x := by
    have e1 : BitVec.ofInt 64 0 = 0#64 := by decide
    rw [e1, BitVec.xor_zero]
  show IntKind.i64.wrap ((BitVec.ofInt 64 x ^^^ BitVec.ofInt 64 0).toNat : Nat) = _
  rw [key, IntKind.wrap_i64, BitVec.toNat_ofInt]
  omega

theorem wraps_i64 (n : Int) (h₀ : 0 ≤ n) (h₁ : n < 2 ^ 63) : IntKind.i64.wrap n = n := by rw [IntKind.wrap_i64]; omega

theorem bits_or_comm (k : IntKind) (x y : Int) : bits .or k x y = bits .or k y x := by
  simp only [bits, BitVec.or_comm]

theorem i64_or128 (y : Int) (h1 : 0 ≤ y) (h2 : y < 128) : bits .or .i64 y 128 = y + 128 := by
  rw [bits_or_comm, bits_join .i64 63 (by decide) wraps_i64 7 128 y (by decide) (by decide) (by decide) h1 (by omega) (by omega)]
  omega

theorem i64_or_join (i : Nat) (x y : Int) (hx0 : 0 ≤ x) (hx : x < 2 ^ i) (hx1 : x < 2 ^ 63) (hy0 : 0 ≤ y) (hy : y % 2 ^ i = 0) (hy1 : y < 2 ^ 63) : bits .or .i64 x y = x + y := by
  rw [bits_or_comm, bits_join .i64 63 (by decide) wraps_i64 i y x hy0 hy hy1 hx0 hx hx1]
  omega

theorem u8_and127 (x : Int) (h1 : 0 ≤ x) (h2 : x ≤ 255) : bits .and .u8 x 127 = x % 128 :=
  bits_mask .u8 8 (by decide) wraps_u8 7 (by decide) x h1 (by omega)

/-- Reading a number: fuel, place, what has been read. -/
def rdAt (xs : List Int) : Nat → Nat → Int → Int × Int × Int
  | 0, _, _ => (0, 0, 200)
  | f + 1, i, acc => if i < xs.length then
      (if xs.getD i 0 < 128 then
        (if xs.getD i 0 = 0 ∧ 0 < i then (0, 0, 200) else (acc + xs.getD i 0 % 128 * 128 ^ i, (i : Int) + 1, 0))
       else rdAt xs f (i + 1) (acc + xs.getD i 0 % 128 * 128 ^ i))
    else (0, 0, 200)
def rdN (xs : List Int) : Int × Int × Int := rdAt xs 9 0 0

theorem rdAt_out (xs : List Int) (f i : Nat) (acc : Int) (h : xs.length ≤ i) : rdAt xs f i acc = (0, 0, 200) := by
  cases f with
  | zero => rfl
  | succ f => rw [rdAt, if_neg (by omega)]

theorem rdAt_step (xs : List Int) (k : Nat) (s y x : Int) (hk : k < 9) (hl : k < xs.length) (hx : x = xs.getD k 0) (hy : y = x % 128 * 128 ^ k) :
    rdAt xs (9 - k) k s = if x < 128 then (if x = 0 ∧ 0 < k then (0, 0, 200) else (s + y, (k : Int) + 1, 0)) else rdAt xs (9 - (k + 1)) (k + 1) (s + y) := by
  obtain ⟨f, hf⟩ : ∃ f, 9 - k = f + 1 := ⟨8 - k, by omega⟩
  rw [hf, rdAt, if_pos hl, show 9 - (k + 1) = f by omega, ← hx, ← hy]

theorem rd_bits (k : Nat) (s x : Int) (hk : k < 9) (hs0 : 0 ≤ s) (hs1 : s < 128 ^ k) : ∃ y, y = x % 128 * 128 ^ k ∧ wrap64 (x % 128 * 2 ^ (7 * k)) = y ∧ bits .or .i64 s y = s + y ∧ 0 ≤ y ∧ s + y < 128 ^ (k + 1) ∧ s + y ≤ 9223372036854775807 := by
  have hc : k = 0 ∨ k = 1 ∨ k = 2 ∨ k = 3 ∨ k = 4 ∨ k = 5 ∨ k = 6 ∨ k = 7 ∨ k = 8 := by omega
  have h1 : 0 ≤ x % 128 := by omega
  have h2 : x % 128 < 128 := by omega
  generalize x % 128 = z at h1 h2
  refine ⟨_, rfl, ?_⟩
  have hin : ∀ z : Int, 0 ≤ z → z ≤ 9223372036854775807 → wrap64 z = z := fun z h1 h2 => IntWalk.wrap64_in z ⟨by omega, by omega⟩
  rcases hc with rfl | rfl | rfl | rfl | rfl | rfl | rfl | rfl | rfl
  · exact ⟨by rw [hin _ (by omega) (by omega)]; omega, i64_or_join 0 _ _ (by omega) (by omega) (by omega) (by omega) (by omega) (by omega), by omega, by omega, by omega⟩
  · exact ⟨by rw [hin _ (by omega) (by omega)]; omega, i64_or_join 7 _ _ (by omega) (by omega) (by omega) (by omega) (by omega) (by omega), by omega, by omega, by omega⟩
  · exact ⟨by rw [hin _ (by omega) (by omega)]; omega, i64_or_join 14 _ _ (by omega) (by omega) (by omega) (by omega) (by omega) (by omega), by omega, by omega, by omega⟩
  · exact ⟨by rw [hin _ (by omega) (by omega)]; omega, i64_or_join 21 _ _ (by omega) (by omega) (by omega) (by omega) (by omega) (by omega), by omega, by omega, by omega⟩
  · exact ⟨by rw [hin _ (by omega) (by omega)]; omega, i64_or_join 28 _ _ (by omega) (by omega) (by omega) (by omega) (by omega) (by omega), by omega, by omega, by omega⟩
  · exact ⟨by rw [hin _ (by omega) (by omega)]; omega, i64_or_join 35 _ _ (by omega) (by omega) (by omega) (by omega) (by omega) (by omega), by omega, by omega, by omega⟩
  · exact ⟨by rw [hin _ (by omega) (by omega)]; omega, i64_or_join 42 _ _ (by omega) (by omega) (by omega) (by omega) (by omega) (by omega), by omega, by omega, by omega⟩
  · exact ⟨by rw [hin _ (by omega) (by omega)]; omega, i64_or_join 49 _ _ (by omega) (by omega) (by omega) (by omega) (by omega) (by omega), by omega, by omega, by omega⟩
  · exact ⟨by rw [hin _ (by omega) (by omega)]; omega, i64_or_join 56 _ _ (by omega) (by omega) (by omega) (by omega) (by omega) (by omega), by omega, by omega, by omega⟩

/-- The bytes of Number, and its error. -/
def numL (n : Int) : List Int := if n < 0 then [] else enc n.toNat
def numE (n : Int) : Int := if n < 0 then 2 else 0
def sgnL (n : Int) : List Int := if n < -1099511627776 ∨ 1099511627776 < n then [] else enc (zig n)
def sgnE (n : Int) : Int := if n < -1099511627776 ∨ 1099511627776 < n then 2 else 0

theorem enc_300 : enc 300 = [172, 2] := by rw [enc_big (by decide), enc_small (by decide)]; rfl
theorem numL_300 : numL 300 = [172, 2] := enc_300
theorem numE_300 : numE 300 = 0 := rfl
theorem sgnL_m1 : sgnL (-1) = [1] := by
  show enc 1 = [1]
  exact enc_small (by decide)
theorem sgnE_m1 : sgnE (-1) = 0 := rfl
theorem rdN_a : rdN [172, 2, 9] = (300, 2, 0) := by decide
theorem rdN_b : rdN [128, 0] = (0, 0, 200) := by decide

end Go.Proofs.Ytilhmlapbifbbaa
