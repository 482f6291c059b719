/- Walks: the reference's small functions, crossing, plane, corner. -/
import Derived.Test.YtjiklfffcnfdjaaGreatGq
import Derived.Test.YtjiklfffcnfdjaaGreatGd
import Derived.Test.YtjiklfffcnfdjaaGreatHs
namespace Go.Proofs.YtjiklfffcnfdjaaGreat
open Go.RowKit

def signI (a : Int) : Int := if a < 0 then -1 else if 0 < a then 1 else 0
def crossR (a b n : Int) : Int × Int × Bool := if a = b ∨ n < min a b ∨ max a b < n then (0, 0, false) else if a < b then (n - a, b - a, true) else (a - n, a - b, true)
def withinR (n den lo hi : Int) : Bool := decide (lo * den ≤ n) && decide (n ≤ hi * den)
theorem results_tmp3 {fn : Func} {t u v : Tmp} (h : fn.results = #[.tmp t, .tmp u, .tmp v]) (tmps : Array Value) (P : Program) (w : World) :
    (results fn tmps).run P w = .ok (.tuple #[tmps.getD t undef, tmps.getD u undef, tmps.getD v undef]) w := by
  simp [results, h]
theorem ret_int' {a b : Int} (h : a = b) : Ending.returned (.int .i64 a) = .returned (.int .i64 b) := by rw [h]

theorem sign_any (a : Int) (w : World) : Calls Tryz.prog 111 #[.int .i64 a] w fun e w' => e = .returned (.int .i64 (signI a)) ∧ w' = w := by
  by_cases h : a < 0
  · have H : Hid (signI a = -1) := by show _ = _; unfold signI; rw [if_pos h]
    go_enter Tryz.func111, Tryz.ntmps111
    go_wp2
    go_ret
    exact ⟨ret_int' H.out.symm, rfl⟩
  · by_cases h2 : 0 < a
    · have H : Hid (signI a = 1) := by show _ = _; unfold signI; rw [if_neg h, if_pos h2]
      go_enter Tryz.func111, Tryz.ntmps111
      go_wp2
      go_ret
      exact ⟨ret_int' H.out.symm, rfl⟩
    · have H : Hid (signI a = 0) := by show _ = _; unfold signI; rw [if_neg h, if_neg h2]
      go_enter Tryz.func111, Tryz.ntmps111
      go_wp2
      go_ret
      exact ⟨ret_int' H.out.symm, rfl⟩
theorem abs_any (a : Int) (w : World) (h : -1000000000000 ≤ a ∧ a ≤ 1000000000000) : Calls Tryz.prog 114 #[.int .i64 a] w fun e w' => e = .returned (.int .i64 (a.natAbs : Int)) ∧ w' = w := by
  have hw : IntKind.i64.wrap (-a) = -a := by rw [IntKind.wrap_i64]; omega
  have hw2 : wrap64 (-a) = -a := IntWalk.wrap64_in _ (by omega)
  have H : Hid (max a (-a) = (a.natAbs : Int)) := by show _ = _; omega
  clear h
  go_enter Tryz.func114, Tryz.ntmps114
  go_upto_region 1 with fail
  go_wp2
  all_goals
    go_ret
    refine ⟨ret_int' ?_, rfl⟩
    have := H.out
    first
      | exact this
      | (simp only [max_ite]; exact this)
      | omega
set_option maxHeartbeats 1000000 in
theorem within_any (n den lo hi : Int) (w : World) (hd : 0 ≤ den ∧ den ≤ 1000000) (h1 : -1000000 ≤ lo ∧ lo ≤ 1000000) (h2 : -1000000 ≤ hi ∧ hi ≤ 1000000) :
    Calls Tryz.prog 77 #[.int .i64 n, .int .i64 den, .int .i64 lo, .int .i64 hi] w fun e w' => e = .returned (.bool (withinR n den lo hi)) ∧ w' = w := by
  have b1 := mulB (x := lo) (y := den) (K := 1000000) (L := 1000000) h1 (by omega)
  have b2 := mulB (x := hi) (y := den) (K := 1000000) (L := 1000000) h2 (by omega)
  have w1 : IntKind.i64.wrap (lo * den) = lo * den := by rw [IntKind.wrap_i64]; omega
  have w2 : IntKind.i64.wrap (hi * den) = hi * den := by rw [IntKind.wrap_i64]; omega
  by_cases h : lo * den ≤ n
  · have H : Hid (withinR n den lo hi = decide (n ≤ hi * den)) := by show _ = _; unfold withinR; rw [decide_eq_true h]; rfl
    clear b1 b2 hd h1 h2
    go_enter Tryz.func77, Tryz.ntmps77
    go_wp2
    go_ret
    exact ⟨ret_bool H.out.symm, rfl⟩
  · have H : Hid (withinR n den lo hi = false) := by show _ = _; unfold withinR; rw [decide_eq_false h]; rfl
    clear b1 b2 hd h1 h2
    go_enter Tryz.func77, Tryz.ntmps77
    go_wp2
    go_ret
    exact ⟨ret_bool H.out.symm, rfl⟩

theorem gcd_stepR {a b : Int} (ha : 0 ≤ a) (hb : 0 < b) : Int.gcd b (a.tmod b) = Int.gcd a b := by
  rw [Int.tmod_eq_emod_of_nonneg ha]
  obtain ⟨n, rfl⟩ := Int.eq_ofNat_of_zero_le ha
  obtain ⟨k, rfl⟩ := Int.eq_ofNat_of_zero_le (Int.le_of_lt hb)
  show Nat.gcd k (n % k) = Nat.gcd n k
  rw [Nat.gcd_comm n k, Nat.gcd_rec k n, Nat.gcd_comm]
set_option maxHeartbeats 1000000 in
theorem greatest_any (a b : Int) (w : World) (ha : 0 ≤ a ∧ a ≤ 1000000000000) (hb : 0 ≤ b ∧ b ≤ 1000000000000) :
    Calls Tryz.prog 113 #[.int .i64 a, .int .i64 b] w fun e w' => e = .returned (.int .i64 (Int.gcd a b : Int)) ∧ w' = w := by
  obtain ⟨r, hr⟩ : ∃ r : Nat, Hid (r = Int.gcd a b) := ⟨_, rfl⟩
  rw [← hr.out]
  go_enter Tryz.func113, Tryz.ntmps113
  go_wp2_with fail
  go_loopw [0, 1] (fun s0 s1 wr => ∃ p q : Int, s0 = .int .i64 p ∧ s1 = .int .i64 q ∧ (0 ≤ p ∧ p ≤ 1000000000000) ∧ (0 ≤ q ∧ q ≤ 1000000000000) ∧ Hid (Int.gcd p q = r) ∧ wr = w) (fun _ s1 _ => (intOf s1).toNat)
  case atStart => exact ⟨a, b, rfl, rfl, ha, hb, hr.out.symm, rfl⟩
  case round =>
    obtain ⟨p, q, rfl, rfl, hp, hq, HG, rfl⟩ := hrel
    by_cases h0 : q = 0
    · subst h0
      have HG2 : Hid ((r : Int) = p) := by
        show _ = _
        have := HG.out
        rw [Int.gcd_zero_right] at this
        omega
      clear hp hq ha hb
      go_wp2
      go_ret
      exact ⟨ret_int' HG2.out.symm, rfl⟩
    · have hq0 : 0 < q := by omega
      have m1 := Int.tmod_lt_of_pos p hq0
      have m2 := Int.tmod_nonneg (a := p) q hp.1
      have HG2 : Hid (Int.gcd q (p.tmod q) = r) := by show _ = _; rw [gcd_stepR hp.1 hq0]; exact HG.out
      have hq2 := hq.2
      have hne : (q != 0) = true := by simpa using h0
      clear HG
      obtain ⟨s, hs⟩ : ∃ s, s = p.tmod q := ⟨_, rfl⟩
      rw [← hs] at m1 m2 HG2
      have hs2 : p.tmod q = s := hs.symm
      clear hs ha hb hp hq
      go_wp2
      go_roundw
      case rel => exact ⟨q, s, rfl, by first | rfl | (simp only [hs2]), by omega, by omega, HG2, by first | trivial | rfl⟩
      case measure => simp [intOf]; omega

theorem refin_any (n : Int) (w : World) (h : -2305843009213693952 ≤ n ∧ n ≤ 2305843009213693952) :
    Calls Tryz.prog 79 #[.int .i64 n, .int .i64 (-2305843009213693952), .int .i64 2305843009213693952] w fun e w' => e = .returned (.int .i64 n) ∧ w' = w := by
  have h1 : ¬ n < -2305843009213693952 := by omega
  have h2 : ¬ 2305843009213693952 < n := by omega
  clear h
  go_enter Tryz.func79, Tryz.ntmps79
  go_wp2
  all_goals
    go_ret
    refine ⟨ret_int' ?_, rfl⟩
    first
      | rfl
      | omega
      | (simp only [min_ite, max_ite]; omega)
theorem floor_q {a b : Int} (hb : 0 < b) : (a.tdiv b * b = a → a / b = a.tdiv b) ∧ (a.tdiv b * b ≠ a → a < 0 → a / b = a.tdiv b - 1) ∧ (0 ≤ a → a / b = a.tdiv b) := by
  refine ⟨fun h => ?_, fun h h0 => ?_, fun h => ?_⟩
  · conv => lhs; rw [← h]
    exact Int.mul_ediv_cancel _ (by omega)
  · have e := Int.tdiv_eq_ediv (a := a) (b := b)
    rw [e]
    have hn : ¬ b ∣ a := fun hd => h (Int.tdiv_mul_cancel hd)
    have hs : b.sign = 1 := Int.sign_eq_one_of_pos hb
    rw [if_neg (by intro hh; rcases hh with hh | hh; · omega
                   · exact hn hh), hs]
    omega
  · exact (Int.tdiv_eq_ediv_of_nonneg h).symm
theorem tdiv_mul_bound {a b : Int} (h0 : 0 ≤ a) (hb : 0 < b) : 0 ≤ a.tdiv b * b ∧ a.tdiv b * b ≤ a := by
  rw [Int.tdiv_eq_ediv_of_nonneg h0]
  exact ⟨Int.mul_nonneg (Int.ediv_nonneg h0 (by omega)) (by omega), Int.ediv_mul_le a (by omega)⟩
set_option maxHeartbeats 2000000 in
theorem reffloor_any (a b : Int) (w : World) (ha : -1000000000000 ≤ a ∧ a ≤ 1000000000000) (hb : 0 < b ∧ b ≤ 1000000000000) :
    Calls Tryz.prog 58 #[.int .i64 a, .int .i64 b] w fun e w' => e = .returned (.tuple #[.int .i64 (floorI a b), .int .i64 0]) ∧ w' = w := by
  have IA := Lib.hid (fun W => refin_any a W (by omega))
  have IB := Lib.hid (fun W => refin_any b W (by omega))
  have hb0 : ¬ b = 0 := by omega
  have hb1 : ¬ b < 0 := by omega
  obtain ⟨f1, f2, f3⟩ := floor_q (a := a) hb.1
  have q1 : -1000000000000 ≤ floorI a b ∧ floorI a b ≤ 1000000000000 := ediv_bound hb.1 ha.1 ha.2
  obtain ⟨r, hr⟩ : ∃ r, Hid (r = floorI a b) := ⟨_, rfl⟩
  rw [← hr.out]
  have hrr : r = a / b := hr.out
  rw [← hrr] at f1 f2 f3
  rw [← hr.out] at q1
  obtain ⟨t, ht⟩ : ∃ t, t = a.tdiv b := ⟨_, rfl⟩
  have ht2 : a.tdiv b = t := ht.symm
  rw [ht2] at f1 f2 f3
  have hab : t * b ≤ 1000000000000 ∧ -1000000000000 ≤ t * b := by
    by_cases h0 : 0 ≤ a
    · have := tdiv_mul_bound h0 hb.1
      rw [ht2] at this
      omega
    · have := tdiv_mul_bound (a := -a) (by omega) hb.1
      rw [Int.neg_tdiv, ht2, Int.neg_mul] at this
      omega
  have w1 : IntKind.i64.wrap (t * b) = t * b := by rw [IntKind.wrap_i64]; omega
  have w2 : IntKind.i64.wrap t = t := by
    rw [IntKind.wrap_i64]
    by_cases h0 : 0 ≤ a
    · have := f3 h0; omega
    · by_cases h1 : t * b = a
      · have := f1 h1; omega
      · have := f2 h1 (by omega); omega
  have w3 : IntKind.i64.wrap (t - 1) = t - 1 := by
    rw [IntKind.wrap_i64]
    by_cases h0 : 0 ≤ a
    · have := f3 h0; omega
    · by_cases h1 : t * b = a
      · have := f1 h1; omega
      · have := f2 h1 (by omega); omega
  have db : decide (b < 0) = false := decide_eq_false hb1
  have wa : IntKind.i64.wrap a = a := by rw [IntKind.wrap_i64]; omega
  have wa' : wrap64 a = a := IntWalk.wrap64_in _ (by omega)
  clear hrr q1 hab ht ha
  by_cases e1 : t * b = a
  · have HR : Hid (r = t) := f1 e1
    have e1' : (t * b != a) = false := by simpa using e1
    clear f1 f2 f3 hr
    go_enter Tryz.func58, Tryz.ntmps58
    go_wp2_with fail
    refine (IA.out _).mono ?_
    rintro e w1 ⟨rfl, rfl⟩
    go_wp2_with fail
    refine (IB.out _).mono ?_
    rintro e w1 ⟨rfl, rfl⟩
    go_wp2
    go_ret2
    exact ⟨by rw [HR.out]; rfl, rfl⟩
  · have e1' : (t * b != a) = true := by simpa using e1
    by_cases e2 : a < 0
    · have HR : Hid (r = t - 1) := f2 e1 e2
      clear f1 f2 f3 hr
      go_enter Tryz.func58, Tryz.ntmps58
      go_wp2_with fail
      refine (IA.out _).mono ?_
      rintro e w1 ⟨rfl, rfl⟩
      go_wp2_with fail
      refine (IB.out _).mono ?_
      rintro e w1 ⟨rfl, rfl⟩
      go_wp2
      go_ret2
      exact ⟨by rw [HR.out]; rfl, rfl⟩
    · have HR : Hid (r = t) := f3 (by omega)
      have da : decide (a < 0) = false := decide_eq_false e2
      clear f1 f2 f3 hr
      go_enter Tryz.func58, Tryz.ntmps58
      go_wp2_with fail
      refine (IA.out _).mono ?_
      rintro e w1 ⟨rfl, rfl⟩
      go_wp2_with fail
      refine (IB.out _).mono ?_
      rintro e w1 ⟨rfl, rfl⟩
      go_wp2
      go_ret2
      exact ⟨by rw [HR.out]; rfl, rfl⟩

set_option maxHeartbeats 1000000 in
theorem refceil_any (a b : Int) (w : World) (ha : -1000000000000 ≤ a ∧ a ≤ 1000000000000) (hb : 0 < b ∧ b ≤ 1000000000000) :
    Calls Tryz.prog 59 #[.int .i64 a, .int .i64 b] w fun e w' => e = .returned (.tuple #[.int .i64 (ceilI a b), .int .i64 0]) ∧ w' = w := by
  have IA := Lib.hid (fun W => refin_any a W (by omega))
  have IB := Lib.hid (fun W => refin_any b W (by omega))
  have FA := Lib.hid (fun W => reffloor_any (-a) b W (by omega) hb)
  have q1 : -1000000000000 ≤ floorI (-a) b ∧ floorI (-a) b ≤ 1000000000000 := ediv_bound hb.1 (by omega) (by omega)
  have hr : Hid (ceilI a b = -floorI (-a) b) := rfl
  rw [hr.out]
  generalize floorI (-a) b = r at FA q1
  clear hr
  go_enter Tryz.func59, Tryz.ntmps59
  go_wp2_with fail
  refine (IA.out _).mono ?_
  rintro e w1 ⟨rfl, rfl⟩
  go_wp2_with fail
  refine (IB.out _).mono ?_
  rintro e w1 ⟨rfl, rfl⟩
  go_wp2_with fail
  refine (FA.out _).mono ?_
  rintro e w1 ⟨rfl, rfl⟩
  go_wp2
  go_ret2
  exact ⟨rfl, rfl⟩
end Go.Proofs.YtjiklfffcnfdjaaGreat

namespace Go.Proofs.YtjiklfffcnfdjaaGreat
open Go.RowKit
attribute [local go_sem] Instr.index

set_option maxHeartbeats 2000000 in
theorem crossing_any (a b n : Int) (w : World) (ha : -100 ≤ a ∧ a ≤ 100) (hb : -100 ≤ b ∧ b ≤ 100) (_hn : -100 ≤ n ∧ n ≤ 100) :
    Calls Tryz.prog 78 #[.int .i64 a, .int .i64 b, .int .i64 n] w fun e w' => e = .returned (.tuple #[.int .i64 (crossR a b n).1, .int .i64 (crossR a b n).2.1, .bool (crossR a b n).2.2]) ∧ w' = w := by
  obtain ⟨r, hr⟩ : ∃ r, r = crossR a b n := ⟨_, rfl⟩
  rw [← hr]
  by_cases h1 : a = b
  · have e : r = (0, 0, false) := by rw [hr]; unfold crossR; rw [if_pos (.inl h1)]
    clear hr
    subst e h1
    clear ha hb _hn
    go_enter Tryz.func78, Tryz.ntmps78
    go_wp2
    ((try simp only [Exit.inBlock, Exit.then]); refine bodyPost_ret (results_tmp3 rfl _ _ _) rfl ?_)
    exact ⟨rfl, rfl⟩
  rcases Int.lt_or_le a b with h2 | h2
  · have h3 : ¬ b < a := by omega
    have e1 : min a b = a := by omega
    have e2 : max a b = b := by omega
    by_cases h4 : n < a
    · have e : r = (0, 0, false) := by rw [hr]; unfold crossR; rw [if_pos (.inr (.inl (by omega)))]
      clear hr
      subst e
      clear ha hb _hn
      go_enter Tryz.func78, Tryz.ntmps78
      go_wp2
      ((try simp only [Exit.inBlock, Exit.then]); refine bodyPost_ret (results_tmp3 rfl _ _ _) rfl ?_)
      exact ⟨rfl, rfl⟩
    by_cases h5 : b < n
    · have e : r = (0, 0, false) := by rw [hr]; unfold crossR; rw [if_pos (.inr (.inr (by omega)))]
      clear hr
      subst e
      clear ha hb _hn
      go_enter Tryz.func78, Tryz.ntmps78
      go_wp2
      ((try simp only [Exit.inBlock, Exit.then]); refine bodyPost_ret (results_tmp3 rfl _ _ _) rfl ?_)
      exact ⟨rfl, rfl⟩
    have e : r = (n - a, b - a, true) := by rw [hr]; unfold crossR; rw [if_neg (by omega), if_pos h2]
    clear hr
    subst e
    go_enter Tryz.func78, Tryz.ntmps78
    go_wp2
    ((try simp only [Exit.inBlock, Exit.then]); refine bodyPost_ret (results_tmp3 rfl _ _ _) rfl ?_)
    exact ⟨rfl, rfl⟩
  · have h3 : b < a := by omega
    have h3' : ¬ a < b := by omega
    have e1 : min a b = b := by omega
    have e2 : max a b = a := by omega
    by_cases h4 : n < b
    · have e : r = (0, 0, false) := by rw [hr]; unfold crossR; rw [if_pos (.inr (.inl (by omega)))]
      clear hr
      subst e
      clear ha hb _hn
      go_enter Tryz.func78, Tryz.ntmps78
      go_wp2
      ((try simp only [Exit.inBlock, Exit.then]); refine bodyPost_ret (results_tmp3 rfl _ _ _) rfl ?_)
      exact ⟨rfl, rfl⟩
    by_cases h5 : a < n
    · have e : r = (0, 0, false) := by rw [hr]; unfold crossR; rw [if_pos (.inr (.inr (by omega)))]
      clear hr
      subst e
      clear ha hb _hn
      go_enter Tryz.func78, Tryz.ntmps78
      go_wp2
      ((try simp only [Exit.inBlock, Exit.then]); refine bodyPost_ret (results_tmp3 rfl _ _ _) rfl ?_)
      exact ⟨rfl, rfl⟩
    have e : r = (a - n, a - b, true) := by rw [hr]; unfold crossR; rw [if_neg (by omega), if_neg (by omega)]
    clear hr
    subst e
    go_enter Tryz.func78, Tryz.ntmps78
    go_wp2
    ((try simp only [Exit.inBlock, Exit.then]); refine bodyPost_ret (results_tmp3 rfl _ _ _) rfl ?_)
    exact ⟨rfl, rfl⟩

/-- A triangle's corners as a value. -/
abbrev vsA (a b c : V3) : Value := .agg #[.int .i64 a.x, .int .i64 a.y, .int .i64 a.z, .int .i64 b.x, .int .i64 b.y, .int .i64 b.z, .int .i64 c.x, .int .i64 c.y, .int .i64 c.z]
def planeY (a b c : V3) (S : Int) (p : Sp) : Int :=
  a.y * S * p.d + ((b.y - a.y) * (c.z - a.z) - (c.y - a.y) * (b.z - a.z)) * (p.x - a.x * p.d) + ((c.y - a.y) * (b.x - a.x) - (b.y - a.y) * (c.x - a.x)) * (p.z - a.z * p.d)
def planeR (a b c : V3) (p : Sp) : Int × Int := if flatS a b c < 0 then (-planeY a b c (flatS a b c) p, -flatS a b c * p.d) else (planeY a b c (flatS a b c) p, flatS a b c * p.d)
theorem flat_any (a b c : V3) (w : World) (ha : vOk a = true) (hb : vOk b = true) (hc : vOk c = true) :
    Calls Tryz.prog 56 #[vsA a b c] w fun e w' => e = .returned (.int .i64 (flatS a b c)) ∧ Below w.heap.size w w' := by
  rw [vOk_iff] at ha hb hc
  exact refflat_any ⟨0, ⟨a.x, a.y, a.z⟩, ⟨b.x, b.y, b.z⟩, ⟨c.x, c.y, c.z⟩⟩ w (by unfold smallT; simp only; omega)
set_option maxRecDepth 100000 in
set_option maxHeartbeats 8000000 in
theorem plane_any (a b c : V3) (p : Sp) (w : World) (ha : vOk a = true) (hb : vOk b = true) (hc : vOk c = true) (hp : SpSmall p) :
    Calls Tryz.prog 112 #[vsA a b c, .int .i64 p.x, .int .i64 p.z, .int .i64 p.d] w fun e w' => e = .returned (.tuple #[.int .i64 (planeR a b c p).1, .int .i64 (planeR a b c p).2]) ∧ Below w.heap.size w w' := by
  have FL := Lib.hid (fun W => flat_any a b c W ha hb hc)
  have hs := flat_small ha hb hc
  have HR : Hid (planeR a b c p = if flatS a b c < 0 then (-planeY a b c (flatS a b c) p, -flatS a b c * p.d) else (planeY a b c (flatS a b c) p, flatS a b c * p.d)) := rfl
  generalize planeR a b c p = r at HR ⊢
  generalize flatS a b c = S at FL hs HR
  have HY : Hid (planeY a b c S p = a.y * S * p.d + ((b.y - a.y) * (c.z - a.z) - (c.y - a.y) * (b.z - a.z)) * (p.x - a.x * p.d) + ((c.y - a.y) * (b.x - a.x) - (b.y - a.y) * (c.x - a.x)) * (p.z - a.z * p.d)) := rfl
  generalize planeY a b c S p = Y at HR HY
  rw [vOk_iff] at ha hb hc
  obtain ⟨p1, p2, p3, p4, p5, p6⟩ := hp
  have m1 := mulB (x := b.y - a.y) (y := c.z - a.z) (K := 4096) (L := 32) (by omega) (by omega)
  have m2 := mulB (x := c.y - a.y) (y := b.z - a.z) (K := 4096) (L := 32) (by omega) (by omega)
  have m3 := mulB (x := c.y - a.y) (y := b.x - a.x) (K := 4096) (L := 32) (by omega) (by omega)
  have m4 := mulB (x := b.y - a.y) (y := c.x - a.x) (K := 4096) (L := 32) (by omega) (by omega)
  have m5 := mulB (x := a.y) (y := S) (K := 2048) (L := 2048) (by omega) (by omega)
  have m6 := mulB (x := a.y * S) (y := p.d) (K := 4194304) (L := 32) (by omega) (by omega)
  have m7 := mulB (x := a.x) (y := p.d) (K := 32) (L := 32) (by omega) (by omega)
  have m8 := mulB (x := a.z) (y := p.d) (K := 32) (L := 32) (by omega) (by omega)
  have m9 := mulB (x := (b.y - a.y) * (c.z - a.z) - (c.y - a.y) * (b.z - a.z)) (y := p.x - a.x * p.d) (K := 262144) (L := 6024) (by omega) (by omega)
  have m10 := mulB (x := (c.y - a.y) * (b.x - a.x) - (b.y - a.y) * (c.x - a.x)) (y := p.z - a.z * p.d) (K := 262144) (L := 6024) (by omega) (by omega)
  have m11 := mulB (x := S) (y := p.d) (K := 2048) (L := 32) (by omega) (by omega)
  have m12 := mulB (x := -S) (y := p.d) (K := 2048) (L := 32) (by omega) (by omega)
  have hB : Below w.heap.size w (w.alloc (.cells #[.int .i64 a.x, .int .i64 a.y, .int .i64 a.z, .int .i64 b.x, .int .i64 b.y, .int .i64 b.z, .int .i64 c.x, .int .i64 c.y, .int .i64 c.z] 75)) := (Below.refl _ _).alloc (Nat.le_refl _) _
  have hI := World.alloc_heap_new w (.cells #[.int .i64 a.x, .int .i64 a.y, .int .i64 a.z, .int .i64 b.x, .int .i64 b.y, .int .i64 b.z, .int .i64 c.x, .int .i64 c.y, .int .i64 c.z] 75)
  obtain ⟨ax, ay, az⟩ := a
  obtain ⟨bx, by_, bz⟩ := b
  obtain ⟨cx, cy, cz⟩ := c
  obtain ⟨px, pz, pd⟩ := p
  simp only at ha hb hc p1 p2 p3 p4 p5 p6 m1 m2 m3 m4 m5 m6 m7 m8 m9 m10 m11 m12 FL HR HY hB hI
  go_enter Tryz.func112, Tryz.ntmps112
  go_wp2_with fail
  refine (FL.out _).mono ?_
  rintro e w1 ⟨rfl, hb1⟩
  have hB1 := hB.trans (hb1.mono hB.size)
  have hI1 := hkeep hb1 hI
  have k0 := hcell (k := 0) (v := .int .i64 ax) hI1 rfl
  have k1 := hcell (k := 1) (v := .int .i64 ay) hI1 rfl
  have k2 := hcell (k := 2) (v := .int .i64 az) hI1 rfl
  have k3 := hcell (k := 3) (v := .int .i64 bx) hI1 rfl
  have k4 := hcell (k := 4) (v := .int .i64 by_) hI1 rfl
  have k5 := hcell (k := 5) (v := .int .i64 bz) hI1 rfl
  have k6 := hcell (k := 6) (v := .int .i64 cx) hI1 rfl
  have k7 := hcell (k := 7) (v := .int .i64 cy) hI1 rfl
  have k8 := hcell (k := 8) (v := .int .i64 cz) hI1 rfl
  clear hB hb1 hI FL hI1
  by_cases hneg : S < 0
  · have e := HR.out
    rw [if_pos hneg] at e
    have HE := Lib.hid e
    clear e HR
    go_wp2
    go_ret2
    exact ⟨by rw [HE.out, HY.out]; rfl, hB1⟩
  · have e := HR.out
    rw [if_neg hneg] at e
    have HE := Lib.hid e
    clear e HR
    go_wp2
    go_ret2
    exact ⟨by rw [HE.out, HY.out]; rfl, hB1⟩
end Go.Proofs.YtjiklfffcnfdjaaGreat

namespace Go.Proofs.YtjiklfffcnfdjaaGreat

theorem plane_raw {a b c : V3} {t : T3} (ho : openT a b c = (t, true)) (p : Sp) : planeR a b c p = ((rawT t p).y, (rawT t p).d) := by
  unfold openT at ho
  unfold planeR
  split at ho
  · split at ho
    · rename_i h
      rw [if_pos h]
      cases ho
      refine Prod.ext ?_ rfl
      simp only [planeY, rawT, nxT, nzT, crossI]
      grind
    · rename_i h
      rw [if_neg h]
      rw [Prod.mk.injEq] at ho
      obtain ⟨rfl, _⟩ := ho
      refine Prod.ext ?_ rfl
      simp only [planeY, rawT, nxT, nzT, crossI]
      grind
  · cases ho
theorem gcd_four (x z y d : Int) : Int.gcd (Int.gcd (x.natAbs : Int) (z.natAbs : Int) : Int) (Int.gcd (y.natAbs : Int) d : Int) = Int.gcd (Int.gcd (Int.gcd d x : Int) z : Int) y := by
  simp only [Int.gcd, Int.natAbs_natCast]
  rw [Nat.gcd_comm y.natAbs, Nat.gcd_assoc d.natAbs x.natAbs z.natAbs, Nat.gcd_comm d.natAbs (x.natAbs.gcd z.natAbs), Nat.gcd_assoc, Nat.gcd_assoc, Nat.gcd_assoc]
theorem raw_bound {a b c : V3} {t : T3} (ho : openT a b c = (t, true)) {p : Sp} (hp : SpSmall p) (h : vOk a = true ∧ vOk b = true ∧ vOk c = true) (hs : 0 < t.s ∧ t.s ≤ 2048) : -10000000000 ≤ (rawT t p).y ∧ (rawT t p).y ≤ 10000000000 := by
  have e := plane_raw ho p
  have hS : flatS a b c = t.s ∨ flatS a b c = -t.s := by
    unfold openT at ho
    split at ho
    · split at ho
      · cases ho; right; simp only; omega
      · rw [Prod.mk.injEq] at ho; obtain ⟨rfl, _⟩ := ho; left; rfl
    · cases ho
  obtain ⟨ha, hb, hc⟩ := h
  have hv : ∀ v : V3, vOk v = true → (0 ≤ v.x ∧ v.x ≤ 32) ∧ (0 ≤ v.z ∧ v.z ≤ 32) ∧ -2048 ≤ v.y ∧ v.y ≤ 2048 := by
    intro v h
    unfold vOk at h
    simp only [Bool.and_eq_true, decide_eq_true_eq] at h
    omega
  have ha := hv _ ha
  have hb := hv _ hb
  have hc := hv _ hc
  obtain ⟨p1, p2, p3, p4, p5, p6⟩ := hp
  have hy : ∀ S : Int, -2048 ≤ S ∧ S ≤ 2048 → -5000000000 ≤ planeY a b c S p ∧ planeY a b c S p ≤ 5000000000 := by
    intro S hS
    have m1 := mulB (x := b.y - a.y) (y := c.z - a.z) (K := 4096) (L := 32) (by omega) (by omega)
    have m2 := mulB (x := c.y - a.y) (y := b.z - a.z) (K := 4096) (L := 32) (by omega) (by omega)
    have m3 := mulB (x := c.y - a.y) (y := b.x - a.x) (K := 4096) (L := 32) (by omega) (by omega)
    have m4 := mulB (x := b.y - a.y) (y := c.x - a.x) (K := 4096) (L := 32) (by omega) (by omega)
    have m5 := mulB (x := a.y) (y := S) (K := 2048) (L := 2048) (by omega) (by omega)
    have m6 := mulB (x := a.y * S) (y := p.d) (K := 4194304) (L := 32) (by omega) (by omega)
    have m7 := mulB (x := a.x) (y := p.d) (K := 32) (L := 32) (by omega) (by omega)
    have m8 := mulB (x := a.z) (y := p.d) (K := 32) (L := 32) (by omega) (by omega)
    have m9 := mulB (x := (b.y - a.y) * (c.z - a.z) - (c.y - a.y) * (b.z - a.z)) (y := p.x - a.x * p.d) (K := 262144) (L := 6024) (by omega) (by omega)
    have m10 := mulB (x := (c.y - a.y) * (b.x - a.x) - (b.y - a.y) * (c.x - a.x)) (y := p.z - a.z * p.d) (K := 262144) (L := 6024) (by omega) (by omega)
    unfold planeY
    omega
  have h2 := hy (flatS a b c) (by omega)
  have e1 : (planeR a b c p).1 = (rawT t p).y := by rw [e]
  rw [← e1]
  unfold planeR
  split
  · show _ ≤ -planeY a b c (flatS a b c) p ∧ -planeY a b c (flatS a b c) p ≤ _
    omega
  · show _ ≤ planeY a b c (flatS a b c) p ∧ planeY a b c (flatS a b c) p ≤ _
    omega
theorem open_vok {a b c : V3} {t : T3} (ho : openT a b c = (t, true)) : vOk a = true ∧ vOk b = true ∧ vOk c = true := by
  unfold openT at ho
  by_cases h : (vOk a && vOk b && vOk c) = true
  · simpa [Bool.and_eq_true, and_assoc] using h
  · rw [if_neg h] at ho; cases ho
end Go.Proofs.YtjiklfffcnfdjaaGreat

namespace Go.Proofs.YtjiklfffcnfdjaaGreat
open Go.RowKit
attribute [local go_sem] Instr.index

set_option maxRecDepth 100000 in
set_option maxHeartbeats 8000000 in
theorem refcorner_any (a b c : V3) (t : T3) (p : Sp) (w : World) (ho : openT a b c = (t, true)) (hp : SpSmall p) (hd : 0 < p.d) :
    Calls Tryz.prog 76 #[vsA a b c, .int .i64 p.x, .int .i64 p.z, .int .i64 p.d] w fun e w' => e = .returned (crA (liftT t p)) ∧ Below w.heap.size w w' := by
  obtain ⟨va, vb, vc⟩ := open_vok ho
  obtain ⟨_, _, _, hs1, hs2⟩ := open_ok ho
  have PL := Lib.hid (fun W => plane_any a b c p W va vb vc hp)
  rw [plane_raw ho p] at PL
  have hyb := raw_bound ho hp ⟨va, vb, vc⟩ ⟨hs1, hs2⟩
  obtain ⟨p1, p2, p3, p4, p5, p6⟩ := hp
  have m1 := mulB (x := p.x) (y := t.s) (K := 5000) (L := 2048) (by omega) (by omega)
  have m2 := mulB (x := p.z) (y := t.s) (K := 5000) (L := 2048) (by omega) (by omega)
  have m3 := mulB (x := t.s) (y := p.d) (K := 2048) (L := 32) (by omega) (by omega)
  have hdp : 0 < t.s * p.d := Int.mul_pos hs1 hd
  have hk : (t.s * p.d).tdiv p.d = t.s := Int.mul_tdiv_cancel _ (by omega)
  have HL : Hid (liftT t p = lowC ⟨p.x * t.s, p.z * t.s, (rawT t p).y, t.s * p.d⟩) := rfl
  have er : (rawT t p).d = t.s * p.d := rfl
  rw [er] at PL
  generalize (rawT t p).y = ry at PL HL hyb
  generalize liftT t p = lf at HL ⊢
  generalize t.s = s at *
  clear ho va vb vc er
  have A1 := Lib.hid (fun W => abs_any (p.x * s) W (by omega))
  have A2 := Lib.hid (fun W => abs_any (p.z * s) W (by omega))
  have A3 := Lib.hid (fun W => abs_any ry W (by omega))
  have G1 := Lib.hid (fun W => greatest_any ((p.x * s).natAbs : Int) ((p.z * s).natAbs : Int) W (by omega) (by omega))
  have G2 := Lib.hid (fun W => greatest_any (ry.natAbs : Int) (s * p.d) W (by omega) (by omega))
  have gb : ∀ u v : Int, (0 ≤ u ∧ u ≤ 10000000000) → (0 ≤ v ∧ v ≤ 10000000000) → (0 ≤ (Int.gcd u v : Int) ∧ (Int.gcd u v : Int) ≤ 20000000000) := by
    intro u v hu hv
    rcases Int.lt_or_le 0 u with h | h
    · have := Int.le_of_dvd h (Int.gcd_dvd_left u v)
      omega
    · obtain rfl : u = 0 := by omega
      rw [Int.gcd_zero_left]
      omega
  have G3 := Lib.hid (fun W => greatest_any (Int.gcd ((p.x * s).natAbs : Int) ((p.z * s).natAbs : Int) : Int) (Int.gcd (ry.natAbs : Int) (s * p.d) : Int) W (by have := gb ((p.x * s).natAbs : Int) ((p.z * s).natAbs : Int) (by omega) (by omega); omega) (by have := gb (ry.natAbs : Int) (s * p.d) (by omega) (by omega); omega))
  rw [gcd_four] at G3
  have hK : 0 < ((Int.gcd (Int.gcd (Int.gcd (s * p.d) (p.x * s) : Int) (p.z * s) : Int) ry : Nat) : Int) := gcd_pos (c := ⟨p.x * s, p.z * s, ry, s * p.d⟩) hdp
  obtain ⟨K3, hK3⟩ : ∃ K : Int, K = ((Int.gcd (Int.gcd (Int.gcd (s * p.d) (p.x * s) : Int) (p.z * s) : Int) ry : Nat) : Int) := ⟨_, rfl⟩
  have HE : Hid (lf = ⟨(p.x * s).tdiv K3, (p.z * s).tdiv K3, ry.tdiv K3, (s * p.d).tdiv K3⟩) := by show _ = _; rw [HL.out, hK3]; rfl
  rw [← hK3] at G3 hK
  clear hK3 HL gb
  generalize (Int.gcd ((p.x * s).natAbs : Int) ((p.z * s).natAbs : Int) : Int) = g1 at G1 G3
  generalize (Int.gcd (ry.natAbs : Int) (s * p.d) : Int) = g2 at G2 G3
  have hK0 : ¬ K3 = 0 := by omega
  have t0 := tdiv_bound (x := p.x * s) (K := K3) (M := 10000000000) (by omega) (by omega) (by omega)
  have t1 := tdiv_bound (x := p.z * s) (K := K3) (M := 10000000000) (by omega) (by omega) (by omega)
  have t2 := tdiv_bound (x := ry) (K := K3) (M := 10000000000) (by omega) (by omega) (by omega)
  have t3 := tdiv_bound (x := s * p.d) (K := K3) (M := 10000000000) (by omega) (by omega) (by omega)
  have hVo := World.alloc_heap_new w (.cells #[.int .i64 a.x, .int .i64 a.y, .int .i64 a.z, .int .i64 b.x, .int .i64 b.y, .int .i64 b.z, .int .i64 c.x, .int .i64 c.y, .int .i64 c.z] 75)
  have hV := halloc hVo (.cells #[.int .i64 0, .int .i64 0, .int .i64 0, .int .i64 0] 105)
  have hQ := World.alloc_heap_new (w.alloc (.cells #[.int .i64 a.x, .int .i64 a.y, .int .i64 a.z, .int .i64 b.x, .int .i64 b.y, .int .i64 b.z, .int .i64 c.x, .int .i64 c.y, .int .i64 c.z] 75)) (.cells #[.int .i64 0, .int .i64 0, .int .i64 0, .int .i64 0] 105)
  have hB : Below w.heap.size w ((w.alloc (.cells #[.int .i64 a.x, .int .i64 a.y, .int .i64 a.z, .int .i64 b.x, .int .i64 b.y, .int .i64 b.z, .int .i64 c.x, .int .i64 c.y, .int .i64 c.z] 75)).alloc (.cells #[.int .i64 0, .int .i64 0, .int .i64 0, .int .i64 0] 105)) := ((Below.refl _ _).alloc (Nat.le_refl _) _).alloc (by simp) _
  simp only [World.size_alloc] at hQ
  obtain ⟨ax, ay, az⟩ := a
  obtain ⟨bx, by_, bz⟩ := b
  obtain ⟨cx, cy, cz⟩ := c
  obtain ⟨px, pz, pd⟩ := p
  simp only at *
  have hd1 : ¬ pd < 0 := by omega
  have hd2 : ¬ pd = 0 := by omega
  clear hVo
  go_enter Tryz.func76, Tryz.ntmps76
  go_wp2_with fail
  refine (PL.out _).mono ?_
  rintro e w1 ⟨rfl, hb1⟩
  have hQ1 := hkeep hb1 hQ
  have hB1 := hB.trans (hb1.mono hB.size)
  clear hB hb1 hQ hV PL
  go_wp2_with fail
  refine (A1.out _).mono ?_
  rintro e w2 ⟨rfl, rfl⟩
  go_wp2_with fail
  refine (A2.out _).mono ?_
  rintro e w2 ⟨rfl, rfl⟩
  go_wp2_with fail
  refine (G1.out _).mono ?_
  rintro e w2 ⟨rfl, rfl⟩
  go_wp2_with fail
  refine (A3.out _).mono ?_
  rintro e w2 ⟨rfl, rfl⟩
  go_wp2_with fail
  refine (G2.out _).mono ?_
  rintro e w2 ⟨rfl, rfl⟩
  go_wp2_with fail
  refine (G3.out _).mono ?_
  rintro e w2 ⟨rfl, rfl⟩
  go_wp2_with fail
  refine wp_region_below_tail 17 (by kernel_rfl) (by kernel_rfl) ?_
  simp only [List.take_succ_cons, List.take_zero, List.drop_succ_cons, List.drop_zero]
  repeat (go_big_quiet_step (fail))
  refine wpQuiet_nil ?_
  rintro w8 ⟨⟨dq, osq⟩, hw8⟩
  have hstep : Below w2.heap.size w2 w8 := by rw [hw8]; exact below_regrown w2 dq osq
  clear hw8
  have hQ8 := hkeep hstep hQ1
  have hB8 := hB1.trans (hstep.mono hB1.size)
  clear hstep hQ1 hB1
  have f0 := hfroz (k := 0) hQ8
  have f1 := hfroz (k := 1) hQ8
  have f2 := hfroz (k := 2) hQ8
  have f3 := hfroz (k := 3) hQ8
  have z0 := hcell (k := 0) (v := .int .i64 0) hQ8 rfl
  have z1 := hcell (k := 1) (v := .int .i64 0) hQ8 rfl
  have z2 := hcell (k := 2) (v := .int .i64 0) hQ8 rfl
  have z3 := hcell (k := 3) (v := .int .i64 0) hQ8 rfl
  have hQ9 := box4_set hQ8 (.int .i64 ((px * s).tdiv K3)) (.int .i64 ((pz * s).tdiv K3)) (.int .i64 (ry.tdiv K3)) (.int .i64 ((s * pd).tdiv K3))
  have hB9 := hB8.grown (box4_grown (b := w.heap.size + 1) (.int .i64 ((px * s).tdiv K3)) (.int .i64 ((pz * s).tdiv K3)) (.int .i64 (ry.tdiv K3)) (.int .i64 ((s * pd).tdiv K3))) hB8.size (fun j hj => by cases hj; omega)
  go_wp2
  refine bodyPost_ret (results_cell_row rfl _ _ (w.heap.size + 1) 105 #[.int .i64 ((px * s).tdiv K3), .int .i64 ((pz * s).tdiv K3), .int .i64 (ry.tdiv K3), .int .i64 ((s * pd).tdiv K3)] (0, 0) _ rfl hQ9 Tryz.underlying105 rfl (by kernel_rfl)) rfl ⟨?_, hB9⟩
  rw [HE.out]
end Go.Proofs.YtjiklfffcnfdjaaGreat
